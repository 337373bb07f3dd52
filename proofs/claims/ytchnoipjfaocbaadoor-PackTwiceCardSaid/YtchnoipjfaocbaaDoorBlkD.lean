/- Plain laws of package blocks. -/
import Derived.Test.YtchnoipjfaocbaaDoorBlkW5
namespace Go.Proofs.YtchnoipjfaocbaaDoor
open Go
set_option linter.unusedVariables false
set_option linter.unusedSimpArgs false
set_option maxHeartbeats 3200000
attribute [local irreducible] Code.wp wpList stepK Holds Val wpR Eff Eff0 Code.wpIn wpListIn stepI Exit.then Exit.inBlock bodyPost bodyPostM

def okM (s : Int) (l : List P5) : Prop := (0 ≤ s ∧ s ≤ 4096) ∧ l.length = cntS s
theorem okM.le {s : Int} {l : List P5} (h : okM s l) : l.length ≤ 64 := by
  have := h.1; rw [h.2]; unfold cntS; omega
theorem okM.zero : okM 0 [] := by refine ⟨by decide, by decide⟩
theorem appL_ok {l : List P5} {s : Int} (x : Dl) (h : okM s l) : okM (appL l s x).1 (appL l s x).2 := by
  by_cases hm : mayD l x
  · have := h.1
    rcases hm with ⟨c, h1, h2, h3, h4⟩ | ⟨c, h1⟩ | ⟨c, h1, h2⟩
    · rw [appL_put (.inl ⟨c, h1, h2, h3, h4⟩) c]; refine ⟨by dsimp only; omega, ?_⟩; dsimp only; rw [List.length_set, resS_len]
    · rw [appL_cut (.inr (.inl ⟨c, h1⟩)) c]; exact ⟨h1, resS_len _ _⟩
    · rw [appL_move (.inr (.inr ⟨c, h1, h2⟩)) c]; exact ⟨h.1, by dsimp only; rw [List.length_set]; exact h.2⟩
  · rw [appL, if_neg hm]; exact h
def runD (xs : List Dl) : Int × List P5 := xs.foldl (fun p x => appL p.2 p.1 x) (0, [])
theorem runD_snoc (xs : List Dl) (x : Dl) : runD (xs ++ [x]) = appL (runD xs).2 (runD xs).1 x := by
  unfold runD; rw [List.foldl_append]; rfl
theorem runD_ok (xs : List Dl) : okM (runD xs).1 (runD xs).2 := by
  have h : ∀ (xs : List Dl) (p : Int × List P5), okM p.1 p.2 → okM (xs.foldl (fun p x => appL p.2 p.1 x) p).1 (xs.foldl (fun p x => appL p.2 p.1 x) p).2 := by
    intro xs
    induction xs with
    | nil => exact fun p h => h
    | cons x xs ih => exact fun p h => ih _ (appL_ok x h)
  exact h xs (0, []) okM.zero
theorem res_get (l : List P5) (n j : Nat) : (resS l n).getD j p0 = if j < n then l.getD j p0 else p0 := by
  unfold resS
  simp only [List.getD_eq_getElem?_getD]
  split
  · rw [List.getElem?_take]; split <;> rfl
  · rw [List.getElem?_append]
    split
    · rw [if_pos (by omega)]
    · rw [List.getElem?_replicate]
      rename_i h1 h2
      rw [List.getElem?_eq_none (by omega)]
      split <;> split <;> rfl
theorem at_nat (l : List P5) (j : Nat) : atS l j = l.getD j p0 := by
  unfold atS
  split
  · simp
  · rename_i h
    rw [List.getD_eq_getElem?_getD, List.getElem?_eq_none (by omega)]; rfl
theorem cut_cut (l : List P5) (a b : Nat) (h : a ≤ b) (j : Nat) : atS (resS (resS l a) b) j = if j < a then atS l j else p0 := by
  rw [at_nat, at_nat, res_get, res_get]
  by_cases h1 : j < a
  · rw [if_pos (by omega), if_pos h1]
  · rw [if_neg h1]; split <;> rfl
theorem mayD_cutc (l : List P5) (i a : Int) (h : 0 ≤ a ∧ a ≤ 4096) : mayD l ⟨2, i, 0, a, p0, p0⟩ := .inr (.inl ⟨rfl, h⟩)
theorem cnt_mono {a b : Int} (h : a ≤ b) : cntS a ≤ cntS b := by unfold cntS; omega

theorem mem_ptrsS {l : List P5} {x : P5} : x ∈ ptrsS l ↔ x ∈ l ∧ ¬ x = p0 := by simp [ptrsS]
theorem goneS_spec (l l' : List P5) : (∀ x, x ∈ goneS l l' ↔ x ∈ l ∧ ¬ x = p0 ∧ ¬ x ∈ l') ∧ (goneS l l').Nodup := by
  have h : ∀ (l g : List P5), g.Nodup → (∀ x, x ∈ l.foldl (fun g x => if ¬ x = p0 ∧ ¬ x ∈ l' ∧ ¬ x ∈ g then g ++ [x] else g) g ↔ x ∈ g ∨ (x ∈ l ∧ ¬ x = p0 ∧ ¬ x ∈ l')) ∧ (l.foldl (fun g x => if ¬ x = p0 ∧ ¬ x ∈ l' ∧ ¬ x ∈ g then g ++ [x] else g) g).Nodup := by
    intro l
    induction l with
    | nil => intro g hg; exact ⟨fun x => by simp, hg⟩
    | cons y l ih =>
      intro g hg
      rw [List.foldl_cons]
      by_cases c : ¬ y = p0 ∧ ¬ y ∈ l' ∧ ¬ y ∈ g
      · rw [if_pos c]
        obtain ⟨h1, h2⟩ := ih (g ++ [y]) (by rw [List.nodup_append]; exact ⟨hg, by simp, fun a ha b hb hab => c.2.2 (by simp at hb; subst hb; subst hab; exact ha)⟩)
        refine ⟨fun x => ?_, h2⟩
        rw [h1]
        simp only [List.mem_append, List.mem_cons, List.not_mem_nil, or_false]
        constructor
        · rintro ((h | h) | h)
          · exact .inl h
          · subst h; exact .inr ⟨.inl rfl, c.1, c.2.1⟩
          · exact .inr ⟨.inr h.1, h.2⟩
        · rintro (h | ⟨h | h, h'⟩)
          · exact .inl (.inl h)
          · exact .inl (.inr h)
          · exact .inr ⟨h, h'⟩
      · rw [if_neg c]
        obtain ⟨h1, h2⟩ := ih g hg
        refine ⟨fun x => ?_, h2⟩
        rw [h1]
        constructor
        · rintro (h | h)
          · exact .inl h
          · exact .inr ⟨List.mem_cons_of_mem _ h.1, h.2⟩
        · rintro (h | ⟨h, h'⟩)
          · exact .inl h
          · rcases List.mem_cons.1 h with h | h
            · subst h
              refine .inl (Classical.byContradiction fun hn => c ⟨h'.1, h'.2, hn⟩)
            · exact .inr ⟨h, h'⟩
  obtain ⟨h1, h2⟩ := h l [] (by simp)
  exact ⟨fun x => by have := h1 x; simpa [goneS] using this, h2⟩
theorem appG_spec (l : List P5) (s : Int) (d : Dl) : (∀ x, x ∈ appG l s d ↔ x ∈ l ∧ ¬ x = p0 ∧ ¬ x ∈ (appL l s d).2) ∧ (appG l s d).Nodup ∧ (¬ mayD l d → appG l s d = [] ∧ (appL l s d).2 = l) := by
  by_cases hm : mayD l d
  · rw [appG, if_pos hm]
    obtain ⟨h1, h2⟩ := goneS_spec l (appL l s d).2
    exact ⟨h1, h2, fun h => absurd hm h⟩
  · rw [appG, if_neg hm, appL, if_neg hm]
    exact ⟨fun x => by simp; intro a _; exact a, by simp, fun _ => ⟨rfl, rfl⟩⟩
theorem gone_dec {l l' gn : List P5} {x : P5} (hm : ∀ x, x ∈ gn ↔ x ∈ l ∧ ¬ x = p0 ∧ ¬ x ∈ l') (hx : x ∈ ptrsS l) : (decide (x ∈ ptrsS l') == decide (x ∈ gn)) = false := by
  have h1 := mem_ptrsS.1 hx
  by_cases h : x ∈ l'
  · rw [decide_eq_true (mem_ptrsS.2 ⟨h, h1.2⟩), decide_eq_false (fun h' => ((hm x).1 h').2.2 h)]; rfl
  · rw [decide_eq_false (fun h' => h (mem_ptrsS.1 h').1), decide_eq_true ((hm x).2 ⟨h1.1, h1.2, h⟩)]; rfl
theorem nodup_take {l : List P5} (h : l.Nodup) {k : Nat} (hk : k < l.length) : ¬ l[k] ∈ l.take k := by
  intro h'
  obtain ⟨j, hj, e⟩ := List.getElem_of_mem h'
  rw [List.length_take] at hj
  rw [List.getElem_take] at e
  exact List.pairwise_iff_getElem.1 h j k (by omega) hk (by omega) e
theorem PV.hi {G : Im} {ad : Option Addr} {c : Nat} {xs : List P5} (h : PV G (.slice ad xs.length c) xs) {k : Nat} (hk : k ≤ xs.length) : PV G (.slice ad k c) (xs.take k) :=
  let ⟨L, h1, h2⟩ := h
  ⟨L.take (k * 5), by rw [List.length_take, Nat.min_eq_left hk]; exact h1.hi 5 hk, h2.take k⟩

theorem mayP_0 : mayP p0 := .inl rfl
theorem resS_may {l : List P5} (h : ∀ x ∈ l, mayP x) (n : Nat) : ∀ x ∈ resS l n, mayP x := by
  intro x hx
  unfold resS at hx
  split at hx
  · exact h x (List.mem_of_mem_take hx)
  · rcases List.mem_append.1 hx with hx | hx
    · exact h x hx
    · rw [List.eq_of_mem_replicate hx]; exact mayP_0
theorem set_may {l : List P5} (h : ∀ x ∈ l, mayP x) {t : P5} (ht : mayP t) (n : Nat) : ∀ x ∈ l.set n t, mayP x := by
  intro x hx
  rcases List.mem_or_eq_of_mem_set hx with hx | rfl
  · exact h x hx
  · exact ht
theorem appL_may {l : List P5} {s : Int} (d : Dl) (h : ∀ x ∈ l, mayP x) : ∀ x ∈ (appL l s d).2, mayP x := by
  by_cases hm : mayD l d
  · have hm' := hm
    rcases hm' with ⟨c, _, _, _, hp⟩ | ⟨c, _⟩ | ⟨c, _, _, _, _, _, hp, _⟩
    · rw [appL_put hm c]; exact set_may (resS_may h _) hp _
    · rw [appL_cut hm c]; exact resS_may h _
    · rw [appL_move hm c]; exact set_may h hp _
  · rw [appL, if_neg hm]; exact h
theorem runD_may (xs : List Dl) : ∀ x ∈ (runD xs).2, mayP x := by
  have h : ∀ (xs : List Dl) (p : Int × List P5), (∀ x ∈ p.2, mayP x) → ∀ x ∈ (xs.foldl (fun p x => appL p.2 p.1 x) p).2, mayP x := by
    intro xs
    induction xs with
    | nil => exact fun p h => h
    | cons x xs ih => exact fun p h => ih _ (appL_may x h)
  exact h xs (0, []) (by simp)
theorem at_set {l : List P5} {n : Nat} {a : P5} (h : n < l.length) : atS (l.set n a) n = a := by
  rw [at_nat, List.getD_eq_getElem?_getD, List.getElem?_set_self (by simpa using h)]; rfl
theorem res_set_set (l : List P5) (n k : Nat) (a t : P5) (h : l.length ≤ n) : (resS (l.set k t) n).set k a = (resS l n).set k a := by
  apply List.ext_getElem?
  intro j
  rw [List.getElem?_set, List.getElem?_set]
  rw [resS_len, resS_len]
  by_cases hk : k = j
  · rw [if_pos hk, if_pos hk]
  · rw [if_neg hk, if_neg hk]
    unfold resS
    rw [List.length_set]
    split
    · rw [List.getElem?_take, List.getElem?_take, List.getElem?_set_ne hk]
    · rw [List.getElem?_append, List.getElem?_append, List.length_set, List.getElem?_set_ne hk]
theorem cnt_le {a b : Int} (h : a ≤ b) : cntS a ≤ cntS b := by unfold cntS; omega
theorem race {l : List P5} {s : Int} {n : Nat} {a t o : P5} (hok : okM s l) (hn : n < 64) (ha : mayP a) (ho : atS l n = o) (hne : ¬ o = a) :
    mayD l ⟨1, 2, n, (n : Int) * 64 + 1, a, p0⟩ ∧ atS (appL l s ⟨1, 2, n, (n : Int) * 64 + 1, a, p0⟩).2 n = a ∧
    appL (appL l s ⟨1, 2, n, (n : Int) * 64 + 1, a, p0⟩).2 (appL l s ⟨1, 2, n, (n : Int) * 64 + 1, a, p0⟩).1 ⟨3, 2, n, 0, t, o⟩ = appL l s ⟨1, 2, n, (n : Int) * 64 + 1, a, p0⟩ ∧
    appL (appL l s ⟨3, 2, n, 0, t, o⟩).2 (appL l s ⟨3, 2, n, 0, t, o⟩).1 ⟨1, 2, n, (n : Int) * 64 + 1, a, p0⟩ = appL l s ⟨1, 2, n, (n : Int) * 64 + 1, a, p0⟩ := by
  have hmp : ∀ l' : List P5, mayD l' ⟨1, 2, n, (n : Int) * 64 + 1, a, p0⟩ := fun l' => .inl ⟨rfl, ⟨by dsimp only; omega, by dsimp only; omega⟩, by dsimp only; omega, by dsimp only; omega, ha⟩
  have hin : n < cntS (max s ((n : Int) * 64 + 1)) := by have := put_in s (b := (n : Int)) (s := (n : Int) * 64 + 1) (by omega) (by omega); omega
  have hat : atS (appL l s ⟨1, 2, n, (n : Int) * 64 + 1, a, p0⟩).2 n = a := by
    rw [appL_put (hmp l) rfl]; dsimp only; rw [Int.toNat_natCast]; exact at_set (by rw [resS_len]; exact hin)
  refine ⟨hmp l, hat, ?_, ?_⟩
  · rw [appL, if_neg (fun hm => by
      have h := (mayD_move hm rfl).2.2.2.1
      dsimp only at h
      rw [hat] at h; exact hne h.symm)]
  · by_cases hm : mayD l ⟨3, 2, n, 0, t, o⟩
    · rw [appL_move hm rfl]
      dsimp only
      rw [appL_put (hmp _) rfl, appL_put (hmp _) rfl]
      dsimp only
      rw [Int.toNat_natCast, res_set_set _ _ _ _ _ (by rw [hok.2]; exact cnt_le (by omega))]
    · rw [show appL l s ⟨3, 2, n, 0, t, o⟩ = (s, l) by rw [appL, if_neg hm]]
theorem cel10 {G : Im} {H : Hp} {b : Nat} {e : TypeId} (p0 p1 p2 p3 p4 q0 q1 q2 q3 q4 : Value) :
    (∀ (j : Nat) (u : Value), [p0, p1, p2, p3, p4][j]? = some u → Cel G ((b, Cs [p0, p1, p2, p3, p4, q0, q1, q2, q3, q4] e) :: H) b (0 + (0 : Int).toNat * 5 + j) u) ∧
    (∀ (j : Nat) (u : Value), [q0, q1, q2, q3, q4][j]? = some u → Cel G ((b, Cs [p0, p1, p2, p3, p4, q0, q1, q2, q3, q4] e) :: H) b (0 + (1 : Int).toNat * 5 + j) u) := by
  constructor
  · intro j u hj
    refine Cel.head ?_
    match j, hj with
    | 0, k => exact k
    | 1, k => exact k
    | 2, k => exact k
    | 3, k => exact k
    | 4, k => exact k
    | n + 5, k => simp at k
  · intro j u hj
    refine Cel.head ?_
    match j, hj with
    | 0, k => exact k
    | 1, k => exact k
    | 2, k => exact k
    | 3, k => exact k
    | 4, k => exact k
    | n + 5, k => simp at k


end Go.Proofs.YtchnoipjfaocbaaDoor
