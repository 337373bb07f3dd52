/- Own slices whose block may be longer, and that grow. -/
import Derived.Test.YtkjneelekfdpfaaOps5
namespace Go.Proofs.Ytkjneelekfdpfaa
open Go
set_option linter.unusedVariables false
set_option linter.unusedSimpArgs false
variable {w0 w : World} {G G' : Im} {H H' H1 : Hp}
variable {n : Nat} {ds : List Deferred} {env : Env} {P : Program} {Q : Exit → Act → World → Prop} {R : Act → World → Prop} {ops : Array Oper} {rest : List Oper} {K : Act → World → Prop}
variable {dst : Option Tmp} {d : Nat} {ty : TypeId} {pos : String} {aft : Array Edge} {g : Option (Nat × Bool)}
/-- As Own; the block may be longer. -/
def AOwn (v : Value) (k : Nat) (L : List Value) (e : TypeId) (sz : Nat) (B : Hp) : Prop :=
  L.length = k * sz ∧ ((∃ ad, v = .slice ad 0 0 ∧ k = 0 ∧ B = []) ∨ ∃ b c sl, v = Sl b 0 k c ∧ c ≤ maxLen ∧ k ≤ c ∧ c * sz ≤ L.length + sl.length ∧ B = [(b, Cs (L ++ sl) e)])
theorem e_appendA {s x : Operand} {t e : TypeId} {z : Value} {sz bs : Nat} {v vx : Value} {k m : Nat} {L news : List Value} {B : Hp}
    (hs : ev env s = some v) (hx : ev env x = some vx) (hown : AOwn v k L e sz B) (hch : Chunk B H H1) (hsv : SV G H vx m news) (hm : mkB P t = some (e, z, sz, bs)) (hz : z.cells.size = sz) (hsz : 0 < sz)
    (hl : news.length = m * sz) (h1 : ∀ u ∈ news, u.oneCell' = true) (h63 : k + m ≤ 140737488355328) (hb : (k + m) * bs ≤ 140737488355328) :
    Eff P w0 env G H ⟨dst, .call { callee := .builtin .append, args := #[s, x], argTypes := #[t, t] }, ty, pos, aft, g⟩ (fun v' w' => ∃ B', AOwn v' (k + m) (L ++ news) e sz B' ∧ Sat w0 w' G (B' ++ H1)) := fun a n ds w ht hsat => by
  obtain ⟨i, hu, hi, hzero, hsz', hbs'⟩ := mkB_spec hm
  have hop : ∀ v' w', (Builtin.append_ #[t, t] ty #[v, vx]).run P w = .ok v' w' → (execOp a.eval ⟨dst, .call { callee := .builtin .append, args := #[s, x], argTypes := #[t, t] }, ty, pos, aft, g⟩).run P w = .ok (.value v') w' := fun v' w' hr => by
    simp [execOp, resolve, invoke, builtin, ht.eval hs, ht.eval hx, hr]
  have hsat1 : Sat w0 w G (B ++ H1) := hsat.perm hch
  have hmax : k + m ≤ maxLen := by unfold maxLen; omega
  obtain ⟨ad, c, rfl, hmc, hcm, hcells⟩ := hsv
  by_cases hm0 : m = 0
  · -- nothing is appended
    subst hm0
    have hn : news = [] := List.eq_nil_of_length_eq_zero (by simpa using hl)
    subst hn
    refine ⟨v, w, hop _ _ ?_, B, by simpa using hown, hsat1⟩
    have hfc : (Builtin.firstCells i.size 0 (.slice ad 0 c)).run P w = .ok #[] w := by cases ad <;> simp [Builtin.firstCells, loadCells, loadCellsFrom]
    obtain ⟨_, ⟨ad0, rfl, rfl, _⟩ | ⟨b, c, sl, rfl, _, hkc, _⟩⟩ := hown
    · cases ad0 <;> simp [storeCells, Builtin.append_, run_underlying hu, sizeOf, typeInfo, hi, Builtin.lenOf, hfc]
    · simp [Builtin.append_, run_underlying hu, sizeOf, typeInfo, hi, Builtin.lenOf, hfc, hkc, storeCells]
  rcases hcells with ⟨rfl, _⟩ | ⟨bx, ox, rfl, hcel⟩
  · have : m * sz = 0 := by simpa using hl.symm
    rcases Nat.mul_eq_zero.1 this with h | h <;> omega
  have hnews : ∀ j u, news[j]? = some u → w.cell? ((⟨bx, ox, none⟩ : Addr).add j) = some u := fun j u hj => by rw [addr_add]; exact (hcel j u hj).cell hsat
  have hlL : L.length = k * i.size := by rw [hown.1, hsz']
  have hlN : news.length = m * i.size := by rw [hl, hsz']
  obtain ⟨hlen, ⟨ad0, rfl, rfl, rfl⟩ | ⟨b, cap, sl, rfl, hcap, hkc, hcs, rfl⟩⟩ := hown
  · have hL : L = [] := List.eq_nil_of_length_eq_zero (by simpa using hlen)
    subst hL
    · have hge := grownCap_ge w m 0 e
      have hcm := grownCap_le_maxLen w m 0 e (by unfold maxLen; omega)
      have h2 := (hsat1.drew).alloc (.cells (news.toArray ++ Builtin.zeroCells z.cells (grownCap w m 0 e - m)) e)
      have hsz2 : ([] ++ news).length + (Builtin.zeroCells z.cells (grownCap w m 0 e - m)).toList.length = grownCap w m 0 e * sz := by
        have h2 := size_zeroCells z.cells (grownCap w m 0 e - m)
        rw [← Array.length_toList, hz] at h2
        rw [h2, List.nil_append, hl, ← Nat.add_mul]; congr 1; omega
      have hown' : AOwn (.slice (some ⟨w.heap.size, 0, none⟩) (0 + m) (grownCap w m 0 e)) (0 + m) ([] ++ news) e sz [(w.heap.size, Cs ([] ++ news ++ (Builtin.zeroCells z.cells (grownCap w m 0 e - m)).toList) e)] :=
        ⟨by simpa using hl, .inr ⟨w.heap.size, _, (Builtin.zeroCells z.cells (grownCap w m 0 e - m)).toList, rfl, hcm, by simpa using hge, Nat.le_of_eq hsz2.symm, rfl⟩⟩
      cases ad0 with
      | none =>
        have hr := run_append_nil (P := P) w t ty e i z hu hi hzero ⟨bx, ox, none⟩ m c news hlN hnews (by omega) (by omega) (by rw [hbs']; have := hb; rw [Nat.zero_add] at this; omega)
        rw [cs_app] at hr h2
        rw [Nat.zero_add] at hown' ⊢
        exact ⟨_, _, hop _ _ hr, _, hown', h2⟩
      | some a0 =>
        have hr := run_append_grow (P := P) w t ty e i z hu hi hzero a0 0 0 [] (by simp) (by simp) ⟨bx, ox, none⟩ m c news hlN hnews (by omega) (by omega) (by rw [hbs']; exact growslice_fits (by omega) hb)
        rw [Nat.zero_add] at hr hown' ⊢
        have h3 : ([] : List Value).toArray ++ news.toArray = news.toArray := by simp
        rw [h3, cs_app] at hr
        rw [cs_app] at h2
        exact ⟨_, _, hop _ _ hr, _, hown', h2⟩
  · have hb1 : w.heap[b]? = some (.cells (L ++ sl).toArray e (0, 0)) := hsat1.own _ (List.mem_cons_self ..)
    by_cases hroom : k + m ≤ cap
    · have hfit : k * i.size + news.length ≤ (L ++ sl).toArray.size := by
        simp only [List.size_toArray, List.length_append]
        have h5 := Nat.mul_le_mul_right sz hroom
        rw [hlN, ← Nat.add_mul, hsz']; omega
      have hr := run_append_room (P := P) w t ty e i hu hi b k cap _ hb1 ⟨bx, ox, none⟩ m c news hlN hnews h1 hroom hfit
      have e1 : (L ++ sl).take (k * i.size) = L := by rw [← hlL, List.take_left]
      have e2 : (L ++ sl).drop (k * i.size + news.length) = sl.drop news.length := by rw [← hlL, List.drop_append]; simp
      simp only [e1, e2] at hr
      refine ⟨_, _, hop _ _ hr, _, ⟨by rw [List.length_append, hlen, hl, Nat.add_mul], .inr ⟨b, cap, sl.drop news.length, rfl, hcap, hroom, ?_, rfl⟩⟩, ?_⟩
      · simp only [List.size_toArray, List.length_append] at hfit
        rw [List.length_append, List.length_drop]; omega
      · exact hsat1.upd rfl rfl rfl (by simp) (setRow_heap w b _ _ e (0, 0) hb1) (fun j _ hj => setRow_other w b j _ hj)
    · have holds : ∀ j u, L[j]? = some u → w.cell? ((⟨b, 0, none⟩ : Addr).add j) = some u := fun j u hj => by
        rw [addr_add, cell_of_row w b _ _ _ _ hb1]
        have hlt : j < L.length := (List.getElem?_eq_some_iff.1 hj).1
        simp only [List.getElem?_toArray, Nat.zero_add]
        rw [List.getElem?_append_left hlt]; exact hj
      have hr := run_append_grow (P := P) w t ty e i z hu hi hzero ⟨b, 0, none⟩ k cap L hlL holds ⟨bx, ox, none⟩ m c news hlN hnews (by omega) (by omega) (by rw [hbs']; exact growslice_fits (by omega) hb)
      have hge := grownCap_ge w (k + m) cap e
      have hcm := grownCap_le_maxLen w (k + m) cap e hmax
      refine ⟨_, _, hop _ _ hr, _, ⟨by rw [List.length_append, hlen, hl, Nat.add_mul], .inr ⟨w.heap.size, _, (Builtin.zeroCells z.cells (grownCap w (k + m) cap e - (k + m))).toList, rfl, hcm, hge, Nat.le_of_eq ?_, rfl⟩⟩, ?_⟩
      · have h2 := size_zeroCells z.cells (grownCap w (k + m) cap e - (k + m))
        rw [← Array.length_toList, hz] at h2
        show _ = (L ++ news).length + _
        rw [h2, List.length_append, hlen, hl, ← Nat.add_mul, ← Nat.add_mul]; congr 1; omega
      · have h2 := (hsat1.tl.drew).alloc (.cells (L.toArray ++ news.toArray ++ Builtin.zeroCells z.cells (grownCap w (k + m) cap e - (k + m))) e)
        have h3 : L.toArray ++ news.toArray = (L ++ news).toArray := by simp
        rw [h3, cs_app] at h2 ⊢
        exact h2
theorem s_appendA {s x : Operand} {t e : TypeId} {z : Value} {sz bs : Nat} {v vx : Value} {k m : Nat} {L news : List Value} {B : Hp}
    (hm : mkB P t = some (e, z, sz, bs)) (hs : ev env s = some v) (hx : ev env x = some vx) (hg : gOn ops env ⟨some d, .call { callee := .builtin .append, args := #[s, x], argTypes := #[t, t] }, ty, pos, aft, g⟩ = some true) (hd : Nat.blt d n = true)
    (hown : AOwn v k L e sz B) (hch : Chunk B H H1) (hsv : SV G H vx m news) (hz : z.cells.size = sz) (hsz : 0 < sz)
    (hl : news.length = m * sz) (h1 : ∀ u ∈ news, u.oneCell' = true) (h63 : k + m ≤ 140737488355328) (hb : (k + m) * bs ≤ 140737488355328)
    (hK : ∀ v' B', AOwn v' (k + m) (L ++ news) e sz B' → Holds n ds w0 ((d, v') :: env) G (B' ++ H1) K) :
    Holds n ds w0 env G H (stepK P ops Q ⟨some d, .call { callee := .builtin .append, args := #[s, x], argTypes := #[t, t] }, ty, pos, aft, g⟩ K) :=
  s_eff hg rfl hd (e_appendA hs hx hown hch hsv hm hz hsz hl h1 h63 hb) (fun v' w' ⟨B', ho, hs⟩ => (hK v' B' ho).atw hs)


/-- An own slice of the records xs that grows; its block may be longer. -/
def RA {α : Type} (s : Nat) (R : List Value → α → Prop) (e : TypeId) (v : Value) (xs : List α) (B : Hp) : Prop := ∃ L, AOwn v xs.length L e s B ∧ Recs s R L xs
section
variable {α : Type} {s : Nat} {Rc : List Value → α → Prop} {e : TypeId} {v : Value} {xs : List α} {B : Hp}
theorem RA.zero (ad : Option Addr) : RA s Rc e (.slice ad 0 0) [] [] := ⟨[], ⟨by simp, .inl ⟨ad, rfl, rfl, rfl⟩⟩, Recs.nil⟩
theorem RA.lo (h : RA s Rc e v xs B) : LOwn s Rc e v xs B := by
  obtain ⟨L, ⟨_, ⟨ad, rfl, h0, rfl⟩ | ⟨b, c, sl, rfl, hc, hkc, _, rfl⟩⟩, hR⟩ := h
  · have : xs = [] := List.eq_nil_of_length_eq_zero h0
    subst this; exact .inl ⟨ad, rfl, rfl, rfl⟩
  · exact .inr ⟨b, c, L, sl, rfl, hkc, hc, rfl, hR⟩
theorem RA.form (h : RA s Rc e v xs B) : ∃ ad c, v = .slice ad xs.length c ∧ xs.length ≤ c ∧ c ≤ maxLen := h.lo.form
theorem RA.here {G : Im} {H : Hp} (h : RA s Rc e v xs B) (hB : ∀ p, p ∈ B → p ∈ H) : RecH s (fun _ => Rc) G H v xs := h.lo.here hB
theorem RA.cut {ad : Option Addr} {c : Nat} (h : RA s Rc e (.slice ad xs.length c) xs B) (k : Nat) (hk : k ≤ xs.length) : ∃ B', (∀ f : Nat × Obj → Nat, (B'.map f).sum ≤ (B.map f).sum) ∧ RA s Rc e (.slice ad k k) (xs.take k) B' := by
  by_cases h0 : k = 0
  · subst h0; exact ⟨[], by simp, RA.zero ad⟩
  · obtain ⟨L, ⟨hL, ⟨ad', hv, h1, _⟩ | ⟨b, c', sl, hv, h1, h2, h3, rfl⟩⟩, hR⟩ := h
    · omega
    · cases hv
      have hl : (xs.take k).length = k := by rw [List.length_take]; omega
      have hks : k * s ≤ xs.length * s := Nat.mul_le_mul_right _ hk
      refine ⟨_, fun f => Nat.le_refl _, L.take (k * s), ⟨by rw [hl, List.length_take]; omega, .inr ⟨b, k, L.drop (k * s) ++ sl, by rw [hl], by omega, by rw [hl]; exact Nat.le_refl _, ?_, ?_⟩⟩, hR.take k⟩
      · rw [List.length_take, List.length_append, List.length_drop]; omega
      · rw [← List.append_assoc, List.take_append_drop]
theorem RA.put (h : RA s Rc e v xs B) (j : Nat) (hj : j < xs.length) : ∃ b c L, v = Sl b 0 xs.length c ∧ B = [(b, Cs L e)] ∧ j * s + s ≤ L.length ∧
    ∀ (cs : List Value) (x : α), cs.length = s → Rc cs x → RA s Rc e v (xs.set j x) [(b, Cs (L.take (j * s) ++ cs ++ L.drop (j * s + s)) e)] := by
  obtain ⟨L, ⟨hL, ⟨ad', hv, h1, _⟩ | ⟨b, c, sl, rfl, h1, h2, h3, rfl⟩⟩, hR⟩ := h
  · omega
  · have h4 : (j + 1) * s ≤ xs.length * s := Nat.mul_le_mul_right _ hj
    rw [Nat.add_mul, Nat.one_mul] at h4
    have hle : j * s + s ≤ L.length := by omega
    refine ⟨b, c, L ++ sl, rfl, rfl, by rw [List.length_append]; omega, fun cs x hc hx => ?_⟩
    have hn : (L.take (j * s) ++ cs ++ L.drop (j * s + s)).length = L.length := by simp; omega
    refine ⟨L.take (j * s) ++ cs ++ L.drop (j * s + s), ⟨by rw [List.length_set, hn]; exact hL, .inr ⟨b, c, sl, by rw [List.length_set], h1, by rw [List.length_set]; exact h2, by rw [hn]; exact h3, ?_⟩⟩, hR.set hj hc hx⟩
    rw [List.take_append_of_le_length (by omega), List.drop_append_of_le_length hle, List.append_assoc, List.append_assoc, List.append_assoc]
end
end Go.Proofs.Ytkjneelekfdpfaa
