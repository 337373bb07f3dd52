/- A region that draws its order, inside a fence: operations that only look, and one behind them all; a range over a function whose rounds make memory of their own, and whose function looks at memory that others own. -/
import Derived.Test.YtkjneelekfdpfaaRange
import Derived.Test.YtkjneelekfdpfaaSub
import Derived.OrdersIn
namespace Go.Proofs.Ytkjneelekfdpfaa
open Go
set_option linter.unusedVariables false
set_option linter.unusedSimpArgs false

variable {w0 w : World} {G G' : Im} {H H' : Hp} {r : Option Nat} {m : Nat}
variable {n : Nat} {ds : List Deferred} {env : Env} {P : Program} {Q : Exit → Act → World → Prop} {ops : Array Oper}

theorem countP_but {l : List Nat} (hn : l.Nodup) {p q : Nat → Bool} {i : Nat} (hi : i ∈ l) (hp : p i = true) (hq : q i = false) (h : ∀ j, j ≠ i → q j = p j) : l.countP q + 1 = l.countP p := by
  induction l with
  | nil => cases hi
  | cons x l ih =>
    obtain ⟨hx, hn'⟩ := List.nodup_cons.1 hn
    by_cases e : x = i
    · subst e
      have h2 : l.countP q = l.countP p := List.countP_congr fun j hj => by
        rw [h j (fun e => hx (e ▸ hj))]
      simp [List.countP_cons, hp, hq, h2]
    · have hi' : i ∈ l := by
        rcases List.mem_cons.1 hi with h' | h'
        · exact absurd h'.symm e
        · exact h'
      have := ih hn' hi'
      simp only [List.countP_cons, h x e]
      omega

theorem rep_getD {n j : Nat} (h : j < n) : (Array.replicate n false).getD j true = false := by simp [Array.getD, h]
def depE (dst : Nat → Nat) (V : Nat → Value) (l : List Nat) (env : Env) : Env := l.map (fun j => (dst j, V j)) ++ env
theorem depE_spec {dst : Nat → Nat} {V : Nat → Value} : ∀ {l : List Nat} {i : Nat} {v : Value}, (depE dst V l env).lookup i = some v → (∃ j ∈ l, dst j = i ∧ V j = v) ∨ env.lookup i = some v
  | [], i, v, h => .inr h
  | j :: l, i, v, h => by
    simp only [depE, List.map_cons, List.cons_append, List.lookup] at h
    split at h
    · rename_i e
      have e' : i = dst j := by simpa using e
      cases h
      exact .inl ⟨j, by simp, e'.symm, rfl⟩
    · rcases depE_spec (l := l) h with ⟨k, hk, h1, h2⟩ | h'
      · exact .inl ⟨k, by simp [hk], h1, h2⟩
      · exact .inr h'

/-- What an operation that only looks owes: its slot is its own, and its value is known when what it waits for has come up. -/
structure Quiet (P : Program) (G : Im) (H : Hp) (n : Nat) (env : Env) (dst : Nat → Nat) (V : Nat → Value) (k0 i : Nat) (o : Oper) (l : List Nat) : Prop where
  gd : o.guard = none
  dt : o.dst = some (dst i)
  lt : Nat.blt (dst i) n = true
  nd : noDefer o = true
  fresh : env.lookup (dst i) = none
  own : (List.range k0).all (fun j => j == i || dst j != dst i) = true
  dep : l.all (fun j => Nat.blt j k0 && o.after.any fun e => Region.binds .any e && e.on == j) = true
  low : o.after.all (fun e => Nat.blt e.on i) = true
  val : Val P (depE dst V l env) G H o (V i)

theorem i_drawn {id : Nat} {l : List Oper} (k0 : Nat) (dst : Nat → Nat) (V : Nat → Value) (oz : Oper) (hm : P.follows .mixedOrders = true) (hl : l.length = k0 + 1) (hz : l[k0]? = some oz)
    (hw : (List.range k0).all (fun j => oz.after.any fun e => Region.binds .any e && e.on == j) = true) (hlo : oz.after.all (fun e => Nat.blt e.on k0) = true)
    (hq : ∀ i, i < k0 → ∃ o d, l[i]? = some o ∧ Quiet P G H n env dst V k0 i o d)
    (hfin : Holds n ds w0 (depE dst V (List.range k0) env) G H (stepI r m P l.toArray Q oz (Q .normal))) :
    Holds n ds w0 env G H ((Code.region id l.toArray true).wpIn (FW r) m P Q) := fun a w ht hs => by
  refine wpIn_region_any hm ?_
  have key : ∀ (u : Nat) (L : Array Bool) (a : Act) (w : World), L.size = k0 + 1 → L.getD k0 true = false → (List.range k0).countP (fun j => !L.getD j true) = u → Sat w0 w G H → TT a n ds env →
      (∀ j, j < k0 → L.getD j true = true → a.tmps[dst j]? = some (V j)) → wpAnyIn (FW r) m P .any l.toArray Q (u + 1) L a w := by
    intro u
    induction u with
    | zero =>
      intro L a w hL hlast hc hs ht hd
      have hall : ∀ j, j < k0 → L.getD j true = true := fun j hj => by
        have := List.countP_eq_zero.1 hc j (List.mem_range.2 hj)
        simpa using this
      have hgd : ∀ j, j < k0 + 1 → ∀ b, L.getD j b = L.getD j true := fun j hj b => by simp [Array.getD, hL, hj]
      have honly : ∀ i ∈ Region.ready .any l.toArray L, i = k0 := fun i hi => by
        obtain ⟨h1, o, ho, _⟩ := mem_ready.1 hi
        have hlt : i < l.length := by have := (Array.getElem?_eq_some_iff.1 ho).1; simpa using this
        rcases Nat.lt_or_ge i k0 with h' | h'
        · rw [hall i h'] at h1; cases h1
        · omega
      have hk0 : k0 ∈ Region.ready .any l.toArray L := by
        refine mem_ready.2 ⟨hlast, oz, by simpa using hz, fun e he hb => ?_⟩
        have h1 := Array.all_eq_true'.1 hlo e he
        rw [hgd _ (by have := of_blt h1; omega)]; exact hall _ (of_blt h1)
      refine ⟨fun h => (by rw [h] at hk0; cases hk0), fun i hi => ?_⟩
      have := honly i hi
      subst this
      unfold wpOpIn
      have hz' : l.toArray[i]? = some oz := by simpa using hz
      rw [hz']
      have ht' : TT a n ds (depE dst V (List.range i) env) := ⟨ht.size, ht.defers, fun j v hv => by
        rcases depE_spec hv with ⟨k, hk, rfl, rfl⟩ | h'
        · exact hd k (List.mem_range.1 hk) (hall k (List.mem_range.1 hk))
        · exact ht.get j v h'⟩
      have hstep := hfin a w ht' hs
      have hdone : ∀ a w, Q .normal a w → wpAnyIn (FW r) m P .any l.toArray Q 0 (L.setIfInBounds i true) a w := fun a w hQ => by
        refine And.intro (List.eq_nil_iff_forall_not_mem.2 ?_) hQ
        intro j hj
        obtain ⟨h1, o, ho, _⟩ := mem_ready.1 hj
        have hlt : j < l.length := by have := (Array.getElem?_eq_some_iff.1 ho).1; simpa using this
        by_cases e : i = j
        · subst e; simp [hL] at h1
        · rw [getD_set_ne true e] at h1
          rw [hall j (by omega)] at h1; cases h1
      unfold stepI at hstep
      show if _ then _ else _
      split
      · rename_i hwn; rw [if_pos hwn] at hstep; exact Oper.wpIn_mono hdone hstep
      · rename_i hwn; rw [if_neg hwn] at hstep; exact ⟨hstep.1, hdone _ _ hstep.2⟩
    | succ u ih =>
      intro L a w hL hlast hc hs ht hd
      have hgd : ∀ j, j < k0 + 1 → ∀ b, L.getD j b = L.getD j true := fun j hj b => by simp [Array.getD, hL, hj]
      have hsome : ∃ i, i < k0 ∧ L.getD i true = false := by
        have : 0 < (List.range k0).countP (fun j => !L.getD j true) := by omega
        obtain ⟨i, hi, hp⟩ := List.countP_pos_iff.1 this
        exact ⟨i, List.mem_range.1 hi, by simpa using hp⟩
      have hex : ∃ i, i < k0 ∧ L.getD i true = false ∧ ∀ j, j < i → L.getD j true = true := by
        obtain ⟨i, hi, hp⟩ := hsome
        induction i using Nat.strongRecOn with
        | _ i ih' =>
          by_cases hmin : ∃ j, j < i ∧ L.getD j true = false
          · obtain ⟨j, hj, hpj⟩ := hmin
            exact ih' j hj (by omega) hpj
          · refine ⟨i, hi, hp, fun j hj => ?_⟩
            cases hb : L.getD j true with
            | true => rfl
            | false => exact absurd ⟨j, hj, hb⟩ hmin
      obtain ⟨i0, hi0, hp0, hlow0⟩ := hex
      have hne : Region.ready .any l.toArray L ≠ [] := fun h => by
        obtain ⟨o, d, ho, hQo⟩ := hq i0 hi0
        have : i0 ∈ Region.ready .any l.toArray L := mem_ready.2 ⟨hp0, o, by simpa using ho, fun e he hb => by
          have h1 := of_blt (Array.all_eq_true'.1 hQo.low e he)
          rw [hgd _ (by omega)]; exact hlow0 _ h1⟩
        rw [h] at this; cases this
      refine ⟨fun h => absurd h hne, fun i hi => ?_⟩
      obtain ⟨hun, o', ho', hbind⟩ := mem_ready.1 hi
      have hlt : i < l.length := by have := (Array.getElem?_eq_some_iff.1 ho').1; simpa using this
      have hik : i < k0 := by
        rcases Nat.lt_or_ge i k0 with h' | h'
        · exact h'
        · have e : i = k0 := by omega
          subst e
          have e2 : oz = o' := by
            have h1 : l.toArray[i]? = some oz := by simpa using hz
            rw [h1] at ho'; exact Option.some.inj ho'
          subst e2
          have h2 := List.all_eq_true.1 hw i0 (List.mem_range.2 hi0)
          obtain ⟨e, he, hb⟩ := Array.any_eq_true'.1 h2
          simp only [Bool.and_eq_true, beq_iff_eq] at hb
          have h3 := hbind e he hb.1
          rw [hb.2, hgd _ (by omega), hp0] at h3; cases h3
      obtain ⟨o, d, ho, hQo⟩ := hq i hik
      have ho2 : l.toArray[i]? = some o := by simpa using ho
      have e3 : o' = o := by rw [ho2] at ho'; exact (Option.some.inj ho').symm
      rw [e3] at hbind
      have ht' : TT a n ds (depE dst V d env) := ⟨ht.size, ht.defers, fun j v hv => by
        rcases depE_spec hv with ⟨k, hk, rfl, rfl⟩ | h'
        · have h4 := List.all_eq_true.1 hQo.dep k hk
          simp only [Bool.and_eq_true] at h4
          obtain ⟨e, he, hb⟩ := Array.any_eq_true'.1 h4.2
          simp only [Bool.and_eq_true, beq_iff_eq] at hb
          have h5 := hbind e he hb.1
          have hkk := of_blt h4.1
          rw [hb.2, hgd _ (by omega)] at h5
          exact hd k hkk h5
        · exact ht.get j v h'⟩
      unfold wpOpIn
      rw [ho2]
      have hwant : Region.wanted o (yielded l.toArray a.tmps) = true := by unfold Region.wanted; rw [hQo.gd]
      simp only [hwant, if_true]
      refine ⟨fun _ _ => trivial, ?_⟩
      rw [semAt_noDefer hQo.nd, hQo.val a n ds w0 w ht' hs, Oper.uponIn_value, hQo.dt]
      refine ih _ _ _ (by simp [hL]) (by rw [getD_set_ne true (by omega)]; exact hlast) ?_ hs ?_ ?_
      · have := countP_but (l := List.range k0) List.nodup_range (p := fun j => !L.getD j true) (q := fun j => !(L.setIfInBounds i true).getD j true) (List.mem_range.2 hik) (by simp only [hun]; rfl) (by simp [hL]) (fun j hj => by rw [getD_set_ne true (Ne.symm hj)])
        omega
      · refine ⟨by simp [Act.put, ht.size], ht.defers, fun j v hv => ?_⟩
        have hji : dst i ≠ j := fun e => by have := hQo.fresh; rw [e, hv] at this; cases this
        simp only [Act.put]
        rw [Array.getElem?_setIfInBounds_ne hji]; exact ht.get j v hv
      · intro j hj hL2
        by_cases e : j = i
        · subst e
          have := of_blt hQo.lt
          simp [Act.put, ht.size, this]
        · rw [getD_set_ne true (Ne.symm e)] at hL2
          have h6 := List.all_eq_true.1 hQo.own j (List.mem_range.2 hj)
          have hne' : dst i ≠ dst j := by
            simp [e] at h6; exact fun h => h6 h.symm
          simp only [Act.put]
          rw [Array.getElem?_setIfInBounds_ne hne']; exact hd j hj hL2
  have hcnt : (List.range k0).countP (fun j => !(Array.replicate l.toArray.size false).getD j true) = k0 := by
    rw [List.countP_eq_length.2 (fun j hj => ?_), List.length_range]
    have := List.mem_range.1 hj
    rw [rep_getD (by simp [hl]; omega)]; rfl
  have := key k0 (Array.replicate l.toArray.size false) a w.drew (by simp [hl]) (rep_getD (by simp [hl])) hcnt hs.drew ht (fun j hj h => by rw [rep_getD (by simp [hl]; omega)] at h; cases h)
  rw [← hl] at this
  exact this

/-- As ItSpec; what is ranged over looks at the blocks K meanwhile. -/
def ItSpecK (P : Program) (gf : FuncId) (cap : Array Value) (G : Im) (K : Hp) (xs : List Value) : Prop :=
  ∀ (l : Nat) (w0 : World) (Hj : Nat → Hp), (∀ j p, j ≤ xs.length → p ∈ K → p ∈ Hj j) →
    (∀ (j : Nat) (h : j < xs.length) (w : World), Sat w0 w G (Hj j) → RoundTo P l [xs[j]] w (fun w' => Sat w0 w' G (Hj (j + 1)))) →
    ∀ w, Sat w0 w G (Hj 0) → CallsIn (FW none) 0 P gf (#[.func (.yield l) #[] #[]] ++ cap) w (fun e w' => (∃ v, e = .returned v) ∧ Sat w0 w' G (Hj xs.length))

theorem i_rangeC {β : Type} {g : Operand} {p : Tmp} {assign body : Code} {gf : FuncId} {cap : Array Value} (xs : List Value) (K0 : Hp) (Hj : Nat → Hp) (env1 : Nat → β → Env) (C : Nat → β → Hp)
    (hg : ev env g = some (.func (.func gf) #[] cap)) (hen : entersB P gf = true) (hp : p < n) (hit : ItSpecK P gf cap G K0 xs) (hK0 : ∀ j p, j ≤ xs.length → p ∈ K0 → p ∈ Hj j)
    (hassign : ∀ (j : Nat) (h : j < xs.length) (l : Nat) (H1 : Hp) (K : Act → World → Prop), (∀ z, Holds n [] w0 (env1 j z) G (C j z ++ H1) K) → Holds n [] w0 ((p, xs[j]) :: env) G H1 (assign.wpIn (FW (some l)) 0 P (Exit.then K (fun _ _ _ => False))))
    (hbody : ∀ (j : Nat) (h : j < xs.length) (l : Nat) (F : Hp) (z : β), Holds n [] w0 (env1 j z) G (C j z ++ (Hj j ++ F)) (body.wpIn (FW (some l)) 0 P (fun e _ w => e = .normal ∧ Sat w0 w G (Hj (j + 1) ++ F))))
    (k : ∀ D, Holds n ({ target := .collected D, args := #[] } :: ds) w0 env G ((D, .deferred (some [])) :: Hj xs.length) (Q .normal)) :
    Holds n ds w0 env G (Hj 0) ((Code.rangeFunc g #[p] assign body).wpIn (FW none) 0 P Q) := fun a w ht hs => by
  refine wpIn_rangeFunc ?_
  intro fn hfn
  obtain ⟨rec, hrec⟩ : ∃ rec : LoopState → Option Code → Loop, rec = fun st pe => { state := st, pending := pe, fn, tmps := a.tmps, params := #[p], assign, body, defers := w.heap.size } := ⟨_, rfl⟩
  obtain ⟨D, hD⟩ : ∃ D, D = w.heap.size := ⟨_, rfl⟩
  obtain ⟨W1, hW1⟩ : ∃ W1, (w.alloc (.deferred (some []))).alloc (.loop (rec .ready none)) = W1 := ⟨_, rfl⟩
  have hs1 : Sat w0 W1 G ((D + 1, .loop (rec .ready none)) :: (D, .deferred (some [])) :: Hj 0) := by
    rw [← hW1, hD]
    have := (hs.alloc (.deferred (some []))).alloc (.loop (rec .ready none))
    rwa [World.size_alloc] at this
  refine ⟨D + 1, [{ target := .collected D, args := #[] }], W1, { target := .fn (.func gf) cap, args := #[.func (.yield (D + 1)) #[] #[]] }, W1, gf,
    #[.func (.yield (D + 1)) #[] #[]] ++ cap, W1, ?_, ?_, fun _ _ => trivial, ?_, by simp [fw_depth], ?_⟩
  · rw [← hW1, hrec, hD]; exact run_enterLoop_outer _ _ _ _ _
  · have hc : a.eval (.const (.func (.yield (D + 1)) #[] #[])) = .func (.yield (D + 1)) #[] #[] := rfl
    simp [resolve, ht.eval hg, Deferred.ofValue, hc]
  · simp [invoke, enters_run hen]
  · refine (hit (D + 1) w0 (fun j => (D + 1, .loop (rec .ready none)) :: (D, .deferred (some [])) :: Hj j) (fun j p hj hp => by simp [hK0 j p hj hp]) ?_ W1 hs1).mono ?_
    · intro j hj W hsW
      have hl := hsW.own _ (List.mem_cons_self ..)
      have hy := run_yield (P := P) (args := #[xs[j]]) hl (by rw [hrec]; rfl)
      refine ⟨fn, a.tmps.setIfInBounds p xs[j], assign, body, ?_, roundIn_of_wpIn hfn ?_⟩
      · rw [hrec] at hy; simpa using hy
      · have ht1 : TT { tmps := a.tmps.setIfInBounds p xs[j], defers := [] } n [] ((p, xs[j]) :: env) := by
          have h2 : TT ({ a with defers := [] } : Act) n [] env := ⟨ht.size, rfl, ht.get⟩
          exact h2.put hp xs[j]
        refine hassign j hj (D + 1) _ _ ?_ _ _ ht1 hsW
        intro z a1 w1 ht2 hs20
        have hs2 := hs20.perm (List.perm_middle)
        have hl2 := hs2.own _ (List.mem_cons_self ..)
        have hlt2 := hs2.lt (List.mem_cons_self ..)
        refine ⟨_, run_beginRound hl2 (by rw [hrec]), ?_⟩
        have hs3 := hs2.upd (w' := w1.putObj (D + 1) (.loop { rec .ready none with state := .busy })) (o' := .loop { rec .ready none with state := .busy }) rfl rfl rfl (by simp) (World.putObj_heap_same hlt2) (fun k _ hk => World.putObj_heap_other hk)
        have hs4 : Sat w0 (w1.putObj (D + 1) (.loop { rec .ready none with state := .busy })) G (C j z ++ (Hj j ++ [(D + 1, .loop { rec .ready none with state := .busy }), (D, .deferred (some []))])) :=
          hs3.perm ((List.perm_middle.symm).trans (List.Perm.append_left _ (List.perm_append_comm (l₁ := [(D + 1, _), (D, _)]))))
        refine wpIn_mono (hbody j hj (D + 1) _ z a1 _ ht2 hs4) ?_
        rintro e a3 w3 ⟨rfl, hs5⟩
        have hs6 := hs5.perm (List.perm_append_comm (l₂ := [(D + 1, _), (D, _)]))
        have hl6 := hs6.own _ (List.mem_cons_self ..)
        have hlt6 := hs6.lt (List.mem_cons_self ..)
        have hend := run_endRound (P := P) none hl6
        refine ⟨_, _, hend, rfl, ?_⟩
        have hs7 := hs6.upd (w' := w3.putObj (D + 1) (.loop (rec .ready none))) (o' := .loop (rec .ready none)) rfl rfl rfl (by simp) (World.putObj_heap_same hlt6) (fun k _ hk => World.putObj_heap_other hk)
        rw [hrec] at hs7 ⊢
        exact hs7
    · rintro e W2 ⟨⟨v, rfl⟩, hs2⟩
      have hl2 := hs2.own _ (List.mem_cons_self ..)
      have hlt2 := hs2.lt (List.mem_cons_self ..)
      have hend := run_endLoop (P := P) hl2 (by rw [hrec]; simp)
      refine ⟨_, _, hend, ?_⟩
      have hs3 : ∀ o', Sat w0 (W2.putObj (D + 1) o') G ((D + 1, o') :: (D, .deferred (some [])) :: Hj xs.length) := fun o' => hs2.upd (w' := W2.putObj (D + 1) o') (o' := o') rfl rfl rfl (by simp) (World.putObj_heap_same hlt2) (fun k _ hk => World.putObj_heap_other hk)
      have hnone : (rec .ready none).pending = none := by rw [hrec]
      rw [hnone]
      exact k D _ _ ⟨ht.size, by simp [ht.defers], ht.get⟩ (hs3 _).tl
end Go.Proofs.Ytkjneelekfdpfaa
