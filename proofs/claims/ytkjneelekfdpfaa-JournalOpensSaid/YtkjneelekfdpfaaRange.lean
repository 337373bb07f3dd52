/- A range over a function whose rounds never leave it: the rule for the statement, and what the function that is ranged over owes. -/
import Derived.Test.YtkjneelekfdpfaaIn
namespace Go.Proofs.Ytkjneelekfdpfaa
open Go
set_option linter.unusedVariables false
set_option linter.unusedSimpArgs false

variable {w0 w : World} {G G' : Im} {H H' : Hp}
variable {n : Nat} {ds : List Deferred} {env : Env} {P : Program} {Q : Exit → Act → World → Prop}

/-- What is ranged over hands the values xs over, one by one, to whatever rounds leave its own memory alone. -/
def ItSpec (P : Program) (gf : FuncId) (cap : Array Value) (G : Im) (xs : List Value) : Prop :=
  ∀ (l : Nat) (w0 : World) (Hj : Nat → Hp),
    (∀ (j : Nat) (h : j < xs.length) (w : World), Sat w0 w G (Hj j) → RoundTo P l [xs[j]] w (fun w' => Sat w0 w' G (Hj (j + 1)))) →
    ∀ w, Sat w0 w G (Hj 0) → CallsIn (FW none) 0 P gf (#[.func (.yield l) #[] #[]] ++ cap) w (fun e w' => (∃ v, e = .returned v) ∧ Sat w0 w' G (Hj xs.length))

theorem i_range {g : Operand} {p : Tmp} {assign body : Code} {gf : FuncId} {cap : Array Value} (xs : List Value) (Hj : Nat → Hp) (env1 : Nat → Env)
    (hg : ev env g = some (.func (.func gf) #[] cap)) (hen : entersB P gf = true) (hp : p < n) (hit : ItSpec P gf cap G xs)
    (hassign : ∀ (j : Nat) (h : j < xs.length) (l : Nat) (H1 : Hp) (K : Act → World → Prop), Holds n [] w0 (env1 j) G H1 K → Holds n [] w0 ((p, xs[j]) :: env) G H1 (assign.wpIn (FW (some l)) 0 P (Exit.then K (fun _ _ _ => False))))
    (hbody : ∀ (j : Nat) (h : j < xs.length) (l : Nat) (F : Hp), Holds n [] w0 (env1 j) G (Hj j ++ F) (body.wpIn (FW (some l)) 0 P (fun e _ w => e = .normal ∧ Sat w0 w G (Hj (j + 1) ++ F))))
    (k : ∀ D, Holds n ({ target := .collected D, args := #[] } :: ds) w0 env G ((D, .deferred (some [])) :: Hj xs.length) (Q .normal)) :
    Holds n ds w0 env G (Hj 0) ((Code.rangeFunc g #[p] assign body).wpIn (FW none) 0 P Q) := fun a w ht hs => by
  refine wpIn_rangeFunc ?_
  intro fn hfn
  obtain ⟨rec, hrec⟩ : ∃ rec : LoopState → Option Code → Loop, rec = fun st pe => { state := st, pending := pe, fn, tmps := a.tmps, params := #[p], assign, body, defers := w.heap.size } := ⟨_, rfl⟩
  obtain ⟨D, hD⟩ : ∃ D, D = w.heap.size := ⟨_, rfl⟩
  obtain ⟨W1, hW1⟩ : ∃ W1, (w.alloc (.deferred (some []))).alloc (.loop (rec .ready none)) = W1 := ⟨_, rfl⟩
  have hs1 : Sat w0 W1 G ((D + 1, .loop (rec .ready none)) :: (D, .deferred (some [])) :: Hj 0) := by
    rw [← hW1, hD]
    have := (hs.alloc (.deferred (some []))).alloc (.loop (rec .ready none))
    rwa [World.size_alloc] at this
  refine ⟨D + 1, [{ target := .collected D, args := #[] }], W1, { target := .fn (.func gf) cap, args := #[.func (.yield (D + 1)) #[] #[]] }, W1, gf,
    #[.func (.yield (D + 1)) #[] #[]] ++ cap, W1, ?_, ?_, fun _ _ => trivial, ?_, by simp [fw_depth], ?_⟩
  · rw [← hW1, hrec, hD]; exact run_enterLoop_outer _ _ _ _ _
  · have hc : a.eval (.const (.func (.yield (D + 1)) #[] #[])) = .func (.yield (D + 1)) #[] #[] := rfl
    simp [resolve, ht.eval hg, Deferred.ofValue, hc]
  · simp [invoke, enters_run hen]
  · refine (hit (D + 1) w0 (fun j => (D + 1, .loop (rec .ready none)) :: (D, .deferred (some [])) :: Hj j) ?_ W1 hs1).mono ?_
    · intro j hj W hsW
      have hl := hsW.own _ (List.mem_cons_self ..)
      have hy := run_yield (P := P) (args := #[xs[j]]) hl (by rw [hrec]; rfl)
      refine ⟨fn, a.tmps.setIfInBounds p xs[j], assign, body, ?_, roundIn_of_wpIn hfn ?_⟩
      · rw [hrec] at hy; simpa using hy
      · have ht1 : TT { tmps := a.tmps.setIfInBounds p xs[j], defers := [] } n [] ((p, xs[j]) :: env) := by
          have h2 : TT ({ a with defers := [] } : Act) n [] env := ⟨ht.size, rfl, ht.get⟩
          exact h2.put hp xs[j]
        refine hassign j hj (D + 1) _ _ ?_ _ _ ht1 hsW
        intro a1 w1 ht2 hs2
        have hl2 := hs2.own _ (List.mem_cons_self ..)
        have hlt2 := hs2.lt (List.mem_cons_self ..)
        refine ⟨_, run_beginRound hl2 (by rw [hrec]), ?_⟩
        have hs3 := hs2.upd (w' := w1.putObj (D + 1) (.loop { rec .ready none with state := .busy })) (o' := .loop { rec .ready none with state := .busy }) rfl rfl rfl (by simp) (World.putObj_heap_same hlt2) (fun k _ hk => World.putObj_heap_other hk)
        have hs4 : Sat w0 (w1.putObj (D + 1) (.loop { rec .ready none with state := .busy })) G (Hj j ++ [(D + 1, .loop { rec .ready none with state := .busy }), (D, .deferred (some []))]) :=
          hs3.perm (List.perm_append_comm (l₁ := [(D + 1, _), (D, _)]))
        refine wpIn_mono (hbody j hj (D + 1) _ a1 _ ht2 hs4) ?_
        rintro e a3 w3 ⟨rfl, hs5⟩
        have hs6 := hs5.perm (List.perm_append_comm (l₂ := [(D + 1, _), (D, _)]))
        have hl6 := hs6.own _ (List.mem_cons_self ..)
        have hlt6 := hs6.lt (List.mem_cons_self ..)
        have hend := run_endRound (P := P) none hl6
        refine ⟨_, _, hend, rfl, ?_⟩
        have hs7 := hs6.upd (w' := w3.putObj (D + 1) (.loop (rec .ready none))) (o' := .loop (rec .ready none)) rfl rfl rfl (by simp) (World.putObj_heap_same hlt6) (fun k _ hk => World.putObj_heap_other hk)
        rw [hrec] at hs7 ⊢
        exact hs7
    · rintro e W2 ⟨⟨v, rfl⟩, hs2⟩
      have hl2 := hs2.own _ (List.mem_cons_self ..)
      have hlt2 := hs2.lt (List.mem_cons_self ..)
      have hend := run_endLoop (P := P) hl2 (by rw [hrec]; simp)
      refine ⟨_, _, hend, ?_⟩
      have hs3 : ∀ o', Sat w0 (W2.putObj (D + 1) o') G ((D + 1, o') :: (D, .deferred (some [])) :: Hj xs.length) := fun o' => hs2.upd (w' := W2.putObj (D + 1) o') (o' := o') rfl rfl rfl (by simp) (World.putObj_heap_same hlt2) (fun k _ hk => World.putObj_heap_other hk)
      have hnone : (rec .ready none).pending = none := by rw [hrec]
      rw [hnone]
      exact k D _ _ ⟨ht.size, by simp [ht.defers], ht.get⟩ (hs3 _).tl
end Go.Proofs.Ytkjneelekfdpfaa
