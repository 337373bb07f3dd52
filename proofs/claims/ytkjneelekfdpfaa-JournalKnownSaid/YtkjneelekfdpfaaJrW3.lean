/- Drawn regions in functions that defer; the walk of package journal's Open. -/
import Derived.Test.YtkjneelekfdpfaaJrW2
import Derived.Test.YtkjneelekfdpfaaEye2
namespace Go.Proofs.Ytkjneelekfdpfaa
open Go
set_option linter.unusedVariables false
set_option linter.unusedSimpArgs false
set_option maxHeartbeats 3200000
section
variable {w0 w : World} {G G' : Im} {H H' H1 : Hp} {n d : Nat} {ds : List Deferred} {env env2 : Env} {P : Program} {Q : Exit → Act → World → Prop} {ops : Array Oper} {K : Act → World → Prop} {late : List Nat} {L : Array Bool} {fuel : Nat}
/-- As Q; behind a panic the slots of env2 are as they were, and nothing else of them counts. -/
def pqQ (n : Nat) (ds : List Deferred) (env2 : Env) (Q : Exit → Act → World → Prop) : Exit → Act → World → Prop
  | .panic c, a, w => TT a n ds env2 ∧ ∀ a', TT a' n ds env2 → Q (.panic c) a' w
  | e, a, w => Q e a w
theorem pqQ_le : ∀ e a w, pqQ n ds env2 Q e a w → Q e a w := fun e a w h => by
  cases e with
  | panic c => exact h.2 a h.1
  | _ => exact h
theorem c_pq (env2 : Env) {c : Code} (h : Holds n ds w0 env G H (c.wp P (pqQ n ds env2 Q))) : Holds n ds w0 env G H (c.wp P Q) := fun a w ht hs => wp_mono (h a w ht hs) pqQ_le
def PanicAt (d : Nat) (Q : Exit → Act → World → Prop) : Prop := ∀ c a v w, Q (.panic c) (Act.put a (some d) v) w → Q (.panic c) a w
theorem pd_then {nx : Act → World → Prop} (h : PanicAt d Q) : PanicAt d (Exit.then nx Q) := h
theorem pd_block {id : Nat} (h : PanicAt d Q) : PanicAt d (Exit.inBlock id Q) := h
theorem pd_q (h : env2.all (fun p => p.1 != d) = true) : PanicAt d (pqQ n ds env2 Q) := fun c a v w hp => by
  refine ⟨⟨?_, hp.1.defers, fun i u hi => ?_⟩, hp.2⟩
  · have := hp.1.size
    simpa [Act.put] using this
  · have hne : i ≠ d := fun e => by
      subst e
      have h2 : ∀ (l : Env), l.all (fun p => p.1 != i) = true → l.lookup i = none := by
        intro l
        induction l with
        | nil => intro _; rfl
        | cons p l ih =>
          intro hl
          rw [List.all_cons, Bool.and_eq_true] at hl
          obtain ⟨j, x⟩ := p
          have hji : ¬ i = j := by have := hl.1; simp at this; exact fun e => this e.symm
          rw [List.lookup, show (i == j) = false by simpa using hji]
          exact ih hl.2
      rw [h2 env2 h] at hi; cases hi
    have h3 := hp.1.get i u hi
    simp only [Act.put] at h3
    rwa [Array.getElem?_setIfInBounds_ne (fun e => hne e.symm)] at h3
theorem r_tkD (i : Nat) {oi : Oper} {d : Nat} {v : Value} {G1 : Im} {H1 : Hp} (hi : ops[i]? = some oi) (hdst : oi.dst = some d) (hv : Val P env G H oi v) (hS : ∀ w, Sat w0 w G1 H1 → Sat w0 w G H)
    (k : Holds n ds w0 ((d, v) :: env) G1 H1 (wpR P ops late Q (fun w => Sat w0 w G H) fuel (L.setIfInBounds i true)))
    (hs : Region.noSelect ops = true := by kernel_rfl) (hf : Region.free .any ops L i = true := by kernel_rfl) (hr : (Region.ready .any ops L).contains i = true := by kernel_rfl)
    (hl : lateOk ops late L i = true := by kernel_rfl) (hg : gOn ops env oi = some true := by exact rfl) (hd : Nat.blt d n = true := by exact rfl) (hQ : PanicAt d Q := by repeat (first | exact pd_q rfl | apply pd_then | apply pd_block)) :
    Holds n ds w0 env G1 H1 (wpR P ops late Q (fun w => Sat w0 w G H) (fuel + 1) L) := fun a w ht hw => by
  refine wpR_first hi (Region.noSelect_spec hs) (fun c a w h => hQ c a _ w (by rw [hdst] at h; exact h)) fuel L a w (Region.free_spec hi hf) hl (by simpa using hr) (.inl ⟨gOn_spec ht hg, fun w' hw' => hv a n ds w0 w' ht hw'⟩) (hS w hw) ?_
  rw [hdst]
  exact k _ w (ht.put (of_blt hd) v) hw
theorem pq_ret (h : Holds n ds w0 env G H (Q .ret)) : Holds n ds w0 env G H (pqQ n ds env2 Q .ret) := h
theorem pq_panic {ch : List PanicEntry} (he : Env.sub env env2) (h : Holds n ds w0 env2 G H (Q (.panic ch))) : Holds n ds w0 env G H (pqQ n ds env2 Q (.panic ch)) := fun a w ht hs =>
  ⟨ht.mono (Env.sub_spec he), fun a' ht' => h a' w ht' hs⟩
/-- Behind a return: the one deferred call, then the results. -/
theorem d_ret1 {fn : Func} {f : FuncId} {cap : Array Value} {R : Ending → World → Prop} {R' : Ending → FrameMode → World → Prop} (hen : entersB P f = true)
    (hC : ∀ w, Sat w0 w G H → CallsD P f cap .returning w R') (hR : ∀ (a : Act) e u w, TT a n [{ target := .fn (.func f) cap, args := #[] }] env → R' e u w → (∃ v, e = .returned v) ∧ settle u = .returning ∧ ∃ v, (results fn a.tmps).run P w = .ok v w ∧ R (.returned v) w) :
    Holds n [{ target := .fn (.func f) cap, args := #[] }] w0 env G H (bodyPostD P fn R .ret) := fun a w ht hs => by
  show Leaves _ _ _ _ _ _ _
  rw [ht.defers]
  refine leaves_cons (by simp) (f := f) (args := cap) (by simp [invoke, enters_run hen]) ((hC w hs).mono fun e u w' h => ?_)
  obtain ⟨⟨v, rfl⟩, hu, hR'⟩ := hR a e u w' ht h
  show Leaves _ _ _ _ _ _ _
  rw [hu]
  exact hR'
theorem d_pan1 {fn : Func} {f : FuncId} {cap : Array Value} {ch : List PanicEntry} {R : Ending → World → Prop} {R' : Ending → FrameMode → World → Prop} (hen : entersB P f = true)
    (hC : ∀ w, Sat w0 w G H → CallsD P f cap (.panicking ch) w R') (hR : ∀ (a : Act) e u w, TT a n [{ target := .fn (.func f) cap, args := #[] }] env → R' e u w → (∃ v, e = .returned v) ∧ settle u = .returning ∧ ∃ v, (results fn a.tmps).run P w = .ok v w ∧ R (.returned v) w) :
    Holds n [{ target := .fn (.func f) cap, args := #[] }] w0 env G H (bodyPostD P fn R (.panic ch)) := fun a w ht hs => by
  show Leaves _ _ _ _ _ _ _
  rw [ht.defers]
  refine leaves_cons (by simp) (f := f) (args := cap) (by simp [invoke, enters_run hen]) ((hC w hs).mono fun e u w' h => ?_)
  obtain ⟨⟨v, rfl⟩, hu, hR'⟩ := hR a e u w' ht h
  show Leaves _ _ _ _ _ _ _
  rw [hu]
  exact hR'
theorem res_c2 {fn : Func} {a : Act} {t t2 : Tmp} {ty ty2 : TypeId} {b b2 : Nat} {v v2 : Value} (ht : TT a n ds env) (hr : fn.results = #[.cell t ty, .cell t2 ty2]) (hp : env.lookup t = some (Pt b 0)) (hp2 : env.lookup t2 = some (Pt b2 0)) (ha : aggB P ty = some false) (ha2 : aggB P ty2 = some false)
    (hs : Sat w0 w G H) (hb : Cel G H b 0 v) (hb2 : Cel G H b2 0 v2) : (results fn a.tmps).run P w = .ok (.tuple #[v, v2]) w := by
  have hg := ht.get t _ hp
  have hg2 := ht.get t2 _ hp2
  have hc := hb.cell hs
  have hc2 := hb2.cell hs
  simp [results, hr, hg, hg2, asAddr, loadVar, run_isAgg' ha, run_isAgg' ha2, hc, hc2]
end
attribute [local irreducible] Code.wp wpList stepK Holds Val wpR Eff Eff0 Code.wpIn wpListIn stepI Exit.then Exit.inBlock bodyPost bodyPostM

abbrev ErO (b : Nat) (c : Int) : Nat × Obj := (b, Cs [I64 c] 24)
abbrev JcO (b : Nat) (v : Value) : Nat × Obj := (b, Cs [v] 27)
abbrev JO (jp dp : Nat) (h : Jh) (s : Int) (vr : Value) : Nat × Obj := (jp, Cs [Pt dp 0, I64 h.g, I64 h.h, I64 h.e, I64 s, vr] 80)
def JH (G : Im) (jp dp : Nat) (J : Jn) (B : Hp) : Prop := ∃ vr Br, B = JO jp dp J.hd J.s vr :: Br ∧ RO G vr J.rows Br
theorem JH.up {G G' : Im} {jp dp : Nat} {J : Jn} {B : Hp} (h : JH G jp dp J B) (hG : Im.le G G') : JH G' jp dp J B := let ⟨vr, Br, h1, h2⟩ := h; ⟨vr, Br, h1, h2.up hG⟩
/-- What it gave up with is known. -/
def jrec (c : Int) : List PanicEntry := [{ v := .iface 72 (.agg #[I64 c]), recovered := true }]

theorem catchO_n (jb eb : Nat) (w0 w : World) (G : Im) (F : Hp) (hs : Sat w0 w G F) :
    CallsD Try.prog 36 #[Pt jb 0, Pt eb 0] .returning w fun e u w' => (∃ r, e = .returned r) ∧ settle u = .returning ∧ Sat w0 w' G F := by
  refine q_enter (vs := [_, _]) Try.func36 rfl Try.ntmps36 (by simp) hs fun c₀ cs hm => ?_
  refine q_seq (q_regionL [0, 1, 2, 3, 4, 5, 6, 7] rfl ?_)
  refine q_rec_n rfl rfl rfl (by simp [recoverD, hm]) ?_
  refine q_val rfl rfl rfl rfl (v_assert_n rfl (by kernel_rfl) (z := .agg #[I64 0]) (by kernel_rfl)) ?_
  refine q_val rfl rfl rfl rfl (v_move rfl) ?_
  refine q_val rfl rfl rfl rfl (v_extract rfl rfl) ?_
  refine q_val rfl rfl rfl rfl (v_extract rfl rfl) ?_
  refine q_allocA [I64 0] rfl rfl rfl (by kernel_rfl) fun b1 => ?_
  refine q_storeA (vs := [I64 0]) rfl rfl rfl rfl .head (by kernel_rfl) (by simp [Value.oneCell']) rfl ?_
  refine q_val rfl rfl rfl rfl (v_assign rfl) ?_
  refine q_nil (q_then (q_plain ?_))
  refine ww ?_
  refine c_cond_f rfl ?_
  refine ww ?_
  exact q_end (u' := c₀.mode) rfl rfl (fun w hs => ⟨⟨_, rfl⟩, by rw [hm]; rfl, hs.sb⟩)

theorem catchO_s (jb eb : Nat) (c c0 : Int) (v : Value) (w0 w : World) (G : Im) (F : Hp) (hs : Sat w0 w G (JcO jb v :: ErO eb c0 :: F)) :
    CallsD Try.prog 36 #[Pt jb 0, Pt eb 0] (.panicking (jgone c)) w fun e u w' => (∃ r, e = .returned r) ∧ settle u = .returning ∧ Sat w0 w' G (JcO jb (.pointer none) :: ErO eb c :: F) := by
  refine q_enter (vs := [_, _]) Try.func36 rfl Try.ntmps36 (by simp) hs fun c₀ cs hm => ?_
  refine q_seq (q_regionL [0, 1, 2, 3, 4, 5, 6, 7] rfl ?_)
  refine q_rec_s (v := .iface 72 (.agg #[I64 c])) (cs' := { c₀ with mode := .panicking (jrec c) } :: cs) rfl rfl rfl (by simp [recoverD, hm, jgone, jrec]) ?_
  refine q_val rfl rfl rfl rfl (v_assert_t rfl (by kernel_rfl)) ?_
  refine q_val rfl rfl rfl rfl (v_move rfl) ?_
  refine q_val rfl rfl rfl rfl (v_extract rfl rfl) ?_
  refine q_val rfl rfl rfl rfl (v_extract rfl rfl) ?_
  refine q_allocA [I64 0] rfl rfl rfl (by kernel_rfl) fun b1 => ?_
  refine q_storeA (vs := [I64 c]) rfl rfl rfl rfl .head (by kernel_rfl) (by simp [Value.oneCell']) rfl ?_
  refine q_val rfl rfl rfl rfl (v_assign rfl) ?_
  refine q_nil (q_then (q_plain ?_))
  refine ww ?_
  refine c_cond_t rfl ?_
  refine ww ?_
  refine c_sub (JcO jb v :: ErO eb c0 :: (b1, Cs [I64 c] 72) :: F) sbx ?_
  refine r_startS [(b1, Cs [I64 c] 72)] [] (by kernel_rfl) (fun w h => h.sb) ?_
  refine r_tk 0 rfl rfl (v_field 0 rfl (by kernel_rfl)) (fun _ h => (h.sb)) ?_
  refine r_tk 1 rfl rfl (v_load rfl (Cel.head rfl) (by kernel_rfl)) (fun _ h => (h.sb)) ?_
  refine r_one 2 (by kernel_rfl) rfl ?_
  refine s_store1 rfl rfl rfl .head (by kernel_rfl) rfl (by simp) ?_
  refine r_next (fun w h => h.sb) ?_
  refine r_one 3 (by kernel_rfl) rfl ?_
  refine s_store1 rfl rfl rfl (.tail .head) (by kernel_rfl) rfl (by simp) ?_
  refine r_next (fun w h => h.sb) ?_
  refine r_done (by kernel_rfl) ?_
  refine ww ?_
  exact q_end (u' := .panicking (jrec c)) rfl rfl (fun w hs => ⟨⟨_, rfl⟩, rfl, (show Sat w0 w G (ErO eb c :: JcO jb (.pointer none) :: (b1, Cs [I64 c] 72) :: F) from hs).sb⟩)

/-- How Open ends where it gives up. -/
theorem open_pan (c c0 : Int) (jb eb : Nat) (v : Value) (w0 : World) (G0 G : Im) (K F : Hp) (hG : Im.le G0 G) (fn : Func) (hr : fn.results = #[.cell 2 27, .cell 3 24]) (R : Ending → World → Prop) (n : Nat) (hR : ∀ w, Sat w0 w G F → R (.returned (.tuple #[.pointer none, I64 c])) w) :
    Holds n [{ target := .fn (.func 36) #[Pt jb 0, Pt eb 0], args := #[] }] w0 [(2, Pt jb 0), (3, Pt eb 0)] G (JcO jb v :: ErO eb c0 :: (K ++ F)) (bodyPostD Try.prog fn R (.panic (jgone c))) :=
  d_pan1 (by kernel_rfl) (fun w hs => catchO_s jb eb c c0 v _ w _ _ hs) (fun a e y w' ht ⟨h1, h2, h3⟩ => ⟨h1, h2, _, res_c2 ht hr rfl rfl (by kernel_rfl) (by kernel_rfl) h3 (Cel.head rfl) (Cel.tail (Cel.head rfl)), hR w' (h3.sb)⟩)
end Go.Proofs.Ytkjneelekfdpfaa
