/- The walks of package layout: what catches, Read. -/
import Derived.Test.YtldkldmjcacopaaLayR1
import Derived.Test.YtldkldmjcacopaaEye2
namespace Go.Proofs.Ytldkldmjcacopaa
open Go
set_option linter.unusedVariables false
set_option linter.unusedSimpArgs false
set_option maxHeartbeats 1600000
section
variable {w0 w : World} {G G' : Im} {H H' H1 : Hp} {n d : Nat} {ds : List Deferred} {env : Env} {P : Program} {ops : Array Oper} {K : Act → World → Prop}
variable {QS : Exit → Act → List Frame → World → Prop} {cs cs' : List Frame} {rest : List Nat}
/-- As Q, and no panic. -/
def npQ (Q : Exit → Act → World → Prop) : Exit → Act → World → Prop
  | .panic _, _, _ => False
  | e, a, w => Q e a w
theorem pk_no {Q : Exit → Act → World → Prop} : PanicOk (npQ Q) := fun _ _ _ _ _ h => h.elim
theorem npQ_le {Q : Exit → Act → World → Prop} : ∀ e a w, npQ Q e a w → Q e a w := fun e a w h => by cases e <;> first | exact h | exact h.elim
theorem c_np {Q : Exit → Act → World → Prop} {c : Code} (h : Holds n ds w0 env G H (c.wp P (npQ Q))) : Holds n ds w0 env G H (c.wp P Q) := fun a w ht hs => wp_mono (h a w ht hs) npQ_le
theorem np_n {Q : Exit → Act → World → Prop} (h : Holds n ds w0 env G H (Q .normal)) : Holds n ds w0 env G H (npQ Q .normal) := h
/-- A call in a deferred function; it returns. -/
theorem q_call {i : Nat} {o : Oper} {fo : Operand} {xs : List Operand} {ts : Array TypeId} {f : FuncId} {vs : List Value} {cap : Array Value} {R : Ending → World → Prop} (hi : ops[i]? = some o) (hop : o.op = .call { callee := .value fo, args := xs.toArray, argTypes := ts })
    (hg : gOn ops env o = some true) (hd : o.dst = some d) (hlt : Nat.blt d n = true) (hf : ev env fo = some (.func (.func f) #[] cap)) (hxs : evl env xs = some vs) (hen : entersB P f = true)
    (hC : ∀ w, Sat w0 w G H → Calls P f (vs.toArray ++ cap) w R) (k : ∀ e w', R e w' → ∃ v, e = .returned v ∧ HoldsW n ds ((d, v) :: env) w' (fun a w => wpOpsS P ops QS rest a cs w)) :
    Holds n ds w0 env G H (fun a w => wpOpsS P ops QS (i :: rest) a cs w) := fun a w ht hs => by
  show wpOpsS P ops QS (i :: rest) a cs w
  have hrun : (execOp a.eval o).run P w = .ok (.enter f (vs.toArray ++ cap)) w := by
    simp [execOp, hop, resolve, ht.eval hf, ht.evall hxs, Deferred.ofValue, invoke, enters_run hen]
  simp only [wpOpsS, hi, gOn_spec ht hg, if_true, hrun]
  rw [Oper.upon_enter]
  refine (hC w hs).mono fun e w' hr => ?_
  obtain ⟨v, rfl, hk⟩ := k e w' hr
  simp only [hd]
  exact hk _ (ht.put (of_blt hlt) v)
/-- Behind a return: the one deferred call, then the results. -/
theorem d_ret1 {fn : Func} {f : FuncId} {cap : Array Value} {R : Ending → World → Prop} {R' : Ending → FrameMode → World → Prop} (hen : entersB P f = true)
    (hC : ∀ w, Sat w0 w G H → CallsD P f cap .returning w R') (hR : ∀ (a : Act) e u w, TT a n [{ target := .fn (.func f) cap, args := #[] }] env → R' e u w → (∃ v, e = .returned v) ∧ settle u = .returning ∧ ∃ v, (results fn a.tmps).run P w = .ok v w ∧ R (.returned v) w) :
    Holds n [{ target := .fn (.func f) cap, args := #[] }] w0 env G H (bodyPostD P fn R .ret) := fun a w ht hs => by
  show Leaves _ _ _ _ _ _ _
  rw [ht.defers]
  refine leaves_cons (by simp) (f := f) (args := cap) (by simp [invoke, enters_run hen]) ((hC w hs).mono fun e u w' h => ?_)
  obtain ⟨⟨v, rfl⟩, hu, hR'⟩ := hR a e u w' ht h
  show Leaves _ _ _ _ _ _ _
  rw [hu]
  exact hR'
theorem d_pan1 {fn : Func} {f : FuncId} {cap : Array Value} {ch : List PanicEntry} {R : Ending → World → Prop} {R' : Ending → FrameMode → World → Prop} (hen : entersB P f = true)
    (hC : ∀ w, Sat w0 w G H → CallsD P f cap (.panicking ch) w R') (hR : ∀ (a : Act) e u w, TT a n [{ target := .fn (.func f) cap, args := #[] }] env → R' e u w → (∃ v, e = .returned v) ∧ settle u = .returning ∧ ∃ v, (results fn a.tmps).run P w = .ok v w ∧ R (.returned v) w) :
    Holds n [{ target := .fn (.func f) cap, args := #[] }] w0 env G H (bodyPostD P fn R (.panic ch)) := fun a w ht hs => by
  show Leaves _ _ _ _ _ _ _
  rw [ht.defers]
  refine leaves_cons (by simp) (f := f) (args := cap) (by simp [invoke, enters_run hen]) ((hC w hs).mono fun e u w' h => ?_)
  obtain ⟨⟨v, rfl⟩, hu, hR'⟩ := hR a e u w' ht h
  show Leaves _ _ _ _ _ _ _
  rw [hu]
  exact hR'
theorem res_c2 {fn : Func} {a : Act} {t t2 : Tmp} {ty ty2 : TypeId} {b b2 : Nat} {v v2 : Value} (ht : TT a n ds env) (hr : fn.results = #[.cell t ty, .cell t2 ty2]) (hp : env.lookup t = some (Pt b 0)) (hp2 : env.lookup t2 = some (Pt b2 0)) (ha : aggB P ty = some false) (ha2 : aggB P ty2 = some false)
    (hs : Sat w0 w G H) (hb : Cel G H b 0 v) (hb2 : Cel G H b2 0 v2) : (results fn a.tmps).run P w = .ok (.tuple #[v, v2]) w := by
  have hg := ht.get t _ hp
  have hg2 := ht.get t2 _ hp2
  have hc := hb.cell hs
  have hc2 := hb2.cell hs
  simp [results, hr, hg, hg2, asAddr, loadVar, run_isAgg' ha, run_isAgg' ha2, hc, hc2]
theorem res_c3 {fn : Func} {a : Act} {t t2 t3 : Tmp} {ty ty2 ty3 : TypeId} {b b2 b3 sz : Nat} {vs : List Value} {v2 v3 : Value} (ht : TT a n ds env) (hr : fn.results = #[.cell t ty, .cell t2 ty2, .cell t3 ty3]) (hp : env.lookup t = some (Pt b 0)) (hp2 : env.lookup t2 = some (Pt b2 0)) (hp3 : env.lookup t3 = some (Pt b3 0))
    (ha : aggB P ty = some true) (hz : szB P ty = some sz) (hl : vs.length = sz) (ha2 : aggB P ty2 = some false) (ha3 : aggB P ty3 = some false)
    (hs : Sat w0 w G H) (hb : ∀ (j : Nat) u, vs[j]? = some u → Cel G H b (0 + j) u) (hb2 : Cel G H b2 0 v2) (hb3 : Cel G H b3 0 v3) : (results fn a.tmps).run P w = .ok (.tuple #[.agg vs.toArray, v2, v3]) w := by
  have hg := ht.get t _ hp
  have hg2 := ht.get t2 _ hp2
  have hg3 := ht.get t3 _ hp3
  have hc2 := hb2.cell hs
  have hc3 := hb3.cell hs
  have hA := run_loadAgg ha hz hl hb hs
  have hv2 : (loadVar ty2 ⟨b2, 0, none⟩).run P w = .ok v2 w := by simp [loadVar, run_isAgg' ha2, hc2]
  have hv3 : (loadVar ty3 ⟨b3, 0, none⟩).run P w = .ok v3 w := by simp [loadVar, run_isAgg' ha3, hc3]
  simp [results, hr, hg, hg2, hg3, asAddr, hA, hv2, hv3]
end
attribute [local irreducible] Code.wp wpList stepK Holds Val wpR Eff Eff0 Code.wpIn wpListIn stepI Exit.then Exit.inBlock bodyPost bodyPostM

abbrev ErO (b : Nat) (c : Int) : Nat × Obj := (b, Cs [I64 c] 28)
abbrev ByO (b : Nat) (v : Value) : Nat × Obj := (b, Cs [v] 22)
theorem caught_n (eb : Nat) (w0 w : World) (G : Im) (F : Hp) (hs : Sat w0 w G F) :
    Calls Try.prog 33 #[.nilIface, Pt eb 0] w fun e w' => e = .returned (.bool false) ∧ Sat w0 w' G F := by
  refine f_enter (vs := [_, _]) Try.func33 rfl Try.ntmps33 (by simp) hs ?_
  repeat (first | (refine c_cons ?_; first | refine s_val (by first | exact v_move rfl | exact v_assign rfl | exact v_len rfl (by kernel_rfl) | exact v_lss rfl rfl | exact v_neq rfl rfl | exact v_eql rfl rfl | exact v_gtr rfl rfl | exact v_leq rfl rfl | exact v_geq rfl rfl | exact v_add rfl rfl (by omega) | exact v_sub rfl rfl (by omega) | exact v_not rfl | exact v_pick_t rfl rfl | exact v_pick_f rfl rfl | exact v_xor8 rfl rfl | exact v_makeFunc rfl rfl | exact v_extract rfl rfl | exact v_nilCheck rfl | exact v_max rfl rfl | exact v_min rfl rfl | exact v_eqb_same rfl rfl (by kernel_rfl) | exact v_eqb rfl rfl (by kernel_rfl) | exact v_u8int rfl (by kernel_rfl) (by kernel_rfl) | exact v_eqnilP rfl rfl (by kernel_rfl) | exact v_neqnilP rfl rfl (by kernel_rfl) | exact v_eqnilS rfl rfl (by kernel_rfl)) rfl rfl rfl ?_ | refine s_skip rfl rfl rfl ?_ | refine s_skip0 rfl rfl ?_) | refine c_nil ?_ | refine c_seq ?_ | refine c_region ?_ | refine c_block ?_ | refine c_skip ?_ | refine c_exit ?_ | refine c_ret ?_ | refine x_then ?_ | refine x_block ?_ | refine x_then_exit ?_ | refine x_then_ret ?_ | refine x_block_ret ?_ | refine x_block_eq ?_ | refine x_block_ne rfl ?_)
  refine c_cons (s_val (v_assert_n rfl (by kernel_rfl) (z := .agg #[I64 0]) (by kernel_rfl)) rfl rfl rfl ?_)
  repeat (first | (refine c_cons ?_; first | refine s_val (by first | exact v_move rfl | exact v_assign rfl | exact v_len rfl (by kernel_rfl) | exact v_lss rfl rfl | exact v_neq rfl rfl | exact v_eql rfl rfl | exact v_gtr rfl rfl | exact v_leq rfl rfl | exact v_geq rfl rfl | exact v_add rfl rfl (by omega) | exact v_sub rfl rfl (by omega) | exact v_not rfl | exact v_pick_t rfl rfl | exact v_pick_f rfl rfl | exact v_xor8 rfl rfl | exact v_makeFunc rfl rfl | exact v_extract rfl rfl | exact v_nilCheck rfl | exact v_max rfl rfl | exact v_min rfl rfl | exact v_eqb_same rfl rfl (by kernel_rfl) | exact v_eqb rfl rfl (by kernel_rfl) | exact v_u8int rfl (by kernel_rfl) (by kernel_rfl) | exact v_eqnilP rfl rfl (by kernel_rfl) | exact v_neqnilP rfl rfl (by kernel_rfl) | exact v_eqnilS rfl rfl (by kernel_rfl)) rfl rfl rfl ?_ | refine s_skip rfl rfl rfl ?_ | refine s_skip0 rfl rfl ?_) | refine c_nil ?_ | refine c_seq ?_ | refine c_region ?_ | refine c_block ?_ | refine c_skip ?_ | refine c_exit ?_ | refine c_ret ?_ | refine x_then ?_ | refine x_block ?_ | refine x_then_exit ?_ | refine x_then_ret ?_ | refine x_block_ret ?_ | refine x_block_eq ?_ | refine x_block_ne rfl ?_)
  refine c_cons (s_allocA [I64 0] (by kernel_rfl) rfl rfl fun b1 => ?_)
  refine c_cons (s_storeA (vs := [I64 0]) rfl rfl rfl .head (by kernel_rfl) (by simp [Value.oneCell']) rfl ?_)
  repeat (first | (refine c_cons ?_; first | refine s_val (by first | exact v_move rfl | exact v_assign rfl | exact v_len rfl (by kernel_rfl) | exact v_lss rfl rfl | exact v_neq rfl rfl | exact v_eql rfl rfl | exact v_gtr rfl rfl | exact v_leq rfl rfl | exact v_geq rfl rfl | exact v_add rfl rfl (by omega) | exact v_sub rfl rfl (by omega) | exact v_not rfl | exact v_pick_t rfl rfl | exact v_pick_f rfl rfl | exact v_xor8 rfl rfl | exact v_makeFunc rfl rfl | exact v_extract rfl rfl | exact v_nilCheck rfl | exact v_max rfl rfl | exact v_min rfl rfl | exact v_eqb_same rfl rfl (by kernel_rfl) | exact v_eqb rfl rfl (by kernel_rfl) | exact v_u8int rfl (by kernel_rfl) (by kernel_rfl) | exact v_eqnilP rfl rfl (by kernel_rfl) | exact v_neqnilP rfl rfl (by kernel_rfl) | exact v_eqnilS rfl rfl (by kernel_rfl)) rfl rfl rfl ?_ | refine s_skip rfl rfl rfl ?_ | refine s_skip0 rfl rfl ?_) | refine c_nil ?_ | refine c_seq ?_ | refine c_region ?_ | refine c_block ?_ | refine c_skip ?_ | refine c_exit ?_ | refine c_ret ?_ | refine x_then ?_ | refine x_block ?_ | refine x_then_exit ?_ | refine x_then_ret ?_ | refine x_block_ret ?_ | refine x_block_eq ?_ | refine x_block_ne rfl ?_)
  refine c_cond_f rfl ?_
  repeat (first | (refine c_cons ?_; first | refine s_val (by first | exact v_move rfl | exact v_assign rfl | exact v_len rfl (by kernel_rfl) | exact v_lss rfl rfl | exact v_neq rfl rfl | exact v_eql rfl rfl | exact v_gtr rfl rfl | exact v_leq rfl rfl | exact v_geq rfl rfl | exact v_add rfl rfl (by omega) | exact v_sub rfl rfl (by omega) | exact v_not rfl | exact v_pick_t rfl rfl | exact v_pick_f rfl rfl | exact v_xor8 rfl rfl | exact v_makeFunc rfl rfl | exact v_extract rfl rfl | exact v_nilCheck rfl | exact v_max rfl rfl | exact v_min rfl rfl | exact v_eqb_same rfl rfl (by kernel_rfl) | exact v_eqb rfl rfl (by kernel_rfl) | exact v_u8int rfl (by kernel_rfl) (by kernel_rfl) | exact v_eqnilP rfl rfl (by kernel_rfl) | exact v_neqnilP rfl rfl (by kernel_rfl) | exact v_eqnilS rfl rfl (by kernel_rfl)) rfl rfl rfl ?_ | refine s_skip rfl rfl rfl ?_ | refine s_skip0 rfl rfl ?_) | refine c_nil ?_ | refine c_seq ?_ | refine c_region ?_ | refine c_block ?_ | refine c_skip ?_ | refine c_exit ?_ | refine c_ret ?_ | refine x_then ?_ | refine x_block ?_ | refine x_then_exit ?_ | refine x_then_ret ?_ | refine x_block_ret ?_ | refine x_block_eq ?_ | refine x_block_ne rfl ?_)
  exact f_ret1 rfl rfl (fun w hs => ⟨rfl, hs.tl⟩)

theorem caught_s (eb : Nat) (c c0 : Int) (w0 w : World) (G : Im) (F : Hp) (hs : Sat w0 w G (ErO eb c0 :: F)) :
    Calls Try.prog 33 #[.iface 94 (.agg #[I64 c]), Pt eb 0] w fun e w' => e = .returned (.bool true) ∧ Sat w0 w' G (ErO eb c :: F) := by
  refine f_enter (vs := [_, _]) Try.func33 rfl Try.ntmps33 (by simp) hs ?_
  repeat (first | (refine c_cons ?_; first | refine s_val (by first | exact v_move rfl | exact v_assign rfl | exact v_len rfl (by kernel_rfl) | exact v_lss rfl rfl | exact v_neq rfl rfl | exact v_eql rfl rfl | exact v_gtr rfl rfl | exact v_leq rfl rfl | exact v_geq rfl rfl | exact v_add rfl rfl (by omega) | exact v_sub rfl rfl (by omega) | exact v_not rfl | exact v_pick_t rfl rfl | exact v_pick_f rfl rfl | exact v_xor8 rfl rfl | exact v_makeFunc rfl rfl | exact v_extract rfl rfl | exact v_nilCheck rfl | exact v_max rfl rfl | exact v_min rfl rfl | exact v_eqb_same rfl rfl (by kernel_rfl) | exact v_eqb rfl rfl (by kernel_rfl) | exact v_u8int rfl (by kernel_rfl) (by kernel_rfl) | exact v_eqnilP rfl rfl (by kernel_rfl) | exact v_neqnilP rfl rfl (by kernel_rfl) | exact v_eqnilS rfl rfl (by kernel_rfl)) rfl rfl rfl ?_ | refine s_skip rfl rfl rfl ?_ | refine s_skip0 rfl rfl ?_) | refine c_nil ?_ | refine c_seq ?_ | refine c_region ?_ | refine c_block ?_ | refine c_skip ?_ | refine c_exit ?_ | refine c_ret ?_ | refine x_then ?_ | refine x_block ?_ | refine x_then_exit ?_ | refine x_then_ret ?_ | refine x_block_ret ?_ | refine x_block_eq ?_ | refine x_block_ne rfl ?_)
  refine c_cons (s_val (v_assert_t rfl (by kernel_rfl)) rfl rfl rfl ?_)
  repeat (first | (refine c_cons ?_; first | refine s_val (by first | exact v_move rfl | exact v_assign rfl | exact v_len rfl (by kernel_rfl) | exact v_lss rfl rfl | exact v_neq rfl rfl | exact v_eql rfl rfl | exact v_gtr rfl rfl | exact v_leq rfl rfl | exact v_geq rfl rfl | exact v_add rfl rfl (by omega) | exact v_sub rfl rfl (by omega) | exact v_not rfl | exact v_pick_t rfl rfl | exact v_pick_f rfl rfl | exact v_xor8 rfl rfl | exact v_makeFunc rfl rfl | exact v_extract rfl rfl | exact v_nilCheck rfl | exact v_max rfl rfl | exact v_min rfl rfl | exact v_eqb_same rfl rfl (by kernel_rfl) | exact v_eqb rfl rfl (by kernel_rfl) | exact v_u8int rfl (by kernel_rfl) (by kernel_rfl) | exact v_eqnilP rfl rfl (by kernel_rfl) | exact v_neqnilP rfl rfl (by kernel_rfl) | exact v_eqnilS rfl rfl (by kernel_rfl)) rfl rfl rfl ?_ | refine s_skip rfl rfl rfl ?_ | refine s_skip0 rfl rfl ?_) | refine c_nil ?_ | refine c_seq ?_ | refine c_region ?_ | refine c_block ?_ | refine c_skip ?_ | refine c_exit ?_ | refine c_ret ?_ | refine x_then ?_ | refine x_block ?_ | refine x_then_exit ?_ | refine x_then_ret ?_ | refine x_block_ret ?_ | refine x_block_eq ?_ | refine x_block_ne rfl ?_)
  refine c_cons (s_allocA [I64 0] (by kernel_rfl) rfl rfl fun b1 => ?_)
  refine c_cons (s_storeA (vs := [I64 c]) rfl rfl rfl .head (by kernel_rfl) (by simp [Value.oneCell']) rfl ?_)
  repeat (first | (refine c_cons ?_; first | refine s_val (by first | exact v_move rfl | exact v_assign rfl | exact v_len rfl (by kernel_rfl) | exact v_lss rfl rfl | exact v_neq rfl rfl | exact v_eql rfl rfl | exact v_gtr rfl rfl | exact v_leq rfl rfl | exact v_geq rfl rfl | exact v_add rfl rfl (by omega) | exact v_sub rfl rfl (by omega) | exact v_not rfl | exact v_pick_t rfl rfl | exact v_pick_f rfl rfl | exact v_xor8 rfl rfl | exact v_makeFunc rfl rfl | exact v_extract rfl rfl | exact v_nilCheck rfl | exact v_max rfl rfl | exact v_min rfl rfl | exact v_eqb_same rfl rfl (by kernel_rfl) | exact v_eqb rfl rfl (by kernel_rfl) | exact v_u8int rfl (by kernel_rfl) (by kernel_rfl) | exact v_eqnilP rfl rfl (by kernel_rfl) | exact v_neqnilP rfl rfl (by kernel_rfl) | exact v_eqnilS rfl rfl (by kernel_rfl)) rfl rfl rfl ?_ | refine s_skip rfl rfl rfl ?_ | refine s_skip0 rfl rfl ?_) | refine c_nil ?_ | refine c_seq ?_ | refine c_region ?_ | refine c_block ?_ | refine c_skip ?_ | refine c_exit ?_ | refine c_ret ?_ | refine x_then ?_ | refine x_block ?_ | refine x_then_exit ?_ | refine x_then_ret ?_ | refine x_block_ret ?_ | refine x_block_eq ?_ | refine x_block_ne rfl ?_)
  refine c_cond_t rfl ?_
  repeat (first | (refine c_cons ?_; first | refine s_val (by first | exact v_move rfl | exact v_assign rfl | exact v_len rfl (by kernel_rfl) | exact v_lss rfl rfl | exact v_neq rfl rfl | exact v_eql rfl rfl | exact v_gtr rfl rfl | exact v_leq rfl rfl | exact v_geq rfl rfl | exact v_add rfl rfl (by omega) | exact v_sub rfl rfl (by omega) | exact v_not rfl | exact v_pick_t rfl rfl | exact v_pick_f rfl rfl | exact v_xor8 rfl rfl | exact v_makeFunc rfl rfl | exact v_extract rfl rfl | exact v_nilCheck rfl | exact v_max rfl rfl | exact v_min rfl rfl | exact v_eqb_same rfl rfl (by kernel_rfl) | exact v_eqb rfl rfl (by kernel_rfl) | exact v_u8int rfl (by kernel_rfl) (by kernel_rfl) | exact v_eqnilP rfl rfl (by kernel_rfl) | exact v_neqnilP rfl rfl (by kernel_rfl) | exact v_eqnilS rfl rfl (by kernel_rfl)) rfl rfl rfl ?_ | refine s_skip rfl rfl rfl ?_ | refine s_skip0 rfl rfl ?_) | refine c_nil ?_ | refine c_seq ?_ | refine c_region ?_ | refine c_block ?_ | refine c_skip ?_ | refine c_exit ?_ | refine c_ret ?_ | refine x_then ?_ | refine x_block ?_ | refine x_then_exit ?_ | refine x_then_ret ?_ | refine x_block_ret ?_ | refine x_block_eq ?_ | refine x_block_ne rfl ?_)
  refine c_cons (s_val (v_field 0 rfl (by kernel_rfl)) rfl rfl rfl ?_)
  refine c_cons (s_val (v_load rfl (Cel.head rfl) (by kernel_rfl)) rfl rfl rfl ?_)
  repeat (first | (refine c_cons ?_; first | refine s_val (by first | exact v_move rfl | exact v_assign rfl | exact v_len rfl (by kernel_rfl) | exact v_lss rfl rfl | exact v_neq rfl rfl | exact v_eql rfl rfl | exact v_gtr rfl rfl | exact v_leq rfl rfl | exact v_geq rfl rfl | exact v_add rfl rfl (by omega) | exact v_sub rfl rfl (by omega) | exact v_not rfl | exact v_pick_t rfl rfl | exact v_pick_f rfl rfl | exact v_xor8 rfl rfl | exact v_makeFunc rfl rfl | exact v_extract rfl rfl | exact v_nilCheck rfl | exact v_max rfl rfl | exact v_min rfl rfl | exact v_eqb_same rfl rfl (by kernel_rfl) | exact v_eqb rfl rfl (by kernel_rfl) | exact v_u8int rfl (by kernel_rfl) (by kernel_rfl) | exact v_eqnilP rfl rfl (by kernel_rfl) | exact v_neqnilP rfl rfl (by kernel_rfl) | exact v_eqnilS rfl rfl (by kernel_rfl)) rfl rfl rfl ?_ | refine s_skip rfl rfl rfl ?_ | refine s_skip0 rfl rfl ?_) | refine c_nil ?_ | refine c_seq ?_ | refine c_region ?_ | refine c_block ?_ | refine c_skip ?_ | refine c_exit ?_ | refine c_ret ?_ | refine x_then ?_ | refine x_block ?_ | refine x_then_exit ?_ | refine x_then_ret ?_ | refine x_block_ret ?_ | refine x_block_eq ?_ | refine x_block_ne rfl ?_)
  refine c_cons (s_store1 rfl rfl rfl (.tail .head) (by kernel_rfl) rfl (by simp) ?_)
  change Holds _ _ _ _ _ (ErO eb c :: (b1, _) :: F) _
  repeat (first | (refine c_cons ?_; first | refine s_val (by first | exact v_move rfl | exact v_assign rfl | exact v_len rfl (by kernel_rfl) | exact v_lss rfl rfl | exact v_neq rfl rfl | exact v_eql rfl rfl | exact v_gtr rfl rfl | exact v_leq rfl rfl | exact v_geq rfl rfl | exact v_add rfl rfl (by omega) | exact v_sub rfl rfl (by omega) | exact v_not rfl | exact v_pick_t rfl rfl | exact v_pick_f rfl rfl | exact v_xor8 rfl rfl | exact v_makeFunc rfl rfl | exact v_extract rfl rfl | exact v_nilCheck rfl | exact v_max rfl rfl | exact v_min rfl rfl | exact v_eqb_same rfl rfl (by kernel_rfl) | exact v_eqb rfl rfl (by kernel_rfl) | exact v_u8int rfl (by kernel_rfl) (by kernel_rfl) | exact v_eqnilP rfl rfl (by kernel_rfl) | exact v_neqnilP rfl rfl (by kernel_rfl) | exact v_eqnilS rfl rfl (by kernel_rfl)) rfl rfl rfl ?_ | refine s_skip rfl rfl rfl ?_ | refine s_skip0 rfl rfl ?_) | refine c_nil ?_ | refine c_seq ?_ | refine c_region ?_ | refine c_block ?_ | refine c_skip ?_ | refine c_exit ?_ | refine c_ret ?_ | refine x_then ?_ | refine x_block ?_ | refine x_then_exit ?_ | refine x_then_ret ?_ | refine x_block_ret ?_ | refine x_block_eq ?_ | refine x_block_ne rfl ?_)
  exact f_ret1 rfl rfl (fun w hs => ⟨rfl, hs.sb⟩)
end Go.Proofs.Ytldkldmjcacopaa
