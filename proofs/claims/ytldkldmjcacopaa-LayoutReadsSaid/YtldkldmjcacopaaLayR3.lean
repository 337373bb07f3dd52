/- The walks of package layout: the deferred functions, Read. -/
import Derived.Test.YtldkldmjcacopaaLayR2
namespace Go.Proofs.Ytldkldmjcacopaa
open Go
set_option linter.unusedVariables false
set_option linter.unusedSimpArgs false
set_option maxHeartbeats 1600000
abbrev HdO (b : Nat) (h : Hd) : Nat × Obj := (b, Cs [I64 h.c, I64 h.l, I64 h.n, I64 h.i, I64 h.s, I64 h.z] 27)
def hd0 : Hd := ⟨0, 0, 0, 0, 0, 0⟩
def readH (b : List UInt8) : Hd := if readE b = 0 then hdOf b else hd0
def readB (b : List UInt8) : List UInt8 := if readE b = 0 then b.drop 12 else []
/-- What it gave up with is known. -/
def lrec (c : Int) : List PanicEntry := [{ v := .iface 94 (.agg #[I64 c]), recovered := true }]
attribute [local irreducible] Code.wp wpList stepK Holds Val wpR Eff Eff0 Code.wpIn wpListIn stepI Exit.then Exit.inBlock bodyPost bodyPostM

theorem catchR_n (eb hb rb : Nat) (w0 w : World) (G : Im) (F : Hp) (hs : Sat w0 w G F) :
    CallsD Try.prog 32 #[Pt eb 0, Pt hb 0, Pt rb 0] .returning w fun e u w' => (∃ r, e = .returned r) ∧ settle u = .returning ∧ Sat w0 w' G F := by
  refine q_enter (vs := [_, _, _]) Try.func32 rfl Try.ntmps32 (by simp) hs fun c₀ cs hm => ?_
  refine q_seq (q_regionL [0, 1] rfl ?_)
  refine q_rec_n rfl rfl rfl (by simp [recoverD, hm]) ?_
  refine q_call (xs := [_, _]) rfl rfl rfl rfl rfl rfl rfl (by kernel_rfl) (fun w hs => caught_n eb _ w _ _ hs) ?_
  rintro e w' ⟨rfl, hs'⟩
  refine ⟨_, rfl, Holds.atw ?_ hs'⟩
  clear hs'
  refine q_nil (q_then (q_plain ?_))
  refine c_cond_f rfl ?_
  repeat (first | (refine c_cons ?_; first | refine s_val (by first | exact v_move rfl | exact v_assign rfl | exact v_len rfl (by kernel_rfl) | exact v_lss rfl rfl | exact v_neq rfl rfl | exact v_eql rfl rfl | exact v_gtr rfl rfl | exact v_leq rfl rfl | exact v_geq rfl rfl | exact v_add rfl rfl (by omega) | exact v_sub rfl rfl (by omega) | exact v_not rfl | exact v_pick_t rfl rfl | exact v_pick_f rfl rfl | exact v_xor8 rfl rfl | exact v_makeFunc rfl rfl | exact v_extract rfl rfl | exact v_nilCheck rfl | exact v_max rfl rfl | exact v_min rfl rfl | exact v_eqb_same rfl rfl (by kernel_rfl) | exact v_eqb rfl rfl (by kernel_rfl) | exact v_u8int rfl (by kernel_rfl) (by kernel_rfl) | exact v_eqnilP rfl rfl (by kernel_rfl) | exact v_neqnilP rfl rfl (by kernel_rfl) | exact v_eqnilS rfl rfl (by kernel_rfl)) rfl rfl rfl ?_ | refine s_skip rfl rfl rfl ?_ | refine s_skip0 rfl rfl ?_) | refine c_nil ?_ | refine c_seq ?_ | refine c_region ?_ | refine c_block ?_ | refine c_skip ?_ | refine c_exit ?_ | refine c_ret ?_ | refine x_then ?_ | refine x_block ?_ | refine x_then_exit ?_ | refine x_then_ret ?_ | refine x_block_ret ?_ | refine x_block_eq ?_ | refine x_block_ne rfl ?_)
  exact q_end (u' := c₀.mode) rfl rfl (fun w hs => ⟨⟨_, rfl⟩, by rw [hm]; rfl, hs⟩)

theorem catchR_s (eb hb rb : Nat) (c c0 : Int) (h : Hd) (v : Value) (w0 w : World) (G : Im) (F : Hp) (hs : Sat w0 w G (ErO eb c0 :: HdO hb h :: ByO rb v :: F)) :
    CallsD Try.prog 32 #[Pt eb 0, Pt hb 0, Pt rb 0] (.panicking (lgone c)) w fun e u w' => (∃ r, e = .returned r) ∧ settle u = .returning ∧ Sat w0 w' G (ErO eb c :: HdO hb hd0 :: ByO rb (.slice none 0 0) :: F) := by
  refine q_enter (vs := [_, _, _]) Try.func32 rfl Try.ntmps32 (by simp) hs fun c₀ cs hm => ?_
  refine q_seq (q_regionL [0, 1] rfl ?_)
  refine q_rec_s (v := .iface 94 (.agg #[I64 c])) (cs' := { c₀ with mode := .panicking (lrec c) } :: cs) rfl rfl rfl (by simp [recoverD, hm, lgone, lrec]) ?_
  refine q_call (xs := [_, _]) rfl rfl rfl rfl rfl rfl rfl (by kernel_rfl) (fun w hs => caught_s eb c c0 _ w _ _ hs) ?_
  rintro e w' ⟨rfl, hs'⟩
  refine ⟨_, rfl, Holds.atw ?_ hs'⟩
  clear hs'
  refine q_nil (q_then (q_plain ?_))
  refine c_cond_t rfl ?_
  repeat (first | (refine c_cons ?_; first | refine s_val (by first | exact v_move rfl | exact v_assign rfl | exact v_len rfl (by kernel_rfl) | exact v_lss rfl rfl | exact v_neq rfl rfl | exact v_eql rfl rfl | exact v_gtr rfl rfl | exact v_leq rfl rfl | exact v_geq rfl rfl | exact v_add rfl rfl (by omega) | exact v_sub rfl rfl (by omega) | exact v_not rfl | exact v_pick_t rfl rfl | exact v_pick_f rfl rfl | exact v_xor8 rfl rfl | exact v_makeFunc rfl rfl | exact v_extract rfl rfl | exact v_nilCheck rfl | exact v_max rfl rfl | exact v_min rfl rfl | exact v_eqb_same rfl rfl (by kernel_rfl) | exact v_eqb rfl rfl (by kernel_rfl) | exact v_u8int rfl (by kernel_rfl) (by kernel_rfl) | exact v_eqnilP rfl rfl (by kernel_rfl) | exact v_neqnilP rfl rfl (by kernel_rfl) | exact v_eqnilS rfl rfl (by kernel_rfl)) rfl rfl rfl ?_ | refine s_skip rfl rfl rfl ?_ | refine s_skip0 rfl rfl ?_) | refine c_nil ?_ | refine c_seq ?_ | refine c_region ?_ | refine c_block ?_ | refine c_skip ?_ | refine c_exit ?_ | refine c_ret ?_ | refine x_then ?_ | refine x_block ?_ | refine x_then_exit ?_ | refine x_then_ret ?_ | refine x_block_ret ?_ | refine x_block_eq ?_ | refine x_block_ne rfl ?_)
  refine c_cons (s_val (v_build (ps := []) #[I64 0, I64 0, I64 0, I64 0, I64 0, I64 0] rfl (by kernel_rfl)) rfl rfl rfl ?_)
  refine c_cons (s_storeA (vs := [I64 0, I64 0, I64 0, I64 0, I64 0, I64 0]) rfl rfl rfl (.tail .head) (by kernel_rfl) (by simp [Value.oneCell']) rfl ?_)
  refine c_cons (s_store1 rfl rfl rfl (.tail (.tail .head)) (by kernel_rfl) rfl (by simp) ?_)
  change Holds _ _ _ _ _ (ByO rb (.slice none 0 0) :: HdO hb hd0 :: ErO eb c :: F) _
  repeat (first | (refine c_cons ?_; first | refine s_val (by first | exact v_move rfl | exact v_assign rfl | exact v_len rfl (by kernel_rfl) | exact v_lss rfl rfl | exact v_neq rfl rfl | exact v_eql rfl rfl | exact v_gtr rfl rfl | exact v_leq rfl rfl | exact v_geq rfl rfl | exact v_add rfl rfl (by omega) | exact v_sub rfl rfl (by omega) | exact v_not rfl | exact v_pick_t rfl rfl | exact v_pick_f rfl rfl | exact v_xor8 rfl rfl | exact v_makeFunc rfl rfl | exact v_extract rfl rfl | exact v_nilCheck rfl | exact v_max rfl rfl | exact v_min rfl rfl | exact v_eqb_same rfl rfl (by kernel_rfl) | exact v_eqb rfl rfl (by kernel_rfl) | exact v_u8int rfl (by kernel_rfl) (by kernel_rfl) | exact v_eqnilP rfl rfl (by kernel_rfl) | exact v_neqnilP rfl rfl (by kernel_rfl) | exact v_eqnilS rfl rfl (by kernel_rfl)) rfl rfl rfl ?_ | refine s_skip rfl rfl rfl ?_ | refine s_skip0 rfl rfl ?_) | refine c_nil ?_ | refine c_seq ?_ | refine c_region ?_ | refine c_block ?_ | refine c_skip ?_ | refine c_exit ?_ | refine c_ret ?_ | refine x_then ?_ | refine x_block ?_ | refine x_then_exit ?_ | refine x_then_ret ?_ | refine x_block_ret ?_ | refine x_block_eq ?_ | refine x_block_ne rfl ?_)
  exact q_end (u' := .panicking (lrec c)) rfl rfl (fun w hs => ⟨⟨_, rfl⟩, rfl, hs.sb⟩)

theorem readF_c (vb : Value) (b : List UInt8) (hb : b.length ≤ 100000) (w0 w : World) (G : Im) (F : Hp) (hv : SV G [] vb b.length (b.map B8)) (hs : Sat w0 w G F) :
    Calls Try.prog 12 #[vb] w fun e w' => ∃ G' u, e = .returned (.tuple #[(readH b).V, u, I64 (readE b)]) ∧ Im.le G G' ∧ SV G' [] u (readB b).length ((readB b).map B8) ∧ Sat w0 w' G' F := by
  refine f_enterD (vs := [_]) Try.func12 rfl Try.ntmps12 (by simp) hs ?_
  repeat (first | (refine c_cons ?_; first | refine s_val (by first | exact v_move rfl | exact v_assign rfl | exact v_len rfl (by kernel_rfl) | exact v_lss rfl rfl | exact v_neq rfl rfl | exact v_eql rfl rfl | exact v_gtr rfl rfl | exact v_leq rfl rfl | exact v_geq rfl rfl | exact v_add rfl rfl (by omega) | exact v_sub rfl rfl (by omega) | exact v_not rfl | exact v_pick_t rfl rfl | exact v_pick_f rfl rfl | exact v_xor8 rfl rfl | exact v_makeFunc rfl rfl | exact v_extract rfl rfl | exact v_nilCheck rfl | exact v_max rfl rfl | exact v_min rfl rfl | exact v_eqb_same rfl rfl (by kernel_rfl) | exact v_eqb rfl rfl (by kernel_rfl) | exact v_u8int rfl (by kernel_rfl) (by kernel_rfl) | exact v_eqnilP rfl rfl (by kernel_rfl) | exact v_neqnilP rfl rfl (by kernel_rfl) | exact v_eqnilS rfl rfl (by kernel_rfl)) rfl rfl rfl ?_ | refine s_skip rfl rfl rfl ?_ | refine s_skip0 rfl rfl ?_) | refine c_nil ?_ | refine c_seq ?_ | refine c_region ?_ | refine c_block ?_ | refine c_skip ?_ | refine c_exit ?_ | refine c_ret ?_ | refine x_then ?_ | refine x_block ?_ | refine x_then_exit ?_ | refine x_then_ret ?_ | refine x_block_ret ?_ | refine x_block_eq ?_ | refine x_block_ne rfl ?_)
  refine c_cons (s_allocA [I64 0, I64 0, I64 0, I64 0, I64 0, I64 0] (by kernel_rfl) rfl rfl fun b1 => ?_)
  refine c_cons (s_alloc (.slice none 0 0) (by kernel_rfl) rfl rfl fun b2 => ?_)
  refine c_cons (s_alloc (I64 0) (by kernel_rfl) rfl rfl fun b3 => ?_)
  change Holds _ _ _ _ _ (ErO b3 0 :: ByO b2 (.slice none 0 0) :: HdO b1 hd0 :: F) _
  repeat (first | (refine c_cons ?_; first | refine s_val (by first | exact v_move rfl | exact v_assign rfl | exact v_len rfl (by kernel_rfl) | exact v_lss rfl rfl | exact v_neq rfl rfl | exact v_eql rfl rfl | exact v_gtr rfl rfl | exact v_leq rfl rfl | exact v_geq rfl rfl | exact v_add rfl rfl (by omega) | exact v_sub rfl rfl (by omega) | exact v_not rfl | exact v_pick_t rfl rfl | exact v_pick_f rfl rfl | exact v_xor8 rfl rfl | exact v_makeFunc rfl rfl | exact v_extract rfl rfl | exact v_nilCheck rfl | exact v_max rfl rfl | exact v_min rfl rfl | exact v_eqb_same rfl rfl (by kernel_rfl) | exact v_eqb rfl rfl (by kernel_rfl) | exact v_u8int rfl (by kernel_rfl) (by kernel_rfl) | exact v_eqnilP rfl rfl (by kernel_rfl) | exact v_neqnilP rfl rfl (by kernel_rfl) | exact v_eqnilS rfl rfl (by kernel_rfl)) rfl rfl rfl ?_ | refine s_skip rfl rfl rfl ?_ | refine s_skip0 rfl rfl ?_) | refine c_nil ?_ | refine c_seq ?_ | refine c_region ?_ | refine c_block ?_ | refine c_skip ?_ | refine c_exit ?_ | refine c_ret ?_ | refine x_then ?_ | refine x_block ?_ | refine x_then_exit ?_ | refine x_then_ret ?_ | refine x_block_ret ?_ | refine x_block_eq ?_ | refine x_block_ne rfl ?_)
  refine c_cons (s_defer rfl rfl rfl rfl ?_)
  repeat (first | (refine c_cons ?_; first | refine s_val (by first | exact v_move rfl | exact v_assign rfl | exact v_len rfl (by kernel_rfl) | exact v_lss rfl rfl | exact v_neq rfl rfl | exact v_eql rfl rfl | exact v_gtr rfl rfl | exact v_leq rfl rfl | exact v_geq rfl rfl | exact v_add rfl rfl (by omega) | exact v_sub rfl rfl (by omega) | exact v_not rfl | exact v_pick_t rfl rfl | exact v_pick_f rfl rfl | exact v_xor8 rfl rfl | exact v_makeFunc rfl rfl | exact v_extract rfl rfl | exact v_nilCheck rfl | exact v_max rfl rfl | exact v_min rfl rfl | exact v_eqb_same rfl rfl (by kernel_rfl) | exact v_eqb rfl rfl (by kernel_rfl) | exact v_u8int rfl (by kernel_rfl) (by kernel_rfl) | exact v_eqnilP rfl rfl (by kernel_rfl) | exact v_neqnilP rfl rfl (by kernel_rfl) | exact v_eqnilS rfl rfl (by kernel_rfl)) rfl rfl rfl ?_ | refine s_skip rfl rfl rfl ?_ | refine s_skip0 rfl rfl ?_) | refine c_nil ?_ | refine c_seq ?_ | refine c_region ?_ | refine c_block ?_ | refine c_skip ?_ | refine c_exit ?_ | refine c_ret ?_ | refine x_then ?_ | refine x_block ?_ | refine x_then_exit ?_ | refine x_then_ret ?_ | refine x_block_ret ?_ | refine x_block_eq ?_ | refine x_block_ne rfl ?_)
  refine c_cons (s_call (xs := [_]) rfl rfl rfl rfl rfl rfl (by kernel_rfl) (fun w hs => head_c _ b hb _ w _ _ hv hs) ?_)
  rintro e w' (⟨hre, G1, u, rfl, hG1, hu, hs'⟩ | ⟨hre, G1, rfl, hG1, hs'⟩)
  · refine a_ret ?_ hs'; clear hs'
    have eH : readH b = hdOf b := by unfold readH; rw [if_pos hre]
    have eB : readB b = b.drop 12 := by unfold readB; rw [if_pos hre]
    rw [eH, eB, hre]
    generalize hdOf b = h
    repeat (first | (refine c_cons ?_; first | refine s_val (by first | exact v_move rfl | exact v_assign rfl | exact v_len rfl (by kernel_rfl) | exact v_lss rfl rfl | exact v_neq rfl rfl | exact v_eql rfl rfl | exact v_gtr rfl rfl | exact v_leq rfl rfl | exact v_geq rfl rfl | exact v_add rfl rfl (by omega) | exact v_sub rfl rfl (by omega) | exact v_not rfl | exact v_pick_t rfl rfl | exact v_pick_f rfl rfl | exact v_xor8 rfl rfl | exact v_makeFunc rfl rfl | exact v_extract rfl rfl | exact v_nilCheck rfl | exact v_max rfl rfl | exact v_min rfl rfl | exact v_eqb_same rfl rfl (by kernel_rfl) | exact v_eqb rfl rfl (by kernel_rfl) | exact v_u8int rfl (by kernel_rfl) (by kernel_rfl) | exact v_eqnilP rfl rfl (by kernel_rfl) | exact v_neqnilP rfl rfl (by kernel_rfl) | exact v_eqnilS rfl rfl (by kernel_rfl)) rfl rfl rfl ?_ | refine s_skip rfl rfl rfl ?_ | refine s_skip0 rfl rfl ?_) | refine c_nil ?_ | refine c_seq ?_ | refine c_region ?_ | refine c_block ?_ | refine c_skip ?_ | refine c_exit ?_ | refine c_ret ?_ | refine x_then ?_ | refine x_block ?_ | refine x_then_exit ?_ | refine x_then_ret ?_ | refine x_block_ret ?_ | refine x_block_eq ?_ | refine x_block_ne rfl ?_)
    refine c_cons (s_storeA (vs := [I64 h.c, I64 h.l, I64 h.n, I64 h.i, I64 h.s, I64 h.z]) rfl rfl rfl (.tail (.tail .head)) (by kernel_rfl) (by simp [Value.oneCell']) rfl ?_)
    refine c_cons (s_store1 rfl rfl rfl (.tail (.tail .head)) (by kernel_rfl) hu.one (by simp) ?_)
    change Holds _ _ _ _ _ (ByO b2 u :: HdO b1 h :: ErO b3 0 :: F) _
    repeat (first | (refine c_cons ?_; first | refine s_val (by first | exact v_move rfl | exact v_assign rfl | exact v_len rfl (by kernel_rfl) | exact v_lss rfl rfl | exact v_neq rfl rfl | exact v_eql rfl rfl | exact v_gtr rfl rfl | exact v_leq rfl rfl | exact v_geq rfl rfl | exact v_add rfl rfl (by omega) | exact v_sub rfl rfl (by omega) | exact v_not rfl | exact v_pick_t rfl rfl | exact v_pick_f rfl rfl | exact v_xor8 rfl rfl | exact v_makeFunc rfl rfl | exact v_extract rfl rfl | exact v_nilCheck rfl | exact v_max rfl rfl | exact v_min rfl rfl | exact v_eqb_same rfl rfl (by kernel_rfl) | exact v_eqb rfl rfl (by kernel_rfl) | exact v_u8int rfl (by kernel_rfl) (by kernel_rfl) | exact v_eqnilP rfl rfl (by kernel_rfl) | exact v_neqnilP rfl rfl (by kernel_rfl) | exact v_eqnilS rfl rfl (by kernel_rfl)) rfl rfl rfl ?_ | refine s_skip rfl rfl rfl ?_ | refine s_skip0 rfl rfl ?_) | refine c_nil ?_ | refine c_seq ?_ | refine c_region ?_ | refine c_block ?_ | refine c_skip ?_ | refine c_exit ?_ | refine c_ret ?_ | refine x_then ?_ | refine x_block ?_ | refine x_then_exit ?_ | refine x_then_ret ?_ | refine x_block_ret ?_ | refine x_block_eq ?_ | refine x_block_ne rfl ?_)
    refine c_np ?_
    refine r_startS [ByO b2 u, HdO b1 h] [] (by kernel_rfl) (fun w h => h.sb) ?_
    refine r_tk 0 rfl rfl (v_loadAgg (vs := [I64 h.c, I64 h.l, I64 h.n, I64 h.i, I64 h.s, I64 h.z]) rfl (by kernel_rfl) (by kernel_rfl) rfl (fun j u hj => (Cel.tail (Cel.all hj)))) (fun _ h => (h.sb)) ?_
    refine r_tk 1 rfl rfl (v_load rfl (Cel.head rfl) (by kernel_rfl)) (fun _ h => (h.sb)) ?_
    refine r_one 2 (by kernel_rfl) rfl ?_
    refine s_storeA (vs := [I64 h.c, I64 h.l, I64 h.n, I64 h.i, I64 h.s, I64 h.z]) rfl rfl rfl (.tail .head) (by kernel_rfl) (by simp [Value.oneCell']) rfl ?_
    change Holds _ _ _ _ _ (HdO b1 h :: _) _
    refine r_next (fun w h => (h.sb)) ?_
    refine r_one 3 (by kernel_rfl) rfl ?_
    refine s_store1 rfl rfl rfl (.tail .head) (by kernel_rfl) hu.one (by simp) ?_
    change Holds _ _ _ _ _ (ByO b2 u :: HdO b1 h :: ErO b3 0 :: F) _
    refine r_next (fun w h => (h.sb)) ?_
    refine r_one 4 (by kernel_rfl) rfl ?_
    refine s_store1 rfl rfl rfl (.tail (.tail .head)) (by kernel_rfl) rfl (by simp) ?_
    change Holds _ _ _ _ _ (ErO b3 0 :: ByO b2 u :: HdO b1 h :: F) _
    refine r_next (fun w h => (h.sb)) ?_
    refine r_done (by kernel_rfl) ?_
    refine np_n ?_
    repeat (first | (refine c_cons ?_; first | refine s_val (by first | exact v_move rfl | exact v_assign rfl | exact v_len rfl (by kernel_rfl) | exact v_lss rfl rfl | exact v_neq rfl rfl | exact v_eql rfl rfl | exact v_gtr rfl rfl | exact v_leq rfl rfl | exact v_geq rfl rfl | exact v_add rfl rfl (by omega) | exact v_sub rfl rfl (by omega) | exact v_not rfl | exact v_pick_t rfl rfl | exact v_pick_f rfl rfl | exact v_xor8 rfl rfl | exact v_makeFunc rfl rfl | exact v_extract rfl rfl | exact v_nilCheck rfl | exact v_max rfl rfl | exact v_min rfl rfl | exact v_eqb_same rfl rfl (by kernel_rfl) | exact v_eqb rfl rfl (by kernel_rfl) | exact v_u8int rfl (by kernel_rfl) (by kernel_rfl) | exact v_eqnilP rfl rfl (by kernel_rfl) | exact v_neqnilP rfl rfl (by kernel_rfl) | exact v_eqnilS rfl rfl (by kernel_rfl)) rfl rfl rfl ?_ | refine s_skip rfl rfl rfl ?_ | refine s_skip0 rfl rfl ?_) | refine c_nil ?_ | refine c_seq ?_ | refine c_region ?_ | refine c_block ?_ | refine c_skip ?_ | refine c_exit ?_ | refine c_ret ?_ | refine x_then ?_ | refine x_block ?_ | refine x_then_exit ?_ | refine x_then_ret ?_ | refine x_block_ret ?_ | refine x_block_eq ?_ | refine x_block_ne rfl ?_)
    exact d_ret1 (by kernel_rfl) (fun w hs => catchR_n b3 b1 b2 _ w _ _ hs) (fun a e x w' ht ⟨h1, h2, h3⟩ => ⟨h1, h2, _, res_c3 (vs := [I64 h.c, I64 h.l, I64 h.n, I64 h.i, I64 h.s, I64 h.z]) ht rfl rfl rfl rfl (by kernel_rfl) (by kernel_rfl) rfl (by kernel_rfl) (by kernel_rfl) h3 (fun j u hj => Cel.tail (Cel.tail (Cel.all hj))) (Cel.tail (Cel.head rfl)) (Cel.head rfl), G1, u, rfl, hG1, hu, h3.sb⟩)
  · refine a_panic ?_ hs'; clear hs'
    have eH : readH b = hd0 := by unfold readH; rw [if_neg hre]
    have eB : readB b = [] := by unfold readB; rw [if_neg hre]
    rw [eH, eB]
    generalize readE b = c
    repeat (first | refine x_then_panic ?_ | refine x_block_panic ?_)
    refine c_sub (ErO b3 0 :: HdO b1 hd0 :: ByO b2 (.slice none 0 0) :: F) (fun f => by first | omega | (simp only [List.map_append, List.map_cons, List.map_nil, List.sum_append, List.sum_cons, List.sum_nil, List.append_nil, List.nil_append]; omega)) ?_
    exact d_pan1 (by kernel_rfl) (fun w hs => catchR_s b3 b1 b2 c 0 hd0 _ _ w _ _ hs) (fun a e x w' ht ⟨h1, h2, h3⟩ => ⟨h1, h2, _, res_c3 (vs := [I64 0, I64 0, I64 0, I64 0, I64 0, I64 0]) ht rfl rfl rfl rfl (by kernel_rfl) (by kernel_rfl) rfl (by kernel_rfl) (by kernel_rfl) h3 (fun j u hj => Cel.tail (Cel.all hj)) (Cel.tail (Cel.tail (Cel.head rfl))) (Cel.head rfl), G1, _, rfl, hG1, SV.nil _ _, h3.sb⟩)
end Go.Proofs.Ytldkldmjcacopaa
