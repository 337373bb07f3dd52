/- The walks of package disk: what it tells of itself, a new one. -/
import Derived.Test.YtkjneelekfdpfaaDskD
import Derived.Test.YtkjneelekfdpfaaClone2
namespace Go.Proofs.Ytkjneelekfdpfaa
open Go
set_option linter.unusedVariables false
set_option linter.unusedSimpArgs false
set_option maxHeartbeats 3200000
attribute [local irreducible] Code.wp wpList stepK Holds Val wpR Eff Eff0 Code.wpIn wpListIn stepI Exit.then Exit.inBlock bodyPost bodyPostM

theorem gone_c (dp : Nat) (vn vl vs : Value) (a : Addr) (k c : Nat) (hv : vn = .slice (some a) k c) (fu op : Int) (de : Bool) (w0 w : World) (G : Im) (F : Hp) (hs : Sat w0 w G (DkO dp vn vl vs fu op de :: F)) :
    Calls Try.prog 62 #[Pt dp 0] w fun e w' => e = .returned (.bool de) ∧ Sat w0 w' G (DkO dp vn vl vs fu op de :: F) := by
  subst hv
  refine f_enter (vs := [_]) Try.func62 rfl Try.ntmps62 (by simp) hs ?_
  refine ww ?_
  refine c_cons (s_val (v_field 5 rfl (by kernel_rfl)) rfl rfl rfl ?_)
  refine c_cons (s_val (v_load rfl (Cel.head rfl) (by kernel_rfl)) rfl rfl rfl ?_)
  refine ww ?_
  refine c_part 11 de rfl (fun c2 => ?_) (fun c2 => ?_)
  · subst c2
    refine ww ?_
    exact f_ret1 rfl rfl (fun w hs => ⟨rfl, hs⟩)
  subst c2
  refine ww ?_
  refine c_cons (s_val (v_field 0 rfl (by kernel_rfl)) rfl rfl rfl ?_)
  refine c_cons (s_val (v_load rfl (Cel.head rfl) (by kernel_rfl)) rfl rfl rfl ?_)
  refine ww ?_
  exact f_ret1 rfl rfl (fun w hs => ⟨rfl, hs⟩)

theorem has_c (dp : Nat) (vn vl vs : Value) (ad : Option Addr) (k c : Nat) (hv : vn = .slice ad k c) (fu op : Int) (de : Bool) (n : Int) (w0 w : World) (G : Im) (F : Hp) (hs : Sat w0 w G (DkO dp vn vl vs fu op de :: F)) :
    Calls Try.prog 63 #[Pt dp 0, I64 n] w fun e w' => e = .returned (.bool (decide (0 ≤ n ∧ n < k))) ∧ Sat w0 w' G (DkO dp vn vl vs fu op de :: F) := by
  subst hv
  refine f_enter (vs := [_, _]) Try.func63 rfl Try.ntmps63 (by simp) hs ?_
  refine ww ?_
  refine c_part_d 7 _ rfl (fun c1 => ?_) (fun c1 => ?_)
  · -- t7 = True
    refine ww ?_
    refine c_cons (s_val (v_field 0 rfl (by kernel_rfl)) rfl rfl rfl ?_)
    refine c_cons (s_val (v_load rfl (Cel.head rfl) (by kernel_rfl)) rfl rfl rfl ?_)
    refine ww ?_
    exact f_ret1 rfl rfl (fun w hs => ⟨by rw [decide_eq_decide.2 (show n < k ↔ 0 ≤ n ∧ n < k by omega)], hs⟩)
  refine ww ?_
  exact f_ret1 rfl rfl (fun w hs => ⟨by rw [decide_eq_false (show ¬ (0 ≤ n ∧ n < k) by omega)], hs⟩)

theorem op_c (dp : Nat) (vn vl vs : Value) (D : Dk) (hw : D.wf) (w0 w : World) (G : Im) (F : Hp) (hs : Sat w0 w G (DkO dp vn vl vs D.fuse D.ops D.dead :: F)) :
    Calls Try.prog 64 #[Pt dp 0] w fun e w' => e = .returned (.bool (opS D).2) ∧ Sat w0 w' G (DkO dp vn vl vs (opS D).1.fuse (opS D).1.ops (opS D).1.dead :: F) := by
  have hf := hw.f0
  have ho := hw.o0
  refine f_enter (vs := [_]) Try.func64 rfl Try.ntmps64 (by simp) hs ?_
  refine ww ?_
  refine c_cons (s_val (v_field 3 rfl (by kernel_rfl)) rfl rfl rfl ?_)
  refine c_cons (s_val (v_load rfl (Cel.head rfl) (by kernel_rfl)) rfl rfl rfl ?_)
  refine ww ?_
  refine c_cond_d rfl (fun c1 => ?_) (fun c1 => ?_)
  · -- then
    refine ww ?_
    refine c_cons (s_val (v_field 5 rfl (by kernel_rfl)) rfl rfl rfl ?_)
    refine c_cons (s_store1 rfl rfl rfl .head (by kernel_rfl) rfl (by simp) ?_)
    refine ww ?_
    exact f_ret1 rfl rfl (fun w hs => ⟨by rw [opS, if_pos c1], by rw [opS, if_pos c1]; exact hs⟩)
  refine ww ?_
  refine c_cons (s_val (v_field 3 rfl (by kernel_rfl)) rfl rfl rfl ?_)
  refine c_cons (s_val (v_load rfl (Cel.head rfl) (by kernel_rfl)) rfl rfl rfl ?_)
  refine ww ?_
  refine c_cond_d rfl (fun c2 => ?_) (fun c2 => ?_)
  · -- then
    refine ww ?_
    refine c_cons (s_val (v_field 3 rfl (by kernel_rfl)) rfl rfl rfl ?_)
    refine c_cons (s_val (v_load rfl (Cel.head rfl) (by kernel_rfl)) rfl rfl rfl ?_)
    refine ww ?_
    refine c_cons (s_val (v_field 3 rfl (by kernel_rfl)) rfl rfl rfl ?_)
    refine c_cons (s_store1 rfl rfl rfl .head (by kernel_rfl) rfl (by simp) ?_)
    refine ww ?_
    refine c_cons (s_val (v_field 4 rfl (by kernel_rfl)) rfl rfl rfl ?_)
    refine c_cons (s_val (v_load rfl (Cel.head rfl) (by kernel_rfl)) rfl rfl rfl ?_)
    refine ww ?_
    refine c_cons (s_val (v_field 4 rfl (by kernel_rfl)) rfl rfl rfl ?_)
    refine c_cons (s_store1 rfl rfl rfl .head (by kernel_rfl) rfl (by simp) ?_)
    refine ww ?_
    exact f_ret1 rfl rfl (fun w hs => ⟨by rw [opS, if_neg c1], by rw [opS, if_neg c1]; simp only [if_pos c2]; exact hs⟩)
  refine ww ?_
  refine c_cons (s_val (v_field 4 rfl (by kernel_rfl)) rfl rfl rfl ?_)
  refine c_cons (s_val (v_load rfl (Cel.head rfl) (by kernel_rfl)) rfl rfl rfl ?_)
  refine ww ?_
  refine c_cons (s_val (v_field 4 rfl (by kernel_rfl)) rfl rfl rfl ?_)
  refine c_cons (s_store1 rfl rfl rfl .head (by kernel_rfl) rfl (by simp) ?_)
  refine ww ?_
  exact f_ret1 rfl rfl (fun w hs => ⟨by rw [opS, if_neg c1], by rw [opS, if_neg c1]; simp only [if_neg c2]; exact hs⟩)

theorem sectors_c (dp : Nat) (vn vl vs : Value) (ad : Option Addr) (k c : Nat) (hv : vn = .slice ad k c) (fu op : Int) (de : Bool) (w0 w : World) (G : Im) (F : Hp) (hs : Sat w0 w G (DkO dp vn vl vs fu op de :: F)) :
    Calls Try.prog 35 #[Pt dp 0] w fun e w' => e = .returned (I64 k) ∧ Sat w0 w' G (DkO dp vn vl vs fu op de :: F) := by
  subst hv
  refine f_enter (vs := [_]) Try.func35 rfl Try.ntmps35 (by simp) hs ?_
  refine ww ?_
  refine c_cond_f rfl ?_
  refine ww ?_
  refine c_cons (s_val (v_field 0 rfl (by kernel_rfl)) rfl rfl rfl ?_)
  refine c_cons (s_val (v_load rfl (Cel.head rfl) (by kernel_rfl)) rfl rfl rfl ?_)
  refine ww ?_
  exact f_ret1 rfl rfl (fun w hs => ⟨rfl, hs⟩)

theorem ops_c (dp : Nat) (vn vl vs : Value) (fu op : Int) (de : Bool) (w0 w : World) (G : Im) (F : Hp) (hs : Sat w0 w G (DkO dp vn vl vs fu op de :: F)) :
    Calls Try.prog 29 #[Pt dp 0] w fun e w' => e = .returned (I64 op) ∧ Sat w0 w' G (DkO dp vn vl vs fu op de :: F) := by
  refine f_enter (vs := [_]) Try.func29 rfl Try.ntmps29 (by simp) hs ?_
  refine ww ?_
  refine c_cond_f rfl ?_
  refine ww ?_
  refine c_cons (s_val (v_field 4 rfl (by kernel_rfl)) rfl rfl rfl ?_)
  refine c_cons (s_val (v_load rfl (Cel.head rfl) (by kernel_rfl)) rfl rfl rfl ?_)
  refine ww ?_
  exact f_ret1 rfl rfl (fun w hs => ⟨rfl, hs⟩)

theorem dead_c (dp : Nat) (vn vl vs : Value) (fu op : Int) (de : Bool) (w0 w : World) (G : Im) (F : Hp) (hs : Sat w0 w G (DkO dp vn vl vs fu op de :: F)) :
    Calls Try.prog 20 #[Pt dp 0] w fun e w' => e = .returned (.bool de) ∧ Sat w0 w' G (DkO dp vn vl vs fu op de :: F) := by
  refine f_enter (vs := [_]) Try.func20 rfl Try.ntmps20 (by simp) hs ?_
  refine ww ?_
  refine c_cons (s_val (v_field 5 rfl (by kernel_rfl)) rfl rfl rfl ?_)
  refine c_cons (s_val (v_load rfl (Cel.head rfl) (by kernel_rfl)) rfl rfl rfl ?_)
  refine ww ?_
  exact f_ret1 rfl rfl (fun w hs => ⟨rfl, hs⟩)

theorem fuse_c (dp : Nat) (vn vl vs : Value) (fu op : Int) (de : Bool) (n : Int) (w0 w : World) (G : Im) (F : Hp) (hs : Sat w0 w G (DkO dp vn vl vs fu op de :: F)) :
    Calls Try.prog 19 #[Pt dp 0, I64 n] w fun e w' => e = .returned (.tuple #[]) ∧ Sat w0 w' G (DkO dp vn vl vs (max n (-1)) op de :: F) := by
  refine f_enter (vs := [_, _]) Try.func19 rfl Try.ntmps19 (by simp) hs ?_
  refine ww ?_
  refine c_cond_t rfl ?_
  refine ww ?_
  refine c_cons (s_val (v_field 3 rfl (by kernel_rfl)) rfl rfl rfl ?_)
  refine c_cons (s_store1 rfl rfl rfl .head (by kernel_rfl) rfl (by simp) ?_)
  refine ww ?_
  exact f_end0 rfl (fun w hs => ⟨rfl, hs⟩)

theorem new_n (n : Int) (hn : n < 2 ∨ 4160 < n) (w0 w : World) (G : Im) (F : Hp) (hs : Sat w0 w G F) :
    Calls Try.prog 10 #[I64 n] w fun e w' => e = .returned (.tuple #[.pointer none, I64 1]) ∧ Sat w0 w' G F := by
  refine f_enter (vs := [_]) Try.func10 rfl Try.ntmps10 (by simp) hs ?_
  refine ww ?_
  refine c_part_d 6 _ rfl (fun c1 => ?_) (fun c1 => ?_)
  · -- t6 = True
    refine ww ?_
    refine c_cond_t rfl ?_
    refine ww ?_
    exact f_ret2 rfl rfl rfl (fun w hs => ⟨rfl, hs⟩)
  refine ww ?_
  refine c_cond_d rfl (fun c2 => ?_) (fun c2 => ?_)
  · -- then
    refine ww ?_
    exact f_ret2 rfl rfl rfl (fun w hs => ⟨rfl, hs⟩)
  omega

theorem newD_wf (m : Nat) (hm : 2 ≤ m ∧ m ≤ 4160) : (newD m).wf := by
  refine ⟨by simp [newD]; omega, by simp [newD]; omega, by simp [newD], by simp [newD], by simp [newD], by simp [newD], by simp [newD]⟩
theorem z64_rec : SecR (Value.agg (List.replicate 64 (B8 0)).toArray).cells.toList z64 := by
  refine ⟨?_, by simp [z64]⟩
  simp only [Value.cells, z64, List.map_replicate]
theorem new_c (m : Nat) (hm : 2 ≤ m ∧ m ≤ 4160) (w0 w : World) (G : Im) (F : Hp) (hs : Sat w0 w G F) :
    Calls Try.prog 10 #[I64 m] w fun e w' => ∃ dp B, e = .returned (.tuple #[Pt dp 0, I64 0]) ∧ DH dp (newD m) B ∧ Sat w0 w' G (B ++ F) := by
  have hz : (Value.agg (List.replicate 64 (B8 0)).toArray).cells.size = 64 := by simp [Value.cells]
  have hR := recs_made (Rc := SecR) (z := .agg (List.replicate 64 (B8 0)).toArray) 64 m hz (by decide) z64_rec
  have hmx : m ≤ maxLen := by unfold maxLen; omega
  refine f_enter (vs := [_]) Try.func10 rfl Try.ntmps10 (by simp) hs ?_
  refine ww ?_
  refine c_kf 6 rfl (by omega) ?_
  refine ww ?_
  refine c_kf 9 rfl (by omega) ?_
  refine c_cond_f rfl ?_
  refine ww ?_
  refine r_startS [] [] (by kernel_rfl) (fun w h => h.none) ?_
  refine r_tk 0 rfl rfl (v_move rfl) (fun _ h => (h.sb)) ?_
  refine r_tk 2 rfl rfl (v_move rfl) (fun _ h => (h.sb)) ?_
  have key : ∀ (b1 b2 b3 : Nat), DH b3 (newD m) ((b3, Cs [Sl b1 0 m m, Sl b2 0 m m, .slice none 0 0, I64 (-1), I64 0, .bool false] 70) :: ([(b1, Cs (madeCells (Value.agg (List.replicate 64 (B8 0)).toArray).cells (m * 64)).toList 92)] ++ ([(b2, Cs (madeCells (Value.agg (List.replicate 64 (B8 0)).toArray).cells (m * 64)).toList 92)] ++ []))) := fun b1 b2 b3 =>
    ⟨_, _, _, _, _, _, rfl, newD_wf m hm, RA.one (by simp [newD]) hR hmx, RA.one (by simp [newD]) hR hmx, RA.zero none⟩
  refine r_two 1 3 (by kernel_rfl) rfl rfl ?_ ?_
  · refine s_make 92 (.agg (List.replicate 64 (B8 0)).toArray) 64 64 m rfl rfl rfl rfl (by kernel_rfl) (by omega) (by omega) fun b1 => ?_
    refine r_next (fun w h => (h.sb)) ?_
    refine r_one 3 (by kernel_rfl) rfl ?_
    refine s_make 92 (.agg (List.replicate 64 (B8 0)).toArray) 64 64 m rfl rfl rfl rfl (by kernel_rfl) (by omega) (by omega) fun b2 => ?_
    refine r_next (fun w h => (h.sb)) ?_
    refine r_tk 4 rfl rfl (v_build (ps := [_, _, _]) #[Sl b1 0 m m, Sl b2 0 m m, .slice none 0 0, I64 (-1), I64 0, .bool false] rfl (by kernel_rfl)) (fun _ h => (h.sb)) ?_
    refine r_one 5 (by kernel_rfl) rfl ?_
    refine s_boxA [_, _, _, _, _, _] rfl rfl rfl fun b3 => ?_
    refine r_next (fun w h => (h.sb)) ?_
    refine r_tk 6 rfl rfl (v_assign rfl) (fun _ h => (h.sb)) ?_
    refine r_tk 7 rfl rfl (v_assign rfl) (fun _ h => (h.sb)) ?_
    refine r_done (by kernel_rfl) ?_
    refine ww ?_
    exact f_ret2 rfl rfl rfl (fun w hs => ⟨b3, _, rfl, key b1 b2 b3, hs.sb⟩)
  · refine s_make 92 (.agg (List.replicate 64 (B8 0)).toArray) 64 64 m rfl rfl rfl rfl (by kernel_rfl) (by omega) (by omega) fun b2 => ?_
    refine r_next (fun w h => (h.sb)) ?_
    refine r_one 1 (by kernel_rfl) rfl ?_
    refine s_make 92 (.agg (List.replicate 64 (B8 0)).toArray) 64 64 m rfl rfl rfl rfl (by kernel_rfl) (by omega) (by omega) fun b1 => ?_
    refine r_next (fun w h => (h.sb)) ?_
    refine r_tk 4 rfl rfl (v_build (ps := [_, _, _]) #[Sl b1 0 m m, Sl b2 0 m m, .slice none 0 0, I64 (-1), I64 0, .bool false] rfl (by kernel_rfl)) (fun _ h => (h.sb)) ?_
    refine r_one 5 (by kernel_rfl) rfl ?_
    refine s_boxA [_, _, _, _, _, _] rfl rfl rfl fun b3 => ?_
    refine r_next (fun w h => (h.sb)) ?_
    refine r_tk 6 rfl rfl (v_assign rfl) (fun _ h => (h.sb)) ?_
    refine r_tk 7 rfl rfl (v_assign rfl) (fun _ h => (h.sb)) ?_
    refine r_done (by kernel_rfl) ?_
    refine ww ?_
    exact f_ret2 rfl rfl rfl (fun w hs => ⟨b3, _, rfl, key b1 b2 b3, hs.sb⟩)

end Go.Proofs.Ytkjneelekfdpfaa
