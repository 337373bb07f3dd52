/- The walks of package layout: Span. -/
import Derived.Test.YtldkldmjcacopaaLayR3
namespace Go.Proofs.Ytldkldmjcacopaa
open Go
set_option linter.unusedVariables false
set_option linter.unusedSimpArgs false
set_option maxHeartbeats 1600000
def spanOk (a count size n : Int) : Prop := ((0 ≤ a ∧ 1 ≤ count) ∧ (3 ≤ n ∧ n ≤ 16)) ∧ (0 ≤ size ∧ size ≤ 400 * (n - 1)) ∧ count ≤ size ∧ a ≤ size - count
instance (a count size n : Int) : Decidable (spanOk a count size n) := by unfold spanOk; infer_instance
def spanS (a count size n : Int) : Int × Int × Int := if spanOk a count size n then (a / eachS size n, (a + count - 1) / eachS size n, 0) else (0, 0, 1)
theorem each_pos {sz n : Int} (hn : 3 ≤ n ∧ n ≤ 16) (hz : 1 ≤ sz) : 1 ≤ eachS sz n := by
  unfold eachS
  rw [if_pos ⟨hn, by omega⟩]
  have := Int.ediv_nonneg (show 0 ≤ sz - 1 by omega) (show 0 ≤ n - 1 by omega)
  omega
attribute [local irreducible] Code.wp wpList stepK Holds Val wpR Eff Eff0 Code.wpIn wpListIn stepI Exit.then Exit.inBlock bodyPost bodyPostM

theorem span_c (a count size n : Int) (w0 w : World) (G : Im) (F : Hp) (hs : Sat w0 w G F) :
    Calls Try.prog 20 #[I64 a, I64 count, I64 size, I64 n] w fun e w' => e = .returned (.tuple #[I64 (spanS a count size n).1, I64 (spanS a count size n).2.1, I64 (spanS a count size n).2.2]) ∧ Sat w0 w' G F := by
  have bad : ¬ spanOk a count size n → spanS a count size n = (0, 0, 1) := fun h => by unfold spanS; rw [if_neg h]
  refine f_enter (vs := [_, _, _, _]) Try.func20 rfl Try.ntmps20 (by simp) hs ?_
  refine ww ?_
  refine c_part_d 14 _ rfl (fun c1 => ?_) (fun c1 => ?_)
  · rw [bad (fun h => by unfold spanOk at h; omega)]
    refine ww ?_
    refine c_cond_t rfl ?_
    refine ww ?_
    exact f_ret3 rfl rfl rfl rfl (fun w hs => ⟨rfl, hs⟩)
  refine ww ?_
  refine c_part_d 18 _ rfl (fun c2 => ?_) (fun c2 => ?_)
  · rw [bad (fun h => by unfold spanOk at h; omega)]
    refine ww ?_
    refine c_cond_t rfl ?_
    refine ww ?_
    exact f_ret3 rfl rfl rfl rfl (fun w hs => ⟨rfl, hs⟩)
  refine ww ?_
  refine c_cons (s_call (xs := [_]) rfl rfl rfl rfl rfl rfl (by kernel_rfl) (fun w hs => lsrv_c n _ w _ _ hs) ?_)
  rintro e w' ⟨rfl, hs'⟩; refine a_ret ?_ hs'; clear hs'
  refine ww ?_
  refine c_part_nd 23 _ rfl (fun c3 => ?_) (fun c3 => ?_)
  · rw [bad (fun h => by unfold spanOk at h; omega)]
    refine ww ?_
    refine c_cond_t rfl ?_
    refine ww ?_
    exact f_ret3 rfl rfl rfl rfl (fun w hs => ⟨rfl, hs⟩)
  refine ww ?_
  refine c_cons (s_call (xs := [_, _]) rfl rfl rfl rfl rfl rfl (by kernel_rfl) (fun w hs => lsz_c size n c3 _ w _ _ hs) ?_)
  rintro e w' ⟨rfl, hs'⟩; refine a_ret ?_ hs'; clear hs'
  refine ww ?_
  refine c_part_nd 29 _ rfl (fun c4 => ?_) (fun c4 => ?_)
  · rw [bad (fun h => by unfold spanOk at h; omega)]
    refine ww ?_
    refine c_cond_t rfl ?_
    refine ww ?_
    exact f_ret3 rfl rfl rfl rfl (fun w hs => ⟨rfl, hs⟩)
  refine ww ?_
  refine c_part_d 34 _ rfl (fun c5 => ?_) (fun c5 => ?_)
  · rw [bad (fun h => by unfold spanOk at h; omega)]
    refine ww ?_
    refine c_cond_t rfl ?_
    refine ww ?_
    exact f_ret3 rfl rfl rfl rfl (fun w hs => ⟨rfl, hs⟩)
  refine ww ?_
  refine c_cond_d rfl (fun c6 => ?_) (fun c6 => ?_)
  · -- then
    rw [bad (fun h => by unfold spanOk at h; omega)]
    refine ww ?_
    exact f_ret3 rfl rfl rfl rfl (fun w hs => ⟨rfl, hs⟩)
  have hyes : spanS a count size n = (a / eachS size n, (a + count - 1) / eachS size n, 0) := by unfold spanS; rw [if_pos (by unfold spanOk; omega)]
  rw [hyes]
  have hp := each_pos c3 (show 1 ≤ size by omega)
  have hle := each_in c3 c4.1
  refine ww ?_
  refine c_cons (s_call (xs := [_, _]) rfl rfl rfl rfl rfl rfl (by kernel_rfl) (fun w hs => leach_c size n (by omega) _ w _ _ hs) ?_)
  rintro e w' ⟨rfl, hs'⟩; refine a_ret ?_ hs'; clear hs'
  generalize eachS size n = q at hp hle ⊢
  refine ww ?_
  refine r_start [] (by kernel_rfl) ?_ -- D1
  refine r_tk 0 rfl rfl (v_move rfl) (fun _ h => h) ?_
  refine r_tk 1 rfl rfl (v_move rfl) (fun _ h => h) ?_
  refine r_tk 2 rfl rfl (v_quo rfl rfl (by omega) (by omega)) (fun _ h => h) ?_
  refine r_tk 3 rfl rfl (v_move rfl) (fun _ h => h) ?_
  refine r_tk 4 rfl rfl (v_move rfl) (fun _ h => h) ?_
  refine r_tk 5 rfl rfl (v_add rfl rfl (by omega)) (fun _ h => h) ?_
  refine r_tk 6 rfl rfl (v_sub rfl rfl (by omega)) (fun _ h => h) ?_
  refine r_tk 7 rfl rfl (v_move rfl) (fun _ h => h) ?_
  refine r_tk 8 rfl rfl (v_quo rfl rfl (by omega) (by omega)) (fun _ h => h) ?_
  refine r_tk 9 rfl rfl (v_assign rfl) (fun _ h => h) ?_
  refine r_tk 10 rfl rfl (v_assign rfl) (fun _ h => h) ?_
  refine r_tk 11 rfl rfl (v_assign rfl) (fun _ h => h) ?_
  refine r_done (by kernel_rfl) ?_
  refine ww ?_
  exact f_ret3 rfl rfl rfl rfl (fun w hs => ⟨rfl, hs⟩)
end Go.Proofs.Ytldkldmjcacopaa
