/- The reference's walks of chapter 11: MayStripe, MayPtr. -/
import Derived.Test.YtldkldmjcacopaaProg
import Derived.Test.YtldkldmjcacopaaOps7
import Derived.Test.YtldkldmjcacopaaSub
namespace Go.Proofs.Ytldkldmjcacopaa
open Go
set_option linter.unusedVariables false
set_option linter.unusedSimpArgs false
set_option maxHeartbeats 1600000
attribute [local irreducible] Code.wp wpList stepK Holds Val wpR Eff Eff0 Code.wpIn wpListIn stepI Exit.then Exit.inBlock bodyPost bodyPostM

def mst (a b c : Int) : Prop := 0 ≤ a ∧ a ≤ 4 ∧ 0 ≤ b ∧ b ≤ 1048576 ∧ 0 ≤ c ∧ c ≤ 1073741824
instance (a b c : Int) : Decidable (mst a b c) := by unfold mst; infer_instance
theorem cel3 {G : Im} {H : Hp} {b : Nat} {p q r s t : Value} {e : TypeId} (j : Nat) (u : Value) (hj : [p, q, r][j]? = some u) : Cel G ((b, Cs [p, q, r, s, t] e) :: H) b (0 + 0 + j) u := Cel.all (by
  match j, hj with
  | 0, k => exact k
  | 1, k => exact k
  | 2, k => exact k
  | n + 3, k => simp at k)

-- pinstripe/pinstriperef4.MayStripe params ['api.Stripe'] results ['bool'] ntmps 31
theorem mayst_c (a b c : Int) (w0 w : World) (G : Im) (F : Hp) (hs : Sat w0 w G F) :
    Calls Try.prog 36 #[.agg #[I64 a, I64 b, I64 c]] w fun e w' => e = .returned (.bool (decide (mst a b c))) ∧ Sat w0 w' G F := by
  refine f_enter (vs := [_]) Try.func36 rfl Try.ntmps36 (by simp) hs ?_
  refine ww ?_
  refine c_cons (s_boxA [_, _, _] rfl rfl rfl fun b1 => ?_)
  refine ww ?_
  refine c_cons (s_val (v_field 0 rfl (by kernel_rfl)) rfl rfl rfl ?_)
  refine c_cons (s_val (v_load rfl (Cel.head rfl) (by kernel_rfl)) rfl rfl rfl ?_)
  refine ww ?_
  refine c_part_d 6 _ rfl (fun c1 => ?_) (fun c1 => ?_)
  · -- t6 = True
    refine ww ?_
    refine c_cons (s_val (v_field 0 rfl (by kernel_rfl)) rfl rfl rfl ?_)
    refine c_cons (s_val (v_load rfl (Cel.head rfl) (by kernel_rfl)) rfl rfl rfl ?_)
    refine ww ?_
    refine c_part_d 11 _ rfl (fun c2 => ?_) (fun c2 => ?_)
    · -- t11 = True
      refine ww ?_
      refine c_cons (s_val (v_field 1 rfl (by kernel_rfl)) rfl rfl rfl ?_)
      refine c_cons (s_val (v_load rfl (Cel.head rfl) (by kernel_rfl)) rfl rfl rfl ?_)
      refine ww ?_
      refine c_part_d 16 _ rfl (fun c3 => ?_) (fun c3 => ?_)
      · -- t16 = True
        refine ww ?_
        refine c_cons (s_val (v_field 1 rfl (by kernel_rfl)) rfl rfl rfl ?_)
        refine c_cons (s_val (v_load rfl (Cel.head rfl) (by kernel_rfl)) rfl rfl rfl ?_)
        refine ww ?_
        refine c_part_d 21 _ rfl (fun c4 => ?_) (fun c4 => ?_)
        · -- t21 = True
          refine ww ?_
          refine c_cons (s_val (v_field 2 rfl (by kernel_rfl)) rfl rfl rfl ?_)
          refine c_cons (s_val (v_load rfl (Cel.head rfl) (by kernel_rfl)) rfl rfl rfl ?_)
          refine ww ?_
          refine c_part_d 26 _ rfl (fun c5 => ?_) (fun c5 => ?_)
          · -- t26 = True
            refine ww ?_
            refine c_cons (s_val (v_field 2 rfl (by kernel_rfl)) rfl rfl rfl ?_)
            refine c_cons (s_val (v_load rfl (Cel.head rfl) (by kernel_rfl)) rfl rfl rfl ?_)
            refine ww ?_
            exact f_ret1 rfl rfl (fun w hs => ⟨by first | rw [decide_eq_decide.2 (show c ≤ 1073741824 ↔ mst a b c by unfold mst; omega)] | rw [decide_eq_false (show ¬ mst a b c by unfold mst; omega)], hs.tl⟩)
          refine ww ?_
          exact f_ret1 rfl rfl (fun w hs => ⟨by first | rw [decide_eq_decide.2 (show c ≤ 1073741824 ↔ mst a b c by unfold mst; omega)] | rw [decide_eq_false (show ¬ mst a b c by unfold mst; omega)], hs.tl⟩)
        refine ww ?_
        exact f_ret1 rfl rfl (fun w hs => ⟨by first | rw [decide_eq_decide.2 (show c ≤ 1073741824 ↔ mst a b c by unfold mst; omega)] | rw [decide_eq_false (show ¬ mst a b c by unfold mst; omega)], hs.tl⟩)
      refine ww ?_
      exact f_ret1 rfl rfl (fun w hs => ⟨by first | rw [decide_eq_decide.2 (show c ≤ 1073741824 ↔ mst a b c by unfold mst; omega)] | rw [decide_eq_false (show ¬ mst a b c by unfold mst; omega)], hs.tl⟩)
    refine ww ?_
    exact f_ret1 rfl rfl (fun w hs => ⟨by first | rw [decide_eq_decide.2 (show c ≤ 1073741824 ↔ mst a b c by unfold mst; omega)] | rw [decide_eq_false (show ¬ mst a b c by unfold mst; omega)], hs.tl⟩)
  refine ww ?_
  exact f_ret1 rfl rfl (fun w hs => ⟨by first | rw [decide_eq_decide.2 (show c ≤ 1073741824 ↔ mst a b c by unfold mst; omega)] | rw [decide_eq_false (show ¬ mst a b c by unfold mst; omega)], hs.tl⟩)

end Go.Proofs.Ytldkldmjcacopaa
