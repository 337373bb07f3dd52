/- pinstripelaw13.LayoutBack returns true, and leaves all that was there as it was. -/
import Derived.Test.YtldkldmjcacopaaRows
import Derived.Test.YtldkldmjcacopaaLayL8
import Derived.Test.YtldkldmjcacopaaLayRd2
import Derived.Test.YtldkldmjcacopaaClose
import Derived.Test.YtldkldmjcacopaaOpen2
namespace Go.Proofs.Ytldkldmjcacopaa
open Go Go.ChangeShapes Go.WideShapes Go.ChangeAt Go.RowKit
set_option linter.unusedVariables false

set_option maxRecDepth 100000 in
theorem layoutBack_lifted (os : Os) (started : os.Started) (H : Type) (enc : TypeId × Value → H) :
    ReturnsInHanded {} Try.checked os 10 .any (Rows.layoutBackSpec.pre6 enc Try.prog Try.f10 Rows.layoutBackRow.domain false) (Rows.layoutBackSpec.post enc Try.prog Try.f10 false true false false) := by
  refine returnsInHanded_of_change (C := Try.checked) own started (by kernel_rfl) Try.func10
    (ChangeSpec.witness6 (enc := enc) (C := Try.checked) false ⟨#[], #[.int .i64 0, .slice none 0 0, .agg #[.int .u8 0, .int .u8 0]], []⟩ 8 (by kernel_rfl) (by kernel_rfl) (by kernel_rfl) (by kernel_rfl)) ?_
  intro W base args ds gs before hval0 hW hcnd _
  have hval : ∀ (j : Nat) t v, Try.f10.params[j]? = some t → args[j]? = some v → Value.okWide Try.prog W .any base t v := hval0
  have hW' := hW
  obtain ⟨p, q, hA0, hV, rfl, hfz, hnd⟩ := hW
  have hA : DataW.TrodAll enc Try.prog W 0 (fun _ => true) true Try.f10.params.toList args.toList ds p := hA0
  rw [Try.params10] at hA hval
  obtain ⟨v0, v1, v2, d0, d1, d2, p0, p1, p2, rfl, rfl, rfl, h0, h1, h2⟩ := trodAll_three hA
  obtain ⟨rfl, rfl⟩ := trodVars_none hV
  obtain ⟨m, rfl, _⟩ := arg_i64 Try.underlying3 (hval 0 _ v0 rfl rfl) h0
  obtain ⟨xs, hb⟩ := arg_bytes Try.underlying22 Try.underlying5 (by kernel_rfl) (hval 1 _ v1 rfl rfl) h1
  obtain ⟨a, b, rfl⟩ := arg_two8 Try.underlying68 Try.underlying5 (by kernel_rfl) (by kernel_rfl) (hval 2 _ v2 rfl rfl) h2
  refine (law_of (back_c m v1 xs a b W W (atStart W) [] hb (Sat.start W))).mono fun e W' ⟨he, hw⟩ => ⟨_, he, ?_⟩
  exact law_post 4 hW' rfl rfl Try.underlying4 rfl rfl rfl (by kernel_rfl) hw

theorem layoutBack_holds : Rows.LayoutBackSaid :=
  OpenClaim.holds_of_wide 10 Try.f10 rfl rfl rfl rfl rfl rfl rfl ⟨rfl, rfl, rfl, rfl, rfl⟩ rfl rfl rfl rfl rfl (by kernel_rfl) Try.func10 (by kernel_rfl)
    (of_decide_eq_true (by kernel_rfl)) (by unfold Func.isWrapper; first | (rw [if_pos (by decide +kernel)]; kernel_rfl) | (rw [if_neg (by decide +kernel)]; exact ⟨rfl, rfl⟩))
    (fun os started H enc _ => layoutBack_lifted os started H enc)
end Go.Proofs.Ytldkldmjcacopaa
