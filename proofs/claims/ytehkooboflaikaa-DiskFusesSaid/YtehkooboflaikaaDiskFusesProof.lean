/- pinstripelaw4.DiskFuses returns true, and leaves all that was there as it was. -/
import Derived.Test.YtehkooboflaikaaRows
import Derived.Test.YtehkooboflaikaaDskL2
import Derived.Test.YtehkooboflaikaaFrame
import Derived.Test.YtehkooboflaikaaClose
namespace Go.Proofs.Ytehkooboflaikaa
open Go Go.ChangeShapes Go.WideShapes Go.ChangeAt Go.RowKit
set_option linter.unusedVariables false

theorem rd_boolr {H : Type} {enc : TypeId × Value → H} {W : World} (cs : List Value) (h : Rd enc Try.prog W 4 cs) : ∃ x, BoolR (atStart W) cs x := by
  obtain ⟨a, ea⟩ := rd_bool Try.underlying4 h
  exact ⟨a, ea⟩

set_option maxRecDepth 100000 in
theorem diskFuses_lifted (os : Os) (started : os.Started) (H : Type) (enc : TypeId × Value → H) :
    ReturnsInHanded {} Try.checked os 4 .any (Rows.diskFusesSpec.pre6 enc Try.prog Try.f4 Rows.diskFusesRow.domain false) (Rows.diskFusesSpec.post enc Try.prog Try.f4 false true false false) := by
  refine returnsInHanded_of_change (C := Try.checked) own started (by kernel_rfl) Try.func4
    (ChangeSpec.witness6 (enc := enc) (C := Try.checked) false ⟨#[], #[.int .u8 0, .int .u8 0, .slice none 0 0], []⟩ 8 (by kernel_rfl) (by kernel_rfl) (by kernel_rfl) (by kernel_rfl)) ?_
  intro W base args ds gs before hval0 hW hcnd _
  have hval : ∀ (j : Nat) t v, Try.f4.params[j]? = some t → args[j]? = some v → Value.okWide Try.prog W .any base t v := hval0
  have hW' := hW
  obtain ⟨p, q, hA0, hV, rfl, hfz, hnd⟩ := hW
  have hA : DataW.TrodAll enc Try.prog W 0 (fun _ => true) true Try.f4.params.toList args.toList ds p := hA0
  rw [Try.params4] at hA hval
  obtain ⟨v0, v1, v2, d0, d1, d2, p0, p1, p2, rfl, rfl, rfl, h0, h1, h2⟩ := trodAll_three hA
  obtain ⟨rfl, rfl⟩ := trodVars_none hV
  obtain ⟨n, rfl⟩ := arg_u8 Try.underlying5 (hval 0 _ v0 rfl rfl) h0
  obtain ⟨m, rfl⟩ := arg_u8 Try.underlying5 (hval 1 _ v1 rfl rfl) h1
  obtain ⟨ks, hk⟩ := arg_recs (s := 1) (R := BoolR) Try.underlying42 (by kernel_rfl) (by decide) rd_boolr (hval 2 _ v2 rfl rfl) h2
  refine (law_of (fuses_c n m v2 ks W W (atStart W) [] hk (Sat.start W))).mono fun e W' ⟨he, hw⟩ => ⟨_, he, ?_⟩
  exact law_post 4 hW' rfl rfl Try.underlying4 rfl rfl rfl (by kernel_rfl) hw

theorem diskFuses_holds : Rows.DiskFusesSaid :=
  OpenClaim.holds_of_wide 4 Try.f4 rfl rfl rfl rfl rfl rfl rfl ⟨rfl, rfl, rfl, rfl, rfl⟩ rfl rfl rfl rfl rfl (by kernel_rfl) Try.func4 (by kernel_rfl)
    (of_decide_eq_true (by kernel_rfl)) (by unfold Func.isWrapper; first | (rw [if_pos (by decide +kernel)]; kernel_rfl) | (rw [if_neg (by decide +kernel)]; exact ⟨rfl, rfl⟩))
    (fun os started H enc _ => diskFuses_lifted os started H enc)
end Go.Proofs.Ytehkooboflaikaa
