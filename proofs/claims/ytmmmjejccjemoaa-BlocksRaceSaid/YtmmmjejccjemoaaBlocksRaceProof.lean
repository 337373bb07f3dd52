/- pinstripelaw11.BlocksRace returns true, and leaves all that was there as it was. -/
import Derived.Test.YtmmmjejccjemoaaRows
import Derived.Test.YtmmmjejccjemoaaBlkL5
import Derived.Test.YtmmmjejccjemoaaBlkRd
import Derived.Test.YtmmmjejccjemoaaClose
namespace Go.Proofs.Ytmmmjejccjemoaa
open Go Go.ChangeShapes Go.WideShapes Go.ChangeAt Go.RowKit
set_option linter.unusedVariables false

set_option maxRecDepth 100000 in
theorem blocksRace_lifted (os : Os) (started : os.Started) (H : Type) (enc : TypeId × Value → H) :
    ReturnsInHanded {} Try.checked os 7 .any (Rows.blocksRaceSpec.pre6 enc Try.prog Try.f7 Rows.blocksRaceRow.domain false) (Rows.blocksRaceSpec.post enc Try.prog Try.f7 false true false false) := by
  refine returnsInHanded_of_change (C := Try.checked) own started (by kernel_rfl) Try.func7
    (ChangeSpec.witness6 (enc := enc) (C := Try.checked) false ⟨#[], #[.slice none 0 0, I64 0, .agg #[I64 0, I64 0, I64 0, I64 0, I64 0, I64 0, I64 0, I64 0, I64 0, I64 0]], []⟩ 8 (by kernel_rfl) (by kernel_rfl) (by kernel_rfl) (by kernel_rfl)) ?_
  intro W base args ds gs before hval0 hW hcnd _
  have hval : ∀ (j : Nat) t v, Try.f7.params[j]? = some t → args[j]? = some v → Value.okWide Try.prog W .any base t v := hval0
  have hW' := hW
  obtain ⟨p, q, hA0, hV, rfl, hfz, hnd⟩ := hW
  have hA : DataW.TrodAll enc Try.prog W 0 (fun _ => true) true Try.f7.params.toList args.toList ds p := hA0
  rw [Try.params7] at hA hval
  obtain ⟨v0, v1, v2, d0, d1, d2, p0, p1, p2, rfl, rfl, rfl, h0, h1, h2⟩ := trodAll_three hA
  obtain ⟨rfl, rfl⟩ := trodVars_none hV
  obtain ⟨l, hl⟩ := arg_recs (s := 14) (R := DlR) Try.underlying38 (by kernel_rfl) (by decide) rd_dl (hval 0 _ v0 rfl rfl) h0
  obtain ⟨b, rfl, hb⟩ := arg_i64 Try.underlying3 (hval 1 _ v1 rfl rfl) h1
  obtain ⟨p, q, rfl⟩ := arg_ptr2 (hval 2 _ v2 rfl rfl) h2
  refine (law_of (race_c v0 l b p q hb W W (atStart W) [] hl (Sat.start W))).mono fun e W' ⟨he, hw⟩ => ⟨_, he, ?_⟩
  exact law_post 4 hW' rfl rfl Try.underlying4 rfl rfl rfl (by kernel_rfl) hw

theorem blocksRace_holds : Rows.BlocksRaceSaid :=
  OpenClaim.holds_of_wide 7 Try.f7 rfl rfl rfl rfl rfl rfl rfl ⟨rfl, rfl, rfl, rfl, rfl⟩ rfl rfl rfl rfl rfl (by kernel_rfl) Try.func7 (by kernel_rfl)
    (of_decide_eq_true (by kernel_rfl)) (by unfold Func.isWrapper; first | (rw [if_pos (by decide +kernel)]; kernel_rfl) | (rw [if_neg (by decide +kernel)]; exact ⟨rfl, rfl⟩))
    (fun os started H enc _ => blocksRace_lifted os started H enc)
end Go.Proofs.Ytmmmjejccjemoaa
