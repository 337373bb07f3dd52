/- pinstripelaw8.OncePlays returns true at every input, and leaves all that was there as it was. -/
import Derived.Test.YtioepfjmeklhaaaRows
import Derived.Test.YtioepfjmeklhaaaOnceLaw7
import Derived.Test.YtioepfjmeklhaaaRwRd
import Derived.Test.YtioepfjmeklhaaaFrame
namespace Go.Proofs.Ytioepfjmeklhaaa
open Go Go.ChangeShapes Go.WideShapes Go.ChangeAt Go.RowKit
set_option linter.unusedVariables false

set_option maxRecDepth 100000 in
theorem oncePlays_lifted (os : Os) (started : os.Started) (H : Type) (enc : TypeId × Value → H) :
    ReturnsInHanded {} Try.checked os 8 .any (Rows.oncePlaysSpec.pre6 enc Try.prog Try.f8 Rows.oncePlaysRow.domain false) (Rows.oncePlaysSpec.post enc Try.prog Try.f8 false true false false) := by
  refine returnsInHanded_of_change (C := Try.checked) own started (by kernel_rfl) Try.func8
    (ChangeSpec.witness6 (enc := enc) (C := Try.checked) false ⟨#[], #[.slice none 0 0, .slice none 0 0, .slice none 0 0], []⟩ 8 (by kernel_rfl) (by kernel_rfl) (by kernel_rfl) (by kernel_rfl)) ?_
  intro W base args ds gs before hval0 hW hcnd _
  have hval : ∀ (j : Nat) t v, Try.f8.params[j]? = some t → args[j]? = some v → Value.okWide Try.prog W .any base t v := hval0
  have hW' := hW
  obtain ⟨p, q, hA0, hV, rfl, hfz, hnd⟩ := hW
  have hA : DataW.TrodAll enc Try.prog W 0 (fun _ => true) true Try.f8.params.toList args.toList ds p := hA0
  rw [Try.params8] at hA hval
  obtain ⟨v0, v1, v2, d0, d1, d2, p0, p1, p2, rfl, rfl, rfl, h0, h1, h2⟩ := trodAll_three hA
  obtain ⟨rfl, rfl⟩ := trodVars_none hV
  obtain ⟨l, hl⟩ := arg_recs (s := 4) (R := RwL) Try.underlying39 (by kernel_rfl) (by decide) rd_rw (hval 0 _ v0 rfl rfl) h0
  obtain ⟨k, hk⟩ := arg_recs (s := 3) (R := StpR) Try.underlying22 (by kernel_rfl) (by decide) (fun cs h => rd_stpC cs h) (hval 1 _ v1 rfl rfl) h1
  obtain ⟨q, hq⟩ := arg_recs (s := 4) (R := RwL) Try.underlying39 (by kernel_rfl) (by decide) rd_rw (hval 2 _ v2 rfl rfl) h2
  refine (oncePlays_c v0 v1 v2 l k q W hl hk hq).mono fun e W' ⟨he, hw⟩ => ⟨_, he, ?_⟩
  exact law_post 4 hW' rfl rfl Try.underlying4 rfl rfl rfl (by kernel_rfl) hw

theorem oncePlays_holds : Rows.OncePlaysSaid :=
  OpenClaim.holds_of_wide 8 Try.f8 rfl rfl rfl rfl rfl rfl rfl ⟨rfl, rfl, rfl, rfl, rfl⟩ rfl rfl rfl rfl rfl (by kernel_rfl) Try.func8 (by kernel_rfl)
    (of_decide_eq_true (by kernel_rfl)) (by unfold Func.isWrapper; first | (rw [if_pos (by decide +kernel)]; kernel_rfl) | (rw [if_neg (by decide +kernel)]; exact ⟨rfl, rfl⟩))
    (fun os started H enc _ => oncePlays_lifted os started H enc)
end Go.Proofs.Ytioepfjmeklhaaa
