/- pinstripelaw18.JournalKnown returns true, and leaves all that was there as it was. -/
import Derived.Test.YtkjneelekfdpfaaRows
import Derived.Test.YtkjneelekfdpfaaJrL1
import Derived.Test.YtkjneelekfdpfaaClose
import Derived.Test.YtkjneelekfdpfaaOpen2
namespace Go.Proofs.Ytkjneelekfdpfaa
open Go Go.ChangeShapes Go.WideShapes Go.ChangeAt Go.RowKit
set_option linter.unusedVariables false

set_option maxRecDepth 100000 in
theorem journalKnown_lifted (os : Os) (started : os.Started) (H : Type) (enc : TypeId × Value → H) :
    ReturnsInHanded {} Try.checked os 3 .any (Rows.journalKnownSpec.pre6 enc Try.prog Try.f3 Rows.journalKnownRow.domain false) (Rows.journalKnownSpec.post enc Try.prog Try.f3 false true false false) := by
  refine returnsInHanded_of_change (C := Try.checked) own started (by kernel_rfl) Try.func3
    (ChangeSpec.witness6 (enc := enc) (C := Try.checked) false ⟨#[], #[], []⟩ 8 (by kernel_rfl) (by kernel_rfl) (by kernel_rfl) (by kernel_rfl)) ?_
  intro W base args ds gs before hval0 hW hcnd _
  have hval : ∀ (j : Nat) t v, Try.f3.params[j]? = some t → args[j]? = some v → Value.okWide Try.prog W .any base t v := hval0
  have hW' := hW
  obtain ⟨p, q, hA0, hV, rfl, hfz, hnd⟩ := hW
  have hA : DataW.TrodAll enc Try.prog W 0 (fun _ => true) true Try.f3.params.toList args.toList ds p := hA0
  rw [Try.params3] at hA hval
  obtain ⟨rfl, rfl, rfl⟩ := trodAll_none hA
  obtain ⟨rfl, rfl⟩ := trodVars_none hV

  refine (law_of (known_c W W (atStart W) [] (Sat.start W))).mono fun e W' ⟨he, hw⟩ => ⟨_, he, ?_⟩
  exact law_post 4 hW' rfl rfl Try.underlying4 rfl rfl rfl (by kernel_rfl) hw

theorem journalKnown_holds : Rows.JournalKnownSaid :=
  OpenClaim.holds_of_wide 3 Try.f3 rfl rfl rfl rfl rfl rfl rfl ⟨rfl, rfl, rfl, rfl, rfl⟩ rfl rfl rfl rfl rfl (by kernel_rfl) Try.func3 (by kernel_rfl)
    (of_decide_eq_true (by kernel_rfl)) (by unfold Func.isWrapper; first | (rw [if_pos (by decide +kernel)]; kernel_rfl) | (rw [if_neg (by decide +kernel)]; exact ⟨rfl, rfl⟩))
    (fun os started H enc _ => journalKnown_lifted os started H enc)
end Go.Proofs.Ytkjneelekfdpfaa
