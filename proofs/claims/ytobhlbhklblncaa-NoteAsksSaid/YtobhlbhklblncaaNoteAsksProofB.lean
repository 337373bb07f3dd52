/- pinstripelaw16.NoteAsks returns true, and leaves all that was there as it was. -/
import Derived.Test.YtobhlbhklblncaaRows
import Derived.Test.YtobhlbhklblncaaK9
namespace Go.Proofs.Ytobhlbhklblncaa
open Go Go.ChangeShapes Go.WideShapes Go.ChangeAt Go.RowKit
set_option linter.unusedVariables false

set_option maxRecDepth 100000 in
theorem noteAsks_lifted (os : Os) (started : os.Started) (H : Type) (enc : TypeId × Value → H) :
    ReturnsInHanded {} Try.checked os 3 .any (Rows.noteAsksSpec.pre6 enc Try.prog Try.f3 Rows.noteAsksRow.domain false) (Rows.noteAsksSpec.post enc Try.prog Try.f3 false true false false) := by
  refine returnsInHanded_of_change (C := Try.checked) own started (by kernel_rfl) Try.func3
    (ChangeSpec.witness6 (enc := enc) (C := Try.checked) false ⟨#[], #[.agg (zNq.cells (.slice none 0 0) (.slice none 0 0)).toArray, .slice none 0 0], []⟩ 8 (by kernel_rfl) (by kernel_rfl) (by kernel_rfl) (by kernel_rfl)) ?_
  intro W base args ds gs before hval0 hW hcnd _
  have hval : ∀ (j : Nat) t v, Try.f3.params[j]? = some t → args[j]? = some v → Value.okWide Try.prog W .any base t v := hval0
  have hW' := hW
  obtain ⟨p, q, hA0, hV, rfl, hfz, hnd⟩ := hW
  have hA : DataW.TrodAll enc Try.prog W 0 (fun _ => true) true Try.f3.params.toList args.toList ds p := hA0
  rw [Try.params3] at hA hval
  obtain ⟨v0, v1, d0, d1, p0, p1, rfl, rfl, rfl, h0, h1⟩ := trodAll_two hA
  obtain ⟨rfl, rfl⟩ := trodVars_none hV
  obtain ⟨q, vs, vd, rfl, hss, hds⟩ := arg_rq (hval 0 _ v0 rfl rfl) h0
  obtain ⟨b, hb⟩ := arg_bytes Try.underlying28 Try.underlying5 (by kernel_rfl) (hval 1 _ v1 rfl rfl) h1
  refine (law_of (asks_c q vs vd v1 b W W (atStart W) [] hss hds hb (Sat.start W))).mono fun e W' ⟨he, hw⟩ => ⟨_, he, ?_⟩
  exact law_post 4 hW' rfl rfl Try.underlying4 rfl rfl rfl (by kernel_rfl) hw

theorem noteAsks_holds : Rows.NoteAsksSaid :=
  OpenClaim.holds_of_wide 3 Try.f3 rfl rfl rfl rfl rfl rfl rfl ⟨rfl, rfl, rfl, rfl, rfl⟩ rfl rfl rfl rfl rfl (by kernel_rfl) Try.func3 (by kernel_rfl)
    (of_decide_eq_true (by kernel_rfl)) (by unfold Func.isWrapper; first | (rw [if_pos (by decide +kernel)]; kernel_rfl) | (rw [if_neg (by decide +kernel)]; exact ⟨rfl, rfl⟩))
    (fun os started H enc _ => noteAsks_lifted os started H enc)
end Go.Proofs.Ytobhlbhklblncaa
