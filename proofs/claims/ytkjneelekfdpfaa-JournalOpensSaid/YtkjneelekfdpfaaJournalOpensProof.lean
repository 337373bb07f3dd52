/- pinstripelaw18.JournalOpens returns true, and leaves all that was there as it was. -/
import Derived.Test.YtkjneelekfdpfaaRows
import Derived.Test.YtkjneelekfdpfaaJrL6
import Derived.Test.YtkjneelekfdpfaaClose
namespace Go.Proofs.Ytkjneelekfdpfaa
open Go Go.ChangeShapes Go.WideShapes Go.ChangeAt Go.RowKit
set_option linter.unusedVariables false

theorem rd_int1 {H : Type} {enc : TypeId × Value → H} {W : World} (cs : List Value) (h : Rd enc Try.prog W 3 cs) : ∃ x, IntR (atStart W) cs x := by
  obtain ⟨a, ea, _⟩ := rd_i64 Try.underlying3 h
  exact ⟨a, ea⟩
set_option maxRecDepth 100000 in
theorem journalOpens_lifted (os : Os) (started : os.Started) (H : Type) (enc : TypeId × Value → H) :
    ReturnsInHanded {} Try.checked os 8 .any (Rows.journalOpensSpec.pre6 enc Try.prog Try.f8 Rows.journalOpensRow.domain false) (Rows.journalOpensSpec.post enc Try.prog Try.f8 false true false false) := by
  refine returnsInHanded_of_change (C := Try.checked) own started (by kernel_rfl) Try.func8
    (ChangeSpec.witness6 (enc := enc) (C := Try.checked) false ⟨#[], #[.slice none 0 0, .slice none 0 0], []⟩ 8 (by kernel_rfl) (by kernel_rfl) (by kernel_rfl) (by kernel_rfl)) ?_
  intro W base args ds gs before hval0 hW hcnd _
  have hval : ∀ (j : Nat) t v, Try.f8.params[j]? = some t → args[j]? = some v → Value.okWide Try.prog W .any base t v := hval0
  have hW' := hW
  obtain ⟨p, q, hA0, hV, rfl, hfz, hnd⟩ := hW
  have hA : DataW.TrodAll enc Try.prog W 0 (fun _ => true) true Try.f8.params.toList args.toList ds p := hA0
  rw [Try.params8] at hA hval
  obtain ⟨v0, v1, d0, d1, p0, p1, rfl, rfl, rfl, h0, h1⟩ := trodAll_two hA
  obtain ⟨rfl, rfl⟩ := trodVars_none hV
  obtain ⟨l, hl⟩ := arg_recs (s := 3) (R := JdR) Try.underlying36 (by kernel_rfl) (by decide) rd_jd (hval 0 _ v0 rfl rfl) h0
  obtain ⟨k, hk⟩ := arg_recs (s := 1) (R := IntR) Try.underlying53 (by kernel_rfl) (by decide) rd_int1 (hval 1 _ v1 rfl rfl) h1
  refine (law_of (opens_c v0 v1 l k W W (atStart W) [] hl hk (Sat.start W))).mono fun e W' ⟨he, hw⟩ => ⟨_, he, ?_⟩
  exact law_post 4 hW' rfl rfl Try.underlying4 rfl rfl rfl (by kernel_rfl) hw

theorem journalOpens_holds : Rows.JournalOpensSaid :=
  OpenClaim.holds_of_wide 8 Try.f8 rfl rfl rfl rfl rfl rfl rfl ⟨rfl, rfl, rfl, rfl, rfl⟩ rfl rfl rfl rfl rfl (by kernel_rfl) Try.func8 (by kernel_rfl)
    (of_decide_eq_true (by kernel_rfl)) (by unfold Func.isWrapper; first | (rw [if_pos (by decide +kernel)]; kernel_rfl) | (rw [if_neg (by decide +kernel)]; exact ⟨rfl, rfl⟩))
    (fun os started H enc _ => journalOpens_lifted os started H enc)
end Go.Proofs.Ytkjneelekfdpfaa
