/- pinstripelaw7.BagTakes returns true at every input, and leaves all that was there as it was. -/
import Derived.Test.YtehadhcemegbmaaRows
import Derived.Test.YtehadhcemegbmaaBagLaw3
import Derived.Test.YtehadhcemegbmaaFrame
namespace Go.Proofs.Ytehadhcemegbmaa
open Go Go.ChangeShapes Go.WideShapes Go.ChangeAt Go.RowKit
set_option linter.unusedVariables false

theorem rd_msl {H : Type} {enc : TypeId × Value → H} {W : World} (cs : List Value) (h : Rd enc Try.prog W 38 cs) : ∃ x, MsL (atStart W) cs x := by
  have hl : cs.length = 3 := rd_len Try.underlying38 h
  have h0 := rd_field Try.underlying38 h (i := 0) rfl
  have h1 := rd_field Try.underlying38 h (i := 1) rfl
  have h2 := rd_field Try.underlying38 h (i := 2) rfl
  obtain ⟨a, ea, _⟩ := rd_i64 Try.underlying3 h0
  obtain ⟨b, eb, _⟩ := rd_i64 Try.underlying3 h1
  obtain ⟨u, xs, eu, hu⟩ := rd_bytes Try.underlying28 Try.underlying5 (by kernel_rfl) h2
  match cs, hl with
  | [c0, c1, c2], _ =>
    have e0 : [c0] = [I64 a] := ea
    have e1 : [c1] = [I64 b] := eb
    have e2 : [c2] = [u] := eu
    cases e0; cases e1; cases e2
    exact ⟨⟨a, b, xs⟩, _, rfl, hu⟩
theorem rd_intr {H : Type} {enc : TypeId × Value → H} {W : World} (cs : List Value) (h : Rd enc Try.prog W 3 cs) : ∃ x, IntR (atStart W) cs x := by
  obtain ⟨a, ea, _⟩ := rd_i64 Try.underlying3 h
  exact ⟨a, ea⟩

set_option maxRecDepth 100000 in
theorem bagTakes_lifted (os : Os) (started : os.Started) (H : Type) (enc : TypeId × Value → H) :
    ReturnsInHanded {} Try.checked os 5 .any (Rows.bagTakesSpec.pre6 enc Try.prog Try.f5 Rows.bagTakesRow.domain false) (Rows.bagTakesSpec.post enc Try.prog Try.f5 false true false false) := by
  refine returnsInHanded_of_change (C := Try.checked) own started (by kernel_rfl) Try.func5
    (ChangeSpec.witness6 (enc := enc) (C := Try.checked) false ⟨#[], #[.slice none 0 0, .slice none 0 0, .int .i64 0], []⟩ 8 (by kernel_rfl) (by kernel_rfl) (by kernel_rfl) (by kernel_rfl)) ?_
  intro W base args ds gs before hval0 hW hcnd _
  have hval : ∀ (j : Nat) t v, Try.f5.params[j]? = some t → args[j]? = some v → Value.okWide Try.prog W .any base t v := hval0
  have hW' := hW
  obtain ⟨p, q, hA0, hV, rfl, hfz, hnd⟩ := hW
  have hA : DataW.TrodAll enc Try.prog W 0 (fun _ => true) true Try.f5.params.toList args.toList ds p := hA0
  rw [Try.params5] at hA hval
  obtain ⟨v0, v1, v2, d0, d1, d2, p0, p1, p2, rfl, rfl, rfl, h0, h1, h2⟩ := trodAll_three hA
  obtain ⟨rfl, rfl⟩ := trodVars_none hV
  obtain ⟨l, hl⟩ := arg_recs (s := 3) (R := MsL) Try.underlying46 (by kernel_rfl) (by decide) rd_msl (hval 0 _ v0 rfl rfl) h0
  obtain ⟨pk, hpk⟩ := arg_recs (s := 1) (R := IntR) Try.underlying54 (by kernel_rfl) (by decide) rd_intr (hval 1 _ v1 rfl rfl) h1
  obtain ⟨to, rfl, _⟩ := arg_i64 Try.underlying3 (hval 2 _ v2 rfl rfl) h2
  refine (bagTakes_c v0 v1 l pk to W hl hpk).mono fun e W' ⟨he, hw⟩ => ⟨_, he, ?_⟩
  exact law_post 4 hW' rfl rfl Try.underlying4 rfl rfl rfl (by kernel_rfl) hw

theorem bagTakes_holds : Rows.BagTakesSaid :=
  OpenClaim.holds_of_wide 5 Try.f5 rfl rfl rfl rfl rfl rfl rfl ⟨rfl, rfl, rfl, rfl, rfl⟩ rfl rfl rfl rfl rfl (by kernel_rfl) Try.func5 (by kernel_rfl)
    (of_decide_eq_true (by kernel_rfl)) (by unfold Func.isWrapper; first | (rw [if_pos (by decide +kernel)]; kernel_rfl) | (rw [if_neg (by decide +kernel)]; exact ⟨rfl, rfl⟩))
    (fun os started H enc _ => bagTakes_lifted os started H enc)
end Go.Proofs.Ytehadhcemegbmaa
