/- pinstripelaw7.BagPlays returns true at every input, and leaves all that was there as it was. -/
import Derived.Test.YtehadhcemegbmaaRows
import Derived.Test.YtehadhcemegbmaaBagLaw2
import Derived.Test.YtehadhcemegbmaaFrame
namespace Go.Proofs.Ytehadhcemegbmaa
open Go Go.ChangeShapes Go.WideShapes Go.ChangeAt Go.RowKit
set_option linter.unusedVariables false

theorem rd_msg {H : Type} {enc : TypeId × Value → H} {W : World} {cs : List Value} (h : Rd enc Try.prog W 38 cs) : ∃ (a b : Int) (u : Value) (xs : List UInt8), cs = [I64 a, I64 b, u] ∧ SV (atStart W) [] u xs.length (xs.map B8) := by
  have hl : cs.length = 3 := rd_len Try.underlying38 h
  have h0 := rd_field Try.underlying38 h (i := 0) rfl
  have h1 := rd_field Try.underlying38 h (i := 1) rfl
  have h2 := rd_field Try.underlying38 h (i := 2) rfl
  obtain ⟨a, ea, _⟩ := rd_i64 Try.underlying3 h0
  obtain ⟨b, eb, _⟩ := rd_i64 Try.underlying3 h1
  obtain ⟨u, xs, eu, hu⟩ := rd_bytes Try.underlying28 Try.underlying5 (by kernel_rfl) h2
  match cs, hl with
  | [c0, c1, c2], _ =>
    have e0 : [c0] = [I64 a] := ea
    have e1 : [c1] = [I64 b] := eb
    have e2 : [c2] = [u] := eu
    cases e0; cases e1; cases e2
    exact ⟨a, b, _, xs, rfl, hu⟩
theorem rd_deed {H : Type} {enc : TypeId × Value → H} {W : World} (cs : List Value) (h : Rd enc Try.prog W 40 cs) : ∃ x, DeedR (atStart W) cs x := by
  have hl : cs.length = 5 := rd_len Try.underlying40 h
  have h0 := rd_field Try.underlying40 h (i := 0) rfl
  have h1 := rd_field Try.underlying40 h (i := 1) rfl
  have h2 := rd_field Try.underlying40 h (i := 2) rfl
  obtain ⟨a, ea, _⟩ := rd_i64 Try.underlying3 h0
  obtain ⟨b, eb, _⟩ := rd_i64 Try.underlying3 h1
  obtain ⟨f, t, u, xs, eu, hu⟩ := rd_msg h2
  match cs, hl with
  | [c0, c1, c2, c3, c4], _ =>
    have e0 : [c0] = [I64 a] := ea
    have e1 : [c1] = [I64 b] := eb
    have e2 : [c2, c3, c4] = [I64 f, I64 t, u] := eu
    cases e0; cases e1; cases e2
    exact ⟨⟨a, b, ⟨f, t, xs⟩⟩, _, rfl, hu⟩

set_option maxRecDepth 100000 in
theorem bagPlays_lifted (os : Os) (started : os.Started) (H : Type) (enc : TypeId × Value → H) :
    ReturnsInHanded {} Try.checked os 4 .any (Rows.bagPlaysSpec.pre6 enc Try.prog Try.f4 Rows.bagPlaysRow.domain false) (Rows.bagPlaysSpec.post enc Try.prog Try.f4 false true false false) := by
  refine returnsInHanded_of_change (C := Try.checked) own started (by kernel_rfl) Try.func4
    (ChangeSpec.witness6 (enc := enc) (C := Try.checked) false ⟨#[], #[.int .i64 0, .slice none 0 0], []⟩ 8 (by kernel_rfl) (by kernel_rfl) (by kernel_rfl) (by kernel_rfl)) ?_
  intro W base args ds gs before hval0 hW hcnd _
  have hval : ∀ (j : Nat) t v, Try.f4.params[j]? = some t → args[j]? = some v → Value.okWide Try.prog W .any base t v := hval0
  have hW' := hW
  obtain ⟨p, q, hA0, hV, rfl, hfz, hnd⟩ := hW
  have hA : DataW.TrodAll enc Try.prog W 0 (fun _ => true) true Try.f4.params.toList args.toList ds p := hA0
  rw [Try.params4] at hA hval
  obtain ⟨v0, v1, d0, d1, p0, p1, rfl, rfl, rfl, h0, h1⟩ := trodAll_two hA
  obtain ⟨rfl, rfl⟩ := trodVars_none hV
  obtain ⟨most, rfl, _⟩ := arg_i64 Try.underlying3 (hval 0 _ v0 rfl rfl) h0
  obtain ⟨l, hl⟩ := arg_recs (s := 5) (R := DeedR) Try.underlying34 (by kernel_rfl) (by decide) rd_deed (hval 1 _ v1 rfl rfl) h1
  refine (bagPlays_c most v1 l W hl).mono fun e W' ⟨he, hw⟩ => ⟨_, he, ?_⟩
  exact law_post 4 hW' rfl rfl Try.underlying4 rfl rfl rfl (by kernel_rfl) hw

theorem bagPlays_holds : Rows.BagPlaysSaid :=
  OpenClaim.holds_of_wide 4 Try.f4 rfl rfl rfl rfl rfl rfl rfl ⟨rfl, rfl, rfl, rfl, rfl⟩ rfl rfl rfl rfl rfl (by kernel_rfl) Try.func4 (by kernel_rfl)
    (of_decide_eq_true (by kernel_rfl)) (by unfold Func.isWrapper; first | (rw [if_pos (by decide +kernel)]; kernel_rfl) | (rw [if_neg (by decide +kernel)]; exact ⟨rfl, rfl⟩))
    (fun os started H enc _ => bagPlays_lifted os started H enc)
end Go.Proofs.Ytehadhcemegbmaa
