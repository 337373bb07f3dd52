/- pinstripelaw8.OnceOnce returns true at every input, and leaves all that was there as it was. -/
import Derived.Test.YtioepfjmeklhaaaRows
import Derived.Test.YtioepfjmeklhaaaOnceLaw2
import Derived.Test.YtioepfjmeklhaaaFrame
namespace Go.Proofs.Ytioepfjmeklhaaa
open Go Go.ChangeShapes Go.WideShapes Go.ChangeAt Go.RowKit
set_option linter.unusedVariables false

theorem rd_stp {H : Type} {enc : TypeId × Value → H} {W : World} (cs : List Value) (h : Rd enc Try.prog W 31 cs) : ∃ x, StpR (atStart W) cs x := by
  have hl : cs.length = 3 := rd_len Try.underlying31 h
  have h0 := rd_field Try.underlying31 h (i := 0) rfl
  have h1 := rd_field Try.underlying31 h (i := 1) rfl
  have h2 := rd_field Try.underlying31 h (i := 2) rfl
  obtain ⟨a, ea, _⟩ := rd_i64 Try.underlying3 h0
  obtain ⟨b, eb, _⟩ := rd_i64 Try.underlying3 h1
  obtain ⟨c, ec, _⟩ := rd_i64 Try.underlying3 h2
  match cs, hl with
  | [c0, c1, c2], _ =>
    have e0 : [c0] = [I64 a] := ea
    have e1 : [c1] = [I64 b] := eb
    have e2 : [c2] = [I64 c] := ec
    cases e0; cases e1; cases e2
    exact ⟨⟨a, b, c⟩, rfl⟩

set_option maxRecDepth 100000 in
theorem onceOnce_lifted (os : Os) (started : os.Started) (H : Type) (enc : TypeId × Value → H) :
    ReturnsInHanded {} Try.checked os 3 .any (Rows.onceOnceSpec.pre6 enc Try.prog Try.f3 Rows.onceOnceRow.domain false) (Rows.onceOnceSpec.post enc Try.prog Try.f3 false true false false) := by
  refine returnsInHanded_of_change (C := Try.checked) own started (by kernel_rfl) Try.func3
    (ChangeSpec.witness6 (enc := enc) (C := Try.checked) false ⟨#[], #[.slice none 0 0], []⟩ 8 (by kernel_rfl) (by kernel_rfl) (by kernel_rfl) (by kernel_rfl)) ?_
  intro W base args ds gs before hval0 hW hcnd _
  have hval : ∀ (j : Nat) t v, Try.f3.params[j]? = some t → args[j]? = some v → Value.okWide Try.prog W .any base t v := hval0
  have hW' := hW
  obtain ⟨p, q, hA0, hV, rfl, hfz, hnd⟩ := hW
  have hA : DataW.TrodAll enc Try.prog W 0 (fun _ => true) true Try.f3.params.toList args.toList ds p := hA0
  rw [Try.params3] at hA hval
  obtain ⟨v0, d0, rfl, rfl, h0⟩ := trodAll_one hA
  obtain ⟨rfl, rfl⟩ := trodVars_none hV
  obtain ⟨l, hl⟩ := arg_recs (s := 3) (R := StpR) Try.underlying22 (by kernel_rfl) (by decide) rd_stp (hval 0 _ v0 rfl rfl) h0
  refine (onceOnce_c v0 l W hl).mono fun e W' ⟨he, hw⟩ => ⟨_, he, ?_⟩
  exact law_post 4 hW' rfl rfl Try.underlying4 rfl rfl rfl (by kernel_rfl) hw

theorem onceOnce_holds : Rows.OnceOnceSaid :=
  OpenClaim.holds_of_wide 3 Try.f3 rfl rfl rfl rfl rfl rfl rfl ⟨rfl, rfl, rfl, rfl, rfl⟩ rfl rfl rfl rfl rfl (by kernel_rfl) Try.func3 (by kernel_rfl)
    (of_decide_eq_true (by kernel_rfl)) (by unfold Func.isWrapper; first | (rw [if_pos (by decide +kernel)]; kernel_rfl) | (rw [if_neg (by decide +kernel)]; exact ⟨rfl, rfl⟩))
    (fun os started H enc _ => onceOnce_lifted os started H enc)
end Go.Proofs.Ytioepfjmeklhaaa
