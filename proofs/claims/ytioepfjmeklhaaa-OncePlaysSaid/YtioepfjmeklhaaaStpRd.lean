/- How a stamp is read. -/
import Derived.Test.YtioepfjmeklhaaaOpen2
import Derived.Test.YtioepfjmeklhaaaOnceW1
namespace Go.Proofs.Ytioepfjmeklhaaa
open Go Go.ChangeShapes Go.WideShapes Go.ChangeAt Go.RowKit
set_option linter.unusedVariables false

theorem rd_stpC {H : Type} {enc : TypeId × Value → H} {W : World} (cs : List Value) (h : Rd enc Try.prog W 31 cs) : ∃ x : Stp, cs = [I64 x.c, I64 x.l, I64 x.s] := by
  have hl : cs.length = 3 := rd_len Try.underlying31 h
  have h0 := rd_field Try.underlying31 h (i := 0) rfl
  have h1 := rd_field Try.underlying31 h (i := 1) rfl
  have h2 := rd_field Try.underlying31 h (i := 2) rfl
  obtain ⟨a, ea, _⟩ := rd_i64 Try.underlying3 h0
  obtain ⟨b, eb, _⟩ := rd_i64 Try.underlying3 h1
  obtain ⟨c, ec, _⟩ := rd_i64 Try.underlying3 h2
  match cs, hl with
  | [c0, c1, c2], _ =>
    have e0 : [c0] = [I64 a] := ea
    have e1 : [c1] = [I64 b] := eb
    have e2 : [c2] = [I64 c] := ec
    cases e0; cases e1; cases e2
    exact ⟨⟨a, b, c⟩, rfl⟩
/-- An argument that is a stamp. -/
theorem arg_stp {H : Type} {enc : TypeId × Value → H} {W : World} {r : Reach} {b0 : Nat} {v : Value} {d : DataW H} {ps : List MemPlace} (hval : Value.okWide Try.prog W r b0 31 v) (hd : DataW.Trod enc Try.prog W 0 (fun _ => true) true 31 v d ps) : ∃ x : Stp, v = StV x := by
  obtain ⟨x, hx⟩ := rd_stpC _ (arg_rd hd)
  obtain ⟨cells, rfl, _⟩ := okWide_struct Try.underlying31 hval
  refine ⟨x, ?_⟩
  have : cells.toList = [I64 x.c, I64 x.l, I64 x.s] := by simpa [Value.cells] using hx
  have h2 : cells = #[I64 x.c, I64 x.l, I64 x.s] := by
    apply Array.ext'; simpa using this
  rw [h2]
end Go.Proofs.Ytioepfjmeklhaaa
