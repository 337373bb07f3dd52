/- How a row is read. -/
import Derived.Test.YtioepfjmeklhaaaStpRd
import Derived.Test.YtioepfjmeklhaaaOnceW3
namespace Go.Proofs.Ytioepfjmeklhaaa
open Go Go.ChangeShapes Go.WideShapes Go.ChangeAt Go.RowKit
set_option linter.unusedVariables false

theorem rd_rw {H : Type} {enc : TypeId × Value → H} {W : World} (cs : List Value) (h : Rd enc Try.prog W 42 cs) : ∃ x, RwL (atStart W) cs x := by
  have hl : cs.length = 4 := rd_len Try.underlying42 h
  have h0 := rd_field Try.underlying42 h (i := 0) rfl
  have h1 := rd_field Try.underlying42 h (i := 1) rfl
  obtain ⟨s, es⟩ := rd_stpC _ h0
  obtain ⟨u, xs, eu, hu⟩ := rd_bytes Try.underlying33 Try.underlying5 (by kernel_rfl) h1
  match cs, hl with
  | [c0, c1, c2, c3], _ =>
    have e0 : [c0, c1, c2] = [I64 s.c, I64 s.l, I64 s.s] := es
    have e1 : [c3] = [u] := eu
    cases e0; cases e1
    exact ⟨⟨s, xs⟩, _, rfl, hu⟩
end Go.Proofs.Ytioepfjmeklhaaa
