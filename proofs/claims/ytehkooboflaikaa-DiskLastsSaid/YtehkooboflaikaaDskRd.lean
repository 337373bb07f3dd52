/- Deeds, read as arguments. -/
import Derived.Test.YtehkooboflaikaaDskL3
import Derived.Test.YtehkooboflaikaaFrame
namespace Go.Proofs.Ytehkooboflaikaa
open Go
set_option linter.unusedVariables false

theorem rd_deed {H : Type} {enc : TypeId × Value → H} {W : World} (cs : List Value) (h : Rd enc Try.prog W 32 cs) : ∃ x, DeedR (atStart W) cs x := by
  have hl : cs.length = 4 := rd_len Try.underlying32 h
  have h0 := rd_field Try.underlying32 h (i := 0) rfl
  have h1 := rd_field Try.underlying32 h (i := 1) rfl
  have h2 := rd_field Try.underlying32 h (i := 2) rfl
  have h3 := rd_field Try.underlying32 h (i := 3) rfl
  obtain ⟨a, ea, _⟩ := rd_i64 Try.underlying3 h0
  obtain ⟨b, eb, _⟩ := rd_i64 Try.underlying3 h1
  obtain ⟨c, ec⟩ := rd_u8 Try.underlying5 h2
  obtain ⟨d, ed, _⟩ := rd_i64 Try.underlying3 h3
  match cs, hl with
  | [c0, c1, c2, c3], _ =>
    have e0 : [c0] = [I64 a] := ea
    have e1 : [c1] = [I64 b] := eb
    have e2 : [c2] = [B8 c] := ec
    have e3 : [c3] = [I64 d] := ed
    cases e0; cases e1; cases e2; cases e3
    exact ⟨⟨a, b, c, d⟩, rfl⟩
end Go.Proofs.Ytehkooboflaikaa
