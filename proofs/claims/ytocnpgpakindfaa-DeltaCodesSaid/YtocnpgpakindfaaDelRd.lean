/- How a delta is read. -/
import Derived.Test.YtocnpgpakindfaaOpen2
import Derived.Test.YtocnpgpakindfaaDelW4
namespace Go.Proofs.Ytocnpgpakindfaa
open Go Go.ChangeShapes Go.WideShapes Go.ChangeAt Go.RowKit
set_option linter.unusedVariables false
set_option maxRecDepth 100000

theorem list5 {α : Type} : ∀ (cs : List α), cs.length = 5 → ∃ a b c d e, cs = [a, b, c, d, e]
  | [a, b, c, d, e], _ => ⟨a, b, c, d, e, rfl⟩
theorem list14 {α : Type} : ∀ (cs : List α), cs.length = 14 → ∃ c0 c1 c2 c3 c4 c5 c6 c7 c8 c9 c10 c11 c12 c13, cs = [c0, c1, c2, c3, c4, c5, c6, c7, c8, c9, c10, c11, c12, c13]
  | [c0, c1, c2, c3, c4, c5, c6, c7, c8, c9, c10, c11, c12, c13], _ => ⟨c0, c1, c2, c3, c4, c5, c6, c7, c8, c9, c10, c11, c12, c13, rfl⟩
theorem rd_ptr {H : Type} {enc : TypeId × Value → H} {W : World} (cs : List Value) (h : Rd enc Try.prog W 30 cs) : ∃ x : P5, cs = x.cells := by
  have hl : cs.length = 5 := (rd_len Try.underlying30 h).trans (by kernel_rfl)
  have h0 := rd_field Try.underlying30 h (i := 0) rfl
  have h00 := rd_field Try.underlying28 h0 (i := 0) rfl
  have h01 := rd_field Try.underlying28 h0 (i := 1) rfl
  have h02 := rd_field Try.underlying28 h0 (i := 2) rfl
  have h1 := rd_field Try.underlying30 h (i := 1) rfl
  have h2 := rd_field Try.underlying30 h (i := 2) rfl
  obtain ⟨a, ea, _⟩ := rd_i64 Try.underlying3 h00
  obtain ⟨b, eb, _⟩ := rd_i64 Try.underlying3 h01
  obtain ⟨c, ec, _⟩ := rd_i64 Try.underlying3 h02
  obtain ⟨d, ed, _⟩ := rd_i64 Try.underlying3 h1
  obtain ⟨e, ee, _⟩ := rd_i64 Try.underlying3 h2
  obtain ⟨c0, c1, c2, c3, c4, rfl⟩ := list5 _ hl
  have e0 : [c0] = [I64 a] := ea
  have e1 : [c1] = [I64 b] := eb
  have e2 : [c2] = [I64 c] := ec
  have e3 : [c3] = [I64 d] := ed
  have e4 : [c4] = [I64 e] := ee
  cases e0; cases e1; cases e2; cases e3; cases e4
  exact ⟨⟨a, b, c, d, e⟩, rfl⟩
theorem rd_dl {H : Type} {enc : TypeId × Value → H} {W : World} (cs : List Value) (h : Rd enc Try.prog W 32 cs) : ∃ x : Dl, cs = x.cells := by
  have hl : cs.length = 14 := (rd_len Try.underlying32 h).trans (by kernel_rfl)
  have h0 := rd_field Try.underlying32 h (i := 0) rfl
  have h1 := rd_field Try.underlying32 h (i := 1) rfl
  have h2 := rd_field Try.underlying32 h (i := 2) rfl
  have h3 := rd_field Try.underlying32 h (i := 3) rfl
  have h4 := rd_field Try.underlying32 h (i := 4) rfl
  have h5 := rd_field Try.underlying32 h (i := 5) rfl
  obtain ⟨a, ea, _⟩ := rd_i64 Try.underlying3 h0
  obtain ⟨b, eb, _⟩ := rd_i64 Try.underlying3 h1
  obtain ⟨c, ec, _⟩ := rd_i64 Try.underlying3 h2
  obtain ⟨d, ed, _⟩ := rd_i64 Try.underlying3 h3
  obtain ⟨t, et⟩ := rd_ptr _ h4
  obtain ⟨o, eo⟩ := rd_ptr _ h5
  obtain ⟨c0, c1, c2, c3, c4, c5, c6, c7, c8, c9, c10, c11, c12, c13, rfl⟩ := list14 _ hl
  have e0 : [c0] = [I64 a] := ea
  have e1 : [c1] = [I64 b] := eb
  have e2 : [c2] = [I64 c] := ec
  have e3 : [c3] = [I64 d] := ed
  have e4 : [c4, c5, c6, c7, c8] = t.cells := et
  have e5 : [c9, c10, c11, c12, c13] = o.cells := eo
  cases e0; cases e1; cases e2; cases e3; cases e4; cases e5
  exact ⟨⟨a, b, c, d, t, o⟩, rfl⟩
theorem rd_dlr {H : Type} {enc : TypeId × Value → H} {W : World} (cs : List Value) (h : Rd enc Try.prog W 32 cs) : ∃ x, DlR (atStart W) cs x := rd_dl cs h
theorem arg_dl {H : Type} {enc : TypeId × Value → H} {W : World} {r : Reach} {b0 : Nat} {v : Value} {d : DataW H} {ps : List MemPlace} (hval : Value.okWide Try.prog W r b0 32 v) (hd : DataW.Trod enc Try.prog W 0 (fun _ => true) true 32 v d ps) : ∃ x : Dl, v = x.V := by
  obtain ⟨x, hx⟩ := rd_dl _ (arg_rd hd)
  obtain ⟨cells, rfl, _⟩ := okWide_struct Try.underlying32 hval
  refine ⟨x, ?_⟩
  have h1 : cells.toList = x.cells := hx
  have h2 : cells = x.cells.toArray := by
    apply Array.ext'; simpa using h1
  rw [h2]
end Go.Proofs.Ytocnpgpakindfaa
