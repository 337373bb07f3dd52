/- How a pointer and a delta are read. -/
import Derived.Test.YtmmmjejccjemoaaOpen2
import Derived.Test.YtmmmjejccjemoaaBlkW4
namespace Go.Proofs.Ytmmmjejccjemoaa
open Go Go.ChangeShapes Go.WideShapes Go.ChangeAt Go.RowKit
set_option linter.unusedVariables false
set_option maxRecDepth 100000

theorem list5 {α : Type} : ∀ (cs : List α), cs.length = 5 → ∃ a b c d e, cs = [a, b, c, d, e]
  | [a, b, c, d, e], _ => ⟨a, b, c, d, e, rfl⟩
theorem list14 {α : Type} : ∀ (cs : List α), cs.length = 14 → ∃ c0 c1 c2 c3 c4 c5 c6 c7 c8 c9 c10 c11 c12 c13, cs = [c0, c1, c2, c3, c4, c5, c6, c7, c8, c9, c10, c11, c12, c13]
  | [c0, c1, c2, c3, c4, c5, c6, c7, c8, c9, c10, c11, c12, c13], _ => ⟨c0, c1, c2, c3, c4, c5, c6, c7, c8, c9, c10, c11, c12, c13, rfl⟩
theorem rd_ptr {H : Type} {enc : TypeId × Value → H} {W : World} (cs : List Value) (h : Rd enc Try.prog W 28 cs) : ∃ x : P5, cs = x.cells := by
  have hl : cs.length = 5 := (rd_len Try.underlying28 h).trans (by kernel_rfl)
  have h0 := rd_field Try.underlying28 h (i := 0) rfl
  have h00 := rd_field Try.underlying26 h0 (i := 0) rfl
  have h01 := rd_field Try.underlying26 h0 (i := 1) rfl
  have h02 := rd_field Try.underlying26 h0 (i := 2) rfl
  have h1 := rd_field Try.underlying28 h (i := 1) rfl
  have h2 := rd_field Try.underlying28 h (i := 2) rfl
  obtain ⟨a, ea, _⟩ := rd_i64 Try.underlying3 h00
  obtain ⟨b, eb, _⟩ := rd_i64 Try.underlying3 h01
  obtain ⟨c, ec, _⟩ := rd_i64 Try.underlying3 h02
  obtain ⟨d, ed, _⟩ := rd_i64 Try.underlying3 h1
  obtain ⟨e, ee, _⟩ := rd_i64 Try.underlying3 h2
  obtain ⟨c0, c1, c2, c3, c4, rfl⟩ := list5 _ hl
  have e0 : [c0] = [I64 a] := ea
  have e1 : [c1] = [I64 b] := eb
  have e2 : [c2] = [I64 c] := ec
  have e3 : [c3] = [I64 d] := ed
  have e4 : [c4] = [I64 e] := ee
  cases e0; cases e1; cases e2; cases e3; cases e4
  exact ⟨⟨a, b, c, d, e⟩, rfl⟩
theorem rd_dl {H : Type} {enc : TypeId × Value → H} {W : World} (cs : List Value) (h : Rd enc Try.prog W 34 cs) : ∃ x : Dl, cs = x.cells := by
  have hl : cs.length = 14 := (rd_len Try.underlying34 h).trans (by kernel_rfl)
  have h0 := rd_field Try.underlying34 h (i := 0) rfl
  have h1 := rd_field Try.underlying34 h (i := 1) rfl
  have h2 := rd_field Try.underlying34 h (i := 2) rfl
  have h3 := rd_field Try.underlying34 h (i := 3) rfl
  have h4 := rd_field Try.underlying34 h (i := 4) rfl
  have h5 := rd_field Try.underlying34 h (i := 5) rfl
  obtain ⟨a, ea, _⟩ := rd_i64 Try.underlying3 h0
  obtain ⟨b, eb, _⟩ := rd_i64 Try.underlying3 h1
  obtain ⟨c, ec, _⟩ := rd_i64 Try.underlying3 h2
  obtain ⟨d, ed, _⟩ := rd_i64 Try.underlying3 h3
  obtain ⟨t, et⟩ := rd_ptr _ h4
  obtain ⟨o, eo⟩ := rd_ptr _ h5
  obtain ⟨c0, c1, c2, c3, c4, c5, c6, c7, c8, c9, c10, c11, c12, c13, rfl⟩ := list14 _ hl
  have e0 : [c0] = [I64 a] := ea
  have e1 : [c1] = [I64 b] := eb
  have e2 : [c2] = [I64 c] := ec
  have e3 : [c3] = [I64 d] := ed
  have e4 : [c4, c5, c6, c7, c8] = t.cells := et
  have e5 : [c9, c10, c11, c12, c13] = o.cells := eo
  cases e0; cases e1; cases e2; cases e3; cases e4; cases e5
  exact ⟨⟨a, b, c, d, t, o⟩, rfl⟩

theorem list10 {α : Type} : ∀ (cs : List α), cs.length = 10 → ∃ c0 c1 c2 c3 c4 c5 c6 c7 c8 c9, cs = [c0, c1, c2, c3, c4, c5, c6, c7, c8, c9]
  | [c0, c1, c2, c3, c4, c5, c6, c7, c8, c9], _ => ⟨c0, c1, c2, c3, c4, c5, c6, c7, c8, c9, rfl⟩
theorem rd_array {H : Type} {enc : TypeId × Value → H} {P : Program} {W : World} {t e : TypeId} {n : Nat} {cs : List Value} (ht : P.underlying t = some (.array n e)) (h : Rd enc P W t cs) : cs.length = P.cellsOf t ∧ ∀ i, i < n → Rd enc P W e ((cs.drop (i * P.cellsOf e)).take (P.cellsOf e)) := by
  obtain ⟨k, y, h⟩ := h
  obtain ⟨xs, m, _, _, hl, hn, hx⟩ := DataW.trod_array ht h
  refine ⟨hl, fun i hi => ?_⟩
  have h1 := hx i hi
  rw [List.getElem?_eq_getElem (by omega)] at h1
  exact ⟨m, _, h1⟩
theorem okWide_arr {P : Program} {W : World} {r : Reach} {b0 : Nat} {t e : TypeId} {n : Nat} {v : Value} (ht : P.underlying t = some (.array n e)) (h : Value.okWide P W r b0 t v) : ∃ cs, v = .agg cs ∧ cs.size = P.cellsOf t := by
  simp only [Value.okWide, ht] at h
  obtain ⟨cs, h1, h2, _⟩ := h
  exact ⟨cs, h1, h2⟩
/-- An argument that is two pointers. -/
theorem arg_ptr2 {H : Type} {enc : TypeId × Value → H} {W : World} {r : Reach} {b0 : Nat} {v : Value} {d : DataW H} {ps : List MemPlace} (hval : Value.okWide Try.prog W r b0 46 v) (hd : DataW.Trod enc Try.prog W 0 (fun _ => true) true 46 v d ps) :
    ∃ a t : P5, v = .agg #[I64 a.c, I64 a.l, I64 a.n, I64 a.a, I64 a.k, I64 t.c, I64 t.l, I64 t.n, I64 t.a, I64 t.k] := by
  obtain ⟨cells, rfl, _⟩ := okWide_arr Try.underlying46 hval
  obtain ⟨hl, hx⟩ := rd_array Try.underlying46 (arg_rd hd)
  obtain ⟨a, ha⟩ := rd_ptr _ (hx 0 (by decide))
  obtain ⟨t, ht⟩ := rd_ptr _ (hx 1 (by decide))
  have hc : (Value.agg cells).cells.toList = cells.toList := by simp [Value.cells]
  rw [hc] at hl ha ht
  have hl : cells.toList.length = 10 := hl.trans (by kernel_rfl)
  obtain ⟨c0, c1, c2, c3, c4, c5, c6, c7, c8, c9, e⟩ := list10 _ hl
  rw [e] at ha ht
  have e1 : [c0, c1, c2, c3, c4] = a.cells := ha
  have e2 : [c5, c6, c7, c8, c9] = t.cells := ht
  cases e1; cases e2
  refine ⟨a, t, ?_⟩
  congr 1
  apply Array.ext'
  simpa using e
end Go.Proofs.Ytmmmjejccjemoaa
