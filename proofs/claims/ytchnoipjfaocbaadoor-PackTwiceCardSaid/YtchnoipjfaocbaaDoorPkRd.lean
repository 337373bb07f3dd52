/- How stripes, three numbers, blocks are read. -/
import Derived.Test.YtchnoipjfaocbaaDoorOpen2
import Derived.Test.YtchnoipjfaocbaaDoorPkL1
namespace Go.Proofs.YtchnoipjfaocbaaDoor
open Go Go.ChangeShapes Go.WideShapes Go.ChangeAt Go.RowKit
set_option linter.unusedVariables false
set_option maxRecDepth 100000
theorem list3 {α : Type} : ∀ (cs : List α), cs.length = 3 → ∃ a b c, cs = [a, b, c]
  | [a, b, c], _ => ⟨a, b, c, rfl⟩
theorem list2 {α : Type} : ∀ (cs : List α), cs.length = 2 → ∃ a b, cs = [a, b]
  | [a, b], _ => ⟨a, b, rfl⟩
theorem rd_sr {H : Type} {enc : TypeId × Value → H} {W : World} (cs : List Value) (h : Rd enc Tryd.prog W 29 cs) : ∃ x : Sr, cs = [I64 x.c, I64 x.l, I64 x.n] := by
  have hl : cs.length = 3 := rd_len Tryd.underlying29 h
  have h0 := rd_field Tryd.underlying29 h (i := 0) rfl
  have h1 := rd_field Tryd.underlying29 h (i := 1) rfl
  have h2 := rd_field Tryd.underlying29 h (i := 2) rfl
  obtain ⟨a, ea, _⟩ := rd_i64 Tryd.underlying3 h0
  obtain ⟨b, eb, _⟩ := rd_i64 Tryd.underlying3 h1
  obtain ⟨c, ec, _⟩ := rd_i64 Tryd.underlying3 h2
  obtain ⟨c0, c1, c2, rfl⟩ := list3 _ hl
  have e0 : [c0] = [I64 a] := ea
  have e1 : [c1] = [I64 b] := eb
  have e2 : [c2] = [I64 c] := ec
  cases e0; cases e1; cases e2
  exact ⟨⟨a, b, c⟩, rfl⟩
theorem arg_sr {H : Type} {enc : TypeId × Value → H} {W : World} {r : Reach} {b0 : Nat} {v : Value} {d : DataW H} {ps : List MemPlace} (hval : Value.okWide Tryd.prog W r b0 29 v) (hd : DataW.Trod enc Tryd.prog W 0 (fun _ => true) true 29 v d ps) : ∃ x : Sr, v = .agg #[I64 x.c, I64 x.l, I64 x.n] := by
  obtain ⟨x, hx⟩ := rd_sr _ (arg_rd hd)
  obtain ⟨cells, rfl, _⟩ := okWide_struct Tryd.underlying29 hval
  refine ⟨x, ?_⟩
  have h1 : cells.toList = [I64 x.c, I64 x.l, I64 x.n] := hx
  have h2 : cells = #[I64 x.c, I64 x.l, I64 x.n] := by
    apply Array.ext'; simpa using h1
  rw [h2]
theorem rd_array {H : Type} {enc : TypeId × Value → H} {P : Program} {W : World} {t e : TypeId} {n : Nat} {cs : List Value} (ht : P.underlying t = some (.array n e)) (h : Rd enc P W t cs) : cs.length = P.cellsOf t ∧ ∀ i, i < n → Rd enc P W e ((cs.drop (i * P.cellsOf e)).take (P.cellsOf e)) := by
  obtain ⟨k, y, h⟩ := h
  obtain ⟨xs, m, _, _, hl, hn, hx⟩ := DataW.trod_array ht h
  refine ⟨hl, fun i hi => ?_⟩
  have h1 := hx i hi
  rw [List.getElem?_eq_getElem (by omega)] at h1
  exact ⟨m, _, h1⟩
theorem okWide_arr {P : Program} {W : World} {r : Reach} {b0 : Nat} {t e : TypeId} {n : Nat} {v : Value} (ht : P.underlying t = some (.array n e)) (h : Value.okWide P W r b0 t v) : ∃ cs, v = .agg cs ∧ cs.size = P.cellsOf t := by
  simp only [Value.okWide, ht] at h
  obtain ⟨cs, h1, h2, _⟩ := h
  exact ⟨cs, h1, h2⟩
theorem arg_i3 {H : Type} {enc : TypeId × Value → H} {W : World} {r : Reach} {b0 : Nat} {v : Value} {d : DataW H} {ps : List MemPlace} (hval : Value.okWide Tryd.prog W r b0 40 v) (hd : DataW.Trod enc Tryd.prog W 0 (fun _ => true) true 40 v d ps) : ∃ a b c : Int, v = .agg #[I64 a, I64 b, I64 c] := by
  obtain ⟨cells, rfl, _⟩ := okWide_arr Tryd.underlying40 hval
  obtain ⟨hl, hx⟩ := rd_array Tryd.underlying40 (arg_rd hd)
  obtain ⟨a, ea, _⟩ := rd_i64 Tryd.underlying3 (hx 0 (by decide))
  obtain ⟨b, eb, _⟩ := rd_i64 Tryd.underlying3 (hx 1 (by decide))
  obtain ⟨c, ec, _⟩ := rd_i64 Tryd.underlying3 (hx 2 (by decide))
  have hc : (Value.agg cells).cells.toList = cells.toList := by simp [Value.cells]
  rw [hc] at hl ea eb ec
  have hl : cells.toList.length = 3 := hl.trans (by kernel_rfl)
  obtain ⟨c0, c1, c2, e⟩ := list3 _ hl
  rw [e] at ea eb ec
  have e0 : [c0] = [I64 a] := ea
  have e1 : [c1] = [I64 b] := eb
  have e2 : [c2] = [I64 c] := ec
  cases e0; cases e1; cases e2
  refine ⟨a, b, c, ?_⟩
  congr 1
  apply Array.ext'
  simpa using e
theorem rd_dy {H : Type} {enc : TypeId × Value → H} {W : World} (cs : List Value) (h : Rd enc Tryd.prog W 63 cs) : ∃ x, DyR (atStart W) cs x := by
  have hl : cs.length = 2 := rd_len Tryd.underlying63 h
  have h0 := rd_field Tryd.underlying63 h (i := 0) rfl
  have h1 := rd_field Tryd.underlying63 h (i := 1) rfl
  obtain ⟨a, ea, _⟩ := rd_i64 Tryd.underlying3 h0
  obtain ⟨u, xs, eu, hu⟩ := rd_bytes Tryd.underlying31 Tryd.underlying5 (by kernel_rfl) h1
  obtain ⟨c0, c1, rfl⟩ := list2 _ hl
  have e0 : [c0] = [I64 a] := ea
  have e1 : [c1] = [u] := eu
  cases e0; cases e1
  exact ⟨⟨a, xs⟩, _, rfl, hu⟩
end Go.Proofs.YtchnoipjfaocbaaDoor
