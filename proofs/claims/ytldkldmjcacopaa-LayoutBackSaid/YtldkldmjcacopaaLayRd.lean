/- The arguments of the laws of package layout. -/
import Derived.Test.YtldkldmjcacopaaLw13
import Derived.Test.YtldkldmjcacopaaOpen2
namespace Go.Proofs.Ytldkldmjcacopaa
open Go Go.ChangeShapes Go.WideShapes Go.ChangeAt Go.RowKit
set_option linter.unusedVariables false
set_option maxRecDepth 100000
theorem list3 {α : Type} : ∀ (cs : List α), cs.length = 3 → ∃ a b c, cs = [a, b, c]
  | [a, b, c], _ => ⟨a, b, c, rfl⟩
theorem list2 {α : Type} : ∀ (cs : List α), cs.length = 2 → ∃ a b, cs = [a, b]
  | [a, b], _ => ⟨a, b, rfl⟩
theorem rd_sr {H : Type} {enc : TypeId × Value → H} {W : World} (cs : List Value) (h : Rd enc Try.prog W 25 cs) : ∃ x : Sr, cs = [I64 x.c, I64 x.l, I64 x.n] := by
  have hl : cs.length = 3 := rd_len Try.underlying25 h
  have h0 := rd_field Try.underlying25 h (i := 0) rfl
  have h1 := rd_field Try.underlying25 h (i := 1) rfl
  have h2 := rd_field Try.underlying25 h (i := 2) rfl
  obtain ⟨a, ea, _⟩ := rd_i64 Try.underlying3 h0
  obtain ⟨b, eb, _⟩ := rd_i64 Try.underlying3 h1
  obtain ⟨c, ec, _⟩ := rd_i64 Try.underlying3 h2
  obtain ⟨c0, c1, c2, rfl⟩ := list3 _ hl
  have e0 : [c0] = [I64 a] := ea
  have e1 : [c1] = [I64 b] := eb
  have e2 : [c2] = [I64 c] := ec
  cases e0; cases e1; cases e2
  exact ⟨⟨a, b, c⟩, rfl⟩
theorem arg_sr {H : Type} {enc : TypeId × Value → H} {W : World} {r : Reach} {b0 : Nat} {v : Value} {d : DataW H} {ps : List MemPlace} (hval : Value.okWide Try.prog W r b0 25 v) (hd : DataW.Trod enc Try.prog W 0 (fun _ => true) true 25 v d ps) : ∃ x : Sr, v = .agg #[I64 x.c, I64 x.l, I64 x.n] := by
  obtain ⟨x, hx⟩ := rd_sr _ (arg_rd hd)
  obtain ⟨cells, rfl, _⟩ := okWide_struct Try.underlying25 hval
  refine ⟨x, ?_⟩
  have h1 : cells.toList = [I64 x.c, I64 x.l, I64 x.n] := hx
  have h2 : cells = #[I64 x.c, I64 x.l, I64 x.n] := by
    apply Array.ext'; simpa using h1
  rw [h2]
theorem rd_array {H : Type} {enc : TypeId × Value → H} {P : Program} {W : World} {t e : TypeId} {n : Nat} {cs : List Value} (ht : P.underlying t = some (.array n e)) (h : Rd enc P W t cs) : cs.length = P.cellsOf t ∧ ∀ i, i < n → Rd enc P W e ((cs.drop (i * P.cellsOf e)).take (P.cellsOf e)) := by
  obtain ⟨k, y, h⟩ := h
  obtain ⟨xs, m, _, _, hl, hn, hx⟩ := DataW.trod_array ht h
  refine ⟨hl, fun i hi => ?_⟩
  have h1 := hx i hi
  rw [List.getElem?_eq_getElem (by omega)] at h1
  exact ⟨m, _, h1⟩
theorem okWide_arr {P : Program} {W : World} {r : Reach} {b0 : Nat} {t e : TypeId} {n : Nat} {v : Value} (ht : P.underlying t = some (.array n e)) (h : Value.okWide P W r b0 t v) : ∃ cs, v = .agg cs ∧ cs.size = P.cellsOf t := by
  simp only [Value.okWide, ht] at h
  obtain ⟨cs, h1, h2, _⟩ := h
  exact ⟨cs, h1, h2⟩
theorem list4x {α : Type} : ∀ (cs : List α), cs.length = 4 → ∃ a b c d, cs = [a, b, c, d]
  | [a, b, c, d], _ => ⟨a, b, c, d, rfl⟩
theorem arg_i4 {H : Type} {enc : TypeId × Value → H} {W : World} {r : Reach} {b0 : Nat} {v : Value} {d : DataW H} {ps : List MemPlace} (hval : Value.okWide Try.prog W r b0 54 v) (hd : DataW.Trod enc Try.prog W 0 (fun _ => true) true 54 v d ps) : ∃ a b c d : Int, v = .agg #[I64 a, I64 b, I64 c, I64 d] ∧ (-9223372036854775808 ≤ a ∧ a ≤ 9223372036854775807) ∧ (-9223372036854775808 ≤ b ∧ b ≤ 9223372036854775807) ∧ (-9223372036854775808 ≤ c ∧ c ≤ 9223372036854775807) ∧ (-9223372036854775808 ≤ d ∧ d ≤ 9223372036854775807) := by
  obtain ⟨cells, rfl, _⟩ := okWide_arr Try.underlying54 hval
  obtain ⟨hl, hx⟩ := rd_array Try.underlying54 (arg_rd hd)
  obtain ⟨a, ea, ha⟩ := rd_i64 Try.underlying3 (hx 0 (by decide))
  obtain ⟨b, eb, hb⟩ := rd_i64 Try.underlying3 (hx 1 (by decide))
  obtain ⟨c, ec, hc⟩ := rd_i64 Try.underlying3 (hx 2 (by decide))
  obtain ⟨d, ed, hd⟩ := rd_i64 Try.underlying3 (hx 3 (by decide))
  have hcs : (Value.agg cells).cells.toList = cells.toList := by simp [Value.cells]
  rw [hcs] at hl ea eb ec ed
  have hl : cells.toList.length = 4 := hl.trans (by kernel_rfl)
  obtain ⟨a0, b0, c0, d0, e⟩ := list4x _ hl
  rw [e] at ea eb ec ed
  have fa : [a0] = [I64 a] := ea
  have fb : [b0] = [I64 b] := eb
  have fc : [c0] = [I64 c] := ec
  have fd : [d0] = [I64 d] := ed
  cases fa; cases fb; cases fc; cases fd
  refine ⟨a, b, c, d, ?_, ha, hb, hc, hd⟩
  congr 1
  apply Array.ext'
  simpa using e
theorem list2x {α : Type} : ∀ (cs : List α), cs.length = 2 → ∃ a b, cs = [a, b]
  | [a, b], _ => ⟨a, b, rfl⟩
theorem arg_i2 {H : Type} {enc : TypeId × Value → H} {W : World} {r : Reach} {b0 : Nat} {v : Value} {d : DataW H} {ps : List MemPlace} (hval : Value.okWide Try.prog W r b0 61 v) (hd : DataW.Trod enc Try.prog W 0 (fun _ => true) true 61 v d ps) : ∃ a b : Int, v = .agg #[I64 a, I64 b] ∧ (-9223372036854775808 ≤ a ∧ a ≤ 9223372036854775807) ∧ (-9223372036854775808 ≤ b ∧ b ≤ 9223372036854775807) := by
  obtain ⟨cells, rfl, _⟩ := okWide_arr Try.underlying61 hval
  obtain ⟨hl, hx⟩ := rd_array Try.underlying61 (arg_rd hd)
  obtain ⟨a, ea, ha⟩ := rd_i64 Try.underlying3 (hx 0 (by decide))
  obtain ⟨b, eb, hb⟩ := rd_i64 Try.underlying3 (hx 1 (by decide))
  have hcs : (Value.agg cells).cells.toList = cells.toList := by simp [Value.cells]
  rw [hcs] at hl ea eb
  have hl : cells.toList.length = 2 := hl.trans (by kernel_rfl)
  obtain ⟨a0, b0, e⟩ := list2x _ hl
  rw [e] at ea eb
  have fa : [a0] = [I64 a] := ea
  have fb : [b0] = [I64 b] := eb
  cases fa; cases fb
  refine ⟨a, b, ?_, ha, hb⟩
  congr 1
  apply Array.ext'
  simpa using e
end Go.Proofs.Ytldkldmjcacopaa
