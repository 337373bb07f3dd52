/- Arguments that are arrays of two numbers. -/
import Derived.Test.YtldkldmjcacopaaLayRd
namespace Go.Proofs.Ytldkldmjcacopaa
open Go Go.ChangeShapes Go.WideShapes Go.ChangeAt Go.RowKit
set_option linter.unusedVariables false
set_option maxRecDepth 100000
theorem arg_two {P : Program} {t e : TypeId} {k : IntKind} {H : Type} {enc : TypeId × Value → H} {W : World} {r : Reach} {b0 : Nat} {v : Value} {d : DataW H} {ps : List MemPlace} (ht : P.underlying t = some (.array 2 e)) (he : P.underlying e = some (.int k)) (hc : P.cellsOf t = 2) (hce : P.cellsOf e = 1) (hval : Value.okWide P W r b0 t v) (hd : DataW.Trod enc P W 0 (fun _ => true) true t v d ps) : ∃ a b : Int, v = .agg #[.int k a, .int k b] ∧ (k.min ≤ a ∧ a ≤ k.max) ∧ (k.min ≤ b ∧ b ≤ k.max) := by
  obtain ⟨cells, rfl, _⟩ := okWide_arr ht hval
  obtain ⟨hl, hx⟩ := rd_array ht (arg_rd hd)
  obtain ⟨a, ea, ha⟩ := rd_int he (hx 0 (by decide))
  obtain ⟨b, eb, hb⟩ := rd_int he (hx 1 (by decide))
  have hcs : (Value.agg cells).cells.toList = cells.toList := by simp [Value.cells]
  rw [hcs] at hl ea eb
  have hl : cells.toList.length = 2 := hl.trans hc
  rw [hce] at ea eb
  obtain ⟨a0, b0, e⟩ := list2x _ hl
  rw [e] at ea eb
  have fa : [a0] = [Value.int k a] := ea
  have fb : [b0] = [Value.int k b] := eb
  cases fa; cases fb
  refine ⟨a, b, ?_, ha, hb⟩
  congr 1
  apply Array.ext'
  simpa using e
theorem arg_two8 {P : Program} {t e : TypeId} {H : Type} {enc : TypeId × Value → H} {W : World} {r : Reach} {b0 : Nat} {v : Value} {d : DataW H} {ps : List MemPlace} (ht : P.underlying t = some (.array 2 e)) (he : P.underlying e = some (.int .u8)) (hc : P.cellsOf t = 2) (hce : P.cellsOf e = 1) (hval : Value.okWide P W r b0 t v) (hd : DataW.Trod enc P W 0 (fun _ => true) true t v d ps) : ∃ a b : UInt8, v = .agg #[B8 a, B8 b] := by
  obtain ⟨cells, rfl, _⟩ := okWide_arr ht hval
  obtain ⟨hl, hx⟩ := rd_array ht (arg_rd hd)
  obtain ⟨a, ea⟩ := rd_u8 he (hx 0 (by decide))
  obtain ⟨b, eb⟩ := rd_u8 he (hx 1 (by decide))
  have hcs : (Value.agg cells).cells.toList = cells.toList := by simp [Value.cells]
  rw [hcs] at hl ea eb
  have hl : cells.toList.length = 2 := hl.trans hc
  rw [hce] at ea eb
  obtain ⟨a0, b0, e⟩ := list2x _ hl
  rw [e] at ea eb
  have fa : [a0] = [B8 a] := ea
  have fb : [b0] = [B8 b] := eb
  cases fa; cases fb
  refine ⟨a, b, ?_⟩
  congr 1
  apply Array.ext'
  simpa using e
end Go.Proofs.Ytldkldmjcacopaa
