/- Whole numbers of any kind as int; slices from the front. -/
import Derived.Test.YtkjneelekfdpfaaOps2
namespace Go.Proofs.Ytkjneelekfdpfaa
open Go
set_option linter.unusedVariables false
section
variable {w0 w : World} {G G' : Im} {H H1 : Hp} {n : Nat} {ds : List Deferred} {env : Env} {P : Program} {R : Act → World → Prop}
variable {dst : Option Tmp} {ty : TypeId} {pos : String} {aft : Array Edge} {g : Option (Nat × Bool)}
theorem v_uint {x : Operand} {s t : TypeId} {k : IntKind} {q : Int} (hx : ev env x = some (.int k q)) (hs : (P.underlying s).isSome = true) (ht' : i64B P t = true) (hq : -9223372036854775808 ≤ q ∧ q ≤ 9223372036854775807) :
    Val P env G H ⟨dst, .convert s t x, ty, pos, aft, g⟩ (I64 q) := v_toInt hx (Option.isSome_iff_exists.1 hs) (i64B_spec ht') (IntWalk.i64_in _ ⟨by omega, by omega⟩)
theorem v_neb {x y : Operand} {t t' : TypeId} {p q : Bool} (hx : ev env x = some (.bool p)) (hy : ev env y = some (.bool q)) (hu : P.underlying t = some .bool) :
    Val P env G H ⟨dst, .binOp .neq t x y t', ty, pos, aft, g⟩ (.bool (p != q)) := fun a n ds w0 w ht hs => by
  simp [execOp, eqGuard, binOp, ht.eval hx, ht.eval hy, run_equal_bool p q hu, bne]
end
end Go.Proofs.Ytkjneelekfdpfaa
