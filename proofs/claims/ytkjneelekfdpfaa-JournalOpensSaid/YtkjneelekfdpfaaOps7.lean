/- Shifts; whole numbers as bytes and as uints. -/
import Derived.Test.YtkjneelekfdpfaaOps6
import Derived.Laws.Entries
namespace Go.Proofs.Ytkjneelekfdpfaa
open Go
set_option linter.unusedVariables false
set_option linter.unusedSimpArgs false
/-- A number's lowest byte. -/
def u8B (P : Program) (t : TypeId) : Bool := match P.underlying t with
  | some (.int .u8) => true
  | _ => false
theorem u8B_spec {P : Program} {t : TypeId} (h : u8B P t = true) : P.underlying t = some (.int .u8) := by
  unfold u8B at h
  split at h
  · assumption
  · cases h
def u64B (P : Program) (t : TypeId) : Bool := match P.underlying t with
  | some (.int .u64) => true
  | _ => false
theorem u64B_spec {P : Program} {t : TypeId} (h : u64B P t = true) : P.underlying t = some (.int .u64) := by
  unfold u64B at h
  split at h
  · assumption
  · cases h
def lowB (x : Int) : UInt8 := UInt8.ofNat (x % 256).toNat
theorem lowB_val (x : Int) : (B8 (lowB x)) = .int .u8 (x % 256) := by
  have h : ((lowB x).toNat : Int) = x % 256 := by
    unfold lowB
    have h1 := Int.emod_nonneg x (show (256 : Int) ≠ 0 by decide)
    have h2 := Int.emod_lt_of_pos x (show (0 : Int) < 256 by decide)
    simp only [UInt8.toNat_ofNat']
    omega
  show Value.int .u8 ((lowB x).toNat : Int) = _
  rw [h]
section
variable {w0 w : World} {G G' : Im} {H H1 : Hp} {n : Nat} {ds : List Deferred} {env : Env} {P : Program} {R : Act → World → Prop}
variable {dst : Option Tmp} {ty : TypeId} {pos : String} {aft : Array Edge} {g : Option (Nat × Bool)}
theorem v_shr {x y : Operand} {t t' : TypeId} {k : IntKind} {p q : Int} (hx : ev env x = some (I64 p)) (hy : ev env y = some (.int k q)) (h : 0 ≤ q ∧ q ≤ 64) :
    Val P env G H ⟨dst, .binOp .shr t x y t', ty, pos, aft, g⟩ (I64 (p / 2 ^ q.toNat)) := fun a n ds w0 w ht hs => by
  have := shift_shr .i64 k p q h.1 h.2
  simp [execOp, eqGuard, binOp, ht.eval hx, ht.eval hy, this]
theorem v_shl {x y : Operand} {t t' : TypeId} {k : IntKind} {p q : Int} (hx : ev env x = some (I64 p)) (hy : ev env y = some (.int k q)) (h : 0 ≤ q ∧ q ≤ 64) (hr : -9223372036854775808 ≤ p * 2 ^ q.toNat ∧ p * 2 ^ q.toNat ≤ 9223372036854775807) :
    Val P env G H ⟨dst, .binOp .shl t x y t', ty, pos, aft, g⟩ (I64 (p * 2 ^ q.toNat)) := fun a n ds w0 w ht hs => by
  have := shift_shl .i64 k p q h.1 h.2
  have h2 : IntKind.wrap .i64 (p * 2 ^ q.toNat) = p * 2 ^ q.toNat := IntWalk.i64_in _ ⟨by omega, by omega⟩
  rw [h2] at this
  simp only [execOp, eqGuard, binOp, ht.eval hx, ht.eval hy, this]
  rfl
theorem v_byte {x : Operand} {s t : TypeId} {p : Int} (hx : ev env x = some (I64 p)) (hs : (P.underlying s).isSome = true) (ht' : u8B P t = true) :
    Val P env G H ⟨dst, .convert s t x, ty, pos, aft, g⟩ (B8 (lowB p)) := fun a n ds w0 w ht hs' => by
  obtain ⟨d, hd⟩ := Option.isSome_iff_exists.1 hs
  have hw : IntKind.wrap .u8 p = p % 256 := by simp [IntKind.wrap, IntKind.bits, IntKind.signed]
  simp only [execOp, ht.eval hx]
  rw [lowB_val]
  cases d <;> simp [convert, run_underlying hd, run_underlying (u8B_spec ht'), Conv.intToInt, hw]
theorem v_tou {x : Operand} {s t : TypeId} {k : IntKind} {q : Int} (hx : ev env x = some (.int k q)) (hs : (P.underlying s).isSome = true) (ht' : u64B P t = true) (hq : 0 ≤ q ∧ q ≤ 9223372036854775807) :
    Val P env G H ⟨dst, .convert s t x, ty, pos, aft, g⟩ (.int .u64 q) := v_toInt hx (Option.isSome_iff_exists.1 hs) (u64B_spec ht') (by
      simp [IntKind.wrap, IntKind.bits, IntKind.signed]; omega)
end
end Go.Proofs.Ytkjneelekfdpfaa
