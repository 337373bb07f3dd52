/- Panics that leave a function; numbers put together. -/
import Derived.Test.YtkjneelekfdpfaaDfr
import Derived.Laws.BitsAllLaws
namespace Go.Proofs.Ytkjneelekfdpfaa
open Go
set_option linter.unusedVariables false
set_option linter.unusedSimpArgs false

variable {w0 w : World} {G G' : Im} {H H' H1 : Hp} {m d : Nat}
variable {n : Nat} {ds : List Deferred} {env : Env} {P : Program} {Q : Exit → Act → World → Prop} {ops : Array Oper} {K : Act → World → Prop}
variable {dst : Option Tmp} {ty : TypeId} {pos : String} {aft : Array Edge} {g : Option (Nat × Bool)} {ch : List PanicEntry}

theorem f_panic {fn : Func} {R : Ending → World → Prop} (hR : ∀ w, Sat w0 w G H → R (.panicked ch) w) : Holds n [] w0 env G H (bodyPost P fn R (.panic ch)) := fun a w ht hs => ⟨ht.defers, hR w hs⟩
theorem a_panic {nx : Act → World → Prop} (h : Holds n ds w0 env G H (Q (.panic ch))) (hs : Sat w0 w G H) : AfterD n ds env d Q nx (.panicked ch) w := h.atw hs
theorem a_panic0 {nx : Act → World → Prop} (h : Holds n ds w0 env G H (Q (.panic ch))) (hs : Sat w0 w G H) : After n ds env none Q nx (.panicked ch) w := h.atw hs

theorem i64_or256 (a b : Nat) (ha : a < 36028797018963968) (hb : b < 256) : bits .or .i64 ((a * 256 : Nat) : Int) (b : Int) = ((a * 256 + b : Nat) : Int) := by
  have h1 : b ||| a * 256 = a * 256 + b := by
    rw [Nat.or_comm, show (256 : Nat) = 2 ^ 8 from rfl, ← Nat.shiftLeft_eq, Nat.shiftLeft_add_eq_or_of_lt (by simpa using hb)]
  have h2 : a * 256 ||| b = a * 256 + b := by rw [Nat.or_comm, h1]
  show IntKind.i64.wrap ((BitVec.ofInt 64 ((a * 256 : Nat) : Int) ||| BitVec.ofInt 64 (b : Int)).toNat : Int) = _
  rw [BitVec.toNat_or, ofInt_u64 _ (by omega), ofInt_u64 b (by omega), h2]
  exact IntWalk.i64_in _ ⟨by omega, by omega⟩
theorem v_or256 (a b : Nat) {x y : Operand} {t t' : TypeId} {p q : Int} (hx : ev env x = some (I64 p)) (hy : ev env y = some (I64 q)) (hp : p = (a : Int) * 256) (hq : q = b) (ha : a < 36028797018963968) (hb : b < 256) :
    Val P env G H ⟨dst, .binOp .or t x y t', ty, pos, aft, g⟩ (I64 ((a * 256 + b : Nat) : Int)) := fun a' n ds w0 w ht hs => by
  subst hp hq
  have h2 : (binOp .or t (I64 ((a : Int) * 256)) (I64 (b : Int))).run P w = .ok (.int .i64 (bits .or .i64 ((a : Int) * 256) (b : Int))) w := by
    simp [binOp, Op.intBits, bits]
  have h1 := i64_or256 a b ha hb
  rw [show ((a * 256 : Nat) : Int) = (a : Int) * 256 by omega] at h1
  simp only [execOp, eqGuard, ht.eval hx, ht.eval hy, h2, h1]
  simp [eqGuard, h2, h1]
end Go.Proofs.Ytkjneelekfdpfaa
