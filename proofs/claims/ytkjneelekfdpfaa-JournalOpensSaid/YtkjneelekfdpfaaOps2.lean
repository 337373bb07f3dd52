/- More values: Bools compared, a byte as a number. -/
import Derived.Test.YtkjneelekfdpfaaAppend
namespace Go.Proofs.Ytkjneelekfdpfaa
open Go
set_option linter.unusedVariables false
set_option linter.unusedSimpArgs false
def i64B (P : Program) (t : TypeId) : Bool := match P.underlying t with
  | some (.int .i64) => true
  | _ => false
theorem i64B_spec {P : Program} {t : TypeId} (h : i64B P t = true) : P.underlying t = some (.int .i64) := by
  unfold i64B at h
  split at h
  · assumption
  · cases h
theorem run_equal_bool {P : Program} {w : World} {t : TypeId} (p q : Bool) (hu : P.underlying t = some .bool) : (Op.equal t (.bool p) (.bool q)).run P w = .ok (p == q) w := run_equalIn_bool w 9999 t p q hu
section
variable {w0 w : World} {G G' : Im} {H H1 : Hp} {n : Nat} {ds : List Deferred} {env : Env} {P : Program} {R : Act → World → Prop}
variable {dst : Option Tmp} {ty : TypeId} {pos : String} {aft : Array Edge} {g : Option (Nat × Bool)}
theorem v_eqb {x y : Operand} {t t' : TypeId} {p q : Bool} (hx : ev env x = some (.bool p)) (hy : ev env y = some (.bool q)) (hu : P.underlying t = some .bool) :
    Val P env G H ⟨dst, .binOp .eql t x y t', ty, pos, aft, g⟩ (.bool (p == q)) := fun a n ds w0 w ht hs => by
  simp [execOp, eqGuard, binOp, ht.eval hx, ht.eval hy, run_equal_bool p q hu]
theorem v_eqb_same {x y : Operand} {t t' : TypeId} {p : Bool} (hx : ev env x = some (.bool p)) (hy : ev env y = some (.bool p)) (hu : P.underlying t = some .bool) :
    Val P env G H ⟨dst, .binOp .eql t x y t', ty, pos, aft, g⟩ (.bool true) := by
  have := v_eqb (P := P) (env := env) (G := G) (H := H) (dst := dst) (t' := t') (ty := ty) (pos := pos) (aft := aft) (g := g) hx hy hu
  rwa [BEq.rfl] at this
theorem v_eql_same {x y : Operand} {t t' : TypeId} {k : IntKind} {p : Int} (hx : ev env x = some (.int k p)) (hy : ev env y = some (.int k p)) :
    Val P env G H ⟨dst, .binOp .eql t x y t', ty, pos, aft, g⟩ (.bool true) := by
  have := v_eql (P := P) (env := env) (G := G) (H := H) (dst := dst) (t := t) (t' := t') (ty := ty) (pos := pos) (aft := aft) (g := g) hx hy
  rwa [decide_eq_true rfl] at this
theorem c_part_nd (d : Nat) (p : Prop) [Decidable p] (hd : env.lookup d = some (.bool (!decide p))) (h1 : ¬ p → Holds n ds w0 ((d, .bool true) :: env) G H R) (h2 : p → Holds n ds w0 ((d, .bool false) :: env) G H R) : Holds n ds w0 env G H R :=
  c_part d _ hd (fun e => h1 (by simpa using e)) (fun e => h2 (by simpa using e))
theorem a_ret {d : Tmp} {Q : Exit → Act → World → Prop} {nx : Act → World → Prop} {v : Value} (h : Holds n ds w0 ((d, v) :: env) G H nx) (hs : Sat w0 w G H) : AfterD n ds env d Q nx (.returned v) w := h.atw hs
theorem v_u8int {x : Operand} {s t : TypeId} {q : UInt8} (hx : ev env x = some (B8 q)) (hs : (P.underlying s).isSome = true) (ht' : i64B P t = true) :
    Val P env G H ⟨dst, .convert s t x, ty, pos, aft, g⟩ (I64 q.toNat) := v_toInt hx (Option.isSome_iff_exists.1 hs) (i64B_spec ht') (by
      have := q.toNat_lt
      exact IntWalk.i64_in _ ⟨by omega, by omega⟩)
end
end Go.Proofs.Ytkjneelekfdpfaa
