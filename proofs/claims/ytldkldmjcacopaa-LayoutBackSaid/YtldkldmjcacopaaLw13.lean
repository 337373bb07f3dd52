/- The walks of pinstripelaw13's Stripe and Servers. -/
import Derived.Test.YtldkldmjcacopaaBlkR1
import Derived.Test.YtldkldmjcacopaaOpen2
import Derived.Test.YtldkldmjcacopaaOps8
namespace Go.Proofs.Ytldkldmjcacopaa
open Go
set_option linter.unusedVariables false
set_option linter.unusedSimpArgs false
set_option maxHeartbeats 1600000
structure Sr where
  c : Int
  l : Int
  n : Int
  deriving DecidableEq
section
variable {w0 w : World} {G : Im} {H : Hp} {env : Env} {P : Program} {dst : Option Tmp} {ty : TypeId} {pos : String} {aft : Array Edge} {g : Option (Nat × Bool)}
theorem v_andI {x y : Operand} {t t' : TypeId} {p q : Int} (hx : ev env x = some (I64 p)) (hy : ev env y = some (I64 q)) :
    Val P env G H ⟨dst, .binOp .and t x y t', ty, pos, aft, g⟩ (I64 (bits .and .i64 p q)) := fun a n ds w0 w ht hs => by
  have h2 : (binOp .and t (I64 p) (I64 q)).run P w = .ok (.int .i64 (bits .and .i64 p q)) w := by
    simp [binOp, Op.intBits, bits]
  simp only [execOp, eqGuard, ht.eval hx, ht.eval hy, h2]
  simp [eqGuard, h2]
end
theorem and_mask (p : Int) (m : Nat) (hm : m < 4611686018427387904) : 0 ≤ bits .and .i64 p (m : Int) ∧ bits .and .i64 p (m : Int) ≤ m := by
  have e : bits .and .i64 p (m : Int) = IntKind.i64.wrap ((BitVec.ofInt 64 p &&& BitVec.ofInt 64 (m : Int)).toNat : Int) := rfl
  have h1 : (BitVec.ofInt 64 p &&& BitVec.ofInt 64 (m : Int)).toNat ≤ m := by
    rw [BitVec.toNat_and, ofInt_u64 m (by omega)]
    exact Nat.and_le_right
  rw [e, IntWalk.i64_in _ ⟨by omega, by omega⟩]
  omega
/-- A stripe, by a small number. -/
def strS (n : Int) : Sr := ⟨bits .and .i64 n 3, bits .and .i64 (n / 2 ^ (2 : Int).toNat) 7, bits .and .i64 (n / 2 ^ (5 : Int).toNat) 16777215⟩
theorem strS_mst (n : Int) : mst (strS n).c (strS n).l (strS n).n ∧ (strS n).n ≤ 16777215 := by
  have h1 := and_mask n 3 (by decide)
  have h2 := and_mask (n / 2 ^ (2 : Int).toNat) 7 (by decide)
  have h3 := and_mask (n / 2 ^ (5 : Int).toNat) 16777215 (by decide)
  unfold mst strS
  refine ⟨⟨h1.1, ?_, h2.1, ?_, h3.1, ?_⟩, h3.2⟩
  · exact Int.le_trans h1.2 (by decide)
  · exact Int.le_trans h2.2 (by decide)
  · exact Int.le_trans h3.2 (by decide)
/-- So many servers, by a small number. -/
def srvS (n : Int) : Int := 3 + (n.tmod 14 + 14) % 14
theorem srvS_in (n : Int) : 3 ≤ srvS n ∧ srvS n ≤ 16 := by unfold srvS; omega
theorem tmod14 (p : Int) : -14 < p.tmod 14 ∧ p.tmod 14 < 14 := by
  have h1 := Int.tmod_lt_of_pos p (show (0 : Int) < 14 by decide)
  have h2 := Int.tmod_lt_of_pos (-p) (show (0 : Int) < 14 by decide)
  rw [Int.neg_tmod] at h2
  omega
attribute [local irreducible] Code.wp wpList stepK Holds Val wpR Eff Eff0 Code.wpIn wpListIn stepI Exit.then Exit.inBlock bodyPost bodyPostM

theorem stripeL_c (n : Int) (w0 w : World) (G : Im) (F : Hp) (hs : Sat w0 w G F) :
    Calls Try.prog 17 #[I64 n] w fun e w' => e = .returned (.agg #[I64 (strS n).c, I64 (strS n).l, I64 (strS n).n]) ∧ Sat w0 w' G F := by
  refine f_enter (vs := [_]) Try.func17 rfl Try.ntmps17 (by simp) hs ?_
  refine ww ?_
  refine c_cons (s_allocA [I64 0, I64 0, I64 0] (by kernel_rfl) rfl rfl fun b1 => ?_)
  refine ww ?_
  refine c_cons (s_val (v_andI rfl rfl) rfl rfl rfl ?_)
  refine ww ?_
  refine c_cons (s_val (v_shr rfl rfl (by omega)) rfl rfl rfl ?_)
  refine c_cons (s_val (v_andI rfl rfl) rfl rfl rfl ?_)
  refine ww ?_
  refine c_cons (s_val (v_shr rfl rfl (by omega)) rfl rfl rfl ?_)
  refine c_cons (s_val (v_andI rfl rfl) rfl rfl rfl ?_)
  refine ww ?_
  refine c_cons (s_val (v_build (ps := [_, _, _]) #[I64 (strS n).c, I64 (strS n).l, I64 (strS n).n] rfl (by kernel_rfl)) rfl rfl rfl ?_)
  refine c_cons (s_storeA (vs := [I64 (strS n).c, I64 (strS n).l, I64 (strS n).n]) rfl rfl rfl .head (by kernel_rfl) (by simp [Value.oneCell']) rfl ?_)
  refine ww ?_
  exact f_retA (vs := [I64 (strS n).c, I64 (strS n).l, I64 (strS n).n]) rfl rfl (by kernel_rfl) (by kernel_rfl) rfl (fun j u hj => Cel.all hj) (fun w hs => ⟨rfl, hs.tl⟩)

theorem servers_c (n : Int) (w0 w : World) (G : Im) (F : Hp) (hs : Sat w0 w G F) :
    Calls Try.prog 16 #[I64 n] w fun e w' => e = .returned (I64 (srvS n)) ∧ Sat w0 w' G F := by
  refine f_enter (vs := [_]) Try.func16 rfl Try.ntmps16 (by simp) hs ?_
  obtain ⟨h1, h2⟩ := tmod14 n
  refine ww ?_
  refine c_cons (s_val (v_remT rfl rfl (by omega)) rfl rfl rfl ?_)
  refine ww ?_
  refine c_cons (s_val (v_rem rfl rfl (by omega) (by omega)) rfl rfl rfl ?_)
  refine ww ?_
  exact f_ret1 rfl rfl (fun w hs => ⟨rfl, hs⟩)
end Go.Proofs.Ytldkldmjcacopaa
