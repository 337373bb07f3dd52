/- Numbers and their bytes. -/
import Derived.Test.YtkjneelekfdpfaaBlkP1
import Derived.Test.YtkjneelekfdpfaaEye1
namespace Go.Proofs.Ytkjneelekfdpfaa
set_option linter.unusedVariables false
theorem lowB_nat (x : Int) : ((lowB x).toNat : Int) = x % 256 := by
  unfold lowB
  have h1 := Int.emod_nonneg x (show (256 : Int) ≠ 0 by decide)
  have h2 := Int.emod_lt_of_pos x (show (0 : Int) < 256 by decide)
  simp only [UInt8.toNat_ofNat']
  omega
theorem be_succ (x : Int) (n : Nat) : be x (n + 1) = be (x / 256) n ++ [lowB x] := by
  unfold be
  rw [List.range_succ, List.map_append]
  congr 1
  · apply List.map_congr_left
    intro j hj
    have hj := List.mem_range.1 hj
    rw [show 8 * (n + 1 - 1 - j) = 8 + 8 * (n - 1 - j) by omega, Int.pow_add, show (2 : Int) ^ 8 = 256 by decide, ← Int.ediv_ediv_of_nonneg (by decide)]
  · simp
theorem num_be : ∀ (n : Nat) (x : Int), 0 ≤ x → x < 2 ^ (8 * n) → (num (be x n) : Int) = x := by
  intro n
  induction n with
  | zero => intro x h0 h1; simp [be, num] at *; omega
  | succ n ih =>
    intro x h0 h1
    rw [be_succ, num_snoc]
    have h2 : (2 : Int) ^ (8 * (n + 1)) = 2 ^ (8 * n) * 256 := by rw [show 8 * (n + 1) = 8 * n + 8 by omega, Int.pow_add]; rfl
    rw [h2] at h1
    have h3 := ih (x / 256) (by omega) (Int.ediv_lt_of_lt_mul (by decide) h1)
    have h4 := lowB_nat x
    omega
theorem mid_app {α : Type} (p q r : List α) (a k : Nat) (hp : p.length = a) (hq : q.length = k) : ((p ++ (q ++ r)).drop a).take k = q := by subst hp hq; simp
theorem lowB_mk (m : Nat) (c : UInt8) : lowB ((m * 256 + c.toNat : Nat) : Int) = c := by
  have h := lowB_nat ((m * 256 + c.toNat : Nat) : Int)
  have hc := c.toNat_lt
  apply UInt8.toNat_inj.1
  omega
theorem be_num : ∀ (n : Nat) (ys : List UInt8), ys.length = n → be (num ys : Int) n = ys
  | 0, ys, h => by
    have : ys = [] := List.eq_nil_of_length_eq_zero h
    subst this; simp [be]
  | n + 1, ys, h => by
    have hne : ys ≠ [] := by intro e; rw [e] at h; simp at h
    have e := (List.dropLast_concat_getLast hne).symm
    have hl : ys.dropLast.length = n := by rw [List.length_dropLast]; omega
    generalize ys.dropLast = zs at e hl
    generalize ys.getLast hne = c at e
    subst e
    have hc := c.toNat_lt
    rw [be_succ, num_snoc, lowB_mk, show ((num zs * 256 + c.toNat : Nat) : Int) / 256 = (num zs : Int) by omega, be_num n zs hl]
end Go.Proofs.Ytkjneelekfdpfaa
