/- A map's bytes are read as the map. -/
import Derived.Test.YtocnpgpakindfaaBlkE1
import Derived.Test.YtocnpgpakindfaaBlkP2
namespace Go.Proofs.Ytocnpgpakindfaa
open Go
set_option linter.unusedVariables false
set_option linter.unusedSimpArgs false
set_option maxHeartbeats 1600000
theorem lowB_nat (x : Int) : ((lowB x).toNat : Int) = x % 256 := by
  unfold lowB
  have h1 := Int.emod_nonneg x (show (256 : Int) ≠ 0 by decide)
  have h2 := Int.emod_lt_of_pos x (show (0 : Int) < 256 by decide)
  simp only [UInt8.toNat_ofNat']
  omega
theorem be_succ (x : Int) (n : Nat) : be x (n + 1) = be (x / 256) n ++ [lowB x] := by
  unfold be
  rw [List.range_succ, List.map_append]
  congr 1
  · apply List.map_congr_left
    intro j hj
    have hj := List.mem_range.1 hj
    rw [show 8 * (n + 1 - 1 - j) = 8 + 8 * (n - 1 - j) by omega, Int.pow_add, show (2 : Int) ^ 8 = 256 by decide, ← Int.ediv_ediv_of_nonneg (by decide)]
  · simp
theorem num_be : ∀ (n : Nat) (x : Int), 0 ≤ x → x < 2 ^ (8 * n) → (num (be x n) : Int) = x := by
  intro n
  induction n with
  | zero => intro x h0 h1; simp [be, num] at *; omega
  | succ n ih =>
    intro x h0 h1
    rw [be_succ, num_snoc]
    have h2 : (2 : Int) ^ (8 * (n + 1)) = 2 ^ (8 * n) * 256 := by rw [show 8 * (n + 1) = 8 * n + 8 by omega, Int.pow_add]; rfl
    rw [h2] at h1
    have h3 := ih (x / 256) (by omega) (Int.ediv_lt_of_lt_mul (by decide) h1)
    have h4 := lowB_nat x
    omega
theorem yd_num {x : Int} {n : Nat} (hn : 1 ≤ n ∧ n ≤ 7) (h : 0 ≤ x ∧ x < 2 ^ (8 * n)) (r : List UInt8) : eNum (be x n ++ r) 0 n = (x, r, 0) := by
  have hl := be_len x n
  unfold eNum rNum
  rw [if_neg (by simp), if_neg (by omega), Int.toNat_natCast, if_neg (by simp; omega), List.take_left' hl, List.drop_left' hl, num_be _ _ h.1 h.2]
theorem getP_bs {x : P5} (h : mayP x) (r : List UInt8) : getP (bsP x ++ r) 0 = (x, r, 0) := by
  obtain ⟨h1, h2, h3, h4, h5⟩ := mayP_nums h
  have e1 : eNum (bsP x ++ r) 0 1 = (x.c, be x.l 3 ++ (be x.n 4 ++ (be x.a 2 ++ (be x.k 1 ++ r))), 0) := by
    unfold bsP
    rw [List.append_assoc, List.append_assoc, List.append_assoc, List.append_assoc]
    exact yd_num (n := 1) (by decide) h1 _
  have e2 : nx (x.c, be x.l 3 ++ (be x.n 4 ++ (be x.a 2 ++ (be x.k 1 ++ r))), 0) 3 = (x.l, be x.n 4 ++ (be x.a 2 ++ (be x.k 1 ++ r)), 0) := yd_num (n := 3) (by decide) h2 _
  have e3 : nx (x.l, be x.n 4 ++ (be x.a 2 ++ (be x.k 1 ++ r)), 0) 4 = (x.n, be x.a 2 ++ (be x.k 1 ++ r), 0) := yd_num (n := 4) (by decide) h3 _
  have e4 : nx (x.n, be x.a 2 ++ (be x.k 1 ++ r), 0) 2 = (x.a, be x.k 1 ++ r, 0) := yd_num (n := 2) (by decide) h4 _
  have e5 : nx (x.a, be x.k 1 ++ r, 0) 1 = (x.k, r, 0) := yd_num (n := 1) (by decide) h5 _
  unfold getP
  rw [e1, e2, e3, e4, e5]
end Go.Proofs.Ytocnpgpakindfaa
