/- A map's bytes are read as the map. -/
import Derived.Test.YtmmmjejccjemoaaBlkE3
import Derived.Test.YtmmmjejccjemoaaBlkP2
namespace Go.Proofs.Ytmmmjejccjemoaa
open Go
set_option linter.unusedVariables false
set_option linter.unusedSimpArgs false
set_option maxHeartbeats 1600000
theorem lowB_nat (x : Int) : ((lowB x).toNat : Int) = x % 256 := by
  unfold lowB
  have h1 := Int.emod_nonneg x (show (256 : Int) ≠ 0 by decide)
  have h2 := Int.emod_lt_of_pos x (show (0 : Int) < 256 by decide)
  simp only [UInt8.toNat_ofNat']
  omega
theorem be_succ (x : Int) (n : Nat) : be x (n + 1) = be (x / 256) n ++ [lowB x] := by
  unfold be
  rw [List.range_succ, List.map_append]
  congr 1
  · apply List.map_congr_left
    intro j hj
    have hj := List.mem_range.1 hj
    rw [show 8 * (n + 1 - 1 - j) = 8 + 8 * (n - 1 - j) by omega, Int.pow_add, show (2 : Int) ^ 8 = 256 by decide, ← Int.ediv_ediv_of_nonneg (by decide)]
  · simp
theorem num_be : ∀ (n : Nat) (x : Int), 0 ≤ x → x < 2 ^ (8 * n) → (num (be x n) : Int) = x := by
  intro n
  induction n with
  | zero => intro x h0 h1; simp [be, num] at *; omega
  | succ n ih =>
    intro x h0 h1
    rw [be_succ, num_snoc]
    have h2 : (2 : Int) ^ (8 * (n + 1)) = 2 ^ (8 * n) * 256 := by rw [show 8 * (n + 1) = 8 * n + 8 by omega, Int.pow_add]; rfl
    rw [h2] at h1
    have h3 := ih (x / 256) (by omega) (Int.ediv_lt_of_lt_mul (by decide) h1)
    have h4 := lowB_nat x
    omega
theorem yd_num {x : Int} {n : Nat} (hn : 1 ≤ n ∧ n ≤ 7) (h : 0 ≤ x ∧ x < 2 ^ (8 * n)) (r : List UInt8) : eNum (be x n ++ r) 0 n = (x, r, 0) := by
  have hl := be_len x n
  unfold eNum rNum
  rw [if_neg (by simp), if_neg (by omega), Int.toNat_natCast, if_neg (by simp; omega), List.take_left' hl, List.drop_left' hl, num_be _ _ h.1 h.2]
theorem getP_bs {x : P5} (h : mayP x) (r : List UInt8) : getP (bsP x ++ r) 0 = (x, r, 0) := by
  obtain ⟨h1, h2, h3, h4, h5⟩ := mayP_nums h
  have e1 : eNum (bsP x ++ r) 0 1 = (x.c, be x.l 3 ++ (be x.n 4 ++ (be x.a 2 ++ (be x.k 1 ++ r))), 0) := by
    unfold bsP
    rw [List.append_assoc, List.append_assoc, List.append_assoc, List.append_assoc]
    exact yd_num (n := 1) (by decide) h1 _
  have e2 : nx (x.c, be x.l 3 ++ (be x.n 4 ++ (be x.a 2 ++ (be x.k 1 ++ r))), 0) 3 = (x.l, be x.n 4 ++ (be x.a 2 ++ (be x.k 1 ++ r)), 0) := yd_num (n := 3) (by decide) h2 _
  have e3 : nx (x.l, be x.n 4 ++ (be x.a 2 ++ (be x.k 1 ++ r)), 0) 4 = (x.n, be x.a 2 ++ (be x.k 1 ++ r), 0) := yd_num (n := 4) (by decide) h3 _
  have e4 : nx (x.n, be x.a 2 ++ (be x.k 1 ++ r), 0) 2 = (x.a, be x.k 1 ++ r, 0) := yd_num (n := 2) (by decide) h4 _
  have e5 : nx (x.a, be x.k 1 ++ r, 0) 1 = (x.k, r, 0) := yd_num (n := 1) (by decide) h5 _
  unfold getP
  rw [e1, e2, e3, e4, e5]
theorem rdPs_bs : ∀ (l : List P5), (∀ x ∈ l, mayP x) → ∀ r, rdPs l.length ((l.map bsP).flatten ++ r) = (l, r, 0) := by
  intro l
  induction l with
  | nil => intro _ r; rfl
  | cons x l ih =>
    intro h r
    have hx := h x (by simp)
    have hr := ih (fun y hy => h y (by simp [hy])) r
    simp only [List.length_cons, List.map_cons, List.flatten_cons, List.append_assoc, rdPs]
    rw [getP_bs hx]
    simp [hx, hr]
theorem rdM_bs {sz : Int} {l : List P5} (hsz : 0 ≤ sz ∧ sz ≤ 4096) (hl : l.length = cntS sz) (h : ∀ x ∈ l, mayP x) : rdM (bsM sz l) = (sz, l, [], 0) := by
  have e1 : eNum (bsM sz l) 0 2 = (sz, (l.map bsP).flatten, 0) := yd_num (n := 2) (by decide) ⟨hsz.1, by show sz < 65536; omega⟩ _
  have e2 := rdPs_bs l h []
  rw [List.append_nil, hl] at e2
  unfold rdM
  rw [e1, if_neg (by simp), if_neg (by show ¬ 4096 < sz; omega), e2]
/-- What is read is a map. -/
theorem rdPs_ok : ∀ (n : Nat) (xs : List UInt8), (rdPs n xs).2.2 = 0 → (rdPs n xs).1.length = n ∧ ∀ x ∈ (rdPs n xs).1, mayP x := by
  intro n
  induction n with
  | zero => intro xs _; simp [rdPs]
  | succ n ih =>
    intro xs h
    simp only [rdPs] at h ⊢
    split at h
    · rename_i h1; exact absurd h h1
    · rename_i h1
      rw [if_neg h1]
      split at h
      · cases h
      · rename_i h2
        rw [if_neg h2]
        obtain ⟨h3, h4⟩ := ih _ h
        refine ⟨by simp [h3], fun y hy => ?_⟩
        rcases List.mem_cons.1 hy with rfl | hy
        · exact Classical.not_not.1 h2
        · exact h4 y hy
theorem rdM_ok {xs : List UInt8} (h : (rdM xs).2.2.2 = 0) : (0 ≤ (rdM xs).1 ∧ (rdM xs).1 ≤ 4096) ∧ (rdM xs).2.1.length = cntS (rdM xs).1 ∧ ∀ x ∈ (rdM xs).2.1, mayP x := by
  have hp := eNum_pos xs 0 2
  unfold rdM at h ⊢
  split at h
  · rename_i h1; exact absurd h h1
  · rename_i h1
    rw [if_neg h1]
    split at h
    · cases h
    · rename_i h2
      rw [if_neg h2]
      obtain ⟨h3, h4⟩ := rdPs_ok _ _ h
      exact ⟨⟨hp, by show _ ≤ _; omega⟩, h3, h4⟩
end Go.Proofs.Ytmmmjejccjemoaa
