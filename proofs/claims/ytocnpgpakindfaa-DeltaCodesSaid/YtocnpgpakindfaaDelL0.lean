/- Deltas there and back, in plain Lean. -/
import Derived.Test.YtocnpgpakindfaaDelW6
namespace Go.Proofs.Ytocnpgpakindfaa
open Go
set_option linter.unusedVariables false
set_option linter.unusedSimpArgs false
set_option maxHeartbeats 1600000

theorem lowB_mk (m : Nat) (c : UInt8) : lowB ((m * 256 + c.toNat : Nat) : Int) = c := by
  have h := lowB_nat ((m * 256 + c.toNat : Nat) : Int)
  have hc := c.toNat_lt
  apply UInt8.toNat_inj.1
  omega
theorem be_num : ∀ (n : Nat) (ys : List UInt8), ys.length = n → be (num ys : Int) n = ys
  | 0, ys, h => by
    have : ys = [] := List.eq_nil_of_length_eq_zero h
    subst this; simp [be]
  | n + 1, ys, h => by
    have hne : ys ≠ [] := by intro e; rw [e] at h; simp at h
    have e := (List.dropLast_concat_getLast hne).symm
    have hl : ys.dropLast.length = n := by rw [List.length_dropLast]; omega
    generalize ys.dropLast = zs at e hl
    generalize ys.getLast hne = c at e
    subst e
    have hc := c.toNat_lt
    rw [be_succ, num_snoc, lowB_mk, show ((num zs * 256 + c.toNat : Nat) : Int) / 256 = (num zs : Int) by omega, be_num n zs hl]
theorem eNum_inv {xs : List UInt8} {bad i : Int} {n : Nat} (hi : i = (n : Int)) (h : (eNum xs bad i).2.2 = 0) : bad = 0 ∧ xs = be (eNum xs bad i).1 n ++ (eNum xs bad i).2.1 := by
  subst hi
  unfold eNum at h ⊢
  split at h
  · rename_i hb; exact absurd h hb
  · rename_i hb
    rw [if_neg hb]
    refine ⟨by omega, ?_⟩
    unfold rNum at h ⊢
    split at h
    · exact absurd h (by show ¬ (1 : Int) = 0; decide)
    · rename_i h1
      rw [if_neg h1]
      split at h
      · exact absurd h (by show ¬ (2 : Int) = 0; decide)
      · rename_i h2
        rw [if_neg h2]
        show xs = be ((num (xs.take (n : Int).toNat) : Nat) : Int) n ++ xs.drop (n : Int).toNat
        rw [Int.toNat_natCast] at h2 ⊢
        rw [be_num n (xs.take n) (by rw [List.length_take]; omega), List.take_append_drop]
theorem nx_inv {s : Int × List UInt8 × Int} {i : Int} {n : Nat} (hi : i = (n : Int)) (h : (nx s i).2.2 = 0) : s.2.2 = 0 ∧ s.2.1 = be (nx s i).1 n ++ (nx s i).2.1 := eNum_inv hi h
theorem getP_inv {xs : List UInt8} {bad : Int} (h : (getP xs bad).2.2 = 0) : bad = 0 ∧ xs = bsP (getP xs bad).1 ++ (getP xs bad).2.1 := by
  unfold getP at h ⊢
  obtain ⟨k5, e5⟩ := nx_inv (i := 1) (n := 1) rfl h
  obtain ⟨k4, e4⟩ := nx_inv (i := 2) (n := 2) rfl k5
  obtain ⟨k3, e3⟩ := nx_inv (i := 4) (n := 4) rfl k4
  obtain ⟨k2, e2⟩ := nx_inv (i := 3) (n := 3) rfl k3
  obtain ⟨k1, e1⟩ := eNum_inv (i := 1) (n := 1) rfl k2
  refine ⟨k1, ?_⟩
  unfold bsP
  dsimp only
  simp only [List.append_assoc]
  rw [← e5, ← e4, ← e3, ← e2]
  exact e1
theorem getT_inv {d : Int} {s : Int × List UInt8 × Int} (h : (getT d s).2.2.2 = 0) : s.2.2 = 0 ∧ s.2.1 = (if d = 1 then bsP (getT d s).1 else if d = 3 then bsP (getT d s).2.1 ++ bsP (getT d s).1 else []) ++ (getT d s).2.2.1 ∧ (¬ d = 1 → ¬ d = 3 → (getT d s).1 = p0) ∧ (¬ d = 3 → (getT d s).2.1 = p0) := by
  unfold getT at h ⊢
  by_cases h1 : d = 1
  · simp only [if_pos h1] at h ⊢
    obtain ⟨k, e⟩ := getP_inv h
    exact ⟨k, e, fun h => absurd h1 h, fun _ => by first | trivial | rfl⟩
  · by_cases h3 : d = 3
    · simp only [if_neg h1, if_pos h3] at h ⊢
      obtain ⟨k2, e2⟩ := getP_inv h
      obtain ⟨k1, e1⟩ := getP_inv k2
      refine ⟨k1, ?_, fun _ h => absurd h3 h, fun h => absurd h3 h⟩
      rw [List.append_assoc, ← e2]; exact e1
    · simp only [if_neg h1, if_neg h3] at h ⊢
      exact ⟨h, by simp, fun _ _ => by first | trivial | rfl, fun _ => by first | trivial | rfl⟩
theorem getDl_inv {xs : List UInt8} (h : (getDl xs).2.2 = 0) : mayDl (getDl xs).1 ∧ xs = bsD (getDl xs).1 ++ (getDl xs).2.1 := by
  have hd : (getD0 xs 0).2.2 = 0 ∧ mayDl (getD0 xs 0).1 ∧ getDl xs = getD0 xs 0 := by
    unfold getDl at h ⊢
    split at h
    · rename_i k; exact absurd h k
    · rename_i k
      rw [if_neg k]
      split at h
      · rename_i m
        rw [if_pos m]
        exact ⟨by omega, m, rfl⟩
      · exact absurd h (by show ¬ (4 : Int) = 0; decide)
  obtain ⟨h0, hm, he⟩ := hd
  rw [he]
  refine ⟨hm, ?_⟩
  unfold getD0 getN at h0 ⊢
  obtain ⟨k4, e5, _, _⟩ := getT_inv h0
  obtain ⟨k3, e4⟩ := nx_inv (i := 2) (n := 2) rfl k4
  obtain ⟨k2, e3⟩ := nx_inv (i := 1) (n := 1) rfl k3
  obtain ⟨k1, e2⟩ := nx_inv (i := 2) (n := 2) rfl k2
  obtain ⟨_, e1⟩ := eNum_inv (i := 1) (n := 1) rfl k1
  unfold bsD
  dsimp only
  rw [List.append_assoc, ← e5, List.append_assoc, List.append_assoc, List.append_assoc]
  rw [← e4, ← e3, ← e2]
  exact e1
theorem rdDs_inv : ∀ (n : Nat) (xs : List UInt8), (rdDs n xs).2.2 = 0 → (rdDs n xs).1.length = n ∧ (∀ x ∈ (rdDs n xs).1, mayDl x) ∧ xs = ((rdDs n xs).1.map bsD).flatten ++ (rdDs n xs).2.1
  | 0, xs, _ => ⟨rfl, (by intro x hx; cases hx), rfl⟩
  | n + 1, xs, h => by
    unfold rdDs at h ⊢
    by_cases k : (getDl xs).2.2 ≠ 0
    · rw [if_pos k] at h; exact absurd h k
    · rw [if_neg k] at h ⊢
      obtain ⟨h1, h2, h3⟩ := rdDs_inv n _ h
      obtain ⟨g1, g2⟩ := getDl_inv (xs := xs) (by omega)
      refine ⟨by simp [h1], ?_, ?_⟩
      · intro x hx
        rcases List.mem_cons.1 hx with rfl | hx
        · exact g1
        · exact h2 x hx
      · simp only [List.map_cons, List.flatten_cons, List.append_assoc]
        rw [← h3]; exact g2
theorem decS_inv {xs : List UInt8} (h : (decS xs).2 = 0) : (∀ x ∈ (decS xs).1, mayDl x) ∧ bsL (decS xs).1 = xs := by
  unfold decS at h ⊢
  split at h
  · rename_i k; exact absurd h k
  · rename_i k1
    rw [if_neg k1]
    split at h
    · exact absurd h (by decide)
    · rename_i k2
      rw [if_neg k2]
      split at h
      · rename_i k; exact absurd h k
      · rename_i k3
        rw [if_neg k3]
        split at h
        · exact absurd h (by decide)
        · rename_i k4
          rw [if_neg k4]
          obtain ⟨h1, h2, h3⟩ := rdDs_inv (eNum xs 0 2).1.toNat (eNum xs 0 2).2.1 (by omega)
          obtain ⟨_, e⟩ := eNum_inv (xs := xs) (bad := 0) (i := 2) (n := 2) rfl (show (eNum xs 0 2).2.2 = 0 by omega)
          have hp := eNum_pos xs 0 2
          have hnil : (rdDs (eNum xs 0 2).1.toNat (eNum xs 0 2).2.1).2.1 = [] := List.eq_nil_of_length_eq_zero (by omega)
          rw [hnil, List.append_nil] at h3
          refine ⟨h2, ?_⟩
          unfold bsL
          dsimp only
          rw [← h3, h1, Int.toNat_of_nonneg hp]
          exact e.symm
theorem getDl_bs {x : Dl} (h : mayDl x) (r : List UInt8) : getDl (bsD x ++ r) = (x, r, 0) := by
  obtain ⟨m1, m2, m3, m4⟩ := be_nums h
  obtain ⟨T, hT⟩ : ∃ T, T = (if x.d = 1 then bsP x.t else if x.d = 3 then bsP x.o ++ bsP x.t else []) := ⟨_, rfl⟩
  have e1 : eNum (bsD x ++ r) 0 1 = (x.d, be x.i 2 ++ (be x.b 1 ++ (be x.s 2 ++ (T ++ r))), 0) := by
    unfold bsD
    rw [← hT, List.append_assoc, List.append_assoc, List.append_assoc, List.append_assoc]
    exact yd_num (n := 1) (by decide) m1 _
  have e2 : nx (x.d, be x.i 2 ++ (be x.b 1 ++ (be x.s 2 ++ (T ++ r))), 0) 2 = (x.i, be x.b 1 ++ (be x.s 2 ++ (T ++ r)), 0) := yd_num (n := 2) (by decide) m2 _
  have e3 : nx (x.i, be x.b 1 ++ (be x.s 2 ++ (T ++ r)), 0) 1 = (x.b, be x.s 2 ++ (T ++ r), 0) := yd_num (n := 1) (by decide) m3 _
  have e4 : nx (x.b, be x.s 2 ++ (T ++ r), 0) 2 = (x.s, T ++ r, 0) := yd_num (n := 2) (by decide) m4 _
  have hto : getT x.d (x.s, T ++ r, 0) = (x.t, x.o, r, 0) := by
    unfold getT
    rcases h.2 with ⟨hd, ho⟩ | ⟨hd, ho, ht, _⟩ | ⟨hd, _⟩
    · rw [if_pos hd, hT, if_pos hd]
      dsimp only
      rw [getP_bs h.1.2.2.2.1, ho]
    · rw [if_neg (by omega), if_neg (by omega), hT, if_neg (by omega), if_neg (by omega), ho, ht]
      rfl
    · rw [if_neg (by omega), if_pos hd, hT, if_neg (by omega), if_pos hd]
      dsimp only
      rw [List.append_assoc, getP_bs h.1.2.2.2.2]
      dsimp only
      rw [getP_bs h.1.2.2.2.1]
  have h0 : getD0 (bsD x ++ r) 0 = (x, r, 0) := by
    unfold getD0 getN
    rw [e1]
    dsimp only
    rw [e2, e3, e4]
    dsimp only
    rw [hto]
  unfold getDl
  rw [h0, if_neg (show ¬ (0 : Int) ≠ 0 by decide), if_pos h]
theorem rdDs_bs : ∀ (l : List Dl), (∀ x ∈ l, mayDl x) → ∀ r, rdDs l.length ((l.map bsD).flatten ++ r) = (l, r, 0)
  | [], _, r => rfl
  | x :: l, h, r => by
    simp only [List.map_cons, List.flatten_cons, List.append_assoc, List.length_cons]
    unfold rdDs
    rw [getDl_bs (h x (by simp)), if_neg (show ¬ (0 : Int) ≠ 0 by decide)]
    dsimp only
    rw [rdDs_bs l (fun y hy => h y (by simp [hy]))]
theorem decS_bs {l : List Dl} (h : ∀ x ∈ l, mayDl x) (hl : l.length ≤ 4000) : decS (bsL l) = (l, 0) := by
  have e1 : eNum (bsL l) 0 2 = ((l.length : Int), (l.map bsD).flatten ++ [], 0) := by
    unfold bsL
    rw [List.append_nil]
    exact yd_num (n := 2) (by decide) ⟨by omega, by simp only [Nat.reduceMul]; omega⟩ _
  unfold decS
  rw [e1, if_neg (show ¬ (0 : Int) ≠ 0 by decide), if_neg (show ¬ (4000 : Int) < (l.length : Int) by omega)]
  dsimp only
  rw [Int.toNat_natCast, rdDs_bs l h, if_neg (show ¬ (0 : Int) ≠ 0 by decide), if_neg (by simp)]
theorem flat_ge (l : List Dl) : 6 * l.length ≤ ((l.map bsD).flatten).length := by
  induction l with
  | nil => simp
  | cons x l ih =>
    have h6 : 6 ≤ (bsD x).length := by unfold bsD; simp only [List.length_append, be_len]; omega
    simp only [List.map_cons, List.flatten_cons, List.length_append, List.length_cons]; omega
theorem bsL_ge (l : List Dl) : 6 * l.length ≤ (bsL l).length := by
  unfold bsL; have := flat_ge l; simp only [List.length_append, be_len]; omega
theorem bsL_inj {l k : List Dl} (hl : ∀ x ∈ l, mayDl x) (hk : ∀ x ∈ k, mayDl x) (h1 : l.length ≤ 4000) (h2 : k.length ≤ 4000) (h : bsL l = bsL k) : l = k := by
  have e1 := decS_bs hl h1
  rw [h, decS_bs hk h2] at e1
  exact (congrArg Prod.fst e1).symm
end Go.Proofs.Ytocnpgpakindfaa
