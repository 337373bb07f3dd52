/- How many stripes blocks of one byte take, in plain Lean. -/
import Derived.Test.YtchnoipjfaocbaaDoorPkR1
import Derived.Test.YtchnoipjfaocbaaDoorPkL1
namespace Go.Proofs.YtchnoipjfaocbaaDoor
open Go
set_option linter.unusedVariables false
set_option linter.unusedSimpArgs false
def szL (fill : UInt8) (k : Nat) : List Dy := (List.range k).map fun (i : Nat) => ⟨(i : Int), List.replicate 64 fill⟩
theorem szL_snoc (fill : UInt8) (k : Nat) : szL fill (k + 1) = szL fill k ++ [⟨(k : Int), List.replicate 64 fill⟩] := by simp [szL, List.range_succ]
theorem szL_len (fill : UInt8) (k : Nat) : (szL fill k).length = k := by simp [szL]
theorem szL_ris (fill : UInt8) : ∀ k : Nat, k ≤ 64 → risS 4096 (-1) (szL fill k) ∧ lastB (-1) (szL fill k) = (k : Int) - 1
  | 0, _ => ⟨trivial, rfl⟩
  | k + 1, h => by
    obtain ⟨h1, h2⟩ := szL_ris fill k (by omega)
    rw [szL_snoc, risS_snoc, lastB_snoc]
    refine ⟨⟨h1, ?_, ?_, ?_, ?_⟩, ?_⟩
    · dsimp only; rw [h2]; omega
    · dsimp only; omega
    · dsimp only; omega
    · dsimp only; rw [List.length_replicate]; omega
    · dsimp only; omega
theorem tl_zero (n : Nat) : ∀ k, tl (List.replicate n (0 : UInt8)) k = 0
  | 0 => rfl
  | k + 1 => by
    unfold tl
    rw [if_pos, tl_zero n k]
    rw [List.getD, List.getElem?_replicate]
    split <;> rfl
theorem trim_zero (n : Nat) : trimS (List.replicate n (0 : UInt8)) = [] := by unfold trimS; rw [tl_zero, List.take_zero]
theorem trim_fill (fill : UInt8) (h : fill ≠ 0) : trimS (List.replicate 64 fill) = List.replicate 64 fill := by
  unfold trimS
  rw [List.length_replicate]
  have : tl (List.replicate 64 fill) 64 = 64 := by
    show (if (List.replicate 64 fill).getD 63 0 = 0 then tl (List.replicate 64 fill) 63 else 64) = 64
    rw [if_neg]
    rw [List.getD, List.getElem?_replicate]
    simpa using h
  rw [this, List.take_of_length_le (by simp)]
theorem runS_zero (f : Sr) (M : Nat) (ino sz : Int) : ∀ k : Nat, (runS f M ino sz (szL 0 k)).1 = [] ∧ (runS f M ino sz (szL 0 k)).2.length = k
  | 0 => ⟨rfl, rfl⟩
  | k + 1 => by
    obtain ⟨h1, h2⟩ := runS_zero f M ino sz k
    rw [szL_snoc, runS_snoc]
    unfold stepS
    rw [if_pos (by exact trim_zero 64)]
    refine ⟨h1, ?_⟩
    dsimp only
    rw [List.length_append, h2]; rfl
def sumL (R : List Fl) : Nat := (R.map fun y => y.d.length).sum
/-- Stripes of 'per' blocks, the last of q. -/
def szW (per : Nat) (k : Nat) (R : List Fl) : Prop := (k = 0 ∧ R = []) ∨ ∃ y r q, R = y :: r ∧ y.d.length = 64 * q ∧ 1 ≤ q ∧ q ≤ per ∧ k = r.length * per + q ∧ sumL R = 64 * k
theorem runS_fill (f : Sr) (M : Nat) (ino sz : Int) (fill : UInt8) (h0 : fill ≠ 0) (hM : 64 ≤ M) : ∀ k : Nat, szW (M / 64) k (runS f M ino sz (szL fill k)).1 ∧ (runS f M ino sz (szL fill k)).2.length = k
  | 0 => ⟨.inl ⟨rfl, rfl⟩, rfl⟩
  | k + 1 => by
    obtain ⟨h1, h2⟩ := runS_fill f M ino sz fill h0 hM k
    rw [szL_snoc, runS_snoc]
    generalize runS f M ino sz (szL fill k) = s at h1 h2
    have hne : ¬ trimS (List.replicate 64 fill) = [] := by rw [trim_fill fill h0]; simp
    unfold stepS
    dsimp only
    rw [if_neg hne, trim_fill fill h0]
    refine ⟨?_, by dsimp only; rw [List.length_append, h2]; rfl⟩
    dsimp only
    unfold layS
    rw [List.length_replicate]
    have hper : 1 ≤ M / 64 := by omega
    rcases h1 with ⟨rfl, h⟩ | ⟨y, r, q, h, hd, hq1, hq2, hk, hsum⟩
    · rw [h]
      refine .inr ⟨_, [], 1, rfl, ?_, Nat.le_refl 1, hper, by simp, ?_⟩
      · rw [List.nil_append, List.length_replicate]
      · show sumL [⟨f.c, f.l, f.n, [] ++ List.replicate 64 fill⟩] = 64
        unfold sumL
        rw [List.map_cons, List.sum_cons, List.nil_append, List.length_replicate]; rfl
    · rw [h]
      rw [h] at hsum
      by_cases hc : M < y.d.length + 64
      · have hqe : q = M / 64 := by omega
        have e : opn f M (y :: r) 64 = ⟨f.c, f.l, f.n + ((r.length + 1 : Nat) : Int), []⟩ :: y :: r := by unfold opn; dsimp only; rw [if_pos hc]
        rw [e]
        refine .inr ⟨_, y :: r, 1, rfl, ?_, Nat.le_refl 1, hper, ?_, ?_⟩
        · rw [List.nil_append, List.length_replicate]
        · rw [hk, hqe, List.length_cons, Nat.add_mul, Nat.one_mul]
        · show sumL (⟨f.c, f.l, f.n + ((r.length + 1 : Nat) : Int), [] ++ List.replicate 64 fill⟩ :: y :: r) = _
          simp only [sumL, List.map_cons, List.sum_cons, List.nil_append, List.length_replicate] at hsum ⊢
          omega
      · have e : opn f M (y :: r) 64 = y :: r := by unfold opn; dsimp only; rw [if_neg hc]
        rw [e]
        refine .inr ⟨_, r, q + 1, rfl, ?_, by omega, by omega, by omega, ?_⟩
        · dsimp only; rw [List.length_append, List.length_replicate, hd]; omega
        · show sumL ({ y with d := y.d ++ List.replicate 64 fill } :: r) = _
          simp only [sumL, List.map_cons, List.sum_cons, List.length_append, List.length_replicate] at hsum ⊢
          omega
theorem numOk_at (f : Sr) : ∀ (R : List Fl) (i : Nat) (h : i < R.reverse.length), numOk f R → R.reverse[i].c = f.c ∧ R.reverse[i].l = f.l ∧ R.reverse[i].n = f.n + (i : Int)
  | [], i, h, _ => by simp at h
  | y :: r, i, h, ⟨h1, h2⟩ => by
    have hl : i < r.length + 1 := by simpa using h
    have e : (y :: r).reverse = r.reverse ++ [y] := List.reverse_cons
    by_cases hi : i < r.length
    · have e2 : (y :: r).reverse[i] = r.reverse[i]'(by simpa using hi) := by
        simp only [e]; rw [List.getElem_append_left (by simpa using hi)]
      rw [e2]; exact numOk_at f r i _ h2
    · have hie : i = r.length := by omega
      subst hie
      have e2 : (y :: r).reverse[r.length] = y := by
        simp only [e]; rw [List.getElem_append_right (by simp)]; simp
      rw [e2]; exact h1
theorem topN_le (f : Sr) (h0 : 0 ≤ f.n) {R : List Fl} (h : numOk f R) : topN R ≤ f.n + R.length := by
  cases R with
  | nil => show (0 : Int) ≤ _; simp; omega
  | cons y r => have := h.1.2.2; show y.n ≤ _; rw [this, List.length_cons]; omega
theorem szW_len {per k : Nat} {R : List Fl} (hp : 1 ≤ per) (h : szW per k R) : (R.length : Int) = ((k : Int) + per - 1) / per ∧ sumL R = 64 * k ∧ R.length ≤ k := by
  rcases h with ⟨rfl, rfl⟩ | ⟨y, r, q, rfl, hd, hq1, hq2, hk, hsum⟩
  · refine ⟨?_, rfl, Nat.le_refl 0⟩
    show (0 : Int) = _
    rw [Int.ediv_eq_zero_of_lt (by omega) (by omega)]
  · refine ⟨?_, hsum, ?_⟩
    · rw [hk, List.length_cons]
      have e : (((r.length * per + q : Nat) : Int) + per - 1) = ((q : Int) - 1) + ((r.length + 1 : Nat) : Int) * per := by
        push_cast; rw [Int.add_mul]; omega
      rw [e, Int.add_mul_ediv_right _ _ (by omega), Int.ediv_eq_zero_of_lt (by omega) (by omega)]
      omega
    · rw [List.length_cons, hk]
      have := Nat.mul_le_mul_left r.length hp
      omega
theorem sumL_rev (R : List Fl) : sumL R.reverse = sumL R := by unfold sumL; rw [List.map_reverse, List.sum_reverse]
theorem sizes_s (fill : UInt8) (m : Int) (k : Nat) (hk : k ≤ 64) : ∃ A D, packS 3 4096 (strS m) (srvS m) (szL fill k) = (A, D, 0) ∧ D.length = k + 1 ∧ A.length ≤ 64 ∧ (fill = 0 → A = []) ∧ (fill ≠ 0 → (A.length : Int) = ((k : Int) + 400 * (srvS m - 1) / 64 - 1) / (400 * (srvS m - 1) / 64) ∧ sumL A = 64 * k) ∧
    ∀ i (h : i < A.length), A[i].c = (strS m).c ∧ A[i].l = (strS m).l ∧ A[i].n = (strS m).n + (i : Int) := by
  obtain ⟨hs1, hs2⟩ := srvS_in m
  obtain ⟨hm1, hm2⟩ := strS_mst m
  have hok : okS 3 4096 (strS m) (srvS m) (szL fill k) := ⟨⟨hs1, hs2⟩, hm1, by omega, by omega, (szL_ris fill k hk).1⟩
  have hn0 : 0 ≤ (strS m).n := by have := hm1; unfold mst at this; omega
  have hnum := runS_num (strS m) (mostM (srvS m)) 3 4096 (szL fill k)
  have hM : 64 ≤ mostM (srvS m) := by unfold mostM; omega
  have hlen : (runS (strS m) (mostM (srvS m)) 3 4096 (szL fill k)).1.length ≤ 64 ∧ (runS (strS m) (mostM (srvS m)) 3 4096 (szL fill k)).2.length = k := by
    by_cases hf : fill = 0
    · subst hf
      obtain ⟨h1, h2⟩ := runS_zero (strS m) (mostM (srvS m)) 3 4096 k
      exact ⟨by rw [h1]; simp, h2⟩
    · obtain ⟨h1, h2⟩ := runS_fill (strS m) (mostM (srvS m)) 3 4096 fill hf hM k
      have := (szW_len (by omega) h1).2.2
      exact ⟨by omega, h2⟩
  have htop := topN_le _ hn0 hnum
  have hp : packS 3 4096 (strS m) (srvS m) (szL fill k) = ((runS (strS m) (mostM (srvS m)) 3 4096 (szL fill k)).1.reverse, (runS (strS m) (mostM (srvS m)) 3 4096 (szL fill k)).2 ++ [⟨2, 3, 0, 4096, p0, p0⟩], 0) := by
    unfold packS
    rw [if_pos hok, if_neg (by omega)]
  refine ⟨_, _, hp, by rw [List.length_append, hlen.2]; rfl, by rw [List.length_reverse]; exact hlen.1, ?_, ?_, ?_⟩
  · intro hf
    subst hf
    rw [(runS_zero (strS m) (mostM (srvS m)) 3 4096 k).1]; rfl
  · intro hf
    obtain ⟨h1, h2⟩ := runS_fill (strS m) (mostM (srvS m)) 3 4096 fill hf hM k
    obtain ⟨e1, e2, _⟩ := szW_len (by omega) h1
    have e3 : ((mostM (srvS m) / 64 : Nat) : Int) = 400 * (srvS m - 1) / 64 := by unfold mostM; omega
    rw [List.length_reverse, e1, e3, sumL_rev]
    exact ⟨rfl, e2⟩
  · intro i h
    exact numOk_at _ _ i h hnum
theorem sumL_take (A : List Fl) (i : Nat) (h : i < A.length) : sumL (A.take (i + 1)) = sumL (A.take i) + A[i].d.length := by
  unfold sumL
  rw [List.take_add_one, List.getElem?_eq_getElem h, List.map_append, List.sum_append]
  simp
theorem sumL_le (A : List Fl) (i : Nat) : sumL (A.take i) ≤ sumL A := by
  have h : sumL A = sumL (A.take i) + sumL (A.drop i) := by
    conv => lhs; rw [← List.take_append_drop i A]
    unfold sumL; rw [List.map_append, List.sum_append]
  omega
theorem szL_B8 (fill : UInt8) (j : Nat) (h : j < 64) : ((List.replicate j fill ++ List.replicate (64 - j) (0 : UInt8)).map B8).set j (B8 fill) = (List.replicate (j + 1) fill ++ List.replicate (64 - (j + 1)) (0 : UInt8)).map B8 := by
  rw [← List.map_set, List.set_append_right _ _ (by simp)]
  congr 1
  obtain ⟨m, hm⟩ : ∃ m, 64 - j = m + 1 := ⟨63 - j, by omega⟩
  rw [hm, show 64 - (j + 1) = m by omega, List.length_replicate, Nat.sub_self, List.replicate_succ, List.set_cons_zero, List.replicate_succ']
  simp
end Go.Proofs.YtchnoipjfaocbaaDoor
