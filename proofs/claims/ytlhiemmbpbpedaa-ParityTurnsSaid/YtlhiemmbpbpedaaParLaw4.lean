/- ParityBack, ParityTurns. -/
import Derived.Test.YtlhiemmbpbpedaaParLaw3
namespace Go.Proofs.Ytlhiemmbpbpedaa
open Go
set_option linter.unusedVariables false
set_option maxHeartbeats 1600000

/-! ### Columns -/
theorem foldl_col (rs : List (List UInt8)) (i : Nat) (a : UInt8) : rs.foldl (fun a r => a ^^^ r.getD i 0) a = a ^^^ col rs i := by
  unfold col
  induction rs generalizing a with
  | nil => simp
  | cons r rs ih => rw [List.foldl_cons, List.foldl_cons, ih, ih (0 ^^^ _)]; simp [UInt8.xor_assoc]
theorem col_cons (r : List UInt8) (rs : List (List UInt8)) (i : Nat) : col (r :: rs) i = r.getD i 0 ^^^ col rs i := by
  show rs.foldl _ (0 ^^^ r.getD i 0) = _
  rw [foldl_col]; simp
theorem col_append (a b : List (List UInt8)) (i : Nat) : col (a ++ b) i = col a i ^^^ col b i := by
  unfold col
  rw [List.foldl_append, foldl_col]; rfl
theorem mxl_append (a b : List (List UInt8)) : mxl (a ++ b) = max (mxl a) (mxl b) := by
  apply Nat.le_antisymm
  · refine mxl_le.2 fun r hr => ?_
    rcases List.mem_append.1 hr with h | h
    · have := le_mxl h; omega
    · have := le_mxl h; omega
  · refine Nat.max_le.2 ⟨mxl_le.2 fun r hr => le_mxl (List.mem_append_left _ hr), mxl_le.2 fun r hr => le_mxl (List.mem_append_right _ hr)⟩
theorem col_at (rs : List (List UInt8)) (i : Nat) (hi : i < rs.length) (j : Nat) : col rs j = col (oth rs i) j ^^^ (rs[i]).getD j 0 := by
  have h : rs = rs.take i ++ rs[i] :: rs.drop (i + 1) := by simp
  have h2 : col rs j = col (rs.take i ++ rs[i] :: rs.drop (i + 1)) j := by rw [← h]
  rw [h2, ← eraseIdx_eq rs i hi, col_append, col_append, col_cons]
  ac_rfl
theorem pxor_rot (a b : List (List UInt8)) : pxor (a ++ b) = pxor (b ++ a) := by
  refine ext_getD ?_ fun i => ?_
  · rw [pxor_length, pxor_length, mxl_append, mxl_append, Nat.max_comm]
  · rw [pxor_getD, pxor_getD, col_append, col_append, UInt8.xor_comm]
theorem getD_zero {l : List UInt8} (h : ∀ i, l.getD i 0 = 0) : ∀ c ∈ l, c = 0 := fun c hc => by
  obtain ⟨i, hi, rfl⟩ := List.getElem_of_mem hc
  simpa [List.getD, hi] using h i
/-- Rows with their parity. -/
theorem col_par (rs : List (List UInt8)) (i : Nat) : col (rs ++ [pxor rs]) i = 0 := by
  rw [col_append, col_cons, pxor_getD]; simp [col]
theorem holds_par (rs : List (List UInt8)) : ∀ c ∈ pxor (rs ++ [pxor rs]), c = 0 := getD_zero fun i => by rw [pxor_getD, col_par]
theorem fill_par (rs : List (List UInt8)) (i : Nat) (hi : i < (rs ++ [pxor rs]).length) : fillAns (rs ++ [pxor rs]) i ((rs ++ [pxor rs])[i]).length = ((rs ++ [pxor rs])[i], 0) := by
  have hle : ((rs ++ [pxor rs])[i]).length ≤ mxl (oth (rs ++ [pxor rs]) i) := by
    by_cases h : i < rs.length
    · have h1 : pxor rs ∈ oth (rs ++ [pxor rs]) i := by
        rw [oth_snoc, if_neg (by omega)]; simp
      have h2 := le_mxl h1
      rw [pxor_length] at h2
      have h3 := le_mxl (List.getElem_mem h)
      rw [List.getElem_append_left h]; omega
    · have e : i = rs.length := by simp at hi; omega
      subst e
      rw [oth_snoc, if_pos rfl, List.append_nil]
      simp only [List.getElem_concat_length, pxor_length]
      refine mxl_le.2 fun r hr => le_mxl ?_
      rw [oth_at, List.eraseIdx_of_length_le (Nat.le_refl _)]; exact hr
  rw [fillAns, if_pos ⟨by omega, by omega, by omega, by omega⟩]
  congr 1
  refine ext_getD ?_ fun j => ?_
  · rw [List.length_take, pxor_length]; omega
  · by_cases hj : j < ((rs ++ [pxor rs])[i]).length
    · have h1 : ((pxor (oth (rs ++ [pxor rs]) i)).take (((rs ++ [pxor rs])[i]).length : Int).toNat).getD j 0 = (pxor (oth (rs ++ [pxor rs]) i)).getD j 0 := by
        simp [List.getD, hj]
      rw [h1, pxor_getD]
      have h2 := col_at _ i hi j
      rw [col_par] at h2
      have h3 : col (oth (rs ++ [pxor rs]) i) j = col (oth (rs ++ [pxor rs]) i) j ^^^ (((rs ++ [pxor rs])[i]).getD j 0 ^^^ ((rs ++ [pxor rs])[i]).getD j 0) := by simp
      rw [h3, ← UInt8.xor_assoc, ← h2]; simp
    · have h1 : ((rs ++ [pxor rs])[i]).getD j 0 = 0 := by simp [List.getD, List.getElem?_eq_none (Nat.le_of_not_lt hj)]
      rw [h1]
      have h2 : ((pxor (oth (rs ++ [pxor rs]) i)).take (((rs ++ [pxor rs])[i]).length : Int).toNat)[j]? = none := by simp; omega
      simp only [List.getD, h2]; rfl
theorem turns_zero (rs : List (List UInt8)) (b : List UInt8) (i : Nat) (hi : i < rs.length) : ∀ c ∈ pxor [pxor [pxor rs, pxor (rs.set i b), rs[i], b]], c = 0 := by
  rw [pxor_one]
  refine getD_zero fun j => ?_
  have h1 := col_at rs i hi j
  have h2 := col_at (rs.set i b) i (by simpa using hi) j
  have h3 : oth (rs.set i b) i = oth rs i := by rw [oth_at, oth_at, List.eraseIdx_set_eq]
  have h4 : (rs.set i b)[i]'(by simpa using hi) = b := by simp
  rw [h3, h4] at h2
  rw [pxor_getD]
  simp only [col_cons, pxor_getD]
  rw [h1, h2]
  generalize col (oth rs i) j = x
  generalize rs[i].getD j 0 = y
  generalize b.getD j 0 = z
  have : col [] j = 0 := rfl
  rw [this]
  have e : x ^^^ y ^^^ (x ^^^ z ^^^ (y ^^^ (z ^^^ 0))) = (x ^^^ x) ^^^ (y ^^^ y) ^^^ (z ^^^ z) := by simp only [UInt8.xor_zero]; ac_rfl
  rw [e]; simp
theorem parts_eq (rs : List (List UInt8)) (k : Nat) : pxor [pxor (rs.take k), pxor (rs.drop k)] = pxor rs := by
  refine ext_getD ?_ fun j => ?_
  · rw [pxor_length, pxor_length]
    conv => rhs; rw [← List.take_append_drop k rs, mxl_append]
    simp [mxl, pxor_length]
  · rw [pxor_getD, pxor_getD]
    conv => rhs; rw [← List.take_append_drop k rs, col_append]
    simp only [col_cons, pxor_getD]
    have : col [] j = 0 := rfl
    rw [this]; simp
/-! ### Items -/
theorem Items.append {G : Im} {xs ys : List Value} {rs ss : List (List UInt8)} (h : Items G xs rs) (k : Items G ys ss) : Items G (xs ++ ys) (rs ++ ss) := by
  refine ⟨by simp [h.1, k.1], fun j x r hx hr => ?_⟩
  by_cases hj : j < xs.length
  · rw [List.getElem?_append_left hj] at hx
    rw [List.getElem?_append_left (by rw [← h.1]; exact hj)] at hr
    exact h.2 j x r hx hr
  · rw [List.getElem?_append_right (Nat.le_of_not_lt hj)] at hx
    rw [List.getElem?_append_right (by rw [← h.1]; exact Nat.le_of_not_lt hj), ← h.1] at hr
    exact k.2 _ x r hx hr
theorem Items.take {G : Im} {xs : List Value} {rs : List (List UInt8)} (h : Items G xs rs) (k : Nat) : Items G (xs.take k) (rs.take k) := by
  refine ⟨by simp [h.1], fun j x r hx hr => ?_⟩
  rw [List.getElem?_take] at hx hr
  split at hx
  · rename_i hj; rw [if_pos hj] at hr; exact h.2 j x r hx hr
  · cases hx
theorem Items.drop {G : Im} {xs : List Value} {rs : List (List UInt8)} (h : Items G xs rs) (k : Nat) : Items G (xs.drop k) (rs.drop k) := by
  refine ⟨by simp [h.1], fun j x r hx hr => ?_⟩
  rw [List.getElem?_drop] at hx hr
  exact h.2 _ x r hx hr
theorem Items.set {G : Im} {xs : List Value} {rs : List (List UInt8)} (h : Items G xs rs) (k : Nat) {v : Value} {b : List UInt8} (hb : SV G [] v b.length (b.map B8)) : Items G (xs.set k v) (rs.set k b) := by
  refine ⟨by simp [h.1], fun j x r hx hr => ?_⟩
  rw [List.getElem?_set] at hx hr
  by_cases hkj : k = j
  · subst hkj
    rw [if_pos rfl] at hx hr
    split at hx
    · rename_i hl
      rw [if_pos (by rw [← h.1]; exact hl)] at hr
      cases hx; cases hr; exact hb
    · cases hx
  · rw [if_neg hkj] at hx hr
    exact h.2 j x r hx hr
end Go.Proofs.Ytlhiemmbpbpedaa
