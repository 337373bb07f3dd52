/- Plain: columns of rows; rows with their parity. -/
import Derived.Test.YtldkldmjcacopaaParRef
namespace Go.Proofs.Ytldkldmjcacopaa
open Go
set_option linter.unusedVariables false
set_option maxHeartbeats 1600000
def fillAns (rs : List (List UInt8)) (i m : Int) : List UInt8 × Int := if 0 ≤ i ∧ i < rs.length ∧ 0 ≤ m ∧ m ≤ mxl (oth rs i) then ((pxor (oth rs i)).take m.toNat, 0) else ([], 1)
/-! ### Columns -/
theorem foldl_col (rs : List (List UInt8)) (i : Nat) (a : UInt8) : rs.foldl (fun a r => a ^^^ r.getD i 0) a = a ^^^ col rs i := by
  unfold col
  induction rs generalizing a with
  | nil => simp
  | cons r rs ih => rw [List.foldl_cons, List.foldl_cons, ih, ih (0 ^^^ _)]; simp [UInt8.xor_assoc]
theorem col_cons (r : List UInt8) (rs : List (List UInt8)) (i : Nat) : col (r :: rs) i = r.getD i 0 ^^^ col rs i := by
  show rs.foldl _ (0 ^^^ r.getD i 0) = _
  rw [foldl_col]; simp
theorem col_append (a b : List (List UInt8)) (i : Nat) : col (a ++ b) i = col a i ^^^ col b i := by
  unfold col
  rw [List.foldl_append, foldl_col]; rfl
theorem mxl_append (a b : List (List UInt8)) : mxl (a ++ b) = max (mxl a) (mxl b) := by
  apply Nat.le_antisymm
  · refine mxl_le.2 fun r hr => ?_
    rcases List.mem_append.1 hr with h | h
    · have := le_mxl h; omega
    · have := le_mxl h; omega
  · refine Nat.max_le.2 ⟨mxl_le.2 fun r hr => le_mxl (List.mem_append_left _ hr), mxl_le.2 fun r hr => le_mxl (List.mem_append_right _ hr)⟩
theorem col_at (rs : List (List UInt8)) (i : Nat) (hi : i < rs.length) (j : Nat) : col rs j = col (oth rs i) j ^^^ (rs[i]).getD j 0 := by
  have h : rs = rs.take i ++ rs[i] :: rs.drop (i + 1) := by simp
  have h2 : col rs j = col (rs.take i ++ rs[i] :: rs.drop (i + 1)) j := by rw [← h]
  rw [h2, ← eraseIdx_eq rs i hi, col_append, col_append, col_cons]
  ac_rfl
theorem pxor_rot (a b : List (List UInt8)) : pxor (a ++ b) = pxor (b ++ a) := by
  refine ext_getD ?_ fun i => ?_
  · rw [pxor_length, pxor_length, mxl_append, mxl_append, Nat.max_comm]
  · rw [pxor_getD, pxor_getD, col_append, col_append, UInt8.xor_comm]
theorem getD_zero {l : List UInt8} (h : ∀ i, l.getD i 0 = 0) : ∀ c ∈ l, c = 0 := fun c hc => by
  obtain ⟨i, hi, rfl⟩ := List.getElem_of_mem hc
  simpa [List.getD, hi] using h i
/-- Rows with their parity. -/
theorem col_par (rs : List (List UInt8)) (i : Nat) : col (rs ++ [pxor rs]) i = 0 := by
  rw [col_append, col_cons, pxor_getD]; simp [col]
theorem holds_par (rs : List (List UInt8)) : ∀ c ∈ pxor (rs ++ [pxor rs]), c = 0 := getD_zero fun i => by rw [pxor_getD, col_par]
theorem fill_par (rs : List (List UInt8)) (i : Nat) (hi : i < (rs ++ [pxor rs]).length) : fillAns (rs ++ [pxor rs]) i ((rs ++ [pxor rs])[i]).length = ((rs ++ [pxor rs])[i], 0) := by
  have hle : ((rs ++ [pxor rs])[i]).length ≤ mxl (oth (rs ++ [pxor rs]) i) := by
    by_cases h : i < rs.length
    · have h1 : pxor rs ∈ oth (rs ++ [pxor rs]) i := by
        rw [oth_snoc, if_neg (by omega)]; simp
      have h2 := le_mxl h1
      rw [pxor_length] at h2
      have h3 := le_mxl (List.getElem_mem h)
      rw [List.getElem_append_left h]; omega
    · have e : i = rs.length := by simp at hi; omega
      subst e
      rw [oth_snoc, if_pos rfl, List.append_nil]
      simp only [List.getElem_concat_length, pxor_length]
      refine mxl_le.2 fun r hr => le_mxl ?_
      rw [oth_at, List.eraseIdx_of_length_le (Nat.le_refl _)]; exact hr
  rw [fillAns, if_pos ⟨by omega, by omega, by omega, by omega⟩]
  congr 1
  refine ext_getD ?_ fun j => ?_
  · rw [List.length_take, pxor_length]; omega
  · by_cases hj : j < ((rs ++ [pxor rs])[i]).length
    · have h1 : ((pxor (oth (rs ++ [pxor rs]) i)).take (((rs ++ [pxor rs])[i]).length : Int).toNat).getD j 0 = (pxor (oth (rs ++ [pxor rs]) i)).getD j 0 := by
        simp [List.getD, hj]
      rw [h1, pxor_getD]
      have h2 := col_at _ i hi j
      rw [col_par] at h2
      have h3 : col (oth (rs ++ [pxor rs]) i) j = col (oth (rs ++ [pxor rs]) i) j ^^^ (((rs ++ [pxor rs])[i]).getD j 0 ^^^ ((rs ++ [pxor rs])[i]).getD j 0) := by simp
      rw [h3, ← UInt8.xor_assoc, ← h2]; simp
    · have h1 : ((rs ++ [pxor rs])[i]).getD j 0 = 0 := by simp [List.getD, List.getElem?_eq_none (Nat.le_of_not_lt hj)]
      rw [h1]
      have h2 : ((pxor (oth (rs ++ [pxor rs]) i)).take (((rs ++ [pxor rs])[i]).length : Int).toNat)[j]? = none := by simp; omega
      simp only [List.getD, h2]; rfl
end Go.Proofs.Ytldkldmjcacopaa
