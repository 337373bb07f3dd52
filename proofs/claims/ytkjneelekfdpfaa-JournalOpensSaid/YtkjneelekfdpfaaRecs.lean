/- Rows of records that lie one behind the other. -/
namespace Go.Proofs.Ytkjneelekfdpfaa
variable {α V : Type}

/-- L is the records xs, each of s cells. -/
def Recs (s : Nat) (R : List V → α → Prop) (L : List V) (xs : List α) : Prop := L.length = xs.length * s ∧ ∀ (j : Nat) x, xs[j]? = some x → R ((L.drop (j * s)).take s) x
variable {s : Nat} {R R' : List V → α → Prop} {L M : List V} {xs ys : List α}
theorem Recs.mono (h : Recs s R L xs) (hR : ∀ c x, R c x → R' c x) : Recs s R' L xs := ⟨h.1, fun j x hx => hR _ _ (h.2 j x hx)⟩
theorem Recs.nil : Recs s R [] [] := ⟨by simp, fun j x hx => by simp at hx⟩
theorem Recs.one {c : List V} {x : α} (hl : c.length = s) (h : R c x) : Recs s R c [x] := ⟨by simp [hl], fun j y hy => by
  cases j with
  | zero => simp at hy; subst hy; rw [Nat.zero_mul, List.drop_zero, ← hl, List.take_length]; exact h
  | succ j => simp at hy⟩
theorem Recs.append (h : Recs s R L xs) (k : Recs s R M ys) : Recs s R (L ++ M) (xs ++ ys) := by
  refine ⟨by rw [List.length_append, List.length_append, h.1, k.1, Nat.add_mul], fun j x hx => ?_⟩
  by_cases hj : j < xs.length
  · rw [List.getElem?_append_left hj] at hx
    have h1 : (j + 1) * s ≤ xs.length * s := Nat.mul_le_mul_right _ hj
    rw [Nat.add_mul, Nat.one_mul] at h1
    have := h.2 j x hx
    rw [List.drop_append, List.take_append_of_le_length (by rw [List.length_drop, h.1]; omega)]
    exact this
  · rw [List.getElem?_append_right (Nat.le_of_not_lt hj)] at hx
    have h1 : xs.length * s ≤ j * s := Nat.mul_le_mul_right _ (Nat.le_of_not_lt hj)
    have := k.2 _ x hx
    rw [Nat.sub_mul] at this
    rw [List.drop_append, List.drop_eq_nil_of_le (by rw [h.1]; exact h1), List.nil_append, h.1]
    exact this
theorem Recs.take (h : Recs s R L xs) (k : Nat) : Recs s R (L.take (k * s)) (xs.take k) := by
  refine ⟨?_, fun j x hx => ?_⟩
  · rw [List.length_take, List.length_take, h.1]
    by_cases hk : k ≤ xs.length
    · rw [Nat.min_eq_left hk, Nat.min_eq_left (Nat.mul_le_mul_right _ hk)]
    · have hk' : xs.length ≤ k := by omega
      rw [Nat.min_eq_right hk', Nat.min_eq_right (Nat.mul_le_mul_right _ hk')]
  · rw [List.getElem?_take] at hx
    split at hx
    · rename_i hj
      have := h.2 j x hx
      have h1 : (j + 1) * s ≤ k * s := Nat.mul_le_mul_right _ hj
      rw [Nat.add_mul, Nat.one_mul] at h1
      rw [List.drop_take, List.take_take, Nat.min_eq_left (by omega)]
      exact this
    · cases hx
theorem Recs.drop (h : Recs s R L xs) (k : Nat) : Recs s R (L.drop (k * s)) (xs.drop k) := by
  refine ⟨by rw [List.length_drop, List.length_drop, h.1, Nat.sub_mul], fun j x hx => ?_⟩
  rw [List.getElem?_drop] at hx
  have := h.2 _ x hx
  rw [List.drop_drop, ← Nat.add_mul]; exact this
theorem Recs.at (h : Recs s R L xs) (j : Nat) (hj : j < xs.length) : ∃ c : List V, R c xs[j] ∧ c.length = s ∧ ∀ f, f < s → L[j * s + f]? = c[f]? := by
  refine ⟨_, h.2 j xs[j] (by simp [hj]), ?_, fun f hf => ?_⟩
  · have h1 : (j + 1) * s ≤ xs.length * s := Nat.mul_le_mul_right _ hj
    rw [Nat.add_mul, Nat.one_mul] at h1
    rw [List.length_take, List.length_drop, h.1]; omega
  · rw [List.getElem?_take, if_pos hf, List.getElem?_drop]
theorem Recs.all {p : V → Prop} (h : Recs s R L xs) (hs : 0 < s) (hp : ∀ c x, R c x → ∀ v ∈ c, p v) : ∀ v ∈ L, p v := by
  intro v hv
  obtain ⟨i, hi, rfl⟩ := List.getElem_of_mem hv
  have h1 : i / s < xs.length := by rw [h.1] at hi; exact Nat.div_lt_of_lt_mul (by rw [Nat.mul_comm]; exact hi)
  obtain ⟨c, hc, hl, hf⟩ := h.at (i / s) h1
  have h2 := hf (i % s) (Nat.mod_lt _ hs)
  have h3 : i / s * s + i % s = i := by rw [Nat.mul_comm]; exact Nat.div_add_mod i s
  rw [h3, List.getElem?_eq_getElem hi] at h2
  exact hp c _ hc _ (List.mem_of_getElem? h2.symm)
end Go.Proofs.Ytkjneelekfdpfaa
