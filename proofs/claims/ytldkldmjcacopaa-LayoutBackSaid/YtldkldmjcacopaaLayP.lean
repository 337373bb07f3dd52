/- Plain: a fragment is read; what was cut, some of it missing, is joined. -/
import Derived.Test.YtldkldmjcacopaaLayR7
import Derived.Test.YtldkldmjcacopaaParCol
namespace Go.Proofs.Ytldkldmjcacopaa
open Go
set_option linter.unusedVariables false
set_option maxHeartbeats 1600000
theorem lowB_nat (x : Int) : ((lowB x).toNat : Int) = x % 256 := by
  unfold lowB
  have h1 := Int.emod_nonneg x (show (256 : Int) ≠ 0 by decide)
  have h2 := Int.emod_lt_of_pos x (show (0 : Int) < 256 by decide)
  simp only [UInt8.toNat_ofNat']
  omega
theorem be_succ (x : Int) (n : Nat) : be x (n + 1) = be (x / 256) n ++ [lowB x] := by
  unfold be
  rw [List.range_succ, List.map_append]
  congr 1
  · apply List.map_congr_left
    intro j hj
    have hj := List.mem_range.1 hj
    rw [show 8 * (n + 1 - 1 - j) = 8 + 8 * (n - 1 - j) by omega, Int.pow_add, show (2 : Int) ^ 8 = 256 by decide, ← Int.ediv_ediv_of_nonneg (by decide)]
  · simp
theorem num_be : ∀ (n : Nat) (x : Int), 0 ≤ x → x < 2 ^ (8 * n) → (num (be x n) : Int) = x := by
  intro n
  induction n with
  | zero => intro x h0 h1; simp [be, num] at *; omega
  | succ n ih =>
    intro x h0 h1
    rw [be_succ, num_snoc]
    have h2 : (2 : Int) ^ (8 * (n + 1)) = 2 ^ (8 * n) * 256 := by rw [show 8 * (n + 1) = 8 * n + 8 by omega, Int.pow_add]; rfl
    rw [h2] at h1
    have h3 := ih (x / 256) (by omega) (Int.ediv_lt_of_lt_mul (by decide) h1)
    have h4 := lowB_nat x
    omega
theorem mid_app {α : Type} (p q r : List α) (a k : Nat) (hp : p.length = a) (hq : q.length = k) : ((p ++ (q ++ r)).drop a).take k = q := by subst hp hq; simp
/-! ### A fragment is read -/
theorem hdOf_head (h : Hd) (b : List UInt8) (g : gd h) : hdOf (headB h ++ b) = h := by
  obtain ⟨g1, g2, g3, g4, g5, g6⟩ := g
  have l1 := be_len h.c 1
  have l2 := be_len h.l 3
  have l3 := be_len h.n 4
  have l4 := be_len h.i 1
  have l5 := be_len h.s 1
  have l6 := be_len h.z 2
  have e1 := mid_app [] (be h.c 1) (be h.l 3 ++ be h.n 4 ++ be h.i 1 ++ be h.s 1 ++ be h.z 2 ++ b) 0 1 rfl l1
  have e2 := mid_app (be h.c 1) (be h.l 3) (be h.n 4 ++ be h.i 1 ++ be h.s 1 ++ be h.z 2 ++ b) 1 3 l1 l2
  have e3 := mid_app (be h.c 1 ++ be h.l 3) (be h.n 4) (be h.i 1 ++ be h.s 1 ++ be h.z 2 ++ b) 4 4 (by simp [l1, l2]) l3
  have e4 := mid_app (be h.c 1 ++ be h.l 3 ++ be h.n 4) (be h.i 1) (be h.s 1 ++ be h.z 2 ++ b) 8 1 (by simp [l1, l2, l3]) l4
  have e5 := mid_app (be h.c 1 ++ be h.l 3 ++ be h.n 4 ++ be h.i 1) (be h.s 1) (be h.z 2 ++ b) 9 1 (by simp [l1, l2, l3, l4]) l5
  have e6 := mid_app (be h.c 1 ++ be h.l 3 ++ be h.n 4 ++ be h.i 1 ++ be h.s 1) (be h.z 2) b 10 2 (by simp [l1, l2, l3, l4, l5]) l6
  simp only [List.nil_append, List.append_assoc, List.drop_zero] at e1 e2 e3 e4 e5 e6
  have n1 := num_be 1 h.c g1.1 (by omega)
  have n2 := num_be 3 h.l g2.1 (by omega)
  have n3 := num_be 4 h.n g3.1 (by omega)
  have n4 := num_be 1 h.i g4.1 (by omega)
  have n5 := num_be 1 h.s g5.1 (by omega)
  have n6 := num_be 2 h.z g6.1 (by omega)
  unfold hdOf headB
  simp only [List.append_assoc]
  rw [e1, e2, e3, e4, e5, e6, n1, n2, n3, n4, n5, n6]
theorem gd_of {h : Hd} (hm : hdMay h) (hi : 0 ≤ h.i) : gd h := by
  obtain ⟨⟨m1, m2, m3, m4, m5, m6⟩, ⟨s1, s2⟩, i1, z1, z2⟩ := hm
  refine ⟨by omega, by omega, by omega, by omega, by omega, by omega⟩
theorem readE_head (h : Hd) (b : List UInt8) (hm : hdMay h) (hi : 0 ≤ h.i) (hl : (b.length : Int) = longS h.i h.z h.s) : readE (headB h ++ b) = 0 ∧ readH (headB h ++ b) = h ∧ readB (headB h ++ b) = b := by
  have e := hdOf_head h b (gd_of hm hi)
  have h0 : readE (headB h ++ b) = 0 := by
    unfold readE
    rw [e, List.length_append, headB_len, if_neg (by omega), if_pos hm, if_pos (by omega)]
  refine ⟨h0, ?_, ?_⟩
  · unfold readH; rw [if_pos h0, e]
  · unfold readB; rw [if_pos h0, List.drop_left' (headB_len h)]
/-! ### Lengths -/
theorem each_up {sz n : Int} (hn : 3 ≤ n ∧ n ≤ 16) (hz : 0 ≤ sz) : sz ≤ (n - 1) * eachS sz n := by
  unfold eachS
  by_cases h : 0 < sz
  · rw [if_pos ⟨hn, h⟩, Int.mul_add, Int.mul_one]
    have h1 := Int.mul_ediv_add_emod (sz - 1) (n - 1)
    have h2 := Int.emod_lt_of_pos (sz - 1) (show 0 < n - 1 by omega)
    omega
  · rw [if_neg (fun h' => h h'.2)]; omega
theorem part_long (xs : List UInt8) (n : Int) (hn : 3 ≤ n ∧ n ≤ 16) (i : Nat) (hi : (i : Int) < n - 1) : ((partB xs (eN xs n) i).length : Int) = longS i xs.length n := by
  have h1 := each_in hn (show 0 ≤ (xs.length : Int) by omega)
  have h2 : ((eN xs n : Nat) : Int) = eachS xs.length n := by unfold eN; omega
  rw [partB_len]
  unfold longS
  rw [if_neg (by omega), ← h2]
  have h3 : ((i * eN xs n : Nat) : Int) = (i : Int) * (eN xs n : Int) := Int.natCast_mul _ _
  rw [← h3]
  omega
theorem eN_cast (xs : List UInt8) (n : Int) (hn : 3 ≤ n ∧ n ≤ 16) : ((eN xs n : Nat) : Int) = eachS xs.length n := by
  have h1 := each_in hn (show 0 ≤ (xs.length : Int) by omega)
  unfold eN; omega
theorem mxl_parts (xs : List UInt8) (n : Int) (hn : 3 ≤ n ∧ n ≤ 16) : mxl (partsL xs (eN xs n) (n - 1).toNat) = eN xs n := by
  have h1 := each_in hn (show 0 ≤ (xs.length : Int) by omega)
  have h2 := eN_cast xs n hn
  apply Nat.le_antisymm
  · refine mxl_le.2 fun r hr => ?_
    obtain ⟨i, _, rfl⟩ := List.mem_map.1 hr
    rw [partB_len]; omega
  · have h3 : partB xs (eN xs n) 0 ∈ partsL xs (eN xs n) (n - 1).toNat := List.mem_map.2 ⟨0, List.mem_range.2 (by omega), rfl⟩
    have h4 := le_mxl h3
    rw [partB_len] at h4
    omega
theorem rowsL_length (xs : List UInt8) (n : Int) (hn : 3 ≤ n ∧ n ≤ 16) : (rowsL xs n).length = n.toNat := by
  simp [rowsL, partsL]; omega
theorem rowsL_part (xs : List UInt8) (n : Int) (i : Nat) (hi : (i : Int) < n - 1) : (rowsL xs n)[i]? = some (partB xs (eN xs n) i) := by
  unfold rowsL
  rw [List.getElem?_append_left (by rw [partsL_len]; omega)]
  unfold partsL
  rw [List.getElem?_map, List.getElem?_range (by omega)]; rfl
theorem rowsL_last (xs : List UInt8) (n : Int) (hn : 3 ≤ n ∧ n ≤ 16) : (rowsL xs n)[(n - 1).toNat]? = some (pxor (partsL xs (eN xs n) (n - 1).toNat)) := by
  unfold rowsL
  rw [List.getElem?_append_right (by rw [partsL_len]; omega), partsL_len, Nat.sub_self]; rfl
theorem rowsL_long (xs : List UInt8) (n : Int) (hn : 3 ≤ n ∧ n ≤ 16) (i : Nat) (r : List UInt8) (hr : (rowsL xs n)[i]? = some r) : (r.length : Int) = longS i xs.length n := by
  have hlt := (List.getElem?_eq_some_iff.1 hr).1
  rw [rowsL_length xs n hn] at hlt
  by_cases hi : (i : Int) < n - 1
  · rw [rowsL_part xs n i hi] at hr
    cases hr
    exact part_long xs n hn i hi
  · have e : i = (n - 1).toNat := by omega
    subst e
    rw [rowsL_last xs n hn] at hr
    cases hr
    rw [pxor_length, mxl_parts xs n hn, eN_cast xs n hn]
    unfold longS
    rw [if_pos (by omega)]
theorem parts_flat (xs : List UInt8) (e : Nat) : ∀ k, (partsL xs e k).flatten = xs.take (k * e)
  | 0 => by simp [partsL]
  | k + 1 => by
    rw [partsL_snoc, List.flatten_append, parts_flat xs e k]
    simp only [List.flatten_cons, List.flatten_nil, List.append_nil]
    unfold partB
    rw [Nat.add_one_mul]
    by_cases h : k * e ≤ xs.length
    · rw [Nat.min_eq_left h]
      apply List.ext_getElem?
      intro j
      by_cases hj : j < k * e
      · rw [List.getElem?_append_left (by simp; omega)]
        simp only [List.getElem?_take]
        rw [if_pos hj, if_pos (by omega)]
      · rw [List.getElem?_append_right (by simp; omega)]
        simp only [List.getElem?_take, List.getElem?_drop, List.length_take]
        rw [Nat.min_eq_left h]
        by_cases hj2 : j < min (k * e + e) xs.length
        · rw [if_pos (by omega), if_pos (by omega), show k * e + (j - k * e) = j by omega]
        · rw [if_neg (by omega)]
          by_cases hj3 : j < k * e + e
          · rw [if_pos hj3, List.getElem?_eq_none (by omega)]
          · rw [if_neg hj3]
    · rw [List.take_of_length_le (by omega), List.take_of_length_le (l := xs) (by omega), Nat.min_eq_right (by omega), Nat.min_eq_right (by omega)]
      simp
theorem parts_all (xs : List UInt8) (n : Int) (hn : 3 ≤ n ∧ n ≤ 16) : (partsL xs (eN xs n) (n - 1).toNat).flatten = xs := by
  rw [parts_flat, List.take_of_length_le]
  have h1 := each_up hn (show 0 ≤ (xs.length : Int) by omega)
  rw [← eN_cast xs n hn] at h1
  have h2 : (((n - 1).toNat * eN xs n : Nat) : Int) = (n - 1) * (eN xs n : Int) := by rw [Int.natCast_mul]; congr 1; omega
  omega
/-! ### Fragments, some of which are missing -/
/-- Fragments as they were cut, some of them missing. -/
structure Gone (c l num n z : Int) (rs frs : List (List UInt8)) : Prop where
  srv : 3 ≤ n ∧ n ≤ 16
  st : mst c l num
  sz : 0 ≤ z ∧ z ≤ 400 * (n - 1)
  len : (rs.length : Int) = n
  long : ∀ (i : Nat) r, rs[i]? = some r → (r.length : Int) = longS i z n
  all : frs.length = rs.length
  one : ∀ (i : Nat) r, rs[i]? = some r → frs[i]? = some [] ∨ frs[i]? = some (headB ⟨c, l, num, i, n, z⟩ ++ r)
/-- The rows that are looked at, as far as k go. -/
def seen (nt : Int) (rs frs : List (List UInt8)) (k : Nat) : List (Option (List UInt8)) := (List.range k).map fun (i : Nat) => if (i : Int) = nt ∨ frs.getD i [] = [] then none else some (rs.getD i [])
def lost (nt : Int) (frs : List (List UInt8)) (k : Nat) : Nat := (List.range k).countP fun (i : Nat) => decide (¬ (i : Int) = nt ∧ frs.getD i [] = [])
theorem seen_succ (nt : Int) (rs frs : List (List UInt8)) (k : Nat) : seen nt rs frs (k + 1) = seen nt rs frs k ++ [if (k : Int) = nt ∨ frs.getD k [] = [] then none else some (rs.getD k [])] := by simp [seen, List.range_succ]
theorem lost_succ (nt : Int) (frs : List (List UInt8)) (k : Nat) : lost nt frs (k + 1) = lost nt frs k + if ¬ (k : Int) = nt ∧ frs.getD k [] = [] then 1 else 0 := by
  unfold lost
  rw [List.range_succ, List.countP_append, List.countP_singleton]
  simp only [decide_eq_true_eq]
theorem Gone.rows {c l num n z : Int} {rs frs : List (List UInt8)} (h : Gone c l num n z rs frs) (nt : Int) : ∀ k, k ≤ rs.length →
    ∃ sz, rowsR c l num nt n (frs.take k) = some (seen nt rs frs k, (lost nt frs k : Int), sz) ∧ (sz = z ∨ (sz = -1 ∧ ∀ o ∈ seen nt rs frs k, o = none))
  | 0, _ => ⟨-1, rfl, .inr ⟨rfl, by simp [seen]⟩⟩
  | k + 1, hk => by
    obtain ⟨sz, hr, hs⟩ := Gone.rows h nt k (by omega)
    have hkl : k < frs.length := by rw [h.all]; omega
    obtain ⟨b, hb⟩ : ∃ b, b = frs[k] := ⟨_, rfl⟩
    have hb? : frs[k]? = some b := by rw [hb]; exact List.getElem?_eq_getElem hkl
    have hbd : frs.getD k [] = b := by simp [List.getD, hb?]
    obtain ⟨r, hr0⟩ : ∃ r, rs[k]? = some r := ⟨_, List.getElem?_eq_getElem (by omega)⟩
    have hrd : rs.getD k [] = r := by simp [List.getD, hr0]
    rw [List.take_add_one, hb?, Option.toList_some, rowsR_snoc, hr, List.length_take, Nat.min_eq_left (by omega), seen_succ, lost_succ, hbd, hrd]
    unfold stepR
    dsimp only
    by_cases c1 : (k : Int) = nt
    · rw [if_pos c1, if_pos (.inl c1), if_neg (fun h => h.1 c1)]
      refine ⟨sz, by simp, hs.imp id fun ⟨e, h⟩ => ⟨e, fun o ho => ?_⟩⟩
      rcases List.mem_append.1 ho with ho | ho
      · exact h o ho
      · exact List.mem_singleton.1 ho
    rw [if_neg c1]
    by_cases c2 : b = []
    · rw [if_pos c2, if_pos (.inr c2), if_pos ⟨c1, c2⟩]
      refine ⟨sz, by simp, hs.imp id fun ⟨e, h⟩ => ⟨e, fun o ho => ?_⟩⟩
      rcases List.mem_append.1 ho with ho | ho
      · exact h o ho
      · exact List.mem_singleton.1 ho
    rw [if_neg c2, if_neg (show ¬ ((k : Int) = nt ∨ b = []) from fun h => h.elim c1 c2), if_neg (show ¬ (¬ (k : Int) = nt ∧ b = []) from fun h => c2 h.2)]
    have hbe : b = headB ⟨c, l, num, k, n, z⟩ ++ r := by
      rcases h.one k r hr0 with h1 | h1
      · rw [hb?] at h1; exact absurd (Option.some.inj h1) c2
      · rw [hb?] at h1; exact Option.some.inj h1
    have hm : hdMay ⟨c, l, num, k, n, z⟩ := ⟨h.st, h.srv, by have := h.len; dsimp only; omega, h.sz⟩
    obtain ⟨e1, e2, e3⟩ := readE_head ⟨c, l, num, k, n, z⟩ r hm (by dsimp only; omega) (h.long k r hr0)
    rw [← hbe] at e1 e2 e3
    have hok : okR c l num n sz k b := by
      unfold okR
      rw [e2]
      refine ⟨e1, ⟨rfl, rfl, rfl⟩, rfl, rfl, ?_⟩
      rcases hs with h | ⟨h, _⟩
      · exact .inr h.symm
      · exact .inl (by omega)
    rw [if_pos hok, e3, e2]
    exact ⟨z, by simp, .inl rfl⟩
theorem len_sum {frs : List (List UInt8)} {b : List UInt8} (h : b ∈ frs) : b.length ≤ (frs.map List.length).sum := by
  induction frs with
  | nil => cases h
  | cons x r ih =>
    rw [List.map_cons, List.sum_cons]
    rcases List.mem_cons.1 h with rfl | h
    · omega
    · have := ih h; omega
theorem oth_ext {α : Type} (a b : List α) (i : Nat) (hl : a.length = b.length) (h : ∀ j : Nat, j ≠ i → a[j]? = b[j]?) : oth a i = oth b i := by
  rw [oth_at, oth_at]
  apply List.ext_getElem?
  intro j
  rw [List.getElem?_eraseIdx, List.getElem?_eraseIdx]
  split
  · exact h j (by omega)
  · exact h (j + 1) (by omega)
theorem fillS_par {rs : List (List UInt8)} {xs : List UInt8} {n : Int} (hn : 3 ≤ n ∧ n ≤ 16) (hl : rs.length = (rowsL xs n).length) (i : Nat) (r : List UInt8) (hr : (rowsL xs n)[i]? = some r) (h : ∀ j : Nat, j ≠ i → rs[j]? = (rowsL xs n)[j]?) :
    fillS rs i xs.length n = some r := by
  have hlt := (List.getElem?_eq_some_iff.1 hr).1
  have he := oth_ext rs _ i hl h
  have hlong := rowsL_long xs n hn i r hr
  have hre : (rowsL xs n)[i] = r := (List.getElem?_eq_some_iff.1 hr).2
  have hf := fill_par (partsL xs (eN xs n) (n - 1).toNat) i hlt
  change fillAns (rowsL xs n) i (((rowsL xs n)[i]).length : Int) = ((rowsL xs n)[i], 0) at hf
  rw [hre] at hf
  unfold fillAns at hf
  unfold fillS
  rw [he, hl, ← hlong]
  by_cases hc : 0 ≤ (i : Int) ∧ (i : Int) < (rowsL xs n).length ∧ 0 ≤ (r.length : Int) ∧ (r.length : Int) ≤ mxl (oth (rowsL xs n) i)
  · rw [if_pos hc] at hf ⊢
    rw [(Prod.mk.inj hf).1]
  · rw [if_neg hc] at hf
    have := (Prod.mk.inj hf).2
    omega
theorem seen_len (nt : Int) (rs frs : List (List UInt8)) (k : Nat) : (seen nt rs frs k).length = k := by simp [seen]
theorem seen_at (nt : Int) (rs frs : List (List UInt8)) (k i : Nat) (hi : i < k) : (seen nt rs frs k)[i]? = some (if (i : Int) = nt ∨ frs.getD i [] = [] then none else some (rs.getD i [])) := by
  unfold seen
  rw [List.getElem?_map, List.getElem?_range hi]; rfl
theorem rsO_at (os : List (Option (List UInt8))) (i : Nat) : (rsO os)[i]? = (os[i]?).map fun o => o.getD [] := by unfold rsO; rw [List.getElem?_map]
theorem rsO_len (os : List (Option (List UInt8))) : (rsO os).length = os.length := by simp [rsO]
/-- At most one is missing: the bytes. -/
theorem Gone.join {c l num n : Int} {xs : List UInt8} {frs : List (List UInt8)} (h : Gone c l num n xs.length (rowsL xs n) frs) (h1 : lost (-1) frs frs.length ≤ 1) : joinS c l num frs n = (xs, 0) := by
  obtain ⟨K, hK⟩ : ∃ K, K = frs.length := ⟨_, rfl⟩
  have hrl := rowsL_length xs n h.srv
  have hn3 := h.srv
  have hKn : K = n.toNat := by rw [hK, h.all, hrl]
  obtain ⟨sz, hr, hs⟩ := h.rows (-1) K (by rw [hK, h.all]; exact Nat.le_refl _)
  rw [hK, List.take_length, ← hK] at hr
  rw [← hK] at h1
  obtain ⟨hcnt, _, _⟩ := rows_inv c l num n (frs.map List.length).sum frs (fun b hb => len_sum hb) _ hr
  dsimp only at hcnt
  obtain ⟨os, hos⟩ : ∃ os, os = seen (-1) (rowsL xs n) frs K := ⟨_, rfl⟩
  have hol : os.length = K := by rw [hos, seen_len]
  have hat : ∀ i, i < K → os[i]? = some (if frs.getD i [] = [] then none else some ((rowsL xs n).getD i [])) := fun i hi => by
    rw [hos, seen_at _ _ _ _ _ hi]
    by_cases c : frs.getD i [] = []
    · rw [if_pos c, if_pos (.inr c)]
    · rw [if_neg c, if_neg (by rintro (h | h); omega; exact c h)]
  rw [← hos] at hr hs hcnt
  have hu : ∀ i j, os[i]? = some none → os[j]? = some none → i = j := fun i j => one_none (by omega)
  have hsz : sz = xs.length := by
    rcases hs with h | ⟨_, h⟩
    · exact h
    · have e0 := h _ (List.getElem_mem (show 0 < os.length by omega))
      have e1 := h _ (List.getElem_mem (show 1 < os.length by omega))
      have := hu 0 1 (by rw [List.getElem?_eq_getElem (by omega), e0]) (by rw [List.getElem?_eq_getElem (by omega), e1])
      omega
  subst hsz
  have hrg : ∀ i, i < K → ∃ r, (rowsL xs n)[i]? = some r ∧ (rowsL xs n).getD i [] = r := fun i hi => by
    obtain ⟨r, hr⟩ : ∃ r, (rowsL xs n)[i]? = some r := ⟨_, List.getElem?_eq_getElem (by omega)⟩
    exact ⟨r, hr, by simp [List.getD, hr]⟩
  have hso : ∀ i, i < K → os[i]? ≠ some none → (rsO os)[i]? = (rowsL xs n)[i]? := fun i hi hne => by
    obtain ⟨r, hr1, hr2⟩ := hrg i hi
    rw [rsO_at, hat i hi, hr1, hr2]
    by_cases c : frs.getD i [] = []
    · rw [hat i hi, if_pos c] at hne; exact absurd rfl hne
    · rw [if_neg c]; rfl
  have hout : ∀ k : Nat, (k : Int) ≤ n - 1 → outK os xs.length n k = some ((partsL xs (eN xs n) k).flatten) := by
    intro k
    induction k with
    | zero => intro _; rfl
    | succ k ih =>
      intro hk
      show (match outK os xs.length n k with | none => none | some out => _) = _
      rw [ih (by omega)]
      dsimp only
      have hp := rowsL_part xs n k (by omega)
      rw [hat k (by omega), show (rowsL xs n).getD k [] = partB xs (eN xs n) k by simp [List.getD, hp], partsL_snoc, List.flatten_append]
      by_cases c : frs.getD k [] = []
      · rw [if_pos c]
        dsimp only
        rw [fillS_par h.srv (by rw [rsO_len]; omega) k _ hp (fun j hj => by
          by_cases hjK : j < K
          · exact hso j hjK (fun e => hj (hu j k e (by rw [hat k (by omega), if_pos c])))
          · rw [List.getElem?_eq_none (by rw [rsO_len]; omega), List.getElem?_eq_none (by omega)])]
        simp
      · rw [if_neg c]
        simp
  have hfin := hout (n - 1).toNat (by omega)
  rw [parts_all xs n h.srv] at hfin
  unfold joinS
  have hl := h.len
  have ha := h.all
  rw [if_pos ⟨h.srv, by omega⟩, hr]
  dsimp only
  unfold finS
  dsimp only
  rw [if_pos (by omega), hfin, if_neg]
  · rfl
  · rintro ⟨h0, hno⟩
    refine hno ?_
    have e : rsO os = rowsL xs n := by
      apply List.ext_getElem?
      intro i
      by_cases hi : i < K
      · refine hso i hi (fun e => ?_)
        have h2 : 0 < os.countP fun o => o.isNone := List.countP_pos_iff.2 ⟨none, List.mem_of_getElem? e, rfl⟩
        omega
      · rw [List.getElem?_eq_none (by rw [rsO_len]; omega), List.getElem?_eq_none (by omega)]
    rw [e]
    exact holds_par _
theorem Gone.lost {c l num n : Int} {xs : List UInt8} {frs : List (List UInt8)} (h : Gone c l num n xs.length (rowsL xs n) frs) (h1 : 2 ≤ lost (-1) frs frs.length) : joinS c l num frs n = ([], 15) := by
  obtain ⟨sz, hr, hs⟩ := h.rows (-1) frs.length (by rw [h.all]; exact Nat.le_refl _)
  rw [List.take_length] at hr
  have hl := h.len
  have ha := h.all
  unfold joinS
  rw [if_pos ⟨h.srv, by omega⟩, hr]
  dsimp only
  unfold finS
  dsimp only
  rw [if_neg (by omega)]
/-! ### Spans -/
theorem span_first {L e a count : Int} (he : 1 ≤ e) (ha : 0 ≤ a) (hc : 1 ≤ count) : 0 ≤ a / e ∧ a / e ≤ (a + count - 1) / e ∧ a / e * e ≤ a ∧ a < a / e * e + e ∧ a + count ≤ ((a + count - 1) / e + 1) * e := by
  have h1 := Int.mul_ediv_add_emod a e
  have h2 := Int.emod_lt_of_pos a (show 0 < e by omega)
  have h3 := Int.emod_nonneg a (show e ≠ 0 by omega)
  have h4 := Int.mul_ediv_add_emod (a + count - 1) e
  have h5 := Int.emod_lt_of_pos (a + count - 1) (show 0 < e by omega)
  rw [Int.mul_comm] at h1 h4
  refine ⟨Int.ediv_nonneg ha (by omega), Int.ediv_le_ediv (by omega) (by omega), by omega, by omega, ?_⟩
  rw [Int.add_mul, Int.one_mul]
  omega
theorem span_last {L n a count : Int} (hn : 3 ≤ n ∧ n ≤ 16) (hL : 1 ≤ L) (ha : 0 ≤ a) (hc : 1 ≤ count) (hac : a + count ≤ L) : (a + count - 1) / eachS L n < n - 1 := by
  have h1 := each_up hn (show 0 ≤ L by omega)
  have h2 : 1 ≤ eachS L n := by
    unfold eachS; rw [if_pos ⟨hn, by omega⟩]
    have := Int.ediv_nonneg (show 0 ≤ L - 1 by omega) (show 0 ≤ n - 1 by omega)
    omega
  exact Int.ediv_lt_of_lt_mul (by omega) (by omega)
theorem got_next (xs : List UInt8) (e f k : Nat) (hfk : f ≤ k) (hf : f * e ≤ xs.length) : (xs.take (k * e)).drop (f * e) ++ partB xs e k = (xs.take ((k + 1) * e)).drop (f * e) := by
  have h1 := parts_flat xs e k
  have h2 := parts_flat xs e (k + 1)
  rw [partsL_snoc, List.flatten_append, h1] at h2
  simp only [List.flatten_cons, List.flatten_nil, List.append_nil] at h2
  rw [← h2, List.drop_append_of_le_length]
  have := Nat.mul_le_mul_right e hfk
  rw [List.length_take]; omega
theorem got_cut (xs : List UInt8) (M f0 at' count : Nat) (h1 : f0 ≤ at') (h2 : at' + count ≤ M) : (((xs.take M).drop f0).drop (at' - f0)).take count = (xs.drop at').take count := by
  rw [List.drop_drop, show f0 + (at' - f0) = at' by omega]
  apply List.ext_getElem?
  intro j
  simp only [List.getElem?_take, List.getElem?_drop]
  by_cases hj : j < count
  · rw [if_pos hj, if_pos hj, if_pos (by omega)]
  · rw [if_neg hj, if_neg hj]
/-! ### Whose they are -/
theorem frag_at {c l num n z : Int} {rs : List (List UInt8)} {i : Nat} {r : List UInt8} (h : rs[i]? = some r) : (fragsL c l num n z rs)[i]? = some (headB ⟨c, l, num, i, n, z⟩ ++ r) := by
  unfold fragsL; rw [List.getElem?_mapIdx, h]; rfl
theorem head_inj {h k : Hd} {a b : List UInt8} (gh : gd h) (gk : gd k) (e : headB h ++ a = headB k ++ b) : h = k := by
  have h1 := hdOf_head h a gh
  rw [e, hdOf_head k b gk] at h1
  exact h1.symm
theorem rowsR_first {c l num n : Int} {frs : List (List UInt8)} {b : List UInt8} (hb : frs[0]? = some b) (hne : b ≠ []) (hno : ¬ okR c l num n (-1) 0 b) : rowsR c l num (-1) n frs = none := by
  cases frs with
  | nil => cases hb
  | cons x r =>
    cases hb
    have h1 := rowsR_snoc c l num (-1) n [] b
    rw [List.nil_append] at h1
    have h2 : rowsR c l num (-1) n [b] = none := by
      rw [h1]
      show stepR c l num (-1) n (some ([], 0, -1)) 0 b = none
      unfold stepR
      dsimp only
      rw [if_neg (by decide), if_neg hne, if_neg hno]
    exact rowsR_none c l num (-1) n [b] r h2
theorem gone_all {c l num n : Int} {xs : List UInt8} (hn : 3 ≤ n ∧ n ≤ 16) (hm : mst c l num) (hz : (xs.length : Int) ≤ 400 * (n - 1)) (frs : List (List UInt8)) (hl : frs.length = (rowsL xs n).length)
    (h : ∀ (i : Nat) r, (rowsL xs n)[i]? = some r → frs[i]? = some [] ∨ frs[i]? = some (headB ⟨c, l, num, i, n, xs.length⟩ ++ r)) : Gone c l num n xs.length (rowsL xs n) frs :=
  ⟨hn, hm, ⟨by omega, hz⟩, by rw [rowsL_length xs n hn]; omega, fun i r hr => rowsL_long xs n hn i r hr, hl, h⟩
theorem cutS_ok {c l num n : Int} {xs : List UInt8} (hn : 3 ≤ n ∧ n ≤ 16) (hm : mst c l num) (hz : (xs.length : Int) ≤ 400 * (n - 1)) : cutS c l num xs n = (fragsL c l num n xs.length (rowsL xs n), 0) := by
  unfold cutS; rw [if_pos ⟨hn, hm⟩, if_pos hz]
theorem rowsL_max (xs : List UInt8) (n : Int) : ∀ r, r ∈ rowsL xs n → r.length ≤ xs.length := by
  intro r hr
  have hm := parts_mxl xs (eN xs n) (n - 1).toNat
  unfold rowsL at hr
  rcases List.mem_append.1 hr with h | h
  · have := le_mxl h; omega
  · rw [List.mem_singleton.1 h, pxor_length]; exact hm
theorem frags_max (c l num n z : Int) (rs : List (List UInt8)) (K : Nat) (h : ∀ r, r ∈ rs → r.length ≤ K) : ∀ b, b ∈ fragsL c l num n z rs → b.length ≤ K + 12 := by
  intro b hb
  obtain ⟨i, hi⟩ := List.mem_iff_getElem?.1 hb
  unfold fragsL at hi
  rw [List.getElem?_mapIdx] at hi
  cases hr : rs[i]? with
  | none => rw [hr] at hi; cases hi
  | some r =>
    rw [hr] at hi
    cases hi
    rw [List.length_append, headB_len]
    have := h r (List.mem_of_getElem? hr)
    omega
theorem frag_eq {c l m c' l' m' n z : Int} {rs : List (List UInt8)} (hn : 3 ≤ n ∧ n ≤ 16) (hs : mst c l m) (ht : mst c' l' m') (hz : 0 ≤ z ∧ z ≤ 400 * (n - 1)) (hl : (rs.length : Int) = n) {i j : Nat} {a b : List UInt8}
    (ha : (fragsL c l m n z rs)[i]? = some a) (hb : (fragsL c' l' m' n z rs)[j]? = some b) : a = b ↔ i = j ∧ c = c' ∧ l = l' ∧ m = m' := by
  unfold fragsL at ha hb
  rw [List.getElem?_mapIdx] at ha hb
  cases hr : rs[i]? with
  | none => rw [hr] at ha; cases ha
  | some r =>
    cases hq : rs[j]? with
    | none => rw [hq] at hb; cases hb
    | some q =>
      rw [hr] at ha; rw [hq] at hb
      have h1 := (List.getElem?_eq_some_iff.1 hr).1
      have h2 := (List.getElem?_eq_some_iff.1 hq).1
      cases ha; cases hb
      constructor
      · intro e
        have g1 : gd ⟨c, l, m, i, n, z⟩ := gd_of ⟨hs, hn, by dsimp only; omega, hz⟩ (by dsimp only; omega)
        have g2 : gd ⟨c', l', m', j, n, z⟩ := gd_of ⟨ht, hn, by dsimp only; omega, hz⟩ (by dsimp only; omega)
        have e1 := head_inj g1 g2 e
        injection e1 with e1 e2 e3 e4 e5 e6
        exact ⟨by omega, e1, e2, e3⟩
      · rintro ⟨rfl, rfl, rfl, rfl⟩
        rw [hr] at hq
        rw [Option.some.inj hq]
/-- A row that is loaded. -/
theorem RowsV.row {G : Im} {v : Value} {rs : List (List UInt8)} (h : RowsV G v rs) {k : Nat} {r : List UInt8} (hr : rs[k]? = some r) : ∃ b o c u, v = .slice (some ⟨b, o, none⟩) rs.length c ∧ (∀ (G' : Im) (H : Hp), Im.le G G' → Cel G' H b (o + (k : Int).toNat) u) ∧ SV G [] u r.length (r.map B8) := by
  obtain ⟨vs, hsv, hit⟩ := h
  have hlt := (List.getElem?_eq_some_iff.1 hr).1
  obtain ⟨ad, c, rfl, h1, h2, h3⟩ := hsv
  have hkl : k < vs.length := by rw [hit.1]; exact hlt
  rcases h3 with ⟨h0, _⟩ | ⟨b, o, rfl, hc⟩
  · rw [h0] at hkl; simp at hkl
  refine ⟨b, o, c, vs[k], by rw [hit.1], fun G' H hG => ?_, ?_⟩
  · rw [Int.toNat_natCast]
    exact (hc k _ (List.getElem?_eq_getElem hkl)).mono hG (by simp)
  · exact hit.2 k _ r (List.getElem?_eq_getElem hkl) hr
theorem RowsV.len {G : Im} {v : Value} {rs : List (List UInt8)} (h : RowsV G v rs) : ∃ ad c, v = .slice ad rs.length c := by
  obtain ⟨vs, hsv, hit⟩ := h
  obtain ⟨ad, c, rfl⟩ := hsv.form
  exact ⟨ad, c, by rw [hit.1]⟩
end Go.Proofs.Ytldkldmjcacopaa
