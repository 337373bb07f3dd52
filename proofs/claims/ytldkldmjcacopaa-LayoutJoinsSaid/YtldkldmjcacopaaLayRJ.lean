/- Plain: what the reference's Join and Mend say. The reference's walks of chapter 13: read, whole, Join, Mend. -/
import Derived.Test.YtldkldmjcacopaaLayM
import Derived.Test.YtldkldmjcacopaaLayF4
namespace Go.Proofs.Ytldkldmjcacopaa
open Go
set_option linter.unusedVariables false
set_option linter.unusedSimpArgs false
set_option maxHeartbeats 1600000
/-! ### What the reference says -/
def misO (os : List (Option (List UInt8))) : List Nat := (List.range os.length).filter fun i => decide (os[i]? = some none)
theorem misO_mem (os : List (Option (List UInt8))) (i : Nat) : i ∈ misO os ↔ os[i]? = some none := by
  unfold misO
  rw [List.mem_filter, List.mem_range, decide_eq_true_eq]
  exact ⟨fun h => h.2, fun h => ⟨(List.getElem?_eq_some_iff.1 h).1, h⟩⟩
theorem misO_snoc (os : List (Option (List UInt8))) (o : Option (List UInt8)) : misO (os ++ [o]) = misO os ++ (if o = none then [os.length] else []) := by
  unfold misO
  rw [List.length_append, List.length_singleton, List.range_succ, List.filter_append]
  congr 1
  · refine List.filter_congr fun i hi => ?_
    rw [List.getElem?_append_left (List.mem_range.1 hi)]
  · have h1 : (os ++ [o])[os.length]? = some o := by rw [List.getElem?_append_right (Nat.le_refl _), Nat.sub_self]; rfl
    rw [List.filter_cons, h1]
    by_cases h : o = none
    · subst h; simp
    · rw [if_neg (by simp [h]), if_neg h]; rfl
theorem misO_len (os : List (Option (List UInt8))) : (misO os).length = os.countP fun o => o.isNone := by
  induction os using snoc_ind with
  | h0 => rfl
  | h1 os o ih =>
    rw [misO_snoc, List.length_append, ih, List.countP_append, List.countP_singleton]
    cases o <;> simp
def padTo (x : List UInt8) (k : Nat) : List UInt8 := (x ++ List.replicate (k - x.length) 0).take k
theorem padTo_take {x : List UInt8} {k : Nat} (h : k ≤ x.length) : padTo x k = x.take k := by
  unfold padTo; rw [show k - x.length = 0 by omega]; simp
def flatK (f : Nat → List UInt8) : Nat → List UInt8
  | 0 => []
  | k + 1 => flatK f k ++ f k
theorem flatK_len {f : Nat → List UInt8} {e L m : Nat} (h : ∀ i, i < m → (f i).length = min (i * e + e) L - min (i * e) L) : ∀ k, k ≤ m → (flatK f k).length = min (k * e) L
  | 0, _ => by simp [flatK]
  | k + 1, hk => by
    have h1 := flatK_len h k (by omega)
    have h2 := h k (by omega)
    show (flatK f k ++ f k).length = _
    rw [List.length_append, h1, h2, Nat.add_one_mul]
    omega
theorem flatK_mid (f : Nat → List UInt8) (k : Nat) : ∀ m, k < m → ∃ r, flatK f m = flatK f k ++ (f k ++ r)
  | 0, h => by omega
  | m + 1, h => by
    by_cases hk : k = m
    · subst hk; exact ⟨[], by show flatK f k ++ f k = _; simp⟩
    · obtain ⟨r, hr⟩ := flatK_mid f k m (by omega)
      exact ⟨r ++ f m, by show flatK f m ++ f m = _; rw [hr]; simp [List.append_assoc]⟩
theorem flatK_part {f : Nat → List UInt8} {e L m : Nat} (h : ∀ i, i < m → (f i).length = min (i * e + e) L - min (i * e) L) (hL : (flatK f m).length = L) (i : Nat) (hi : i < m) : partB (flatK f m) e i = f i := by
  obtain ⟨r, hr⟩ := flatK_mid f i m hi
  have h1 := flatK_len h i (by omega)
  have h2 := h i hi
  unfold partB
  rw [hL, hr]
  exact mid_app _ _ _ _ _ h1 h2
def rowK (os : List (Option (List UInt8))) (sz n : Int) (i : Nat) : List UInt8 := match os[i]? with
  | some (some r) => r
  | _ => padTo (pxor (rsO os)) (longS i sz n).toNat
def wholeS (c l num : Int) (frs : List (List UInt8)) (n but : Int) : List UInt8 × Int × Int :=
  if (3 ≤ n ∧ n ≤ 16) ∧ (frs.length : Int) = n then match rowsR c l num but n frs with
    | none => ([], 0, 4)
    | some st => if 1 < (misO st.1).length then ([], 0, 15) else if misO st.1 = [] ∧ ¬ (∀ c ∈ pxor (rsO st.1), c = 0) then ([], 0, 4) else (flatK (rowK st.1 st.2.2 n) (n - 1).toNat, st.2.2, 0)
  else ([], 0, 1)
def rmendS (c l num : Int) (frs : List (List UInt8)) (ix n : Int) : List UInt8 × Int :=
  if ((3 ≤ n ∧ n ≤ 16) ∧ (frs.length : Int) = n) ∧ 0 ≤ ix ∧ ix < n then
    if (wholeS c l num frs n ix).2.2 = 0 then (headB ⟨c, l, num, ix, n, (wholeS c l num frs n ix).2.1⟩ ++ (rowsL (wholeS c l num frs n ix).1 n).getD ix.toNat [], 0) else ([], (wholeS c l num frs n ix).2.2)
  else ([], 1)
theorem pxor_hole {rs : List (List UInt8)} {i : Nat} (h : rs[i]? = some []) : pxor rs = pxor (oth rs i) := by
  have hlt := (List.getElem?_eq_some_iff.1 h).1
  have he := (List.getElem?_eq_some_iff.1 h).2
  refine ext_getD ?_ fun j => ?_
  · rw [pxor_length, pxor_length]
    apply Nat.le_antisymm
    · refine mxl_le.2 fun r hr => ?_
      obtain ⟨j, hj⟩ := List.mem_iff_getElem?.1 hr
      by_cases e : j = i
      · subst e; rw [h] at hj; cases hj; simp
      · refine le_mxl ?_
        rw [oth_at]
        refine List.mem_iff_getElem?.2 ?_
        by_cases hl : j < i
        · exact ⟨j, by rw [List.getElem?_eraseIdx, if_pos hl]; exact hj⟩
        · exact ⟨j - 1, by rw [List.getElem?_eraseIdx, if_neg (by omega), show j - 1 + 1 = j by omega]; exact hj⟩
    · exact mxl_le.2 fun r hr => le_mxl (oth_mem hr)
  · rw [pxor_getD, pxor_getD, col_at rs i hlt j, he]
    simp
/-- What is known where at most one is missing. -/
theorem rows_one {c l num nt n : Int} {frs : List (List UInt8)} {st : RSt} (hn : 3 ≤ n ∧ n ≤ 16) (hl : (frs.length : Int) = n) (hr : rowsR c l num nt n frs = some st) (h1 : (misO st.1).length ≤ 1) :
    0 ≤ st.2.2 ∧ st.2.2 ≤ 400 * (n - 1) ∧ (∀ (j : Nat) r, st.1[j]? = some (some r) → (r.length : Int) = longS j st.2.2 n) ∧ (∀ i : Nat, st.1[i]? = some none → ∀ j : Nat, j < st.1.length → j ≠ i → ∃ r, st.1[j]? = some (some r)) := by
  have g := rows_good _ _ _ _ _ _ _ hr
  have hll := (rowsR_in _ _ _ _ _ _ _ hr).1
  rw [misO_len] at h1
  have hall : ∀ i : Nat, st.1[i]? = some none → ∀ j : Nat, j < st.1.length → j ≠ i → ∃ r, st.1[j]? = some (some r) := fun i hi j hj hne => by
    obtain ⟨o, ho⟩ : ∃ o, st.1[j]? = some o := ⟨_, List.getElem?_eq_getElem hj⟩
    cases o with
    | some r => exact ⟨r, ho⟩
    | none => exact absurd (one_none h1 ho hi) hne
  have hex : ∃ (j : Nat) (r : List UInt8), st.1[j]? = some (some r) := by
    obtain ⟨o, ho⟩ : ∃ o, st.1[0]? = some o := ⟨_, List.getElem?_eq_getElem (by omega)⟩
    cases o with
    | some r => exact ⟨0, r, ho⟩
    | none => exact ⟨1, hall 0 ho 1 (by omega) (by omega)⟩
  obtain ⟨j, r, hj⟩ := hex
  have h2 := g.long j r hj
  exact ⟨h2.2.1, h2.2.2, fun j r h => (g.long j r h).1, hall⟩
theorem rowK_none {os : List (Option (List UInt8))} {sz n : Int} (hn : 3 ≤ n ∧ n ≤ 16) (hz : 0 ≤ sz) (hl : (os.length : Int) = n) (i : Nat) (hi : os[i]? = some none) (hlong : ∀ (j : Nat) r, os[j]? = some (some r) → (r.length : Int) = longS j sz n) (hall : ∀ j : Nat, j < os.length → j ≠ i → ∃ r, os[j]? = some (some r)) :
    fillS (rsO os) i sz n = some (rowK os sz n i) ∧ rowK os sz n i = (pxor (oth (rsO os) i)).take (longS i sz n).toNat ∧ ((rowK os sz n i).length : Int) = longS i sz n := by
  have hlt := (List.getElem?_eq_some_iff.1 hi).1
  have hf := fillS_ok hn hz hl i hlt hlong hall
  have hp : pxor (rsO os) = pxor (oth (rsO os) i) := pxor_hole (by rw [rsO_at, hi]; rfl)
  have hle : (longS i sz n).toNat ≤ (pxor (oth (rsO os) i)).length := by
    rw [pxor_length]
    unfold fillS at hf
    by_cases h : 0 ≤ (i : Int) ∧ (i : Int) < (rsO os).length ∧ 0 ≤ longS i sz n ∧ longS i sz n ≤ mxl (oth (rsO os) i)
    · omega
    · rw [if_neg h] at hf; cases hf
  have hr : rowK os sz n i = (pxor (oth (rsO os) i)).take (longS i sz n).toNat := by
    unfold rowK
    rw [hi]
    dsimp only
    rw [hp, padTo_take hle]
  refine ⟨by rw [hf, hr], hr, ?_⟩
  have := long_in (i := i) hn hz
  rw [hr, List.length_take]; omega
theorem rowK_some {os : List (Option (List UInt8))} {sz n : Int} {i : Nat} {r : List UInt8} (hi : os[i]? = some (some r)) : rowK os sz n i = r := by unfold rowK; rw [hi]
/-- The reference's answer is the program's. -/
theorem join_same (c l num n : Int) (frs : List (List UInt8)) : ((wholeS c l num frs n (-1)).1, (wholeS c l num frs n (-1)).2.2) = joinS c l num frs n := by
  unfold wholeS joinS
  by_cases h0 : (3 ≤ n ∧ n ≤ 16) ∧ (frs.length : Int) = n
  rotate_left
  · rw [if_neg h0, if_neg h0]
  rw [if_pos h0, if_pos h0]
  cases hr : rowsR c l num (-1) n frs with
  | none => rfl
  | some st =>
    dsimp only
    have g := rows_good _ _ _ _ _ _ _ hr
    have hll := (rowsR_in _ _ _ _ _ _ _ hr).1
    have hone := rows_one h0.1 h0.2 hr
    have hc := g.cnt
    rw [if_neg (by omega), ← misO_len] at hc
    unfold finS
    by_cases h1 : 1 < (misO st.1).length
    · rw [if_pos h1, if_neg (show ¬ st.2.1 ≤ 1 by omega)]
    rw [if_neg h1, if_pos (show st.2.1 ≤ 1 by omega)]
    have hiff : (misO st.1 = []) ↔ st.2.1 = 0 := by
      rw [← List.length_eq_zero_iff]; omega
    simp only [hiff]
    by_cases h2 : st.2.1 = 0 ∧ ¬ ∀ c ∈ pxor (rsO st.1), c = 0
    · rw [if_pos h2, if_pos h2]
    rw [if_neg h2, if_neg h2]
    obtain ⟨o1, o2, o3, o4⟩ := hone (by omega)
    have hout : ∀ k : Nat, k ≤ st.1.length → outK st.1 st.2.2 n k = some (flatK (rowK st.1 st.2.2 n) k) := by
      intro k
      induction k with
      | zero => intro _; rfl
      | succ k ih =>
        intro hk
        show (match outK st.1 st.2.2 n k with | none => none | some out => _) = _
        rw [ih (by omega)]
        dsimp only
        obtain ⟨o, ho⟩ : ∃ o, st.1[k]? = some o := ⟨_, List.getElem?_eq_getElem (by omega)⟩
        rw [ho]
        cases o with
        | some r => dsimp only; show _ = some (flatK _ k ++ rowK _ _ _ k); rw [rowK_some ho]
        | none =>
          dsimp only
          rw [(rowK_none h0.1 o1 (by omega) k ho o3 (o4 k ho)).1]
          rfl
    rw [hout _ (by omega)]
    rfl
theorem mend_same (c l num ix n : Int) (frs : List (List UInt8)) : rmendS c l num frs ix n = mendS c l num frs ix n := by
  unfold rmendS mendS
  by_cases h0 : ((3 ≤ n ∧ n ≤ 16) ∧ (frs.length : Int) = n) ∧ 0 ≤ ix ∧ ix < n
  rotate_left
  · rw [if_neg h0, if_neg h0]
  rw [if_pos h0, if_pos h0]
  obtain ⟨i, rfl⟩ : ∃ i : Nat, ix = i := ⟨ix.toNat, by omega⟩
  have hn := h0.1.1
  cases hr : rowsR c l num i n frs with
  | none =>
    have hw : wholeS c l num frs n i = ([], 0, 4) := by unfold wholeS; rw [if_pos h0.1, hr]
    rw [hw]; rfl
  | some st =>
    dsimp only
    have g := rows_good _ _ _ _ _ _ _ hr
    have hll := (rowsR_in _ _ _ _ _ _ _ hr).1
    have hms := (rowsR_in _ _ _ _ _ _ _ hr).2.1
    have hone := rows_one h0.1.1 h0.1.2 hr
    have hc := g.cnt
    have hnt := g.nt i rfl (by omega)
    rw [if_pos (by omega), ← misO_len] at hc
    by_cases h1 : 1 < (misO st.1).length
    · have hw : wholeS c l num frs n i = ([], 0, 15) := by unfold wholeS; rw [if_pos h0.1, hr]; dsimp only; rw [if_pos h1]
      rw [hw, if_neg (show ¬ st.2.1 = 0 by omega)]; rfl
    rw [if_pos (show st.2.1 = 0 by omega)]
    have hne : ¬ (misO st.1 = [] ∧ ¬ ∀ c ∈ pxor (rsO st.1), c = 0) := fun h => by
      have := h.1
      rw [← List.length_eq_zero_iff] at this
      omega
    have hw : wholeS c l num frs n i = (flatK (rowK st.1 st.2.2 n) (n - 1).toNat, st.2.2, 0) := by unfold wholeS; rw [if_pos h0.1, hr]; dsimp only; rw [if_neg h1, if_neg hne]
    rw [hw]
    dsimp only
    rw [if_pos rfl]
    obtain ⟨o1, o2, o3, o4⟩ := hone (by omega)
    have hrn := rowK_none hn o1 (by omega) i hnt o3 (o4 i hnt)
    have hei := each_in hn o1
    obtain ⟨e, he⟩ : ∃ e : Nat, (e : Int) = eachS st.2.2 n := ⟨(eachS st.2.2 n).toNat, by omega⟩
    obtain ⟨L, hL⟩ : ∃ L : Nat, (L : Int) = st.2.2 := ⟨st.2.2.toNat, by omega⟩
    have hlen : ∀ j : Nat, j < st.1.length → ((rowK st.1 st.2.2 n j).length : Int) = longS j st.2.2 n := fun j hj => by
      by_cases e : j = i
      · subst e; exact hrn.2.2
      · obtain ⟨r, hr⟩ := o4 i hnt j hj e
        rw [rowK_some hr]; exact o3 j r hr
    have hf : ∀ j, j < (n - 1).toNat → (rowK st.1 st.2.2 n j).length = min (j * e + e) L - min (j * e) L := fun j hj => by
      have h := hlen j (by omega)
      unfold longS at h
      rw [if_neg (by omega), ← he, ← hL] at h
      have h3 : ((j * e : Nat) : Int) = (j : Int) * e := Int.natCast_mul _ _
      rw [← h3] at h
      rw [← hL]
      omega
    have hfl := flatK_len hf (n - 1).toNat (Nat.le_refl _)
    have hup := each_up hn o1
    have hdl : (flatK (rowK st.1 st.2.2 n) (n - 1).toNat).length = L := by
      rw [hfl]
      have h3 : (((n - 1).toNat * e : Nat) : Int) = (n - 1) * (e : Int) := by rw [Int.natCast_mul]; congr 1; omega
      rw [← he, ← h3] at hup
      omega
    have hpart := fun j hj => flatK_part hf hdl j hj
    have hen : eN (flatK (rowK st.1 st.2.2 n) (n - 1).toNat) n = e := by unfold eN; rw [hdl, hL]; omega
    congr 2
    rw [Int.toNat_natCast]
    by_cases hlast : (i : Int) < n - 1
    · have h := rowsL_part (flatK (rowK st.1 st.2.2 n) (n - 1).toNat) n i hlast
      rw [hen, hpart i (by omega)] at h
      rw [List.getD, h, Option.getD_some, hrn.2.1]
    · have hi : i = (n - 1).toNat := by omega
      have h := rowsL_last (flatK (rowK st.1 st.2.2 n) (n - 1).toNat) n hn
      rw [hen, ← hi] at h
      rw [List.getD, ← hi, h, Option.getD_some]
      have hrows : partsL (flatK (rowK st.1 st.2.2 n) i) e i = oth (rsO st.1) i := by
        rw [oth_at]
        apply List.ext_getElem?
        intro j
        rw [List.getElem?_eraseIdx]
        by_cases hj : j < i
        · rw [if_pos hj, rsO_at]
          unfold partsL
          rw [List.getElem?_map, List.getElem?_range hj]
          obtain ⟨r, hr⟩ := o4 i hnt j (by omega) (by omega)
          rw [hr]
          have := hpart j (by omega)
          rw [← hi] at this
          rw [Option.map_some, Option.map_some, this, rowK_some hr]; rfl
        · rw [if_neg hj, List.getElem?_eq_none (by rw [partsL_len]; omega), List.getElem?_eq_none (by rw [rsO_len]; omega)]
      rw [hrows, List.take_of_length_le]
      rw [pxor_length]
      have : mxl (oth (rsO st.1) i) ≤ e := mxl_le.2 fun r hr => by
        obtain ⟨j, hj⟩ := List.mem_iff_getElem?.1 (oth_mem hr)
        rw [rsO_at] at hj
        cases ho : st.1[j]? with
        | none => rw [ho] at hj; cases hj
        | some o =>
          rw [ho] at hj
          cases o with
          | none => cases hj; simp
          | some q =>
            cases hj
            have h1 := o3 j _ ho
            have h2 := (long_in (i := j) hn o1).2
            simp only [Option.getD_some]
            omega
      have h9 : longS i st.2.2 n = eachS st.2.2 n := by rw [show ((i : Nat) : Int) = n - 1 by omega, long_last]
      rw [h9]; omega

theorem rsO_snoc (os : List (Option (List UInt8))) (o : Option (List UInt8)) : rsO (os ++ [o]) = rsO os ++ [o.getD []] := by simp [rsO]
/-- Numbers of one's own. -/
abbrev IO (v : Value) (is : List Nat) (B : Hp) : Prop := Own v is.length (is.map fun (i : Nat) => I64 (i : Int)) 3 1 B
theorem IO.one (is : List Nat) : ∀ u ∈ is.map (fun (i : Nat) => I64 (i : Int)), u.oneCell' = true := by
  intro u hu
  obtain ⟨x, _, rfl⟩ := List.mem_map.1 hu
  rfl
section
variable {w0 : World} {G : Im} {H : Hp} {n : Nat} {env : Env} {P : Program}
theorem f_ret4 {fn : Func} {R : Ending → World → Prop} {t u s r : Tmp} {v x y z : Value} (hr : fn.results = #[.tmp t, .tmp u, .tmp s, .tmp r]) (hv : env.lookup t = some v) (hx : env.lookup u = some x) (hy : env.lookup s = some y) (hz : env.lookup r = some z)
    (hR : ∀ w, Sat w0 w G H → R (.returned (.tuple #[v, x, y, z])) w) : Holds n [] w0 env G H (bodyPost P fn R .ret) := fun a w ht hs =>
  ⟨ht.defers, .tuple #[v, x, y, z], by simp [results, hr, ht.getD hv, ht.getD hx, ht.getD hy, ht.getD hz]; exact ⟨by rw [← ht.getD hv]; simp, by rw [← ht.getD hx]; simp, by rw [← ht.getD hy]; simp, by rw [← ht.getD hz]; simp⟩, hR w hs⟩
end
attribute [local irreducible] Code.wp wpList stepK Holds Val wpR Eff Eff0 Code.wpIn wpListIn stepI Exit.then Exit.inBlock bodyPost bodyPostM

theorem rreadA_c (c l num n but : Int) (hn : 3 ≤ n ∧ n ≤ 16) (vf : Value) (frs : List (List UInt8)) (hlf : (frs.length : Int) = n) (hml : ∀ b, b ∈ frs → b.length ≤ 100000) (w0 w : World) (G : Im) (F : Hp) (hv : RowsV G vf frs) (hs : Sat w0 w G F) :
    Calls Try.prog 71 #[.agg #[I64 c, I64 l, I64 num], vf, I64 n, I64 but] w fun e w' => ∃ G', Im.le G G' ∧
      ((rowsR c l num but n frs = none ∧ e = .returned (.tuple #[.slice none 0 0, .slice none 0 0, I64 0, I64 4]) ∧ Sat w0 w' G' F) ∨
       (∃ st u B v B2, rowsR c l num but n frs = some st ∧ e = .returned (.tuple #[u, v, I64 st.2.2, I64 0]) ∧ RO G' u (rsO st.1) B ∧ IO v (misO st.1) B2 ∧ Sat w0 w' G' (B ++ (B2 ++ F)))) := by
  obtain ⟨adf, cpf, rfl⟩ := hv.len
  refine f_enter (vs := [_, _, _, _]) Try.func71 rfl Try.ntmps71 (by simp) hs ?_
  refine ww ?_
  refine c_cons (s_boxA [I64 c, I64 l, I64 num] rfl rfl rfl fun b1 => ?_)
  refine c_freeze .head fun G1 hG1 kS => ?_
  refine ww ?_
  refine c_loop (α := Nat × Im × (Value × Hp) × (Value × Hp) × RSt) (fun x => [(1, .slice adf frs.length cpf), (2, I64 n), (3, I64 but), (4, Pt b1 0), (12, x.2.2.1.1), (13, x.2.2.2.1.1), (14, I64 x.2.2.2.2.2.2), (15, I64 x.1)]) (fun x => x.2.1) (fun x => x.2.2.1.2 ++ (x.2.2.2.1.2 ++ F)) (fun x => (x.1 : Int) ≤ n ∧ Im.le G1 x.2.1 ∧ RO x.2.1 x.2.2.1.1 (rsO x.2.2.2.2.1) x.2.2.1.2 ∧ IO x.2.2.2.1.1 (misO x.2.2.2.2.1) x.2.2.2.1.2 ∧ rowsR c l num but n (frs.take x.1) = some x.2.2.2.2) (fun x => n.toNat - x.1) (0, G1, (.slice none 0 0, []), (.slice none 0 0, []), ([], 0, -1)) ⟨by dsimp only; omega, Im.le_refl _, RO.zero _ _, Own.zero none _ _, by rw [List.take_zero]; rfl⟩ ?_ ?_
  · exact n_at ⟨rfl, rfl, rfl, rfl, rfl, rfl, rfl, rfl, trivial⟩ sbx
  rintro ⟨i, Gi, ⟨uo, Bo⟩, ⟨um, Bm⟩, ⟨os, ms, sz⟩⟩ ⟨hi, hGi, hro, him, hrr⟩
  dsimp only at hi hGi hro him hrr ⊢
  have hin1 := (rowsR_in c l num but n _ _ hrr).1
  dsimp only at hin1
  rw [List.length_take] at hin1
  have hos16 : os.length ≤ 16 := by omega
  have hos : os.length = i := by omega
  have hmis : (misO os).length ≤ 16 := by rw [misO_len]; exact Nat.le_trans List.countP_le_length hos16
  have hrl : (rsO os).length ≤ 16 := by rw [rsO_len]; exact hos16
  refine ww ?_
  refine c_cond_d rfl (fun c1 => ?_) (fun c1 => ?_)
  · -- then
    have hil : i < frs.length := by omega
    obtain ⟨b, hb0⟩ : ∃ b, frs[i]? = some b := ⟨_, List.getElem?_eq_getElem hil⟩
    have hbl := hml b (List.mem_of_getElem? hb0)
    have htk : frs.take (i + 1) = frs.take i ++ [b] := by rw [List.take_add_one, hb0]; rfl
    have hstp := rowsR_snoc c l num but n (frs.take i) b
    rw [← htk, hrr, List.length_take, Nat.min_eq_left (by omega)] at hstp
    obtain ⟨bf, of', cf, ub, e1, hcel, hub⟩ := (hv.mono (hG1.trans hGi)).row hb0
    cases e1
    replace hcel := fun H => hcel Gi H (Im.le_refl _)
    obtain ⟨adb, cpb, rfl⟩ := hub.form
    have hmsn : misO (os ++ [none]) = misO os ++ [i] := by rw [misO_snoc, if_pos rfl, hos]
    have hrsn : rsO (os ++ [none]) = rsO os ++ [[]] := rsO_snoc os none
    refine ww ?_
    refine c_cons (s_val (v_index1 rfl rfl (by kernel_rfl) (by omega)) rfl rfl rfl ?_)
    refine c_cons (s_val (v_load rfl (hcel _) (by kernel_rfl)) rfl rfl rfl ?_)
    refine ww ?_
    refine c_part_d 30 _ rfl (fun c2 => ?_) (fun c2 => ?_)
    · -- t30 = True
      have hb00 : b = [] := List.eq_nil_of_length_eq_zero (by omega)
      refine ww ?_
      refine c_cond_t rfl ?_
      refine ww ?_
      obtain ⟨vs, ho, hit⟩ := hro
      have hvl := hit.1
      refine c_cons (s_lit (z := .slice none 0 0) (bs := 24) (e := 22) [_] (by kernel_rfl) rfl rfl rfl rfl (by simp [Value.oneCell']) rfl (by decide) fun b2 => ?_)
      refine c_cons (s_append (e := 22) (z := .slice none 0 0) (sz := 1) (bs := 24) (by kernel_rfl) rfl rfl rfl rfl ho (Chunk.tail Chunk.head) (SV.block .head (by simp [maxLen])) rfl (by decide) rfl (by simp [Value.oneCell']) (by simp; omega) (by simp; omega) fun u3 B3 ho3 => ?_)
      have hro3 : RO Gi u3 (rsO (os ++ [none])) B3 := by rw [hrsn]; exact ⟨vs ++ [.slice none 0 0], by rw [List.length_append]; exact ho3, hit.snoc (SV.nil _ _)⟩
      refine c_sub (Bm ++ (B3 ++ F)) sbx ?_
      refine ww ?_
      refine c_cons (s_lit (z := I64 0) (bs := 8) (e := 3) [_] (by kernel_rfl) rfl rfl rfl rfl (by simp [Value.oneCell']) rfl (by decide) fun b4 => ?_)
      refine c_cons (s_append (e := 3) (z := I64 0) (sz := 1) (bs := 8) (by kernel_rfl) rfl rfl rfl rfl him (Chunk.tail Chunk.head) (SV.block .head (by simp [maxLen])) rfl (by decide) rfl (by simp [Value.oneCell']) (by simp; omega) (by simp; omega) fun u5 B5 ho5 => ?_)
      have him5 : IO u5 (misO (os ++ [none])) B5 := by rw [hmsn]; unfold IO; rw [List.length_append, List.map_append]; exact ho5
      refine ww ?_
      by_cases c3 : (i : Int) = but
      · have hst : stepR c l num but n (some (os, ms, sz)) i b = some (os ++ [none], ms, sz) := by unfold stepR; dsimp only; rw [if_pos c3]
        rw [hst] at hstp
        exact n_next (x := (i, Gi, (uo, Bo), (um, Bm), (os, ms, sz))) (i + 1, Gi, (u3, B3), (u5, B5), (os ++ [none], ms, sz)) ⟨by dsimp only; omega, hGi, hro3, him5, hstp⟩ (by dsimp only; omega) ⟨rfl, rfl, rfl, rfl, rfl, rfl, rfl, rfl, trivial⟩ rfl sbx
      · have hst : stepR c l num but n (some (os, ms, sz)) i b = some (os ++ [none], ms + 1, sz) := by unfold stepR; dsimp only; rw [if_neg c3, if_pos hb00]
        rw [hst] at hstp
        exact n_next (x := (i, Gi, (uo, Bo), (um, Bm), (os, ms, sz))) (i + 1, Gi, (u3, B3), (u5, B5), (os ++ [none], ms + 1, sz)) ⟨by dsimp only; omega, hGi, hro3, him5, hstp⟩ (by dsimp only; omega) ⟨rfl, rfl, rfl, rfl, rfl, rfl, rfl, rfl, trivial⟩ rfl sbx
    refine ww ?_
    refine c_cond_d rfl (fun c3 => ?_) (fun c3 => ?_)
    · -- then
      have hst : stepR c l num but n (some (os, ms, sz)) i b = some (os ++ [none], ms, sz) := by unfold stepR; dsimp only; rw [if_pos c3]
      rw [hst] at hstp
      refine ww ?_
      obtain ⟨vs, ho, hit⟩ := hro
      have hvl := hit.1
      refine c_cons (s_lit (z := .slice none 0 0) (bs := 24) (e := 22) [_] (by kernel_rfl) rfl rfl rfl rfl (by simp [Value.oneCell']) rfl (by decide) fun b2 => ?_)
      refine c_cons (s_append (e := 22) (z := .slice none 0 0) (sz := 1) (bs := 24) (by kernel_rfl) rfl rfl rfl rfl ho (Chunk.tail Chunk.head) (SV.block .head (by simp [maxLen])) rfl (by decide) rfl (by simp [Value.oneCell']) (by simp; omega) (by simp; omega) fun u3 B3 ho3 => ?_)
      have hro3 : RO Gi u3 (rsO (os ++ [none])) B3 := by rw [hrsn]; exact ⟨vs ++ [.slice none 0 0], by rw [List.length_append]; exact ho3, hit.snoc (SV.nil _ _)⟩
      refine c_sub (Bm ++ (B3 ++ F)) sbx ?_
      refine ww ?_
      refine c_cons (s_lit (z := I64 0) (bs := 8) (e := 3) [_] (by kernel_rfl) rfl rfl rfl rfl (by simp [Value.oneCell']) rfl (by decide) fun b4 => ?_)
      refine c_cons (s_append (e := 3) (z := I64 0) (sz := 1) (bs := 8) (by kernel_rfl) rfl rfl rfl rfl him (Chunk.tail Chunk.head) (SV.block .head (by simp [maxLen])) rfl (by decide) rfl (by simp [Value.oneCell']) (by simp; omega) (by simp; omega) fun u5 B5 ho5 => ?_)
      have him5 : IO u5 (misO (os ++ [none])) B5 := by rw [hmsn]; unfold IO; rw [List.length_append, List.map_append]; exact ho5
      refine ww ?_
      exact n_next (x := (i, Gi, (uo, Bo), (um, Bm), (os, ms, sz))) (i + 1, Gi, (u3, B3), (u5, B5), (os ++ [none], ms, sz)) ⟨by dsimp only; omega, hGi, hro3, him5, hstp⟩ (by dsimp only; omega) ⟨rfl, rfl, rfl, rfl, rfl, rfl, rfl, rfl, trivial⟩ rfl sbx
    have hb0' : ¬ b = [] := fun h => c2 (by rw [h]; rfl)
    have hst : stepR c l num but n (some (os, ms, sz)) i b = if okR c l num n sz i b then some (os ++ [some (readB b)], ms, (readH b).z) else none := by unfold stepR; dsimp only; rw [if_neg c3, if_neg hb0']
    rw [hst] at hstp
    have bad : ¬ okR c l num n sz i b → rowsR c l num but n frs = none := fun h => by
      rw [if_neg h] at hstp
      have := rowsR_none c l num but n _ (frs.drop (i + 1)) hstp
      rw [List.take_append_drop] at this
      exact this
    refine ww ?_
    refine c_cons (s_val (v_index1 rfl rfl (by kernel_rfl) (by omega)) rfl rfl rfl ?_)
    refine c_cons (s_val (v_load rfl (hcel _) (by kernel_rfl)) rfl rfl rfl ?_)
    refine c_cons (s_call (xs := [_]) rfl rfl rfl rfl rfl rfl (by kernel_rfl) (fun w hs => rread_c _ b hbl _ w _ _ hub hs) ?_)
    rintro e w' ⟨G2, u, rfl, hG2, hu, hs'⟩; refine a_ret ?_ hs'; clear hs'
    obtain ⟨h, hh⟩ : ∃ h, h = readH b := ⟨_, rfl⟩
    obtain ⟨ec, hec⟩ : ∃ ec, ec = readE b := ⟨_, rfl⟩
    have hokR : okR c l num n sz i b ↔ ec = 0 ∧ (h.c = c ∧ h.l = l ∧ h.n = num) ∧ h.i = i ∧ h.s = n ∧ (sz < 0 ∨ h.z = sz) := by unfold okR; rw [← hh, ← hec]
    rw [← hh] at hstp ⊢
    rw [← hec]
    have hGi2 := hGi.trans hG2
    refine ww ?_
    refine c_cons (s_allocA [I64 0, I64 0, I64 0, I64 0, I64 0, I64 0] (by kernel_rfl) rfl rfl fun b3 => ?_)
    refine c_cons (s_storeA (vs := [I64 h.c, I64 h.l, I64 h.n, I64 h.i, I64 h.s, I64 h.z]) rfl rfl rfl .head (by kernel_rfl) (by simp [Value.oneCell']) rfl ?_)
    refine c_freeze .head fun G3 hG3 k3 => ?_
    have hGi3 := hGi2.trans hG3
    have kS3 := hGi3 _ _ kS
    replace hro := hro.up (hG2.trans hG3)
    replace hu := hu.mono (H' := []) hG3 (fun p hp => hp)
    refine ww ?_
    refine c_part_d 53 _ rfl (fun c4 => ?_) (fun c4 => ?_)
    · -- t53 = True
      refine ww ?_
      refine c_cond_t rfl ?_
      refine ww ?_
      exact f_ret4 rfl rfl rfl rfl rfl (fun w hs => ⟨G3, hG1.trans hGi3, .inl ⟨bad (fun hm => c4 (hokR.1 hm).1), rfl, hs.sb⟩⟩)
    refine ww ?_
    refine c_cons (s_val (v_field 0 rfl (by kernel_rfl)) rfl rfl rfl ?_)
    refine c_cons (s_val (v_loadAgg (vs := [I64 h.c, I64 h.l, I64 h.n]) rfl (by kernel_rfl) (by kernel_rfl) rfl (fun j u hj => (Cel.imm k3 (by rw [Nat.zero_add]; exact head36 hj)))) rfl rfl rfl ?_)
    refine c_cons (s_val (v_loadAgg (vs := [I64 c, I64 l, I64 num]) rfl (by kernel_rfl) (by kernel_rfl) rfl (fun j u hj => (Cel.allI kS3 hj))) rfl rfl rfl ?_)
    refine c_cons (s_val (v_is (v_ne3 rfl rfl (by kernel_rfl)) (show _ = Value.bool (!decide (h.c = c ∧ h.l = l ∧ h.n = num)) by simp [Bool.and_assoc])) rfl rfl rfl ?_)
    refine ww ?_
    refine c_part_nd 59 _ rfl (fun c5 => ?_) (fun c5 => ?_)
    · -- t59 = True
      refine ww ?_
      refine c_cond_t rfl ?_
      refine ww ?_
      exact f_ret4 rfl rfl rfl rfl rfl (fun w hs => ⟨G3, hG1.trans hGi3, .inl ⟨bad (fun hm => c5 (hokR.1 hm).2.1), rfl, hs.sb⟩⟩)
    refine ww ?_
    refine c_cons (s_val (v_field 3 rfl (by kernel_rfl)) rfl rfl rfl ?_)
    refine c_cons (s_val (v_load rfl (Cel.imm k3 rfl) (by kernel_rfl)) rfl rfl rfl ?_)
    refine ww ?_
    refine c_part_d 65 _ rfl (fun c6 => ?_) (fun c6 => ?_)
    · -- t65 = True
      refine ww ?_
      refine c_cond_t rfl ?_
      refine ww ?_
      exact f_ret4 rfl rfl rfl rfl rfl (fun w hs => ⟨G3, hG1.trans hGi3, .inl ⟨bad (fun hm => c6 (hokR.1 hm).2.2.1), rfl, hs.sb⟩⟩)
    refine ww ?_
    refine c_cons (s_val (v_field 4 rfl (by kernel_rfl)) rfl rfl rfl ?_)
    refine c_cons (s_val (v_load rfl (Cel.imm k3 rfl) (by kernel_rfl)) rfl rfl rfl ?_)
    refine ww ?_
    refine c_part_d 71 _ rfl (fun c7 => ?_) (fun c7 => ?_)
    · -- t71 = True
      refine ww ?_
      refine c_cond_t rfl ?_
      refine ww ?_
      exact f_ret4 rfl rfl rfl rfl rfl (fun w hs => ⟨G3, hG1.trans hGi3, .inl ⟨bad (fun hm => c7 (hokR.1 hm).2.2.2.1), rfl, hs.sb⟩⟩)
    have hok0 : (sz < 0 ∨ h.z = sz) → rowsR c l num but n (frs.take (i + 1)) = some (os ++ [some (readB b)], ms, h.z) := fun hz => by
      rw [hstp, if_pos (hokR.2 ⟨by omega, c5, by omega, by omega, hz⟩)]
    refine ww ?_
    refine c_part_d 74 _ rfl (fun c8 => ?_) (fun c8 => ?_)
    · -- t74 = True
      refine ww ?_
      refine c_cons (s_val (v_field 5 rfl (by kernel_rfl)) rfl rfl rfl ?_)
      refine c_cons (s_val (v_load rfl (Cel.imm k3 rfl) (by kernel_rfl)) rfl rfl rfl ?_)
      refine ww ?_
      refine c_cond_d rfl (fun c9 => ?_) (fun c9 => ?_)
      · -- then
        refine ww ?_
        exact f_ret4 rfl rfl rfl rfl rfl (fun w hs => ⟨G3, hG1.trans hGi3, .inl ⟨bad (fun hm => by have := (hokR.1 hm).2.2.2.2; omega), rfl, hs.sb⟩⟩)
      have hok := hok0 (.inr (by omega))
      refine ww ?_
      refine c_cons (s_val (v_field 5 rfl (by kernel_rfl)) rfl rfl rfl ?_)
      refine c_cons (s_val (v_load rfl (Cel.imm k3 rfl) (by kernel_rfl)) rfl rfl rfl ?_)
      refine ww ?_
      obtain ⟨vs, ho, hit⟩ := hro
      have hvl := hit.1
      refine c_cons (s_lit (z := .slice none 0 0) (bs := 24) (e := 22) [_] (by kernel_rfl) rfl rfl rfl rfl (by simpa using hu.one) rfl (by decide) fun b2 => ?_)
      refine c_cons (s_append (e := 22) (z := .slice none 0 0) (sz := 1) (bs := 24) (by kernel_rfl) rfl rfl rfl rfl ho (Chunk.tail Chunk.head) (SV.block .head (by simp [maxLen])) rfl (by decide) rfl (by simpa using hu.one) (by simp; omega) (by simp; omega) fun u8 B8 ho8 => ?_)
      have hro8 : RO G3 u8 (rsO (os ++ [some (readB b)])) B8 := by rw [rsO_snoc]; exact ⟨vs ++ [u], by rw [List.length_append]; exact ho8, hit.snoc hu⟩
      have him8 : IO um (misO (os ++ [some (readB b)])) Bm := by rw [misO_snoc, if_neg (by simp), List.append_nil]; exact him
      refine ww ?_
      exact n_next (x := (i, Gi, (uo, Bo), (um, Bm), (os, ms, sz))) (i + 1, G3, (u8, B8), (um, Bm), (os ++ [some (readB b)], ms, h.z)) ⟨by dsimp only; omega, hGi3, hro8, him8, hok⟩ (by dsimp only; omega) ⟨rfl, rfl, rfl, rfl, rfl, rfl, rfl, rfl, trivial⟩ rfl sbx
    have hok := hok0 (.inl (by omega))
    refine ww ?_
    refine c_cond_f rfl ?_
    refine ww ?_
    refine c_cons (s_val (v_field 5 rfl (by kernel_rfl)) rfl rfl rfl ?_)
    refine c_cons (s_val (v_load rfl (Cel.imm k3 rfl) (by kernel_rfl)) rfl rfl rfl ?_)
    refine ww ?_
    obtain ⟨vs, ho, hit⟩ := hro
    have hvl := hit.1
    refine c_cons (s_lit (z := .slice none 0 0) (bs := 24) (e := 22) [_] (by kernel_rfl) rfl rfl rfl rfl (by simpa using hu.one) rfl (by decide) fun b2 => ?_)
    refine c_cons (s_append (e := 22) (z := .slice none 0 0) (sz := 1) (bs := 24) (by kernel_rfl) rfl rfl rfl rfl ho (Chunk.tail Chunk.head) (SV.block .head (by simp [maxLen])) rfl (by decide) rfl (by simpa using hu.one) (by simp; omega) (by simp; omega) fun u8 B8 ho8 => ?_)
    have hro8 : RO G3 u8 (rsO (os ++ [some (readB b)])) B8 := by rw [rsO_snoc]; exact ⟨vs ++ [u], by rw [List.length_append]; exact ho8, hit.snoc hu⟩
    have him8 : IO um (misO (os ++ [some (readB b)])) Bm := by rw [misO_snoc, if_neg (by simp), List.append_nil]; exact him
    refine ww ?_
    exact n_next (x := (i, Gi, (uo, Bo), (um, Bm), (os, ms, sz))) (i + 1, G3, (u8, B8), (um, Bm), (os ++ [some (readB b)], ms, h.z)) ⟨by dsimp only; omega, hGi3, hro8, him8, hok⟩ (by dsimp only; omega) ⟨rfl, rfl, rfl, rfl, rfl, rfl, rfl, rfl, trivial⟩ rfl sbx
  have hin : i = frs.length := by omega
  rw [hin, List.take_length] at hrr
  refine ww ?_
  exact f_ret4 rfl rfl rfl rfl rfl (fun w hs => ⟨Gi, hG1.trans hGi, .inr ⟨(os, ms, sz), uo, Bo, um, Bm, hrr, rfl, hro, him, hs⟩⟩)

theorem whole_c (c l num n but : Int) (vf : Value) (frs : List (List UInt8)) (hml : ∀ b, b ∈ frs → b.length ≤ 100000) (w0 w : World) (G : Im) (F : Hp) (hv : RowsV G vf frs) (hs : Sat w0 w G F) :
    Calls Try.prog 51 #[.agg #[I64 c, I64 l, I64 num], vf, I64 n, I64 but] w fun e w' => ∃ G' u, e = .returned (.tuple #[u, I64 (wholeS c l num frs n but).2.1, I64 (wholeS c l num frs n but).2.2]) ∧ Im.le G G' ∧ SV G' [] u (wholeS c l num frs n but).1.length ((wholeS c l num frs n but).1.map B8) ∧ Sat w0 w' G' F := by
  obtain ⟨adf, cpf, rfl⟩ := hv.len
  have badn : ¬ ((3 ≤ n ∧ n ≤ 16) ∧ (frs.length : Int) = n) → wholeS c l num frs n but = ([], 0, 1) := fun h => by unfold wholeS; rw [if_neg h]
  refine f_enter (vs := [_, _, _, _]) Try.func51 rfl Try.ntmps51 (by simp) hs ?_
  refine ww ?_
  refine c_cons (s_boxA [I64 c, I64 l, I64 num] rfl rfl rfl fun b1 => ?_)
  refine c_freeze .head fun G1 hG1 kS => ?_
  refine ww ?_
  refine c_cons (s_call (xs := [_]) rfl rfl rfl rfl rfl rfl (by kernel_rfl) (fun w hs => mayN_c n _ w _ _ hs) ?_)
  rintro e w' ⟨rfl, hs'⟩; refine a_ret ?_ hs'; clear hs'
  refine ww ?_
  refine c_part_nd 23 _ rfl (fun c1 => ?_) (fun c1 => ?_)
  · -- t23 = True
    rw [badn (fun h => c1 h.1)]
    refine ww ?_
    refine c_cond_t rfl ?_
    refine ww ?_
    exact f_ret3 rfl rfl rfl rfl (fun w hs => ⟨G1, _, rfl, hG1, SV.nil _ _, hs⟩)
  refine ww ?_
  refine c_cond_d rfl (fun c2 => ?_) (fun c2 => ?_)
  · -- then
    rw [badn (fun h => c2 h.2)]
    refine ww ?_
    exact f_ret3 rfl rfl rfl rfl (fun w hs => ⟨G1, _, rfl, hG1, SV.nil _ _, hs⟩)
  have c2' : (frs.length : Int) = n := by omega
  refine ww ?_
  refine c_cons (s_val (v_loadAgg (vs := [I64 c, I64 l, I64 num]) rfl (by kernel_rfl) (by kernel_rfl) rfl (fun j u hj => (Cel.allI kS hj))) rfl rfl rfl ?_)
  refine ww ?_
  refine c_cons (s_call (xs := [_, _, _, _]) rfl rfl rfl rfl rfl rfl (by kernel_rfl) (fun w hs => rreadA_c c l num n but c1 _ frs c2' hml _ w _ _ (hv.mono hG1) hs) ?_)
  rintro e w' ⟨G2, hG2, ⟨hr, rfl, hs'⟩ | ⟨st, uo, Bo, um, Bm, hr, rfl, hro, him, hs'⟩⟩
  · have ej : wholeS c l num frs n but = ([], 0, 4) := by unfold wholeS; rw [if_pos ⟨c1, c2'⟩, hr]
    rw [ej]
    refine a_ret ?_ hs'; clear hs'
    refine ww ?_
    refine c_cond_t rfl ?_
    refine ww ?_
    exact f_ret3 rfl rfl rfl rfl (fun w hs => ⟨G2, _, rfl, hG1.trans hG2, SV.nil _ _, hs⟩)
  refine a_ret ?_ hs'; clear hs'
  have ej : wholeS c l num frs n but = if 1 < (misO st.1).length then ([], 0, 15) else if misO st.1 = [] ∧ ¬ (∀ c ∈ pxor (rsO st.1), c = 0) then ([], 0, 4) else (flatK (rowK st.1 st.2.2 n) (n - 1).toNat, st.2.2, 0) := by unfold wholeS; rw [if_pos ⟨c1, c2'⟩, hr]
  have hin := rowsR_in c l num but n frs st hr
  have hone := rows_one c1 c2' hr
  obtain ⟨os, ms, sz⟩ := st
  dsimp only at ej hin hone hro him ⊢
  refine hro.freeze Chunk.head fun G3 hG3 hr3 => ?_
  refine c_freezeO him Chunk.head fun G4 hG4 hm4 => ?_
  replace hr3 := hr3.mono hG4
  have hGa := hG1.trans (hG2.trans (hG3.trans hG4))
  have hol : os.length = frs.length := hin.1
  obtain ⟨ad3, cp3, rfl⟩ := hr3.len
  obtain ⟨ad4, cp4, rfl⟩ := hm4.form
  have hmisl : (misO os).length ≤ 16 := by rw [misO_len]; have := List.countP_le_length (p := fun o => Option.isNone o) (l := os); omega
  refine ww ?_
  refine c_cond_f rfl ?_
  refine ww ?_
  refine c_cond_d rfl (fun c4 => ?_) (fun c4 => ?_)
  · -- then
    rw [ej, if_pos (by omega)]
    refine ww ?_
    exact f_ret3 rfl rfl rfl rfl (fun w hs => ⟨G4, _, rfl, hGa, SV.nil _ _, hs⟩)
  rw [if_neg (by omega)] at ej
  obtain ⟨o1, o2, o3, o4⟩ := hone (by omega)
  have hei := each_in c1 o1
  have hrk : ∀ i : Nat, i < os.length → ((rowK os sz n i).length : Int) = longS i sz n := fun i hi => by
    obtain ⟨o, ho⟩ : ∃ o, os[i]? = some o := ⟨_, List.getElem?_eq_getElem hi⟩
    cases o with
    | some r => rw [rowK_some ho]; exact o3 i r ho
    | none => exact (rowK_none c1 o1 (by omega) i ho o3 (o4 i ho)).2.2
  have hmx : mxl (rsO os) ≤ 100000 := mxl_le.2 fun r hr => by
    obtain ⟨j, hj⟩ := List.mem_iff_getElem?.1 hr
    rw [rsO_at] at hj
    cases ho : os[j]? with
    | none => rw [ho] at hj; cases hj
    | some o =>
      rw [ho] at hj
      cases o with
      | none => cases hj; simp
      | some q =>
        cases hj
        have h1 := o3 j _ ho
        have h2 := (long_in (i := j) c1 o1).2
        simp only [Option.getD_some]
        omega
  have hrsl : (rsO os).length = os.length := rsO_len os
  refine wn ?_
  refine c_cut (α := Im) (fun x => [(2, I64 n), (11, .slice ad3 (rsO os).length cp3), (12, .slice ad4 (misO os).length cp4), (13, I64 sz)]) (fun x => x) (fun x => F) (fun x => Im.le G4 x ∧ wholeS c l num frs n but = (flatK (rowK os sz n) (n - 1).toNat, sz, 0)) ?_ ?_
  · -- do they hold?
    refine ww ?_
    refine c_part_d 48 _ rfl (fun c5 => ?_) (fun c5 => ?_)
    · -- t48 = True
      have hm0 : misO os = [] := List.eq_nil_of_length_eq_zero (by omega)
      refine ww ?_
      refine c_cons (s_call (xs := [_]) rfl rfl rfl rfl rfl rfl (by kernel_rfl) (fun w hs => rholds_c _ (rsO os) _ w _ _ hr3 (by omega) hs) ?_)
      rintro e w' ⟨G5, rfl, hG5, hs'⟩; refine a_ret ?_ hs'; clear hs'
      refine ww ?_
      refine c_cond_nd rfl (fun c6 => ?_) (fun c6 => ?_)
      · -- then
        rw [ej, if_pos ⟨hm0, c6⟩]
        refine ww ?_
        exact f_ret3 rfl rfl rfl rfl (fun w hs => ⟨G5, _, rfl, hGa.trans hG5, SV.nil _ _, hs⟩)
      rw [if_neg (fun h => h.2 c6)] at ej
      refine ww ?_
      exact n_mid G5 ⟨hG5, ej⟩ ⟨rfl, rfl, rfl, rfl, trivial⟩ rfl sbx
    rw [if_neg (fun h => c5 (by rw [h.1]; rfl))] at ej
    refine ww ?_
    refine c_cond_f rfl ?_
    refine ww ?_
    exact n_mid G4 ⟨Im.le_refl _, ej⟩ ⟨rfl, rfl, rfl, rfl, trivial⟩ rfl sbx
  rintro G5 ⟨hG5, ej5⟩
  clear ej
  rw [ej5]
  dsimp only
  replace hr3 := hr3.mono hG5
  replace hm4 := hm4.mono (H' := []) hG5 (fun p hp => hp)
  refine ww ?_
  refine c_loop (α := Nat × Im × Value × Hp) (fun x => [(2, I64 n), (11, .slice ad3 (rsO os).length cp3), (12, .slice ad4 (misO os).length cp4), (13, I64 sz), (15, x.2.2.1), (16, I64 x.1)]) (fun x => x.2.1) (fun x => x.2.2.2 ++ F) (fun x => (x.1 : Int) ≤ n - 1 ∧ Im.le G5 x.2.1 ∧ OB x.2.2.1 (flatK (rowK os sz n) x.1) x.2.2.2 ∧ (flatK (rowK os sz n) x.1).length ≤ x.1 * 100000) (fun x => (n - 1).toNat - x.1) (0, G5, .slice none 0 0, []) ⟨by dsimp only; omega, Im.le_refl _, Own.zero none _ _, by simp [flatK]⟩ ?_ ?_
  · exact n_at ⟨rfl, rfl, rfl, rfl, rfl, rfl, trivial⟩ sbx
  rintro ⟨i, Gi, v, B⟩ ⟨hi, hGi, hob, hbl⟩
  dsimp only at hi hGi hob hbl ⊢
  replace hr3 := hr3.mono hGi
  replace hm4 := hm4.mono (H' := []) hGi (fun p hp => hp)
  refine ww ?_
  refine c_cond_d rfl (fun c7 => ?_) (fun c7 => ?_)
  · -- then
    have hio : i < os.length := by omega
    have hrki := hrk i hio
    have hli := long_in (i := i) c1 o1
    obtain ⟨r, hr0⟩ : ∃ r, (rsO os)[i]? = some r := ⟨_, List.getElem?_eq_getElem (by omega)⟩
    obtain ⟨bf, of', cf, ub, e1, hcel, hub⟩ := hr3.row hr0
    cases e1
    replace hcel := fun H => hcel Gi H (Im.le_refl _)
    refine ww ?_
    refine c_cons (s_val (v_index1 rfl rfl (by kernel_rfl) (by omega)) rfl rfl rfl ?_)
    refine c_cons (s_val (v_load rfl (hcel _) (by kernel_rfl)) rfl rfl rfl ?_)
    refine wn ?_
    refine c_cut (α := Im × Value) (fun x => [(2, I64 n), (11, .slice (some ⟨bf, of', none⟩) (rsO os).length cp3), (12, .slice ad4 (misO os).length cp4), (13, I64 sz), (15, v), (16, I64 i), (17, x.2)]) (fun x => x.1) (fun x => B ++ F) (fun x => Im.le Gi x.1 ∧ SV x.1 [] x.2 (rowK os sz n i).length ((rowK os sz n i).map B8)) ?_ ?_
    · -- the row, or out of the others
      have there : os[i]? ≠ some none → rowK os sz n i = r := fun h => by
        obtain ⟨o, ho⟩ : ∃ o, os[i]? = some o := ⟨_, List.getElem?_eq_getElem hio⟩
        rw [rsO_at, ho] at hr0
        cases o with
        | none => exact absurd ho h
        | some q => cases hr0; exact rowK_some ho
      refine ww ?_
      refine c_part_d 66 _ rfl (fun c8 => ?_) (fun c8 => ?_)
      · -- t66 = True
        obtain ⟨i0, hi0⟩ := List.length_eq_one_iff.1 (show (misO os).length = 1 by omega)
        have hme := misO_mem os i
        rw [hi0] at hme hm4
        have hml4 : (misO os).length = 1 := by rw [hi0]; rfl
        rw [hml4]
        obtain ⟨_, _, e4, hq1, hq2, hq3⟩ := hm4
        cases e4
        rcases hq3 with ⟨h0, _⟩ | ⟨bm, om, rfl, hcm⟩
        · simp at h0
        have hc0 : ∀ H : Hp, Cel Gi H bm (om + (0 : Int).toNat) (I64 i0) := fun H => (hcm 0 _ rfl).mono (Im.le_refl _) (by simp)
        refine ww ?_
        refine c_cons (s_val (v_index1 rfl rfl (by kernel_rfl) (by decide)) rfl rfl rfl ?_)
        refine c_cons (s_val (v_load rfl (hc0 _) (by kernel_rfl)) rfl rfl rfl ?_)
        refine ww ?_
        refine c_cond_d rfl (fun c9 => ?_) (fun c9 => ?_)
        · -- then
          have hnone : os[i]? = some none := hme.1 (by rw [show i0 = i by omega]; simp)
          obtain ⟨f1, f2, f3⟩ := rowK_none c1 o1 (by omega) i hnone o3 (o4 i hnone)
          have hp : pxor (rsO os) = pxor (oth (rsO os) i) := pxor_hole (by rw [rsO_at, hnone]; rfl)
          rw [← hp] at f2
          have hpm : (pxor (rsO os)).length ≤ 100000 := by rw [pxor_length]; exact hmx
          have hple : (longS i sz n).toNat ≤ (pxor (rsO os)).length := by
            have h1 : (rowK os sz n i).length ≤ (pxor (rsO os)).length := by rw [f2, List.length_take]; omega
            omega
          refine ww ?_
          refine c_cons (s_val (v_build (ps := [_, _, _]) #[I64 0, I64 0, I64 0, I64 i, I64 n, I64 sz] rfl (by kernel_rfl)) rfl rfl rfl ?_)
          refine c_cons (s_call (xs := [_]) rfl rfl rfl rfl rfl rfl (by kernel_rfl) (fun w hs => rlong_c ⟨0, 0, 0, i, n, sz⟩ (by dsimp only; omega) (by dsimp only; omega) c1 _ w _ _ hs) ?_)
          rintro e w' ⟨rfl, hs'⟩; refine a_ret ?_ hs'; clear hs'
          dsimp only
          obtain ⟨q, hq⟩ : ∃ q : Nat, (q : Int) = longS i sz n := ⟨(longS i sz n).toNat, by omega⟩
          rw [← hq] at hrki hli f2 f3 hple ⊢
          rw [Int.toNat_natCast] at f2 hple
          refine ww ?_
          refine c_cons (s_call (xs := [_]) rfl rfl rfl rfl rfl rfl (by kernel_rfl) (fun w hs => rxor_c _ (rsO os) _ w _ _ hr3 (by omega) hs) ?_)
          rintro e w' ⟨ux, Bx, rfl, hux, hs'⟩; refine a_ret ?_ hs'; clear hs'
          refine c_freezeO hux Chunk.head fun G7 hG7 hsx => ?_
          obtain ⟨adx, cpx, rfl⟩ := hsx.form
          have hcx : (pxor (rsO os)).length ≤ cpx := by
            obtain ⟨_, _, e, h1, _⟩ := hsx
            cases e; exact h1
          refine ww ?_
          refine c_loop (α := Unit) (fun x => [(2, I64 n), (11, .slice (some ⟨bf, of', none⟩) (rsO os).length cp3), (12, .slice (some ⟨bm, om, none⟩) 1 cp4), (13, I64 sz), (15, v), (16, I64 i), (18, I64 q), (19, .slice adx (pxor (rsO os)).length cpx)]) (fun _ => G7) (fun x => B ++ F) (fun x => True) (fun x => 0) () trivial ?_ ?_
          · exact n_at ⟨rfl, rfl, rfl, rfl, rfl, rfl, rfl, rfl, trivial⟩ sbx
          rintro _ _
          refine ww ?_
          refine c_cond_d rfl (fun c10 => ?_) (fun c10 => ?_)
          · exfalso; omega
          refine ww ?_
          refine c_cons (s_val (v_slHi q rfl rfl (by kernel_rfl) (by omega)) rfl rfl rfl ?_)
          refine ww ?_
          refine n_mid (G7, _) ⟨hG7, ?_⟩ ⟨rfl, rfl, rfl, rfl, rfl, rfl, rfl, trivial⟩ rfl sbx
          have h := hsx.hi (h := q) 1 hple
          rw [Nat.mul_one] at h
          dsimp only
          rw [show (rowK os sz n i).length = q by omega, f2, List.map_take]
          exact h
        rw [there (fun h => c9 (by have := hme.2 h; simp at this; omega))]
        refine ww ?_
        exact n_mid (Gi, ub) ⟨Im.le_refl _, hub⟩ ⟨rfl, rfl, rfl, rfl, rfl, rfl, rfl, trivial⟩ rfl sbx
      rw [there (fun h => c8 (by have h1 := (misO_mem os i).2 h; have h2 := List.length_pos_of_mem h1; omega))]
      refine ww ?_
      refine c_cond_f rfl ?_
      refine ww ?_
      exact n_mid (Gi, ub) ⟨Im.le_refl _, hub⟩ ⟨rfl, rfl, rfl, rfl, rfl, rfl, rfl, trivial⟩ rfl sbx
    rintro ⟨G8, u8⟩ ⟨hG8, hu8⟩
    dsimp only at hG8 hu8 ⊢
    refine ww ?_
    refine c_cons (s_append (e := 5) (z := B8 0) (sz := 1) (bs := 1) (by kernel_rfl) rfl rfl rfl rfl hob Chunk.head (hu8.mono (Im.le_refl _) (by simp)) rfl (by decide) (by simp) (B8_one _) (by omega) (by omega) fun v2 B2 hown2 => ?_)
    rw [← List.map_append, ← List.length_append] at hown2
    refine ww ?_
    exact n_next (x := (i, Gi, v, B)) (i + 1, G8, v2, B2) ⟨by dsimp only; omega, hGi.trans hG8, hown2, by show (flatK (rowK os sz n) i ++ rowK os sz n i).length ≤ _; rw [List.length_append]; dsimp only; omega⟩ (by dsimp only; omega) ⟨rfl, rfl, rfl, rfl, rfl, rfl, trivial⟩ rfl sbx
  have hin2 : i = (n - 1).toNat := by omega
  rw [← hin2]
  refine c_freezeO hob Chunk.head fun G9 hG9 hs9 => ?_
  refine ww ?_
  exact f_ret3 rfl rfl rfl rfl (fun w hs => ⟨G9, v, rfl, hGa.trans (hG5.trans (hGi.trans hG9)), hs9, hs⟩)
end Go.Proofs.Ytldkldmjcacopaa
