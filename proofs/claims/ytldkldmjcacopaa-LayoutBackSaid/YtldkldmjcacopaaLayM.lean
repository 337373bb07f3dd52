/- Plain: rows that were read; one of them out of the others. The walks of package layout: Mend. -/
import Derived.Test.YtldkldmjcacopaaLayP
namespace Go.Proofs.Ytldkldmjcacopaa
open Go
set_option linter.unusedVariables false
set_option linter.unusedSimpArgs false
set_option maxHeartbeats 1600000
/-! ### Rows that were read -/
structure RGood (nt n : Int) (st : RSt) : Prop where
  long : ∀ (i : Nat) r, st.1[i]? = some (some r) → (r.length : Int) = longS i st.2.2 n ∧ 0 ≤ st.2.2 ∧ st.2.2 ≤ 400 * (n - 1)
  non : st.2.2 < 0 → ∀ o ∈ st.1, o = none
  cnt : (st.1.countP fun o => o.isNone) = st.2.1 + (if 0 ≤ nt ∧ nt < st.1.length then 1 else 0)
  nt : ∀ i : Nat, (i : Int) = nt → i < st.1.length → st.1[i]? = some none
theorem readE_zero {b : List UInt8} (h : readE b = 0) : hdMay (readH b) ∧ ((readB b).length : Int) = longS (readH b).i (readH b).z (readH b).s ∧ readB b = b.drop 12 := by
  have h1 : readH b = hdOf b := by unfold readH; rw [if_pos h]
  have h2 : readB b = b.drop 12 := by unfold readB; rw [if_pos h]
  unfold readE at h
  split at h
  · cases h
  · split at h
    · rename_i h3 h4
      split at h
      · rename_i h5
        rw [h1, h2]
        refine ⟨h4, ?_, rfl⟩
        rw [List.length_drop]; omega
      · cases h
    · cases h
theorem rows_good (c l num nt n : Int) (frs : List (List UInt8)) : ∀ st, rowsR c l num nt n frs = some st → RGood nt n st := by
  induction frs using snoc_ind with
  | h0 => intro st h; cases h; exact ⟨fun i r h => by simp at h, fun _ o h => by simp at h, by simp, fun i _ h => by simp at h⟩
  | h1 frs b ih =>
    intro st h
    rw [rowsR_snoc] at h
    cases hr : rowsR c l num nt n frs with
    | none => rw [hr] at h; cases h
    | some s =>
      rw [hr] at h
      have g := ih s hr
      obtain ⟨hl, _⟩ := rowsR_in c l num nt n frs s hr
      obtain ⟨os, ms, sz⟩ := s
      dsimp only at hl
      have gl := g.long
      have gn := g.non
      have gc := g.cnt
      have gt := g.nt
      dsimp only at gl gn gc gt
      have put : ∀ (o : Option (List UInt8)) (i : Nat) x, (os ++ [o])[i]? = some x → os[i]? = some x ∨ (i = os.length ∧ o = x) := fun o i x hx => by
        by_cases hi : i < os.length
        · rw [List.getElem?_append_left hi] at hx; exact .inl hx
        · have hil := (List.getElem?_eq_some_iff.1 hx).1
          have e : i = os.length := by simp at hil; omega
          subst e
          rw [List.getElem?_append_right (Nat.le_refl _), Nat.sub_self] at hx
          cases hx; exact .inr ⟨rfl, rfl⟩
      unfold stepR at h
      dsimp only at h
      by_cases c1 : (frs.length : Int) = nt
      · rw [if_pos c1] at h
        cases h
        refine ⟨fun i r hi => ?_, fun hz o ho => ?_, ?_, fun i hi hlt => ?_⟩
        · rcases put none i _ hi with h | ⟨_, h⟩
          · exact gl i r h
          · cases h
        · rcases List.mem_append.1 ho with h | h
          · exact gn hz o h
          · exact List.mem_singleton.1 h
        · dsimp only
          rw [List.countP_append]
          simp only [List.length_append, List.length_singleton, List.countP_singleton, Option.isNone_none, if_true]
          rw [if_neg (by omega)] at gc
          rw [if_pos (by omega)]
          omega
        · have e : i = os.length := by omega
          subst e
          simp
      rw [if_neg c1] at h
      by_cases c2 : b = []
      · rw [if_pos c2] at h
        cases h
        refine ⟨fun i r hi => ?_, fun hz o ho => ?_, ?_, fun i hi hlt => ?_⟩
        · rcases put none i _ hi with h | ⟨_, h⟩
          · exact gl i r h
          · cases h
        · rcases List.mem_append.1 ho with h | h
          · exact gn hz o h
          · exact List.mem_singleton.1 h
        · dsimp only
          rw [List.countP_append]
          simp only [List.length_append, List.length_singleton, List.countP_singleton, Option.isNone_none, if_true]
          by_cases c3 : 0 ≤ nt ∧ nt < os.length
          · rw [if_pos c3] at gc; rw [if_pos (by omega)]; omega
          · rw [if_neg c3] at gc; rw [if_neg (by omega)]; omega
        · dsimp only at hlt ⊢
          rw [List.length_append, List.length_singleton] at hlt
          rw [List.getElem?_append_left (by omega)]
          exact gt i hi (by omega)
      rw [if_neg c2] at h
      by_cases c3 : okR c l num n sz frs.length b
      · rw [if_pos c3] at h
        cases h
        obtain ⟨o1, o2, o3, o4, o5⟩ := c3
        obtain ⟨m1, m2, m3⟩ := readE_zero o1
        have hz := m1.2.2.2
        rw [o4] at hz
        rw [o3, o4] at m2
        have hsz : ∀ (i : Nat) r, os[i]? = some (some r) → sz = (readH b).z := fun i r hi => by
          rcases o5 with h | h
          · have := gn h _ (List.mem_of_getElem? hi); cases this
          · exact h.symm
        refine ⟨fun i r hi => ?_, fun hz' o ho => ?_, ?_, fun i hi hlt => ?_⟩
        · rcases put _ i _ hi with h | ⟨h1, h2⟩
          · rw [← hsz i r h]; exact gl i r h
          · cases h2
            subst h1
            dsimp only
            rw [hl]
            exact ⟨m2, hz⟩
        · exact absurd hz.1 (by dsimp only at hz'; omega)
        · dsimp only
          rw [List.countP_append]
          simp only [List.length_append, List.length_singleton, List.countP_singleton, Option.isNone_some, Bool.false_eq_true, if_false, Nat.add_zero]
          by_cases c4 : 0 ≤ nt ∧ nt < os.length
          · rw [if_pos c4] at gc; rw [if_pos (by omega)]; omega
          · rw [if_neg c4] at gc; rw [if_neg (by omega)]; omega
        · dsimp only at hlt ⊢
          rw [List.length_append, List.length_singleton] at hlt
          rw [List.getElem?_append_left (by omega)]
          exact gt i hi (by omega)
      · rw [if_neg c3] at h; cases h
/-- One that is there says whose it is. -/
theorem rows_mst (c l num nt n : Int) (frs : List (List UInt8)) : ∀ st, rowsR c l num nt n frs = some st → (∃ r, some r ∈ st.1) → mst c l num := by
  induction frs using snoc_ind with
  | h0 => intro st h ⟨r, hr⟩; cases h; simp at hr
  | h1 frs b ih =>
    intro st h hex
    rw [rowsR_snoc] at h
    cases hr : rowsR c l num nt n frs with
    | none => rw [hr] at h; cases h
    | some s =>
      rw [hr] at h
      obtain ⟨os, ms, sz⟩ := s
      have ih' := ih _ hr
      unfold stepR at h
      dsimp only at h ih'
      split at h
      · cases h
        obtain ⟨r, hm⟩ := hex
        rcases List.mem_append.1 hm with h | h
        · exact ih' ⟨r, h⟩
        · have := List.mem_singleton.1 h; cases this
      · split at h
        · cases h
          obtain ⟨r, hm⟩ := hex
          rcases List.mem_append.1 hm with h | h
          · exact ih' ⟨r, h⟩
          · have := List.mem_singleton.1 h; cases this
        · split at h
          · rename_i c3
            obtain ⟨o1, ⟨o2, o3, o4⟩, _⟩ := c3
            obtain ⟨m1, _⟩ := readE_zero o1
            have := m1.1
            rwa [o2, o3, o4] at this
          · cases h
theorem long_zero {sz n : Int} (hn : 3 ≤ n ∧ n ≤ 16) (hz : 0 ≤ sz) : longS 0 sz n = eachS sz n := by
  have h1 := each_in hn hz
  unfold longS
  rw [if_neg (by omega)]
  omega
theorem long_last (sz n : Int) : longS (n - 1) sz n = eachS sz n := by unfold longS; rw [if_pos rfl]
theorem long_in {i sz n : Int} (hn : 3 ≤ n ∧ n ≤ 16) (hz : 0 ≤ sz) : 0 ≤ longS i sz n ∧ longS i sz n ≤ eachS sz n := by
  have h1 := each_in hn hz
  unfold longS
  split
  · omega
  · omega
/-- All but one are there: that one. -/
theorem fillS_ok {os : List (Option (List UInt8))} {sz n : Int} (hn : 3 ≤ n ∧ n ≤ 16) (hz : 0 ≤ sz) (hl : (os.length : Int) = n) (i : Nat) (hi : i < os.length) (hlong : ∀ (j : Nat) r, os[j]? = some (some r) → (r.length : Int) = longS j sz n) (hall : ∀ j : Nat, j < os.length → j ≠ i → ∃ r, os[j]? = some (some r)) :
    fillS (rsO os) i sz n = some ((pxor (oth (rsO os) i)).take (longS i sz n).toNat) := by
  have hli := long_in (i := i) hn hz
  have hm : longS i sz n ≤ mxl (oth (rsO os) i) := by
    obtain ⟨j, hjl, hji, hje⟩ : ∃ j : Nat, j < os.length ∧ j ≠ i ∧ longS j sz n = eachS sz n := by
      by_cases h : i = 0
      · exact ⟨(n - 1).toNat, by omega, by omega, by rw [show (((n - 1).toNat : Nat) : Int) = n - 1 by omega]; exact long_last sz n⟩
      · exact ⟨0, by omega, by omega, long_zero hn hz⟩
    obtain ⟨r, hr⟩ := hall j hjl hji
    have h1 := hlong j r hr
    have hrs : (rsO os)[j]? = some r := by rw [rsO_at, hr]; rfl
    have h2 : r ∈ oth (rsO os) i := by
      rw [oth_at]
      refine List.mem_iff_getElem?.2 ?_
      by_cases hlt : j < i
      · exact ⟨j, by rw [List.getElem?_eraseIdx, if_pos hlt]; exact hrs⟩
      · exact ⟨j - 1, by rw [List.getElem?_eraseIdx, if_neg (by omega), show j - 1 + 1 = j by omega]; exact hrs⟩
    have h3 := le_mxl h2
    omega
  unfold fillS
  rw [if_pos ⟨by omega, by rw [rsO_len]; omega, hli.1, hm⟩]
def mendS (c l num : Int) (frs : List (List UInt8)) (ix n : Int) : List UInt8 × Int :=
  if ((3 ≤ n ∧ n ≤ 16) ∧ (frs.length : Int) = n) ∧ 0 ≤ ix ∧ ix < n then match rowsR c l num ix n frs with
    | none => ([], 4)
    | some st => if st.2.1 = 0 then (headB ⟨c, l, num, ix, n, st.2.2⟩ ++ (pxor (oth (rsO st.1) ix)).take (longS ix st.2.2 n).toNat, 0) else ([], 15)
  else ([], 1)
/-- None but that one is missing. -/
theorem rows_all {c l num n : Int} {frs : List (List UInt8)} {ix : Nat} {st : RSt} (hn : 3 ≤ n ∧ n ≤ 16) (hl : (frs.length : Int) = n) (hix : (ix : Int) < n) (hr : rowsR c l num ix n frs = some st) (h0 : st.2.1 = 0) :
    (∀ j : Nat, j < st.1.length → j ≠ ix → ∃ r, st.1[j]? = some (some r)) ∧ 0 ≤ st.2.2 ∧ st.2.2 ≤ 400 * (n - 1) ∧ mst c l num ∧ st.1[ix]? = some none := by
  have g := rows_good _ _ _ _ _ _ _ hr
  have hll := (rowsR_in _ _ _ _ _ _ _ hr).1
  have hc := g.cnt
  rw [if_pos ⟨by omega, by omega⟩] at hc
  have hnt := g.nt ix rfl (by omega)
  have h1 : ∀ j : Nat, j < st.1.length → j ≠ ix → ∃ r, st.1[j]? = some (some r) := fun j hj hne => by
    obtain ⟨o, ho⟩ : ∃ o, st.1[j]? = some o := ⟨_, List.getElem?_eq_getElem hj⟩
    cases o with
    | some r => exact ⟨r, ho⟩
    | none => exact absurd (one_none (by omega) ho hnt) hne
  obtain ⟨j, hj, hne⟩ : ∃ j : Nat, j < st.1.length ∧ j ≠ ix := by
    by_cases h : ix = 0
    · exact ⟨1, by omega, by omega⟩
    · exact ⟨0, by omega, by omega⟩
  obtain ⟨r, hr1⟩ := h1 j hj hne
  have h2 := g.long j r hr1
  exact ⟨h1, h2.2.1, h2.2.2, rows_mst _ _ _ _ _ _ _ hr ⟨r, List.mem_of_getElem? hr1⟩, hnt⟩
attribute [local irreducible] Code.wp wpList stepK Holds Val wpR Eff Eff0 Code.wpIn wpListIn stepI Exit.then Exit.inBlock bodyPost bodyPostM

theorem mended_c (c l num ix n : Int) (vf : Value) (frs : List (List UInt8)) (hml : ∀ b, b ∈ frs → b.length ≤ 100000) (w0 w : World) (G : Im) (F : Hp) (hv : RowsV G vf frs) (hs : Sat w0 w G F) :
    Calls Try.prog 53 #[.agg #[I64 c, I64 l, I64 num], vf, I64 ix, I64 n] w fun e w' => ∃ G', Im.le G G' ∧ Sat w0 w' G' F ∧ (((mendS c l num frs ix n).2 ≠ 0 ∧ e = .panicked (lgone (mendS c l num frs ix n).2)) ∨ ((mendS c l num frs ix n).2 = 0 ∧ ∃ u, e = .returned u ∧ SV G' [] u (mendS c l num frs ix n).1.length ((mendS c l num frs ix n).1.map B8))) := by
  obtain ⟨adf, cpf, rfl⟩ := hv.len
  have bad : ¬ (((3 ≤ n ∧ n ≤ 16) ∧ (frs.length : Int) = n) ∧ 0 ≤ ix ∧ ix < n) → mendS c l num frs ix n = ([], 1) := fun h => by unfold mendS; rw [if_neg h]
  refine f_enter (vs := [_, _, _, _]) Try.func53 rfl Try.ntmps53 (by simp) hs ?_
  refine ww ?_
  refine c_cons (s_boxA [I64 c, I64 l, I64 num] rfl rfl rfl fun b1 => ?_)
  refine c_freeze .head fun G1 hG1 kS => ?_
  refine ww ?_
  refine c_cons (s_call (xs := [_]) rfl rfl rfl rfl rfl rfl (by kernel_rfl) (fun w hs => lsrv_c n _ w _ _ hs) ?_)
  rintro e w' ⟨rfl, hs'⟩; refine a_ret ?_ hs'; clear hs'
  refine ww ?_
  refine c_part_d 14 _ rfl (fun c1 => ?_) (fun c1 => ?_)
  rotate_left
  · rw [bad (fun h => c1 h.1.1)]
    refine ww ?_
    refine c_cons (s_call (xs := [_, _]) rfl rfl rfl rfl rfl rfl (by kernel_rfl) (fun w hs => must_f 1 _ w _ _ hs) ?_)
    rintro e w' ⟨rfl, hs'⟩
    refine a_panic ?_ hs'; clear hs'
    repeat (first | refine x_then_panic ?_ | refine x_block_panic ?_)
    exact f_panic (fun w hs => ⟨G1, hG1, hs, .inl ⟨by decide, rfl⟩⟩)
  refine ww ?_
  refine c_part_d 20 _ rfl (fun c2 => ?_) (fun c2 => ?_)
  rotate_left
  · rw [bad (fun h => c2 h.1.2)]
    refine ww ?_
    refine c_cons (s_call (xs := [_, _]) rfl rfl rfl rfl rfl rfl (by kernel_rfl) (fun w hs => must_f 1 _ w _ _ hs) ?_)
    rintro e w' ⟨rfl, hs'⟩
    refine a_panic ?_ hs'; clear hs'
    repeat (first | refine x_then_panic ?_ | refine x_block_panic ?_)
    exact f_panic (fun w hs => ⟨G1, hG1, hs, .inl ⟨by decide, rfl⟩⟩)
  refine ww ?_
  refine c_part_d 24 _ rfl (fun c3 => ?_) (fun c3 => ?_)
  rotate_left
  · rw [bad (fun h => c3 (by omega))]
    refine ww ?_
    refine c_cons (s_call (xs := [_, _]) rfl rfl rfl rfl rfl rfl (by kernel_rfl) (fun w hs => must_f 1 _ w _ _ hs) ?_)
    rintro e w' ⟨rfl, hs'⟩
    refine a_panic ?_ hs'; clear hs'
    repeat (first | refine x_then_panic ?_ | refine x_block_panic ?_)
    exact f_panic (fun w hs => ⟨G1, hG1, hs, .inl ⟨by decide, rfl⟩⟩)
  refine ww ?_
  by_cases c4 : ix < n
  rotate_left
  · rw [bad (fun h => c4 (by omega)), decide_eq_false c4]
    refine c_cons (s_call (xs := [_, _]) rfl rfl rfl rfl rfl rfl (by kernel_rfl) (fun w hs => must_f 1 _ w _ _ hs) ?_)
    rintro e w' ⟨rfl, hs'⟩
    refine a_panic ?_ hs'; clear hs'
    repeat (first | refine x_then_panic ?_ | refine x_block_panic ?_)
    exact f_panic (fun w hs => ⟨G1, hG1, hs, .inl ⟨by decide, rfl⟩⟩)
  rw [decide_eq_true c4]
  refine c_cons (s_call (xs := [_, _]) rfl rfl rfl rfl rfl rfl (by kernel_rfl) (fun w hs => must_t 1 _ w _ _ hs) ?_)
  rintro e w' ⟨rfl, hs'⟩; refine a_ret ?_ hs'; clear hs'
  have hgood : ((3 ≤ n ∧ n ≤ 16) ∧ (frs.length : Int) = n) ∧ 0 ≤ ix ∧ ix < n := ⟨⟨c1, c2⟩, c3, c4⟩
  obtain ⟨ixn, rfl⟩ : ∃ ixn : Nat, ix = ixn := ⟨ix.toNat, by omega⟩
  refine ww ?_
  refine c_cons (s_val (v_loadAgg (vs := [I64 c, I64 l, I64 num]) rfl (by kernel_rfl) (by kernel_rfl) rfl (fun j u hj => (Cel.allI kS hj))) rfl rfl rfl ?_)
  refine ww ?_
  refine c_cons (s_call (xs := [_, _, _, _]) rfl rfl rfl rfl rfl rfl (by kernel_rfl) (fun w hs => rows_c c l num ixn n _ frs hml _ w _ _ (hv.mono hG1) hs) ?_)
  rintro e w' ⟨G2, hG2, ⟨hno, rfl, hs'⟩ | ⟨_, hr, rfl, hs'⟩ | ⟨_, st, bl, vs, hr, rfl, hit, hs'⟩⟩
  · exact absurd ⟨c1, c2⟩ hno
  · have ej : mendS c l num frs ixn n = ([], 4) := by unfold mendS; rw [if_pos hgood, hr]
    rw [ej]
    refine a_panic ?_ hs'; clear hs'
    repeat (first | refine x_then_panic ?_ | refine x_block_panic ?_)
    exact f_panic (fun w hs => ⟨G2, hG1.trans hG2, hs, .inl ⟨by decide, rfl⟩⟩)
  refine a_ret ?_ hs'; clear hs'
  have hin := rowsR_in c l num ixn n frs st hr
  have hg := rows_good c l num ixn n frs st hr
  have hall := rows_all (ix := ixn) hgood.1.1 hgood.1.2 c4 hr
  have ej : mendS c l num frs ixn n = if st.2.1 = 0 then (headB ⟨c, l, num, ixn, n, st.2.2⟩ ++ (pxor (oth (rsO st.1) ixn)).take (longS ixn st.2.2 n).toNat, 0) else ([], 15) := by unfold mendS; rw [if_pos hgood, hr]
  obtain ⟨os, ms, sz⟩ := st
  dsimp only at hin ej hit hall ⊢
  have hlg := hg.long
  dsimp only at hlg
  have hvl := hit.1
  have hvf : vs.length = frs.length := by omega
  refine ww ?_
  by_cases c5 : ms = 0
  rotate_left
  · rw [if_neg c5] at ej
    rw [ej, decide_eq_false c5]
    refine c_cons (s_call (xs := [_, _]) rfl rfl rfl rfl rfl rfl (by kernel_rfl) (fun w hs => must_f 15 _ w _ _ hs) ?_)
    rintro e w' ⟨rfl, hs'⟩
    refine a_panic ?_ hs'; clear hs'
    repeat (first | refine x_then_panic ?_ | refine x_block_panic ?_)
    exact f_panic (fun w hs => ⟨G2, hG1.trans hG2, hs.tl, .inl ⟨by decide, rfl⟩⟩)
  rw [if_pos c5] at ej
  rw [ej, decide_eq_true c5]
  obtain ⟨hal, hz1, hz2, hms, hnn⟩ := hall c5
  refine c_cons (s_call (xs := [_, _]) rfl rfl rfl rfl rfl rfl (by kernel_rfl) (fun w hs => must_t 15 _ w _ _ hs) ?_)
  rintro e w' ⟨rfl, hs'⟩; refine a_ret ?_ hs'; clear hs'
  have hfill := fillS_ok c1 hz1 (by omega) ixn (by omega) (fun j r h => (hlg j r h).1) hal
  have hli := long_in (i := ixn) c1 hz1
  have hei := (each_in c1 hz1).2
  have hmx : mxl (rsO os) ≤ 100000 := mxl_le.2 fun r hr => by
    obtain ⟨j, hj⟩ := List.mem_iff_getElem?.1 hr
    rw [rsO_at] at hj
    cases ho : os[j]? with
    | none => rw [ho] at hj; cases hj
    | some o =>
      rw [ho] at hj
      cases o with
      | none => cases hj; simp
      | some q =>
        cases hj
        have h1 := (hlg j _ ho).1
        have h2 := (long_in (i := j) c1 hz1).2
        simp only [Option.getD_some]
        omega
  rw [← hvf]
  refine ww ?_
  obtain ⟨q, hq⟩ : ∃ q, q = longS ixn sz n := ⟨_, rfl⟩
  rw [← hq] at hfill hli ⊢
  replace kS := hG2 _ _ kS
  refine r_startS [RwB bl vs] [] (by kernel_rfl) (fun w h => h.sb) ?_
  refine r_tk 0 rfl rfl (v_loadAgg (vs := [I64 c, I64 l, I64 num]) rfl (by kernel_rfl) (by kernel_rfl) rfl (fun j u hj => (Cel.allI kS hj))) (fun _ h => (h.sb)) ?_
  refine r_tk 1 rfl rfl (v_move rfl) (fun _ h => (h.sb)) ?_
  refine r_tk 2 rfl rfl (v_move rfl) (fun _ h => (h.sb)) ?_
  refine r_tk 3 rfl rfl (v_move rfl) (fun _ h => (h.sb)) ?_
  refine r_tk 4 rfl rfl (v_build (ps := [_, _, _, _]) #[I64 c, I64 l, I64 num, I64 ixn, I64 n, I64 sz] rfl (by kernel_rfl)) (fun _ h => (h.sb)) ?_
  refine r_tk 5 rfl rfl (v_move rfl) (fun _ h => (h.sb)) ?_
  refine r_tk 6 rfl rfl (v_move rfl) (fun _ h => (h.sb)) ?_
  refine r_tk 7 rfl rfl (v_move rfl) (fun _ h => (h.sb)) ?_
  refine r_tk 8 rfl rfl (v_move rfl) (fun _ h => (h.sb)) ?_
  refine r_one 9 (by kernel_rfl) rfl ?_
  refine s_call (xs := [_, _, _, _]) rfl rfl rfl rfl rfl rfl (by kernel_rfl) (fun w hs => filledO_c bl vs os ixn sz n (by omega) (by omega) c1 (by omega) (by omega) _ w _ _ hit hs) ?_
  rintro e w' ⟨G5, hG5, ⟨hno, rfl, hs'⟩ | ⟨b5, hyes, hle, rfl, hs'⟩⟩
  · rw [hno] at hfill; cases hfill
  rw [← hq] at hyes hle ⊢
  refine a_ret ?_ hs'; clear hs'
  have hpl : (pxor (oth (rsO os) ixn)).length ≤ 100000 := by rw [pxor_length]; have := oth_mxl (rsO os) ixn; omega
  refine c_freeze .head fun G6 hG6 k6 => ?_
  have hsv := sv_front k6 hle (by omega)
  obtain ⟨r, hr0⟩ : ∃ r, r = (pxor (oth (rsO os) ixn)).take q.toNat := ⟨_, rfl⟩
  rw [← hr0] at hsv ⊢
  have hrl : r.length ≤ 100000 := by rw [hr0, List.length_take]; omega
  obtain ⟨m1, m2, m3, m4, m5, m6⟩ := hms
  refine r_next (fun w h => ((h.weaken (hG5.trans hG6)).sb)) ?_
  refine r_one 10 (by kernel_rfl) rfl ?_
  refine s_call (xs := [_, _]) rfl rfl rfl rfl rfl rfl (by kernel_rfl) (fun w hs => laid_c ⟨c, l, num, ixn, n, sz⟩ ⟨by dsimp only; omega, by dsimp only; omega, by dsimp only; omega, by dsimp only; omega, by dsimp only; omega, by dsimp only; omega⟩ _ r hrl _ w _ _ hsv hs) ?_
  rintro e w' ⟨G7, u7, rfl, hG7, hu7, hs'⟩; refine a_ret ?_ hs'; clear hs'
  refine r_next (fun w h => ((h.weaken (hG5.trans (hG6.trans hG7))).sb)) ?_
  refine r_tk 11 rfl rfl (v_assign rfl) (fun _ h => ((h.weaken (hG5.trans (hG6.trans hG7))).sb)) ?_
  refine r_done (by kernel_rfl) ?_
  refine ww ?_
  exact f_ret1 rfl rfl (fun w hs => ⟨G7, hG1.trans (hG2.trans (hG5.trans (hG6.trans hG7))), hs.tl, .inr ⟨rfl, u7, rfl, hu7⟩⟩)

theorem catchM_n (eb ob : Nat) (w0 w : World) (G : Im) (F : Hp) (hs : Sat w0 w G F) :
    CallsD Try.prog 52 #[Pt eb 0, Pt ob 0] .returning w fun e u w' => (∃ r, e = .returned r) ∧ settle u = .returning ∧ Sat w0 w' G F := by
  refine q_enter (vs := [_, _]) Try.func52 rfl Try.ntmps52 (by simp) hs fun c₀ cs hm => ?_
  refine q_seq (q_regionL [0, 1] rfl ?_)
  refine q_rec_n rfl rfl rfl (by simp [recoverD, hm]) ?_
  refine q_call (xs := [_, _]) rfl rfl rfl rfl rfl rfl rfl (by kernel_rfl) (fun w hs => caught_n eb _ w _ _ hs) ?_
  rintro e w' ⟨rfl, hs'⟩
  refine ⟨_, rfl, Holds.atw ?_ hs'⟩
  clear hs'
  refine q_nil (q_then (q_plain ?_))
  refine c_cond_f rfl ?_
  refine ww ?_
  exact q_end (u' := c₀.mode) rfl rfl (fun w hs => ⟨⟨_, rfl⟩, by rw [hm]; rfl, hs⟩)

theorem catchM_s (eb ob : Nat) (c c0 : Int) (v : Value) (w0 w : World) (G : Im) (F : Hp) (hs : Sat w0 w G (ErO eb c0 :: ByO ob v :: F)) :
    CallsD Try.prog 52 #[Pt eb 0, Pt ob 0] (.panicking (lgone c)) w fun e u w' => (∃ r, e = .returned r) ∧ settle u = .returning ∧ Sat w0 w' G (ErO eb c :: ByO ob (.slice none 0 0) :: F) := by
  refine q_enter (vs := [_, _]) Try.func52 rfl Try.ntmps52 (by simp) hs fun c₀ cs hm => ?_
  refine q_seq (q_regionL [0, 1] rfl ?_)
  refine q_rec_s (v := .iface 94 (.agg #[I64 c])) (cs' := { c₀ with mode := .panicking (lrec c) } :: cs) rfl rfl rfl (by simp [recoverD, hm, lgone, lrec]) ?_
  refine q_call (xs := [_, _]) rfl rfl rfl rfl rfl rfl rfl (by kernel_rfl) (fun w hs => caught_s eb c c0 _ w _ _ hs) ?_
  rintro e w' ⟨rfl, hs'⟩
  refine ⟨_, rfl, Holds.atw ?_ hs'⟩
  clear hs'
  refine q_nil (q_then (q_plain ?_))
  refine c_cond_t rfl ?_
  refine ww ?_
  refine c_cons (s_store1 rfl rfl rfl (.tail .head) (by kernel_rfl) rfl (by simp) ?_)
  change Holds _ _ _ _ _ (ByO ob (.slice none 0 0) :: ErO eb c :: F) _
  refine ww ?_
  exact q_end (u' := .panicking (lrec c)) rfl rfl (fun w hs => ⟨⟨_, rfl⟩, rfl, hs.sb⟩)

theorem mendS_err (c l num ix n : Int) (frs : List (List UInt8)) (h : (mendS c l num frs ix n).2 ≠ 0) : (mendS c l num frs ix n).1 = [] := by
  unfold mendS at h ⊢
  by_cases h1 : ((3 ≤ n ∧ n ≤ 16) ∧ (frs.length : Int) = n) ∧ 0 ≤ ix ∧ ix < n
  · rw [if_pos h1] at h ⊢
    cases hr : rowsR c l num ix n frs with
    | none => rfl
    | some st =>
      rw [hr] at h
      dsimp only at h ⊢
      by_cases h2 : st.2.1 = 0
      · rw [if_pos h2] at h; exact absurd rfl h
      · rw [if_neg h2]
  · rw [if_neg h1]

theorem mend_c (c l num ix n : Int) (vf : Value) (frs : List (List UInt8)) (hml : ∀ b, b ∈ frs → b.length ≤ 100000) (w0 w : World) (G : Im) (F : Hp) (hv : RowsV G vf frs) (hs : Sat w0 w G F) :
    Calls Try.prog 30 #[.agg #[I64 c, I64 l, I64 num], vf, I64 ix, I64 n] w fun e w' => ∃ G' u, e = .returned (.tuple #[u, I64 (mendS c l num frs ix n).2]) ∧ Im.le G G' ∧ SV G' [] u (mendS c l num frs ix n).1.length ((mendS c l num frs ix n).1.map B8) ∧ Sat w0 w' G' F := by
  refine f_enterD (vs := [_, _, _, _]) Try.func30 rfl Try.ntmps30 (by simp) hs ?_
  refine ww ?_
  refine c_cons (s_boxA [I64 c, I64 l, I64 num] rfl rfl rfl fun b1 => ?_)
  refine c_cons (s_alloc (.slice none 0 0) (by kernel_rfl) rfl rfl fun b2 => ?_)
  refine c_cons (s_alloc (I64 0) (by kernel_rfl) rfl rfl fun b3 => ?_)
  change Holds _ _ _ _ _ (ErO b3 0 :: ByO b2 (.slice none 0 0) :: (b1, _) :: F) _
  refine c_freeze (.tail (.tail .head)) fun G1 hG1 kS => ?_
  refine ww ?_
  refine c_cons (s_defer rfl rfl rfl rfl ?_)
  refine ww ?_
  refine c_cons (s_val (v_loadAgg (vs := [I64 c, I64 l, I64 num]) rfl (by kernel_rfl) (by kernel_rfl) rfl (fun j u hj => (Cel.allI kS hj))) rfl rfl rfl ?_)
  refine ww ?_
  refine c_cons (s_call (xs := [_, _, _, _]) rfl rfl rfl rfl rfl rfl (by kernel_rfl) (fun w hs => mended_c c l num ix n _ frs hml _ w _ _ (hv.mono hG1) hs) ?_)
  have herr := mendS_err c l num ix n frs
  generalize mendS c l num frs ix n = J at herr ⊢
  rintro e w' ⟨G2, hG2, hs', ⟨hne, rfl⟩ | ⟨hz, u, rfl, hu⟩⟩
  · refine a_panic ?_ hs'; clear hs'
    rw [herr hne]
    generalize J.2 = x
    repeat (first | refine x_then_panic ?_ | refine x_block_panic ?_)
    exact d_pan1 (by kernel_rfl) (fun w hs => catchM_s b3 b2 x 0 _ _ w _ _ hs) (fun a e y w' ht ⟨h1, h2, h3⟩ => ⟨h1, h2, _, res_c2 ht rfl rfl rfl (by kernel_rfl) (by kernel_rfl) h3 (Cel.tail (Cel.head rfl)) (Cel.head rfl), G2, _, rfl, hG1.trans hG2, SV.nil _ _, h3.sb⟩)
  · refine a_ret ?_ hs'; clear hs'
    rw [hz]
    refine ww ?_
    refine c_cons (s_store1 rfl rfl rfl (.tail .head) (by kernel_rfl) hu.one (by simp) ?_)
    refine c_cons (s_store1 rfl rfl rfl (.tail .head) (by kernel_rfl) rfl (by simp) ?_)
    change Holds _ _ _ _ _ (ErO b3 0 :: ByO b2 u :: F) _
    refine ww ?_
    exact d_ret1 (by kernel_rfl) (fun w hs => catchM_n b3 b2 _ w _ _ hs) (fun a e y w' ht ⟨h1, h2, h3⟩ => ⟨h1, h2, _, res_c2 ht rfl rfl rfl (by kernel_rfl) (by kernel_rfl) h3 (Cel.tail (Cel.head rfl)) (Cel.head rfl), G2, u, rfl, hG1.trans hG2, hu, h3.sb⟩)
end Go.Proofs.Ytldkldmjcacopaa
