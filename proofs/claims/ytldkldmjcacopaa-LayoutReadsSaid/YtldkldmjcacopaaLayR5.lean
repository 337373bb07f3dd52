/- The walks of package layout: filled. -/
import Derived.Test.YtldkldmjcacopaaLayR4
namespace Go.Proofs.Ytldkldmjcacopaa
open Go
set_option linter.unusedVariables false
set_option linter.unusedSimpArgs false
set_option maxHeartbeats 1600000
def rsO (os : List (Option (List UInt8))) : List (List UInt8) := os.map fun o => o.getD []
/-- The row that is missing, out of the others. -/
def fillS (rs : List (List UInt8)) (ix sz n : Int) : Option (List UInt8) :=
  if 0 ≤ ix ∧ ix < rs.length ∧ 0 ≤ longS ix sz n ∧ longS ix sz n ≤ mxl (oth rs ix) then some ((pxor (oth rs ix)).take (longS ix sz n).toNat) else none
/-- A stripe's bytes, as far as k fragments go. -/
def outK (os : List (Option (List UInt8))) (sz n : Int) : Nat → Option (List UInt8)
  | 0 => some []
  | k + 1 => match outK os sz n k with
    | none => none
    | some out => match os[k]? with
      | some (some r) => some (out ++ r)
      | some none => match fillS (rsO os) k sz n with
        | some r => some (out ++ r)
        | none => none
      | none => none
theorem outK_none {os : List (Option (List UInt8))} {sz n : Int} {k : Nat} (h : outK os sz n k = none) : ∀ m, outK os sz n (k + m) = none
  | 0 => h
  | m + 1 => by
    have := outK_none h m
    show (match outK os sz n (k + m) with | none => none | some out => _) = none
    rw [this]
def finO : Option (List UInt8) → List UInt8 × Int
  | some out => (out, 0)
  | none => ([], 4)
def finS (st : RSt) (n : Int) : List UInt8 × Int := if st.2.1 ≤ 1 then (if st.2.1 = 0 ∧ ¬ (∀ c ∈ pxor (rsO st.1), c = 0) then ([], 4) else finO (outK st.1 st.2.2 n (n - 1).toNat)) else ([], 15)
/-- All of a stripe's bytes, or why not. -/
def joinS (c l num : Int) (frs : List (List UInt8)) (n : Int) : List UInt8 × Int :=
  if (3 ≤ n ∧ n ≤ 16) ∧ (frs.length : Int) = n then match rowsR c l num (-1) n frs with
    | none => ([], 4)
    | some st => finS st n
  else ([], 1)
/-- What is known of the rows. -/
structure RInv (K : Nat) (st : RSt) : Prop where
  cnt : (st.1.countP fun o => o.isNone) = st.2.1
  sz : 0 ≤ st.2.2 ∨ ∀ o, o ∈ st.1 → o = none
  len : ∀ o, o ∈ st.1 → (o.getD []).length ≤ K
theorem readB_len (b : List UInt8) : (readB b).length ≤ b.length := by
  unfold readB
  split
  · rw [List.length_drop]; omega
  · simp
theorem rows_inv (c l num n : Int) (K : Nat) (frs : List (List UInt8)) : (∀ b, b ∈ frs → b.length ≤ K) → ∀ st, rowsR c l num (-1) n frs = some st → RInv K st := by
  induction frs using snoc_ind with
  | h0 => intro _ st h; cases h; exact ⟨rfl, .inr (fun o h => by cases h), fun o h => by cases h⟩
  | h1 frs b ih =>
    intro hk st h
    rw [rowsR_snoc] at h
    cases hr : rowsR c l num (-1) n frs with
    | none => rw [hr] at h; cases h
    | some s =>
      rw [hr] at h
      obtain ⟨h1, h2, h3⟩ := ih (fun b hb => hk b (by simp [hb])) s hr
      unfold stepR at h
      dsimp only at h
      rw [if_neg (by omega)] at h
      split at h
      · cases h
        refine ⟨?_, ?_, ?_⟩
        · dsimp only; rw [List.countP_append]; simp; omega
        · dsimp only
          rcases h2 with h2 | h2
          · exact .inl h2
          · refine .inr fun o ho => ?_
            rcases List.mem_append.1 ho with ho | ho
            · exact h2 o ho
            · simpa using ho
        · intro o ho
          rcases List.mem_append.1 ho with ho | ho
          · exact h3 o ho
          · have : o = none := by simpa using ho
            rw [this]; simp
      · split at h
        · cases h
          refine ⟨?_, .inl ?_, ?_⟩
          · dsimp only; rw [List.countP_append]; simp; omega
          · dsimp only
            unfold readH
            split
            · have := (hdOf_gd b).2.2.2.2.2; omega
            · decide
          · intro o ho
            rcases List.mem_append.1 ho with ho | ho
            · exact h3 o ho
            · have : o = some (readB b) := by simpa using ho
              rw [this]
              have h1 := readB_len b
              have h2 := hk b (by simp)
              show (readB b).length ≤ K
              omega
        · cases h
theorem one_none {os : List (Option (List UInt8))} (h : (os.countP fun o => o.isNone) ≤ 1) {i j : Nat} (hi : os[i]? = some none) (hj : os[j]? = some none) : i = j := by
  have key : ∀ i j : Nat, i < j → os[i]? = some none → os[j]? = some none → False := by
    intro i j hij hi hj
    have e : os = os.take (i + 1) ++ os.drop (i + 1) := (List.take_append_drop _ _).symm
    have h1 : 0 < (os.take (i + 1)).countP fun o => o.isNone := List.countP_pos_iff.2 ⟨none, List.mem_of_getElem? (i := i) (by rw [List.getElem?_take_of_lt (by omega)]; exact hi), rfl⟩
    have h2 : 0 < (os.drop (i + 1)).countP fun o => o.isNone := List.countP_pos_iff.2 ⟨none, List.mem_of_getElem? (i := j - (i + 1)) (by rw [List.getElem?_drop, show i + 1 + (j - (i + 1)) = j by omega]; exact hj), rfl⟩
    have h3 : (os.countP fun o => o.isNone) = ((os.take (i + 1)).countP fun o => o.isNone) + ((os.drop (i + 1)).countP fun o => o.isNone) := by rw [← List.countP_append, ← e]
    omega
  rcases Nat.lt_trichotomy i j with h | h | h
  · exact (key i j h hi hj).elim
  · exact h
  · exact (key j i h hj hi).elim
theorem OItems.items {G : Im} {vs : List Value} {os : List (Option (List UInt8))} (h : OItems G vs os) : Items G vs (rsO os) := by
  refine ⟨by simp [rsO, h.1], fun j v r hv hr => ?_⟩
  unfold rsO at hr
  rw [List.getElem?_map] at hr
  cases ho : os[j]? with
  | none => rw [ho] at hr; cases hr
  | some o =>
    rw [ho] at hr
    have hi := h.2 j v o hv ho
    cases o with
    | none =>
      have hv' : v = .slice none 0 0 := hi
      have hr' : r = [] := by simpa using hr.symm
      subst hv' hr'
      exact SV.nil _ _
    | some x =>
      have hr' : r = x := by simpa using hr.symm
      subst hr'
      exact hi.2
attribute [local irreducible] Code.wp wpList stepK Holds Val wpR Eff Eff0 Code.wpIn wpListIn stepI Exit.then Exit.inBlock bodyPost bodyPostM

theorem filled_c (v : Value) (rs : List (List UInt8)) (ix sz n : Int) (hix : 0 ≤ ix ∧ ix ≤ 255) (hsz : 0 ≤ sz ∧ sz ≤ 100000) (hn : 3 ≤ n ∧ n ≤ 16) (hmx : mxl rs ≤ 140737488355328) (w0 w : World) (G : Im) (F : Hp) (hv : RowsV G v rs) (hs : Sat w0 w G F) :
    Calls Try.prog 67 #[v, I64 ix, I64 sz, I64 n] w fun e w' => ∃ G', Im.le G G' ∧ ((fillS rs ix sz n = none ∧ e = .panicked (lgone 4) ∧ Sat w0 w' G' F) ∨
      (∃ b, fillS rs ix sz n = some ((pxor (oth rs ix)).take (longS ix sz n).toNat) ∧ (longS ix sz n).toNat ≤ (pxor (oth rs ix)).length ∧ e = .returned (Sl b 0 (longS ix sz n).toNat (longS ix sz n).toNat) ∧ Sat w0 w' G' ((b, Cs ((pxor (oth rs ix)).map B8) 5) :: F))) := by
  refine f_enter (vs := [_, _, _, _]) Try.func67 rfl Try.ntmps67 (by simp) hs ?_
  repeat (first | (refine c_cons ?_; first | refine s_val (by first | exact v_move rfl | exact v_assign rfl | exact v_len rfl (by kernel_rfl) | exact v_lss rfl rfl | exact v_neq rfl rfl | exact v_eql rfl rfl | exact v_gtr rfl rfl | exact v_leq rfl rfl | exact v_geq rfl rfl | exact v_add rfl rfl (by omega) | exact v_sub rfl rfl (by omega) | exact v_not rfl | exact v_pick_t rfl rfl | exact v_pick_f rfl rfl | exact v_xor8 rfl rfl | exact v_makeFunc rfl rfl | exact v_extract rfl rfl | exact v_nilCheck rfl | exact v_max rfl rfl | exact v_min rfl rfl | exact v_eqb_same rfl rfl (by kernel_rfl) | exact v_eqb rfl rfl (by kernel_rfl) | exact v_u8int rfl (by kernel_rfl) (by kernel_rfl) | exact v_eqnilP rfl rfl (by kernel_rfl) | exact v_neqnilP rfl rfl (by kernel_rfl) | exact v_eqnilS rfl rfl (by kernel_rfl)) rfl rfl rfl ?_ | refine s_skip rfl rfl rfl ?_ | refine s_skip0 rfl rfl ?_) | refine c_nil ?_ | refine c_seq ?_ | refine c_region ?_ | refine c_block ?_ | refine c_skip ?_ | refine c_exit ?_ | refine c_ret ?_ | refine x_then ?_ | refine x_block ?_ | refine x_then_exit ?_ | refine x_then_ret ?_ | refine x_block_ret ?_ | refine x_block_eq ?_ | refine x_block_ne rfl ?_)
  refine c_cons (s_val (v_build (ps := [_, _, _]) #[I64 0, I64 0, I64 0, I64 ix, I64 n, I64 sz] rfl (by kernel_rfl)) rfl rfl rfl ?_)
  refine c_cons (s_call (xs := [_]) rfl rfl rfl rfl rfl rfl (by kernel_rfl) (fun w hs => llong_c ⟨0, 0, 0, ix, n, sz⟩ hix hsz hn _ w _ _ hs) ?_)
  rintro e w' ⟨rfl, hs'⟩; refine a_ret ?_ hs'; clear hs'
  dsimp only
  obtain ⟨q, hq⟩ : ∃ q, q = longS ix sz n := ⟨_, rfl⟩
  unfold fillS
  rw [← hq]
  repeat (first | (refine c_cons ?_; first | refine s_val (by first | exact v_move rfl | exact v_assign rfl | exact v_len rfl (by kernel_rfl) | exact v_lss rfl rfl | exact v_neq rfl rfl | exact v_eql rfl rfl | exact v_gtr rfl rfl | exact v_leq rfl rfl | exact v_geq rfl rfl | exact v_add rfl rfl (by omega) | exact v_sub rfl rfl (by omega) | exact v_not rfl | exact v_pick_t rfl rfl | exact v_pick_f rfl rfl | exact v_xor8 rfl rfl | exact v_makeFunc rfl rfl | exact v_extract rfl rfl | exact v_nilCheck rfl | exact v_max rfl rfl | exact v_min rfl rfl | exact v_eqb_same rfl rfl (by kernel_rfl) | exact v_eqb rfl rfl (by kernel_rfl) | exact v_u8int rfl (by kernel_rfl) (by kernel_rfl) | exact v_eqnilP rfl rfl (by kernel_rfl) | exact v_neqnilP rfl rfl (by kernel_rfl) | exact v_eqnilS rfl rfl (by kernel_rfl)) rfl rfl rfl ?_ | refine s_skip rfl rfl rfl ?_ | refine s_skip0 rfl rfl ?_) | refine c_nil ?_ | refine c_seq ?_ | refine c_region ?_ | refine c_block ?_ | refine c_skip ?_ | refine c_exit ?_ | refine c_ret ?_ | refine x_then ?_ | refine x_block ?_ | refine x_then_exit ?_ | refine x_then_ret ?_ | refine x_block_ret ?_ | refine x_block_eq ?_ | refine x_block_ne rfl ?_)
  refine c_cons (s_call (xs := [_, _, _]) rfl rfl rfl rfl rfl rfl (by kernel_rfl) (fun w hs => fill_c v rs ix q _ w _ _ hv hmx (by omega) hs) ?_)
  rintro e w' ⟨G1, hG1, ⟨hno, rfl, hs'⟩ | ⟨hyes, b, rfl, hs'⟩⟩
  · refine a_ret ?_ hs'; clear hs'
    repeat (first | (refine c_cons ?_; first | refine s_val (by first | exact v_move rfl | exact v_assign rfl | exact v_len rfl (by kernel_rfl) | exact v_lss rfl rfl | exact v_neq rfl rfl | exact v_eql rfl rfl | exact v_gtr rfl rfl | exact v_leq rfl rfl | exact v_geq rfl rfl | exact v_add rfl rfl (by omega) | exact v_sub rfl rfl (by omega) | exact v_not rfl | exact v_pick_t rfl rfl | exact v_pick_f rfl rfl | exact v_xor8 rfl rfl | exact v_makeFunc rfl rfl | exact v_extract rfl rfl | exact v_nilCheck rfl | exact v_max rfl rfl | exact v_min rfl rfl | exact v_eqb_same rfl rfl (by kernel_rfl) | exact v_eqb rfl rfl (by kernel_rfl) | exact v_u8int rfl (by kernel_rfl) (by kernel_rfl) | exact v_eqnilP rfl rfl (by kernel_rfl) | exact v_neqnilP rfl rfl (by kernel_rfl) | exact v_eqnilS rfl rfl (by kernel_rfl)) rfl rfl rfl ?_ | refine s_skip rfl rfl rfl ?_ | refine s_skip0 rfl rfl ?_) | refine c_nil ?_ | refine c_seq ?_ | refine c_region ?_ | refine c_block ?_ | refine c_skip ?_ | refine c_exit ?_ | refine c_ret ?_ | refine x_then ?_ | refine x_block ?_ | refine x_then_exit ?_ | refine x_then_ret ?_ | refine x_block_ret ?_ | refine x_block_eq ?_ | refine x_block_ne rfl ?_)
    refine c_cons (s_call (xs := [_, _]) rfl rfl rfl rfl rfl rfl (by kernel_rfl) (fun w hs => must_f 4 _ w _ _ hs) ?_)
    rintro e w' ⟨rfl, hs'⟩
    refine a_panic ?_ hs'; clear hs'
    repeat (first | refine x_then_panic ?_ | refine x_block_panic ?_)
    exact f_panic (fun w hs => ⟨G1, hG1, .inl ⟨by rw [if_neg hno], rfl, hs⟩⟩)
  · refine a_ret ?_ hs'; clear hs'
    repeat (first | (refine c_cons ?_; first | refine s_val (by first | exact v_move rfl | exact v_assign rfl | exact v_len rfl (by kernel_rfl) | exact v_lss rfl rfl | exact v_neq rfl rfl | exact v_eql rfl rfl | exact v_gtr rfl rfl | exact v_leq rfl rfl | exact v_geq rfl rfl | exact v_add rfl rfl (by omega) | exact v_sub rfl rfl (by omega) | exact v_not rfl | exact v_pick_t rfl rfl | exact v_pick_f rfl rfl | exact v_xor8 rfl rfl | exact v_makeFunc rfl rfl | exact v_extract rfl rfl | exact v_nilCheck rfl | exact v_max rfl rfl | exact v_min rfl rfl | exact v_eqb_same rfl rfl (by kernel_rfl) | exact v_eqb rfl rfl (by kernel_rfl) | exact v_u8int rfl (by kernel_rfl) (by kernel_rfl) | exact v_eqnilP rfl rfl (by kernel_rfl) | exact v_neqnilP rfl rfl (by kernel_rfl) | exact v_eqnilS rfl rfl (by kernel_rfl)) rfl rfl rfl ?_ | refine s_skip rfl rfl rfl ?_ | refine s_skip0 rfl rfl ?_) | refine c_nil ?_ | refine c_seq ?_ | refine c_region ?_ | refine c_block ?_ | refine c_skip ?_ | refine c_exit ?_ | refine c_ret ?_ | refine x_then ?_ | refine x_block ?_ | refine x_then_exit ?_ | refine x_then_ret ?_ | refine x_block_ret ?_ | refine x_block_eq ?_ | refine x_block_ne rfl ?_)
    refine c_cons (s_call (xs := [_, _]) rfl rfl rfl rfl rfl rfl (by kernel_rfl) (fun w hs => must_t 4 _ w _ _ hs) ?_)
    rintro e w' ⟨rfl, hs'⟩; refine a_ret ?_ hs'; clear hs'
    repeat (first | (refine c_cons ?_; first | refine s_val (by first | exact v_move rfl | exact v_assign rfl | exact v_len rfl (by kernel_rfl) | exact v_lss rfl rfl | exact v_neq rfl rfl | exact v_eql rfl rfl | exact v_gtr rfl rfl | exact v_leq rfl rfl | exact v_geq rfl rfl | exact v_add rfl rfl (by omega) | exact v_sub rfl rfl (by omega) | exact v_not rfl | exact v_pick_t rfl rfl | exact v_pick_f rfl rfl | exact v_xor8 rfl rfl | exact v_makeFunc rfl rfl | exact v_extract rfl rfl | exact v_nilCheck rfl | exact v_max rfl rfl | exact v_min rfl rfl | exact v_eqb_same rfl rfl (by kernel_rfl) | exact v_eqb rfl rfl (by kernel_rfl) | exact v_u8int rfl (by kernel_rfl) (by kernel_rfl) | exact v_eqnilP rfl rfl (by kernel_rfl) | exact v_neqnilP rfl rfl (by kernel_rfl) | exact v_eqnilS rfl rfl (by kernel_rfl)) rfl rfl rfl ?_ | refine s_skip rfl rfl rfl ?_ | refine s_skip0 rfl rfl ?_) | refine c_nil ?_ | refine c_seq ?_ | refine c_region ?_ | refine c_block ?_ | refine c_skip ?_ | refine c_exit ?_ | refine c_ret ?_ | refine x_then ?_ | refine x_block ?_ | refine x_then_exit ?_ | refine x_then_ret ?_ | refine x_block_ret ?_ | refine x_block_eq ?_ | refine x_block_ne rfl ?_)
    exact f_ret1 rfl rfl (fun w hs => ⟨G1, hG1, .inr ⟨b, by rw [if_pos hyes], by rw [pxor_length]; omega, rfl, hs⟩⟩)

theorem filledO_c (bl : Nat) (vs : List Value) (os : List (Option (List UInt8))) (ix sz n : Int) (hix : 0 ≤ ix ∧ ix ≤ 255) (hsz : 0 ≤ sz ∧ sz ≤ 100000) (hn : 3 ≤ n ∧ n ≤ 16) (hmx : mxl (rsO os) ≤ 140737488355328) (hl : vs.length ≤ 1000) (w0 w : World) (G : Im) (F : Hp) (hv : OItems G vs os) (hs : Sat w0 w G (RwB bl vs :: F)) :
    Calls Try.prog 67 #[Sl bl 0 vs.length vs.length, I64 ix, I64 sz, I64 n] w fun e w' => ∃ G', Im.le G G' ∧ ((fillS (rsO os) ix sz n = none ∧ e = .panicked (lgone 4) ∧ Sat w0 w' G' (RwB bl vs :: F)) ∨
      (∃ b, fillS (rsO os) ix sz n = some ((pxor (oth (rsO os) ix)).take (longS ix sz n).toNat) ∧ (longS ix sz n).toNat ≤ (pxor (oth (rsO os) ix)).length ∧ e = .returned (Sl b 0 (longS ix sz n).toNat (longS ix sz n).toNat) ∧ Sat w0 w' G' ((b, Cs ((pxor (oth (rsO os) ix)).map B8) 5) :: RwB bl vs :: F))) := by
  have hGb : G bl = none := hs.sep _ (List.mem_cons_self ..)
  have hG2 : Im.le G (G.add bl (Cs vs 22)) := Im.le_add hGb
  have hsv : SV (G.add bl (Cs vs 22)) [] (Sl bl 0 vs.length vs.length) vs.length vs := SV.block (.of_imm (Im.add_self G bl _)) (by unfold maxLen; omega)
  refine (filled_c _ (rsO os) ix sz n hix hsz hn hmx w0 w _ F ⟨vs, hsv, (hv.up hG2).items⟩ hs.freeze).mono fun e w' ⟨G', hG', h⟩ => ?_
  have hk := hG' _ _ (Im.add_self G bl (Cs vs 22))
  refine ⟨Im.del G' bl, Im.le_del (hG2.trans hG') hGb, ?_⟩
  rcases h with ⟨h1, h2, h3⟩ | ⟨b, h1, h2, h3, h4⟩
  · exact .inl ⟨h1, h2, h3.thaw hk⟩
  · exact .inr ⟨b, h1, h2, h3, (h4.thaw hk).perm (List.Perm.swap _ _ _)⟩

theorem holdsO_c (bl : Nat) (vs : List Value) (os : List (Option (List UInt8))) (hmx : mxl (rsO os) ≤ 140737488355328) (hl : vs.length ≤ 1000) (w0 w : World) (G : Im) (F : Hp) (hv : OItems G vs os) (hs : Sat w0 w G (RwB bl vs :: F)) :
    Calls Try.prog 66 #[Sl bl 0 vs.length vs.length] w fun e w' => ∃ G', e = .returned (.bool (decide (∀ c ∈ pxor (rsO os), c = 0))) ∧ Im.le G G' ∧ Sat w0 w' G' (RwB bl vs :: F) := by
  have hGb : G bl = none := hs.sep _ (List.mem_cons_self ..)
  have hG2 : Im.le G (G.add bl (Cs vs 22)) := Im.le_add hGb
  have hsv : SV (G.add bl (Cs vs 22)) [] (Sl bl 0 vs.length vs.length) vs.length vs := SV.block (.of_imm (Im.add_self G bl _)) (by unfold maxLen; omega)
  refine (holds_c _ (rsO os) w0 w _ F ⟨vs, hsv, (hv.up hG2).items⟩ hmx hs.freeze).mono fun e w' ⟨G', he, hG', h⟩ => ?_
  have hk := hG' _ _ (Im.add_self G bl (Cs vs 22))
  exact ⟨Im.del G' bl, he, Im.le_del (hG2.trans hG') hGb, h.thaw hk⟩
end Go.Proofs.Ytldkldmjcacopaa
