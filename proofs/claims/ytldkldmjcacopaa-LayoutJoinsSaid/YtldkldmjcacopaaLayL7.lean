/- The reference's walks of chapter 13: Join, Mend. The law LayoutJoins. -/
import Derived.Test.YtldkldmjcacopaaLayRJ
import Derived.Test.YtldkldmjcacopaaLayL0
namespace Go.Proofs.Ytldkldmjcacopaa
open Go
set_option linter.unusedVariables false
set_option linter.unusedSimpArgs false
set_option maxHeartbeats 1600000
theorem whole_len {c l num n but : Int} {frs : List (List UInt8)} (h : (wholeS c l num frs n but).2.2 = 0) : ((wholeS c l num frs n but).1.length : Int) = (wholeS c l num frs n but).2.1 ∧ (0 ≤ (wholeS c l num frs n but).2.1 ∧ (wholeS c l num frs n but).2.1 ≤ 400 * (n - 1)) ∧ mst c l num := by
  by_cases h0 : (3 ≤ n ∧ n ≤ 16) ∧ (frs.length : Int) = n
  rotate_left
  · have hw : wholeS c l num frs n but = ([], 0, 1) := by unfold wholeS; rw [if_neg h0]
    rw [hw] at h; cases h
  have hn := h0.1
  cases hr : rowsR c l num but n frs with
  | none =>
    have hw : wholeS c l num frs n but = ([], 0, 4) := by unfold wholeS; rw [if_pos h0, hr]
    rw [hw] at h; cases h
  | some st =>
    by_cases h1 : 1 < (misO st.1).length
    · have hw : wholeS c l num frs n but = ([], 0, 15) := by unfold wholeS; rw [if_pos h0, hr]; dsimp only; rw [if_pos h1]
      rw [hw] at h; cases h
    by_cases h2 : misO st.1 = [] ∧ ¬ ∀ c ∈ pxor (rsO st.1), c = 0
    · have hw : wholeS c l num frs n but = ([], 0, 4) := by unfold wholeS; rw [if_pos h0, hr]; dsimp only; rw [if_neg h1, if_pos h2]
      rw [hw] at h; cases h
    have hw : wholeS c l num frs n but = (flatK (rowK st.1 st.2.2 n) (n - 1).toNat, st.2.2, 0) := by unfold wholeS; rw [if_pos h0, hr]; dsimp only; rw [if_neg h1, if_neg h2]
    rw [hw]
    dsimp only
    have hll := (rowsR_in _ _ _ _ _ _ _ hr).1
    obtain ⟨o1, o2, o3, o4⟩ := rows_one hn h0.2 hr (by omega)
    have hei := each_in hn o1
    obtain ⟨e, he⟩ : ∃ e : Nat, (e : Int) = eachS st.2.2 n := ⟨(eachS st.2.2 n).toNat, by omega⟩
    obtain ⟨L, hL⟩ : ∃ L : Nat, (L : Int) = st.2.2 := ⟨st.2.2.toNat, by omega⟩
    have hlen : ∀ j : Nat, j < st.1.length → ((rowK st.1 st.2.2 n j).length : Int) = longS j st.2.2 n := fun j hj => by
      obtain ⟨o, ho⟩ : ∃ o, st.1[j]? = some o := ⟨_, List.getElem?_eq_getElem hj⟩
      cases o with
      | some r => rw [rowK_some ho]; exact o3 j r ho
      | none => exact (rowK_none hn o1 (by omega) j ho o3 (o4 j ho)).2.2
    have hf : ∀ j, j < (n - 1).toNat → (rowK st.1 st.2.2 n j).length = min (j * e + e) L - min (j * e) L := fun j hj => by
      have h := hlen j (by omega)
      unfold longS at h
      rw [if_neg (by omega), ← he, ← hL] at h
      have h3 : ((j * e : Nat) : Int) = (j : Int) * e := Int.natCast_mul _ _
      rw [← h3] at h
      rw [← hL]
      omega
    have hfl := flatK_len hf (n - 1).toNat (Nat.le_refl _)
    have hup := each_up hn o1
    have h3 : (((n - 1).toNat * e : Nat) : Int) = (n - 1) * (e : Int) := by rw [Int.natCast_mul]; congr 1; omega
    rw [← he, ← h3] at hup
    refine ⟨by omega, ⟨o1, o2⟩, ?_⟩
    obtain ⟨o, ho⟩ : ∃ o, st.1[0]? = some o := ⟨_, List.getElem?_eq_getElem (by omega)⟩
    cases o with
    | some r => exact rows_mst _ _ _ _ _ _ _ hr ⟨r, List.mem_of_getElem? ho⟩
    | none =>
      obtain ⟨r, hr1⟩ := o4 0 ho 1 (by omega) (by omega)
      exact rows_mst _ _ _ _ _ _ _ hr ⟨r, List.mem_of_getElem? hr1⟩
attribute [local irreducible] Code.wp wpList stepK Holds Val wpR Eff Eff0 Code.wpIn wpListIn stepI Exit.then Exit.inBlock bodyPost bodyPostM

theorem rjoin_c (c l num n : Int) (vf : Value) (frs : List (List UInt8)) (hml : ∀ b, b ∈ frs → b.length ≤ 100000) (w0 w : World) (G : Im) (F : Hp) (hv : RowsV G vf frs) (hs : Sat w0 w G F) :
    Calls Try.prog 29 #[.agg #[I64 c, I64 l, I64 num], vf, I64 n] w fun e w' => ∃ G' u, e = .returned (.tuple #[u, I64 (joinS c l num frs n).2]) ∧ Im.le G G' ∧ SV G' [] u (joinS c l num frs n).1.length ((joinS c l num frs n).1.map B8) ∧ Sat w0 w' G' F := by
  refine f_enter (vs := [_, _, _]) Try.func29 rfl Try.ntmps29 (by simp) hs ?_
  refine ww ?_
  refine c_cons (s_boxA [I64 c, I64 l, I64 num] rfl rfl rfl fun b1 => ?_)
  refine c_freeze .head fun G1 hG1 kS => ?_
  refine ww ?_
  refine c_cons (s_val (v_loadAgg (vs := [I64 c, I64 l, I64 num]) rfl (by kernel_rfl) (by kernel_rfl) rfl (fun j u hj => (Cel.allI kS hj))) rfl rfl rfl ?_)
  refine ww ?_
  refine c_cons (s_call (xs := [_, _, _, _]) rfl rfl rfl rfl rfl rfl (by kernel_rfl) (fun w hs => whole_c c l num n (-1) _ frs hml _ w _ _ (hv.mono hG1) hs) ?_)
  have hsame := join_same c l num n frs
  generalize wholeS c l num frs n (-1) = J at hsame ⊢
  rw [← hsame]
  rintro e w' ⟨G2, u, rfl, hG2, hu, hs'⟩; refine a_ret ?_ hs'; clear hs'
  refine ww ?_
  exact f_ret2 rfl rfl rfl (fun w hs => ⟨G2, u, rfl, hG1.trans hG2, hu, hs⟩)

theorem rmend_c (c l num ix n : Int) (vf : Value) (frs : List (List UInt8)) (hml : ∀ b, b ∈ frs → b.length ≤ 100000) (w0 w : World) (G : Im) (F : Hp) (hv : RowsV G vf frs) (hs : Sat w0 w G F) :
    Calls Try.prog 31 #[.agg #[I64 c, I64 l, I64 num], vf, I64 ix, I64 n] w fun e w' => ∃ G' u, e = .returned (.tuple #[u, I64 (mendS c l num frs ix n).2]) ∧ Im.le G G' ∧ SV G' [] u (mendS c l num frs ix n).1.length ((mendS c l num frs ix n).1.map B8) ∧ Sat w0 w' G' F := by
  rw [← mend_same]
  obtain ⟨adf, cpf, rfl⟩ := hv.len
  have bad : ¬ (((3 ≤ n ∧ n ≤ 16) ∧ (frs.length : Int) = n) ∧ 0 ≤ ix ∧ ix < n) → rmendS c l num frs ix n = ([], 1) := fun h => by unfold rmendS; rw [if_neg h]
  refine f_enter (vs := [_, _, _, _]) Try.func31 rfl Try.ntmps31 (by simp) hs ?_
  refine ww ?_
  refine c_cons (s_boxA [I64 c, I64 l, I64 num] rfl rfl rfl fun b1 => ?_)
  refine c_freeze .head fun G1 hG1 kS => ?_
  refine ww ?_
  refine c_cons (s_call (xs := [_]) rfl rfl rfl rfl rfl rfl (by kernel_rfl) (fun w hs => mayN_c n _ w _ _ hs) ?_)
  rintro e w' ⟨rfl, hs'⟩; refine a_ret ?_ hs'; clear hs'
  refine ww ?_
  refine c_part_nd 17 _ rfl (fun c1 => ?_) (fun c1 => ?_)
  · -- t17 = True
    rw [bad (fun h => c1 h.1.1)]
    refine ww ?_
    refine c_cond_t rfl ?_
    refine ww ?_
    exact f_ret2 rfl rfl rfl (fun w hs => ⟨G1, _, rfl, hG1, SV.nil _ _, hs⟩)
  refine ww ?_
  refine c_part_d 23 _ rfl (fun c2 => ?_) (fun c2 => ?_)
  · -- t23 = True
    rw [bad (fun h => c2 h.1.2)]
    refine ww ?_
    refine c_cond_t rfl ?_
    refine ww ?_
    exact f_ret2 rfl rfl rfl (fun w hs => ⟨G1, _, rfl, hG1, SV.nil _ _, hs⟩)
  refine ww ?_
  refine c_part_d 27 _ rfl (fun c3 => ?_) (fun c3 => ?_)
  · -- t27 = True
    rw [bad (fun h => by omega)]
    refine ww ?_
    refine c_cond_t rfl ?_
    refine ww ?_
    exact f_ret2 rfl rfl rfl (fun w hs => ⟨G1, _, rfl, hG1, SV.nil _ _, hs⟩)
  refine ww ?_
  refine c_cond_d rfl (fun c4 => ?_) (fun c4 => ?_)
  · -- then
    rw [bad (fun h => by omega)]
    refine ww ?_
    exact f_ret2 rfl rfl rfl (fun w hs => ⟨G1, _, rfl, hG1, SV.nil _ _, hs⟩)
  have ej : rmendS c l num frs ix n = if (wholeS c l num frs n ix).2.2 = 0 then (headB ⟨c, l, num, ix, n, (wholeS c l num frs n ix).2.1⟩ ++ (rowsL (wholeS c l num frs n ix).1 n).getD ix.toNat [], 0) else ([], (wholeS c l num frs n ix).2.2) := by unfold rmendS; rw [if_pos ⟨⟨c1, by omega⟩, by omega, by omega⟩]
  refine ww ?_
  refine c_cons (s_val (v_loadAgg (vs := [I64 c, I64 l, I64 num]) rfl (by kernel_rfl) (by kernel_rfl) rfl (fun j u hj => (Cel.allI kS hj))) rfl rfl rfl ?_)
  refine ww ?_
  refine c_cons (s_call (xs := [_, _, _, _]) rfl rfl rfl rfl rfl rfl (by kernel_rfl) (fun w hs => whole_c c l num n ix _ frs hml _ w _ _ (hv.mono hG1) hs) ?_)
  have hwl := @whole_len c l num n ix frs
  generalize wholeS c l num frs n ix = J at ej hwl ⊢
  obtain ⟨b, sz, ec⟩ := J
  dsimp only at ej hwl ⊢
  rintro e w' ⟨G2, u, rfl, hG2, hu, hs'⟩; refine a_ret ?_ hs'; clear hs'
  replace kS := hG2 _ _ kS
  refine ww ?_
  refine c_cond_d rfl (fun c5 => ?_) (fun c5 => ?_)
  · -- then
    rw [ej, if_neg c5]
    refine ww ?_
    exact f_ret2 rfl rfl rfl (fun w hs => ⟨G2, _, rfl, hG1.trans hG2, SV.nil _ _, hs⟩)
  rw [ej, if_pos (by omega)]
  obtain ⟨h1, h2, m1, m2, m3, m4, m5, m6⟩ := hwl (by omega)
  have hrl := rowsL_length b n c1
  have hrm := rowsL_max b n
  refine ww ?_
  refine c_cons (s_call (xs := [_, _]) rfl rfl rfl rfl rfl rfl (by kernel_rfl) (fun w hs => rparts_c _ b n (by omega) c1 _ w _ _ hu hs) ?_)
  rintro e w' ⟨G3, u3, B3, rfl, hG3, hro, hs'⟩; refine a_ret ?_ hs'; clear hs'
  refine hro.freeze Chunk.head fun G4 hG4 hr4 => ?_
  replace kS := hG4 _ _ (hG3 _ _ kS)
  obtain ⟨i, rfl⟩ : ∃ i : Nat, ix = i := ⟨ix.toNat, by omega⟩
  rw [Int.toNat_natCast]
  obtain ⟨r, hr0⟩ : ∃ r, (rowsL b n)[i]? = some r := ⟨_, List.getElem?_eq_getElem (by omega)⟩
  rw [show (rowsL b n).getD i [] = r by simp [List.getD, hr0]]
  have hrlen := hrm r (List.mem_of_getElem? hr0)
  obtain ⟨bf, of', cf, ub, e1, hcel, hub⟩ := hr4.row hr0
  subst e1
  have hgd : gd ⟨c, l, num, i, n, sz⟩ := by unfold gd; dsimp only; omega
  have hhl := headB_len ⟨c, l, num, i, n, sz⟩
  have hcel4 := fun H => hcel G4 H (Im.le_refl _)
  refine ww ?_
  refine r_startS [] [] (by kernel_rfl) (fun w h => h.none) ?_
  refine r_tk 0 rfl rfl (v_loadAgg (vs := [I64 c, I64 l, I64 num]) rfl (by kernel_rfl) (by kernel_rfl) rfl (fun j u hj => (Cel.allI kS hj))) (fun _ h => h.none) ?_
  refine r_tk 1 rfl rfl (v_move rfl) (fun _ h => h.none) ?_
  refine r_tk 2 rfl rfl (v_move rfl) (fun _ h => h.none) ?_
  refine r_tk 3 rfl rfl (v_move rfl) (fun _ h => h.none) ?_
  refine r_tk 4 rfl rfl (v_build (ps := [_, _, _, _]) #[I64 c, I64 l, I64 num, I64 (i : Int), I64 n, I64 sz] rfl (by kernel_rfl)) (fun _ h => h.none) ?_
  refine r_tk 6 rfl rfl (v_move rfl) (fun _ h => h.none) ?_
  refine r_tk 7 rfl rfl (v_move rfl) (fun _ h => h.none) ?_
  refine r_tk 8 rfl rfl (v_index1 rfl rfl (by kernel_rfl) (by omega)) (fun _ h => h.none) ?_
  refine r_tk 9 rfl rfl (v_load rfl (hcel4 _) (by kernel_rfl)) (fun _ h => h.none) ?_
  refine r_one 5 (by kernel_rfl) rfl ?_
  refine s_call (xs := [_]) rfl rfl rfl rfl rfl rfl (by kernel_rfl) (fun w hs => rhead_c ⟨c, l, num, i, n, sz⟩ hgd _ w _ _ hs) ?_
  rintro e w' ⟨G5, u5, B5, rfl, hG5, hu5, hs'⟩; refine a_ret ?_ hs'; clear hs'
  generalize headB ⟨c, l, num, i, n, sz⟩ = hd at hu5 hhl ⊢
  refine r_next (fun w h => h.none.weaken hG5) ?_
  refine r_one 10 (by kernel_rfl) rfl ?_
  refine s_append (e := 5) (z := B8 0) (sz := 1) (bs := 1) (by kernel_rfl) rfl rfl rfl rfl hu5 Chunk.head (hub.mono hG5 (by simp)) rfl (by decide) (by simp) (B8_one r) (by omega) (by omega) fun u6 B6 hown6 => ?_
  rw [← List.map_append, ← List.length_append] at hown6
  refine r_next (fun w h => h.none.weaken hG5) ?_
  refine r_tk 11 rfl rfl (v_assign rfl) (fun _ h => h.none.weaken hG5) ?_
  refine r_tk 12 rfl rfl (v_assign rfl) (fun _ h => h.none.weaken hG5) ?_
  refine r_done (by kernel_rfl) ?_
  refine c_freezeO hown6 Chunk.head fun G7 hG7 hs7 => ?_
  refine ww ?_
  exact f_ret2 rfl rfl rfl (fun w hs => ⟨G7, u6, rfl, hG1.trans (hG2.trans (hG3.trans (hG4.trans (hG5.trans hG7)))), hs7, hs⟩)

theorem joins_c (f : Sr) (vf : Value) (frs : List (List UInt8)) (a b : Int) (w0 w : World) (G : Im) (F : Hp) (hv : RowsV G vf frs) (hs : Sat w0 w G F) :
    Calls Try.prog 9 #[.agg #[I64 f.c, I64 f.l, I64 f.n], vf, .agg #[I64 a, I64 b]] w fun e w' => ∃ G', e = .returned (.bool true) ∧ Im.le G G' ∧ Sat w0 w' G' F := by
  refine f_enter (vs := [_, _, _]) Try.func9 rfl Try.ntmps9 (by simp) hs ?_
  refine ww ?_
  refine c_cons (s_boxA [I64 f.c, I64 f.l, I64 f.n] rfl rfl rfl fun b1 => ?_)
  refine c_freeze .head fun G1 hG1 k1 => ?_
  refine c_cons (s_boxA [I64 a, I64 b] rfl rfl rfl fun b2 => ?_)
  refine c_freeze .head fun G2 hG2 k2 => ?_
  replace k1 := hG2 _ _ k1
  refine ww ?_
  refine c_cons (s_call (xs := []) rfl rfl rfl rfl rfl rfl (by kernel_rfl) (fun w hs => awake_c _ w _ _ hs) ?_)
  rintro e w' ⟨G0, rfl, hG0, hs'⟩; refine a_ret ?_ hs'; clear hs'
  replace k1 := hG0 _ _ k1
  replace k2 := hG0 _ _ k2
  have hG := hG1.trans (hG2.trans hG0)
  replace hv := hv.mono hG
  refine ww ?_
  refine c_cond_f rfl ?_
  refine ww ?_
  refine c_cons (s_call (xs := [_, _]) rfl rfl rfl rfl rfl rfl (by kernel_rfl) (fun w hs => small_c _ frs 500 _ w _ _ hv hs) ?_)
  rintro e w' ⟨rfl, hs'⟩; refine a_ret ?_ hs'; clear hs'
  refine ww ?_
  refine c_cond_nd rfl (fun c2 => ?_) (fun c2 => ?_)
  · -- then
    refine ww ?_
    exact f_ret1 rfl rfl (fun w hs => ⟨G0, rfl, hG, hs⟩)
  have hml : ∀ b, b ∈ frs → b.length ≤ 100000 := fun b hb => by have := c2.2 b hb; omega
  refine ww ?_
  refine c_cons (s_val (v_indexA 2 1 rfl rfl (by kernel_rfl) (by omega)) rfl rfl rfl ?_)
  refine c_cons (s_val (v_load rfl (Cel.imm k2 rfl) (by kernel_rfl)) rfl rfl rfl ?_)
  refine ww ?_
  refine c_cons (s_val (v_loadAgg (vs := [I64 f.c, I64 f.l, I64 f.n]) rfl (by kernel_rfl) (by kernel_rfl) rfl (fun j u hj => (Cel.allI k1 hj))) rfl rfl rfl ?_)
  refine ww ?_
  refine c_cons (s_call (xs := [_, _, _]) rfl rfl rfl rfl rfl rfl (by kernel_rfl) (fun w hs => join_c f.c f.l f.n a _ frs hml _ w _ _ hv hs) ?_)
  obtain ⟨J, hJ⟩ : ∃ J, J = joinS f.c f.l f.n frs a := ⟨_, rfl⟩
  rw [← hJ]
  rintro e w' ⟨G3, u3, rfl, hG3, hu3, hs'⟩; refine a_ret ?_ hs'; clear hs'
  replace k1 := hG3 _ _ k1
  replace k2 := hG3 _ _ k2
  replace hv := hv.mono hG3
  refine ww ?_
  refine c_cons (s_val (v_loadAgg (vs := [I64 f.c, I64 f.l, I64 f.n]) rfl (by kernel_rfl) (by kernel_rfl) rfl (fun j u hj => (Cel.allI k1 hj))) rfl rfl rfl ?_)
  refine ww ?_
  refine c_cons (s_call (xs := [_, _, _]) rfl rfl rfl rfl rfl rfl (by kernel_rfl) (fun w hs => rjoin_c f.c f.l f.n a _ frs hml _ w _ _ hv hs) ?_)
  rw [← hJ]
  rintro e w' ⟨G4, u4, rfl, hG4, hu4, hs'⟩; refine a_ret ?_ hs'; clear hs'
  replace k1 := hG4 _ _ k1
  replace k2 := hG4 _ _ k2
  replace hv := hv.mono hG4
  replace hu3 := hu3.mono (H' := []) hG4 (fun p hp => hp)
  refine ww ?_
  refine c_cons (s_val (v_loadAgg (vs := [I64 f.c, I64 f.l, I64 f.n]) rfl (by kernel_rfl) (by kernel_rfl) rfl (fun j u hj => (Cel.allI k1 hj))) rfl rfl rfl ?_)
  refine ww ?_
  refine c_cons (s_val (v_indexA 2 1 rfl rfl (by kernel_rfl) (by omega)) rfl rfl rfl ?_)
  refine c_cons (s_val (v_load rfl (Cel.imm k2 rfl) (by kernel_rfl)) rfl rfl rfl ?_)
  refine ww ?_
  refine c_cons (s_call (xs := [_, _, _, _]) rfl rfl rfl rfl rfl rfl (by kernel_rfl) (fun w hs => mend_c f.c f.l f.n b a _ frs hml _ w _ _ hv hs) ?_)
  obtain ⟨M, hM⟩ : ∃ M, M = mendS f.c f.l f.n frs b a := ⟨_, rfl⟩
  rw [← hM]
  rintro e w' ⟨G5, u5, rfl, hG5, hu5, hs'⟩; refine a_ret ?_ hs'; clear hs'
  replace k1 := hG5 _ _ k1
  replace k2 := hG5 _ _ k2
  replace hv := hv.mono hG5
  replace hu3 := hu3.mono (H' := []) hG5 (fun p hp => hp)
  replace hu4 := hu4.mono (H' := []) hG5 (fun p hp => hp)
  refine ww ?_
  refine c_cons (s_val (v_loadAgg (vs := [I64 f.c, I64 f.l, I64 f.n]) rfl (by kernel_rfl) (by kernel_rfl) rfl (fun j u hj => (Cel.allI k1 hj))) rfl rfl rfl ?_)
  refine ww ?_
  refine c_cons (s_val (v_indexA 2 1 rfl rfl (by kernel_rfl) (by omega)) rfl rfl rfl ?_)
  refine c_cons (s_val (v_load rfl (Cel.imm k2 rfl) (by kernel_rfl)) rfl rfl rfl ?_)
  refine ww ?_
  refine c_cons (s_call (xs := [_, _, _, _]) rfl rfl rfl rfl rfl rfl (by kernel_rfl) (fun w hs => rmend_c f.c f.l f.n b a _ frs hml _ w _ _ hv hs) ?_)
  rw [← hM]
  rintro e w' ⟨G6, u6, rfl, hG6, hu6, hs'⟩; refine a_ret ?_ hs'; clear hs'
  replace hu3 := hu3.mono (H' := []) hG6 (fun p hp => hp)
  replace hu4 := hu4.mono (H' := []) hG6 (fun p hp => hp)
  replace hu5 := hu5.mono (H' := []) hG6 (fun p hp => hp)
  refine ww ?_
  refine c_kt 58 rfl rfl ?_
  refine ww ?_
  refine c_cons (s_call (xs := [_, _]) rfl rfl rfl rfl rfl rfl (by kernel_rfl) (fun w hs => same_c _ _ J.1 J.1 _ w _ _ (hu3.mono (Im.le_refl _) (by simp)) (hu4.mono (Im.le_refl _) (by simp)) hs) ?_)
  rw [decide_eq_true rfl]
  rintro e w' ⟨rfl, hs'⟩; refine a_ret ?_ hs'; clear hs'
  refine ww ?_
  refine c_kt 63 (p := (0 : Int) = 0) rfl rfl ?_
  refine ww ?_
  refine c_kt 68 rfl rfl ?_
  refine ww ?_
  refine c_cons (s_call (xs := [_, _]) rfl rfl rfl rfl rfl rfl (by kernel_rfl) (fun w hs => same_c _ _ M.1 M.1 _ w _ _ (hu5.mono (Im.le_refl _) (by simp)) (hu6.mono (Im.le_refl _) (by simp)) hs) ?_)
  rw [decide_eq_true rfl]
  rintro e w' ⟨rfl, hs'⟩; refine a_ret ?_ hs'; clear hs'
  refine ww ?_
  exact f_ret1 rfl rfl (fun w hs => ⟨G6, rfl, hG.trans (hG3.trans (hG4.trans (hG5.trans hG6))), hs⟩)
end Go.Proofs.Ytldkldmjcacopaa
