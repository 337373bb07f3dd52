/- The walks of package delta: any bytes, read as deltas; and the reference's. -/
import Derived.Test.YtocnpgpakindfaaDelW4
namespace Go.Proofs.Ytocnpgpakindfaa
open Go
set_option linter.unusedVariables false
set_option linter.unusedSimpArgs false
set_option maxHeartbeats 1600000

/-- What is read after j deltas. -/
def after : Nat → List UInt8 → List UInt8
  | 0, xs => xs
  | j + 1, xs => after j (getDl xs).2.1
def redd : Nat → List UInt8 → List Dl
  | 0, _ => []
  | j + 1, xs => (getDl xs).1 :: redd j (getDl xs).2.1
/-- So many are read without fault. -/
def good : Nat → List UInt8 → Prop
  | 0, _ => True
  | j + 1, xs => (getDl xs).2.2 = 0 ∧ good j (getDl xs).2.1
theorem after_snoc : ∀ (j : Nat) (xs : List UInt8), after (j + 1) xs = (getDl (after j xs)).2.1
  | 0, xs => rfl
  | j + 1, xs => after_snoc j (getDl xs).2.1
theorem redd_snoc : ∀ (j : Nat) (xs : List UInt8), redd (j + 1) xs = redd j xs ++ [(getDl (after j xs)).1]
  | 0, xs => rfl
  | j + 1, xs => by
    show (getDl xs).1 :: redd (j + 1) (getDl xs).2.1 = (getDl xs).1 :: redd j (getDl xs).2.1 ++ _
    rw [redd_snoc j]; rfl
theorem redd_len : ∀ (j : Nat) (xs : List UInt8), (redd j xs).length = j
  | 0, _ => rfl
  | j + 1, xs => by show (redd j (getDl xs).2.1).length + 1 = j + 1; rw [redd_len j]
theorem good_snoc : ∀ (j : Nat) (xs : List UInt8), good j xs → (getDl (after j xs)).2.2 = 0 → good (j + 1) xs
  | 0, xs, _, h => ⟨h, trivial⟩
  | j + 1, xs, h, k => ⟨h.1, good_snoc j (getDl xs).2.1 h.2 k⟩
theorem rdDs_good : ∀ (j : Nat) (xs : List UInt8), good j xs → rdDs j xs = (redd j xs, after j xs, 0)
  | 0, xs, _ => rfl
  | j + 1, xs, h => by
    unfold rdDs
    rw [if_neg (by rw [h.1]; decide), rdDs_good j _ h.2]; rfl
theorem rdDs_bad : ∀ (j n : Nat) (xs : List UInt8), good j xs → j < n → (getDl (after j xs)).2.2 ≠ 0 → (rdDs n xs).2.2 = (getDl (after j xs)).2.2
  | 0, n + 1, xs, _, _, h => by
    have h' : (getDl xs).2.2 ≠ 0 := h
    unfold rdDs; rw [if_pos h']; rfl
  | j + 1, n + 1, xs, h, hj, k => by
    unfold rdDs
    rw [if_neg (by rw [h.1]; decide)]
    exact rdDs_bad j n _ h.2 (by omega) k
theorem decS_short {xs : List UInt8} (h : (eNum xs 0 2).2.2 ≠ 0) : decS xs = ([], (eNum xs 0 2).2.2) := by unfold decS; rw [if_pos h]
theorem decS_long {xs : List UInt8} (h : (eNum xs 0 2).2.2 = 0) (h2 : 4000 < (eNum xs 0 2).1) : decS xs = ([], 3) := by unfold decS; rw [if_neg (by rw [h]; decide), if_pos h2]
theorem decS_bad {xs : List UInt8} (h : (eNum xs 0 2).2.2 = 0) (h2 : ¬ 4000 < (eNum xs 0 2).1) (j : Nat) (hg : good j (eNum xs 0 2).2.1) (hj : (j : Int) < (eNum xs 0 2).1) (hb : (getDl (after j (eNum xs 0 2).2.1)).2.2 ≠ 0) : decS xs = ([], (getDl (after j (eNum xs 0 2).2.1)).2.2) := by
  have hr := rdDs_bad j (eNum xs 0 2).1.toNat (eNum xs 0 2).2.1 hg (by omega) hb
  unfold decS
  rw [if_neg (by rw [h]; decide), if_neg h2, if_pos (by rw [hr]; exact hb), hr]
theorem decS_all {xs : List UInt8} (h : (eNum xs 0 2).2.2 = 0) (h2 : ¬ 4000 < (eNum xs 0 2).1) (hg : good (eNum xs 0 2).1.toNat (eNum xs 0 2).2.1) :
    decS xs = if 0 < (after (eNum xs 0 2).1.toNat (eNum xs 0 2).2.1).length then ([], 3) else (redd (eNum xs 0 2).1.toNat (eNum xs 0 2).2.1, 0) := by
  have hr := rdDs_good _ _ hg
  unfold decS
  rw [if_neg (by rw [h]; decide), if_neg h2, hr, if_neg (by simp)]
theorem eNum_pos (xs : List UInt8) (bad i : Int) : 0 ≤ (eNum xs bad i).1 := by
  unfold eNum
  split
  · exact Int.le_refl 0
  · unfold rNum
    split
    · exact Int.le_refl 0
    · split
      · exact Int.le_refl 0
      · exact Int.natCast_nonneg _
theorem eNum_bad0 {xs : List UInt8} {bad i : Int} (h : (eNum xs bad i).2.2 ≠ 0) : (eNum xs bad i).1 = 0 := by
  unfold eNum at h ⊢
  split at h
  · rename_i hb; rw [if_pos hb]
  · rename_i hb
    rw [if_neg hb]
    unfold rNum at h ⊢
    split at h
    · rename_i h1; rw [if_pos h1]
    · rename_i h1
      rw [if_neg h1]
      split at h
      · rename_i h2; rw [if_pos h2]
      · exact absurd rfl h
theorem eNum_2 (xs : List UInt8) : (eNum xs 0 2).1 < 65536 := by
  unfold eNum
  rw [if_neg (by decide)]
  unfold rNum
  split
  · show (0 : Int) < 65536; decide
  · split
    · show (0 : Int) < 65536; decide
    · have h1 := num_lt (xs.take (2 : Int).toNat)
      have h2 : (xs.take (2 : Int).toNat).length ≤ 2 := by rw [List.length_take]; exact Nat.min_le_left _ _
      have h3 : 256 ^ (xs.take (2 : Int).toNat).length ≤ 256 ^ 2 := Nat.pow_le_pow_right (by decide) h2
      have h4 : num (xs.take (2 : Int).toNat) < 65536 := Nat.lt_of_lt_of_le h1 h3
      show ((num (xs.take (2 : Int).toNat) : Nat) : Int) < 65536
      omega
attribute [local irreducible] Code.wp wpList stepK Holds Val wpR Eff Eff0 Code.wpIn wpListIn stepI Exit.then Exit.inBlock bodyPost bodyPostM

theorem ddec_c (vb : Value) (xs : List UInt8) (hlen : xs.length ≤ 1000000) (w0 w : World) (G : Im) (F : Hp) (hv : EB G vb xs) (hs : Sat w0 w G F) :
    Calls Try.prog 8 #[vb] w fun e w' => ∃ G' u, e = .returned (.tuple #[u, I64 (decS xs).2]) ∧ Im.le G G' ∧ RecV 14 DlR G' u (decS xs).1 ∧ Sat w0 w' G' F := by
  refine f_enter (vs := [_]) Try.func8 rfl Try.ntmps8 (by simp) hs ?_
  repeat (first | (refine c_cons ?_; first | refine s_val (by first | exact v_move rfl | exact v_assign rfl | exact v_len rfl (by kernel_rfl) | exact v_lss rfl rfl | exact v_neq rfl rfl | exact v_eql rfl rfl | exact v_gtr rfl rfl | exact v_leq rfl rfl | exact v_geq rfl rfl | exact v_add rfl rfl (by omega) | exact v_sub rfl rfl (by omega) | exact v_not rfl | exact v_pick_t rfl rfl | exact v_pick_f rfl rfl | exact v_xor8 rfl rfl | exact v_makeFunc rfl rfl | exact v_extract rfl rfl | exact v_nilCheck rfl | exact v_max rfl rfl | exact v_min rfl rfl | exact v_eqb_same rfl rfl (by kernel_rfl) | exact v_eqb rfl rfl (by kernel_rfl) | exact v_u8int rfl (by kernel_rfl) (by kernel_rfl) | exact v_eqnilP rfl rfl (by kernel_rfl) | exact v_neqnilP rfl rfl (by kernel_rfl) | exact v_eqnilS rfl rfl (by kernel_rfl)) rfl rfl rfl ?_ | refine s_skip rfl rfl rfl ?_ | refine s_skip0 rfl rfl ?_) | refine c_nil ?_ | refine c_seq ?_ | refine c_region ?_ | refine c_block ?_ | refine c_skip ?_ | refine c_exit ?_ | refine c_ret ?_ | refine x_then ?_ | refine x_block ?_ | refine x_then_exit ?_ | refine x_then_ret ?_ | refine x_block_ret ?_ | refine x_block_eq ?_ | refine x_block_ne rfl ?_)
  refine c_cons (s_call (xs := [_]) rfl rfl rfl rfl rfl rfl (by kernel_rfl) (fun w hs => newEye_c _ xs hlen _ w _ _ hv hs) ?_)
  rintro e w' ⟨G1, ep, v1, rfl, hG1, hv1, hs'⟩; refine a_ret ?_ hs'; clear hs'
  repeat (first | (refine c_cons ?_; first | refine s_val (by first | exact v_move rfl | exact v_assign rfl | exact v_len rfl (by kernel_rfl) | exact v_lss rfl rfl | exact v_neq rfl rfl | exact v_eql rfl rfl | exact v_gtr rfl rfl | exact v_leq rfl rfl | exact v_geq rfl rfl | exact v_add rfl rfl (by omega) | exact v_sub rfl rfl (by omega) | exact v_not rfl | exact v_pick_t rfl rfl | exact v_pick_f rfl rfl | exact v_xor8 rfl rfl | exact v_makeFunc rfl rfl | exact v_extract rfl rfl | exact v_nilCheck rfl | exact v_max rfl rfl | exact v_min rfl rfl | exact v_eqb_same rfl rfl (by kernel_rfl) | exact v_eqb rfl rfl (by kernel_rfl) | exact v_u8int rfl (by kernel_rfl) (by kernel_rfl) | exact v_eqnilP rfl rfl (by kernel_rfl) | exact v_neqnilP rfl rfl (by kernel_rfl) | exact v_eqnilS rfl rfl (by kernel_rfl)) rfl rfl rfl ?_ | refine s_skip rfl rfl rfl ?_ | refine s_skip0 rfl rfl ?_) | refine c_nil ?_ | refine c_seq ?_ | refine c_region ?_ | refine c_block ?_ | refine c_skip ?_ | refine c_exit ?_ | refine c_ret ?_ | refine x_then ?_ | refine x_block ?_ | refine x_then_exit ?_ | refine x_then_ret ?_ | refine x_block_ret ?_ | refine x_block_eq ?_ | refine x_block_ne rfl ?_)
  refine c_cons (s_call (xs := [_, _]) rfl rfl rfl rfl rfl rfl (by kernel_rfl) (fun w hs => enum_c ep _ 0 xs 2 _ w _ _ hv1 hs) ?_)
  have hn0 := eNum_pos xs 0 2
  have hn1 := eNum_2 xs
  have hnb := @eNum_bad0 xs 0 2
  have hsh := @decS_short xs
  have hlo := @decS_long xs
  have hba := @decS_bad xs
  have hal := @decS_all xs
  generalize eNum xs 0 2 = a at hn0 hn1 hnb hsh hlo hba hal ⊢
  generalize decS xs = D at hsh hlo hba hal ⊢
  rintro e w' ⟨v2, rfl, hv2, hs'⟩; refine a_ret ?_ hs'; clear hs'
  repeat (first | (refine c_cons ?_; first | refine s_val (by first | exact v_move rfl | exact v_assign rfl | exact v_len rfl (by kernel_rfl) | exact v_lss rfl rfl | exact v_neq rfl rfl | exact v_eql rfl rfl | exact v_gtr rfl rfl | exact v_leq rfl rfl | exact v_geq rfl rfl | exact v_add rfl rfl (by omega) | exact v_sub rfl rfl (by omega) | exact v_not rfl | exact v_pick_t rfl rfl | exact v_pick_f rfl rfl | exact v_xor8 rfl rfl | exact v_makeFunc rfl rfl | exact v_extract rfl rfl | exact v_nilCheck rfl | exact v_max rfl rfl | exact v_min rfl rfl | exact v_eqb_same rfl rfl (by kernel_rfl) | exact v_eqb rfl rfl (by kernel_rfl) | exact v_u8int rfl (by kernel_rfl) (by kernel_rfl) | exact v_eqnilP rfl rfl (by kernel_rfl) | exact v_neqnilP rfl rfl (by kernel_rfl) | exact v_eqnilS rfl rfl (by kernel_rfl)) rfl rfl rfl ?_ | refine s_skip rfl rfl rfl ?_ | refine s_skip0 rfl rfl ?_) | refine c_nil ?_ | refine c_seq ?_ | refine c_region ?_ | refine c_block ?_ | refine c_skip ?_ | refine c_exit ?_ | refine c_ret ?_ | refine x_then ?_ | refine x_block ?_ | refine x_then_exit ?_ | refine x_then_ret ?_ | refine x_block_ret ?_ | refine x_block_eq ?_ | refine x_block_ne rfl ?_)
  refine c_cond_d rfl (fun c1 => ?_) (fun c1 => ?_)
  · -- then
    have h0 : a.2.2 = 0 := Decidable.byContradiction fun h => by have := hnb h; omega
    rw [hlo h0 c1]
    repeat (first | (refine c_cons ?_; first | refine s_val (by first | exact v_move rfl | exact v_assign rfl | exact v_len rfl (by kernel_rfl) | exact v_lss rfl rfl | exact v_neq rfl rfl | exact v_eql rfl rfl | exact v_gtr rfl rfl | exact v_leq rfl rfl | exact v_geq rfl rfl | exact v_add rfl rfl (by omega) | exact v_sub rfl rfl (by omega) | exact v_not rfl | exact v_pick_t rfl rfl | exact v_pick_f rfl rfl | exact v_xor8 rfl rfl | exact v_makeFunc rfl rfl | exact v_extract rfl rfl | exact v_nilCheck rfl | exact v_max rfl rfl | exact v_min rfl rfl | exact v_eqb_same rfl rfl (by kernel_rfl) | exact v_eqb rfl rfl (by kernel_rfl) | exact v_u8int rfl (by kernel_rfl) (by kernel_rfl) | exact v_eqnilP rfl rfl (by kernel_rfl) | exact v_neqnilP rfl rfl (by kernel_rfl) | exact v_eqnilS rfl rfl (by kernel_rfl)) rfl rfl rfl ?_ | refine s_skip rfl rfl rfl ?_ | refine s_skip0 rfl rfl ?_) | refine c_nil ?_ | refine c_seq ?_ | refine c_region ?_ | refine c_block ?_ | refine c_skip ?_ | refine c_exit ?_ | refine c_ret ?_ | refine x_then ?_ | refine x_block ?_ | refine x_then_exit ?_ | refine x_then_ret ?_ | refine x_block_ret ?_ | refine x_block_eq ?_ | refine x_block_ne rfl ?_)
    exact f_ret2 rfl rfl rfl (fun w hs => ⟨G1, _, rfl, hG1, RecV.nil, hs.tl⟩)
  have hz : a.2.2 ≠ 0 → a.1 = 0 := hnb
  repeat (first | (refine c_cons ?_; first | refine s_val (by first | exact v_move rfl | exact v_assign rfl | exact v_len rfl (by kernel_rfl) | exact v_lss rfl rfl | exact v_neq rfl rfl | exact v_eql rfl rfl | exact v_gtr rfl rfl | exact v_leq rfl rfl | exact v_geq rfl rfl | exact v_add rfl rfl (by omega) | exact v_sub rfl rfl (by omega) | exact v_not rfl | exact v_pick_t rfl rfl | exact v_pick_f rfl rfl | exact v_xor8 rfl rfl | exact v_makeFunc rfl rfl | exact v_extract rfl rfl | exact v_nilCheck rfl | exact v_max rfl rfl | exact v_min rfl rfl | exact v_eqb_same rfl rfl (by kernel_rfl) | exact v_eqb rfl rfl (by kernel_rfl) | exact v_u8int rfl (by kernel_rfl) (by kernel_rfl) | exact v_eqnilP rfl rfl (by kernel_rfl) | exact v_neqnilP rfl rfl (by kernel_rfl) | exact v_eqnilS rfl rfl (by kernel_rfl)) rfl rfl rfl ?_ | refine s_skip rfl rfl rfl ?_ | refine s_skip0 rfl rfl ?_) | refine c_nil ?_ | refine c_seq ?_ | refine c_region ?_ | refine c_block ?_ | refine c_skip ?_ | refine c_exit ?_ | refine c_ret ?_ | refine x_then ?_ | refine x_block ?_ | refine x_then_exit ?_ | refine x_then_ret ?_ | refine x_block_ret ?_ | refine x_block_eq ?_ | refine x_block_ne rfl ?_)
  refine c_loop (α := Nat × Value × Value × Hp) (fun x => [(4, Pt ep 0), (6, x.2.2.1), (16, I64 a.1), (17, I64 x.1)]) (fun _ => G1) (fun x => EyO ep x.2.1 a.2.2 :: (x.2.2.2 ++ F)) (fun x => (x.1 : Int) ≤ a.1 ∧ EB G1 x.2.1 (after x.1 a.2.1) ∧ ROwn 14 DlR 32 G1 x.2.2.1 (redd x.1 a.2.1) x.2.2.2 ∧ good x.1 a.2.1) (fun x => a.1.toNat - x.1) (0, v2, .slice none 0 0, []) ⟨hn0, hv2, ROwn.zero _ _, trivial⟩ ?_ ?_
  · exact n_at ⟨rfl, rfl, rfl, rfl, trivial⟩ (fun f => by first | omega | (simp only [List.map_append, List.map_cons, List.map_nil, List.sum_append, List.sum_cons, List.sum_nil, List.append_nil, List.nil_append]; omega))
  rintro ⟨i, v, vl, B⟩ ⟨hi, hvi, ho, hg⟩
  dsimp only at hi hvi ho hg ⊢
  repeat (first | (refine c_cons ?_; first | refine s_val (by first | exact v_move rfl | exact v_assign rfl | exact v_len rfl (by kernel_rfl) | exact v_lss rfl rfl | exact v_neq rfl rfl | exact v_eql rfl rfl | exact v_gtr rfl rfl | exact v_leq rfl rfl | exact v_geq rfl rfl | exact v_add rfl rfl (by omega) | exact v_sub rfl rfl (by omega) | exact v_not rfl | exact v_pick_t rfl rfl | exact v_pick_f rfl rfl | exact v_xor8 rfl rfl | exact v_makeFunc rfl rfl | exact v_extract rfl rfl | exact v_nilCheck rfl | exact v_max rfl rfl | exact v_min rfl rfl | exact v_eqb_same rfl rfl (by kernel_rfl) | exact v_eqb rfl rfl (by kernel_rfl) | exact v_u8int rfl (by kernel_rfl) (by kernel_rfl) | exact v_eqnilP rfl rfl (by kernel_rfl) | exact v_neqnilP rfl rfl (by kernel_rfl) | exact v_eqnilS rfl rfl (by kernel_rfl)) rfl rfl rfl ?_ | refine s_skip rfl rfl rfl ?_ | refine s_skip0 rfl rfl ?_) | refine c_nil ?_ | refine c_seq ?_ | refine c_region ?_ | refine c_block ?_ | refine c_skip ?_ | refine c_exit ?_ | refine c_ret ?_ | refine x_then ?_ | refine x_block ?_ | refine x_then_exit ?_ | refine x_then_ret ?_ | refine x_block_ret ?_ | refine x_block_eq ?_ | refine x_block_ne rfl ?_)
  refine c_cond_d rfl (fun c2 => ?_) (fun c2 => ?_)
  · -- then
    have h0 : a.2.2 = 0 := Decidable.byContradiction fun h => by have := hz h; omega
    rw [h0]
    repeat (first | (refine c_cons ?_; first | refine s_val (by first | exact v_move rfl | exact v_assign rfl | exact v_len rfl (by kernel_rfl) | exact v_lss rfl rfl | exact v_neq rfl rfl | exact v_eql rfl rfl | exact v_gtr rfl rfl | exact v_leq rfl rfl | exact v_geq rfl rfl | exact v_add rfl rfl (by omega) | exact v_sub rfl rfl (by omega) | exact v_not rfl | exact v_pick_t rfl rfl | exact v_pick_f rfl rfl | exact v_xor8 rfl rfl | exact v_makeFunc rfl rfl | exact v_extract rfl rfl | exact v_nilCheck rfl | exact v_max rfl rfl | exact v_min rfl rfl | exact v_eqb_same rfl rfl (by kernel_rfl) | exact v_eqb rfl rfl (by kernel_rfl) | exact v_u8int rfl (by kernel_rfl) (by kernel_rfl) | exact v_eqnilP rfl rfl (by kernel_rfl) | exact v_neqnilP rfl rfl (by kernel_rfl) | exact v_eqnilS rfl rfl (by kernel_rfl)) rfl rfl rfl ?_ | refine s_skip rfl rfl rfl ?_ | refine s_skip0 rfl rfl ?_) | refine c_nil ?_ | refine c_seq ?_ | refine c_region ?_ | refine c_block ?_ | refine c_skip ?_ | refine c_exit ?_ | refine c_ret ?_ | refine x_then ?_ | refine x_block ?_ | refine x_then_exit ?_ | refine x_then_ret ?_ | refine x_block_ret ?_ | refine x_block_eq ?_ | refine x_block_ne rfl ?_)
    refine c_cons (s_call (xs := [_]) rfl rfl rfl rfl rfl rfl (by kernel_rfl) (fun w hs => dget_c ep _ (after i a.2.1) _ w _ _ hvi hs) ?_)
    have has := after_snoc i a.2.1
    have hrs := redd_snoc i a.2.1
    have hgs := good_snoc i a.2.1 hg
    have hb2 := hba h0 c1 i hg c2
    generalize getDl (after i a.2.1) = r at has hrs hgs hb2 ⊢
    rintro e w' ⟨v3, b3, rfl, hok, hs'⟩; refine a_ret ?_ hs'; clear hs'
    repeat (first | (refine c_cons ?_; first | refine s_val (by first | exact v_move rfl | exact v_assign rfl | exact v_len rfl (by kernel_rfl) | exact v_lss rfl rfl | exact v_neq rfl rfl | exact v_eql rfl rfl | exact v_gtr rfl rfl | exact v_leq rfl rfl | exact v_geq rfl rfl | exact v_add rfl rfl (by omega) | exact v_sub rfl rfl (by omega) | exact v_not rfl | exact v_pick_t rfl rfl | exact v_pick_f rfl rfl | exact v_xor8 rfl rfl | exact v_makeFunc rfl rfl | exact v_extract rfl rfl | exact v_nilCheck rfl | exact v_max rfl rfl | exact v_min rfl rfl | exact v_eqb_same rfl rfl (by kernel_rfl) | exact v_eqb rfl rfl (by kernel_rfl) | exact v_u8int rfl (by kernel_rfl) (by kernel_rfl) | exact v_eqnilP rfl rfl (by kernel_rfl) | exact v_neqnilP rfl rfl (by kernel_rfl) | exact v_eqnilS rfl rfl (by kernel_rfl)) rfl rfl rfl ?_ | refine s_skip rfl rfl rfl ?_ | refine s_skip0 rfl rfl ?_) | refine c_nil ?_ | refine c_seq ?_ | refine c_region ?_ | refine c_block ?_ | refine c_skip ?_ | refine c_exit ?_ | refine c_ret ?_ | refine x_then ?_ | refine x_block ?_ | refine x_then_exit ?_ | refine x_then_ret ?_ | refine x_block_ret ?_ | refine x_block_eq ?_ | refine x_block_ne rfl ?_)
    refine c_cons (s_allocA Zs (by kernel_rfl) rfl rfl fun b1 => ?_)
    refine c_cons (s_storeA (vs := (if r.2.2 = 0 then r.1 else zD).cells) rfl rfl rfl .head (by kernel_rfl) (by simp [Value.oneCell']) rfl ?_)
    repeat (first | (refine c_cons ?_; first | refine s_val (by first | exact v_move rfl | exact v_assign rfl | exact v_len rfl (by kernel_rfl) | exact v_lss rfl rfl | exact v_neq rfl rfl | exact v_eql rfl rfl | exact v_gtr rfl rfl | exact v_leq rfl rfl | exact v_geq rfl rfl | exact v_add rfl rfl (by omega) | exact v_sub rfl rfl (by omega) | exact v_not rfl | exact v_pick_t rfl rfl | exact v_pick_f rfl rfl | exact v_xor8 rfl rfl | exact v_makeFunc rfl rfl | exact v_extract rfl rfl | exact v_nilCheck rfl | exact v_max rfl rfl | exact v_min rfl rfl | exact v_eqb_same rfl rfl (by kernel_rfl) | exact v_eqb rfl rfl (by kernel_rfl) | exact v_u8int rfl (by kernel_rfl) (by kernel_rfl) | exact v_eqnilP rfl rfl (by kernel_rfl) | exact v_neqnilP rfl rfl (by kernel_rfl) | exact v_eqnilS rfl rfl (by kernel_rfl)) rfl rfl rfl ?_ | refine s_skip rfl rfl rfl ?_ | refine s_skip0 rfl rfl ?_) | refine c_nil ?_ | refine c_seq ?_ | refine c_region ?_ | refine c_block ?_ | refine c_skip ?_ | refine c_exit ?_ | refine c_ret ?_ | refine x_then ?_ | refine x_block ?_ | refine x_then_exit ?_ | refine x_then_ret ?_ | refine x_block_ret ?_ | refine x_block_eq ?_ | refine x_block_ne rfl ?_)
    refine c_cond_d rfl (fun c3 => ?_) (fun c3 => ?_)
    · -- then
      rw [hb2 c3]
      repeat (first | (refine c_cons ?_; first | refine s_val (by first | exact v_move rfl | exact v_assign rfl | exact v_len rfl (by kernel_rfl) | exact v_lss rfl rfl | exact v_neq rfl rfl | exact v_eql rfl rfl | exact v_gtr rfl rfl | exact v_leq rfl rfl | exact v_geq rfl rfl | exact v_add rfl rfl (by omega) | exact v_sub rfl rfl (by omega) | exact v_not rfl | exact v_pick_t rfl rfl | exact v_pick_f rfl rfl | exact v_xor8 rfl rfl | exact v_makeFunc rfl rfl | exact v_extract rfl rfl | exact v_nilCheck rfl | exact v_max rfl rfl | exact v_min rfl rfl | exact v_eqb_same rfl rfl (by kernel_rfl) | exact v_eqb rfl rfl (by kernel_rfl) | exact v_u8int rfl (by kernel_rfl) (by kernel_rfl) | exact v_eqnilP rfl rfl (by kernel_rfl) | exact v_neqnilP rfl rfl (by kernel_rfl) | exact v_eqnilS rfl rfl (by kernel_rfl)) rfl rfl rfl ?_ | refine s_skip rfl rfl rfl ?_ | refine s_skip0 rfl rfl ?_) | refine c_nil ?_ | refine c_seq ?_ | refine c_region ?_ | refine c_block ?_ | refine c_skip ?_ | refine c_exit ?_ | refine c_ret ?_ | refine x_then ?_ | refine x_block ?_ | refine x_then_exit ?_ | refine x_then_ret ?_ | refine x_block_ret ?_ | refine x_block_eq ?_ | refine x_block_ne rfl ?_)
      exact f_ret2 rfl rfl rfl (fun w hs => ⟨G1, _, rfl, hG1, RecV.nil, hs.sb⟩)
    have c3' : r.2.2 = 0 := by omega
    obtain ⟨rfl, hv4⟩ := hok c3'
    rw [if_pos c3']
    obtain ⟨x, hx⟩ : ∃ x, x = r.1 := ⟨_, rfl⟩
    rw [← hx] at hrs ⊢
    obtain ⟨L, hoL, hRL⟩ := ho
    have hrl := redd_len i a.2.1
    repeat (first | (refine c_cons ?_; first | refine s_val (by first | exact v_move rfl | exact v_assign rfl | exact v_len rfl (by kernel_rfl) | exact v_lss rfl rfl | exact v_neq rfl rfl | exact v_eql rfl rfl | exact v_gtr rfl rfl | exact v_leq rfl rfl | exact v_geq rfl rfl | exact v_add rfl rfl (by omega) | exact v_sub rfl rfl (by omega) | exact v_not rfl | exact v_pick_t rfl rfl | exact v_pick_f rfl rfl | exact v_xor8 rfl rfl | exact v_makeFunc rfl rfl | exact v_extract rfl rfl | exact v_nilCheck rfl | exact v_max rfl rfl | exact v_min rfl rfl | exact v_eqb_same rfl rfl (by kernel_rfl) | exact v_eqb rfl rfl (by kernel_rfl) | exact v_u8int rfl (by kernel_rfl) (by kernel_rfl) | exact v_eqnilP rfl rfl (by kernel_rfl) | exact v_neqnilP rfl rfl (by kernel_rfl) | exact v_eqnilS rfl rfl (by kernel_rfl)) rfl rfl rfl ?_ | refine s_skip rfl rfl rfl ?_ | refine s_skip0 rfl rfl ?_) | refine c_nil ?_ | refine c_seq ?_ | refine c_region ?_ | refine c_block ?_ | refine c_skip ?_ | refine c_exit ?_ | refine c_ret ?_ | refine x_then ?_ | refine x_block ?_ | refine x_then_exit ?_ | refine x_then_ret ?_ | refine x_block_ret ?_ | refine x_block_eq ?_ | refine x_block_ne rfl ?_)
    refine c_cons (s_val (v_loadAgg (vs := x.cells) rfl (by kernel_rfl) (by kernel_rfl) rfl (fun j u hj => (Cel.all hj))) rfl rfl rfl ?_)
    refine c_cons (s_litN [_] (z := .agg #[I64 0, I64 0, I64 0, I64 0, I64 0, I64 0, I64 0, I64 0, I64 0, I64 0, I64 0, I64 0, I64 0, I64 0]) (bs := 112) (e := 32) (sz := 14) (by kernel_rfl) rfl rfl rfl rfl (by simp [Value.cells]) (by decide) (by decide) (by decide) fun b2 => ?_)
    repeat (first | (refine c_cons ?_; first | refine s_val (by first | exact v_move rfl | exact v_assign rfl | exact v_len rfl (by kernel_rfl) | exact v_lss rfl rfl | exact v_neq rfl rfl | exact v_eql rfl rfl | exact v_gtr rfl rfl | exact v_leq rfl rfl | exact v_geq rfl rfl | exact v_add rfl rfl (by omega) | exact v_sub rfl rfl (by omega) | exact v_not rfl | exact v_pick_t rfl rfl | exact v_pick_f rfl rfl | exact v_xor8 rfl rfl | exact v_makeFunc rfl rfl | exact v_extract rfl rfl | exact v_nilCheck rfl | exact v_max rfl rfl | exact v_min rfl rfl | exact v_eqb_same rfl rfl (by kernel_rfl) | exact v_eqb rfl rfl (by kernel_rfl) | exact v_u8int rfl (by kernel_rfl) (by kernel_rfl) | exact v_eqnilP rfl rfl (by kernel_rfl) | exact v_neqnilP rfl rfl (by kernel_rfl) | exact v_eqnilS rfl rfl (by kernel_rfl)) rfl rfl rfl ?_ | refine s_skip rfl rfl rfl ?_ | refine s_skip0 rfl rfl ?_) | refine c_nil ?_ | refine c_seq ?_ | refine c_region ?_ | refine c_block ?_ | refine c_skip ?_ | refine c_exit ?_ | refine c_ret ?_ | refine x_then ?_ | refine x_block ?_ | refine x_then_exit ?_ | refine x_then_ret ?_ | refine x_block_ret ?_ | refine x_block_eq ?_ | refine x_block_ne rfl ?_)
    refine c_cons (s_append (e := 32) (z := .agg #[I64 0, I64 0, I64 0, I64 0, I64 0, I64 0, I64 0, I64 0, I64 0, I64 0, I64 0, I64 0, I64 0, I64 0]) (sz := 14) (bs := 112) (by kernel_rfl) rfl rfl rfl rfl hoL (Chunk.tail (Chunk.tail (Chunk.tail Chunk.head))) (news := x.cells) (SV.block .head (by simp [maxLen])) rfl (by decide) rfl (by simp [Value.oneCell']) (by simp; omega) (by simp; omega) fun u3 B3 hown3 => ?_)
    repeat (first | (refine c_cons ?_; first | refine s_val (by first | exact v_move rfl | exact v_assign rfl | exact v_len rfl (by kernel_rfl) | exact v_lss rfl rfl | exact v_neq rfl rfl | exact v_eql rfl rfl | exact v_gtr rfl rfl | exact v_leq rfl rfl | exact v_geq rfl rfl | exact v_add rfl rfl (by omega) | exact v_sub rfl rfl (by omega) | exact v_not rfl | exact v_pick_t rfl rfl | exact v_pick_f rfl rfl | exact v_xor8 rfl rfl | exact v_makeFunc rfl rfl | exact v_extract rfl rfl | exact v_nilCheck rfl | exact v_max rfl rfl | exact v_min rfl rfl | exact v_eqb_same rfl rfl (by kernel_rfl) | exact v_eqb rfl rfl (by kernel_rfl) | exact v_u8int rfl (by kernel_rfl) (by kernel_rfl) | exact v_eqnilP rfl rfl (by kernel_rfl) | exact v_neqnilP rfl rfl (by kernel_rfl) | exact v_eqnilS rfl rfl (by kernel_rfl)) rfl rfl rfl ?_ | refine s_skip rfl rfl rfl ?_ | refine s_skip0 rfl rfl ?_) | refine c_nil ?_ | refine c_seq ?_ | refine c_region ?_ | refine c_block ?_ | refine c_skip ?_ | refine c_exit ?_ | refine c_ret ?_ | refine x_then ?_ | refine x_block ?_ | refine x_then_exit ?_ | refine x_then_ret ?_ | refine x_block_ret ?_ | refine x_block_eq ?_ | refine x_block_ne rfl ?_)
    exact n_next (x := (i, v, vl, B)) (i + 1, v3, u3, B3) ⟨by omega, by rw [has]; exact hv4, ⟨L ++ x.cells, by dsimp only; rw [hrs, List.length_append]; exact hown3, by dsimp only; rw [hrs]; exact hRL.append (Recs.one rfl rfl)⟩, hgs c3'⟩ (by dsimp only; omega) ⟨rfl, rfl, rfl, rfl, trivial⟩ rfl (fun f => by first | omega | (simp only [List.map_append, List.map_cons, List.map_nil, List.sum_append, List.sum_cons, List.sum_nil, List.append_nil, List.nil_append]; omega))
  have hi2 : a.1.toNat = i := by omega
  rw [hi2] at hal
  repeat (first | (refine c_cons ?_; first | refine s_val (by first | exact v_move rfl | exact v_assign rfl | exact v_len rfl (by kernel_rfl) | exact v_lss rfl rfl | exact v_neq rfl rfl | exact v_eql rfl rfl | exact v_gtr rfl rfl | exact v_leq rfl rfl | exact v_geq rfl rfl | exact v_add rfl rfl (by omega) | exact v_sub rfl rfl (by omega) | exact v_not rfl | exact v_pick_t rfl rfl | exact v_pick_f rfl rfl | exact v_xor8 rfl rfl | exact v_makeFunc rfl rfl | exact v_extract rfl rfl | exact v_nilCheck rfl | exact v_max rfl rfl | exact v_min rfl rfl | exact v_eqb_same rfl rfl (by kernel_rfl) | exact v_eqb rfl rfl (by kernel_rfl) | exact v_u8int rfl (by kernel_rfl) (by kernel_rfl) | exact v_eqnilP rfl rfl (by kernel_rfl) | exact v_neqnilP rfl rfl (by kernel_rfl) | exact v_eqnilS rfl rfl (by kernel_rfl)) rfl rfl rfl ?_ | refine s_skip rfl rfl rfl ?_ | refine s_skip0 rfl rfl ?_) | refine c_nil ?_ | refine c_seq ?_ | refine c_region ?_ | refine c_block ?_ | refine c_skip ?_ | refine c_exit ?_ | refine c_ret ?_ | refine x_then ?_ | refine x_block ?_ | refine x_then_exit ?_ | refine x_then_ret ?_ | refine x_block_ret ?_ | refine x_block_eq ?_ | refine x_block_ne rfl ?_)
  refine c_cons (s_call (xs := [_]) rfl rfl rfl rfl rfl rfl (by kernel_rfl) (fun w hs => eend_c ep _ a.2.2 (after i a.2.1) _ w _ _ hvi hs) ?_)
  rintro e w' ⟨rfl, hs'⟩; refine a_ret ?_ hs'; clear hs'
  by_cases h0 : a.2.2 = 0
  · rw [if_neg (show ¬ a.2.2 ≠ 0 by omega)]
    rw [hal h0 c1 hg]
    obtain ⟨L, hoL, hRL⟩ := ho
    by_cases h3 : 0 < (after i a.2.1).length
    · rw [if_pos h3, if_pos h3]
      repeat (first | (refine c_cons ?_; first | refine s_val (by first | exact v_move rfl | exact v_assign rfl | exact v_len rfl (by kernel_rfl) | exact v_lss rfl rfl | exact v_neq rfl rfl | exact v_eql rfl rfl | exact v_gtr rfl rfl | exact v_leq rfl rfl | exact v_geq rfl rfl | exact v_add rfl rfl (by omega) | exact v_sub rfl rfl (by omega) | exact v_not rfl | exact v_pick_t rfl rfl | exact v_pick_f rfl rfl | exact v_xor8 rfl rfl | exact v_makeFunc rfl rfl | exact v_extract rfl rfl | exact v_nilCheck rfl | exact v_max rfl rfl | exact v_min rfl rfl | exact v_eqb_same rfl rfl (by kernel_rfl) | exact v_eqb rfl rfl (by kernel_rfl) | exact v_u8int rfl (by kernel_rfl) (by kernel_rfl) | exact v_eqnilP rfl rfl (by kernel_rfl) | exact v_neqnilP rfl rfl (by kernel_rfl) | exact v_eqnilS rfl rfl (by kernel_rfl)) rfl rfl rfl ?_ | refine s_skip rfl rfl rfl ?_ | refine s_skip0 rfl rfl ?_) | refine c_nil ?_ | refine c_seq ?_ | refine c_region ?_ | refine c_block ?_ | refine c_skip ?_ | refine c_exit ?_ | refine c_ret ?_ | refine x_then ?_ | refine x_block ?_ | refine x_then_exit ?_ | refine x_then_ret ?_ | refine x_block_ret ?_ | refine x_block_eq ?_ | refine x_block_ne rfl ?_)
      refine c_cond_d rfl (fun c4 => ?_) (fun c4 => absurd c4 (by decide))
      repeat (first | (refine c_cons ?_; first | refine s_val (by first | exact v_move rfl | exact v_assign rfl | exact v_len rfl (by kernel_rfl) | exact v_lss rfl rfl | exact v_neq rfl rfl | exact v_eql rfl rfl | exact v_gtr rfl rfl | exact v_leq rfl rfl | exact v_geq rfl rfl | exact v_add rfl rfl (by omega) | exact v_sub rfl rfl (by omega) | exact v_not rfl | exact v_pick_t rfl rfl | exact v_pick_f rfl rfl | exact v_xor8 rfl rfl | exact v_makeFunc rfl rfl | exact v_extract rfl rfl | exact v_nilCheck rfl | exact v_max rfl rfl | exact v_min rfl rfl | exact v_eqb_same rfl rfl (by kernel_rfl) | exact v_eqb rfl rfl (by kernel_rfl) | exact v_u8int rfl (by kernel_rfl) (by kernel_rfl) | exact v_eqnilP rfl rfl (by kernel_rfl) | exact v_neqnilP rfl rfl (by kernel_rfl) | exact v_eqnilS rfl rfl (by kernel_rfl)) rfl rfl rfl ?_ | refine s_skip rfl rfl rfl ?_ | refine s_skip0 rfl rfl ?_) | refine c_nil ?_ | refine c_seq ?_ | refine c_region ?_ | refine c_block ?_ | refine c_skip ?_ | refine c_exit ?_ | refine c_ret ?_ | refine x_then ?_ | refine x_block ?_ | refine x_then_exit ?_ | refine x_then_ret ?_ | refine x_block_ret ?_ | refine x_block_eq ?_ | refine x_block_ne rfl ?_)
      exact f_ret2 rfl rfl rfl (fun w hs => ⟨G1, _, rfl, hG1, RecV.nil, hs.sb⟩)
    · rw [if_neg h3, if_neg h3]
      repeat (first | (refine c_cons ?_; first | refine s_val (by first | exact v_move rfl | exact v_assign rfl | exact v_len rfl (by kernel_rfl) | exact v_lss rfl rfl | exact v_neq rfl rfl | exact v_eql rfl rfl | exact v_gtr rfl rfl | exact v_leq rfl rfl | exact v_geq rfl rfl | exact v_add rfl rfl (by omega) | exact v_sub rfl rfl (by omega) | exact v_not rfl | exact v_pick_t rfl rfl | exact v_pick_f rfl rfl | exact v_xor8 rfl rfl | exact v_makeFunc rfl rfl | exact v_extract rfl rfl | exact v_nilCheck rfl | exact v_max rfl rfl | exact v_min rfl rfl | exact v_eqb_same rfl rfl (by kernel_rfl) | exact v_eqb rfl rfl (by kernel_rfl) | exact v_u8int rfl (by kernel_rfl) (by kernel_rfl) | exact v_eqnilP rfl rfl (by kernel_rfl) | exact v_neqnilP rfl rfl (by kernel_rfl) | exact v_eqnilS rfl rfl (by kernel_rfl)) rfl rfl rfl ?_ | refine s_skip rfl rfl rfl ?_ | refine s_skip0 rfl rfl ?_) | refine c_nil ?_ | refine c_seq ?_ | refine c_region ?_ | refine c_block ?_ | refine c_skip ?_ | refine c_exit ?_ | refine c_ret ?_ | refine x_then ?_ | refine x_block ?_ | refine x_then_exit ?_ | refine x_then_ret ?_ | refine x_block_ret ?_ | refine x_block_eq ?_ | refine x_block_ne rfl ?_)
      refine c_cond_d rfl (fun c4 => absurd c4 (by decide)) (fun c4 => ?_)
      refine c_freezeO hoL (Chunk.tail Chunk.head) fun G2 hG2 hsv => ?_
      repeat (first | (refine c_cons ?_; first | refine s_val (by first | exact v_move rfl | exact v_assign rfl | exact v_len rfl (by kernel_rfl) | exact v_lss rfl rfl | exact v_neq rfl rfl | exact v_eql rfl rfl | exact v_gtr rfl rfl | exact v_leq rfl rfl | exact v_geq rfl rfl | exact v_add rfl rfl (by omega) | exact v_sub rfl rfl (by omega) | exact v_not rfl | exact v_pick_t rfl rfl | exact v_pick_f rfl rfl | exact v_xor8 rfl rfl | exact v_makeFunc rfl rfl | exact v_extract rfl rfl | exact v_nilCheck rfl | exact v_max rfl rfl | exact v_min rfl rfl | exact v_eqb_same rfl rfl (by kernel_rfl) | exact v_eqb rfl rfl (by kernel_rfl) | exact v_u8int rfl (by kernel_rfl) (by kernel_rfl) | exact v_eqnilP rfl rfl (by kernel_rfl) | exact v_neqnilP rfl rfl (by kernel_rfl) | exact v_eqnilS rfl rfl (by kernel_rfl)) rfl rfl rfl ?_ | refine s_skip rfl rfl rfl ?_ | refine s_skip0 rfl rfl ?_) | refine c_nil ?_ | refine c_seq ?_ | refine c_region ?_ | refine c_block ?_ | refine c_skip ?_ | refine c_exit ?_ | refine c_ret ?_ | refine x_then ?_ | refine x_block ?_ | refine x_then_exit ?_ | refine x_then_ret ?_ | refine x_block_ret ?_ | refine x_block_eq ?_ | refine x_block_ne rfl ?_)
      exact f_ret2 rfl rfl rfl (fun w hs => ⟨G2, _, rfl, hG1.trans hG2, ⟨L, hsv, hRL⟩, hs.tl⟩)
  · rw [if_pos h0, hsh h0]
    repeat (first | (refine c_cons ?_; first | refine s_val (by first | exact v_move rfl | exact v_assign rfl | exact v_len rfl (by kernel_rfl) | exact v_lss rfl rfl | exact v_neq rfl rfl | exact v_eql rfl rfl | exact v_gtr rfl rfl | exact v_leq rfl rfl | exact v_geq rfl rfl | exact v_add rfl rfl (by omega) | exact v_sub rfl rfl (by omega) | exact v_not rfl | exact v_pick_t rfl rfl | exact v_pick_f rfl rfl | exact v_xor8 rfl rfl | exact v_makeFunc rfl rfl | exact v_extract rfl rfl | exact v_nilCheck rfl | exact v_max rfl rfl | exact v_min rfl rfl | exact v_eqb_same rfl rfl (by kernel_rfl) | exact v_eqb rfl rfl (by kernel_rfl) | exact v_u8int rfl (by kernel_rfl) (by kernel_rfl) | exact v_eqnilP rfl rfl (by kernel_rfl) | exact v_neqnilP rfl rfl (by kernel_rfl) | exact v_eqnilS rfl rfl (by kernel_rfl)) rfl rfl rfl ?_ | refine s_skip rfl rfl rfl ?_ | refine s_skip0 rfl rfl ?_) | refine c_nil ?_ | refine c_seq ?_ | refine c_region ?_ | refine c_block ?_ | refine c_skip ?_ | refine c_exit ?_ | refine c_ret ?_ | refine x_then ?_ | refine x_block ?_ | refine x_then_exit ?_ | refine x_then_ret ?_ | refine x_block_ret ?_ | refine x_block_eq ?_ | refine x_block_ne rfl ?_)
    refine c_cond_d rfl (fun c4 => ?_) (fun c4 => absurd h0 (by omega))
    repeat (first | (refine c_cons ?_; first | refine s_val (by first | exact v_move rfl | exact v_assign rfl | exact v_len rfl (by kernel_rfl) | exact v_lss rfl rfl | exact v_neq rfl rfl | exact v_eql rfl rfl | exact v_gtr rfl rfl | exact v_leq rfl rfl | exact v_geq rfl rfl | exact v_add rfl rfl (by omega) | exact v_sub rfl rfl (by omega) | exact v_not rfl | exact v_pick_t rfl rfl | exact v_pick_f rfl rfl | exact v_xor8 rfl rfl | exact v_makeFunc rfl rfl | exact v_extract rfl rfl | exact v_nilCheck rfl | exact v_max rfl rfl | exact v_min rfl rfl | exact v_eqb_same rfl rfl (by kernel_rfl) | exact v_eqb rfl rfl (by kernel_rfl) | exact v_u8int rfl (by kernel_rfl) (by kernel_rfl) | exact v_eqnilP rfl rfl (by kernel_rfl) | exact v_neqnilP rfl rfl (by kernel_rfl) | exact v_eqnilS rfl rfl (by kernel_rfl)) rfl rfl rfl ?_ | refine s_skip rfl rfl rfl ?_ | refine s_skip0 rfl rfl ?_) | refine c_nil ?_ | refine c_seq ?_ | refine c_region ?_ | refine c_block ?_ | refine c_skip ?_ | refine c_exit ?_ | refine c_ret ?_ | refine x_then ?_ | refine x_block ?_ | refine x_then_exit ?_ | refine x_then_ret ?_ | refine x_block_ret ?_ | refine x_block_eq ?_ | refine x_block_ne rfl ?_)
    exact f_ret2 rfl rfl rfl (fun w hs => ⟨G1, _, rfl, hG1, RecV.nil, hs.sb⟩)

end Go.Proofs.Ytocnpgpakindfaa
