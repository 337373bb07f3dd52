/- The reference's eye. Pointers, read. The walks of package blocks: what is small. The arguments that a law is given, as slots and memory that nobody writes. Arguments that are slices of structs. The walks of package wire's pen. The walks of package wire's pen: pointers, maps. A map's bytes are read as the map. Deltas, in plain Lean: which may be, their bytes, and the deltas that bytes are. The reference's pen, and the bytes of the reference's map. The reference's walks of chapter 11: MayStripe, MayPtr. -/
import Derived.Test.YtobhlbhklblncaaK3
import Derived.Test.YtobhlbhklblncaaK2
import Derived.Test.YtobhlbhklblncaaProg
import Derived.ProofKit
import Derived.OpenShut
import Derived.Deep.Matrix
namespace Go.Proofs.Ytobhlbhklblncaa
section
open Go
set_option linter.unusedVariables false
set_option linter.unusedSimpArgs false
set_option maxHeartbeats 3200000
attribute [local irreducible] Code.wp wpList stepK Holds Val wpR Eff Eff0 Code.wpIn wpListIn stepI Exit.then Exit.inBlock bodyPost bodyPostM
abbrev EyR (rp : Nat) (v : Value) (bad : Int) : Nat × Obj := (rp, Cs [v, I64 bad] 103)

-- (*pinstripe/pinstriperef1.Eye).Num
theorem renum_c (rp : Nat) (v : Value) (bad : Int) (xs : List UInt8) (i : Int) (w0 w : World) (G : Im) (F : Hp) (hv : EB G v xs) (hs : Sat w0 w G (EyR rp v bad :: F)) :
    Calls Try.prog 49 #[Pt rp 0, I64 i] w fun e w' => ∃ v', e = .returned (I64 (eNum xs bad i).1) ∧ EB G v' (eNum xs bad i).2.1 ∧ Sat w0 w' G (EyR rp v' (eNum xs bad i).2.2 :: F) := by
  obtain ⟨ad, c, rfl, hc1, hc2, hc3⟩ := id hv
  unfold maxLen at hc2
  refine f_enter (vs := [_, _]) Try.func49 rfl Try.ntmps49 (by simp) hs ?_
  by_cases hb : bad = 0
  rotate_left
  · have he : eNum xs bad i = (0, xs, bad) := if_pos hb
    rw [he]
    refine ww ?_
    refine c_cons (s_val (v_field 1 rfl (by kernel_rfl)) rfl rfl rfl ?_)
    refine c_cons (s_val (v_load rfl (Cel.head rfl) (by kernel_rfl)) rfl rfl rfl ?_)
    refine ww ?_
    refine c_kf 12 rfl hb ?_
    refine ww ?_
    refine c_cond_f rfl ?_
    refine ww ?_
    refine c_cons (s_val (v_field 1 rfl (by kernel_rfl)) rfl rfl rfl ?_)
    refine c_cons (s_val (v_load rfl (Cel.head rfl) (by kernel_rfl)) rfl rfl rfl ?_)
    refine ww ?_
    refine c_kf 28 rfl hb ?_
    refine ww ?_
    refine c_cond_f rfl ?_
    refine ww ?_
    refine c_cons (s_val (v_field 1 rfl (by kernel_rfl)) rfl rfl rfl ?_)
    refine c_cons (s_val (v_load rfl (Cel.head rfl) (by kernel_rfl)) rfl rfl rfl ?_)
    refine ww ?_
    refine c_cond_d rfl (fun c1 => ?_) (fun c1 => absurd hb c1)
    refine ww ?_
    exact f_ret1 rfl rfl (fun w hs => ⟨_, rfl, hv, hs⟩)
  subst hb
  have he : eNum xs 0 i = rNum xs i := if_neg (by omega)
  rw [he]
  by_cases hw : 1 ≤ i ∧ i ≤ 7
  rotate_left
  · have he1 : rNum xs i = (0, xs, 1) := if_pos hw
    rw [he1]
    by_cases h1 : i < 1
    · refine ww ?_
      refine c_cons (s_val (v_field 1 rfl (by kernel_rfl)) rfl rfl rfl ?_)
      refine c_cons (s_val (v_load rfl (Cel.head rfl) (by kernel_rfl)) rfl rfl rfl ?_)
      refine ww ?_
      refine c_kt 15 rfl h1 ?_
      refine ww ?_
      refine c_cond_t rfl ?_
      refine ww ?_
      refine c_cons (s_val (v_field 1 rfl (by kernel_rfl)) rfl rfl rfl ?_)
      refine c_cons (s_store1 rfl rfl rfl .head (by kernel_rfl) rfl (by simp) ?_)
      refine ww ?_
      refine c_cons (s_val (v_field 1 rfl (by kernel_rfl)) rfl rfl rfl ?_)
      refine c_cons (s_val (v_load rfl (Cel.head rfl) (by kernel_rfl)) rfl rfl rfl ?_)
      refine ww ?_
      refine c_cond_f rfl ?_
      refine ww ?_
      refine c_cons (s_val (v_field 1 rfl (by kernel_rfl)) rfl rfl rfl ?_)
      refine c_cons (s_val (v_load rfl (Cel.head rfl) (by kernel_rfl)) rfl rfl rfl ?_)
      refine ww ?_
      refine c_cond_t rfl ?_
      refine ww ?_
      exact f_ret1 rfl rfl (fun w hs => ⟨_, rfl, hv, hs⟩)
    · refine ww ?_
      refine c_cons (s_val (v_field 1 rfl (by kernel_rfl)) rfl rfl rfl ?_)
      refine c_cons (s_val (v_load rfl (Cel.head rfl) (by kernel_rfl)) rfl rfl rfl ?_)
      refine ww ?_
      refine c_kf 15 rfl h1 ?_
      refine ww ?_
      refine c_cond_d rfl (fun c1 => ?_) (fun c1 => absurd hw (by omega))
      refine ww ?_
      refine c_cons (s_val (v_field 1 rfl (by kernel_rfl)) rfl rfl rfl ?_)
      refine c_cons (s_store1 rfl rfl rfl .head (by kernel_rfl) rfl (by simp) ?_)
      refine ww ?_
      refine c_cons (s_val (v_field 1 rfl (by kernel_rfl)) rfl rfl rfl ?_)
      refine c_cons (s_val (v_load rfl (Cel.head rfl) (by kernel_rfl)) rfl rfl rfl ?_)
      refine ww ?_
      refine c_cond_f rfl ?_
      refine ww ?_
      refine c_cons (s_val (v_field 1 rfl (by kernel_rfl)) rfl rfl rfl ?_)
      refine c_cons (s_val (v_load rfl (Cel.head rfl) (by kernel_rfl)) rfl rfl rfl ?_)
      refine ww ?_
      refine c_cond_t rfl ?_
      refine ww ?_
      exact f_ret1 rfl rfl (fun w hs => ⟨_, rfl, hv, hs⟩)
  obtain ⟨i, rfl⟩ : ∃ k : Nat, i = (k : Int) := ⟨i.toNat, by omega⟩
  refine ww ?_
  refine c_cons (s_val (v_field 1 rfl (by kernel_rfl)) rfl rfl rfl ?_)
  refine c_cons (s_val (v_load rfl (Cel.head rfl) (by kernel_rfl)) rfl rfl rfl ?_)
  refine ww ?_
  refine c_kf 15 rfl (by omega) ?_
  refine ww ?_
  refine c_cond_d rfl (fun c1 => absurd hw (by omega)) (fun c1 => ?_)
  refine ww ?_
  refine c_cons (s_val (v_field 1 rfl (by kernel_rfl)) rfl rfl rfl ?_)
  refine c_cons (s_val (v_load rfl (Cel.head rfl) (by kernel_rfl)) rfl rfl rfl ?_)
  refine ww ?_
  refine c_cons (s_val (v_field 0 rfl (by kernel_rfl)) rfl rfl rfl ?_)
  refine c_cons (s_val (v_load rfl (Cel.head rfl) (by kernel_rfl)) rfl rfl rfl ?_)
  refine ww ?_
  refine c_cond_d rfl (fun c2 => ?_) (fun c2 => ?_)
  · have he1 : rNum xs i = (0, xs, 2) := by unfold rNum; rw [if_neg (by omega), Int.toNat_natCast, if_pos (by omega)]
    rw [he1]
    refine ww ?_
    refine c_cons (s_val (v_field 1 rfl (by kernel_rfl)) rfl rfl rfl ?_)
    refine c_cons (s_store1 rfl rfl rfl .head (by kernel_rfl) rfl (by simp) ?_)
    refine ww ?_
    refine c_cons (s_val (v_field 1 rfl (by kernel_rfl)) rfl rfl rfl ?_)
    refine c_cons (s_val (v_load rfl (Cel.head rfl) (by kernel_rfl)) rfl rfl rfl ?_)
    refine ww ?_
    refine c_cond_t rfl ?_
    refine ww ?_
    exact f_ret1 rfl rfl (fun w hs => ⟨_, rfl, hv, hs⟩)
  have hle : i ≤ xs.length := by omega
  have he1 : rNum xs i = (((num (xs.take i) : Nat) : Int), xs.drop i, 0) := by unfold rNum; rw [if_neg (by omega), Int.toNat_natCast, if_neg (by omega)]
  rw [he1]
  refine ww ?_
  refine c_cons (s_val (v_field 1 rfl (by kernel_rfl)) rfl rfl rfl ?_)
  refine c_cons (s_val (v_load rfl (Cel.head rfl) (by kernel_rfl)) rfl rfl rfl ?_)
  refine ww ?_
  refine c_cond_f rfl ?_
  refine ww ?_
  refine c_loop (α := Nat) (fun x => [(0, Pt rp 0), (1, I64 (i : Int)), (5, I64 (num (xs.take x))), (6, I64 x)]) (fun _ => G) (fun x => EyR rp (.slice ad xs.length c) 0 :: F) (fun x => x ≤ i) (fun x => i - x) 0 (Nat.zero_le _) ?_ ?_
  · exact n_at ⟨rfl, rfl, rfl, rfl, trivial⟩ sbx
  rintro j hj
  refine ww ?_
  refine c_cond_d rfl (fun c6 => ?_) (fun c6 => ?_)
  · have hj' : j < xs.length := by omega
    rcases hc3 with ⟨h0, _⟩ | ⟨b, o, rfl, hcel⟩
    · simp only [List.map_eq_nil_iff] at h0; subst h0; simp at hj'
    have hcj : ∀ (H : Hp), Cel G H b (o + (j : Int).toNat) (B8 xs[j]) := fun H => by rw [Int.toNat_natCast]; exact (hcel j _ (by simp [hj'])).mono (Im.le_refl _) (by simp)
    have hsn : xs.take (j + 1) = xs.take j ++ [xs[j]] := by rw [List.take_succ_eq_append_getElem hj']
    generalize hgc : xs[j] = cj at hcj hsn
    have hlt2 : num (xs.take j) < 281474976710656 := by
      have h1 := num_lt (xs.take j)
      have h2 : 256 ^ (xs.take j).length ≤ 256 ^ 6 := Nat.pow_le_pow_right (by decide) (by simp; omega)
      have h3 : (256 : Nat) ^ 6 = 281474976710656 := by decide
      omega
    have hcb := cj.toNat_lt
    refine ww ?_
    refine c_cons (s_val (v_shl rfl rfl (by omega) (by have h : (2 : Int) ^ (8 : Int).toNat = 256 := (by decide); rw [h]; omega)) rfl rfl rfl ?_)
    refine ww ?_
    refine c_cons (s_val (v_field 0 rfl (by kernel_rfl)) rfl rfl rfl ?_)
    refine c_cons (s_val (v_load rfl (Cel.head rfl) (by kernel_rfl)) rfl rfl rfl ?_)
    refine ww ?_
    refine c_cons (s_val (v_index1 rfl rfl (by kernel_rfl) (by omega)) rfl rfl rfl ?_)
    refine c_cons (s_val (v_load rfl (hcj _) (by kernel_rfl)) rfl rfl rfl ?_)
    refine ww ?_
    refine c_cons (s_val (v_or256 (num (xs.take j)) cj.toNat rfl rfl (by rfl) rfl (by omega) (by omega)) rfl rfl rfl ?_)
    refine ww ?_
    exact n_next (x := j) (j + 1) (by omega) (by omega) ⟨rfl, rfl, by rw [hsn, num_snoc]; rfl, by rw [show (((j + 1 : Nat)) : Int) = (j : Int) + 1 by omega]; rfl, trivial⟩ rfl sbx
  have hje : j = i := by omega
  subst hje
  refine ww ?_
  refine c_cons (s_val (v_field 0 rfl (by kernel_rfl)) rfl rfl rfl ?_)
  refine c_cons (s_val (v_load rfl (Cel.head rfl) (by kernel_rfl)) rfl rfl rfl ?_)
  refine ww ?_
  refine c_cons (s_val (v_slLo j 1 rfl rfl (by kernel_rfl) (by omega)) rfl rfl rfl ?_)
  refine ww ?_
  refine c_cons (s_val (v_field 0 rfl (by kernel_rfl)) rfl rfl rfl ?_)
  refine c_cons (s_store1 rfl rfl rfl .head (by kernel_rfl) rfl (by simp) ?_)
  refine ww ?_
  exact f_ret1 rfl rfl (fun w hs => ⟨_, rfl, hv.drop hle, hs⟩)
-- (*pinstripe/pinstriperef1.Eye).Raw
theorem reraw_c (rp : Nat) (v : Value) (bad : Int) (xs : List UInt8) (i : Int) (w0 w : World) (G : Im) (F : Hp) (hv : EB G v xs) (hs : Sat w0 w G (EyR rp v bad :: F)) :
    Calls Try.prog 51 #[Pt rp 0, I64 i] w fun e w' => ∃ G' u v', e = .returned u ∧ Im.le G G' ∧ EB G' u (eRaw xs bad i).1 ∧ EB G' v' (eRaw xs bad i).2.1 ∧ Sat w0 w' G' (EyR rp v' (eRaw xs bad i).2.2 :: F) := by
  obtain ⟨ad, c, rfl, hc1, hc2, hc3⟩ := id hv
  unfold maxLen at hc2
  refine f_enter (vs := [_, _]) Try.func51 rfl Try.ntmps51 (by simp) hs ?_
  refine ww ?_
  refine c_cons (s_val (v_field 1 rfl (by kernel_rfl)) rfl rfl rfl ?_)
  refine c_cons (s_val (v_load rfl (Cel.head rfl) (by kernel_rfl)) rfl rfl rfl ?_)
  refine ww ?_
  by_cases hb : bad = 0
  rotate_left
  · have he : eRaw xs bad i = ([], xs, bad) := if_pos hb
    have he2 : eNum xs bad 2 = (0, xs, bad) := if_pos hb
    rw [he]
    refine c_kf 13 rfl hb ?_
    refine ww ?_
    refine c_cond_f rfl ?_
    refine ww ?_
    refine c_cons (s_val (v_field 0 rfl (by kernel_rfl)) rfl rfl rfl ?_)
    refine c_cons (s_val (v_load rfl (Cel.head rfl) (by kernel_rfl)) rfl rfl rfl ?_)
    refine ww ?_
    refine c_cons (s_call (xs := [_, _]) rfl rfl rfl rfl rfl rfl (by kernel_rfl) (fun w hs => renum_c rp _ bad xs 2 _ w _ _ hv hs) ?_)
    rw [he2]
    rintro e w' ⟨v2, rfl, hv2, hs'⟩; refine a_ret ?_ hs'; clear hs'
    dsimp only at hv2
    refine ww ?_
    refine c_cons (s_val (v_field 1 rfl (by kernel_rfl)) rfl rfl rfl ?_)
    refine c_cons (s_val (v_load rfl (Cel.head rfl) (by kernel_rfl)) rfl rfl rfl ?_)
    refine ww ?_
    refine c_kf 31 rfl hb ?_
    refine ww ?_
    refine c_cond_f rfl ?_
    refine ww ?_
    refine c_cons (s_val (v_field 1 rfl (by kernel_rfl)) rfl rfl rfl ?_)
    refine c_cons (s_val (v_load rfl (Cel.head rfl) (by kernel_rfl)) rfl rfl rfl ?_)
    refine ww ?_
    refine c_kf 44 rfl hb ?_
    refine ww ?_
    refine c_cond_f rfl ?_
    refine ww ?_
    refine c_cons (s_val (v_field 1 rfl (by kernel_rfl)) rfl rfl rfl ?_)
    refine c_cons (s_val (v_load rfl (Cel.head rfl) (by kernel_rfl)) rfl rfl rfl ?_)
    refine ww ?_
    refine c_cond_d rfl (fun c1 => ?_) (fun c1 => absurd hb c1)
    refine ww ?_
    refine c_cons (s_val (v_field 0 rfl (by kernel_rfl)) rfl rfl rfl ?_)
    refine c_cons (s_store1 rfl rfl rfl .head (by kernel_rfl) rfl (by simp) ?_)
    refine ww ?_
    exact f_ret1 rfl rfl (fun w hs => ⟨G, _, _, rfl, Im.le_refl _, SV.nil _ _, hv, hs⟩)
  subst hb
  have he : eRaw xs 0 i = rRaw xs i := if_neg (by omega)
  rw [he]
  refine ww ?_
  refine c_cond_d rfl (fun c1 => ?_) (fun c1 => ?_)
  · have he1 : rRaw xs i = ([], xs, 1) := if_pos c1
    have he2 : eNum xs 1 2 = (0, xs, 1) := rfl
    rw [he1]
    refine ww ?_
    refine c_cons (s_val (v_field 1 rfl (by kernel_rfl)) rfl rfl rfl ?_)
    refine c_cons (s_store1 rfl rfl rfl .head (by kernel_rfl) rfl (by simp) ?_)
    refine ww ?_
    refine c_cons (s_val (v_field 0 rfl (by kernel_rfl)) rfl rfl rfl ?_)
    refine c_cons (s_val (v_load rfl (Cel.head rfl) (by kernel_rfl)) rfl rfl rfl ?_)
    refine ww ?_
    change Holds _ _ _ _ _ (EyR rp (.slice ad xs.length c) 1 :: F) _
    refine c_cons (s_call (xs := [_, _]) rfl rfl rfl rfl rfl rfl (by kernel_rfl) (fun w hs => renum_c rp _ 1 xs 2 _ w _ _ hv hs) ?_)
    rw [he2]
    rintro e w' ⟨v2, rfl, hv2, hs'⟩; refine a_ret ?_ hs'; clear hs'
    dsimp only at hv2
    refine ww ?_
    refine c_cons (s_val (v_field 1 rfl (by kernel_rfl)) rfl rfl rfl ?_)
    refine c_cons (s_val (v_load rfl (Cel.head rfl) (by kernel_rfl)) rfl rfl rfl ?_)
    refine ww ?_
    refine c_cond_f rfl ?_
    refine ww ?_
    refine c_cons (s_val (v_field 1 rfl (by kernel_rfl)) rfl rfl rfl ?_)
    refine c_cons (s_val (v_load rfl (Cel.head rfl) (by kernel_rfl)) rfl rfl rfl ?_)
    refine ww ?_
    refine c_cond_f rfl ?_
    refine ww ?_
    refine c_cons (s_val (v_field 1 rfl (by kernel_rfl)) rfl rfl rfl ?_)
    refine c_cons (s_val (v_load rfl (Cel.head rfl) (by kernel_rfl)) rfl rfl rfl ?_)
    refine ww ?_
    refine c_cond_t rfl ?_
    refine ww ?_
    refine c_cons (s_val (v_field 0 rfl (by kernel_rfl)) rfl rfl rfl ?_)
    refine c_cons (s_store1 rfl rfl rfl .head (by kernel_rfl) rfl (by simp) ?_)
    refine ww ?_
    exact f_ret1 rfl rfl (fun w hs => ⟨G, _, _, rfl, Im.le_refl _, SV.nil _ _, hv, hs⟩)
  refine ww ?_
  refine c_cons (s_val (v_field 0 rfl (by kernel_rfl)) rfl rfl rfl ?_)
  refine c_cons (s_val (v_load rfl (Cel.head rfl) (by kernel_rfl)) rfl rfl rfl ?_)
  refine ww ?_
  by_cases h2 : xs.length < 2
  · have he1 : rRaw xs i = ([], xs, 2) := by unfold rRaw; rw [if_neg c1, if_pos h2]
    have he2 : eNum xs 0 2 = (0, xs, 2) := by
      unfold eNum rNum
      rw [if_neg (by decide), if_neg (by decide)]
      exact if_pos h2
    rw [he1]
    refine c_cons (s_call (xs := [_, _]) rfl rfl rfl rfl rfl rfl (by kernel_rfl) (fun w hs => renum_c rp _ 0 xs 2 _ w _ _ hv hs) ?_)
    rw [he2]
    rintro e w' ⟨v2, rfl, hv2, hs'⟩; refine a_ret ?_ hs'; clear hs'
    dsimp only at hv2
    refine ww ?_
    refine c_cons (s_val (v_field 1 rfl (by kernel_rfl)) rfl rfl rfl ?_)
    refine c_cons (s_val (v_load rfl (Cel.head rfl) (by kernel_rfl)) rfl rfl rfl ?_)
    refine ww ?_
    refine c_cond_f rfl ?_
    refine ww ?_
    refine c_cons (s_val (v_field 1 rfl (by kernel_rfl)) rfl rfl rfl ?_)
    refine c_cons (s_val (v_load rfl (Cel.head rfl) (by kernel_rfl)) rfl rfl rfl ?_)
    refine ww ?_
    refine c_cond_f rfl ?_
    refine ww ?_
    refine c_cons (s_val (v_field 1 rfl (by kernel_rfl)) rfl rfl rfl ?_)
    refine c_cons (s_val (v_load rfl (Cel.head rfl) (by kernel_rfl)) rfl rfl rfl ?_)
    refine ww ?_
    refine c_cond_t rfl ?_
    refine ww ?_
    refine c_cons (s_val (v_field 0 rfl (by kernel_rfl)) rfl rfl rfl ?_)
    refine c_cons (s_store1 rfl rfl rfl .head (by kernel_rfl) rfl (by simp) ?_)
    refine ww ?_
    exact f_ret1 rfl rfl (fun w hs => ⟨G, _, _, rfl, Im.le_refl _, SV.nil _ _, hv, hs⟩)
  have hn : num (xs.take 2) < 65536 := by
    have h1 := num_lt (xs.take 2)
    have h2 : (xs.take 2).length = 2 := by simp; omega
    rw [h2] at h1
    simpa using h1
  have he2 : eNum xs 0 2 = (((num (xs.take 2) : Nat) : Int), xs.drop 2, 0) := by
    unfold eNum rNum
    rw [if_neg (by decide), if_neg (by decide)]
    exact if_neg h2
  refine c_cons (s_call (xs := [_, _]) rfl rfl rfl rfl rfl rfl (by kernel_rfl) (fun w hs => renum_c rp _ 0 xs 2 _ w _ _ hv hs) ?_)
  rw [he2]
  rintro e w' ⟨v2, rfl, hv2, hs'⟩; refine a_ret ?_ hs'; clear hs'
  dsimp only at hv2
  obtain ⟨ad2, cc2, rfl, hd1, hd2, hd3⟩ := id hv2
  refine ww ?_
  refine c_cons (s_val (v_field 1 rfl (by kernel_rfl)) rfl rfl rfl ?_)
  refine c_cons (s_val (v_load rfl (Cel.head rfl) (by kernel_rfl)) rfl rfl rfl ?_)
  refine ww ?_
  refine c_cond_d rfl (fun c3 => ?_) (fun c3 => ?_)
  · have he1 : rRaw xs i = ([], xs, 3) := by unfold rRaw; rw [if_neg c1, if_neg h2, if_pos (by omega)]
    rw [he1]
    refine ww ?_
    refine c_cons (s_val (v_field 1 rfl (by kernel_rfl)) rfl rfl rfl ?_)
    refine c_cons (s_store1 rfl rfl rfl .head (by kernel_rfl) rfl (by simp) ?_)
    refine ww ?_
    refine c_cons (s_val (v_field 1 rfl (by kernel_rfl)) rfl rfl rfl ?_)
    refine c_cons (s_val (v_load rfl (Cel.head rfl) (by kernel_rfl)) rfl rfl rfl ?_)
    refine ww ?_
    refine c_cond_f rfl ?_
    refine ww ?_
    refine c_cons (s_val (v_field 1 rfl (by kernel_rfl)) rfl rfl rfl ?_)
    refine c_cons (s_val (v_load rfl (Cel.head rfl) (by kernel_rfl)) rfl rfl rfl ?_)
    refine ww ?_
    refine c_cond_t rfl ?_
    refine ww ?_
    refine c_cons (s_val (v_field 0 rfl (by kernel_rfl)) rfl rfl rfl ?_)
    refine c_cons (s_store1 rfl rfl rfl .head (by kernel_rfl) rfl (by simp) ?_)
    refine ww ?_
    exact f_ret1 rfl rfl (fun w hs => ⟨G, _, _, rfl, Im.le_refl _, SV.nil _ _, hv, hs⟩)
  refine ww ?_
  refine c_cons (s_val (v_field 1 rfl (by kernel_rfl)) rfl rfl rfl ?_)
  refine c_cons (s_val (v_load rfl (Cel.head rfl) (by kernel_rfl)) rfl rfl rfl ?_)
  refine ww ?_
  refine c_cons (s_val (v_field 0 rfl (by kernel_rfl)) rfl rfl rfl ?_)
  refine c_cons (s_val (v_load rfl (Cel.head rfl) (by kernel_rfl)) rfl rfl rfl ?_)
  refine ww ?_
  refine c_cond_d rfl (fun c4 => ?_) (fun c4 => ?_)
  · have he1 : rRaw xs i = ([], xs, 2) := by unfold rRaw; rw [if_neg c1, if_neg h2, if_neg (by omega), if_pos (by omega)]
    rw [he1]
    refine ww ?_
    refine c_cons (s_val (v_field 1 rfl (by kernel_rfl)) rfl rfl rfl ?_)
    refine c_cons (s_store1 rfl rfl rfl .head (by kernel_rfl) rfl (by simp) ?_)
    refine ww ?_
    refine c_cons (s_val (v_field 1 rfl (by kernel_rfl)) rfl rfl rfl ?_)
    refine c_cons (s_val (v_load rfl (Cel.head rfl) (by kernel_rfl)) rfl rfl rfl ?_)
    refine ww ?_
    refine c_cond_t rfl ?_
    refine ww ?_
    refine c_cons (s_val (v_field 0 rfl (by kernel_rfl)) rfl rfl rfl ?_)
    refine c_cons (s_store1 rfl rfl rfl .head (by kernel_rfl) rfl (by simp) ?_)
    refine ww ?_
    exact f_ret1 rfl rfl (fun w hs => ⟨G, _, _, rfl, Im.le_refl _, SV.nil _ _, hv, hs⟩)
  have he1 : rRaw xs i = ((xs.drop 2).take (num (xs.take 2)), (xs.drop 2).drop (num (xs.take 2)), 0) := by
    unfold rRaw; rw [if_neg c1, if_neg h2, if_neg (by omega), if_neg (by omega)]
  rw [he1]
  refine ww ?_
  refine c_cons (s_val (v_field 1 rfl (by kernel_rfl)) rfl rfl rfl ?_)
  refine c_cons (s_val (v_load rfl (Cel.head rfl) (by kernel_rfl)) rfl rfl rfl ?_)
  refine ww ?_
  refine c_cond_f rfl ?_
  refine ww ?_
  refine c_cons (s_val (v_field 0 rfl (by kernel_rfl)) rfl rfl rfl ?_)
  refine c_cons (s_val (v_load rfl (Cel.head rfl) (by kernel_rfl)) rfl rfl rfl ?_)
  refine ww ?_
  refine c_cons (s_val (v_slHi (num (xs.take 2)) rfl rfl (by kernel_rfl) (by omega)) rfl rfl rfl ?_)
  have hul : ((xs.drop 2).take (num (xs.take 2))).length = num (xs.take 2) := by rw [List.length_take]; omega
  have hu : EB G (.slice ad2 (num (xs.take 2)) cc2) ((xs.drop 2).take (num (xs.take 2))) := by
    show SV G [] _ _ _
    rw [hul, List.map_take]
    have := SV.hi (h := num (xs.take 2)) 1 hv2 (by omega)
    simpa using this
  refine c_cons (s_call (xs := [_]) rfl rfl rfl rfl rfl rfl (by kernel_rfl) (fun w hs => copy_c _ ((xs.drop 2).take (num (xs.take 2))) _ w _ _ hu (by omega) hs) ?_)
  rintro e w' ⟨G5, u5, rfl, hG5, hu5, hs'⟩; refine a_ret ?_ hs'; clear hs'
  refine ww ?_
  refine c_cons (s_val (v_field 0 rfl (by kernel_rfl)) rfl rfl rfl ?_)
  refine c_cons (s_val (v_load rfl (Cel.head rfl) (by kernel_rfl)) rfl rfl rfl ?_)
  refine ww ?_
  refine c_cons (s_val (v_slLo (num (xs.take 2)) 1 rfl rfl (by kernel_rfl) (by omega)) rfl rfl rfl ?_)
  refine ww ?_
  refine c_cons (s_val (v_field 0 rfl (by kernel_rfl)) rfl rfl rfl ?_)
  refine c_cons (s_store1 rfl rfl rfl .head (by kernel_rfl) rfl (by simp) ?_)
  refine ww ?_
  exact f_ret1 rfl rfl (fun w hs => ⟨G5, _, _, rfl, hG5, hu5, (hv2.drop (by omega)).up hG5, hs⟩)
-- (*pinstripe/pinstriperef1.Eye).Bool
theorem rebool_c (rp : Nat) (v : Value) (bad : Int) (xs : List UInt8) (w0 w : World) (G : Im) (F : Hp) (hv : EB G v xs) (hs : Sat w0 w G (EyR rp v bad :: F)) :
    Calls Try.prog 52 #[Pt rp 0] w fun e w' => ∃ v', e = .returned (.bool (eBool xs bad).1) ∧ EB G v' (eBool xs bad).2.1 ∧ Sat w0 w' G (EyR rp v' (eBool xs bad).2.2 :: F) := by
  obtain ⟨ad, c, rfl, hc1, hc2, hc3⟩ := id hv
  refine f_enter (vs := [_]) Try.func52 rfl Try.ntmps52 (by simp) hs ?_
  refine ww ?_
  refine c_cons (s_val (v_field 0 rfl (by kernel_rfl)) rfl rfl rfl ?_)
  refine c_cons (s_val (v_load rfl (Cel.head rfl) (by kernel_rfl)) rfl rfl rfl ?_)
  refine ww ?_
  refine c_cons (s_call (xs := [_, _]) rfl rfl rfl rfl rfl rfl (by kernel_rfl) (fun w hs => renum_c rp _ bad xs 1 _ w _ _ hv hs) ?_)
  by_cases hb : bad = 0
  rotate_left
  · have he : eBool xs bad = (false, xs, bad) := if_pos hb
    have he2 : eNum xs bad 1 = (0, xs, bad) := if_pos hb
    rw [he, he2]
    rintro e w' ⟨v2, rfl, hv2, hs'⟩; refine a_ret ?_ hs'; clear hs'
    dsimp only at hv2
    refine ww ?_
    refine c_cons (s_val (v_field 1 rfl (by kernel_rfl)) rfl rfl rfl ?_)
    refine c_cons (s_val (v_load rfl (Cel.head rfl) (by kernel_rfl)) rfl rfl rfl ?_)
    refine ww ?_
    refine c_kf 16 rfl hb ?_
    refine ww ?_
    refine c_cond_f rfl ?_
    refine ww ?_
    refine c_cons (s_val (v_field 1 rfl (by kernel_rfl)) rfl rfl rfl ?_)
    refine c_cons (s_val (v_load rfl (Cel.head rfl) (by kernel_rfl)) rfl rfl rfl ?_)
    refine ww ?_
    refine c_kf 32 rfl hb ?_
    refine ww ?_
    exact f_ret1 rfl rfl (fun w hs => ⟨_, rfl, hv2, hs⟩)
  subst hb
  have he : eBool xs 0 = rBool xs := if_neg (by omega)
  rw [he]
  cases xs with
  | nil =>
    have he2 : eNum [] 0 1 = (0, [], 2) := rfl
    have he1 : rBool [] = (false, [], 2) := rfl
    rw [he1, he2]
    rintro e w' ⟨v2, rfl, hv2, hs'⟩; refine a_ret ?_ hs'; clear hs'
    dsimp only at hv2
    refine ww ?_
    refine c_cons (s_val (v_field 1 rfl (by kernel_rfl)) rfl rfl rfl ?_)
    refine c_cons (s_val (v_load rfl (Cel.head rfl) (by kernel_rfl)) rfl rfl rfl ?_)
    refine ww ?_
    refine c_cond_f rfl ?_
    refine ww ?_
    refine c_cons (s_val (v_field 1 rfl (by kernel_rfl)) rfl rfl rfl ?_)
    refine c_cons (s_val (v_load rfl (Cel.head rfl) (by kernel_rfl)) rfl rfl rfl ?_)
    refine ww ?_
    exact f_ret1 rfl rfl (fun w hs => ⟨_, rfl, hv2, hs⟩)
  | cons q r =>
  have he2 : eNum (q :: r) 0 1 = ((q.toNat : Int), r, 0) := by
    unfold eNum rNum
    rw [if_neg (by decide), if_neg (by decide), if_neg (by simp)]
    simp [num]
  rw [he2]
  rintro e w' ⟨v2, rfl, hv2, hs'⟩; refine a_ret ?_ hs'; clear hs'
  dsimp only at hv2
  refine ww ?_
  refine c_cons (s_val (v_field 1 rfl (by kernel_rfl)) rfl rfl rfl ?_)
  refine c_cons (s_val (v_load rfl (Cel.head rfl) (by kernel_rfl)) rfl rfl rfl ?_)
  refine ww ?_
  refine c_cond_d rfl (fun c1 => ?_) (fun c1 => ?_)
  · have he1 : rBool (q :: r) = (false, q :: r, 4) := if_pos (by omega)
    rw [he1]
    refine ww ?_
    refine c_cons (s_val (v_field 1 rfl (by kernel_rfl)) rfl rfl rfl ?_)
    refine c_cons (s_store1 rfl rfl rfl .head (by kernel_rfl) rfl (by simp) ?_)
    refine ww ?_
    refine c_cons (s_val (v_field 0 rfl (by kernel_rfl)) rfl rfl rfl ?_)
    refine c_cons (s_store1 rfl rfl rfl .head (by kernel_rfl) rfl (by simp) ?_)
    refine ww ?_
    refine c_cons (s_val (v_field 1 rfl (by kernel_rfl)) rfl rfl rfl ?_)
    refine c_cons (s_val (v_load rfl (Cel.head rfl) (by kernel_rfl)) rfl rfl rfl ?_)
    refine ww ?_
    exact f_ret1 rfl rfl (fun w hs => ⟨_, rfl, hv, hs⟩)
  have he1 : rBool (q :: r) = (decide (q.toNat = 1), r, 0) := if_neg (by omega)
  rw [he1]
  have hd : decide ((q.toNat : Int) = 1) = decide (q.toNat = 1) := decide_eq_decide.2 (by omega)
  rw [← hd]
  refine ww ?_
  refine c_cons (s_val (v_field 1 rfl (by kernel_rfl)) rfl rfl rfl ?_)
  refine c_cons (s_val (v_load rfl (Cel.head rfl) (by kernel_rfl)) rfl rfl rfl ?_)
  refine ww ?_
  exact f_ret1 rfl rfl (fun w hs => ⟨_, rfl, hv2, hs⟩)
-- (*pinstripe/pinstriperef1.Eye).End
theorem reend_c (rp : Nat) (v : Value) (bad : Int) (xs : List UInt8) (w0 w : World) (G : Im) (F : Hp) (hv : EB G v xs) (hs : Sat w0 w G (EyR rp v bad :: F)) :
    Calls Try.prog 56 #[Pt rp 0] w fun e w' => e = .returned (I64 (if bad ≠ 0 then bad else if 0 < xs.length then 3 else 0)) ∧ Sat w0 w' G (EyR rp v bad :: F) := by
  obtain ⟨ad, c, rfl, hc1, hc2, hc3⟩ := id hv
  refine f_enter (vs := [_]) Try.func56 rfl Try.ntmps56 (by simp) hs ?_
  refine ww ?_
  refine c_cons (s_val (v_field 1 rfl (by kernel_rfl)) rfl rfl rfl ?_)
  refine c_cons (s_val (v_load rfl (Cel.head rfl) (by kernel_rfl)) rfl rfl rfl ?_)
  refine ww ?_
  refine c_cond_d rfl (fun c1 => ?_) (fun c1 => ?_)
  · -- then
    refine ww ?_
    refine c_cons (s_val (v_field 1 rfl (by kernel_rfl)) rfl rfl rfl ?_)
    refine c_cons (s_val (v_load rfl (Cel.head rfl) (by kernel_rfl)) rfl rfl rfl ?_)
    refine ww ?_
    exact f_ret1 rfl rfl (fun w hs => ⟨by rw [if_pos (by omega)], hs⟩)
  refine ww ?_
  refine c_cons (s_val (v_field 0 rfl (by kernel_rfl)) rfl rfl rfl ?_)
  refine c_cons (s_val (v_load rfl (Cel.head rfl) (by kernel_rfl)) rfl rfl rfl ?_)
  refine ww ?_
  refine c_cond_d rfl (fun c2 => ?_) (fun c2 => ?_)
  · -- then
    refine ww ?_
    exact f_ret1 rfl rfl (fun w hs => ⟨by rw [if_neg (by omega), if_pos (by omega)], hs⟩)
  refine ww ?_
  exact f_ret1 rfl rfl (fun w hs => ⟨by rw [if_neg (by omega), if_neg (by omega)], hs⟩)
end

section
open Go
set_option linter.unusedVariables false
set_option linter.unusedSimpArgs false
set_option maxHeartbeats 1600000
attribute [local irreducible] Code.wp wpList stepK Holds Val wpR Eff Eff0 Code.wpIn wpListIn stepI Exit.then Exit.inBlock bodyPost bodyPostM
def nx (s : Int × List UInt8 × Int) (i : Int) : Int × List UInt8 × Int := eNum s.2.1 s.2.2 i
/-- A pointer is read: five numbers. -/
def getP (xs : List UInt8) (bad : Int) : P5 × List UInt8 × Int :=
  (⟨(eNum xs bad 1).1, (nx (eNum xs bad 1) 3).1, (nx (nx (eNum xs bad 1) 3) 4).1, (nx (nx (nx (eNum xs bad 1) 3) 4) 2).1, (nx (nx (nx (nx (eNum xs bad 1) 3) 4) 2) 1).1⟩, (nx (nx (nx (nx (eNum xs bad 1) 3) 4) 2) 1).2)
abbrev PtO (b : Nat) (L : List Value) : Nat × Obj := (b, Cs L 73)

-- pinstripe/blocks.GetPtr
theorem getPtr_c (ep : Nat) (v : Value) (bad : Int) (xs : List UInt8) (w0 w : World) (G : Im) (F : Hp) (hv : EB G v xs) (hs : Sat w0 w G (EyO ep v bad :: F)) :
    Calls Try.prog 98 #[Pt ep 0] w fun e w' => ∃ v', e = .returned (getP xs bad).1.V ∧ EB G v' (getP xs bad).2.1 ∧ Sat w0 w' G (EyO ep v' (getP xs bad).2.2 :: F) := by
  refine f_enter (vs := [_]) Try.func98 rfl Try.ntmps98 (by simp) hs ?_
  unfold getP
  refine ww ?_
  refine c_cons (s_allocA [I64 0, I64 0, I64 0, I64 0, I64 0] (by kernel_rfl) rfl rfl fun b1 => ?_)
  refine ww ?_
  refine c_cons (s_allocA [I64 0, I64 0, I64 0, I64 0, I64 0] (by kernel_rfl) rfl rfl fun b2 => ?_)
  change Holds _ _ _ _ _ (PtO b2 [I64 0, I64 0, I64 0, I64 0, I64 0] :: PtO b1 [I64 0, I64 0, I64 0, I64 0, I64 0] :: EyO ep v bad :: F) _
  refine c_sub (EyO ep v bad :: PtO b2 [I64 0, I64 0, I64 0, I64 0, I64 0] :: PtO b1 [I64 0, I64 0, I64 0, I64 0, I64 0] :: F) sbx ?_
  refine ww ?_
  refine c_cons (s_call (xs := [_, _]) rfl rfl rfl rfl rfl rfl (by kernel_rfl) (fun w hs => enum_c ep _ bad xs 1 _ w _ _ hv hs) ?_)
  generalize eNum xs bad 1 = a
  rintro e w' ⟨v1, rfl, hv1, hs'⟩; refine a_ret ?_ hs'; clear hs'
  refine c_cons (s_val (v_field 0 rfl (by kernel_rfl)) rfl rfl rfl ?_)
  refine c_cons (s_val (v_field 0 rfl (by kernel_rfl)) rfl rfl rfl ?_)
  refine c_cons (s_store1 rfl rfl rfl (.tail .head) (by kernel_rfl) rfl (by simp) ?_)
  refine c_sub (EyO ep v1 a.2.2 :: PtO b2 [I64 a.1, I64 0, I64 0, I64 0, I64 0] :: PtO b1 [I64 0, I64 0, I64 0, I64 0, I64 0] :: F) (show SubH _ (PtO b2 [I64 a.1, I64 0, I64 0, I64 0, I64 0] :: EyO ep v1 a.2.2 :: PtO b1 [I64 0, I64 0, I64 0, I64 0, I64 0] :: F) from sbx) ?_
  refine ww ?_
  refine c_cons (s_call (xs := [_, _]) rfl rfl rfl rfl rfl rfl (by kernel_rfl) (fun w hs => enum_c ep _ a.2.2 a.2.1 3 _ w _ _ hv1 hs) ?_)
  rw [show eNum a.2.1 a.2.2 3 = nx a 3 from rfl]
  generalize nx a 3 = b
  rintro e w' ⟨v2, rfl, hv2, hs'⟩; refine a_ret ?_ hs'; clear hs'
  refine c_cons (s_val (v_field 0 rfl (by kernel_rfl)) rfl rfl rfl ?_)
  refine c_cons (s_val (v_field 1 rfl (by kernel_rfl)) rfl rfl rfl ?_)
  refine c_cons (s_store1 rfl rfl rfl (.tail .head) (by kernel_rfl) rfl (by simp) ?_)
  refine c_sub (EyO ep v2 b.2.2 :: PtO b2 [I64 a.1, I64 b.1, I64 0, I64 0, I64 0] :: PtO b1 [I64 0, I64 0, I64 0, I64 0, I64 0] :: F) (show SubH _ (PtO b2 [I64 a.1, I64 b.1, I64 0, I64 0, I64 0] :: EyO ep v2 b.2.2 :: PtO b1 [I64 0, I64 0, I64 0, I64 0, I64 0] :: F) from sbx) ?_
  refine ww ?_
  refine c_cons (s_call (xs := [_, _]) rfl rfl rfl rfl rfl rfl (by kernel_rfl) (fun w hs => enum_c ep _ b.2.2 b.2.1 4 _ w _ _ hv2 hs) ?_)
  rw [show eNum b.2.1 b.2.2 4 = nx b 4 from rfl]
  generalize nx b 4 = c
  rintro e w' ⟨v3, rfl, hv3, hs'⟩; refine a_ret ?_ hs'; clear hs'
  refine c_cons (s_val (v_field 0 rfl (by kernel_rfl)) rfl rfl rfl ?_)
  refine c_cons (s_val (v_field 2 rfl (by kernel_rfl)) rfl rfl rfl ?_)
  refine c_cons (s_store1 rfl rfl rfl (.tail .head) (by kernel_rfl) rfl (by simp) ?_)
  refine c_sub (EyO ep v3 c.2.2 :: PtO b2 [I64 a.1, I64 b.1, I64 c.1, I64 0, I64 0] :: PtO b1 [I64 0, I64 0, I64 0, I64 0, I64 0] :: F) (show SubH _ (PtO b2 [I64 a.1, I64 b.1, I64 c.1, I64 0, I64 0] :: EyO ep v3 c.2.2 :: PtO b1 [I64 0, I64 0, I64 0, I64 0, I64 0] :: F) from sbx) ?_
  refine ww ?_
  refine c_cons (s_call (xs := [_, _]) rfl rfl rfl rfl rfl rfl (by kernel_rfl) (fun w hs => enum_c ep _ c.2.2 c.2.1 2 _ w _ _ hv3 hs) ?_)
  rw [show eNum c.2.1 c.2.2 2 = nx c 2 from rfl]
  generalize nx c 2 = d
  rintro e w' ⟨v4, rfl, hv4, hs'⟩; refine a_ret ?_ hs'; clear hs'
  refine c_cons (s_val (v_field 3 rfl (by kernel_rfl)) rfl rfl rfl ?_)
  refine c_cons (s_store1 rfl rfl rfl (.tail .head) (by kernel_rfl) rfl (by simp) ?_)
  refine c_sub (EyO ep v4 d.2.2 :: PtO b2 [I64 a.1, I64 b.1, I64 c.1, I64 d.1, I64 0] :: PtO b1 [I64 0, I64 0, I64 0, I64 0, I64 0] :: F) (show SubH _ (PtO b2 [I64 a.1, I64 b.1, I64 c.1, I64 d.1, I64 0] :: EyO ep v4 d.2.2 :: PtO b1 [I64 0, I64 0, I64 0, I64 0, I64 0] :: F) from sbx) ?_
  refine ww ?_
  refine c_cons (s_call (xs := [_, _]) rfl rfl rfl rfl rfl rfl (by kernel_rfl) (fun w hs => enum_c ep _ d.2.2 d.2.1 1 _ w _ _ hv4 hs) ?_)
  rw [show eNum d.2.1 d.2.2 1 = nx d 1 from rfl]
  generalize nx d 1 = e
  rintro e w' ⟨v5, rfl, hv5, hs'⟩; refine a_ret ?_ hs'; clear hs'
  refine c_cons (s_val (v_field 4 rfl (by kernel_rfl)) rfl rfl rfl ?_)
  refine c_cons (s_store1 rfl rfl rfl (.tail .head) (by kernel_rfl) rfl (by simp) ?_)
  refine c_sub (PtO b2 [I64 a.1, I64 b.1, I64 c.1, I64 d.1, I64 e.1] :: PtO b1 [I64 0, I64 0, I64 0, I64 0, I64 0] :: EyO ep v5 e.2.2 :: F) (show SubH _ (PtO b2 [I64 a.1, I64 b.1, I64 c.1, I64 d.1, I64 e.1] :: EyO ep v5 e.2.2 :: PtO b1 [I64 0, I64 0, I64 0, I64 0, I64 0] :: F) from sbx) ?_
  refine ww ?_
  refine c_cons (s_val (v_loadAgg (vs := [I64 a.1, I64 b.1, I64 c.1, I64 d.1, I64 e.1]) rfl (by kernel_rfl) (by kernel_rfl) rfl (fun j u hj => (Cel.all hj))) rfl rfl rfl ?_)
  refine c_cons (s_storeA (vs := [I64 a.1, I64 b.1, I64 c.1, I64 d.1, I64 e.1]) rfl rfl rfl (.tail (.head)) (by kernel_rfl) (by simp [Value.oneCell']) rfl ?_)
  refine ww ?_
  exact f_retA (vs := [I64 a.1, I64 b.1, I64 c.1, I64 d.1, I64 e.1]) rfl rfl (by kernel_rfl) (by kernel_rfl) rfl (fun j u hj => Cel.all hj) (fun w hs => ⟨v5, rfl, hv5, hs.sb⟩)

-- pinstripe/pinstriperef10.GetPtr
theorem rgetPtr_c (ep : Nat) (v : Value) (bad : Int) (xs : List UInt8) (w0 w : World) (G : Im) (F : Hp) (hv : EB G v xs) (hs : Sat w0 w G (EyR ep v bad :: F)) :
    Calls Try.prog 84 #[Pt ep 0] w fun e w' => ∃ v', e = .returned (getP xs bad).1.V ∧ EB G v' (getP xs bad).2.1 ∧ Sat w0 w' G (EyR ep v' (getP xs bad).2.2 :: F) := by
  refine f_enter (vs := [_]) Try.func84 rfl Try.ntmps84 (by simp) hs ?_
  unfold getP
  refine ww ?_
  refine c_cons (s_allocA [I64 0, I64 0, I64 0, I64 0, I64 0] (by kernel_rfl) rfl rfl fun b1 => ?_)
  refine ww ?_
  refine c_cons (s_val (v_build (ps := []) #[I64 0, I64 0, I64 0, I64 0, I64 0] rfl (by kernel_rfl)) rfl rfl rfl ?_)
  refine c_cons (s_allocA [I64 0, I64 0, I64 0, I64 0, I64 0] (by kernel_rfl) rfl rfl fun b2 => ?_)
  refine c_cons (s_storeA (vs := [I64 0, I64 0, I64 0, I64 0, I64 0]) rfl rfl rfl .head (by kernel_rfl) (by simp [Value.oneCell']) rfl ?_)
  change Holds _ _ _ _ _ (PtO b2 [I64 0, I64 0, I64 0, I64 0, I64 0] :: PtO b1 [I64 0, I64 0, I64 0, I64 0, I64 0] :: EyR ep v bad :: F) _
  refine c_sub (EyR ep v bad :: PtO b2 [I64 0, I64 0, I64 0, I64 0, I64 0] :: PtO b1 [I64 0, I64 0, I64 0, I64 0, I64 0] :: F) sbx ?_
  refine ww ?_
  refine c_cons (s_call (xs := [_, _]) rfl rfl rfl rfl rfl rfl (by kernel_rfl) (fun w hs => renum_c ep _ bad xs 1 _ w _ _ hv hs) ?_)
  generalize eNum xs bad 1 = a
  rintro e w' ⟨v1, rfl, hv1, hs'⟩; refine a_ret ?_ hs'; clear hs'
  refine c_cons (s_val (v_field 0 rfl (by kernel_rfl)) rfl rfl rfl ?_)
  refine c_cons (s_val (v_field 0 rfl (by kernel_rfl)) rfl rfl rfl ?_)
  refine c_cons (s_store1 rfl rfl rfl (.tail .head) (by kernel_rfl) rfl (by simp) ?_)
  refine c_sub (EyR ep v1 a.2.2 :: PtO b2 [I64 a.1, I64 0, I64 0, I64 0, I64 0] :: PtO b1 [I64 0, I64 0, I64 0, I64 0, I64 0] :: F) (show SubH _ (PtO b2 [I64 a.1, I64 0, I64 0, I64 0, I64 0] :: EyR ep v1 a.2.2 :: PtO b1 [I64 0, I64 0, I64 0, I64 0, I64 0] :: F) from sbx) ?_
  refine ww ?_
  refine c_cons (s_call (xs := [_, _]) rfl rfl rfl rfl rfl rfl (by kernel_rfl) (fun w hs => renum_c ep _ a.2.2 a.2.1 3 _ w _ _ hv1 hs) ?_)
  rw [show eNum a.2.1 a.2.2 3 = nx a 3 from rfl]
  generalize nx a 3 = b
  rintro e w' ⟨v2, rfl, hv2, hs'⟩; refine a_ret ?_ hs'; clear hs'
  refine c_cons (s_val (v_field 0 rfl (by kernel_rfl)) rfl rfl rfl ?_)
  refine c_cons (s_val (v_field 1 rfl (by kernel_rfl)) rfl rfl rfl ?_)
  refine c_cons (s_store1 rfl rfl rfl (.tail .head) (by kernel_rfl) rfl (by simp) ?_)
  refine c_sub (EyR ep v2 b.2.2 :: PtO b2 [I64 a.1, I64 b.1, I64 0, I64 0, I64 0] :: PtO b1 [I64 0, I64 0, I64 0, I64 0, I64 0] :: F) (show SubH _ (PtO b2 [I64 a.1, I64 b.1, I64 0, I64 0, I64 0] :: EyR ep v2 b.2.2 :: PtO b1 [I64 0, I64 0, I64 0, I64 0, I64 0] :: F) from sbx) ?_
  refine ww ?_
  refine c_cons (s_call (xs := [_, _]) rfl rfl rfl rfl rfl rfl (by kernel_rfl) (fun w hs => renum_c ep _ b.2.2 b.2.1 4 _ w _ _ hv2 hs) ?_)
  rw [show eNum b.2.1 b.2.2 4 = nx b 4 from rfl]
  generalize nx b 4 = c
  rintro e w' ⟨v3, rfl, hv3, hs'⟩; refine a_ret ?_ hs'; clear hs'
  refine c_cons (s_val (v_field 0 rfl (by kernel_rfl)) rfl rfl rfl ?_)
  refine c_cons (s_val (v_field 2 rfl (by kernel_rfl)) rfl rfl rfl ?_)
  refine c_cons (s_store1 rfl rfl rfl (.tail .head) (by kernel_rfl) rfl (by simp) ?_)
  refine c_sub (EyR ep v3 c.2.2 :: PtO b2 [I64 a.1, I64 b.1, I64 c.1, I64 0, I64 0] :: PtO b1 [I64 0, I64 0, I64 0, I64 0, I64 0] :: F) (show SubH _ (PtO b2 [I64 a.1, I64 b.1, I64 c.1, I64 0, I64 0] :: EyR ep v3 c.2.2 :: PtO b1 [I64 0, I64 0, I64 0, I64 0, I64 0] :: F) from sbx) ?_
  refine ww ?_
  refine c_cons (s_call (xs := [_, _]) rfl rfl rfl rfl rfl rfl (by kernel_rfl) (fun w hs => renum_c ep _ c.2.2 c.2.1 2 _ w _ _ hv3 hs) ?_)
  rw [show eNum c.2.1 c.2.2 2 = nx c 2 from rfl]
  generalize nx c 2 = d
  rintro e w' ⟨v4, rfl, hv4, hs'⟩; refine a_ret ?_ hs'; clear hs'
  refine c_cons (s_val (v_field 3 rfl (by kernel_rfl)) rfl rfl rfl ?_)
  refine c_cons (s_store1 rfl rfl rfl (.tail .head) (by kernel_rfl) rfl (by simp) ?_)
  refine c_sub (EyR ep v4 d.2.2 :: PtO b2 [I64 a.1, I64 b.1, I64 c.1, I64 d.1, I64 0] :: PtO b1 [I64 0, I64 0, I64 0, I64 0, I64 0] :: F) (show SubH _ (PtO b2 [I64 a.1, I64 b.1, I64 c.1, I64 d.1, I64 0] :: EyR ep v4 d.2.2 :: PtO b1 [I64 0, I64 0, I64 0, I64 0, I64 0] :: F) from sbx) ?_
  refine ww ?_
  refine c_cons (s_call (xs := [_, _]) rfl rfl rfl rfl rfl rfl (by kernel_rfl) (fun w hs => renum_c ep _ d.2.2 d.2.1 1 _ w _ _ hv4 hs) ?_)
  rw [show eNum d.2.1 d.2.2 1 = nx d 1 from rfl]
  generalize nx d 1 = e
  rintro e w' ⟨v5, rfl, hv5, hs'⟩; refine a_ret ?_ hs'; clear hs'
  refine c_cons (s_val (v_field 4 rfl (by kernel_rfl)) rfl rfl rfl ?_)
  refine c_cons (s_store1 rfl rfl rfl (.tail .head) (by kernel_rfl) rfl (by simp) ?_)
  refine c_sub (PtO b2 [I64 a.1, I64 b.1, I64 c.1, I64 d.1, I64 e.1] :: PtO b1 [I64 0, I64 0, I64 0, I64 0, I64 0] :: EyR ep v5 e.2.2 :: F) (show SubH _ (PtO b2 [I64 a.1, I64 b.1, I64 c.1, I64 d.1, I64 e.1] :: EyR ep v5 e.2.2 :: PtO b1 [I64 0, I64 0, I64 0, I64 0, I64 0] :: F) from sbx) ?_
  refine ww ?_
  refine c_cons (s_val (v_loadAgg (vs := [I64 a.1, I64 b.1, I64 c.1, I64 d.1, I64 e.1]) rfl (by kernel_rfl) (by kernel_rfl) rfl (fun j u hj => (Cel.all hj))) rfl rfl rfl ?_)
  refine c_cons (s_storeA (vs := [I64 a.1, I64 b.1, I64 c.1, I64 d.1, I64 e.1]) rfl rfl rfl (.tail (.head)) (by kernel_rfl) (by simp [Value.oneCell']) rfl ?_)
  refine ww ?_
  exact f_retA (vs := [I64 a.1, I64 b.1, I64 c.1, I64 d.1, I64 e.1]) rfl rfl (by kernel_rfl) (by kernel_rfl) rfl (fun j u hj => Cel.all hj) (fun w hs => ⟨v5, rfl, hv5, hs.sb⟩)

-- (*pinstripe/pinstriperef1.Eye).Fall
theorem rfall_c (ep : Nat) (v : Value) (bad x : Int) (w0 w : World) (G : Im) (F : Hp) (hs : Sat w0 w G (EyR ep v bad :: F)) :
    Calls Try.prog 53 #[Pt ep 0, I64 x] w fun e w' => e = .returned (.tuple #[]) ∧ Sat w0 w' G (EyR ep v (if bad = 0 then x else bad) :: F) := by
  refine f_enter (vs := [_, _]) Try.func53 rfl Try.ntmps53 (by simp) hs ?_
  refine ww ?_
  refine c_cons (s_val (v_field 1 rfl (by kernel_rfl)) rfl rfl rfl ?_)
  refine c_cons (s_val (v_load rfl (Cel.head rfl) (by kernel_rfl)) rfl rfl rfl ?_)
  refine ww ?_
  refine c_cond_d rfl (fun c1 => ?_) (fun c1 => ?_)
  · -- then
    rw [if_pos c1]
    refine ww ?_
    refine c_cons (s_val (v_field 1 rfl (by kernel_rfl)) rfl rfl rfl ?_)
    refine c_cons (s_store1 rfl rfl rfl .head (by kernel_rfl) rfl (by simp) ?_)
    refine ww ?_
    exact f_end0 rfl (fun w hs => ⟨rfl, hs⟩)
  rw [if_neg c1]
  refine ww ?_
  exact f_end0 rfl (fun w hs => ⟨rfl, hs⟩)

-- (*pinstripe/pinstriperef1.Eye).Form
theorem rform_c (ep : Nat) (v : Value) (bad : Int) (b : Bool) (w0 w : World) (G : Im) (F : Hp) (hs : Sat w0 w G (EyR ep v bad :: F)) :
    Calls Try.prog 50 #[Pt ep 0, .bool b] w fun e w' => e = .returned (.tuple #[]) ∧ Sat w0 w' G (EyR ep v (if bad = 0 ∧ b = true then 4 else bad) :: F) := by
  refine f_enter (vs := [_, _]) Try.func50 rfl Try.ntmps50 (by simp) hs ?_
  cases b with
  | true =>
    rw [show (if bad = 0 ∧ true = true then (4 : Int) else bad) = if bad = 0 then 4 else bad by simp]
    refine ww ?_
    refine c_cond_t rfl ?_
    refine ww ?_
    refine c_cons (s_call (xs := [_, _]) rfl rfl rfl rfl rfl rfl (by kernel_rfl) (fun w hs => rfall_c ep _ bad 4 _ w _ _ hs) ?_)
    rintro e w' ⟨rfl, hs'⟩; refine a_ret ?_ hs'; clear hs'
    refine ww ?_
    exact f_end0 rfl (fun w hs => ⟨rfl, hs⟩)
  | false =>
    rw [show (if bad = 0 ∧ false = true then (4 : Int) else bad) = bad by simp]
    refine ww ?_
    refine c_cond_f rfl ?_
    refine ww ?_
    exact f_end0 rfl (fun w hs => ⟨rfl, hs⟩)
end

section
open Go
set_option linter.unusedVariables false
set_option linter.unusedSimpArgs false
set_option maxHeartbeats 1600000
attribute [local irreducible] Code.wp wpList stepK Holds Val wpR Eff Eff0 Code.wpIn wpListIn stepI Exit.then Exit.inBlock bodyPost bodyPostM

abbrev PR (c : List Value) (x : P5) : Prop := c = x.cells
abbrev LO := LOwn 5 PR 73
def cntS (s : Int) : Nat := ((s + 63) / 64).toNat
def mayP (x : P5) : Prop := x = p0 ∨ (0 ≤ x.c ∧ x.c ≤ 4 ∧ 0 ≤ x.l ∧ x.l ≤ 1048576 ∧ 0 ≤ x.n ∧ x.n ≤ 1073741824 ∧ 0 ≤ x.a ∧ x.a ≤ 5999 ∧ 1 ≤ x.k ∧ x.k ≤ 64 ∧ x.a ≤ 6000 - x.k)
instance (x : P5) : Decidable (mayP x) := by unfold mayP; infer_instance
theorem mayP_iff {x : P5} (h : ¬ x = p0) : mayP x ↔ (0 ≤ x.c ∧ x.c ≤ 4 ∧ 0 ≤ x.l ∧ x.l ≤ 1048576 ∧ 0 ≤ x.n ∧ x.n ≤ 1073741824 ∧ 0 ≤ x.a ∧ x.a ≤ 5999 ∧ 1 ≤ x.k ∧ x.k ≤ 64 ∧ x.a ≤ 6000 - x.k) := by
  unfold mayP; exact ⟨fun h' => h'.resolve_left h, .inr⟩
def atS (l : List P5) (i : Int) : P5 := if 0 ≤ i ∧ i < l.length then l.getD i.toNat p0 else p0

theorem zero_c (x : P5) (w0 w : World) (G : Im) (F : Hp) (hs : Sat w0 w G F) :
    Calls Try.prog 88 #[x.V] w fun e w' => e = .returned (.bool (decide (x = p0))) ∧ Sat w0 w' G F := by
  refine f_enter (vs := [_]) Try.func88 rfl Try.ntmps88 (by simp) hs ?_
  refine ww ?_
  refine c_cons (s_boxA [_, _, _, _, _] rfl rfl rfl fun b1 => ?_)
  refine ww ?_
  refine c_cons (s_val (v_loadAgg (vs := [I64 x.c, I64 x.l, I64 x.n, I64 x.a, I64 x.k]) rfl (by kernel_rfl) (by kernel_rfl) rfl (fun j u hj => (Cel.all hj))) rfl rfl rfl ?_)
  refine c_cons (s_val (v_build (ps := []) #[I64 0, I64 0, I64 0, I64 0, I64 0] rfl (by kernel_rfl)) rfl rfl rfl ?_)
  refine c_cons (s_val (v_eqP x p0 rfl rfl (by kernel_rfl)) rfl rfl rfl ?_)
  refine ww ?_
  exact f_ret1 rfl rfl (fun w hs => ⟨rfl, hs.tl⟩)

theorem within_c (x m : Int) (w0 w : World) (G : Im) (F : Hp) (hs : Sat w0 w G F) :
    Calls Try.prog 89 #[I64 x, I64 m] w fun e w' => e = .returned (.bool (decide (0 ≤ x ∧ x ≤ m))) ∧ Sat w0 w' G F := by
  refine f_enter (vs := [_, _]) Try.func89 rfl Try.ntmps89 (by simp) hs ?_
  refine ww ?_
  refine c_part_d 7 _ rfl (fun c1 => ?_) (fun c1 => ?_)
  · -- t7 = True
    refine ww ?_
    exact f_ret1 rfl rfl (fun w hs => ⟨by rw [decide_eq_decide.2 (show x ≤ m ↔ 0 ≤ x ∧ x ≤ m by omega)], hs⟩)
  refine ww ?_
  exact f_ret1 rfl rfl (fun w hs => ⟨by rw [decide_eq_false (show ¬ (0 ≤ x ∧ x ≤ m) by omega)], hs⟩)

theorem mayp_c (x : P5) (w0 w : World) (G : Im) (F : Hp) (hs : Sat w0 w G F) :
    Calls Try.prog 66 #[x.V] w fun e w' => e = .returned (.bool (decide (mayP x))) ∧ Sat w0 w' G F := by
  refine f_enter (vs := [_]) Try.func66 rfl Try.ntmps66 (by simp) hs ?_
  refine ww ?_
  refine c_cons (s_boxA [_, _, _, _, _] rfl rfl rfl fun b1 => ?_)
  refine ww ?_
  refine c_cons (s_val (v_loadAgg (vs := [I64 x.c, I64 x.l, I64 x.n, I64 x.a, I64 x.k]) rfl (by kernel_rfl) (by kernel_rfl) rfl (fun j u hj => (Cel.all hj))) rfl rfl rfl ?_)
  refine c_cons (s_call (xs := [_]) rfl rfl rfl rfl rfl rfl (by kernel_rfl) (fun w hs => zero_c x _ w _ _ hs) ?_)
  rintro e w' ⟨rfl, hs'⟩; refine a_ret ?_ hs'; clear hs'
  refine ww ?_
  refine c_cond_d rfl (fun c1 => ?_) (fun c1 => ?_)
  · -- then
    refine ww ?_
    exact f_ret1 rfl rfl (fun w hs => ⟨by rw [decide_eq_true (show mayP x from .inl c1)], hs.tl⟩)
  refine ww ?_
  refine c_cons (s_val (v_field 0 rfl (by kernel_rfl)) rfl rfl rfl ?_)
  refine c_cons (s_val (v_field 0 rfl (by kernel_rfl)) rfl rfl rfl ?_)
  refine c_cons (s_val (v_load rfl (Cel.head rfl) (by kernel_rfl)) rfl rfl rfl ?_)
  refine c_cons (s_call (xs := [_, _]) rfl rfl rfl rfl rfl rfl (by kernel_rfl) (fun w hs => within_c _ _ _ w _ _ hs) ?_)
  rintro e w' ⟨rfl, hs'⟩; refine a_ret ?_ hs'; clear hs'
  refine ww ?_
  refine c_part_d 9 _ rfl (fun c2 => ?_) (fun c2 => ?_)
  · -- t9 = True
    refine ww ?_
    refine c_cons (s_val (v_field 0 rfl (by kernel_rfl)) rfl rfl rfl ?_)
    refine c_cons (s_val (v_field 1 rfl (by kernel_rfl)) rfl rfl rfl ?_)
    refine c_cons (s_val (v_load rfl (Cel.head rfl) (by kernel_rfl)) rfl rfl rfl ?_)
    refine c_cons (s_call (xs := [_, _]) rfl rfl rfl rfl rfl rfl (by kernel_rfl) (fun w hs => within_c _ _ _ w _ _ hs) ?_)
    rintro e w' ⟨rfl, hs'⟩; refine a_ret ?_ hs'; clear hs'
    refine ww ?_
    refine c_part_d 15 _ rfl (fun c3 => ?_) (fun c3 => ?_)
    · -- t15 = True
      refine ww ?_
      refine c_cons (s_val (v_field 0 rfl (by kernel_rfl)) rfl rfl rfl ?_)
      refine c_cons (s_val (v_field 2 rfl (by kernel_rfl)) rfl rfl rfl ?_)
      refine c_cons (s_val (v_load rfl (Cel.head rfl) (by kernel_rfl)) rfl rfl rfl ?_)
      refine c_cons (s_call (xs := [_, _]) rfl rfl rfl rfl rfl rfl (by kernel_rfl) (fun w hs => within_c _ _ _ w _ _ hs) ?_)
      rintro e w' ⟨rfl, hs'⟩; refine a_ret ?_ hs'; clear hs'
      refine ww ?_
      refine c_part_d 21 _ rfl (fun c4 => ?_) (fun c4 => ?_)
      · -- t21 = True
        refine ww ?_
        refine c_cons (s_val (v_field 3 rfl (by kernel_rfl)) rfl rfl rfl ?_)
        refine c_cons (s_val (v_load rfl (Cel.head rfl) (by kernel_rfl)) rfl rfl rfl ?_)
        refine c_cons (s_call (xs := [_, _]) rfl rfl rfl rfl rfl rfl (by kernel_rfl) (fun w hs => within_c _ _ _ w _ _ hs) ?_)
        rintro e w' ⟨rfl, hs'⟩; refine a_ret ?_ hs'; clear hs'
        refine ww ?_
        refine c_part_d 26 _ rfl (fun c5 => ?_) (fun c5 => ?_)
        · -- t26 = True
          refine ww ?_
          refine c_cons (s_val (v_field 4 rfl (by kernel_rfl)) rfl rfl rfl ?_)
          refine c_cons (s_val (v_load rfl (Cel.head rfl) (by kernel_rfl)) rfl rfl rfl ?_)
          refine ww ?_
          refine c_part_d 31 _ rfl (fun c6 => ?_) (fun c6 => ?_)
          · -- t31 = True
            refine ww ?_
            refine c_cons (s_val (v_field 4 rfl (by kernel_rfl)) rfl rfl rfl ?_)
            refine c_cons (s_val (v_load rfl (Cel.head rfl) (by kernel_rfl)) rfl rfl rfl ?_)
            refine ww ?_
            refine c_part_d 36 _ rfl (fun c7 => ?_) (fun c7 => ?_)
            · -- t36 = True
              refine ww ?_
              refine c_cons (s_val (v_field 3 rfl (by kernel_rfl)) rfl rfl rfl ?_)
              refine c_cons (s_val (v_load rfl (Cel.head rfl) (by kernel_rfl)) rfl rfl rfl ?_)
              refine c_cons (s_val (v_field 4 rfl (by kernel_rfl)) rfl rfl rfl ?_)
              refine c_cons (s_val (v_load rfl (Cel.head rfl) (by kernel_rfl)) rfl rfl rfl ?_)
              refine ww ?_
              exact f_ret1 rfl rfl (fun w hs => ⟨by rw [decide_eq_decide.2 (show x.a ≤ 6000 - x.k ↔ mayP x by rw [mayP_iff c1]; omega)], hs.tl⟩)
            refine ww ?_
            exact f_ret1 rfl rfl (fun w hs => ⟨by rw [decide_eq_false (show ¬ mayP x by rw [mayP_iff c1]; omega)], hs.tl⟩)
          refine ww ?_
          exact f_ret1 rfl rfl (fun w hs => ⟨by rw [decide_eq_false (show ¬ mayP x by rw [mayP_iff c1]; omega)], hs.tl⟩)
        refine ww ?_
        exact f_ret1 rfl rfl (fun w hs => ⟨by rw [decide_eq_false (show ¬ mayP x by rw [mayP_iff c1]; omega)], hs.tl⟩)
      refine ww ?_
      exact f_ret1 rfl rfl (fun w hs => ⟨by rw [decide_eq_false (show ¬ mayP x by rw [mayP_iff c1]; omega)], hs.tl⟩)
    refine ww ?_
    exact f_ret1 rfl rfl (fun w hs => ⟨by rw [decide_eq_false (show ¬ mayP x by rw [mayP_iff c1]; omega)], hs.tl⟩)
  refine ww ?_
  exact f_ret1 rfl rfl (fun w hs => ⟨by rw [decide_eq_false (show ¬ mayP x by rw [mayP_iff c1]; omega)], hs.tl⟩)
end

section
open Go Go.ChangeShapes Go.WideShapes Go.ChangeAt Go.RowKit
set_option linter.unusedVariables false

/-- The memory a law finds. -/
def atStart (W : World) : Im := fun b => W.heap[b]?
theorem cel_at {W : World} {b o : Nat} {v : Value} (h : W.cell? ⟨b, o, none⟩ = some v) : Cel (atStart W) [] b o v := by
  simp only [World.cell?] at h
  split at h
  · rename_i c t fz hb
    exact ⟨c, t, fz, .inl hb, by simpa using h⟩
  · cases h
theorem sv_at {W : World} {ad : Option Addr} {k c : Nat} {L : List Value} (hk : k ≤ c) (hc : c ≤ maxLen) (hn : ad = none → c = 0) (hl : L.length = k) (h : ∀ a, ad = some a → ∀ (j : Nat) u, L[j]? = some u → W.cell? (a.add j) = some u) :
    SV (atStart W) [] (.slice ad k c) k L := by
  refine ⟨ad, c, rfl, hk, hc, ?_⟩
  cases L with
  | nil => exact .inl ⟨rfl, hn⟩
  | cons u r =>
    cases ad with
    | none => have := hn rfl; simp at hl; omega
    | some a =>
      have h0 := h a rfl 0 u rfl
      have hs := World.cell?_spot h0
      obtain ⟨b, o, s⟩ := a
      simp only [Addr.add] at hs
      subst hs
      exact .inr ⟨b, o, rfl, fun j x hj => cel_at (by have := h _ rfl j x hj; rwa [addr_add] at this)⟩

/-- A number as a byte. -/
def u8 (n : Int) : UInt8 := UInt8.ofNat n.toNat
theorem u8_wf {n : Int} (h : (Lit.int .u8 n).wf = true) : .int .u8 n = B8 (u8 n) := by
  have h1 : 0 ≤ n ∧ n ≤ 255 := by
    simp only [Lit.wf, Bool.and_eq_true, decide_eq_true_eq] at h
    have a : IntKind.min .u8 = 0 := rfl
    have b : IntKind.max .u8 = 255 := rfl
    omega
  have h2 : ((u8 n).toNat : Int) = n := by
    simp [u8]; omega
  show Value.int .u8 n = Value.int .u8 ((u8 n).toNat : Int)
  rw [h2]

section
variable {H : Type} {enc : TypeId × Value → H} {P : Program} {W : World} {r : Reach} {b0 : Nat} {v : Value} {d : DataW H} {ps : List MemPlace}
theorem arg_int {t : TypeId} {k : IntKind} (ht : P.underlying t = some (.int k)) (hval : Value.okWide P W r b0 t v) (hd : DataW.Trod enc P W 0 (fun _ => true) true t v d ps) : ∃ n, v = .int k n ∧ k.min ≤ n ∧ n ≤ k.max := by
  obtain ⟨n, h1, _, _, h2⟩ := open_int ht hval hd
  simp only [Lit.wf, Bool.and_eq_true, decide_eq_true_eq] at h2
  exact ⟨n, h1, h2⟩
theorem arg_i64 {t : TypeId} (ht : P.underlying t = some (.int .i64)) (hval : Value.okWide P W r b0 t v) (hd : DataW.Trod enc P W 0 (fun _ => true) true t v d ps) : ∃ n, v = I64 n ∧ -9223372036854775808 ≤ n ∧ n ≤ 9223372036854775807 := arg_int ht hval hd
theorem arg_u8 {t : TypeId} (ht : P.underlying t = some (.int .u8)) (hval : Value.okWide P W r b0 t v) (hd : DataW.Trod enc P W 0 (fun _ => true) true t v d ps) : ∃ x : UInt8, v = B8 x := by
  obtain ⟨n, h1, _, _, h2⟩ := open_int ht hval hd
  exact ⟨u8 n, by rw [h1, u8_wf h2]⟩
theorem arg_bytes {t e : TypeId} (ht : P.underlying t = some (.slice e)) (he : P.underlying e = some (.int .u8)) (hc : P.cellsOf e = 1) (hval : Value.okWide P W r b0 t v) (hd : DataW.Trod enc P W 0 (fun _ => true) true t v d ps) :
    ∃ xs : List UInt8, SV (atStart W) [] v xs.length (xs.map B8) := by
  obtain ⟨a, k, c, rfl⟩ := okWide_slice ht hval
  obtain ⟨fuel, hf⟩ := hd
  rcases open_ints ht he hc hf with ⟨h1, _⟩ | ⟨a', k', c', zs, h1, _, hl, hm, hz, _, hcell, hw⟩
  · have h1 : Value.slice a k c = .slice none 0 0 := by simpa [Value.cells] using h1
    cases h1
    exact ⟨[], SV.nil _ _⟩
  · have h1 : Value.slice a k c = .slice (some a') k' c' := by simpa [Value.cells] using h1
    cases h1
    simp only [if_true] at hz
    have hlen : ((zs.take k).map u8).length = k := by simp; omega
    refine ⟨(zs.take k).map u8, ?_⟩
    rw [hlen]
    refine sv_at hl hm (by simp) (by simpa using hlen) fun a ha j u hj => ?_
    cases ha
    simp only [List.map_map, List.getElem?_map, List.getElem?_take] at hj
    by_cases hjk : j < k
    · rw [if_pos hjk, List.getElem?_eq_getElem (by omega)] at hj
      have hj : B8 (u8 zs[j]) = u := by simpa using hj
      rw [hcell j (by omega), ← hj, ← u8_wf (hw _ (List.getElem_mem (by omega)))]
      simp [List.getD, show j < zs.length by omega]
    · rw [if_neg hjk] at hj; cases hj
theorem arg_rows {t e q : TypeId} (ht : P.underlying t = some (.slice e)) (he : P.underlying e = some (.slice q)) (hq : P.underlying q = some (.int .u8)) (ce : P.cellsOf e = 1) (cq : P.cellsOf q = 1)
    (hval : Value.okWide P W r b0 t v) (hd : DataW.Trod enc P W 0 (fun _ => true) true t v d ps) :
    ∃ (vs : List Value) (rs : List (List UInt8)), SV (atStart W) [] v vs.length vs ∧ vs.length = rs.length ∧ ∀ (j : Nat) x s, vs[j]? = some x → rs[j]? = some s → SV (atStart W) [] x s.length (s.map B8) := by
  obtain ⟨a, k, c, rfl⟩ := okWide_slice ht hval
  obtain ⟨fuel, hf⟩ := hd
  rcases Go.Deep.open_int_rows ht he hq ce cq hf with ⟨h1, _⟩ | ⟨a', k', c', A, L, C, Z, h1, _, hl, hm, _, hr⟩
  · have h1 : Value.slice a k c = .slice none 0 0 := by simpa [Value.cells] using h1
    cases h1
    exact ⟨[], [], SV.nil _ _, rfl, fun j x s hx => by simp at hx⟩
  · have h1 : Value.slice a k c = .slice (some a') k' c' := by simpa [Value.cells] using h1
    cases h1
    refine ⟨(List.range k).map fun r => .slice (A r) (L r) (C r), (List.range k).map fun r => ((Z r).take (L r)).map u8, ?_, by simp, fun j x s hx hs => ?_⟩
    · rw [List.length_map, List.length_range]
      refine sv_at hl hm (by simp) (by simp) fun a ha j u hj => ?_
      cases ha
      have hjk : j < k := by have := (List.getElem?_eq_some_iff.1 hj).1; simpa using this
      rw [(hr j (by omega)).1]
      simpa [hjk] using hj
    · have hjk : j < k := by have := (List.getElem?_eq_some_iff.1 hx).1; simpa using this
      obtain ⟨_, g1, g2, g3, g4, g5, g6⟩ := hr j (by omega)
      have ex : Value.slice (A j) (L j) (C j) = x := by simpa [hjk] using hx
      have es : ((Z j).take (L j)).map u8 = s := by simpa [hjk] using hs
      subst ex es
      have hlen : (((Z j).take (L j)).map u8).length = L j := by simp; omega
      rw [hlen]
      refine sv_at g1 g2 g5 (by simpa using hlen) fun a ha i u hi => ?_
      have hil : i < L j := by have := (List.getElem?_eq_some_iff.1 hi).1; simpa [g3, Nat.min_eq_left g1] using this
      rw [(g6 a ha).2 i (by omega)]
      have hi : B8 (u8 ((Z j)[i]'(by omega))) = u := by simpa [List.getElem?_take, hil, show i < (Z j).length by omega] using hi
      rw [← hi, ← u8_wf (g4 _ (List.getElem_mem (by omega)))]
      simp [List.getD, show i < (Z j).length by omega]
end
end

section
open Go Go.ChangeShapes Go.WideShapes Go.ChangeAt Go.RowKit
set_option linter.unusedVariables false
section
variable {H : Type} {enc : TypeId × Value → H} {P : Program} {W : World} {r : Reach} {b0 : Nat} {v : Value} {d : DataW H} {ps : List MemPlace}
/-- What is read as a type e: these cells. -/
def Rd (enc : TypeId × Value → H) (P : Program) (W : World) (e : TypeId) (cs : List Value) : Prop := ∃ n y, DataW.trod enc P W 0 (fun _ => true) true n e cs = some y
theorem rd_field {t : TypeId} {fs : Array Field} {cs : List Value} (ht : P.underlying t = some (.struct fs)) (h : Rd enc P W t cs) {i : Nat} {f : Field} (hf : fs[i]? = some f) : Rd enc P W f.type ((cs.drop f.offset).take (P.cellsOf f.type)) := by
  obtain ⟨n, y, h⟩ := h
  obtain ⟨xs, m, _, _, _, hl, hx⟩ := DataW.trod_struct ht h
  have h1 := hx i f hf
  have hi : i < fs.size := (Array.getElem?_eq_some_iff.1 hf).1
  rw [List.getElem?_eq_getElem (by omega)] at h1
  exact ⟨m, _, h1⟩
theorem rd_len {t : TypeId} {fs : Array Field} {cs : List Value} (ht : P.underlying t = some (.struct fs)) (h : Rd enc P W t cs) : cs.length = P.cellsOf t := by
  obtain ⟨n, y, h⟩ := h
  obtain ⟨xs, m, _, _, hl, _⟩ := DataW.trod_struct ht h
  exact hl
theorem rd_int {t : TypeId} {k : IntKind} {cs : List Value} (ht : P.underlying t = some (.int k)) (h : Rd enc P W t cs) : ∃ n, cs = [.int k n] ∧ k.min ≤ n ∧ n ≤ k.max := by
  obtain ⟨m, y, h⟩ := h
  obtain ⟨n, h1, _, h2⟩ := DataW.trod_int ht h
  simp only [Lit.wf, Bool.and_eq_true, decide_eq_true_eq] at h2
  exact ⟨n, h1, h2⟩
theorem rd_i64 {t : TypeId} {cs : List Value} (ht : P.underlying t = some (.int .i64)) (h : Rd enc P W t cs) : ∃ n, cs = [I64 n] ∧ -9223372036854775808 ≤ n ∧ n ≤ 9223372036854775807 := rd_int ht h
theorem rd_u8 {t : TypeId} {cs : List Value} (ht : P.underlying t = some (.int .u8)) (h : Rd enc P W t cs) : ∃ x : UInt8, cs = [B8 x] := by
  obtain ⟨m, y, h⟩ := h
  obtain ⟨n, h1, _, h2⟩ := DataW.trod_int ht h
  exact ⟨u8 n, by rw [h1, u8_wf h2]⟩
theorem rd_bool {t : TypeId} {cs : List Value} (ht : P.underlying t = some .bool) (h : Rd enc P W t cs) : ∃ b : Bool, cs = [.bool b] := by
  obtain ⟨m, y, h⟩ := h
  obtain ⟨b, h1, _⟩ := DataW.trod_bool ht h
  exact ⟨b, h1⟩
theorem adda (a : Addr) (p q : Nat) : (a.add p).add q = a.add (p + q) := by
  unfold Addr.add
  by_cases hp : p = 0 <;> by_cases hq : q = 0 <;> simp_all [Nat.add_assoc]
/-- A slice of whatever reads as records. -/
theorem rd_recs {α : Type} {t e : TypeId} {s : Nat} {R : Im → List Value → α → Prop} {cs : List Value} (ht : P.underlying t = some (.slice e)) (ce : P.cellsOf e = s) (hs : 0 < s) (hR : ∀ cs, Rd enc P W e cs → ∃ x, R (atStart W) cs x) (h : Rd enc P W t cs) :
    ∃ u xs, cs = [u] ∧ RecV s R (atStart W) u xs := by
  obtain ⟨m, y, h⟩ := h
  rcases DataW.trod_slice ht h with ⟨h1, _⟩ | ⟨a, k, c, elems, rest, n, _, h1, _, _, hl, hm, hlen, hel, _⟩
  · exact ⟨_, [], h1, RecV.nil⟩
  · have each : ∀ i, i < k → ∃ cx : List Value × α, cx.1.length = s ∧ R (atStart W) cx.1 cx.2 ∧ ∀ f, f < s → W.cell? (a.add (i * s + f)) = cx.1[f]? := fun i hi => by
      have h2 := hel i hi
      rw [ce, List.getElem?_eq_getElem (by omega), Option.bind_eq_some_iff] at h2
      obtain ⟨cs', hcs, hy⟩ := h2
      obtain ⟨_, hl', hc'⟩ := World.cells?_some hcs
      obtain ⟨x, hx⟩ := hR cs' ⟨n, _, hy⟩
      refine ⟨(cs', x), hl', hx, fun f hf => ?_⟩
      rw [← hc' f hf, adda]
    refine ⟨.slice (some a) k c, ?_⟩
    have build : ∀ k', k' ≤ k → ∃ (L : List Value) (xs : List α), xs.length = k' ∧ Recs s (R (atStart W)) L xs ∧ ∀ j, j < k' * s → W.cell? (a.add j) = L[j]? := by
      intro k'
      induction k' with
      | zero => exact fun _ => ⟨[], [], rfl, Recs.nil, fun j hj => by simp at hj⟩
      | succ k' ih =>
        intro hk'
        obtain ⟨L, xs, hx, hr, hc⟩ := ih (by omega)
        obtain ⟨⟨cs', x⟩, e1, e2, e3⟩ := each k' (by omega)
        refine ⟨L ++ cs', xs ++ [x], by simp [hx], hr.append (Recs.one e1 e2), fun j hj => ?_⟩
        have hL : L.length = k' * s := by rw [hr.1, hx]
        by_cases hjk : j < k' * s
        · rw [List.getElem?_append_left (by rw [hL]; exact hjk)]; exact hc j hjk
        · rw [List.getElem?_append_right (by rw [hL]; omega), hL]
          rw [Nat.add_mul, Nat.one_mul] at hj
          have := e3 (j - k' * s) (by omega)
          rwa [show k' * s + (j - k' * s) = j by omega] at this
    obtain ⟨L, xs, hx, hr, hc⟩ := build k (Nat.le_refl k)
    refine ⟨xs, h1, L, ?_, hr⟩
    rw [hx]
    have hL : L.length = k * s := by rw [hr.1, hx]
    refine ⟨some a, c, rfl, hl, hm, ?_⟩
    by_cases hk0 : L = []
    · exact .inl ⟨hk0, by simp⟩
    · have hpos : 0 < L.length := List.length_pos_iff.2 hk0
      have h0 := hc 0 (by rw [← hL]; exact hpos)
      rw [List.getElem?_eq_getElem hpos] at h0
      have hsp := World.cell?_spot h0
      obtain ⟨b, o, sp⟩ := a
      simp only [Addr.add] at hsp
      subst hsp
      exact .inr ⟨b, o, rfl, fun j x hj => cel_at (by
        have hlt : j < L.length := (List.getElem?_eq_some_iff.1 hj).1
        have := hc j (by rw [← hL]; exact hlt)
        rw [addr_add] at this
        rw [this]; exact hj)⟩
def ByteR (G : Im) (c : List Value) (x : UInt8) : Prop := c = [B8 x]
theorem recs_bytes {G : Im} {L : List Value} {xs : List UInt8} (h : Recs 1 (ByteR G) L xs) : L = xs.map B8 := by
  apply List.ext_getElem?
  intro j
  by_cases hj : j < xs.length
  · obtain ⟨c, hc, _, hf⟩ := h.at j hj
    have := hf 0 (by omega)
    rw [hc] at this
    simp at this
    rw [this]; simp [hj]
  · have h1 := h.1
    rw [List.getElem?_eq_none (by omega), List.getElem?_eq_none (by simp; omega)]
theorem rd_bytes {t e : TypeId} {cs : List Value} (ht : P.underlying t = some (.slice e)) (he : P.underlying e = some (.int .u8)) (hc : P.cellsOf e = 1) (h : Rd enc P W t cs) : ∃ (u : Value) (xs : List UInt8), cs = [u] ∧ SV (atStart W) [] u xs.length (xs.map B8) := by
  obtain ⟨u, xs, h1, L, h2, h3⟩ := rd_recs (R := ByteR) ht hc (by decide) (fun cs h => rd_u8 he h) h
  exact ⟨u, xs, h1, by rw [← recs_bytes h3]; exact h2⟩
/-- An argument that reads. -/
theorem arg_rd {t : TypeId} (hd : DataW.Trod enc P W 0 (fun _ => true) true t v d ps) : Rd enc P W t v.cells.toList := let ⟨n, h⟩ := hd; ⟨n, _, h⟩
theorem arg_recs {α : Type} {t e : TypeId} {s : Nat} {R : Im → List Value → α → Prop} (ht : P.underlying t = some (.slice e)) (ce : P.cellsOf e = s) (hs : 0 < s) (hR : ∀ cs, Rd enc P W e cs → ∃ x, R (atStart W) cs x) (hval : Value.okWide P W r b0 t v) (hd : DataW.Trod enc P W 0 (fun _ => true) true t v d ps) :
    ∃ xs, RecV s R (atStart W) v xs := by
  obtain ⟨a, k, c, rfl⟩ := okWide_slice ht hval
  obtain ⟨u, xs, h1, h2⟩ := rd_recs ht ce hs hR (arg_rd hd)
  have h1 : Value.slice a k c = u := by simpa [Value.cells] using h1
  subst h1
  exact ⟨xs, h2⟩
end
section
variable {w0 : World} {G : Im} {H R' : Hp} {n : Nat} {ds : List Deferred} {env : Env} {P : Program} {Q : Exit → Act → World → Prop} {x y : Code}
theorem v_neq_same {dst : Option Tmp} {ty : TypeId} {pos : String} {aft : Array Edge} {g : Option (Nat × Bool)} {x y : Operand} {t t' : TypeId} {k : IntKind} {p : Int} (hx : ev env x = some (.int k p)) (hy : ev env y = some (.int k p)) :
    Val P env G H ⟨dst, .binOp .neq t x y t', ty, pos, aft, g⟩ (.bool false) := by
  have := v_neq (P := P) (env := env) (G := G) (H := H) (dst := dst) (t := t) (t' := t') (ty := ty) (pos := pos) (aft := aft) (g := g) hx hy
  rwa [decide_eq_false (fun h => h rfl)] at this
theorem c_perm {H' : Hp} {R : Act → World → Prop} (hp : H.Perm H') (h : Holds n ds w0 env G H' R) : Holds n ds w0 env G H R := fun a w ht hs => h a w ht (hs.perm hp)
/-- What comes behind is walked once, from whatever state its beginning leaves. -/
theorem c_cut {α : Type} (env' : α → Env) (G' : α → Im) (H' : α → Hp) (inv : α → Prop)
    (hx : Holds n ds w0 env G H (x.wp P (Exit.then (fun a w => ∃ z, inv z ∧ TT a n ds (env' z) ∧ Sat w0 w (G' z) (H' z)) Q)))
    (hy : ∀ z, inv z → Holds n ds w0 (env' z) (G' z) (H' z) (y.wp P Q)) : Holds n ds w0 env G H ((Code.seq x y).wp P Q) := fun a w ht hs => by
  refine wp_seq (wp_mono (hx a w ht hs) fun e a' w' h => ?_)
  cases e with
  | normal => obtain ⟨z, hz, ht', hs'⟩ := h; exact hy z hz a' w' ht' hs'
  | _ => exact h
theorem l_mid {α : Type} {env' : α → Env} {G' : α → Im} {H' : α → Hp} {inv : α → Prop} (z : α) (hz : inv z) (he : Env.sub env (env' z)) (hG : G' z = G) (hsp : Split H (H' z) R') :
    Holds n ds w0 env G H (fun a w => ∃ z, inv z ∧ TT a n ds (env' z) ∧ Sat w0 w (G' z) (H' z)) := fun a w ht hs => ⟨z, hz, ht.mono (Env.sub_spec he), by rw [hG]; exact hs.only hsp⟩
end
end

section
open Go
set_option linter.unusedVariables false
set_option linter.unusedSimpArgs false
set_option maxHeartbeats 3200000
attribute [local irreducible] Code.wp wpList stepK Holds Val wpR Eff Eff0 Code.wpIn wpListIn stepI Exit.then Exit.inBlock bodyPost bodyPostM

theorem Cel.mem {G : Im} {H : Hp} {b : Nat} {L : List Value} {t : TypeId} {j : Nat} {u : Value} (h : (b, Cs L t) ∈ H) (hj : L[j]? = some u) : Cel G H b (0 + j) u := ⟨_, _, _, .inr h, by simpa using hj⟩
abbrev WP (pn : Nat) (v : Value) : Nat × Obj := (pn, Cs [v, I64 0] 113)
-- pinstripe/wire.may params ['int'] results ['bool'] ntmps 9
theorem wmay_c (x : Int) (w0 w : World) (G : Im) (F : Hp) (hs : Sat w0 w G F) :
    Calls Try.prog 68 #[I64 x] w fun e w' => e = .returned (.bool (decide (1 ≤ x ∧ x ≤ 7))) ∧ Sat w0 w' G F := by
  refine f_enter (vs := [_]) Try.func68 rfl Try.ntmps68 (by simp) hs ?_
  refine ww ?_
  refine c_part_d 5 _ rfl (fun c1 => ?_) (fun c1 => ?_)
  · -- t5 = True
    refine ww ?_
    exact f_ret1 rfl rfl (fun w hs => ⟨by rw [decide_eq_decide.2 (show x ≤ 7 ↔ 1 ≤ x ∧ x ≤ 7 by omega)], hs⟩)
  refine ww ?_
  exact f_ret1 rfl rfl (fun w hs => ⟨by rw [decide_eq_false (show ¬ (1 ≤ x ∧ x ≤ 7) by omega)], hs⟩)

-- (*pinstripe/wire.Pen).put params ['*wire.Pen', 'api.Errno', '[]uint8'] results [] ntmps 45
theorem wput_c (pn : Nat) (v : Value) (xs : List UInt8) (B : Hp) (vb : Value) (ys : List UInt8) (hlen : xs.length + ys.length ≤ 65536) (w0 w : World) (G : Im) (F : Hp) (hown : OB v xs B) (hb : SV G (WP pn v :: (B ++ F)) vb ys.length (ys.map B8)) (hs : Sat w0 w G (WP pn v :: (B ++ F))) :
    Calls Try.prog 69 #[Pt pn 0, I64 0, vb] w fun e w' => ∃ v' B', e = .returned (.tuple #[]) ∧ OB v' (xs ++ ys) B' ∧ Sat w0 w' G (WP pn v' :: (B' ++ F)) := by
  obtain ⟨ad, c, rfl⟩ := hown.form
  obtain ⟨adb, cb, rfl, hcb1, hcb2, hb3⟩ := id hb
  refine f_enter (vs := [_, _, _]) Try.func69 rfl Try.ntmps69 (by simp) hs ?_
  refine ww ?_
  refine c_cons (s_val (v_field 1 rfl (by kernel_rfl)) rfl rfl rfl ?_)
  refine c_cons (s_val (v_load rfl (Cel.head rfl) (by kernel_rfl)) rfl rfl rfl ?_)
  refine ww ?_
  refine c_kf 15 rfl (by simp) ?_
  refine c_cond_f rfl ?_
  refine ww ?_
  refine c_kf 25 rfl (by simp) ?_
  refine c_cond_f rfl ?_
  refine ww ?_
  refine c_cons (s_val (v_field 0 rfl (by kernel_rfl)) rfl rfl rfl ?_)
  refine c_cons (s_val (v_load rfl (Cel.head rfl) (by kernel_rfl)) rfl rfl rfl ?_)
  refine ww ?_
  refine c_kf 32 rfl (by omega) ?_
  refine c_cond_f rfl ?_
  refine ww ?_
  refine c_cons (s_val (v_field 0 rfl (by kernel_rfl)) rfl rfl rfl ?_)
  refine c_cons (s_val (v_load rfl (Cel.head rfl) (by kernel_rfl)) rfl rfl rfl ?_)
  refine ww ?_
  refine c_cons (s_append (e := 5) (z := B8 0) (sz := 1) (bs := 1) (by kernel_rfl) rfl rfl rfl rfl hown (Chunk.tail Chunk.head) hb rfl (by decide) (by simp) (B8_one ys) (by omega) (by omega) fun u1 B1 hown1 => ?_)
  rw [← List.length_append, ← List.map_append] at hown1
  obtain ⟨ad1, c1, rfl⟩ := hown1.form
  refine c_sub (WP pn (.slice ad xs.length c) :: (B1 ++ F)) sbx ?_
  refine ww ?_
  refine c_cons (s_val (v_field 0 rfl (by kernel_rfl)) rfl rfl rfl ?_)
  refine c_cons (s_store1 rfl rfl rfl .head (by kernel_rfl) rfl (by simp) ?_)
  refine ww ?_
  exact f_end0 rfl (fun w hs => ⟨_, B1, rfl, hown1, hs⟩)

-- (*pinstripe/wire.Pen).Num params ['*wire.Pen', 'int', 'int'] results [] ntmps 41
theorem wnum_c (pn : Nat) (v : Value) (xs : List UInt8) (B : Hp) (x : Int) (n : Nat) (hn : 1 ≤ n ∧ n ≤ 7) (hx : 0 ≤ x ∧ x < 2 ^ (8 * n)) (hlen : xs.length + n ≤ 65536) (w0 w : World) (G : Im) (F : Hp) (hown : OB v xs B) (hs : Sat w0 w G (WP pn v :: (B ++ F))) :
    Calls Try.prog 28 #[Pt pn 0, I64 x, I64 n] w fun e w' => ∃ v' B', e = .returned (.tuple #[]) ∧ OB v' (xs ++ be x n) B' ∧ Sat w0 w' G (WP pn v' :: (B' ++ F)) := by
  have hpw := pow8 hn
  have h8 : ∀ i : Nat, ((8 : Int) * (i : Int)).toNat = 8 * i := fun i => by omega
  refine f_enter (vs := [_, _, _]) Try.func28 rfl Try.ntmps28 (by simp) hs ?_
  refine ww ?_
  refine c_cons (s_call (xs := [_]) rfl rfl rfl rfl rfl rfl (by kernel_rfl) (fun w hs => wmay_c _ _ w _ _ hs) ?_)
  rintro e w' ⟨rfl, hs'⟩; refine a_ret ?_ hs'; clear hs'
  rw [decide_eq_true (show 1 ≤ (n : Int) ∧ (n : Int) ≤ 7 by omega)]
  refine ww ?_
  refine c_kf 15 rfl (by omega) ?_
  refine ww ?_
  refine c_cons (s_val (v_mul rfl rfl (by omega)) rfl rfl rfl ?_)
  refine c_cons (s_val (v_shr rfl rfl (by omega)) rfl rfl rfl ?_)
  rw [h8, Int.ediv_eq_zero_of_lt hx.1 hx.2]
  refine ww ?_
  refine c_kf 21 rfl (by simp) ?_
  refine c_cond_f rfl ?_
  refine ww ?_
  refine c_loop (α := Nat × Value × Hp) (fun z => [(0, Pt pn 0), (1, I64 x), (6, z.2.1), (7, I64 ((n : Int) - 1 - z.1))]) (fun _ => G) (fun z => WP pn v :: (B ++ (z.2.2 ++ F))) (fun z => z.1 ≤ n ∧ Own z.2.1 z.1 (((be x n).take z.1).map B8) 5 1 z.2.2) (fun z => n - z.1) (0, .slice none 0 0, []) ⟨Nat.zero_le _, Own.zero none _ _⟩ ?_ ?_
  · exact n_at ⟨rfl, rfl, rfl, by simp [List.lookup], trivial⟩ sbx
  rintro ⟨i, u, Bo⟩ ⟨hi, ho⟩
  dsimp only at hi ho ⊢
  refine ww ?_
  refine c_cond_d rfl (fun c1 => ?_) (fun c1 => ?_)
  · -- then
    have hil : i < n := by omega
    have hi2 : ((n : Int) - 1 - i) = ((n - 1 - i : Nat) : Int) := by omega
    rw [hi2]
    refine ww ?_
    refine c_cons (s_val (v_mul rfl rfl (by omega)) rfl rfl rfl ?_)
    refine c_cons (s_val (v_shr rfl rfl (by omega)) rfl rfl rfl ?_)
    rw [h8]
    refine c_cons (s_val (v_byte rfl (by kernel_rfl) (by kernel_rfl)) rfl rfl rfl ?_)
    refine c_cons (s_lit (z := B8 0) (bs := 1) (e := 5) [_] (by kernel_rfl) rfl rfl rfl rfl (by simp [Value.oneCell']) rfl (by decide) fun b1 => ?_)
    refine c_cons (s_append (e := 5) (z := B8 0) (sz := 1) (bs := 1) (by kernel_rfl) rfl rfl rfl rfl ho (Chunk.tail (Chunk.tail (Chunk.app Chunk.head))) (news := [B8 (lowB (x / 2 ^ (8 * (n - 1 - i))))]) (SV.block .head (by simp [maxLen])) rfl (by decide) rfl (by simp [Value.oneCell']) (by simp; omega) (by simp; omega) fun u2 B2 hown2 => ?_)
    refine ww ?_
    exact n_next (x := (i, u, Bo)) (i + 1, u2, B2) ⟨by omega, by dsimp only; rw [be_snoc x n i hil, List.map_append]; exact hown2⟩ (by dsimp only; omega) ⟨rfl, rfl, rfl, by simp [List.lookup]; omega, trivial⟩ rfl sbx
  have e : i = n := by omega
  subst e
  rw [List.take_of_length_le (by rw [be_len]; exact Nat.le_refl _)] at ho
  refine ww ?_
  refine c_cons (s_call (xs := [_, _, _]) rfl rfl rfl rfl rfl rfl (by kernel_rfl) (fun w hs => wput_c pn _ xs B _ (be x i) (by rw [be_len]; exact hlen) _ w _ _ hown (by have := ho.sv (G := G) (H := WP pn v :: (B ++ (Bo ++ F))) (fun p hp => by simp [hp]); rw [be_len]; exact this) hs) ?_)
  rintro e w' ⟨v2, B2, rfl, hown2, hs'⟩; refine a_ret ?_ hs'; clear hs'
  refine ww ?_
  exact f_end0 rfl (fun w hs => ⟨v2, B2, rfl, hown2, hs.sb⟩)
end

section
open Go
set_option linter.unusedVariables false
set_option linter.unusedSimpArgs false
set_option maxHeartbeats 3200000
attribute [local irreducible] Code.wp wpList stepK Holds Val wpR Eff Eff0 Code.wpIn wpListIn stepI Exit.then Exit.inBlock bodyPost bodyPostM

/-- A pointer's bytes. -/
def bsP (x : P5) : List UInt8 := be x.c 1 ++ be x.l 3 ++ be x.n 4 ++ be x.a 2 ++ be x.k 1
theorem bsP_len (x : P5) : (bsP x).length = 11 := by simp [bsP, be_len]
theorem mayP_nums {x : P5} (h : mayP x) : (0 ≤ x.c ∧ x.c < 2 ^ (8 * 1)) ∧ (0 ≤ x.l ∧ x.l < 2 ^ (8 * 3)) ∧ (0 ≤ x.n ∧ x.n < 2 ^ (8 * 4)) ∧ (0 ≤ x.a ∧ x.a < 2 ^ (8 * 2)) ∧ (0 ≤ x.k ∧ x.k < 2 ^ (8 * 1)) := by
  rcases h with rfl | h
  · decide
  · refine ⟨⟨h.1, ?_⟩, ⟨h.2.2.1, ?_⟩, ⟨h.2.2.2.2.1, ?_⟩, ⟨h.2.2.2.2.2.2.1, ?_⟩, ⟨by omega, ?_⟩⟩ <;> (refine Int.lt_of_lt_of_le ?_ (show (_ : Int) ≤ _ from Int.le_refl _)) <;> simp <;> omega
/-- A map's bytes. -/
def bsM (sz : Int) (l : List P5) : List UInt8 := be sz 2 ++ (l.map bsP).flatten
theorem bsM_len (sz : Int) (l : List P5) : (bsM sz l).length = 2 + 11 * l.length := by
  unfold bsM
  rw [List.length_append, be_len, List.length_flatten, List.map_map]
  congr 1
  induction l with
  | nil => rfl
  | cons x l ih => rw [List.map_cons, List.sum_cons, ih]; simp [bsP_len]; omega
theorem bsM_snoc (sz : Int) (l : List P5) (x : P5) : bsM sz (l ++ [x]) = bsM sz l ++ bsP x := by simp [bsM]

-- pinstripe/blocks.PutPtr params ['*wire.Pen', 'api.Ptr'] results [] ntmps 27
theorem wptr_c (pn : Nat) (v : Value) (xs : List UInt8) (B : Hp) (x : P5) (hx : mayP x) (hlen : xs.length + 11 ≤ 65536) (w0 w : World) (G : Im) (F : Hp) (hown : OB v xs B) (hs : Sat w0 w G (WP pn v :: (B ++ F))) :
    Calls Try.prog 97 #[Pt pn 0, x.V] w fun e w' => ∃ v' B', e = .returned (.tuple #[]) ∧ OB v' (xs ++ bsP x) B' ∧ Sat w0 w' G (WP pn v' :: (B' ++ F)) := by
  obtain ⟨h1, h2, h3, h4, h5⟩ := mayP_nums hx
  refine f_enter (vs := [_, _]) Try.func97 rfl Try.ntmps97 (by simp) hs ?_
  refine ww ?_
  refine c_cons (s_boxA [_, _, _, _, _] rfl rfl rfl fun b1 => ?_)
  refine c_sub (WP pn v :: (B ++ ((b1, Cs [I64 x.c, I64 x.l, I64 x.n, I64 x.a, I64 x.k] 73) :: F))) sbx ?_
  refine ww ?_
  refine c_cons (s_val (v_field 0 rfl (by kernel_rfl)) rfl rfl rfl ?_)
  refine c_cons (s_val (v_field 0 rfl (by kernel_rfl)) rfl rfl rfl ?_)
  refine c_cons (s_val (v_load rfl (Cel.mem (b := b1) (L := [I64 x.c, I64 x.l, I64 x.n, I64 x.a, I64 x.k]) (t := 73) (by simp) rfl) (by kernel_rfl)) rfl rfl rfl ?_)
  refine c_cons (s_call (xs := [_, _, _]) rfl rfl rfl rfl rfl rfl (by kernel_rfl) (fun w hs => wnum_c pn _ xs B x.c 1 (by decide) h1 (by omega) _ w _ _ hown hs) ?_)
  rintro e w' ⟨v1, B1, rfl, hown1, hs'⟩; refine a_ret ?_ hs'; clear hs'
  refine ww ?_
  refine c_cons (s_val (v_field 0 rfl (by kernel_rfl)) rfl rfl rfl ?_)
  refine c_cons (s_val (v_field 1 rfl (by kernel_rfl)) rfl rfl rfl ?_)
  refine c_cons (s_val (v_load rfl (Cel.mem (b := b1) (L := [I64 x.c, I64 x.l, I64 x.n, I64 x.a, I64 x.k]) (t := 73) (by simp) rfl) (by kernel_rfl)) rfl rfl rfl ?_)
  refine c_cons (s_call (xs := [_, _, _]) rfl rfl rfl rfl rfl rfl (by kernel_rfl) (fun w hs => wnum_c pn _ _ B1 x.l 3 (by decide) h2 (by simp [be_len]; omega) _ w _ _ hown1 hs) ?_)
  rintro e w' ⟨v2, B2, rfl, hown2, hs'⟩; refine a_ret ?_ hs'; clear hs'
  refine ww ?_
  refine c_cons (s_val (v_field 0 rfl (by kernel_rfl)) rfl rfl rfl ?_)
  refine c_cons (s_val (v_field 2 rfl (by kernel_rfl)) rfl rfl rfl ?_)
  refine c_cons (s_val (v_load rfl (Cel.mem (b := b1) (L := [I64 x.c, I64 x.l, I64 x.n, I64 x.a, I64 x.k]) (t := 73) (by simp) rfl) (by kernel_rfl)) rfl rfl rfl ?_)
  refine c_cons (s_call (xs := [_, _, _]) rfl rfl rfl rfl rfl rfl (by kernel_rfl) (fun w hs => wnum_c pn _ _ B2 x.n 4 (by decide) h3 (by simp [be_len]; omega) _ w _ _ hown2 hs) ?_)
  rintro e w' ⟨v3, B3, rfl, hown3, hs'⟩; refine a_ret ?_ hs'; clear hs'
  refine ww ?_
  refine c_cons (s_val (v_field 3 rfl (by kernel_rfl)) rfl rfl rfl ?_)
  refine c_cons (s_val (v_load rfl (Cel.mem (b := b1) (L := [I64 x.c, I64 x.l, I64 x.n, I64 x.a, I64 x.k]) (t := 73) (by simp) rfl) (by kernel_rfl)) rfl rfl rfl ?_)
  refine c_cons (s_call (xs := [_, _, _]) rfl rfl rfl rfl rfl rfl (by kernel_rfl) (fun w hs => wnum_c pn _ _ B3 x.a 2 (by decide) h4 (by simp [be_len]; omega) _ w _ _ hown3 hs) ?_)
  rintro e w' ⟨v4, B4, rfl, hown4, hs'⟩; refine a_ret ?_ hs'; clear hs'
  refine ww ?_
  refine c_cons (s_val (v_field 4 rfl (by kernel_rfl)) rfl rfl rfl ?_)
  refine c_cons (s_val (v_load rfl (Cel.mem (b := b1) (L := [I64 x.c, I64 x.l, I64 x.n, I64 x.a, I64 x.k]) (t := 73) (by simp) rfl) (by kernel_rfl)) rfl rfl rfl ?_)
  refine c_cons (s_call (xs := [_, _, _]) rfl rfl rfl rfl rfl rfl (by kernel_rfl) (fun w hs => wnum_c pn _ _ B4 x.k 1 (by decide) h5 (by simp [be_len]; omega) _ w _ _ hown4 hs) ?_)
  rintro e w' ⟨v5, B5, rfl, hown5, hs'⟩; refine a_ret ?_ hs'; clear hs'
  refine ww ?_
  exact f_end0 rfl (fun w hs => ⟨v5, B5, rfl, by simpa only [bsP, List.append_assoc] using hown5, hs.sb⟩)

-- (*pinstripe/wire.Pen).Bytes params ['*wire.Pen'] results ['[]uint8', 'api.Errno'] ntmps 22
theorem wbytes_c (pn : Nat) (v : Value) (xs : List UInt8) (hm : xs.length ≤ 1000000) (w0 w : World) (G : Im) (F : Hp) (hv : SV G [] v xs.length (xs.map B8)) (hs : Sat w0 w G (WP pn v :: F)) :
    Calls Try.prog 65 #[Pt pn 0] w fun e w' => ∃ G' u, e = .returned (.tuple #[u, I64 0]) ∧ Im.le G G' ∧ SV G' [] u xs.length (xs.map B8) ∧ Sat w0 w' G' (WP pn v :: F) := by
  obtain ⟨ad, c, rfl, hc1, hc2, hc3⟩ := id hv
  refine f_enter (vs := [_]) Try.func65 rfl Try.ntmps65 (by simp) hs ?_
  refine ww ?_
  refine c_cond_f rfl ?_
  refine ww ?_
  refine c_cons (s_val (v_field 1 rfl (by kernel_rfl)) rfl rfl rfl ?_)
  refine c_cons (s_val (v_load rfl (Cel.head rfl) (by kernel_rfl)) rfl rfl rfl ?_)
  refine ww ?_
  refine c_kf 7 rfl (by simp) ?_
  refine c_cond_f rfl ?_
  refine ww ?_
  refine c_cons (s_val (v_field 0 rfl (by kernel_rfl)) rfl rfl rfl ?_)
  refine c_cons (s_val (v_load rfl (Cel.head rfl) (by kernel_rfl)) rfl rfl rfl ?_)
  refine c_cons (s_call (xs := [_]) rfl rfl rfl rfl rfl rfl (by kernel_rfl) (fun w hs => clone_c _ xs _ w _ _ hv hm hs) ?_)
  rintro e w' ⟨G1, u1, rfl, hG1, hu1, hs'⟩; refine a_ret ?_ hs'; clear hs'
  refine ww ?_
  exact f_ret2 rfl rfl rfl (fun w hs => ⟨G1, u1, rfl, hG1, hu1, hs⟩)
end

section
open Go
set_option linter.unusedVariables false
set_option linter.unusedSimpArgs false
set_option maxHeartbeats 1600000
theorem lowB_nat (x : Int) : ((lowB x).toNat : Int) = x % 256 := by
  unfold lowB
  have h1 := Int.emod_nonneg x (show (256 : Int) ≠ 0 by decide)
  have h2 := Int.emod_lt_of_pos x (show (0 : Int) < 256 by decide)
  simp only [UInt8.toNat_ofNat']
  omega
theorem be_succ (x : Int) (n : Nat) : be x (n + 1) = be (x / 256) n ++ [lowB x] := by
  unfold be
  rw [List.range_succ, List.map_append]
  congr 1
  · apply List.map_congr_left
    intro j hj
    have hj := List.mem_range.1 hj
    rw [show 8 * (n + 1 - 1 - j) = 8 + 8 * (n - 1 - j) by omega, Int.pow_add, show (2 : Int) ^ 8 = 256 by decide, ← Int.ediv_ediv_of_nonneg (by decide)]
  · simp
theorem num_be : ∀ (n : Nat) (x : Int), 0 ≤ x → x < 2 ^ (8 * n) → (num (be x n) : Int) = x := by
  intro n
  induction n with
  | zero => intro x h0 h1; simp [be, num] at *; omega
  | succ n ih =>
    intro x h0 h1
    rw [be_succ, num_snoc]
    have h2 : (2 : Int) ^ (8 * (n + 1)) = 2 ^ (8 * n) * 256 := by rw [show 8 * (n + 1) = 8 * n + 8 by omega, Int.pow_add]; rfl
    rw [h2] at h1
    have h3 := ih (x / 256) (by omega) (Int.ediv_lt_of_lt_mul (by decide) h1)
    have h4 := lowB_nat x
    omega
theorem yd_num {x : Int} {n : Nat} (hn : 1 ≤ n ∧ n ≤ 7) (h : 0 ≤ x ∧ x < 2 ^ (8 * n)) (r : List UInt8) : eNum (be x n ++ r) 0 n = (x, r, 0) := by
  have hl := be_len x n
  unfold eNum rNum
  rw [if_neg (by simp), if_neg (by omega), Int.toNat_natCast, if_neg (by simp; omega), List.take_left' hl, List.drop_left' hl, num_be _ _ h.1 h.2]
theorem getP_bs {x : P5} (h : mayP x) (r : List UInt8) : getP (bsP x ++ r) 0 = (x, r, 0) := by
  obtain ⟨h1, h2, h3, h4, h5⟩ := mayP_nums h
  have e1 : eNum (bsP x ++ r) 0 1 = (x.c, be x.l 3 ++ (be x.n 4 ++ (be x.a 2 ++ (be x.k 1 ++ r))), 0) := by
    unfold bsP
    rw [List.append_assoc, List.append_assoc, List.append_assoc, List.append_assoc]
    exact yd_num (n := 1) (by decide) h1 _
  have e2 : nx (x.c, be x.l 3 ++ (be x.n 4 ++ (be x.a 2 ++ (be x.k 1 ++ r))), 0) 3 = (x.l, be x.n 4 ++ (be x.a 2 ++ (be x.k 1 ++ r)), 0) := yd_num (n := 3) (by decide) h2 _
  have e3 : nx (x.l, be x.n 4 ++ (be x.a 2 ++ (be x.k 1 ++ r)), 0) 4 = (x.n, be x.a 2 ++ (be x.k 1 ++ r), 0) := yd_num (n := 4) (by decide) h3 _
  have e4 : nx (x.n, be x.a 2 ++ (be x.k 1 ++ r), 0) 2 = (x.a, be x.k 1 ++ r, 0) := yd_num (n := 2) (by decide) h4 _
  have e5 : nx (x.a, be x.k 1 ++ r, 0) 1 = (x.k, r, 0) := yd_num (n := 1) (by decide) h5 _
  unfold getP
  rw [e1, e2, e3, e4, e5]
end

section
open Go
set_option linter.unusedVariables false
set_option linter.unusedSimpArgs false

/-- A change of a file: what it does, of which file, which block, to which size; to which pointer, from which. -/
structure Dl where
  d : Int
  i : Int
  b : Int
  s : Int
  t : P5
  o : P5
  deriving DecidableEq
abbrev Dl.cells (x : Dl) : List Value := [I64 x.d, I64 x.i, I64 x.b, I64 x.s, I64 x.t.c, I64 x.t.l, I64 x.t.n, I64 x.t.a, I64 x.t.k, I64 x.o.c, I64 x.o.l, I64 x.o.n, I64 x.o.a, I64 x.o.k]
abbrev Dl.V (x : Dl) : Value := .agg #[I64 x.d, I64 x.i, I64 x.b, I64 x.s, I64 x.t.c, I64 x.t.l, I64 x.t.n, I64 x.t.a, I64 x.t.k, I64 x.o.c, I64 x.o.l, I64 x.o.n, I64 x.o.a, I64 x.o.k]
theorem to_at (x : Dl) (M : List Value) (j : Nat) (u : Value) (hj : [I64 x.t.c, I64 x.t.l, I64 x.t.n, I64 x.t.a, I64 x.t.k][j]? = some u) : (x.cells ++ M)[4 + j]? = some u := by
  match j, hj with
  | 0, k => exact k
  | 1, k => exact k
  | 2, k => exact k
  | 3, k => exact k
  | 4, k => exact k
  | n + 5, k => simp at k
theorem old_at (x : Dl) (M : List Value) (j : Nat) (u : Value) (hj : [I64 x.o.c, I64 x.o.l, I64 x.o.n, I64 x.o.a, I64 x.o.k][j]? = some u) : (x.cells ++ M)[9 + j]? = some u := by
  match j, hj with
  | 0, k => exact k
  | 1, k => exact k
  | 2, k => exact k
  | 3, k => exact k
  | 4, k => exact k
  | n + 5, k => simp at k
theorem dl_to {G : Im} {b : Nat} {x : Dl} {e : TypeId} {H : Hp} (j : Nat) (u : Value) (hj : [I64 x.t.c, I64 x.t.l, I64 x.t.n, I64 x.t.a, I64 x.t.k][j]? = some u) : Cel G ((b, Cs x.cells e) :: H) b (0 + 4 + j) u := Cel.head (by
  have := to_at x [] j u hj; rwa [List.append_nil] at this)
theorem dl_old {G : Im} {b : Nat} {x : Dl} {e : TypeId} {H : Hp} (j : Nat) (u : Value) (hj : [I64 x.o.c, I64 x.o.l, I64 x.o.n, I64 x.o.a, I64 x.o.k][j]? = some u) : Cel G ((b, Cs x.cells e) :: H) b (0 + 9 + j) u := Cel.head (by
  have := old_at x [] j u hj; rwa [List.append_nil] at this)

def baseD (x : Dl) : Prop := (2 ≤ x.i ∧ x.i ≤ 128) ∧ (0 ≤ x.b ∧ x.b < 64) ∧ (0 ≤ x.s ∧ x.s ≤ 4096) ∧ mayP x.t ∧ mayP x.o
def kindD (x : Dl) : Prop := (x.d = 1 ∧ x.o = p0) ∨ (x.d = 2 ∧ x.o = p0 ∧ x.t = p0 ∧ x.b = 0) ∨ (x.d = 3 ∧ x.s = 0)
/-- It may be. -/
def mayDl (x : Dl) : Prop := baseD x ∧ kindD x
instance (x : Dl) : Decidable (baseD x) := by unfold baseD; infer_instance
instance (x : Dl) : Decidable (kindD x) := by unfold kindD; infer_instance
instance (x : Dl) : Decidable (mayDl x) := by unfold mayDl; infer_instance
theorem may_put {x : Dl} (hb : baseD x) (h : x.d = 1) : x.o = p0 ↔ mayDl x := by
  refine ⟨fun k => ⟨hb, .inl ⟨h, k⟩⟩, fun k => ?_⟩
  rcases k.2 with ⟨_, k⟩ | ⟨k, _⟩ | ⟨k, _⟩
  · exact k
  · omega
  · omega
theorem may_cut {x : Dl} (hb : baseD x) (h : x.d = 2) : (x.o = p0 ∧ x.t = p0 ∧ x.b = 0) ↔ mayDl x := by
  refine ⟨fun k => ⟨hb, .inr (.inl ⟨h, k⟩)⟩, fun k => ?_⟩
  rcases k.2 with ⟨k, _⟩ | ⟨_, k⟩ | ⟨k, _⟩
  · omega
  · exact k
  · omega
theorem may_move {x : Dl} (hb : baseD x) (h : x.d = 3) : x.s = 0 ↔ mayDl x := by
  refine ⟨fun k => ⟨hb, .inr (.inr ⟨h, k⟩)⟩, fun k => ?_⟩
  rcases k.2 with ⟨k, _⟩ | ⟨k, _⟩ | ⟨_, k⟩
  · omega
  · omega
  · exact k
theorem may_none {x : Dl} (h1 : ¬ x.d = 1) (h2 : ¬ x.d = 2) (h3 : ¬ x.d = 3) : ¬ mayDl x := fun k => by
  rcases k.2 with ⟨k, _⟩ | ⟨k, _⟩ | ⟨k, _⟩
  · exact h1 k
  · exact h2 k
  · exact h3 k

/-- A delta's bytes. -/
def bsD (x : Dl) : List UInt8 := be x.d 1 ++ be x.i 2 ++ be x.b 1 ++ be x.s 2 ++ (if x.d = 1 then bsP x.t else if x.d = 3 then bsP x.o ++ bsP x.t else [])
theorem bsD_len (x : Dl) : (bsD x).length ≤ 28 := by
  unfold bsD
  simp only [List.length_append, be_len]
  split
  · rw [bsP_len]; omega
  · split
    · rw [List.length_append, bsP_len, bsP_len]; omega
    · simp
def bsL (l : List Dl) : List UInt8 := be (l.length : Int) 2 ++ (l.map bsD).flatten
theorem flat_le (l : List Dl) : ((l.map bsD).flatten).length ≤ 28 * l.length := by
  induction l with
  | nil => simp
  | cons x l ih => have := bsD_len x; simp only [List.map_cons, List.flatten_cons, List.length_append, List.length_cons]; omega
theorem bsL_len (l : List Dl) : (bsL l).length ≤ 2 + 28 * l.length := by
  unfold bsL; have := flat_le l; simp only [List.length_append, be_len]; omega
/-- What is made of a list: its bytes, or that it may not be. -/
def encS (l : List Dl) : List UInt8 × Int := if ∀ x ∈ l, mayDl x then (bsL l, 0) else ([], 1)
theorem be_nums {x : Dl} (h : mayDl x) : (0 ≤ x.d ∧ x.d < 2 ^ (8 * 1)) ∧ (0 ≤ x.i ∧ x.i < 2 ^ (8 * 2)) ∧ (0 ≤ x.b ∧ x.b < 2 ^ (8 * 1)) ∧ (0 ≤ x.s ∧ x.s < 2 ^ (8 * 2)) := by
  obtain ⟨⟨⟨h1, h2⟩, ⟨h3, h4⟩, ⟨h5, h6⟩, _⟩, hk⟩ := h
  have hd : 0 ≤ x.d ∧ x.d ≤ 3 := by
    rcases hk with ⟨k, _⟩ | ⟨k, _⟩ | ⟨k, _⟩ <;> omega
  refine ⟨⟨hd.1, ?_⟩, ⟨by omega, ?_⟩, ⟨h3, ?_⟩, ⟨h5, ?_⟩⟩ <;> simp only [Nat.reduceMul] <;> omega

/-- The rest of a delta: its pointers. -/
def getT (d : Int) (s : Int × List UInt8 × Int) : P5 × P5 × List UInt8 × Int :=
  if d = 1 then ((getP s.2.1 s.2.2).1, p0, (getP s.2.1 s.2.2).2) else if d = 3 then ((getP (getP s.2.1 s.2.2).2.1 (getP s.2.1 s.2.2).2.2).1, (getP s.2.1 s.2.2).1, (getP (getP s.2.1 s.2.2).2.1 (getP s.2.1 s.2.2).2.2).2) else (p0, p0, s.2)
def getN (xs : List UInt8) (bad : Int) : Int × List UInt8 × Int := nx (nx (nx (eNum xs bad 1) 2) 1) 2
/-- A delta is read: what is read, what is left, what is wrong. -/
def getD0 (xs : List UInt8) (bad : Int) : Dl × List UInt8 × Int :=
  (⟨(eNum xs bad 1).1, (nx (eNum xs bad 1) 2).1, (nx (nx (eNum xs bad 1) 2) 1).1, (getN xs bad).1, (getT (eNum xs bad 1).1 (getN xs bad)).1, (getT (eNum xs bad 1).1 (getN xs bad)).2.1⟩, (getT (eNum xs bad 1).1 (getN xs bad)).2.2)
def getDl (xs : List UInt8) : Dl × List UInt8 × Int := if (getD0 xs 0).2.2 ≠ 0 then getD0 xs 0 else if mayDl (getD0 xs 0).1 then getD0 xs 0 else ((getD0 xs 0).1, (getD0 xs 0).2.1, 4)
def rdDs : Nat → List UInt8 → List Dl × List UInt8 × Int
  | 0, xs => ([], xs, 0)
  | n + 1, xs => if (getDl xs).2.2 ≠ 0 then ([], (getDl xs).2.1, (getDl xs).2.2) else ((getDl xs).1 :: (rdDs n (getDl xs).2.1).1, (rdDs n (getDl xs).2.1).2)
/-- The deltas that bytes are, or what is wrong first. -/
def decS (xs : List UInt8) : List Dl × Int :=
  if (eNum xs 0 2).2.2 ≠ 0 then ([], (eNum xs 0 2).2.2)
  else if 4000 < (eNum xs 0 2).1 then ([], 3)
  else if (rdDs (eNum xs 0 2).1.toNat (eNum xs 0 2).2.1).2.2 ≠ 0 then ([], (rdDs (eNum xs 0 2).1.toNat (eNum xs 0 2).2.1).2.2)
  else if 0 < (rdDs (eNum xs 0 2).1.toNat (eNum xs 0 2).2.1).2.1.length then ([], 3)
  else ((rdDs (eNum xs 0 2).1.toNat (eNum xs 0 2).2.1).1, 0)
end

section
open Go
set_option linter.unusedVariables false
set_option linter.unusedSimpArgs false
set_option maxHeartbeats 3200000
attribute [local irreducible] Code.wp wpList stepK Holds Val wpR Eff Eff0 Code.wpIn wpListIn stepI Exit.then Exit.inBlock bodyPost bodyPostM

abbrev RP (pn : Nat) (v : Value) : Nat × Obj := (pn, Cs [v, I64 0] 88)

-- (*pinstripe/pinstriperef1.Pen).add params ['*pinstriperef1.Pen', '[]uint8'] results [] ntmps 37
theorem radd_c (pn : Nat) (v : Value) (xs : List UInt8) (B : Hp) (vb : Value) (ys : List UInt8) (hlen : xs.length + ys.length ≤ 65536) (w0 w : World) (G : Im) (F : Hp) (hown : OB v xs B) (hb : SV G (RP pn v :: (B ++ F)) vb ys.length (ys.map B8)) (hs : Sat w0 w G (RP pn v :: (B ++ F))) :
    Calls Try.prog 72 #[Pt pn 0, vb] w fun e w' => ∃ v' B', e = .returned (.tuple #[]) ∧ OB v' (xs ++ ys) B' ∧ Sat w0 w' G (RP pn v' :: (B' ++ F)) := by
  obtain ⟨ad, c, rfl⟩ := hown.form
  obtain ⟨adb, cb, rfl, hcb1, hcb2, hb3⟩ := id hb
  refine f_enter (vs := [_, _]) Try.func72 rfl Try.ntmps72 (by simp) hs ?_
  refine ww ?_
  refine c_cons (s_val (v_field 1 rfl (by kernel_rfl)) rfl rfl rfl ?_)
  refine c_cons (s_val (v_load rfl (Cel.head rfl) (by kernel_rfl)) rfl rfl rfl ?_)
  refine ww ?_
  refine c_kt 9 rfl rfl ?_
  refine ww ?_
  refine c_cons (s_val (v_field 0 rfl (by kernel_rfl)) rfl rfl rfl ?_)
  refine c_cons (s_val (v_load rfl (Cel.head rfl) (by kernel_rfl)) rfl rfl rfl ?_)
  refine ww ?_
  refine c_kf 19 rfl (by omega) ?_
  refine c_cond_f rfl ?_
  refine ww ?_
  refine c_cons (s_val (v_field 1 rfl (by kernel_rfl)) rfl rfl rfl ?_)
  refine c_cons (s_val (v_load rfl (Cel.head rfl) (by kernel_rfl)) rfl rfl rfl ?_)
  refine ww ?_
  refine c_kt 27 rfl rfl ?_
  refine c_cond_t rfl ?_
  refine ww ?_
  refine c_cons (s_val (v_field 0 rfl (by kernel_rfl)) rfl rfl rfl ?_)
  refine c_cons (s_val (v_load rfl (Cel.head rfl) (by kernel_rfl)) rfl rfl rfl ?_)
  refine ww ?_
  refine c_cons (s_append (e := 5) (z := B8 0) (sz := 1) (bs := 1) (by kernel_rfl) rfl rfl rfl rfl hown (Chunk.tail Chunk.head) hb rfl (by decide) (by simp) (B8_one ys) (by omega) (by omega) fun u1 B1 hown1 => ?_)
  rw [← List.length_append, ← List.map_append] at hown1
  obtain ⟨ad1, c1, rfl⟩ := hown1.form
  refine c_sub (RP pn (.slice ad xs.length c) :: (B1 ++ F)) sbx ?_
  refine ww ?_
  refine c_cons (s_val (v_field 0 rfl (by kernel_rfl)) rfl rfl rfl ?_)
  refine c_cons (s_store1 rfl rfl rfl .head (by kernel_rfl) rfl (by simp) ?_)
  refine ww ?_
  exact f_end0 rfl (fun w hs => ⟨_, B1, rfl, hown1, hs⟩)

-- (*pinstripe/pinstriperef1.Pen).Num params ['*pinstriperef1.Pen', 'int', 'int'] results [] ntmps 59
theorem rnum_c (pn : Nat) (v : Value) (xs : List UInt8) (B : Hp) (x : Int) (n : Nat) (hn : 1 ≤ n ∧ n ≤ 7) (hx : 0 ≤ x ∧ x < 2 ^ (8 * n)) (hlen : xs.length + n ≤ 65536) (w0 w : World) (G : Im) (F : Hp) (hown : OB v xs B) (hs : Sat w0 w G (RP pn v :: (B ++ F))) :
    Calls Try.prog 34 #[Pt pn 0, I64 x, I64 n] w fun e w' => ∃ v' B', e = .returned (.tuple #[]) ∧ OB v' (xs ++ be x n) B' ∧ Sat w0 w' G (RP pn v' :: (B' ++ F)) := by
  have hpw := pow8 hn
  have h8 : ∀ i : Nat, ((8 : Int) * (i : Int)).toNat = 8 * i := fun i => by omega
  refine f_enter (vs := [_, _, _]) Try.func34 rfl Try.ntmps34 (by simp) hs ?_
  refine ww ?_
  refine c_cons (s_val (v_field 1 rfl (by kernel_rfl)) rfl rfl rfl ?_)
  refine c_cons (s_val (v_load rfl (Cel.head rfl) (by kernel_rfl)) rfl rfl rfl ?_)
  refine ww ?_
  refine c_kt 13 rfl rfl ?_
  refine ww ?_
  refine c_kf 16 rfl (by omega) ?_
  refine ww ?_
  refine c_kf 20 rfl (by omega) ?_
  refine ww ?_
  refine c_kf 24 rfl (by omega) ?_
  refine ww ?_
  refine c_cons (s_val (v_mul rfl rfl (by omega)) rfl rfl rfl ?_)
  refine c_cons (s_val (v_tou rfl (by kernel_rfl) (by kernel_rfl) (by omega)) rfl rfl rfl ?_)
  refine c_cons (s_val (v_shl rfl rfl (by omega) (by rw [h8, Int.one_mul]; omega)) rfl rfl rfl ?_)
  rw [h8, Int.one_mul]
  refine ww ?_
  refine c_kf 32 rfl (by omega) ?_
  refine c_cond_f rfl ?_
  refine ww ?_
  refine c_cons (s_val (v_field 1 rfl (by kernel_rfl)) rfl rfl rfl ?_)
  refine c_cons (s_val (v_load rfl (Cel.head rfl) (by kernel_rfl)) rfl rfl rfl ?_)
  refine ww ?_
  refine c_kf 40 rfl (by simp) ?_
  refine c_cond_f rfl ?_
  refine ww ?_
  refine c_loop (α := Nat × Value × Hp) (fun z => [(0, Pt pn 0), (1, I64 x), (6, z.2.1), (7, I64 ((n : Int) - 1 - z.1))]) (fun _ => G) (fun z => RP pn v :: (B ++ (z.2.2 ++ F))) (fun z => z.1 ≤ n ∧ Own z.2.1 z.1 (((be x n).take z.1).map B8) 5 1 z.2.2) (fun z => n - z.1) (0, .slice none 0 0, []) ⟨Nat.zero_le _, Own.zero none _ _⟩ ?_ ?_
  · exact n_at ⟨rfl, rfl, rfl, by simp [List.lookup], trivial⟩ sbx
  rintro ⟨i, u, Bo⟩ ⟨hi, ho⟩
  dsimp only at hi ho ⊢
  refine ww ?_
  refine c_cond_d rfl (fun c1 => ?_) (fun c1 => ?_)
  · -- then
    have hil : i < n := by omega
    have hi2 : ((n : Int) - 1 - i) = ((n - 1 - i : Nat) : Int) := by omega
    rw [hi2]
    refine ww ?_
    refine c_cons (s_val (v_mul rfl rfl (by omega)) rfl rfl rfl ?_)
    refine c_cons (s_val (v_tou rfl (by kernel_rfl) (by kernel_rfl) (by omega)) rfl rfl rfl ?_)
    refine c_cons (s_val (v_shr rfl rfl (by omega)) rfl rfl rfl ?_)
    rw [h8]
    refine c_cons (s_val (v_byte rfl (by kernel_rfl) (by kernel_rfl)) rfl rfl rfl ?_)
    refine c_cons (s_lit (z := B8 0) (bs := 1) (e := 5) [_] (by kernel_rfl) rfl rfl rfl rfl (by simp [Value.oneCell']) rfl (by decide) fun b1 => ?_)
    refine c_cons (s_append (e := 5) (z := B8 0) (sz := 1) (bs := 1) (by kernel_rfl) rfl rfl rfl rfl ho (Chunk.tail (Chunk.tail (Chunk.app Chunk.head))) (news := [B8 (lowB (x / 2 ^ (8 * (n - 1 - i))))]) (SV.block .head (by simp [maxLen])) rfl (by decide) rfl (by simp [Value.oneCell']) (by simp; omega) (by simp; omega) fun u2 B2 hown2 => ?_)
    refine ww ?_
    exact n_next (x := (i, u, Bo)) (i + 1, u2, B2) ⟨by omega, by dsimp only; rw [be_snoc x n i hil, List.map_append]; exact hown2⟩ (by dsimp only; omega) ⟨rfl, rfl, rfl, by simp [List.lookup]; omega, trivial⟩ rfl sbx
  have e : i = n := by omega
  subst e
  rw [List.take_of_length_le (by rw [be_len]; exact Nat.le_refl _)] at ho
  refine ww ?_
  refine c_cons (s_call (xs := [_, _]) rfl rfl rfl rfl rfl rfl (by kernel_rfl) (fun w hs => radd_c pn _ xs B _ (be x i) (by rw [be_len]; exact hlen) _ w _ _ hown (by have := ho.sv (G := G) (H := RP pn v :: (B ++ (Bo ++ F))) (fun p hp => by simp [hp]); rw [be_len]; exact this) hs) ?_)
  rintro e w' ⟨v1, B1, rfl, hown1, hs'⟩; refine a_ret ?_ hs'; clear hs'
  refine ww ?_
  exact f_end0 rfl (fun w hs => ⟨v1, B1, rfl, hown1, hs.sb⟩)

-- pinstripe/pinstriperef10.PutPtr params ['*pinstriperef1.Pen', 'api.Ptr'] results [] ntmps 27
theorem rptr_c (pn : Nat) (v : Value) (xs : List UInt8) (B : Hp) (x : P5) (hx : mayP x) (hlen : xs.length + 11 ≤ 65536) (w0 w : World) (G : Im) (F : Hp) (hown : OB v xs B) (hs : Sat w0 w G (RP pn v :: (B ++ F))) :
    Calls Try.prog 73 #[Pt pn 0, x.V] w fun e w' => ∃ v' B', e = .returned (.tuple #[]) ∧ OB v' (xs ++ bsP x) B' ∧ Sat w0 w' G (RP pn v' :: (B' ++ F)) := by
  obtain ⟨h1, h2, h3, h4, h5⟩ := mayP_nums hx
  refine f_enter (vs := [_, _]) Try.func73 rfl Try.ntmps73 (by simp) hs ?_
  refine ww ?_
  refine c_cons (s_boxA [_, _, _, _, _] rfl rfl rfl fun b1 => ?_)
  refine c_sub (RP pn v :: (B ++ ((b1, Cs [I64 x.c, I64 x.l, I64 x.n, I64 x.a, I64 x.k] 73) :: F))) sbx ?_
  refine ww ?_
  refine c_cons (s_val (v_field 0 rfl (by kernel_rfl)) rfl rfl rfl ?_)
  refine c_cons (s_val (v_field 0 rfl (by kernel_rfl)) rfl rfl rfl ?_)
  refine c_cons (s_val (v_load rfl (Cel.mem (b := b1) (L := [I64 x.c, I64 x.l, I64 x.n, I64 x.a, I64 x.k]) (t := 73) (by simp) rfl) (by kernel_rfl)) rfl rfl rfl ?_)
  refine c_cons (s_call (xs := [_, _, _]) rfl rfl rfl rfl rfl rfl (by kernel_rfl) (fun w hs => rnum_c pn _ xs B x.c 1 (by decide) h1 (by omega) _ w _ _ hown hs) ?_)
  rintro e w' ⟨v1, B1, rfl, hown1, hs'⟩; refine a_ret ?_ hs'; clear hs'
  refine ww ?_
  refine c_cons (s_val (v_field 0 rfl (by kernel_rfl)) rfl rfl rfl ?_)
  refine c_cons (s_val (v_field 1 rfl (by kernel_rfl)) rfl rfl rfl ?_)
  refine c_cons (s_val (v_load rfl (Cel.mem (b := b1) (L := [I64 x.c, I64 x.l, I64 x.n, I64 x.a, I64 x.k]) (t := 73) (by simp) rfl) (by kernel_rfl)) rfl rfl rfl ?_)
  refine c_cons (s_call (xs := [_, _, _]) rfl rfl rfl rfl rfl rfl (by kernel_rfl) (fun w hs => rnum_c pn _ _ B1 x.l 3 (by decide) h2 (by simp [be_len]; omega) _ w _ _ hown1 hs) ?_)
  rintro e w' ⟨v2, B2, rfl, hown2, hs'⟩; refine a_ret ?_ hs'; clear hs'
  refine ww ?_
  refine c_cons (s_val (v_field 0 rfl (by kernel_rfl)) rfl rfl rfl ?_)
  refine c_cons (s_val (v_field 2 rfl (by kernel_rfl)) rfl rfl rfl ?_)
  refine c_cons (s_val (v_load rfl (Cel.mem (b := b1) (L := [I64 x.c, I64 x.l, I64 x.n, I64 x.a, I64 x.k]) (t := 73) (by simp) rfl) (by kernel_rfl)) rfl rfl rfl ?_)
  refine c_cons (s_call (xs := [_, _, _]) rfl rfl rfl rfl rfl rfl (by kernel_rfl) (fun w hs => rnum_c pn _ _ B2 x.n 4 (by decide) h3 (by simp [be_len]; omega) _ w _ _ hown2 hs) ?_)
  rintro e w' ⟨v3, B3, rfl, hown3, hs'⟩; refine a_ret ?_ hs'; clear hs'
  refine ww ?_
  refine c_cons (s_val (v_field 3 rfl (by kernel_rfl)) rfl rfl rfl ?_)
  refine c_cons (s_val (v_load rfl (Cel.mem (b := b1) (L := [I64 x.c, I64 x.l, I64 x.n, I64 x.a, I64 x.k]) (t := 73) (by simp) rfl) (by kernel_rfl)) rfl rfl rfl ?_)
  refine c_cons (s_call (xs := [_, _, _]) rfl rfl rfl rfl rfl rfl (by kernel_rfl) (fun w hs => rnum_c pn _ _ B3 x.a 2 (by decide) h4 (by simp [be_len]; omega) _ w _ _ hown3 hs) ?_)
  rintro e w' ⟨v4, B4, rfl, hown4, hs'⟩; refine a_ret ?_ hs'; clear hs'
  refine ww ?_
  refine c_cons (s_val (v_field 4 rfl (by kernel_rfl)) rfl rfl rfl ?_)
  refine c_cons (s_val (v_load rfl (Cel.mem (b := b1) (L := [I64 x.c, I64 x.l, I64 x.n, I64 x.a, I64 x.k]) (t := 73) (by simp) rfl) (by kernel_rfl)) rfl rfl rfl ?_)
  refine c_cons (s_call (xs := [_, _, _]) rfl rfl rfl rfl rfl rfl (by kernel_rfl) (fun w hs => rnum_c pn _ _ B4 x.k 1 (by decide) h5 (by simp [be_len]; omega) _ w _ _ hown4 hs) ?_)
  rintro e w' ⟨v5, B5, rfl, hown5, hs'⟩; refine a_ret ?_ hs'; clear hs'
  refine ww ?_
  exact f_end0 rfl (fun w hs => ⟨v5, B5, rfl, by simpa only [bsP, List.append_assoc] using hown5, hs.sb⟩)
end

section
open Go
set_option linter.unusedVariables false
set_option linter.unusedSimpArgs false
set_option maxHeartbeats 1600000
attribute [local irreducible] Code.wp wpList stepK Holds Val wpR Eff Eff0 Code.wpIn wpListIn stepI Exit.then Exit.inBlock bodyPost bodyPostM

def mst (a b c : Int) : Prop := 0 ≤ a ∧ a ≤ 4 ∧ 0 ≤ b ∧ b ≤ 1048576 ∧ 0 ≤ c ∧ c ≤ 1073741824
instance (a b c : Int) : Decidable (mst a b c) := by unfold mst; infer_instance
theorem cel3 {G : Im} {H : Hp} {b : Nat} {p q r s t : Value} {e : TypeId} (j : Nat) (u : Value) (hj : [p, q, r][j]? = some u) : Cel G ((b, Cs [p, q, r, s, t] e) :: H) b (0 + 0 + j) u := Cel.all (by
  match j, hj with
  | 0, k => exact k
  | 1, k => exact k
  | 2, k => exact k
  | n + 3, k => simp at k)

-- pinstripe/pinstriperef4.MayStripe params ['api.Stripe'] results ['bool'] ntmps 31
theorem mayst_c (a b c : Int) (w0 w : World) (G : Im) (F : Hp) (hs : Sat w0 w G F) :
    Calls Try.prog 95 #[.agg #[I64 a, I64 b, I64 c]] w fun e w' => e = .returned (.bool (decide (mst a b c))) ∧ Sat w0 w' G F := by
  refine f_enter (vs := [_]) Try.func95 rfl Try.ntmps95 (by simp) hs ?_
  refine ww ?_
  refine c_cons (s_boxA [_, _, _] rfl rfl rfl fun b1 => ?_)
  refine ww ?_
  refine c_cons (s_val (v_field 0 rfl (by kernel_rfl)) rfl rfl rfl ?_)
  refine c_cons (s_val (v_load rfl (Cel.head rfl) (by kernel_rfl)) rfl rfl rfl ?_)
  refine ww ?_
  refine c_part_d 6 _ rfl (fun c1 => ?_) (fun c1 => ?_)
  · -- t6 = True
    refine ww ?_
    refine c_cons (s_val (v_field 0 rfl (by kernel_rfl)) rfl rfl rfl ?_)
    refine c_cons (s_val (v_load rfl (Cel.head rfl) (by kernel_rfl)) rfl rfl rfl ?_)
    refine ww ?_
    refine c_part_d 11 _ rfl (fun c2 => ?_) (fun c2 => ?_)
    · -- t11 = True
      refine ww ?_
      refine c_cons (s_val (v_field 1 rfl (by kernel_rfl)) rfl rfl rfl ?_)
      refine c_cons (s_val (v_load rfl (Cel.head rfl) (by kernel_rfl)) rfl rfl rfl ?_)
      refine ww ?_
      refine c_part_d 16 _ rfl (fun c3 => ?_) (fun c3 => ?_)
      · -- t16 = True
        refine ww ?_
        refine c_cons (s_val (v_field 1 rfl (by kernel_rfl)) rfl rfl rfl ?_)
        refine c_cons (s_val (v_load rfl (Cel.head rfl) (by kernel_rfl)) rfl rfl rfl ?_)
        refine ww ?_
        refine c_part_d 21 _ rfl (fun c4 => ?_) (fun c4 => ?_)
        · -- t21 = True
          refine ww ?_
          refine c_cons (s_val (v_field 2 rfl (by kernel_rfl)) rfl rfl rfl ?_)
          refine c_cons (s_val (v_load rfl (Cel.head rfl) (by kernel_rfl)) rfl rfl rfl ?_)
          refine ww ?_
          refine c_part_d 26 _ rfl (fun c5 => ?_) (fun c5 => ?_)
          · -- t26 = True
            refine ww ?_
            refine c_cons (s_val (v_field 2 rfl (by kernel_rfl)) rfl rfl rfl ?_)
            refine c_cons (s_val (v_load rfl (Cel.head rfl) (by kernel_rfl)) rfl rfl rfl ?_)
            refine ww ?_
            exact f_ret1 rfl rfl (fun w hs => ⟨by first | rw [decide_eq_decide.2 (show c ≤ 1073741824 ↔ mst a b c by unfold mst; omega)] | rw [decide_eq_false (show ¬ mst a b c by unfold mst; omega)], hs.tl⟩)
          refine ww ?_
          exact f_ret1 rfl rfl (fun w hs => ⟨by first | rw [decide_eq_decide.2 (show c ≤ 1073741824 ↔ mst a b c by unfold mst; omega)] | rw [decide_eq_false (show ¬ mst a b c by unfold mst; omega)], hs.tl⟩)
        refine ww ?_
        exact f_ret1 rfl rfl (fun w hs => ⟨by first | rw [decide_eq_decide.2 (show c ≤ 1073741824 ↔ mst a b c by unfold mst; omega)] | rw [decide_eq_false (show ¬ mst a b c by unfold mst; omega)], hs.tl⟩)
      refine ww ?_
      exact f_ret1 rfl rfl (fun w hs => ⟨by first | rw [decide_eq_decide.2 (show c ≤ 1073741824 ↔ mst a b c by unfold mst; omega)] | rw [decide_eq_false (show ¬ mst a b c by unfold mst; omega)], hs.tl⟩)
    refine ww ?_
    exact f_ret1 rfl rfl (fun w hs => ⟨by first | rw [decide_eq_decide.2 (show c ≤ 1073741824 ↔ mst a b c by unfold mst; omega)] | rw [decide_eq_false (show ¬ mst a b c by unfold mst; omega)], hs.tl⟩)
  refine ww ?_
  exact f_ret1 rfl rfl (fun w hs => ⟨by first | rw [decide_eq_decide.2 (show c ≤ 1073741824 ↔ mst a b c by unfold mst; omega)] | rw [decide_eq_false (show ¬ mst a b c by unfold mst; omega)], hs.tl⟩)

-- pinstripe/pinstriperef10.MayPtr params ['api.Ptr'] results ['bool'] ntmps 37
theorem rmayp_c (x : P5) (w0 w : World) (G : Im) (F : Hp) (hs : Sat w0 w G F) :
    Calls Try.prog 71 #[x.V] w fun e w' => e = .returned (.bool (decide (mayP x))) ∧ Sat w0 w' G F := by
  refine f_enter (vs := [_]) Try.func71 rfl Try.ntmps71 (by simp) hs ?_
  refine ww ?_
  refine c_cons (s_boxA [_, _, _, _, _] rfl rfl rfl fun b1 => ?_)
  refine ww ?_
  refine c_cons (s_val (v_loadAgg (vs := [I64 x.c, I64 x.l, I64 x.n, I64 x.a, I64 x.k]) rfl (by kernel_rfl) (by kernel_rfl) rfl (fun j u hj => (Cel.all hj))) rfl rfl rfl ?_)
  refine c_cons (s_val (v_build (ps := []) #[I64 0, I64 0, I64 0, I64 0, I64 0] rfl (by kernel_rfl)) rfl rfl rfl ?_)
  refine c_cons (s_val (v_eqP x p0 rfl rfl (by kernel_rfl)) rfl rfl rfl ?_)
  refine ww ?_
  refine c_cond_d rfl (fun c1 => ?_) (fun c1 => ?_)
  · -- then
    refine ww ?_
    exact f_ret1 rfl rfl (fun w hs => ⟨by rw [decide_eq_true (show mayP x from .inl c1)], hs.tl⟩)
  refine ww ?_
  refine c_cons (s_val (v_field 0 rfl (by kernel_rfl)) rfl rfl rfl ?_)
  refine c_cons (s_val (v_loadAgg (vs := [I64 x.c, I64 x.l, I64 x.n]) rfl (by kernel_rfl) (by kernel_rfl) rfl (fun j u hj => cel3 j u hj)) rfl rfl rfl ?_)
  refine c_cons (s_call (xs := [_]) rfl rfl rfl rfl rfl rfl (by kernel_rfl) (fun w hs => mayst_c _ _ _ _ w _ _ hs) ?_)
  rintro e w' ⟨rfl, hs'⟩; refine a_ret ?_ hs'; clear hs'
  refine ww ?_
  refine c_part_d 9 _ rfl (fun c2 => ?_) (fun c2 => ?_)
  · -- t9 = True
    have c2' := c2
    unfold mst at c2'
    refine ww ?_
    refine c_cons (s_val (v_field 3 rfl (by kernel_rfl)) rfl rfl rfl ?_)
    refine c_cons (s_val (v_load rfl (Cel.head rfl) (by kernel_rfl)) rfl rfl rfl ?_)
    refine ww ?_
    refine c_part_d 14 _ rfl (fun c3 => ?_) (fun c3 => ?_)
    · -- t14 = True
      refine ww ?_
      refine c_cons (s_val (v_field 3 rfl (by kernel_rfl)) rfl rfl rfl ?_)
      refine c_cons (s_val (v_load rfl (Cel.head rfl) (by kernel_rfl)) rfl rfl rfl ?_)
      refine ww ?_
      refine c_part_d 19 _ rfl (fun c4 => ?_) (fun c4 => ?_)
      · -- t19 = True
        refine ww ?_
        refine c_cons (s_val (v_field 4 rfl (by kernel_rfl)) rfl rfl rfl ?_)
        refine c_cons (s_val (v_load rfl (Cel.head rfl) (by kernel_rfl)) rfl rfl rfl ?_)
        refine ww ?_
        refine c_part_d 24 _ rfl (fun c5 => ?_) (fun c5 => ?_)
        · -- t24 = True
          refine ww ?_
          refine c_cons (s_val (v_field 4 rfl (by kernel_rfl)) rfl rfl rfl ?_)
          refine c_cons (s_val (v_load rfl (Cel.head rfl) (by kernel_rfl)) rfl rfl rfl ?_)
          refine ww ?_
          refine c_part_d 29 _ rfl (fun c6 => ?_) (fun c6 => ?_)
          · -- t29 = True
            refine ww ?_
            refine c_cons (s_val (v_field 3 rfl (by kernel_rfl)) rfl rfl rfl ?_)
            refine c_cons (s_val (v_load rfl (Cel.head rfl) (by kernel_rfl)) rfl rfl rfl ?_)
            refine c_cons (s_val (v_field 4 rfl (by kernel_rfl)) rfl rfl rfl ?_)
            refine c_cons (s_val (v_load rfl (Cel.head rfl) (by kernel_rfl)) rfl rfl rfl ?_)
            refine ww ?_
            exact f_ret1 rfl rfl (fun w hs => ⟨by first | rw [decide_eq_decide.2 (show x.a + x.k ≤ 6000 ↔ mayP x by rw [mayP_iff c1]; omega)] | rw [decide_eq_false (show ¬ mayP x by rw [mayP_iff c1]; omega)] | rw [decide_eq_false (show ¬ mayP x by rw [mayP_iff c1]; unfold mst at c2; omega)], hs.tl⟩)
          refine ww ?_
          exact f_ret1 rfl rfl (fun w hs => ⟨by first | rw [decide_eq_decide.2 (show x.a + x.k ≤ 6000 ↔ mayP x by rw [mayP_iff c1]; omega)] | rw [decide_eq_false (show ¬ mayP x by rw [mayP_iff c1]; omega)] | rw [decide_eq_false (show ¬ mayP x by rw [mayP_iff c1]; unfold mst at c2; omega)], hs.tl⟩)
        refine ww ?_
        exact f_ret1 rfl rfl (fun w hs => ⟨by first | rw [decide_eq_decide.2 (show x.a + x.k ≤ 6000 ↔ mayP x by rw [mayP_iff c1]; omega)] | rw [decide_eq_false (show ¬ mayP x by rw [mayP_iff c1]; omega)] | rw [decide_eq_false (show ¬ mayP x by rw [mayP_iff c1]; unfold mst at c2; omega)], hs.tl⟩)
      refine ww ?_
      exact f_ret1 rfl rfl (fun w hs => ⟨by first | rw [decide_eq_decide.2 (show x.a + x.k ≤ 6000 ↔ mayP x by rw [mayP_iff c1]; omega)] | rw [decide_eq_false (show ¬ mayP x by rw [mayP_iff c1]; omega)] | rw [decide_eq_false (show ¬ mayP x by rw [mayP_iff c1]; unfold mst at c2; omega)], hs.tl⟩)
    refine ww ?_
    exact f_ret1 rfl rfl (fun w hs => ⟨by first | rw [decide_eq_decide.2 (show x.a + x.k ≤ 6000 ↔ mayP x by rw [mayP_iff c1]; omega)] | rw [decide_eq_false (show ¬ mayP x by rw [mayP_iff c1]; omega)] | rw [decide_eq_false (show ¬ mayP x by rw [mayP_iff c1]; unfold mst at c2; omega)], hs.tl⟩)
  refine ww ?_
  exact f_ret1 rfl rfl (fun w hs => ⟨by first | rw [decide_eq_decide.2 (show x.a + x.k ≤ 6000 ↔ mayP x by rw [mayP_iff c1]; omega)] | rw [decide_eq_false (show ¬ mayP x by rw [mayP_iff c1]; omega)] | rw [decide_eq_false (show ¬ mayP x by rw [mayP_iff c1]; unfold mst at c2; omega)], hs.tl⟩)
end
end Go.Proofs.Ytobhlbhklblncaa
