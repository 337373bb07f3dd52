/- The reference's eye. -/
import Derived.Test.YtkjneelekfdpfaaEye4
import Derived.Test.YtkjneelekfdpfaaCopy
namespace Go.Proofs.Ytkjneelekfdpfaa
open Go
set_option linter.unusedVariables false
set_option linter.unusedSimpArgs false
set_option maxHeartbeats 3200000
attribute [local irreducible] Code.wp wpList stepK Holds Val wpR Eff Eff0 Code.wpIn wpListIn stepI Exit.then Exit.inBlock bodyPost bodyPostM
abbrev EyR (rp : Nat) (v : Value) (bad : Int) : Nat × Obj := (rp, Cs [v, I64 bad] 103)

-- (*pinstripe/pinstriperef1.Eye).Num
theorem renum_c (rp : Nat) (v : Value) (bad : Int) (xs : List UInt8) (i : Int) (w0 w : World) (G : Im) (F : Hp) (hv : EB G v xs) (hs : Sat w0 w G (EyR rp v bad :: F)) :
    Calls Try.prog 55 #[Pt rp 0, I64 i] w fun e w' => ∃ v', e = .returned (I64 (eNum xs bad i).1) ∧ EB G v' (eNum xs bad i).2.1 ∧ Sat w0 w' G (EyR rp v' (eNum xs bad i).2.2 :: F) := by
  obtain ⟨ad, c, rfl, hc1, hc2, hc3⟩ := id hv
  unfold maxLen at hc2
  refine f_enter (vs := [_, _]) Try.func55 rfl Try.ntmps55 (by simp) hs ?_
  by_cases hb : bad = 0
  rotate_left
  · have he : eNum xs bad i = (0, xs, bad) := if_pos hb
    rw [he]
    refine ww ?_
    refine c_cons (s_val (v_field 1 rfl (by kernel_rfl)) rfl rfl rfl ?_)
    refine c_cons (s_val (v_load rfl (Cel.head rfl) (by kernel_rfl)) rfl rfl rfl ?_)
    refine ww ?_
    refine c_kf 12 rfl hb ?_
    refine ww ?_
    refine c_cond_f rfl ?_
    refine ww ?_
    refine c_cons (s_val (v_field 1 rfl (by kernel_rfl)) rfl rfl rfl ?_)
    refine c_cons (s_val (v_load rfl (Cel.head rfl) (by kernel_rfl)) rfl rfl rfl ?_)
    refine ww ?_
    refine c_kf 28 rfl hb ?_
    refine ww ?_
    refine c_cond_f rfl ?_
    refine ww ?_
    refine c_cons (s_val (v_field 1 rfl (by kernel_rfl)) rfl rfl rfl ?_)
    refine c_cons (s_val (v_load rfl (Cel.head rfl) (by kernel_rfl)) rfl rfl rfl ?_)
    refine ww ?_
    refine c_cond_d rfl (fun c1 => ?_) (fun c1 => absurd hb c1)
    refine ww ?_
    exact f_ret1 rfl rfl (fun w hs => ⟨_, rfl, hv, hs⟩)
  subst hb
  have he : eNum xs 0 i = rNum xs i := if_neg (by omega)
  rw [he]
  by_cases hw : 1 ≤ i ∧ i ≤ 7
  rotate_left
  · have he1 : rNum xs i = (0, xs, 1) := if_pos hw
    rw [he1]
    by_cases h1 : i < 1
    · refine ww ?_
      refine c_cons (s_val (v_field 1 rfl (by kernel_rfl)) rfl rfl rfl ?_)
      refine c_cons (s_val (v_load rfl (Cel.head rfl) (by kernel_rfl)) rfl rfl rfl ?_)
      refine ww ?_
      refine c_kt 15 rfl h1 ?_
      refine ww ?_
      refine c_cond_t rfl ?_
      refine ww ?_
      refine c_cons (s_val (v_field 1 rfl (by kernel_rfl)) rfl rfl rfl ?_)
      refine c_cons (s_store1 rfl rfl rfl .head (by kernel_rfl) rfl (by simp) ?_)
      refine ww ?_
      refine c_cons (s_val (v_field 1 rfl (by kernel_rfl)) rfl rfl rfl ?_)
      refine c_cons (s_val (v_load rfl (Cel.head rfl) (by kernel_rfl)) rfl rfl rfl ?_)
      refine ww ?_
      refine c_cond_f rfl ?_
      refine ww ?_
      refine c_cons (s_val (v_field 1 rfl (by kernel_rfl)) rfl rfl rfl ?_)
      refine c_cons (s_val (v_load rfl (Cel.head rfl) (by kernel_rfl)) rfl rfl rfl ?_)
      refine ww ?_
      refine c_cond_t rfl ?_
      refine ww ?_
      exact f_ret1 rfl rfl (fun w hs => ⟨_, rfl, hv, hs⟩)
    · refine ww ?_
      refine c_cons (s_val (v_field 1 rfl (by kernel_rfl)) rfl rfl rfl ?_)
      refine c_cons (s_val (v_load rfl (Cel.head rfl) (by kernel_rfl)) rfl rfl rfl ?_)
      refine ww ?_
      refine c_kf 15 rfl h1 ?_
      refine ww ?_
      refine c_cond_d rfl (fun c1 => ?_) (fun c1 => absurd hw (by omega))
      refine ww ?_
      refine c_cons (s_val (v_field 1 rfl (by kernel_rfl)) rfl rfl rfl ?_)
      refine c_cons (s_store1 rfl rfl rfl .head (by kernel_rfl) rfl (by simp) ?_)
      refine ww ?_
      refine c_cons (s_val (v_field 1 rfl (by kernel_rfl)) rfl rfl rfl ?_)
      refine c_cons (s_val (v_load rfl (Cel.head rfl) (by kernel_rfl)) rfl rfl rfl ?_)
      refine ww ?_
      refine c_cond_f rfl ?_
      refine ww ?_
      refine c_cons (s_val (v_field 1 rfl (by kernel_rfl)) rfl rfl rfl ?_)
      refine c_cons (s_val (v_load rfl (Cel.head rfl) (by kernel_rfl)) rfl rfl rfl ?_)
      refine ww ?_
      refine c_cond_t rfl ?_
      refine ww ?_
      exact f_ret1 rfl rfl (fun w hs => ⟨_, rfl, hv, hs⟩)
  obtain ⟨i, rfl⟩ : ∃ k : Nat, i = (k : Int) := ⟨i.toNat, by omega⟩
  refine ww ?_
  refine c_cons (s_val (v_field 1 rfl (by kernel_rfl)) rfl rfl rfl ?_)
  refine c_cons (s_val (v_load rfl (Cel.head rfl) (by kernel_rfl)) rfl rfl rfl ?_)
  refine ww ?_
  refine c_kf 15 rfl (by omega) ?_
  refine ww ?_
  refine c_cond_d rfl (fun c1 => absurd hw (by omega)) (fun c1 => ?_)
  refine ww ?_
  refine c_cons (s_val (v_field 1 rfl (by kernel_rfl)) rfl rfl rfl ?_)
  refine c_cons (s_val (v_load rfl (Cel.head rfl) (by kernel_rfl)) rfl rfl rfl ?_)
  refine ww ?_
  refine c_cons (s_val (v_field 0 rfl (by kernel_rfl)) rfl rfl rfl ?_)
  refine c_cons (s_val (v_load rfl (Cel.head rfl) (by kernel_rfl)) rfl rfl rfl ?_)
  refine ww ?_
  refine c_cond_d rfl (fun c2 => ?_) (fun c2 => ?_)
  · have he1 : rNum xs i = (0, xs, 2) := by unfold rNum; rw [if_neg (by omega), Int.toNat_natCast, if_pos (by omega)]
    rw [he1]
    refine ww ?_
    refine c_cons (s_val (v_field 1 rfl (by kernel_rfl)) rfl rfl rfl ?_)
    refine c_cons (s_store1 rfl rfl rfl .head (by kernel_rfl) rfl (by simp) ?_)
    refine ww ?_
    refine c_cons (s_val (v_field 1 rfl (by kernel_rfl)) rfl rfl rfl ?_)
    refine c_cons (s_val (v_load rfl (Cel.head rfl) (by kernel_rfl)) rfl rfl rfl ?_)
    refine ww ?_
    refine c_cond_t rfl ?_
    refine ww ?_
    exact f_ret1 rfl rfl (fun w hs => ⟨_, rfl, hv, hs⟩)
  have hle : i ≤ xs.length := by omega
  have he1 : rNum xs i = (((num (xs.take i) : Nat) : Int), xs.drop i, 0) := by unfold rNum; rw [if_neg (by omega), Int.toNat_natCast, if_neg (by omega)]
  rw [he1]
  refine ww ?_
  refine c_cons (s_val (v_field 1 rfl (by kernel_rfl)) rfl rfl rfl ?_)
  refine c_cons (s_val (v_load rfl (Cel.head rfl) (by kernel_rfl)) rfl rfl rfl ?_)
  refine ww ?_
  refine c_cond_f rfl ?_
  refine ww ?_
  refine c_loop (α := Nat) (fun x => [(0, Pt rp 0), (1, I64 (i : Int)), (5, I64 (num (xs.take x))), (6, I64 x)]) (fun _ => G) (fun x => EyR rp (.slice ad xs.length c) 0 :: F) (fun x => x ≤ i) (fun x => i - x) 0 (Nat.zero_le _) ?_ ?_
  · exact n_at ⟨rfl, rfl, rfl, rfl, trivial⟩ sbx
  rintro j hj
  refine ww ?_
  refine c_cond_d rfl (fun c6 => ?_) (fun c6 => ?_)
  · have hj' : j < xs.length := by omega
    rcases hc3 with ⟨h0, _⟩ | ⟨b, o, rfl, hcel⟩
    · simp only [List.map_eq_nil_iff] at h0; subst h0; simp at hj'
    have hcj : ∀ (H : Hp), Cel G H b (o + (j : Int).toNat) (B8 xs[j]) := fun H => by rw [Int.toNat_natCast]; exact (hcel j _ (by simp [hj'])).mono (Im.le_refl _) (by simp)
    have hsn : xs.take (j + 1) = xs.take j ++ [xs[j]] := by rw [List.take_succ_eq_append_getElem hj']
    generalize hgc : xs[j] = cj at hcj hsn
    have hlt2 : num (xs.take j) < 281474976710656 := by
      have h1 := num_lt (xs.take j)
      have h2 : 256 ^ (xs.take j).length ≤ 256 ^ 6 := Nat.pow_le_pow_right (by decide) (by simp; omega)
      have h3 : (256 : Nat) ^ 6 = 281474976710656 := by decide
      omega
    have hcb := cj.toNat_lt
    refine ww ?_
    refine c_cons (s_val (v_shl rfl rfl (by omega) (by have h : (2 : Int) ^ (8 : Int).toNat = 256 := (by decide); rw [h]; omega)) rfl rfl rfl ?_)
    refine ww ?_
    refine c_cons (s_val (v_field 0 rfl (by kernel_rfl)) rfl rfl rfl ?_)
    refine c_cons (s_val (v_load rfl (Cel.head rfl) (by kernel_rfl)) rfl rfl rfl ?_)
    refine ww ?_
    refine c_cons (s_val (v_index1 rfl rfl (by kernel_rfl) (by omega)) rfl rfl rfl ?_)
    refine c_cons (s_val (v_load rfl (hcj _) (by kernel_rfl)) rfl rfl rfl ?_)
    refine ww ?_
    refine c_cons (s_val (v_or256 (num (xs.take j)) cj.toNat rfl rfl (by rfl) rfl (by omega) (by omega)) rfl rfl rfl ?_)
    refine ww ?_
    exact n_next (x := j) (j + 1) (by omega) (by omega) ⟨rfl, rfl, by rw [hsn, num_snoc]; rfl, by rw [show (((j + 1 : Nat)) : Int) = (j : Int) + 1 by omega]; rfl, trivial⟩ rfl sbx
  have hje : j = i := by omega
  subst hje
  refine ww ?_
  refine c_cons (s_val (v_field 0 rfl (by kernel_rfl)) rfl rfl rfl ?_)
  refine c_cons (s_val (v_load rfl (Cel.head rfl) (by kernel_rfl)) rfl rfl rfl ?_)
  refine ww ?_
  refine c_cons (s_val (v_slLo j 1 rfl rfl (by kernel_rfl) (by omega)) rfl rfl rfl ?_)
  refine ww ?_
  refine c_cons (s_val (v_field 0 rfl (by kernel_rfl)) rfl rfl rfl ?_)
  refine c_cons (s_store1 rfl rfl rfl .head (by kernel_rfl) rfl (by simp) ?_)
  refine ww ?_
  exact f_ret1 rfl rfl (fun w hs => ⟨_, rfl, hv.drop hle, hs⟩)
end Go.Proofs.Ytkjneelekfdpfaa
