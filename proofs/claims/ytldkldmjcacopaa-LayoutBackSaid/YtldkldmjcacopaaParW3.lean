/- The walks of package parity, third part: Fill; and the law's own small functions. -/
import Derived.Test.YtldkldmjcacopaaParW2
import Derived.Test.YtldkldmjcacopaaAppend
namespace Go.Proofs.Ytldkldmjcacopaa
open Go
set_option linter.unusedVariables false
set_option maxHeartbeats 400000
attribute [local irreducible] Code.wp wpList stepK Holds Val wpR Eff Eff0 Code.wpIn wpListIn stepI Exit.then Exit.inBlock bodyPost bodyPostM

/-- What parity.Fill leaves. -/
def FillPost (w0 : World) (G : Im) (F : Hp) (rs : List (List UInt8)) (i n : Int) (e : Ending) (w' : World) : Prop :=
  ∃ G', Im.le G G' ∧ ((¬ (0 ≤ i ∧ i < rs.length ∧ 0 ≤ n ∧ n ≤ mxl (oth rs i)) ∧ e = .returned (.tuple #[.slice none 0 0, I64 1]) ∧ Sat w0 w' G' F) ∨
    ((0 ≤ i ∧ i < rs.length ∧ 0 ≤ n ∧ n ≤ mxl (oth rs i)) ∧ ∃ b, e = .returned (.tuple #[Sl b 0 n.toNat n.toNat, I64 0]) ∧ Sat w0 w' G' ((b, Cs ((pxor (oth rs i)).map B8) 5) :: F)))

theorem oth_mxl (rs : List (List UInt8)) (i : Int) : mxl (oth rs i) ≤ mxl rs := mxl_le.2 fun r hr => le_mxl (oth_mem hr)

theorem fill_c (v : Value) (rs : List (List UInt8)) (i m : Int) (w0 w : World) (G : Im) (F : Hp) (hv : RowsV G v rs) (hmx : mxl rs ≤ 140737488355328) (hi : -9223372036854775808 ≤ i ∧ i ≤ 9223372036854775807) (hs : Sat w0 w G F) :
    Calls Try.prog 82 #[v, I64 i, I64 m] w (FillPost w0 G F rs i m) := by
  obtain ⟨vs, hv, hx⟩ := hv
  have hv' := hv
  have hlen := hx.1
  have hom := oth_mxl rs i
  obtain ⟨ad, cap, rfl, h1, h2, h3⟩ := hv
  unfold maxLen at h2
  refine f_enter (vs := [_, _, _]) Try.func82 rfl Try.ntmps82 (by simp) hs ?_
  refine ww ?_
  refine c_part_d 10 _ rfl (fun c1 => ?_) (fun c1 => ?_)
  · refine ww ?_
    refine c_cond_t rfl ?_
    refine ww ?_
    exact f_ret2 rfl rfl rfl (fun w hs => ⟨G, Im.le_refl G, .inl ⟨by omega, rfl, hs⟩⟩)
  refine ww ?_
  refine c_part_d 16 _ rfl (fun c2 => ?_) (fun c2 => ?_)
  · refine ww ?_
    refine c_cond_t rfl ?_
    refine ww ?_
    exact f_ret2 rfl rfl rfl (fun w hs => ⟨G, Im.le_refl G, .inl ⟨by omega, rfl, hs⟩⟩)
  refine ww ?_
  refine c_part_d 20 _ rfl (fun c3 => ?_) (fun c3 => ?_)
  · refine ww ?_
    refine c_cond_t rfl ?_
    refine ww ?_
    exact f_ret2 rfl rfl rfl (fun w hs => ⟨G, Im.le_refl G, .inl ⟨by omega, rfl, hs⟩⟩)
  refine ww ?_
  refine c_cons (s_call (xs := [_, _]) rfl rfl rfl rfl rfl rfl (by kernel_rfl) (fun w hs => others_c ad vs.length cap i _ w _ _ hs) ?_)
  rintro e w' ⟨b1, b2, rfl, hs'⟩
  refine Holds.atw ?_ hs'
  refine c_freeze .head fun G1 hG1 hb2 => ?_
  refine c_freeze .head fun G2 hG2 hb1 => ?_
  have hG := hG1.trans hG2
  have hit := others1_c b1 b2 i _ vs G2 hb1 (hG2 _ _ hb2) (hv'.mono hG (fun _ hp => hp))
  refine c_cons (s_call (xs := [_]) rfl rfl rfl rfl rfl rfl (by kernel_rfl) (fun w hs => longest_c _ _ _ _ _ w _ _ (by kernel_rfl) hit ((hx.others i).mono hG) hs) ?_)
  rintro e w' ⟨rfl, hs'⟩
  refine Holds.atw ?_ hs'
  refine ww ?_
  refine c_cond_d rfl (fun c4 => ?_) (fun c4 => ?_)
  · refine ww ?_
    exact f_ret2 rfl rfl rfl (fun w hs => ⟨G2, hG, .inl ⟨by omega, rfl, hs⟩⟩)
  refine ww ?_
  refine c_cons (s_call (xs := [_, _]) rfl rfl rfl rfl rfl rfl (by kernel_rfl) (fun w hs => others_c ad vs.length cap i _ w _ _ hs) ?_)
  rintro e w' ⟨b3, b4, rfl, hs'⟩
  refine Holds.atw ?_ hs'
  refine c_freeze .head fun G3 hG3 hb4 => ?_
  refine c_freeze .head fun G4 hG4 hb3 => ?_
  have hG' := (hG.trans hG3).trans hG4
  have hit := others1_c b3 b4 i _ vs G4 hb3 (hG4 _ _ hb4) (hv'.mono hG' (fun _ hp => hp))
  refine c_cons (s_call (xs := [_]) rfl rfl rfl rfl rfl rfl (by kernel_rfl) (fun w hs => sum_c _ _ _ _ _ w _ _ (by kernel_rfl) hit ((hx.others i).mono hG') (by omega) hs) ?_)
  rintro e w' ⟨b, rfl, hs'⟩
  refine Holds.atw ?_ hs'
  refine ww ?_
  obtain ⟨q, rfl⟩ := Int.eq_ofNat_of_zero_le (show 0 ≤ m by omega)
  refine c_cons (s_val (v_slice0 q rfl rfl rfl (by kernel_rfl) (by omega)) rfl rfl rfl ?_)
  refine ww ?_
  exact f_ret2 rfl rfl rfl (fun w hs => ⟨G4, hG', .inr ⟨by omega, b, rfl, hs⟩⟩)

theorem small_c (v : Value) (rs : List (List UInt8)) (most : Int) (w0 w : World) (G : Im) (F : Hp) (hv : RowsV G v rs) (hs : Sat w0 w G F) :
    Calls Try.prog 28 #[v, I64 most] w fun e w' => e = .returned (.bool (decide (rs.length ≤ 40 ∧ ∀ r ∈ rs, (r.length : Int) ≤ most))) ∧ Sat w0 w' G F := by
  obtain ⟨vs, hv, hx⟩ := hv
  have hlen := hx.1
  obtain ⟨ad, cap, rfl, h1, h2, h3⟩ := hv
  unfold maxLen at h2
  refine f_enter (vs := [_, _]) Try.func28 rfl Try.ntmps28 (by simp) hs ?_
  refine ww ?_
  refine c_cond_d rfl (fun c1 => ?_) (fun c1 => ?_)
  · refine ww ?_
    refine f_ret1 rfl rfl (fun w hs => ⟨?_, hs⟩)
    rw [decide_eq_false (by omega)]
  refine ww ?_
  refine c_loop (α := Nat) (fun k => [(5, I64 k), (0, .slice ad vs.length cap), (1, I64 most)]) (fun _ => G) (fun _ => F) (fun k => k ≤ vs.length ∧ ∀ r ∈ rs.take k, (r.length : Int) ≤ most) (fun k => vs.length - k) 0 ⟨Nat.zero_le _, by simp⟩ ?_ ?_
  · exact l_at ⟨rfl, rfl, rfl, trivial⟩ (Split.refl _)
  · rintro k ⟨hk, hall⟩
    refine ww ?_
    refine c_cond_d rfl (fun hlt => ?_) (fun hge => ?_)
    · have hkv : k < vs.length := by omega
      obtain ⟨hkr, hsv⟩ := hx.at k hkv
      rcases h3 with ⟨hx0, _⟩ | ⟨b, o, rfl, hc⟩
      · subst hx0; simp at hkv
      have e1 := (hc k vs[k] (by simp [hkv])).mono (H' := F) (Im.le_refl G) (by simp)
      obtain ⟨adr, capr, hvk, _⟩ := hsv
      refine ww ?_
      refine c_cons (s_val (v_index1 rfl rfl (by kernel_rfl) (by omega)) rfl rfl rfl ?_)
      refine c_cons (s_val (v_load rfl (by rw [hvk] at e1; simpa using e1) (by kernel_rfl)) rfl rfl rfl ?_)
      refine ww ?_
      refine c_cond_d rfl (fun hgt => ?_) (fun hle => ?_)
      · refine ww ?_
        refine f_ret1 rfl rfl (fun w hs => ⟨?_, hs⟩)
        rw [decide_eq_false (fun h => by have := h.2 _ (List.getElem_mem hkr); omega)]
      · refine ww ?_
        refine l_next (G' := fun _ => G) (k + 1) ⟨by omega, ?_⟩ (by omega) ⟨rfl, rfl, rfl, trivial⟩ rfl (Split.refl _)
        intro r hr
        rw [List.take_succ_eq_append_getElem hkr, List.mem_append] at hr
        rcases hr with hr | hr
        · exact hall r hr
        · rw [List.mem_singleton.1 hr]; omega
    · refine ww ?_
      refine f_ret1 rfl rfl (fun w hs => ⟨?_, hs⟩)
      have e : k = rs.length := by omega
      subst e
      rw [List.take_length] at hall
      rw [decide_eq_true ⟨by omega, hall⟩]
end Go.Proofs.Ytldkldmjcacopaa
