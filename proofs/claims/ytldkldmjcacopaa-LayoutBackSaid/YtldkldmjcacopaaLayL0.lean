/- The laws of package layout: awake. -/
import Derived.Test.YtldkldmjcacopaaLayR7
import Derived.Test.YtldkldmjcacopaaLw13
import Derived.Test.YtldkldmjcacopaaBytes
namespace Go.Proofs.Ytldkldmjcacopaa
open Go
set_option linter.unusedVariables false
set_option linter.unusedSimpArgs false
set_option maxHeartbeats 1600000
theorem aw_cut : (cutS (strS 1).c (strS 1).l (strS 1).n [1, 2, 3] 3).2 = 0 ∧ (cutS (strS 1).c (strS 1).l (strS 1).n [1, 2, 3] 3).1.length = 3 := by decide +kernel
theorem aw_len : ∀ b, b ∈ [] :: (cutS (strS 1).c (strS 1).l (strS 1).n [1, 2, 3] 3).1.tail → b.length ≤ 100000 := by decide +kernel
theorem aw_join : joinS (strS 1).c (strS 1).l (strS 1).n ([] :: (cutS (strS 1).c (strS 1).l (strS 1).n [1, 2, 3] 3).1.tail) 3 = ([1, 2, 3], 0) := by decide +kernel
theorem Items.tail0 {G : Im} {u : Value} {vs : List Value} {b : List UInt8} {rs : List (List UInt8)} (h : Items G (u :: vs) (b :: rs)) : Items G (.slice none 0 0 :: vs) ([] :: rs) := by
  refine ⟨by have := h.1; simpa using this, fun j v r hv hr => ?_⟩
  cases j with
  | zero => cases hv; cases hr; exact SV.nil _ _
  | succ j => exact h.2 (j + 1) v r hv hr
attribute [local irreducible] Code.wp wpList stepK Holds Val wpR Eff Eff0 Code.wpIn wpListIn stepI Exit.then Exit.inBlock bodyPost bodyPostM

theorem awake_c (w0 w : World) (G : Im) (F : Hp) (hs : Sat w0 w G F) :
    Calls Try.prog 11 #[] w fun e w' => ∃ G', e = .returned (.bool true) ∧ Im.le G G' ∧ Sat w0 w' G' F := by
  refine f_enter (vs := []) Try.func11 rfl Try.ntmps11 (by simp) hs ?_
  refine ww ?_
  refine c_cons (s_call (xs := [_]) rfl rfl rfl rfl rfl rfl (by kernel_rfl) (fun w hs => stripeL_c 1 _ w _ _ hs) ?_)
  rintro e w' ⟨rfl, hs'⟩; refine a_ret ?_ hs'; clear hs'
  obtain ⟨hc1, hc2⟩ := aw_cut
  have hal := aw_len
  have haj := aw_join
  obtain ⟨f, hf⟩ : ∃ f, f = strS 1 := ⟨_, rfl⟩
  rw [← hf] at hc1 hc2 hal haj ⊢
  refine c_cons (s_lit (z := B8 0) (bs := 1) (e := 5) [_, _, _] (by kernel_rfl) rfl rfl rfl rfl (by simp [Value.oneCell']) rfl (by decide) fun b1 => ?_)
  refine c_freeze .head fun G1 hG1 k1 => ?_
  refine c_cons (s_call (xs := [_, _, _]) rfl rfl rfl rfl rfl rfl (by kernel_rfl) (fun w hs => cut_c f.c f.l f.n 3 _ [1, 2, 3] (by decide) _ w _ _ (SV.block (.of_imm k1) (by simp [maxLen])) hs) ?_)
  generalize cutS f.c f.l f.n [1, 2, 3] 3 = C at hc1 hc2 hal haj ⊢
  rw [hc1]
  rintro e w' ⟨G2, u, B, rfl, hG2, hu, hs'⟩; refine a_ret ?_ hs'; clear hs'
  obtain ⟨vs, ⟨hl, hown⟩, hit⟩ := hu
  have hvl : vs.length = 3 := by rw [hit.1, hc2]
  rcases hown with ⟨ad, rfl, h0, rfl⟩ | ⟨bb, c, sl, rfl, hb1, hb2, hb3, rfl⟩
  · omega
  rw [hvl] at hb2 ⊢
  refine ww ?_
  refine c_kf 13 rfl (by simp) ?_
  refine ww ?_
  refine c_cond_f rfl ?_
  refine ww ?_
  refine c_cons (s_val (v_index1 rfl rfl (by kernel_rfl) (by simp)) rfl rfl rfl ?_)
  refine c_cons (s_store1 rfl rfl rfl .head (by kernel_rfl) rfl (by simp; omega) ?_)
  obtain ⟨v0, vr, rfl⟩ : ∃ v0 vr, vs = v0 :: vr := by
    cases vs with
    | nil => simp at hvl
    | cons a b => exact ⟨a, b, rfl⟩
  obtain ⟨r0, rr, hC⟩ : ∃ r0 rr, C.1 = r0 :: rr := by
    cases hc : C.1 with
    | nil => rw [hc] at hc2; simp at hc2
    | cons a b => exact ⟨a, b, rfl⟩
  rw [hC] at hal haj hit
  rw [List.tail_cons] at hal haj
  change Holds _ _ _ _ _ ((bb, Cs ((.slice none 0 0 :: vr) ++ sl) 22) :: _) _
  refine c_freeze .head fun G3 hG3 k3 => ?_
  have hrv : RowsV G3 (Sl bb 0 3 c) ([] :: rr) := ⟨.slice none 0 0 :: vr, by
    have e3 : (Value.slice none 0 0 :: vr).length = 3 := by simpa using hvl
    rw [e3]
    refine ⟨_, c, rfl, hb2, hb1, .inr ⟨bb, 0, rfl, fun j u hj => ⟨_, _, _, .of_imm k3, ?_⟩⟩⟩
    simp only [List.getElem?_toArray, Nat.zero_add]
    rw [List.getElem?_append_left (List.getElem?_eq_some_iff.1 hj).1]; exact hj, (hit.mono hG3).tail0⟩
  refine ww ?_
  refine c_cons (s_call (xs := [_]) rfl rfl rfl rfl rfl rfl (by kernel_rfl) (fun w hs => stripeL_c 1 _ w _ _ hs) ?_)
  rw [← hf]
  rintro e w' ⟨rfl, hs'⟩; refine a_ret ?_ hs'; clear hs'
  refine ww ?_
  refine c_cons (s_call (xs := [_, _, _]) rfl rfl rfl rfl rfl rfl (by kernel_rfl) (fun w hs => join_c f.c f.l f.n 3 _ ([] :: rr) hal _ w _ _ hrv hs) ?_)
  rw [haj]
  rintro e w' ⟨G4, u4, rfl, hG4, hu4, hs'⟩; refine a_ret ?_ hs'; clear hs'
  dsimp only at hu4 ⊢
  refine ww ?_
  refine c_kt 28 rfl (by simp) ?_
  refine ww ?_
  refine c_cons (s_lit (z := B8 0) (bs := 1) (e := 5) [_, _, _] (by kernel_rfl) rfl rfl rfl rfl (by simp [Value.oneCell']) rfl (by decide) fun b2 => ?_)
  refine c_cons (s_call (xs := [_, _]) rfl rfl rfl rfl rfl rfl (by kernel_rfl) (fun w hs => same_c _ _ [1, 2, 3] [1, 2, 3] _ w _ _ (hu4.mono (Im.le_refl _) (by simp)) (SV.block .head (by simp [maxLen])) hs) ?_)
  rintro e w' ⟨rfl, hs'⟩; refine a_ret ?_ hs'; clear hs'
  rw [decide_eq_true (rfl : ([1, 2, 3] : List UInt8) = [1, 2, 3])]
  refine ww ?_
  exact f_ret1 rfl rfl (fun w hs => ⟨G4, rfl, hG1.trans (hG2.trans (hG3.trans hG4)), hs.tl⟩)
end Go.Proofs.Ytldkldmjcacopaa
