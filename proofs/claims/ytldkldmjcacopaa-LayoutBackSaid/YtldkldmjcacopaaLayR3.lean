/- The walks of package layout: must, head. The walks of package layout: what catches, Read. The walks of package layout: the deferred functions, Read. -/
import Derived.Test.YtldkldmjcacopaaLayW3
import Derived.Test.YtldkldmjcacopaaEye4
import Derived.Test.YtldkldmjcacopaaEye2
namespace Go.Proofs.Ytldkldmjcacopaa
section
open Go
set_option linter.unusedVariables false
set_option linter.unusedSimpArgs false
set_option maxHeartbeats 1600000
/-- It gives up. -/
def lgone (c : Int) : List PanicEntry := [{ v := .iface 94 (.agg #[I64 c]), recovered := false }]
def hdOf (b : List UInt8) : Hd := ⟨(num (b.take 1) : Nat), (num ((b.drop 1).take 3) : Nat), (num ((b.drop 4).take 4) : Nat), (num ((b.drop 8).take 1) : Nat), (num ((b.drop 9).take 1) : Nat), (num ((b.drop 10).take 2) : Nat)⟩
/-- A head that may be. -/
def hdMay (h : Hd) : Prop := mst h.c h.l h.n ∧ (3 ≤ h.s ∧ h.s ≤ 16) ∧ h.i < h.s ∧ 0 ≤ h.z ∧ h.z ≤ 400 * (h.s - 1)
instance (h : Hd) : Decidable (hdMay h) := by unfold hdMay; infer_instance
/-- Why bytes are no fragment (0: they are one). -/
def readE (b : List UInt8) : Int :=
  if b.length < 12 then 2 else if hdMay (hdOf b) then (if (b.length : Int) - 12 = longS (hdOf b).i (hdOf b).z (hdOf b).s then 0 else 4) else 4
theorem num_lt2 (xs : List UInt8) (k : Nat) (h : xs.length ≤ k) : num xs < 256 ^ k := Nat.lt_of_lt_of_le (num_lt xs) (Nat.pow_le_pow_right (by decide) h)
theorem hdOf_gd (b : List UInt8) : gd (hdOf b) := by
  have h1 := num_lt2 (b.take 1) 1 (by rw [List.length_take]; omega)
  have h2 := num_lt2 ((b.drop 1).take 3) 3 (by rw [List.length_take]; omega)
  have h3 := num_lt2 ((b.drop 4).take 4) 4 (by rw [List.length_take]; omega)
  have h4 := num_lt2 ((b.drop 8).take 1) 1 (by rw [List.length_take]; omega)
  have h5 := num_lt2 ((b.drop 9).take 1) 1 (by rw [List.length_take]; omega)
  have h6 := num_lt2 ((b.drop 10).take 2) 2 (by rw [List.length_take]; omega)
  unfold gd hdOf
  dsimp only
  omega
/-- An eye on its way. -/
def EySt (b : List UInt8) (j : Nat) (xs : List UInt8) (bad : Int) : Prop := (bad = 0 ∧ j ≤ b.length ∧ xs = b.drop j) ∨ (bad = 2 ∧ b.length < 12)
theorem EySt.step {b : List UInt8} {j : Nat} {xs : List UInt8} {bad : Int} (h : EySt b j xs bad) (k : Nat) (hk : 1 ≤ k ∧ k ≤ 7) (hj : j + k ≤ 12) (i : Int) (hi : i = (k : Int)) :
    EySt b (j + k) (eNum xs bad i).2.1 (eNum xs bad i).2.2 ∧ (¬ b.length < 12 → (eNum xs bad i).1 = (num ((b.drop j).take k) : Nat)) := by
  subst hi
  rcases h with ⟨rfl, h2, rfl⟩ | ⟨rfl, h2⟩
  · unfold eNum
    rw [if_neg (by decide)]
    unfold rNum
    rw [if_neg (by omega), Int.toNat_natCast]
    by_cases hc : (b.drop j).length < k
    · rw [if_pos hc]
      rw [List.length_drop] at hc
      exact ⟨.inr ⟨rfl, by omega⟩, fun h => by omega⟩
    · rw [if_neg hc]
      rw [List.length_drop] at hc
      exact ⟨.inl ⟨rfl, by omega, by rw [List.drop_drop]⟩, fun _ => rfl⟩
  · unfold eNum
    rw [if_pos (by decide)]
    exact ⟨.inr ⟨rfl, h2⟩, fun h => absurd h2 h⟩
theorem head36 {a b c d e f x : Value} {j : Nat} (h : [a, b, c][j]? = some x) : [a, b, c, d, e, f][j]? = some x := by
  match j, h with
  | 0, h => exact h
  | 1, h => exact h
  | 2, h => exact h
  | n + 3, h => simp at h
attribute [local irreducible] Code.wp wpList stepK Holds Val wpR Eff Eff0 Code.wpIn wpListIn stepI Exit.then Exit.inBlock bodyPost bodyPostM

theorem must_t (c : Int) (w0 w : World) (G : Im) (F : Hp) (hs : Sat w0 w G F) :
    Calls Try.prog 56 #[.bool true, I64 c] w fun e w' => e = .returned (.tuple #[]) ∧ Sat w0 w' G F := by
  refine f_enter (vs := [_, _]) Try.func56 rfl Try.ntmps56 (by simp) hs ?_
  refine ww ?_
  refine c_cond_f rfl ?_
  refine ww ?_
  exact f_end0 rfl (fun w hs => ⟨rfl, hs⟩)

theorem must_f (c : Int) (w0 w : World) (G : Im) (F : Hp) (hs : Sat w0 w G F) :
    Calls Try.prog 56 #[.bool false, I64 c] w fun e w' => e = .panicked (lgone c) ∧ Sat w0 w' G F := by
  refine f_enter (vs := [_, _]) Try.func56 rfl Try.ntmps56 (by simp) hs ?_
  refine ww ?_
  refine c_cond_t rfl ?_
  refine ww ?_
  refine c_cons (s_val (v_build (ps := [_]) #[I64 c] rfl (by kernel_rfl)) rfl rfl rfl ?_)
  refine c_cons (s_val (v_iface rfl (by kernel_rfl)) rfl rfl rfl ?_)
  refine c_cons (s_panic rfl rfl ?_)
  exact f_panic (fun w hs => ⟨rfl, hs⟩)

theorem head_c (vb : Value) (b : List UInt8) (hb : b.length ≤ 100000) (w0 w : World) (G : Im) (F : Hp) (hv : SV G [] vb b.length (b.map B8)) (hs : Sat w0 w G F) :
    Calls Try.prog 34 #[vb] w fun e w' => (readE b = 0 ∧ ∃ G' u, e = .returned (.tuple #[(hdOf b).V, u]) ∧ Im.le G G' ∧ SV G' [] u (b.drop 12).length ((b.drop 12).map B8) ∧ Sat w0 w' G' F) ∨ (readE b ≠ 0 ∧ ∃ G', e = .panicked (lgone (readE b)) ∧ Im.le G G' ∧ Sat w0 w' G' F) := by
  obtain ⟨adb, cpb, rfl⟩ := hv.form
  refine f_enter (vs := [_]) Try.func34 rfl Try.ntmps34 (by simp) hs ?_
  refine ww ?_
  refine c_cons (s_allocA [I64 0, I64 0, I64 0, I64 0, I64 0, I64 0] (by kernel_rfl) rfl rfl fun b1 => ?_)
  refine ww ?_
  refine c_cons (s_call (xs := [_]) rfl rfl rfl rfl rfl rfl (by kernel_rfl) (fun w hs => newEye_c _ b (by omega) _ w _ _ hv hs) ?_)
  rintro e w' ⟨G1, ep, v1, rfl, hG1, hv1, hs'⟩; refine a_ret ?_ hs'; clear hs'
  have st1 : EySt b 0 b 0 := .inl ⟨rfl, Nat.zero_le _, rfl⟩
  refine ww ?_
  refine c_cons (s_allocA [I64 0, I64 0, I64 0, I64 0, I64 0, I64 0] (by kernel_rfl) rfl rfl fun b2 => ?_)
  change Holds _ _ _ _ _ ((b2, Cs [I64 0, I64 0, I64 0, I64 0, I64 0, I64 0] 27) :: _) _
  refine c_sub (EyO ep v1 0 :: (b2, Cs [I64 0, I64 0, I64 0, I64 0, I64 0, I64 0] 27) :: (b1, Cs [I64 0, I64 0, I64 0, I64 0, I64 0, I64 0] 27) :: F) sbx ?_
  obtain ⟨st2, an1⟩ := st1.step 1 (by omega) (by omega) 1 rfl
  refine ww ?_
  refine c_cons (s_call (xs := [_, _]) rfl rfl rfl rfl rfl rfl (by kernel_rfl) (fun w hs => enum_c ep _ 0 b 1 _ w _ _ hv1 hs) ?_)
  rintro e w' ⟨v2, rfl, hv2, hs'⟩; refine a_ret ?_ hs'; clear hs'
  generalize (eNum b 0 1).1 = a1 at an1 ⊢
  generalize (eNum b 0 1).2.1 = xs2 at st2 hv2 ⊢
  generalize (eNum b 0 1).2.2 = bad2 at st2 hv2 ⊢
  refine c_cons (s_val (v_field 0 rfl (by kernel_rfl)) rfl rfl rfl ?_)
  refine c_cons (s_val (v_field 0 rfl (by kernel_rfl)) rfl rfl rfl ?_)
  refine c_cons (s_store1 rfl rfl rfl (.tail .head) (by kernel_rfl) rfl (by simp) ?_)
  change Holds _ _ _ _ _ ((b2, Cs [I64 a1, I64 0, I64 0, I64 0, I64 0, I64 0] 27) :: _) _
  refine c_sub (EyO ep v2 bad2 :: (b2, Cs [I64 a1, I64 0, I64 0, I64 0, I64 0, I64 0] 27) :: (b1, Cs [I64 0, I64 0, I64 0, I64 0, I64 0, I64 0] 27) :: F) sbx ?_
  obtain ⟨st3, an2⟩ := st2.step 3 (by omega) (by omega) 3 rfl
  refine ww ?_
  refine c_cons (s_call (xs := [_, _]) rfl rfl rfl rfl rfl rfl (by kernel_rfl) (fun w hs => enum_c ep _ bad2 xs2 3 _ w _ _ hv2 hs) ?_)
  rintro e w' ⟨v3, rfl, hv3, hs'⟩; refine a_ret ?_ hs'; clear hs'
  generalize (eNum xs2 bad2 3).1 = a2 at an2 ⊢
  generalize (eNum xs2 bad2 3).2.1 = xs3 at st3 hv3 ⊢
  generalize (eNum xs2 bad2 3).2.2 = bad3 at st3 hv3 ⊢
  refine c_cons (s_val (v_field 0 rfl (by kernel_rfl)) rfl rfl rfl ?_)
  refine c_cons (s_val (v_field 1 rfl (by kernel_rfl)) rfl rfl rfl ?_)
  refine c_cons (s_store1 rfl rfl rfl (.tail .head) (by kernel_rfl) rfl (by simp) ?_)
  change Holds _ _ _ _ _ ((b2, Cs [I64 a1, I64 a2, I64 0, I64 0, I64 0, I64 0] 27) :: _) _
  refine c_sub (EyO ep v3 bad3 :: (b2, Cs [I64 a1, I64 a2, I64 0, I64 0, I64 0, I64 0] 27) :: (b1, Cs [I64 0, I64 0, I64 0, I64 0, I64 0, I64 0] 27) :: F) sbx ?_
  obtain ⟨st4, an3⟩ := st3.step 4 (by omega) (by omega) 4 rfl
  refine ww ?_
  refine c_cons (s_call (xs := [_, _]) rfl rfl rfl rfl rfl rfl (by kernel_rfl) (fun w hs => enum_c ep _ bad3 xs3 4 _ w _ _ hv3 hs) ?_)
  rintro e w' ⟨v4, rfl, hv4, hs'⟩; refine a_ret ?_ hs'; clear hs'
  generalize (eNum xs3 bad3 4).1 = a3 at an3 ⊢
  generalize (eNum xs3 bad3 4).2.1 = xs4 at st4 hv4 ⊢
  generalize (eNum xs3 bad3 4).2.2 = bad4 at st4 hv4 ⊢
  refine c_cons (s_val (v_field 0 rfl (by kernel_rfl)) rfl rfl rfl ?_)
  refine c_cons (s_val (v_field 2 rfl (by kernel_rfl)) rfl rfl rfl ?_)
  refine c_cons (s_store1 rfl rfl rfl (.tail .head) (by kernel_rfl) rfl (by simp) ?_)
  change Holds _ _ _ _ _ ((b2, Cs [I64 a1, I64 a2, I64 a3, I64 0, I64 0, I64 0] 27) :: _) _
  refine c_sub (EyO ep v4 bad4 :: (b2, Cs [I64 a1, I64 a2, I64 a3, I64 0, I64 0, I64 0] 27) :: (b1, Cs [I64 0, I64 0, I64 0, I64 0, I64 0, I64 0] 27) :: F) sbx ?_
  obtain ⟨st5, an4⟩ := st4.step 1 (by omega) (by omega) 1 rfl
  refine ww ?_
  refine c_cons (s_call (xs := [_, _]) rfl rfl rfl rfl rfl rfl (by kernel_rfl) (fun w hs => enum_c ep _ bad4 xs4 1 _ w _ _ hv4 hs) ?_)
  rintro e w' ⟨v5, rfl, hv5, hs'⟩; refine a_ret ?_ hs'; clear hs'
  generalize (eNum xs4 bad4 1).1 = a4 at an4 ⊢
  generalize (eNum xs4 bad4 1).2.1 = xs5 at st5 hv5 ⊢
  generalize (eNum xs4 bad4 1).2.2 = bad5 at st5 hv5 ⊢
  refine c_cons (s_val (v_field 3 rfl (by kernel_rfl)) rfl rfl rfl ?_)
  refine c_cons (s_store1 rfl rfl rfl (.tail .head) (by kernel_rfl) rfl (by simp) ?_)
  change Holds _ _ _ _ _ ((b2, Cs [I64 a1, I64 a2, I64 a3, I64 a4, I64 0, I64 0] 27) :: _) _
  refine c_sub (EyO ep v5 bad5 :: (b2, Cs [I64 a1, I64 a2, I64 a3, I64 a4, I64 0, I64 0] 27) :: (b1, Cs [I64 0, I64 0, I64 0, I64 0, I64 0, I64 0] 27) :: F) sbx ?_
  obtain ⟨st6, an5⟩ := st5.step 1 (by omega) (by omega) 1 rfl
  refine ww ?_
  refine c_cons (s_call (xs := [_, _]) rfl rfl rfl rfl rfl rfl (by kernel_rfl) (fun w hs => enum_c ep _ bad5 xs5 1 _ w _ _ hv5 hs) ?_)
  rintro e w' ⟨v6, rfl, hv6, hs'⟩; refine a_ret ?_ hs'; clear hs'
  generalize (eNum xs5 bad5 1).1 = a5 at an5 ⊢
  generalize (eNum xs5 bad5 1).2.1 = xs6 at st6 hv6 ⊢
  generalize (eNum xs5 bad5 1).2.2 = bad6 at st6 hv6 ⊢
  refine c_cons (s_val (v_field 4 rfl (by kernel_rfl)) rfl rfl rfl ?_)
  refine c_cons (s_store1 rfl rfl rfl (.tail .head) (by kernel_rfl) rfl (by simp) ?_)
  change Holds _ _ _ _ _ ((b2, Cs [I64 a1, I64 a2, I64 a3, I64 a4, I64 a5, I64 0] 27) :: _) _
  refine c_sub (EyO ep v6 bad6 :: (b2, Cs [I64 a1, I64 a2, I64 a3, I64 a4, I64 a5, I64 0] 27) :: (b1, Cs [I64 0, I64 0, I64 0, I64 0, I64 0, I64 0] 27) :: F) sbx ?_
  obtain ⟨st7, an6⟩ := st6.step 2 (by omega) (by omega) 2 rfl
  refine ww ?_
  refine c_cons (s_call (xs := [_, _]) rfl rfl rfl rfl rfl rfl (by kernel_rfl) (fun w hs => enum_c ep _ bad6 xs6 2 _ w _ _ hv6 hs) ?_)
  rintro e w' ⟨v7, rfl, hv7, hs'⟩; refine a_ret ?_ hs'; clear hs'
  generalize (eNum xs6 bad6 2).1 = a6 at an6 ⊢
  generalize (eNum xs6 bad6 2).2.1 = xs7 at st7 hv7 ⊢
  generalize (eNum xs6 bad6 2).2.2 = bad7 at st7 hv7 ⊢
  refine c_cons (s_val (v_field 5 rfl (by kernel_rfl)) rfl rfl rfl ?_)
  refine c_cons (s_store1 rfl rfl rfl (.tail .head) (by kernel_rfl) rfl (by simp) ?_)
  change Holds _ _ _ _ _ ((b2, Cs [I64 a1, I64 a2, I64 a3, I64 a4, I64 a5, I64 a6] 27) :: _) _
  refine c_sub (EyO ep v7 bad7 :: (b2, Cs [I64 a1, I64 a2, I64 a3, I64 a4, I64 a5, I64 a6] 27) :: (b1, Cs [I64 0, I64 0, I64 0, I64 0, I64 0, I64 0] 27) :: F) sbx ?_
  refine ww ?_
  refine c_cons (s_call (xs := [_]) rfl rfl rfl rfl rfl rfl (by kernel_rfl) (fun w hs => fail_c ep _ bad7 _ w _ _ hs) ?_)
  rintro e w' ⟨rfl, hs'⟩; refine a_ret ?_ hs'; clear hs'
  refine ww ?_
  refine c_cons (s_call (xs := [_]) rfl rfl rfl rfl rfl rfl (by kernel_rfl) (fun w hs => fail_c ep _ bad7 _ w _ _ hs) ?_)
  rintro e w' ⟨rfl, hs'⟩; refine a_ret ?_ hs'; clear hs'
  by_cases hl : b.length < 12
  · have hb7 : bad7 = 2 := by
      rcases st7 with ⟨h, h2, _⟩ | ⟨h, _⟩
      · omega
      · exact h
    subst hb7
    have hre : readE b = 2 := by unfold readE; rw [if_pos hl]
    rw [decide_eq_false (by decide : ¬ (2 : Int) = 0)]
    refine c_cons (s_call (xs := [_, _]) rfl rfl rfl rfl rfl rfl (by kernel_rfl) (fun w hs => must_f 2 _ w _ _ hs) ?_)
    rintro e w' ⟨rfl, hs'⟩
    refine a_panic ?_ hs'; clear hs'
    repeat (first | refine x_then_panic ?_ | refine x_block_panic ?_)
    exact f_panic (fun w hs => .inr ⟨by rw [hre]; decide, G1, by rw [hre], hG1, hs.sb⟩)
  have hb7 : bad7 = 0 := by
    rcases st7 with ⟨h, _⟩ | ⟨_, h⟩
    · exact h
    · exact absurd h hl
  subst hb7
  rw [decide_eq_true (rfl : (0 : Int) = 0)]
  refine c_cons (s_call (xs := [_, _]) rfl rfl rfl rfl rfl rfl (by kernel_rfl) (fun w hs => must_t 0 _ w _ _ hs) ?_)
  rintro e w' ⟨rfl, hs'⟩; refine a_ret ?_ hs'; clear hs'
  obtain ⟨h, hh⟩ : ∃ h, h = hdOf b := ⟨_, rfl⟩
  have e1 : a1 = h.c := by rw [an1 hl, hh]; rfl
  have e2 : a2 = h.l := by rw [an2 hl, hh]; rfl
  have e3 : a3 = h.n := by rw [an3 hl, hh]; rfl
  have e4 : a4 = h.i := by rw [an4 hl, hh]; rfl
  have e5 : a5 = h.s := by rw [an5 hl, hh]; rfl
  have e6 : a6 = h.z := by rw [an6 hl, hh]; rfl
  rw [e1, e2, e3, e4, e5, e6]
  have hgd := hdOf_gd b
  rw [← hh] at hgd ⊢
  refine c_sub ((b2, Cs [I64 h.c, I64 h.l, I64 h.n, I64 h.i, I64 h.s, I64 h.z] 27) :: (b1, Cs [I64 0, I64 0, I64 0, I64 0, I64 0, I64 0] 27) :: F) sbx ?_
  refine c_freeze .head fun G2 hG2 k2 => ?_
  have hG12 := hG1.trans hG2
  obtain ⟨hg1, hg2, hg3, hg4, hg5, hg6⟩ := hgd
  have bad4 : ¬ hdMay h → readE b = 4 := fun hn => by unfold readE; rw [if_neg hl, if_neg (by rw [← hh]; exact hn)]
  refine ww ?_
  refine c_cons (s_val (v_field 0 rfl (by kernel_rfl)) rfl rfl rfl ?_)
  refine c_cons (s_val (v_loadAgg (vs := [I64 h.c, I64 h.l, I64 h.n]) rfl (by kernel_rfl) (by kernel_rfl) rfl (fun j u hj => (Cel.imm k2 (by rw [Nat.zero_add]; exact head36 hj)))) rfl rfl rfl ?_)
  refine c_cons (s_call (xs := [_]) rfl rfl rfl rfl rfl rfl (by kernel_rfl) (fun w hs => lmay_c h.c h.l h.n _ w _ _ hs) ?_)
  rintro e w' ⟨rfl, hs'⟩; refine a_ret ?_ hs'; clear hs'
  refine ww ?_
  refine c_part_d 38 _ rfl (fun c1 => ?_) (fun c1 => ?_)
  rotate_left
  · refine ww ?_
    refine c_cons (s_call (xs := [_, _]) rfl rfl rfl rfl rfl rfl (by kernel_rfl) (fun w hs => must_f 4 _ w _ _ hs) ?_)
    rintro e w' ⟨rfl, hs'⟩
    refine a_panic ?_ hs'; clear hs'
    repeat (first | refine x_then_panic ?_ | refine x_block_panic ?_)
    have hre := bad4 (fun hm => by obtain ⟨m1, m2, m3, m4⟩ := hm; first | omega | exact c1 m1)
    exact f_panic (fun w hs => .inr ⟨by rw [hre]; decide, G2, by rw [hre], hG12, hs.sb⟩)
  refine ww ?_
  refine c_cons (s_val (v_field 4 rfl (by kernel_rfl)) rfl rfl rfl ?_)
  refine c_cons (s_val (v_load rfl (Cel.imm k2 rfl) (by kernel_rfl)) rfl rfl rfl ?_)
  refine c_cons (s_call (xs := [_]) rfl rfl rfl rfl rfl rfl (by kernel_rfl) (fun w hs => lsrv_c h.s _ w _ _ hs) ?_)
  rintro e w' ⟨rfl, hs'⟩; refine a_ret ?_ hs'; clear hs'
  refine ww ?_
  refine c_part_d 43 _ rfl (fun c2 => ?_) (fun c2 => ?_)
  rotate_left
  · refine ww ?_
    refine c_cons (s_call (xs := [_, _]) rfl rfl rfl rfl rfl rfl (by kernel_rfl) (fun w hs => must_f 4 _ w _ _ hs) ?_)
    rintro e w' ⟨rfl, hs'⟩
    refine a_panic ?_ hs'; clear hs'
    repeat (first | refine x_then_panic ?_ | refine x_block_panic ?_)
    have hre := bad4 (fun hm => by obtain ⟨m1, m2, m3, m4⟩ := hm; first | omega | exact c1 m1)
    exact f_panic (fun w hs => .inr ⟨by rw [hre]; decide, G2, by rw [hre], hG12, hs.sb⟩)
  refine ww ?_
  refine c_cons (s_val (v_field 3 rfl (by kernel_rfl)) rfl rfl rfl ?_)
  refine c_cons (s_val (v_load rfl (Cel.imm k2 rfl) (by kernel_rfl)) rfl rfl rfl ?_)
  refine c_cons (s_val (v_field 4 rfl (by kernel_rfl)) rfl rfl rfl ?_)
  refine c_cons (s_val (v_load rfl (Cel.imm k2 rfl) (by kernel_rfl)) rfl rfl rfl ?_)
  refine ww ?_
  refine c_part_d 50 _ rfl (fun c3 => ?_) (fun c3 => ?_)
  rotate_left
  · refine ww ?_
    refine c_cons (s_call (xs := [_, _]) rfl rfl rfl rfl rfl rfl (by kernel_rfl) (fun w hs => must_f 4 _ w _ _ hs) ?_)
    rintro e w' ⟨rfl, hs'⟩
    refine a_panic ?_ hs'; clear hs'
    repeat (first | refine x_then_panic ?_ | refine x_block_panic ?_)
    have hre := bad4 (fun hm => by obtain ⟨m1, m2, m3, m4⟩ := hm; first | omega | exact c1 m1)
    exact f_panic (fun w hs => .inr ⟨by rw [hre]; decide, G2, by rw [hre], hG12, hs.sb⟩)
  refine ww ?_
  refine c_cons (s_val (v_field 5 rfl (by kernel_rfl)) rfl rfl rfl ?_)
  refine c_cons (s_val (v_load rfl (Cel.imm k2 rfl) (by kernel_rfl)) rfl rfl rfl ?_)
  refine c_cons (s_val (v_field 4 rfl (by kernel_rfl)) rfl rfl rfl ?_)
  refine c_cons (s_val (v_load rfl (Cel.imm k2 rfl) (by kernel_rfl)) rfl rfl rfl ?_)
  refine c_cons (s_call (xs := [_, _]) rfl rfl rfl rfl rfl rfl (by kernel_rfl) (fun w hs => lsz_c h.z h.s c2 _ w _ _ hs) ?_)
  rintro e w' ⟨rfl, hs'⟩; refine a_ret ?_ hs'; clear hs'
  refine ww ?_
  by_cases c4 : 0 ≤ h.z ∧ h.z ≤ 400 * (h.s - 1)
  rotate_left
  · rw [decide_eq_false c4]
    refine c_cons (s_call (xs := [_, _]) rfl rfl rfl rfl rfl rfl (by kernel_rfl) (fun w hs => must_f 4 _ w _ _ hs) ?_)
    rintro e w' ⟨rfl, hs'⟩
    refine a_panic ?_ hs'; clear hs'
    repeat (first | refine x_then_panic ?_ | refine x_block_panic ?_)
    have hre := bad4 (fun hm => by obtain ⟨m1, m2, m3, m4⟩ := hm; first | omega | exact c1 m1)
    exact f_panic (fun w hs => .inr ⟨by rw [hre]; decide, G2, by rw [hre], hG12, hs.sb⟩)
  rw [decide_eq_true c4]
  have hmay : hdMay h := ⟨c1, c2, c3, c4⟩
  have hre : readE b = if (b.length : Int) - 12 = longS h.i h.z h.s then 0 else 4 := by unfold readE; rw [if_neg hl, ← hh, if_pos hmay]
  refine c_cons (s_call (xs := [_, _]) rfl rfl rfl rfl rfl rfl (by kernel_rfl) (fun w hs => must_t 4 _ w _ _ hs) ?_)
  rintro e w' ⟨rfl, hs'⟩; refine a_ret ?_ hs'; clear hs'
  refine ww ?_
  refine c_cons (s_val (v_loadAgg (vs := [I64 h.c, I64 h.l, I64 h.n, I64 h.i, I64 h.s, I64 h.z]) rfl (by kernel_rfl) (by kernel_rfl) rfl (fun j u hj => (Cel.allI k2 hj))) rfl rfl rfl ?_)
  refine c_cons (s_call (xs := [_]) rfl rfl rfl rfl rfl rfl (by kernel_rfl) (fun w hs => llong_c h (by omega) (by omega) c2 _ w _ _ hs) ?_)
  rintro e w' ⟨rfl, hs'⟩; refine a_ret ?_ hs'; clear hs'
  refine ww ?_
  by_cases c5 : (b.length : Int) - 12 = longS h.i h.z h.s
  rotate_left
  · rw [decide_eq_false c5]
    rw [if_neg c5] at hre
    refine c_cons (s_call (xs := [_, _]) rfl rfl rfl rfl rfl rfl (by kernel_rfl) (fun w hs => must_f 4 _ w _ _ hs) ?_)
    rintro e w' ⟨rfl, hs'⟩
    refine a_panic ?_ hs'; clear hs'
    repeat (first | refine x_then_panic ?_ | refine x_block_panic ?_)
    exact f_panic (fun w hs => .inr ⟨by rw [hre]; decide, G2, by rw [hre], hG12, hs.sb⟩)
  rw [decide_eq_true c5]
  rw [if_pos c5] at hre
  refine c_cons (s_call (xs := [_, _]) rfl rfl rfl rfl rfl rfl (by kernel_rfl) (fun w hs => must_t 4 _ w _ _ hs) ?_)
  rintro e w' ⟨rfl, hs'⟩; refine a_ret ?_ hs'; clear hs'
  refine ww ?_
  refine r_startS [] [] (by kernel_rfl) (fun w h => h.none) ?_
  refine r_tk 0 rfl rfl (v_loadAgg (vs := [I64 h.c, I64 h.l, I64 h.n, I64 h.i, I64 h.s, I64 h.z]) rfl (by kernel_rfl) (by kernel_rfl) rfl (fun j u hj => (Cel.allI k2 hj))) (fun _ h => h.none) ?_
  refine r_tk 1 rfl rfl (v_move rfl) (fun _ h => h.none) ?_
  refine r_tk 2 rfl rfl (v_slLo 12 1 rfl rfl (by kernel_rfl) (by omega)) (fun _ h => h.none) ?_
  have hlo : SV G2 [] (slMid adb cpb 12 b.length 1) (b.drop 12).length ((b.drop 12).map B8) := by
    have h := SV.lo (H := []) (l := 12) (s := 1) (hv.mono hG12 (by simp)) (by omega) (by simp)
    rw [Nat.mul_one, ← List.map_drop] at h
    rw [List.length_drop]; exact h
  refine r_one 3 (by kernel_rfl) rfl ?_
  refine s_call (xs := [_]) rfl rfl rfl rfl rfl rfl (by kernel_rfl) (fun w hs => clone_c _ (b.drop 12) _ w _ _ hlo (by rw [List.length_drop]; omega) hs) ?_
  rintro e w' ⟨G7, u7, rfl, hG7, hu7, hs'⟩; refine a_ret ?_ hs'; clear hs'
  refine r_next (fun w h => h.none.weaken hG7) ?_
  refine r_one 4 (by kernel_rfl) rfl ?_
  refine s_storeA (vs := [I64 h.c, I64 h.l, I64 h.n, I64 h.i, I64 h.s, I64 h.z]) rfl rfl rfl .head (by kernel_rfl) (by simp [Value.oneCell']) rfl ?_
  refine r_next (fun w h => h.none.weaken hG7) ?_
  refine r_tk 5 rfl rfl (v_assign rfl) (fun _ h => h.none.weaken hG7) ?_
  refine r_done (by kernel_rfl) ?_
  refine ww ?_
  exact f_retA1 (vs := [I64 h.c, I64 h.l, I64 h.n, I64 h.i, I64 h.s, I64 h.z]) rfl rfl rfl (by kernel_rfl) (by kernel_rfl) rfl (fun j u hj => Cel.all hj) (fun w hs => .inl ⟨hre, G7, u7, rfl, hG12.trans hG7, hu7, hs.tl⟩)
end

section
open Go
set_option linter.unusedVariables false
set_option linter.unusedSimpArgs false
set_option maxHeartbeats 1600000
section
variable {w0 w : World} {G G' : Im} {H H' H1 : Hp} {n d : Nat} {ds : List Deferred} {env : Env} {P : Program} {ops : Array Oper} {K : Act → World → Prop}
variable {QS : Exit → Act → List Frame → World → Prop} {cs cs' : List Frame} {rest : List Nat}
/-- As Q, and no panic. -/
def npQ (Q : Exit → Act → World → Prop) : Exit → Act → World → Prop
  | .panic _, _, _ => False
  | e, a, w => Q e a w
theorem pk_no {Q : Exit → Act → World → Prop} : PanicOk (npQ Q) := fun _ _ _ _ _ h => h.elim
theorem npQ_le {Q : Exit → Act → World → Prop} : ∀ e a w, npQ Q e a w → Q e a w := fun e a w h => by cases e <;> first | exact h | exact h.elim
theorem c_np {Q : Exit → Act → World → Prop} {c : Code} (h : Holds n ds w0 env G H (c.wp P (npQ Q))) : Holds n ds w0 env G H (c.wp P Q) := fun a w ht hs => wp_mono (h a w ht hs) npQ_le
theorem np_n {Q : Exit → Act → World → Prop} (h : Holds n ds w0 env G H (Q .normal)) : Holds n ds w0 env G H (npQ Q .normal) := h
/-- A call in a deferred function; it returns. -/
theorem q_call {i : Nat} {o : Oper} {fo : Operand} {xs : List Operand} {ts : Array TypeId} {f : FuncId} {vs : List Value} {cap : Array Value} {R : Ending → World → Prop} (hi : ops[i]? = some o) (hop : o.op = .call { callee := .value fo, args := xs.toArray, argTypes := ts })
    (hg : gOn ops env o = some true) (hd : o.dst = some d) (hlt : Nat.blt d n = true) (hf : ev env fo = some (.func (.func f) #[] cap)) (hxs : evl env xs = some vs) (hen : entersB P f = true)
    (hC : ∀ w, Sat w0 w G H → Calls P f (vs.toArray ++ cap) w R) (k : ∀ e w', R e w' → ∃ v, e = .returned v ∧ HoldsW n ds ((d, v) :: env) w' (fun a w => wpOpsS P ops QS rest a cs w)) :
    Holds n ds w0 env G H (fun a w => wpOpsS P ops QS (i :: rest) a cs w) := fun a w ht hs => by
  show wpOpsS P ops QS (i :: rest) a cs w
  have hrun : (execOp a.eval o).run P w = .ok (.enter f (vs.toArray ++ cap)) w := by
    simp [execOp, hop, resolve, ht.eval hf, ht.evall hxs, Deferred.ofValue, invoke, enters_run hen]
  simp only [wpOpsS, hi, gOn_spec ht hg, if_true, hrun]
  rw [Oper.upon_enter]
  refine (hC w hs).mono fun e w' hr => ?_
  obtain ⟨v, rfl, hk⟩ := k e w' hr
  simp only [hd]
  exact hk _ (ht.put (of_blt hlt) v)
/-- Behind a return: the one deferred call, then the results. -/
theorem d_ret1 {fn : Func} {f : FuncId} {cap : Array Value} {R : Ending → World → Prop} {R' : Ending → FrameMode → World → Prop} (hen : entersB P f = true)
    (hC : ∀ w, Sat w0 w G H → CallsD P f cap .returning w R') (hR : ∀ (a : Act) e u w, TT a n [{ target := .fn (.func f) cap, args := #[] }] env → R' e u w → (∃ v, e = .returned v) ∧ settle u = .returning ∧ ∃ v, (results fn a.tmps).run P w = .ok v w ∧ R (.returned v) w) :
    Holds n [{ target := .fn (.func f) cap, args := #[] }] w0 env G H (bodyPostD P fn R .ret) := fun a w ht hs => by
  show Leaves _ _ _ _ _ _ _
  rw [ht.defers]
  refine leaves_cons (by simp) (f := f) (args := cap) (by simp [invoke, enters_run hen]) ((hC w hs).mono fun e u w' h => ?_)
  obtain ⟨⟨v, rfl⟩, hu, hR'⟩ := hR a e u w' ht h
  show Leaves _ _ _ _ _ _ _
  rw [hu]
  exact hR'
theorem d_pan1 {fn : Func} {f : FuncId} {cap : Array Value} {ch : List PanicEntry} {R : Ending → World → Prop} {R' : Ending → FrameMode → World → Prop} (hen : entersB P f = true)
    (hC : ∀ w, Sat w0 w G H → CallsD P f cap (.panicking ch) w R') (hR : ∀ (a : Act) e u w, TT a n [{ target := .fn (.func f) cap, args := #[] }] env → R' e u w → (∃ v, e = .returned v) ∧ settle u = .returning ∧ ∃ v, (results fn a.tmps).run P w = .ok v w ∧ R (.returned v) w) :
    Holds n [{ target := .fn (.func f) cap, args := #[] }] w0 env G H (bodyPostD P fn R (.panic ch)) := fun a w ht hs => by
  show Leaves _ _ _ _ _ _ _
  rw [ht.defers]
  refine leaves_cons (by simp) (f := f) (args := cap) (by simp [invoke, enters_run hen]) ((hC w hs).mono fun e u w' h => ?_)
  obtain ⟨⟨v, rfl⟩, hu, hR'⟩ := hR a e u w' ht h
  show Leaves _ _ _ _ _ _ _
  rw [hu]
  exact hR'
theorem res_c2 {fn : Func} {a : Act} {t t2 : Tmp} {ty ty2 : TypeId} {b b2 : Nat} {v v2 : Value} (ht : TT a n ds env) (hr : fn.results = #[.cell t ty, .cell t2 ty2]) (hp : env.lookup t = some (Pt b 0)) (hp2 : env.lookup t2 = some (Pt b2 0)) (ha : aggB P ty = some false) (ha2 : aggB P ty2 = some false)
    (hs : Sat w0 w G H) (hb : Cel G H b 0 v) (hb2 : Cel G H b2 0 v2) : (results fn a.tmps).run P w = .ok (.tuple #[v, v2]) w := by
  have hg := ht.get t _ hp
  have hg2 := ht.get t2 _ hp2
  have hc := hb.cell hs
  have hc2 := hb2.cell hs
  simp [results, hr, hg, hg2, asAddr, loadVar, run_isAgg' ha, run_isAgg' ha2, hc, hc2]
theorem res_c3 {fn : Func} {a : Act} {t t2 t3 : Tmp} {ty ty2 ty3 : TypeId} {b b2 b3 sz : Nat} {vs : List Value} {v2 v3 : Value} (ht : TT a n ds env) (hr : fn.results = #[.cell t ty, .cell t2 ty2, .cell t3 ty3]) (hp : env.lookup t = some (Pt b 0)) (hp2 : env.lookup t2 = some (Pt b2 0)) (hp3 : env.lookup t3 = some (Pt b3 0))
    (ha : aggB P ty = some true) (hz : szB P ty = some sz) (hl : vs.length = sz) (ha2 : aggB P ty2 = some false) (ha3 : aggB P ty3 = some false)
    (hs : Sat w0 w G H) (hb : ∀ (j : Nat) u, vs[j]? = some u → Cel G H b (0 + j) u) (hb2 : Cel G H b2 0 v2) (hb3 : Cel G H b3 0 v3) : (results fn a.tmps).run P w = .ok (.tuple #[.agg vs.toArray, v2, v3]) w := by
  have hg := ht.get t _ hp
  have hg2 := ht.get t2 _ hp2
  have hg3 := ht.get t3 _ hp3
  have hc2 := hb2.cell hs
  have hc3 := hb3.cell hs
  have hA := run_loadAgg ha hz hl hb hs
  have hv2 : (loadVar ty2 ⟨b2, 0, none⟩).run P w = .ok v2 w := by simp [loadVar, run_isAgg' ha2, hc2]
  have hv3 : (loadVar ty3 ⟨b3, 0, none⟩).run P w = .ok v3 w := by simp [loadVar, run_isAgg' ha3, hc3]
  simp [results, hr, hg, hg2, hg3, asAddr, hA, hv2, hv3]
end
attribute [local irreducible] Code.wp wpList stepK Holds Val wpR Eff Eff0 Code.wpIn wpListIn stepI Exit.then Exit.inBlock bodyPost bodyPostM

abbrev ErO (b : Nat) (c : Int) : Nat × Obj := (b, Cs [I64 c] 28)
abbrev ByO (b : Nat) (v : Value) : Nat × Obj := (b, Cs [v] 22)
theorem caught_n (eb : Nat) (w0 w : World) (G : Im) (F : Hp) (hs : Sat w0 w G F) :
    Calls Try.prog 33 #[.nilIface, Pt eb 0] w fun e w' => e = .returned (.bool false) ∧ Sat w0 w' G F := by
  refine f_enter (vs := [_, _]) Try.func33 rfl Try.ntmps33 (by simp) hs ?_
  refine ww ?_
  refine c_cons (s_val (v_assert_n rfl (by kernel_rfl) (z := .agg #[I64 0]) (by kernel_rfl)) rfl rfl rfl ?_)
  refine ww ?_
  refine c_cons (s_allocA [I64 0] (by kernel_rfl) rfl rfl fun b1 => ?_)
  refine c_cons (s_storeA (vs := [I64 0]) rfl rfl rfl .head (by kernel_rfl) (by simp [Value.oneCell']) rfl ?_)
  refine ww ?_
  refine c_cond_f rfl ?_
  refine ww ?_
  exact f_ret1 rfl rfl (fun w hs => ⟨rfl, hs.tl⟩)

theorem caught_s (eb : Nat) (c c0 : Int) (w0 w : World) (G : Im) (F : Hp) (hs : Sat w0 w G (ErO eb c0 :: F)) :
    Calls Try.prog 33 #[.iface 94 (.agg #[I64 c]), Pt eb 0] w fun e w' => e = .returned (.bool true) ∧ Sat w0 w' G (ErO eb c :: F) := by
  refine f_enter (vs := [_, _]) Try.func33 rfl Try.ntmps33 (by simp) hs ?_
  refine ww ?_
  refine c_cons (s_val (v_assert_t rfl (by kernel_rfl)) rfl rfl rfl ?_)
  refine ww ?_
  refine c_cons (s_allocA [I64 0] (by kernel_rfl) rfl rfl fun b1 => ?_)
  refine c_cons (s_storeA (vs := [I64 c]) rfl rfl rfl .head (by kernel_rfl) (by simp [Value.oneCell']) rfl ?_)
  refine ww ?_
  refine c_cond_t rfl ?_
  refine ww ?_
  refine c_cons (s_val (v_field 0 rfl (by kernel_rfl)) rfl rfl rfl ?_)
  refine c_cons (s_val (v_load rfl (Cel.head rfl) (by kernel_rfl)) rfl rfl rfl ?_)
  refine ww ?_
  refine c_cons (s_store1 rfl rfl rfl (.tail .head) (by kernel_rfl) rfl (by simp) ?_)
  change Holds _ _ _ _ _ (ErO eb c :: (b1, _) :: F) _
  refine ww ?_
  exact f_ret1 rfl rfl (fun w hs => ⟨rfl, hs.sb⟩)
end

section
open Go
set_option linter.unusedVariables false
set_option linter.unusedSimpArgs false
set_option maxHeartbeats 1600000
abbrev HdO (b : Nat) (h : Hd) : Nat × Obj := (b, Cs [I64 h.c, I64 h.l, I64 h.n, I64 h.i, I64 h.s, I64 h.z] 27)
def hd0 : Hd := ⟨0, 0, 0, 0, 0, 0⟩
def readH (b : List UInt8) : Hd := if readE b = 0 then hdOf b else hd0
def readB (b : List UInt8) : List UInt8 := if readE b = 0 then b.drop 12 else []
/-- What it gave up with is known. -/
def lrec (c : Int) : List PanicEntry := [{ v := .iface 94 (.agg #[I64 c]), recovered := true }]
attribute [local irreducible] Code.wp wpList stepK Holds Val wpR Eff Eff0 Code.wpIn wpListIn stepI Exit.then Exit.inBlock bodyPost bodyPostM

theorem catchR_n (eb hb rb : Nat) (w0 w : World) (G : Im) (F : Hp) (hs : Sat w0 w G F) :
    CallsD Try.prog 32 #[Pt eb 0, Pt hb 0, Pt rb 0] .returning w fun e u w' => (∃ r, e = .returned r) ∧ settle u = .returning ∧ Sat w0 w' G F := by
  refine q_enter (vs := [_, _, _]) Try.func32 rfl Try.ntmps32 (by simp) hs fun c₀ cs hm => ?_
  refine q_seq (q_regionL [0, 1] rfl ?_)
  refine q_rec_n rfl rfl rfl (by simp [recoverD, hm]) ?_
  refine q_call (xs := [_, _]) rfl rfl rfl rfl rfl rfl rfl (by kernel_rfl) (fun w hs => caught_n eb _ w _ _ hs) ?_
  rintro e w' ⟨rfl, hs'⟩
  refine ⟨_, rfl, Holds.atw ?_ hs'⟩
  clear hs'
  refine q_nil (q_then (q_plain ?_))
  refine c_cond_f rfl ?_
  refine ww ?_
  exact q_end (u' := c₀.mode) rfl rfl (fun w hs => ⟨⟨_, rfl⟩, by rw [hm]; rfl, hs⟩)

theorem catchR_s (eb hb rb : Nat) (c c0 : Int) (h : Hd) (v : Value) (w0 w : World) (G : Im) (F : Hp) (hs : Sat w0 w G (ErO eb c0 :: HdO hb h :: ByO rb v :: F)) :
    CallsD Try.prog 32 #[Pt eb 0, Pt hb 0, Pt rb 0] (.panicking (lgone c)) w fun e u w' => (∃ r, e = .returned r) ∧ settle u = .returning ∧ Sat w0 w' G (ErO eb c :: HdO hb hd0 :: ByO rb (.slice none 0 0) :: F) := by
  refine q_enter (vs := [_, _, _]) Try.func32 rfl Try.ntmps32 (by simp) hs fun c₀ cs hm => ?_
  refine q_seq (q_regionL [0, 1] rfl ?_)
  refine q_rec_s (v := .iface 94 (.agg #[I64 c])) (cs' := { c₀ with mode := .panicking (lrec c) } :: cs) rfl rfl rfl (by simp [recoverD, hm, lgone, lrec]) ?_
  refine q_call (xs := [_, _]) rfl rfl rfl rfl rfl rfl rfl (by kernel_rfl) (fun w hs => caught_s eb c c0 _ w _ _ hs) ?_
  rintro e w' ⟨rfl, hs'⟩
  refine ⟨_, rfl, Holds.atw ?_ hs'⟩
  clear hs'
  refine q_nil (q_then (q_plain ?_))
  refine c_cond_t rfl ?_
  refine ww ?_
  refine c_cons (s_val (v_build (ps := []) #[I64 0, I64 0, I64 0, I64 0, I64 0, I64 0] rfl (by kernel_rfl)) rfl rfl rfl ?_)
  refine c_cons (s_storeA (vs := [I64 0, I64 0, I64 0, I64 0, I64 0, I64 0]) rfl rfl rfl (.tail .head) (by kernel_rfl) (by simp [Value.oneCell']) rfl ?_)
  refine c_cons (s_store1 rfl rfl rfl (.tail (.tail .head)) (by kernel_rfl) rfl (by simp) ?_)
  change Holds _ _ _ _ _ (ByO rb (.slice none 0 0) :: HdO hb hd0 :: ErO eb c :: F) _
  refine ww ?_
  exact q_end (u' := .panicking (lrec c)) rfl rfl (fun w hs => ⟨⟨_, rfl⟩, rfl, hs.sb⟩)

theorem readF_c (vb : Value) (b : List UInt8) (hb : b.length ≤ 100000) (w0 w : World) (G : Im) (F : Hp) (hv : SV G [] vb b.length (b.map B8)) (hs : Sat w0 w G F) :
    Calls Try.prog 12 #[vb] w fun e w' => ∃ G' u, e = .returned (.tuple #[(readH b).V, u, I64 (readE b)]) ∧ Im.le G G' ∧ SV G' [] u (readB b).length ((readB b).map B8) ∧ Sat w0 w' G' F := by
  refine f_enterD (vs := [_]) Try.func12 rfl Try.ntmps12 (by simp) hs ?_
  refine ww ?_
  refine c_cons (s_allocA [I64 0, I64 0, I64 0, I64 0, I64 0, I64 0] (by kernel_rfl) rfl rfl fun b1 => ?_)
  refine c_cons (s_alloc (.slice none 0 0) (by kernel_rfl) rfl rfl fun b2 => ?_)
  refine c_cons (s_alloc (I64 0) (by kernel_rfl) rfl rfl fun b3 => ?_)
  change Holds _ _ _ _ _ (ErO b3 0 :: ByO b2 (.slice none 0 0) :: HdO b1 hd0 :: F) _
  refine ww ?_
  refine c_cons (s_defer rfl rfl rfl rfl ?_)
  refine ww ?_
  refine c_cons (s_call (xs := [_]) rfl rfl rfl rfl rfl rfl (by kernel_rfl) (fun w hs => head_c _ b hb _ w _ _ hv hs) ?_)
  rintro e w' (⟨hre, G1, u, rfl, hG1, hu, hs'⟩ | ⟨hre, G1, rfl, hG1, hs'⟩)
  · refine a_ret ?_ hs'; clear hs'
    have eH : readH b = hdOf b := by unfold readH; rw [if_pos hre]
    have eB : readB b = b.drop 12 := by unfold readB; rw [if_pos hre]
    rw [eH, eB, hre]
    generalize hdOf b = h
    refine ww ?_
    refine c_cons (s_storeA (vs := [I64 h.c, I64 h.l, I64 h.n, I64 h.i, I64 h.s, I64 h.z]) rfl rfl rfl (.tail (.tail .head)) (by kernel_rfl) (by simp [Value.oneCell']) rfl ?_)
    refine c_cons (s_store1 rfl rfl rfl (.tail (.tail .head)) (by kernel_rfl) hu.one (by simp) ?_)
    change Holds _ _ _ _ _ (ByO b2 u :: HdO b1 h :: ErO b3 0 :: F) _
    refine ww ?_
    refine c_np ?_
    refine r_startS [ByO b2 u, HdO b1 h] [] (by kernel_rfl) (fun w h => h.sb) ?_
    refine r_tk 0 rfl rfl (v_loadAgg (vs := [I64 h.c, I64 h.l, I64 h.n, I64 h.i, I64 h.s, I64 h.z]) rfl (by kernel_rfl) (by kernel_rfl) rfl (fun j u hj => (Cel.tail (Cel.all hj)))) (fun _ h => (h.sb)) ?_
    refine r_tk 1 rfl rfl (v_load rfl (Cel.head rfl) (by kernel_rfl)) (fun _ h => (h.sb)) ?_
    refine r_one 2 (by kernel_rfl) rfl ?_
    refine s_storeA (vs := [I64 h.c, I64 h.l, I64 h.n, I64 h.i, I64 h.s, I64 h.z]) rfl rfl rfl (.tail .head) (by kernel_rfl) (by simp [Value.oneCell']) rfl ?_
    change Holds _ _ _ _ _ (HdO b1 h :: _) _
    refine r_next (fun w h => (h.sb)) ?_
    refine r_one 3 (by kernel_rfl) rfl ?_
    refine s_store1 rfl rfl rfl (.tail .head) (by kernel_rfl) hu.one (by simp) ?_
    change Holds _ _ _ _ _ (ByO b2 u :: HdO b1 h :: ErO b3 0 :: F) _
    refine r_next (fun w h => (h.sb)) ?_
    refine r_one 4 (by kernel_rfl) rfl ?_
    refine s_store1 rfl rfl rfl (.tail (.tail .head)) (by kernel_rfl) rfl (by simp) ?_
    change Holds _ _ _ _ _ (ErO b3 0 :: ByO b2 u :: HdO b1 h :: F) _
    refine r_next (fun w h => (h.sb)) ?_
    refine r_done (by kernel_rfl) ?_
    refine np_n ?_
    refine ww ?_
    exact d_ret1 (by kernel_rfl) (fun w hs => catchR_n b3 b1 b2 _ w _ _ hs) (fun a e x w' ht ⟨h1, h2, h3⟩ => ⟨h1, h2, _, res_c3 (vs := [I64 h.c, I64 h.l, I64 h.n, I64 h.i, I64 h.s, I64 h.z]) ht rfl rfl rfl rfl (by kernel_rfl) (by kernel_rfl) rfl (by kernel_rfl) (by kernel_rfl) h3 (fun j u hj => Cel.tail (Cel.tail (Cel.all hj))) (Cel.tail (Cel.head rfl)) (Cel.head rfl), G1, u, rfl, hG1, hu, h3.sb⟩)
  · refine a_panic ?_ hs'; clear hs'
    have eH : readH b = hd0 := by unfold readH; rw [if_neg hre]
    have eB : readB b = [] := by unfold readB; rw [if_neg hre]
    rw [eH, eB]
    generalize readE b = c
    repeat (first | refine x_then_panic ?_ | refine x_block_panic ?_)
    refine c_sub (ErO b3 0 :: HdO b1 hd0 :: ByO b2 (.slice none 0 0) :: F) sbx ?_
    exact d_pan1 (by kernel_rfl) (fun w hs => catchR_s b3 b1 b2 c 0 hd0 _ _ w _ _ hs) (fun a e x w' ht ⟨h1, h2, h3⟩ => ⟨h1, h2, _, res_c3 (vs := [I64 0, I64 0, I64 0, I64 0, I64 0, I64 0]) ht rfl rfl rfl rfl (by kernel_rfl) (by kernel_rfl) rfl (by kernel_rfl) (by kernel_rfl) h3 (fun j u hj => Cel.tail (Cel.all hj)) (Cel.tail (Cel.tail (Cel.head rfl))) (Cel.head rfl), G1, _, rfl, hG1, SV.nil _ _, h3.sb⟩)
end
end Go.Proofs.Ytldkldmjcacopaa
