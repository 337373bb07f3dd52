/- The reference's walk of chapter 16: Decode. The reference's walk of chapter 16: DecodeReply. The frame of a law: from 'the call returns true and leaves what was there as it was' to the row's own post. pinstriperef1.Same. -/
import Derived.Test.YtobhlbhklblncaaK6
import Derived.Test.YtobhlbhklblncaaK4
import Derived.Test.YtobhlbhklblncaaK7
import Derived.Test.YtobhlbhklblncaaProg
import Derived.WalkKit
import Derived.ProofKit
import Derived.OpenShut
import Derived.Test.YtobhlbhklblncaaK1
namespace Go.Proofs.Ytobhlbhklblncaa
section
open Go
set_option linter.unusedVariables false
set_option linter.unusedSimpArgs false
set_option maxHeartbeats 1600000
set_option maxRecDepth 4000
abbrev RrO (b : Nat) (q : Nq) (vs vd : Value) : Nat × Obj := (b, Cs (q.cells vs vd) 27)
abbrev SrO (G : Im) (v : Value) (l : List Sz) (B : Hp) : Prop := ROwn 4 SzR 85 G v l B
abbrev SqO (b : Nat) (x : Sz) : Nat × Obj := (b, Cs x.cells 85)
theorem SrO.snoc {G : Im} {v : Value} {l : List Sz} {B : Hp} {L : List Value} {x : Sz} (hR : Recs 4 (SzR G) L l) (ho : Own v (l.length + 1) (L ++ x.cells) 85 4 B) : SrO G v (l ++ [x]) B :=
  ⟨L ++ x.cells, by rw [List.length_append]; exact ho, hR.append (Recs.one rfl rfl)⟩
/-- What went wrong first is kept: a count behind it says so. -/
theorem dqC_keep {β : Type} {z : β} {k : Int → List UInt8 → β × Int} {xs : List UInt8} {bad i : Int} (h : bad ≠ 0) : dqC z k (eNum xs bad i) = (z, bad) := by
  rw [eNum_keep h]; exact dqC_bad h
theorem dqM_keep {t : Tq} (h : t.2.2 ≠ 0) : dqM (midT t) = (zNq, t.2.2) := by
  have e := midT_keep h
  have h' : (midT t).2.2 ≠ 0 := by rw [e]; exact h
  have := dqC_keep (z := zNq) (k := dqR zNq getSz (dqS (midT t).1)) (xs := (midT t).2.1) (i := 2) h'
  rw [e] at this
  unfold dqM
  rw [e]; exact this
attribute [local irreducible] Code.wp wpList stepK Holds Val wpR Eff Eff0 Code.wpIn wpListIn stepI Exit.then Exit.inBlock bodyPost bodyPostM

theorem rngetStr_c (ep : Nat) (v0 : Value) (bad : Int) (xs : List UInt8) (w0 w : World) (G : Im) (F : Hp) (hv0 : EB G v0 xs) (hs : Sat w0 w G (EyR ep v0 bad :: F)) :
    Calls Try.prog 54 #[Pt ep 0] w fun e w' => ∃ v', e = .returned (.agg #[I64 (gStr xs bad).1.c, I64 (gStr xs bad).1.l, I64 (gStr xs bad).1.n]) ∧ EB G v' (gStr xs bad).2.1 ∧ Sat w0 w' G (EyR ep v' (gStr xs bad).2.2 :: F) := by
  unfold gStr
  refine f_enter (vs := [_]) Try.func54 rfl Try.ntmps54 (by simp) hs ?_
  refine ww ?_
  refine c_cons (s_allocA [I64 0, I64 0, I64 0] (by kernel_rfl) rfl rfl fun b1 => ?_)
  refine ww ?_
  refine c_cons (s_val (v_build (ps := []) #[I64 0, I64 0, I64 0] rfl (by kernel_rfl)) rfl rfl rfl ?_)
  refine c_cons (s_allocA [I64 0, I64 0, I64 0] (by kernel_rfl) rfl rfl fun b2 => ?_)
  refine c_cons (s_storeA (vs := [I64 0, I64 0, I64 0]) rfl rfl rfl .head (by kernel_rfl) (by simp [Value.oneCell']) rfl ?_)
  change Holds _ _ _ _ _ (StO b2 zSz :: StO b1 zSz :: EyR ep v0 bad :: F) _
  obtain ⟨t0, ht0⟩ : ∃ x, x = (zSz, xs, bad) := ⟨_, rfl⟩
  change EB G v0 (zSz, xs, bad).2.1 at hv0
  change Holds _ _ _ _ _ (StO b2 (zSz, xs, bad).1 :: StO b1 zSz :: EyR ep v0 (zSz, xs, bad).2.2 :: F) _
  rw [← ht0] at hv0 ⊢
  refine c_sub (EyR ep v0 t0.2.2 :: StO b2 t0.1 :: StO b1 zSz :: F) sbx ?_
  refine ww ?_
  refine c_cons (s_call (xs := [_, _]) rfl rfl rfl rfl rfl rfl (by kernel_rfl) (fun w hs => renum_c ep _ t0.2.2 t0.2.1 1 _ w _ _ hv0 hs) ?_)
  rintro e w' ⟨v1, rfl, hv1, hs'⟩; refine a_ret ?_ hs'; clear hs'
  refine c_cons (s_val (v_field 0 rfl (by kernel_rfl)) rfl rfl rfl ?_)
  refine c_cons (s_store1 rfl rfl rfl (.tail .head) (by kernel_rfl) rfl (by simp) ?_)
  obtain ⟨t1, ht1⟩ : ∃ x, x = stN 1 (fun (q : Sz) x => { q with c := x }) t0 := ⟨_, rfl⟩
  change EB G v1 (stN 1 (fun (q : Sz) x => { q with c := x }) t0).2.1 at hv1
  change Holds _ _ _ _ _ (StO b2 (stN 1 (fun (q : Sz) x => { q with c := x }) t0).1  :: EyR ep v1 (stN 1 (fun (q : Sz) x => { q with c := x }) t0).2.2 :: StO b1 zSz :: F) _
  rw [← ht1] at hv1 ⊢
  refine c_sub (EyR ep v1 t1.2.2 :: StO b2 t1.1  :: StO b1 zSz :: F) sbx ?_
  refine ww ?_
  refine c_cons (s_call (xs := [_, _]) rfl rfl rfl rfl rfl rfl (by kernel_rfl) (fun w hs => renum_c ep _ t1.2.2 t1.2.1 3 _ w _ _ hv1 hs) ?_)
  rintro e w' ⟨v2, rfl, hv2, hs'⟩; refine a_ret ?_ hs'; clear hs'
  refine c_cons (s_val (v_field 1 rfl (by kernel_rfl)) rfl rfl rfl ?_)
  refine c_cons (s_store1 rfl rfl rfl (.tail .head) (by kernel_rfl) rfl (by simp) ?_)
  obtain ⟨t2, ht2⟩ : ∃ x, x = stN 3 (fun (q : Sz) x => { q with l := x }) t1 := ⟨_, rfl⟩
  change EB G v2 (stN 3 (fun (q : Sz) x => { q with l := x }) t1).2.1 at hv2
  change Holds _ _ _ _ _ (StO b2 (stN 3 (fun (q : Sz) x => { q with l := x }) t1).1  :: EyR ep v2 (stN 3 (fun (q : Sz) x => { q with l := x }) t1).2.2 :: StO b1 zSz :: F) _
  rw [← ht2] at hv2 ⊢
  refine c_sub (EyR ep v2 t2.2.2 :: StO b2 t2.1  :: StO b1 zSz :: F) sbx ?_
  refine ww ?_
  refine c_cons (s_call (xs := [_, _]) rfl rfl rfl rfl rfl rfl (by kernel_rfl) (fun w hs => renum_c ep _ t2.2.2 t2.2.1 4 _ w _ _ hv2 hs) ?_)
  rintro e w' ⟨v3, rfl, hv3, hs'⟩; refine a_ret ?_ hs'; clear hs'
  refine c_cons (s_val (v_field 2 rfl (by kernel_rfl)) rfl rfl rfl ?_)
  refine c_cons (s_store1 rfl rfl rfl (.tail .head) (by kernel_rfl) rfl (by simp) ?_)
  obtain ⟨t3, ht3⟩ : ∃ x, x = stN 4 (fun (q : Sz) x => { q with n := x }) t2 := ⟨_, rfl⟩
  change EB G v3 (stN 4 (fun (q : Sz) x => { q with n := x }) t2).2.1 at hv3
  change Holds _ _ _ _ _ (StO b2 (stN 4 (fun (q : Sz) x => { q with n := x }) t2).1  :: EyR ep v3 (stN 4 (fun (q : Sz) x => { q with n := x }) t2).2.2 :: StO b1 zSz :: F) _
  rw [← ht3] at hv3 ⊢
  refine c_sub (EyR ep v3 t3.2.2 :: StO b2 t3.1  :: StO b1 zSz :: F) sbx ?_
  refine ww ?_
  refine c_cons (s_val (v_loadAgg (vs := [I64 t3.1.c, I64 t3.1.l, I64 t3.1.n]) rfl (by kernel_rfl) (by kernel_rfl) rfl (fun j u hj => (Cel.tail (Cel.all hj)))) rfl rfl rfl ?_)
  refine c_cons (s_storeA (vs := [I64 t3.1.c, I64 t3.1.l, I64 t3.1.n]) rfl rfl rfl (.tail (.tail .head)) (by kernel_rfl) (by simp [Value.oneCell']) rfl ?_)
  refine ww ?_
  exact f_retA (vs := [I64 t3.1.c, I64 t3.1.l, I64 t3.1.n]) rfl rfl (by kernel_rfl) (by kernel_rfl) rfl (fun j u hj => (Cel.all hj)) (fun w hs => ⟨v3, rfl, hv3, hs.sb⟩)


theorem rndec_c (vb : Value) (xs : List UInt8) (hxl : xs.length ≤ 1000000) (w0 w : World) (G : Im) (F : Hp) (hvb : EB G vb xs) (hs : Sat w0 w G F) :
    Calls Try.prog 12 #[vb] w fun e w' => ∃ G' vs vd, e = .returned (.tuple #[.agg ((decQ xs).1.cells vs vd).toArray, I64 (decQ xs).2]) ∧ Im.le G G' ∧ RecV 4 SzR G' vs (decQ xs).1.ss ∧ RecV 14 DlR G' vd (decQ xs).1.ds ∧ Sat w0 w' G' F := by
  refine f_enter (vs := [_]) Try.func12 rfl Try.ntmps12 (by simp) hs ?_
  refine ww ?_
  refine c_cons (s_allocA (zNq.cells (.slice none 0 0) (.slice none 0 0)) (by kernel_rfl) rfl rfl fun b2 => ?_)
  change Holds _ _ _ _ _ (RrO b2 zNq (.slice none 0 0) (.slice none 0 0) :: F) _
  obtain ⟨adb, cpb, hvbe⟩ := hvb.form
  subst hvbe
  refine ww ?_
  refine c_cons (s_val (v_build (ps := [_]) #[.slice adb xs.length cpb, I64 0] rfl (by kernel_rfl)) rfl rfl rfl ?_)
  refine c_cons (s_boxA [_, _] rfl rfl rfl fun ep => ?_)
  change Holds _ _ _ _ _ (EyR ep (.slice adb xs.length cpb) 0 :: RrO b2 zNq (.slice none 0 0) (.slice none 0 0) :: F) _
  refine ww ?_
  refine c_cons (s_val (v_build (ps := []) (zNq.cells (.slice none 0 0) (.slice none 0 0)).toArray rfl (by kernel_rfl)) rfl rfl rfl ?_)
  refine c_cons (s_allocA (zNq.cells (.slice none 0 0) (.slice none 0 0)) (by kernel_rfl) rfl rfl fun b5 => ?_)
  refine c_cons (s_storeA (vs := zNq.cells (.slice none 0 0) (.slice none 0 0)) rfl rfl rfl .head (by kernel_rfl) (by simp [Value.oneCell']) rfl ?_)
  change Holds _ _ _ _ _ (RrO b5 zNq (.slice none 0 0) (.slice none 0 0) :: EyR ep (.slice adb xs.length cpb) 0 :: RrO b2 zNq (.slice none 0 0) (.slice none 0 0) :: F) _
  obtain ⟨v0, hv0e⟩ : ∃ v, v = Value.slice adb xs.length cpb := ⟨_, rfl⟩
  rw [← hv0e] at hvb ⊢
  obtain ⟨t0, ht0⟩ : ∃ x, x = (zNq, xs, (0 : Int)) := ⟨_, rfl⟩
  have hv0 : EB G v0 (zNq, xs, (0 : Int)).2.1 := hvb
  change Holds _ _ _ _ _ (RrO b5 (zNq, xs, (0 : Int)).1 (.slice none 0 0) (.slice none 0 0) :: EyR ep v0 (zNq, xs, (0 : Int)).2.2 :: RrO b2 zNq (.slice none 0 0) (.slice none 0 0) :: F) _
  rw [← ht0] at hv0 ⊢
  refine c_sub (EyR ep v0 t0.2.2 :: RrO b5 t0.1 (.slice none 0 0) (.slice none 0 0) :: RrO b2 zNq (.slice none 0 0) (.slice none 0 0) :: F) sbx ?_
  refine ww ?_
  refine c_cons (s_call (xs := [_, _]) rfl rfl rfl rfl rfl rfl (by kernel_rfl) (fun w hs => renum_c ep _ t0.2.2 t0.2.1 1 _ w _ _ hv0 hs) ?_)
  rintro e w' ⟨v1, rfl, hv1, hs'⟩; refine a_ret ?_ hs'; clear hs'
  refine c_cons (s_val (v_field 0 rfl (by kernel_rfl)) rfl rfl rfl ?_)
  refine c_cons (s_val (v_field 0 rfl (by kernel_rfl)) rfl rfl rfl ?_)
  refine c_cons (s_store1 rfl rfl rfl (.tail .head) (by kernel_rfl) rfl (by simp) ?_)
  obtain ⟨t1, ht1⟩ : ∃ x, x = stN 1 fC t0 := ⟨_, rfl⟩
  change EB G v1 (stN 1 fC t0).2.1 at hv1
  change Holds _ _ _ _ _ (RrO b5 (stN 1 fC t0).1 (.slice none 0 0) (.slice none 0 0) :: EyR ep v1 (stN 1 fC t0).2.2 :: RrO b2 zNq (.slice none 0 0) (.slice none 0 0) :: F) _
  rw [← ht1] at hv1 ⊢
  refine c_sub (EyR ep v1 t1.2.2 :: RrO b5 t1.1 (.slice none 0 0) (.slice none 0 0) :: RrO b2 zNq (.slice none 0 0) (.slice none 0 0) :: F) sbx ?_
  refine ww ?_
  refine c_cons (s_call (xs := [_, _]) rfl rfl rfl rfl rfl rfl (by kernel_rfl) (fun w hs => renum_c ep _ t1.2.2 t1.2.1 3 _ w _ _ hv1 hs) ?_)
  rintro e w' ⟨v2, rfl, hv2, hs'⟩; refine a_ret ?_ hs'; clear hs'
  refine c_cons (s_val (v_field 0 rfl (by kernel_rfl)) rfl rfl rfl ?_)
  refine c_cons (s_val (v_field 1 rfl (by kernel_rfl)) rfl rfl rfl ?_)
  refine c_cons (s_store1 rfl rfl rfl (.tail .head) (by kernel_rfl) rfl (by simp) ?_)
  obtain ⟨t2, ht2⟩ : ∃ x, x = stN 3 fL t1 := ⟨_, rfl⟩
  change EB G v2 (stN 3 fL t1).2.1 at hv2
  change Holds _ _ _ _ _ (RrO b5 (stN 3 fL t1).1 (.slice none 0 0) (.slice none 0 0) :: EyR ep v2 (stN 3 fL t1).2.2 :: RrO b2 zNq (.slice none 0 0) (.slice none 0 0) :: F) _
  rw [← ht2] at hv2 ⊢
  refine c_sub (EyR ep v2 t2.2.2 :: RrO b5 t2.1 (.slice none 0 0) (.slice none 0 0) :: RrO b2 zNq (.slice none 0 0) (.slice none 0 0) :: F) sbx ?_
  refine ww ?_
  refine c_cons (s_call (xs := [_, _]) rfl rfl rfl rfl rfl rfl (by kernel_rfl) (fun w hs => renum_c ep _ t2.2.2 t2.2.1 4 _ w _ _ hv2 hs) ?_)
  rintro e w' ⟨v3, rfl, hv3, hs'⟩; refine a_ret ?_ hs'; clear hs'
  refine c_cons (s_val (v_field 0 rfl (by kernel_rfl)) rfl rfl rfl ?_)
  refine c_cons (s_val (v_field 2 rfl (by kernel_rfl)) rfl rfl rfl ?_)
  refine c_cons (s_store1 rfl rfl rfl (.tail .head) (by kernel_rfl) rfl (by simp) ?_)
  obtain ⟨t3, ht3⟩ : ∃ x, x = stN 4 fS t2 := ⟨_, rfl⟩
  change EB G v3 (stN 4 fS t2).2.1 at hv3
  change Holds _ _ _ _ _ (RrO b5 (stN 4 fS t2).1 (.slice none 0 0) (.slice none 0 0) :: EyR ep v3 (stN 4 fS t2).2.2 :: RrO b2 zNq (.slice none 0 0) (.slice none 0 0) :: F) _
  rw [← ht3] at hv3 ⊢
  refine c_sub (EyR ep v3 t3.2.2 :: RrO b5 t3.1 (.slice none 0 0) (.slice none 0 0) :: RrO b2 zNq (.slice none 0 0) (.slice none 0 0) :: F) sbx ?_
  refine ww ?_
  refine c_cons (s_call (xs := [_, _]) rfl rfl rfl rfl rfl rfl (by kernel_rfl) (fun w hs => renum_c ep _ t3.2.2 t3.2.1 1 _ w _ _ hv3 hs) ?_)
  rintro e w' ⟨v4, rfl, hv4, hs'⟩; refine a_ret ?_ hs'; clear hs'
  refine c_cons (s_val (v_field 3 rfl (by kernel_rfl)) rfl rfl rfl ?_)
  refine c_cons (s_store1 rfl rfl rfl (.tail .head) (by kernel_rfl) rfl (by simp) ?_)
  obtain ⟨t4, ht4⟩ : ∃ x, x = stN 1 fD t3 := ⟨_, rfl⟩
  change EB G v4 (stN 1 fD t3).2.1 at hv4
  change Holds _ _ _ _ _ (RrO b5 (stN 1 fD t3).1 (.slice none 0 0) (.slice none 0 0) :: EyR ep v4 (stN 1 fD t3).2.2 :: RrO b2 zNq (.slice none 0 0) (.slice none 0 0) :: F) _
  rw [← ht4] at hv4 ⊢
  refine c_sub (EyR ep v4 t4.2.2 :: RrO b5 t4.1 (.slice none 0 0) (.slice none 0 0) :: RrO b2 zNq (.slice none 0 0) (.slice none 0 0) :: F) sbx ?_
  refine wn ?_
  have hhd : hdT xs = t4 := by rw [ht4, ht3, ht2, ht1, ht0]; rfl
  refine c_cut (α := Int) (fun x => [(2, Pt b2 0), (4, Pt ep 0), (5, Pt b5 0)]) (fun x => G) (fun x => EyR ep v4 x :: RrO b5 t4.1 (.slice none 0 0) (.slice none 0 0) :: RrO b2 zNq (.slice none 0 0) (.slice none 0 0) :: F) (fun x => x = if t4.2.2 = 0 ∧ ¬ (1 ≤ t4.1.d ∧ t4.1.d ≤ 11) then 4 else t4.2.2) ?_ ?_
  · refine ww ?_
    refine c_cons (s_val (v_field 3 rfl (by kernel_rfl)) rfl rfl rfl ?_)
    refine c_cons (s_val (v_load rfl (Cel.tail (Cel.head rfl)) (by kernel_rfl)) rfl rfl rfl ?_)
    refine ww ?_
    refine c_part_d 34 _ rfl (fun c1 => ?_) (fun c1 => ?_)
    · refine ww ?_
      refine c_cons (s_call (xs := [_, _]) rfl rfl rfl rfl rfl rfl (by kernel_rfl) (fun w hs => rform_c ep v4 t4.2.2 _ _ w _ _ hs) ?_)
      rintro e w' ⟨rfl, hs'⟩; refine a_ret ?_ hs'; clear hs'
      refine ww ?_
      exact n_mid (if t4.2.2 = 0 ∧ true = true then 4 else t4.2.2) (by
        by_cases h : t4.2.2 = 0
        · rw [if_pos ⟨h, rfl⟩, if_pos ⟨h, by omega⟩]
        · rw [if_neg (fun k => h k.1), if_neg (fun k => h k.1)]) ⟨rfl, rfl, rfl, trivial⟩ rfl sbx
    · refine ww ?_
      refine c_cons (s_val (v_field 3 rfl (by kernel_rfl)) rfl rfl rfl ?_)
      refine c_cons (s_val (v_load rfl (Cel.tail (Cel.head rfl)) (by kernel_rfl)) rfl rfl rfl ?_)
      refine ww ?_
      refine c_cons (s_call (xs := [_, _]) rfl rfl rfl rfl rfl rfl (by kernel_rfl) (fun w hs => rform_c ep v4 t4.2.2 _ _ w _ _ hs) ?_)
      rintro e w' ⟨rfl, hs'⟩; refine a_ret ?_ hs'; clear hs'
      refine ww ?_
      exact n_mid (if t4.2.2 = 0 ∧ decide (11 < t4.1.d) = true then 4 else t4.2.2) (by
        by_cases h : t4.2.2 = 0
        · by_cases h2 : 11 < t4.1.d
          · rw [if_pos ⟨h, decide_eq_true h2⟩, if_pos ⟨h, by omega⟩]
          · rw [if_neg (fun k => h2 (of_decide_eq_true k.2)), if_neg (fun k => k.2 ⟨by omega, by omega⟩)]
        · rw [if_neg (fun k => h k.1), if_neg (fun k => h k.1)]) ⟨rfl, rfl, rfl, trivial⟩ rfl sbx
  rintro bd hbd
  try dsimp only at hbd ⊢
  obtain ⟨t20, ht20⟩ : ∃ x, x = (t4.1, t4.2.1, bd) := ⟨_, rfl⟩
  have hdm : decQ xs = dqM (midT t20) := by
    by_cases h : t4.2.2 = 0
    · by_cases hk : 1 ≤ t4.1.d ∧ t4.1.d ≤ 11
      · rw [if_neg (fun k => k.2 hk)] at hbd
        have e : t20 = t4 := by rw [ht20, hbd]
        rw [e]
        rw [← hhd] at h hk ⊢
        exact decQ_ok h hk
      · rw [if_pos ⟨h, hk⟩] at hbd
        have e : t20.2.2 = 4 := by rw [ht20]; exact hbd
        rw [dqM_keep (by rw [e]; decide), e]
        rw [← hhd] at h hk
        exact decQ_kind h hk
    · rw [if_neg (fun k => h k.1)] at hbd
      have e : t20.2.2 = t4.2.2 := by rw [ht20]; exact hbd
      rw [dqM_keep (by rw [e]; exact h), e]
      rw [← hhd] at h ⊢
      exact decQ_bad h
  have hv20 : EB G v4 (t4.1, t4.2.1, bd).2.1 := hv4
  obtain ⟨v20, hv20e⟩ : ∃ v, v = v4 := ⟨_, rfl⟩
  change Holds _ _ _ _ _ (EyR ep v4 (t4.1, t4.2.1, bd).2.2 :: RrO b5 (t4.1, t4.2.1, bd).1 (.slice none 0 0) (.slice none 0 0) :: RrO b2 zNq (.slice none 0 0) (.slice none 0 0) :: F) _
  rw [← ht20, ← hv20e] at hv20
  rw [← ht20, ← hv20e]
  clear hbd ht20 hv20e hhd ht4 ht3 ht2 ht1 ht0
  refine ww ?_
  refine c_cons (s_call (xs := [_, _]) rfl rfl rfl rfl rfl rfl (by kernel_rfl) (fun w hs => reraw_c ep _ t20.2.2 t20.2.1 65535 _ w _ _ hv20 hs) ?_)
  rintro e w' ⟨G21, u21, v21, rfl, hG21, hu21, hv21, hs'⟩; refine a_ret ?_ hs'; clear hs'
  refine c_cons (s_val (v_bstr 5 rfl (hu21.mono (Im.le_refl _) (by simp)) (by kernel_rfl) (by kernel_rfl)) rfl rfl rfl ?_)
  refine c_cons (s_val (v_field 4 rfl (by kernel_rfl)) rfl rfl rfl ?_)
  refine c_cons (s_store1 rfl rfl rfl (.tail .head) (by kernel_rfl) rfl (by simp) ?_)
  obtain ⟨t21, ht21⟩ : ∃ x, x = stR fP t20 := ⟨_, rfl⟩
  change EB G21 v21 (stR fP t20).2.1 at hv21
  change Holds _ _ _ _ _ (RrO b5 (stR fP t20).1 (.slice none 0 0) (.slice none 0 0) :: EyR ep v21 (stR fP t20).2.2 :: RrO b2 zNq (.slice none 0 0) (.slice none 0 0) :: F) _
  rw [← ht21] at hv21 ⊢
  refine c_sub (EyR ep v21 t21.2.2 :: RrO b5 t21.1 (.slice none 0 0) (.slice none 0 0) :: RrO b2 zNq (.slice none 0 0) (.slice none 0 0) :: F) sbx ?_
  refine ww ?_
  refine c_cons (s_call (xs := [_, _]) rfl rfl rfl rfl rfl rfl (by kernel_rfl) (fun w hs => reraw_c ep _ t21.2.2 t21.2.1 65535 _ w _ _ hv21 hs) ?_)
  rintro e w' ⟨G22, u22, v22, rfl, hG22, hu22, hv22, hs'⟩; refine a_ret ?_ hs'; clear hs'
  refine c_cons (s_val (v_bstr 5 rfl (hu22.mono (Im.le_refl _) (by simp)) (by kernel_rfl) (by kernel_rfl)) rfl rfl rfl ?_)
  refine c_cons (s_val (v_field 5 rfl (by kernel_rfl)) rfl rfl rfl ?_)
  refine c_cons (s_store1 rfl rfl rfl (.tail .head) (by kernel_rfl) rfl (by simp) ?_)
  obtain ⟨t22, ht22⟩ : ∃ x, x = stR fT t21 := ⟨_, rfl⟩
  change EB G22 v22 (stR fT t21).2.1 at hv22
  change Holds _ _ _ _ _ (RrO b5 (stR fT t21).1 (.slice none 0 0) (.slice none 0 0) :: EyR ep v22 (stR fT t21).2.2 :: RrO b2 zNq (.slice none 0 0) (.slice none 0 0) :: F) _
  rw [← ht22] at hv22 ⊢
  refine c_sub (EyR ep v22 t22.2.2 :: RrO b5 t22.1 (.slice none 0 0) (.slice none 0 0) :: RrO b2 zNq (.slice none 0 0) (.slice none 0 0) :: F) sbx ?_
  refine ww ?_
  refine c_cons (s_call (xs := [_]) rfl rfl rfl rfl rfl rfl (by kernel_rfl) (fun w hs => rebool_c ep _ t22.2.2 t22.2.1 _ w _ _ hv22 hs) ?_)
  rintro e w' ⟨v23, rfl, hv23, hs'⟩; refine a_ret ?_ hs'; clear hs'
  refine c_cons (s_val (v_field 6 rfl (by kernel_rfl)) rfl rfl rfl ?_)
  refine c_cons (s_store1 rfl rfl rfl (.tail .head) (by kernel_rfl) rfl (by simp) ?_)
  obtain ⟨t23, ht23⟩ : ∃ x, x = stB fA t22 := ⟨_, rfl⟩
  change EB G22 v23 (stB fA t22).2.1 at hv23
  change Holds _ _ _ _ _ (RrO b5 (stB fA t22).1 (.slice none 0 0) (.slice none 0 0) :: EyR ep v23 (stB fA t22).2.2 :: RrO b2 zNq (.slice none 0 0) (.slice none 0 0) :: F) _
  rw [← ht23] at hv23 ⊢
  refine c_sub (EyR ep v23 t23.2.2 :: RrO b5 t23.1 (.slice none 0 0) (.slice none 0 0) :: RrO b2 zNq (.slice none 0 0) (.slice none 0 0) :: F) sbx ?_
  refine ww ?_
  refine c_cons (s_call (xs := [_]) rfl rfl rfl rfl rfl rfl (by kernel_rfl) (fun w hs => rebool_c ep _ t23.2.2 t23.2.1 _ w _ _ hv23 hs) ?_)
  rintro e w' ⟨v24, rfl, hv24, hs'⟩; refine a_ret ?_ hs'; clear hs'
  refine c_cons (s_val (v_field 7 rfl (by kernel_rfl)) rfl rfl rfl ?_)
  refine c_cons (s_store1 rfl rfl rfl (.tail .head) (by kernel_rfl) rfl (by simp) ?_)
  obtain ⟨t24, ht24⟩ : ∃ x, x = stB fB t23 := ⟨_, rfl⟩
  change EB G22 v24 (stB fB t23).2.1 at hv24
  change Holds _ _ _ _ _ (RrO b5 (stB fB t23).1 (.slice none 0 0) (.slice none 0 0) :: EyR ep v24 (stB fB t23).2.2 :: RrO b2 zNq (.slice none 0 0) (.slice none 0 0) :: F) _
  rw [← ht24] at hv24 ⊢
  refine c_sub (EyR ep v24 t24.2.2 :: RrO b5 t24.1 (.slice none 0 0) (.slice none 0 0) :: RrO b2 zNq (.slice none 0 0) (.slice none 0 0) :: F) sbx ?_
  refine ww ?_
  refine c_cons (s_call (xs := [_]) rfl rfl rfl rfl rfl rfl (by kernel_rfl) (fun w hs => rebool_c ep _ t24.2.2 t24.2.1 _ w _ _ hv24 hs) ?_)
  rintro e w' ⟨v25, rfl, hv25, hs'⟩; refine a_ret ?_ hs'; clear hs'
  refine c_cons (s_val (v_field 8 rfl (by kernel_rfl)) rfl rfl rfl ?_)
  refine c_cons (s_store1 rfl rfl rfl (.tail .head) (by kernel_rfl) rfl (by simp) ?_)
  obtain ⟨t25, ht25⟩ : ∃ x, x = stB fE t24 := ⟨_, rfl⟩
  change EB G22 v25 (stB fE t24).2.1 at hv25
  change Holds _ _ _ _ _ (RrO b5 (stB fE t24).1 (.slice none 0 0) (.slice none 0 0) :: EyR ep v25 (stB fE t24).2.2 :: RrO b2 zNq (.slice none 0 0) (.slice none 0 0) :: F) _
  rw [← ht25] at hv25 ⊢
  refine c_sub (EyR ep v25 t25.2.2 :: RrO b5 t25.1 (.slice none 0 0) (.slice none 0 0) :: RrO b2 zNq (.slice none 0 0) (.slice none 0 0) :: F) sbx ?_
  refine ww ?_
  refine c_cons (s_call (xs := [_, _]) rfl rfl rfl rfl rfl rfl (by kernel_rfl) (fun w hs => renum_c ep _ t25.2.2 t25.2.1 1 _ w _ _ hv25 hs) ?_)
  rintro e w' ⟨v26, rfl, hv26, hs'⟩; refine a_ret ?_ hs'; clear hs'
  refine c_cons (s_val (v_field 9 rfl (by kernel_rfl)) rfl rfl rfl ?_)
  refine c_cons (s_store1 rfl rfl rfl (.tail .head) (by kernel_rfl) rfl (by simp) ?_)
  obtain ⟨t26, ht26⟩ : ∃ x, x = stN 1 fH t25 := ⟨_, rfl⟩
  change EB G22 v26 (stN 1 fH t25).2.1 at hv26
  change Holds _ _ _ _ _ (RrO b5 (stN 1 fH t25).1 (.slice none 0 0) (.slice none 0 0) :: EyR ep v26 (stN 1 fH t25).2.2 :: RrO b2 zNq (.slice none 0 0) (.slice none 0 0) :: F) _
  rw [← ht26] at hv26 ⊢
  refine c_sub (EyR ep v26 t26.2.2 :: RrO b5 t26.1 (.slice none 0 0) (.slice none 0 0) :: RrO b2 zNq (.slice none 0 0) (.slice none 0 0) :: F) sbx ?_
  refine ww ?_
  refine c_cons (s_call (xs := [_, _]) rfl rfl rfl rfl rfl rfl (by kernel_rfl) (fun w hs => renum_c ep _ t26.2.2 t26.2.1 4 _ w _ _ hv26 hs) ?_)
  rintro e w' ⟨v27, rfl, hv27, hs'⟩; refine a_ret ?_ hs'; clear hs'
  refine c_cons (s_val (v_field 10 rfl (by kernel_rfl)) rfl rfl rfl ?_)
  refine c_cons (s_store1 rfl rfl rfl (.tail .head) (by kernel_rfl) rfl (by simp) ?_)
  obtain ⟨t27, ht27⟩ : ∃ x, x = stN 4 fX t26 := ⟨_, rfl⟩
  change EB G22 v27 (stN 4 fX t26).2.1 at hv27
  change Holds _ _ _ _ _ (RrO b5 (stN 4 fX t26).1 (.slice none 0 0) (.slice none 0 0) :: EyR ep v27 (stN 4 fX t26).2.2 :: RrO b2 zNq (.slice none 0 0) (.slice none 0 0) :: F) _
  rw [← ht27] at hv27 ⊢
  refine c_sub (EyR ep v27 t27.2.2 :: RrO b5 t27.1 (.slice none 0 0) (.slice none 0 0) :: RrO b2 zNq (.slice none 0 0) (.slice none 0 0) :: F) sbx ?_
  refine ww ?_
  refine c_cons (s_call (xs := [_, _]) rfl rfl rfl rfl rfl rfl (by kernel_rfl) (fun w hs => renum_c ep _ t27.2.2 t27.2.1 3 _ w _ _ hv27 hs) ?_)
  rintro e w' ⟨v28, rfl, hv28, hs'⟩; refine a_ret ?_ hs'; clear hs'
  refine c_cons (s_val (v_field 11 rfl (by kernel_rfl)) rfl rfl rfl ?_)
  refine c_cons (s_store1 rfl rfl rfl (.tail .head) (by kernel_rfl) rfl (by simp) ?_)
  obtain ⟨t28, ht28⟩ : ∃ x, x = stN 3 fW t27 := ⟨_, rfl⟩
  change EB G22 v28 (stN 3 fW t27).2.1 at hv28
  change Holds _ _ _ _ _ (RrO b5 (stN 3 fW t27).1 (.slice none 0 0) (.slice none 0 0) :: EyR ep v28 (stN 3 fW t27).2.2 :: RrO b2 zNq (.slice none 0 0) (.slice none 0 0) :: F) _
  rw [← ht28] at hv28 ⊢
  refine c_sub (EyR ep v28 t28.2.2 :: RrO b5 t28.1 (.slice none 0 0) (.slice none 0 0) :: RrO b2 zNq (.slice none 0 0) (.slice none 0 0) :: F) sbx ?_
  refine ww ?_
  have hmid : midT t20 = t28 := by rw [ht28, ht27, ht26, ht25, ht24, ht23, ht22, ht21]; rfl
  rw [hmid] at hdm
  have hq := (show dqM t28 = dqC zNq (dqR zNq getSz (dqS t28.1)) (eNum t28.2.1 t28.2.2 2) from rfl)
  rw [hq] at hdm
  clear hq hmid ht28 ht27 ht26 ht25 ht24 ht23 ht22 ht21
  have hG := hG21.trans hG22
  refine c_cons (s_call (xs := [_, _]) rfl rfl rfl rfl rfl rfl (by kernel_rfl) (fun w hs => renum_c ep _ t28.2.2 t28.2.1 2 _ w _ _ hv28 hs) ?_)
  have hn0 := eNum_pos t28.2.1 t28.2.2 2
  have hn1 := eNum_2 t28.2.1 t28.2.2
  have hnb := @eNum_bad0 t28.2.1 t28.2.2 2
  generalize eNum t28.2.1 t28.2.2 2 = a at hdm hn0 hn1 hnb ⊢
  rintro e w' ⟨va, rfl, hva, hs'⟩; refine a_ret ?_ hs'; clear hs'
  refine wn ?_
  obtain ⟨q0, hq0⟩ : ∃ q, q = t28.1 := ⟨_, rfl⟩
  rw [← hq0] at hdm ⊢
  clear hq0
  refine c_cut (α := Int) (fun x => [(2, Pt b2 0), (4, Pt ep 0), (5, Pt b5 0), (6, I64 a.1)]) (fun x => G22) (fun x => EyR ep va x :: RrO b5 q0 (.slice none 0 0) (.slice none 0 0) :: RrO b2 zNq (.slice none 0 0) (.slice none 0 0) :: F) (fun x => x = if a.2.2 = 0 ∧ 4000 < a.1 then 3 else a.2.2) ?_ ?_
  · refine ww ?_
    refine c_cond_d rfl (fun c2 => ?_) (fun c2 => ?_)
    · refine ww ?_
      refine c_cons (s_call (xs := [_, _]) rfl rfl rfl rfl rfl rfl (by kernel_rfl) (fun w hs => rfall_c ep _ a.2.2 3 _ w _ _ hs) ?_)
      rintro e w' ⟨rfl, hs'⟩; refine a_ret ?_ hs'; clear hs'
      refine ww ?_
      exact n_mid (if a.2.2 = 0 then 3 else a.2.2) (by
        by_cases h : a.2.2 = 0
        · rw [if_pos h, if_pos ⟨h, c2⟩]
        · rw [if_neg h, if_neg (fun k => h k.1)]) ⟨rfl, rfl, rfl, rfl, trivial⟩ rfl sbx
    refine ww ?_
    exact n_mid a.2.2 (if_neg (fun k => c2 k.2)).symm ⟨rfl, rfl, rfl, rfl, trivial⟩ rfl sbx
  rintro bd2 hbd2
  try dsimp only at hbd2 ⊢
  have hst0 : (bd2 = 0 ∧ decQ xs = dqR zNq getSz (dqS q0) a.1 a.2.1) ∨ (bd2 ≠ 0 ∧ decQ xs = (zNq, bd2)) := by
    by_cases h : a.2.2 = 0
    · by_cases h4 : 4000 < a.1
      · rw [if_pos ⟨h, h4⟩] at hbd2
        exact .inr ⟨by rw [hbd2]; decide, by rw [hdm, hbd2]; exact dqC_long h h4⟩
      · rw [if_neg (fun k => h4 k.2)] at hbd2
        exact .inl ⟨by rw [hbd2]; exact h, by rw [hdm]; exact dqC_ok h h4⟩
    · rw [if_neg (fun k => h k.1)] at hbd2
      exact .inr ⟨by rw [hbd2]; exact h, by rw [hdm, hbd2]; exact dqC_bad h⟩
  clear hbd2 hdm
  refine wn ?_
  refine c_cut (α := Im × Int × Value × List UInt8 × Value × List Sz × Hp) (fun x => [(2, Pt b2 0), (4, Pt ep 0), (5, Pt b5 0)]) (fun x => x.1) (fun x => EyR ep x.2.2.1 x.2.1 :: RrO b5 q0 x.2.2.2.2.1 (.slice none 0 0) :: (x.2.2.2.2.2.2 ++ (RrO b2 zNq (.slice none 0 0) (.slice none 0 0) :: F))) (fun x => Im.le G x.1 ∧ EB x.1 x.2.2.1 x.2.2.2.1 ∧ SrO x.1 x.2.2.2.2.1 x.2.2.2.2.2.1 x.2.2.2.2.2.2 ∧
    ((x.2.1 = 0 ∧ decQ xs = dqS q0 x.2.2.2.2.2.1 x.2.2.2.1) ∨ (x.2.1 ≠ 0 ∧ decQ xs = (zNq, x.2.1)))) ?_ ?_
  · -- the stripes
    refine ww ?_
    refine c_loop (α := Nat × Im × Int × Value × List UInt8 × Value × List Sz × Hp) (fun x => [(2, Pt b2 0), (4, Pt ep 0), (5, Pt b5 0), (6, I64 a.1), (7, I64 x.1)]) (fun x => x.2.1) (fun x => EyR ep x.2.2.2.1 x.2.2.1 :: RrO b5 q0 x.2.2.2.2.2.1 (.slice none 0 0) :: (x.2.2.2.2.2.2.2 ++ (RrO b2 zNq (.slice none 0 0) (.slice none 0 0) :: F))) (fun x => Im.le G x.2.1 ∧ EB x.2.1 x.2.2.2.1 x.2.2.2.2.1 ∧ SrO x.2.1 x.2.2.2.2.2.1 x.2.2.2.2.2.2.1 x.2.2.2.2.2.2.2 ∧ (x.1 : Int) ≤ a.1 ∧
      ((x.2.2.1 = 0 ∧ decQ xs = dqR zNq getSz (dqS q0) a.1 a.2.1 ∧ x.2.2.2.2.1 = gAfter getSz x.1 a.2.1 ∧ x.2.2.2.2.2.2.1 = gRedd getSz x.1 a.2.1 ∧ gGood getSz x.1 a.2.1) ∨ (x.2.2.1 ≠ 0 ∧ decQ xs = (zNq, x.2.2.1)))) (fun x => a.1.toNat - x.1) (0, G22, bd2, va, a.2.1, (.slice none 0 0), [], []) ⟨hG, hva, ROwn.zero _ _, hn0, hst0.imp (fun h => ⟨h.1, h.2, rfl, rfl, trivial⟩) id⟩ ?_ ?_
    · exact n_at ⟨rfl, rfl, rfl, rfl, rfl, trivial⟩ sbx
    rintro ⟨i, G3, b, v, left, vl, l, B⟩ ⟨hG3, hvi, ho, hi, hst⟩
    dsimp only at hG3 hvi ho hi hst ⊢
    refine ww ?_
    refine c_part_d 75 _ rfl (fun c3 => ?_) (fun c3 => ?_)
    · refine ww ?_
      refine c_cons (s_val (v_field 1 rfl (by kernel_rfl)) rfl rfl rfl ?_)
      refine c_cons (s_val (v_load rfl (Cel.head rfl) (by kernel_rfl)) rfl rfl rfl ?_)
      refine ww ?_
      refine c_cond_d rfl (fun c4 => ?_) (fun c4 => ?_)
      · -- then
        obtain ⟨_, hd, rfl, rfl, hg⟩ := hst.resolve_right fun h => h.1 c4
        subst c4
        have has := gAfter_snoc getSz i a.2.1
        have hrs := gRedd_snoc getSz i a.2.1
        have hrl := gRedd_len getSz i a.2.1
        have hgs := gGood_snoc getSz i a.2.1 hg
        have hb3 := fun h => hd.trans (dqR_bad (z := zNq) (k := dqS q0) (n := a.1) i hg (by omega) h)
        obtain ⟨L, hoL, hRL⟩ := ho
        refine ww ?_
        refine c_cons (s_call (xs := [_]) rfl rfl rfl rfl rfl rfl (by kernel_rfl) (fun w hs => rngetStr_c ep v 0 (gAfter getSz i a.2.1) _ w _ _ hvi hs) ?_)
        have hgz : getSz (gAfter getSz i a.2.1) = stN 2 (fun (q : Sz) x => { q with z := x }) (gStr (gAfter getSz i a.2.1) 0) := rfl
        have hz0 : (gStr (gAfter getSz i a.2.1) 0).1.z = 0 := rfl
        generalize gStr (gAfter getSz i a.2.1) 0 = s at hgz hz0 ⊢
        rw [hgz] at has hrs hgs hb3
        rintro e w' ⟨v1, rfl, hv1, hs'⟩; refine a_ret ?_ hs'; clear hs'
        refine c_cons (s_val (v_build (ps := [_]) #[I64 s.1.c, I64 s.1.l, I64 s.1.n, I64 0] rfl (by kernel_rfl)) rfl rfl rfl ?_)
        refine c_cons (s_allocA [I64 0, I64 0, I64 0, I64 0] (by kernel_rfl) rfl rfl fun b6 => ?_)
        refine c_cons (s_storeA (vs := [I64 s.1.c, I64 s.1.l, I64 s.1.n, I64 0]) rfl rfl rfl .head (by kernel_rfl) (by simp [Value.oneCell']) rfl ?_)
        refine c_sub (EyR ep v1 s.2.2 :: (b6, Cs [I64 s.1.c, I64 s.1.l, I64 s.1.n, I64 0] 85) :: RrO b5 q0 vl (.slice none 0 0) :: (B ++ (RrO b2 zNq (.slice none 0 0) (.slice none 0 0) :: F))) sbx ?_
        refine ww ?_
        refine c_cons (s_call (xs := [_, _]) rfl rfl rfl rfl rfl rfl (by kernel_rfl) (fun w hs => renum_c ep _ s.2.2 s.2.1 2 _ w _ _ hv1 hs) ?_)
        rintro e w' ⟨v2, rfl, hv2, hs'⟩; refine a_ret ?_ hs'; clear hs'
        refine c_cons (s_val (v_field 3 rfl (by kernel_rfl)) rfl rfl rfl ?_)
        refine c_cons (s_store1 rfl rfl rfl (.tail .head) (by kernel_rfl) rfl (by simp) ?_)
        obtain ⟨x, hx⟩ : ∃ x, x = stN 2 (fun (q : Sz) x => { q with z := x }) s := ⟨_, rfl⟩
        change EB G3 v2 (stN 2 (fun (q : Sz) x => { q with z := x }) s).2.1 at hv2
        change Holds _ _ _ _ _ (SqO b6 (stN 2 (fun (q : Sz) x => { q with z := x }) s).1 :: EyR ep v2 (stN 2 (fun (q : Sz) x => { q with z := x }) s).2.2 :: RrO b5 q0 vl (.slice none 0 0) :: (B ++ (RrO b2 zNq (.slice none 0 0) (.slice none 0 0) :: F))) _
        rw [← hx] at hv2 has hrs hgs hb3 ⊢
        refine ww ?_
        refine c_cons (s_val (v_field 12 rfl (by kernel_rfl)) rfl rfl rfl ?_)
        refine c_cons (s_val (v_load rfl (Cel.tail (Cel.tail (Cel.head rfl))) (by kernel_rfl)) rfl rfl rfl ?_)
        refine c_cons (s_val (v_loadAgg (vs := x.1.cells) rfl (by kernel_rfl) (by kernel_rfl) rfl (fun j u hj => (Cel.all hj))) rfl rfl rfl ?_)
        refine c_cons (s_litN [_] (z := .agg #[I64 0, I64 0, I64 0, I64 0]) (bs := 32) (e := 85) (sz := 4) (by kernel_rfl) rfl rfl rfl rfl (by simp [Value.cells]) (by decide) (by decide) (by decide) fun b7 => ?_)
        refine c_cons (s_append (e := 85) (z := .agg #[I64 0, I64 0, I64 0, I64 0]) (sz := 4) (bs := 32) (by kernel_rfl) rfl rfl rfl rfl hoL (Chunk.tail (Chunk.tail (Chunk.tail (Chunk.tail Chunk.head)))) (news := x.1.cells) (SV.block .head (by simp [maxLen])) rfl (by decide) rfl (by simp [Value.oneCell']) (by first | omega | (simp; omega)) (by first | omega | (simp; omega)) fun u3 B3 hown3 => ?_)
        refine c_sub (EyR ep v2 x.2.2 :: RrO b5 q0 vl (.slice none 0 0) :: (B3 ++ (RrO b2 zNq (.slice none 0 0) (.slice none 0 0) :: F))) sbx ?_
        refine c_cons (s_val (v_field 12 rfl (by kernel_rfl)) rfl rfl rfl ?_)
        refine c_cons (s_store1 rfl rfl rfl (.tail .head) (by kernel_rfl) (own_one hown3) (by simp) ?_)
        change Holds _ _ _ _ _ (RrO b5 q0 u3 (.slice none 0 0) :: EyR ep v2 x.2.2 :: (B3 ++ (RrO b2 zNq (.slice none 0 0) (.slice none 0 0) :: F))) _
        refine ww ?_
        exact n_next (x := (i, G3, (0 : Int), v, gAfter getSz i a.2.1, vl, gRedd getSz i a.2.1, B)) (i + 1, G3, x.2.2, v2, x.2.1, u3, gRedd getSz (i + 1) a.2.1, B3) ⟨hG3, hv2, by dsimp only; rw [hrs]; exact SrO.snoc hRL (by rw [hrl]; rw [hrl] at hown3; exact hown3), by dsimp only; omega, by
          dsimp only
          by_cases hr : x.2.2 = 0
          · exact .inl ⟨hr, hd, has.symm, rfl, hgs hr⟩
          · exact .inr ⟨hr, hb3 hr⟩⟩ (by dsimp only; omega) ⟨rfl, rfl, rfl, rfl, rfl, trivial⟩ rfl sbx
      refine ww ?_
      exact n_mid (G3, b, v, left, vl, l, B) ⟨hG3, hvi, ho, .inr ⟨c4, (hst.resolve_left fun h => c4 h.1).2⟩⟩ ⟨rfl, rfl, rfl, trivial⟩ rfl sbx
    refine ww ?_
    refine c_cond_f rfl ?_
    refine ww ?_
    exact n_mid (G3, b, v, left, vl, l, B) ⟨hG3, hvi, ho, hst.imp (fun ⟨h1, h2, h3, h4, h5⟩ => ⟨h1, by rw [h2, dqR_all i (by omega) h5, h3, h4]⟩) id⟩ ⟨rfl, rfl, rfl, trivial⟩ rfl sbx
  rintro ⟨G3, b, v, left, vl, l, B⟩ ⟨hG3, hvi, ho, hst⟩
  dsimp only at hG3 hvi ho hst ⊢
  obtain ⟨q1, hq1⟩ : ∃ q : Nq, q = { q0 with ss := l } := ⟨_, rfl⟩
  have hqs : q1.ss = l := by rw [hq1]
  have hdm : decQ xs = dqC zNq (dqR zNq getDl (dqE q1)) (eNum left b 2) := by
    rcases hst with ⟨h1, h2⟩ | ⟨h1, h2⟩
    · rw [h2, h1, hq1]; rfl
    · rw [h2, dqC_keep h1]
  change Holds _ _ _ _ _ (EyR ep v b :: RrO b5 { q0 with ss := l } vl (.slice none 0 0) :: (B ++ (RrO b2 zNq (.slice none 0 0) (.slice none 0 0) :: F))) _
  rw [← hq1]
  rw [← hqs] at ho
  clear hst hq1
  refine ww ?_
  refine c_cons (s_call (xs := [_, _]) rfl rfl rfl rfl rfl rfl (by kernel_rfl) (fun w hs => renum_c ep _ b left 2 _ w _ _ hvi hs) ?_)
  have hm0 := eNum_pos left b 2
  have hm1 := eNum_2 left b
  generalize eNum left b 2 = m at hdm hm0 hm1 ⊢
  rintro e w' ⟨vm, rfl, hvm, hs'⟩; refine a_ret ?_ hs'; clear hs'
  refine wn ?_
  refine c_cut (α := Int) (fun x => [(2, Pt b2 0), (4, Pt ep 0), (5, Pt b5 0), (6, I64 m.1)]) (fun x => G3) (fun x => EyR ep vm x :: RrO b5 q1 vl (.slice none 0 0) :: (B ++ (RrO b2 zNq (.slice none 0 0) (.slice none 0 0) :: F))) (fun x => x = if m.2.2 = 0 ∧ 4000 < m.1 then 3 else m.2.2) ?_ ?_
  · refine ww ?_
    refine c_cond_d rfl (fun c2 => ?_) (fun c2 => ?_)
    · refine ww ?_
      refine c_cons (s_call (xs := [_, _]) rfl rfl rfl rfl rfl rfl (by kernel_rfl) (fun w hs => rfall_c ep _ m.2.2 3 _ w _ _ hs) ?_)
      rintro e w' ⟨rfl, hs'⟩; refine a_ret ?_ hs'; clear hs'
      refine ww ?_
      exact n_mid (if m.2.2 = 0 then 3 else m.2.2) (by
        by_cases h : m.2.2 = 0
        · rw [if_pos h, if_pos ⟨h, c2⟩]
        · rw [if_neg h, if_neg (fun k => h k.1)]) ⟨rfl, rfl, rfl, rfl, trivial⟩ rfl sbx
    refine ww ?_
    exact n_mid m.2.2 (if_neg (fun k => c2 k.2)).symm ⟨rfl, rfl, rfl, rfl, trivial⟩ rfl sbx
  rintro bd3 hbd3
  try dsimp only at hbd3 ⊢
  have hst0 : (bd3 = 0 ∧ decQ xs = dqR zNq getDl (dqE q1) m.1 m.2.1) ∨ (bd3 ≠ 0 ∧ decQ xs = (zNq, bd3)) := by
    by_cases h : m.2.2 = 0
    · by_cases h4 : 4000 < m.1
      · rw [if_pos ⟨h, h4⟩] at hbd3
        exact .inr ⟨by rw [hbd3]; decide, by rw [hdm, hbd3]; exact dqC_long h h4⟩
      · rw [if_neg (fun k => h4 k.2)] at hbd3
        exact .inl ⟨by rw [hbd3]; exact h, by rw [hdm]; exact dqC_ok h h4⟩
    · rw [if_neg (fun k => h k.1)] at hbd3
      exact .inr ⟨by rw [hbd3]; exact h, by rw [hdm, hbd3]; exact dqC_bad h⟩
  clear hbd3 hdm
  refine wn ?_
  refine c_cut (α := Int × Value × List UInt8 × Value × List Dl × Hp) (fun x => [(2, Pt b2 0), (4, Pt ep 0), (5, Pt b5 0)]) (fun x => G3) (fun x => EyR ep x.2.1 x.1 :: RrO b5 q1 vl x.2.2.2.1 :: (x.2.2.2.2.2 ++ (B ++ (RrO b2 zNq (.slice none 0 0) (.slice none 0 0) :: F)))) (fun x => EB G3 x.2.1 x.2.2.1 ∧ DlO G3 x.2.2.2.1 x.2.2.2.2.1 x.2.2.2.2.2 ∧
    ((x.1 = 0 ∧ decQ xs = dqE q1 x.2.2.2.2.1 x.2.2.1) ∨ (x.1 ≠ 0 ∧ decQ xs = (zNq, x.1)))) ?_ ?_
  · -- the deltas
    refine ww ?_
    refine c_loop (α := Nat × Int × Value × List UInt8 × Value × List Dl × Hp) (fun x => [(2, Pt b2 0), (4, Pt ep 0), (5, Pt b5 0), (6, I64 m.1), (9, I64 x.1)]) (fun x => G3) (fun x => EyR ep x.2.2.1 x.2.1 :: RrO b5 q1 vl x.2.2.2.2.1 :: (x.2.2.2.2.2.2 ++ (B ++ (RrO b2 zNq (.slice none 0 0) (.slice none 0 0) :: F)))) (fun x => EB G3 x.2.2.1 x.2.2.2.1 ∧ DlO G3 x.2.2.2.2.1 x.2.2.2.2.2.1 x.2.2.2.2.2.2 ∧ (x.1 : Int) ≤ m.1 ∧
      ((x.2.1 = 0 ∧ decQ xs = dqR zNq getDl (dqE q1) m.1 m.2.1 ∧ x.2.2.2.1 = gAfter getDl x.1 m.2.1 ∧ x.2.2.2.2.2.1 = gRedd getDl x.1 m.2.1 ∧ gGood getDl x.1 m.2.1) ∨ (x.2.1 ≠ 0 ∧ decQ xs = (zNq, x.2.1)))) (fun x => m.1.toNat - x.1) (0, bd3, vm, m.2.1, (.slice none 0 0), [], []) ⟨hvm, ROwn.zero _ _, hm0, hst0.imp (fun h => ⟨h.1, h.2, rfl, rfl, trivial⟩) id⟩ ?_ ?_
    · exact n_at ⟨rfl, rfl, rfl, rfl, rfl, trivial⟩ sbx
    rintro ⟨i, b, v, left, vk, l, B'⟩ ⟨hvi, ho', hi, hst⟩
    dsimp only at hvi ho' hi hst ⊢
    refine ww ?_
    refine c_part_d 105 _ rfl (fun c3 => ?_) (fun c3 => ?_)
    · refine ww ?_
      refine c_cons (s_val (v_field 1 rfl (by kernel_rfl)) rfl rfl rfl ?_)
      refine c_cons (s_val (v_load rfl (Cel.head rfl) (by kernel_rfl)) rfl rfl rfl ?_)
      refine ww ?_
      refine c_cond_d rfl (fun c4 => ?_) (fun c4 => ?_)
      · -- then
        obtain ⟨_, hd, rfl, rfl, hg⟩ := hst.resolve_right fun h => h.1 c4
        subst c4
        have has := gAfter_snoc getDl i m.2.1
        have hrs := gRedd_snoc getDl i m.2.1
        have hrl := gRedd_len getDl i m.2.1
        have hgs := gGood_snoc getDl i m.2.1 hg
        have hb3 := fun h => hd.trans (dqR_bad (z := zNq) (k := dqE q1) (n := m.1) i hg (by omega) h)
        obtain ⟨L, hoL, hRL⟩ := ho'
        refine ww ?_
        refine r_startS [RrO b5 q1 vl vk] [7] (by kernel_rfl) (fun w h => h.sb) ?_
        refine r_tk 0 rfl rfl (v_field 13 rfl (by kernel_rfl)) (fun _ h => (h.sb)) ?_
        refine r_tk 1 rfl rfl (v_load rfl (Cel.head rfl) (by kernel_rfl)) (fun _ h => (h.sb)) ?_
        refine r_tk 2 rfl rfl (v_move rfl) (fun _ h => (h.sb)) ?_
        refine r_one 3 (by kernel_rfl) rfl ?_
        refine s_call (xs := [_]) rfl rfl rfl rfl rfl rfl (by kernel_rfl) (fun w hs => rdget_c ep v (gAfter getDl i m.2.1) _ w _ _ hvi hs) ?_
        generalize getDl (gAfter getDl i m.2.1) = r at has hrs hgs hb3 ⊢
        rintro e w' ⟨v3, rfl, hv3, hs'⟩; refine a_ret ?_ hs'; clear hs'
        obtain ⟨x, hx⟩ : ∃ x, x = r.1 := ⟨_, rfl⟩
        rw [← hx] at hrs ⊢
        refine r_next (fun w h => (h.sb)) ?_
        refine r_one 4 (by kernel_rfl) rfl ?_
        refine s_litN [_] (z := .agg #[I64 0, I64 0, I64 0, I64 0, I64 0, I64 0, I64 0, I64 0, I64 0, I64 0, I64 0, I64 0, I64 0, I64 0]) (bs := 112) (e := 75) (sz := 14) (by kernel_rfl) rfl rfl rfl rfl (by simp [Value.cells]) (by decide) (by decide) (by decide) fun b7 => ?_
        refine r_next (fun w h => (h.sb)) ?_
        refine r_one 5 (by kernel_rfl) rfl ?_
        refine s_append (e := 75) (z := .agg #[I64 0, I64 0, I64 0, I64 0, I64 0, I64 0, I64 0, I64 0, I64 0, I64 0, I64 0, I64 0, I64 0, I64 0]) (sz := 14) (bs := 112) (by kernel_rfl) rfl rfl rfl rfl hoL (Chunk.tail (Chunk.tail (Chunk.tail Chunk.head))) (news := x.cells) (SV.block .head (by simp [maxLen])) rfl (by decide) rfl (by simp [Value.oneCell']) (by first | omega | (simp; omega)) (by first | omega | (simp; omega)) fun u3 B3 hown3 => ?_
        refine c_sub (EyR ep v3 r.2.2 :: RrO b5 q1 vl vk :: (B3 ++ (B ++ (RrO b2 zNq (.slice none 0 0) (.slice none 0 0) :: F)))) sbx ?_
        refine r_next (fun w h => (h.sb)) ?_
        refine r_tk 6 rfl rfl (v_field 13 rfl (by kernel_rfl)) (fun _ h => (h.sb)) ?_
        refine r_one 7 (by kernel_rfl) rfl ?_
        refine s_store1 rfl rfl rfl (.tail .head) (by kernel_rfl) (own_one hown3) (by simp) ?_
        refine r_late rfl ?_
        refine r_done (by kernel_rfl) ?_
        change Holds _ _ _ _ _ (RrO b5 q1 vl u3 :: EyR ep v3 r.2.2 :: (B3 ++ (B ++ (RrO b2 zNq (.slice none 0 0) (.slice none 0 0) :: F)))) _
        refine ww ?_
        exact n_next (x := (i, (0 : Int), v, gAfter getDl i m.2.1, vk, gRedd getDl i m.2.1, B')) (i + 1, r.2.2, v3, r.2.1, u3, gRedd getDl (i + 1) m.2.1, B3) ⟨hv3, by dsimp only; rw [hrs]; exact DlO.snoc hRL (by rw [hrl]; rw [hrl] at hown3; exact hown3), by dsimp only; omega, by
          dsimp only
          by_cases hr : r.2.2 = 0
          · exact .inl ⟨hr, hd, has.symm, rfl, hgs hr⟩
          · exact .inr ⟨hr, hb3 hr⟩⟩ (by dsimp only; omega) ⟨rfl, rfl, rfl, rfl, rfl, trivial⟩ rfl sbx
      refine ww ?_
      exact n_mid (b, v, left, vk, l, B') ⟨hvi, ho', .inr ⟨c4, (hst.resolve_left fun h => c4 h.1).2⟩⟩ ⟨rfl, rfl, rfl, trivial⟩ rfl sbx
    refine ww ?_
    refine c_cond_f rfl ?_
    refine ww ?_
    exact n_mid (b, v, left, vk, l, B') ⟨hvi, ho', hst.imp (fun ⟨h1, h2, h3, h4, h5⟩ => ⟨h1, by rw [h2, dqR_all i (by omega) h5, h3, h4]⟩) id⟩ ⟨rfl, rfl, rfl, trivial⟩ rfl sbx
  rintro ⟨b, v, left, vk, l, B'⟩ ⟨hvi, ho', hst⟩
  dsimp only at hvi ho' hst ⊢
  refine ww ?_
  refine c_cons (s_call (xs := [_]) rfl rfl rfl rfl rfl rfl (by kernel_rfl) (fun w hs => reend_c ep _ b left _ w _ _ hvi hs) ?_)
  rintro e w' ⟨rfl, hs'⟩; refine a_ret ?_ hs'; clear hs'
  obtain ⟨en, hen⟩ : ∃ en : Int, en = if b ≠ 0 then b else if 0 < left.length then 3 else 0 := ⟨_, rfl⟩
  rw [← hen]
  have hfin : (en ≠ 0 ∧ decQ xs = (zNq, en)) ∨ (en = 0 ∧ decQ xs = ({ q1 with ds := l }, 0)) := by
    rcases hst with ⟨h1, h2⟩ | ⟨h1, h2⟩
    · rw [if_neg (fun k => k h1)] at hen
      rw [h2]; unfold dqE
      by_cases h3 : 0 < left.length
      · rw [if_pos h3] at hen ⊢; exact .inl ⟨by rw [hen]; decide, by rw [hen]⟩
      · rw [if_neg h3] at hen ⊢; exact .inr ⟨hen, rfl⟩
    · rw [if_pos h1] at hen
      exact .inl ⟨by rw [hen]; exact h1, by rw [hen]; exact h2⟩
  clear hst hen
  rcases hfin with ⟨he, hfin⟩ | ⟨he, hfin⟩
  · rw [hfin]
    refine ww ?_
    refine c_cond_d rfl (fun c1 => ?_) (fun c1 => absurd he c1)
    refine ww ?_
    refine c_cons (s_val (v_build (ps := []) (zNq.cells (.slice none 0 0) (.slice none 0 0)).toArray rfl (by kernel_rfl)) rfl rfl rfl ?_)
    refine ww ?_
    refine c_sub (RrO b2 zNq (.slice none 0 0) (.slice none 0 0) :: F) sbx ?_
    refine c_cons (s_storeA (vs := zNq.cells (.slice none 0 0) (.slice none 0 0)) rfl rfl rfl .head (by kernel_rfl) (by simp [Value.oneCell']) rfl ?_)
    refine ww ?_
    exact f_retA1 (vs := zNq.cells (.slice none 0 0) (.slice none 0 0)) rfl rfl rfl (by kernel_rfl) (by kernel_rfl) rfl (fun j u hj => Cel.all hj) (fun w hs => ⟨G3, _, _, rfl, hG3, RecV.nil, RecV.nil, hs.tl⟩)
  · rw [hfin]
    obtain ⟨L, hoL, hRL⟩ := ho
    obtain ⟨L', hoL', hRL'⟩ := ho'
    obtain ⟨ad1, cp1, rfl⟩ := hoL.form
    obtain ⟨ad2, cp2, rfl⟩ := hoL'.form
    change Holds _ _ _ _ _ (EyR ep v b :: RrO b5 { q1 with ds := l } (.slice ad1 q1.ss.length cp1) (.slice ad2 l.length cp2) :: (B' ++ (B ++ (RrO b2 zNq (.slice none 0 0) (.slice none 0 0) :: F)))) _
    obtain ⟨q, hq⟩ : ∃ q : Nq, q = { q1 with ds := l } := ⟨_, rfl⟩
    have hq1 : q1.ss = q.ss := by rw [hq]
    have hq2 : l = q.ds := by rw [hq]
    rw [← hq]
    rw [hq1] at hoL hRL ⊢
    rw [hq2] at hoL' hRL' ⊢
    refine ww ?_
    refine c_cond_d rfl (fun c1 => absurd he c1) (fun c1 => ?_)
    refine ww ?_
    refine c_cons (s_val (v_loadAgg (vs := q.cells (.slice ad1 q.ss.length cp1) (.slice ad2 q.ds.length cp2)) rfl (by kernel_rfl) (by kernel_rfl) rfl (fun j u hj => (Cel.tail (Cel.all hj)))) rfl rfl rfl ?_)
    refine c_sub (RrO b2 zNq (.slice none 0 0) (.slice none 0 0) :: (B ++ (B' ++ F))) sbx ?_
    refine c_cons (s_storeA (vs := q.cells (.slice ad1 q.ss.length cp1) (.slice ad2 q.ds.length cp2)) rfl rfl rfl .head (by kernel_rfl) (by simp [Value.oneCell']) rfl ?_)
    refine c_freezeO hoL (Chunk.tail Chunk.head) fun G4 hG4 hsv => ?_
    refine c_freezeO hoL' (Chunk.tail Chunk.head) fun G5 hG5 hsv' => ?_
    refine ww ?_
    exact f_retA1 (vs := q.cells (.slice ad1 q.ss.length cp1) (.slice ad2 q.ds.length cp2)) rfl rfl rfl (by kernel_rfl) (by kernel_rfl) rfl (fun j u hj => Cel.all hj) (fun w hs => ⟨G5, _, _, rfl, hG3.trans (hG4.trans hG5), ⟨L, hsv.up hG5, hRL.mono fun c x => SzR.up _ _ c x (hG4.trans hG5)⟩, ⟨L', hsv', hRL'.mono fun c x => DlR.up _ _ c x (hG4.trans hG5)⟩, hs.tl⟩)
end

section
open Go
set_option linter.unusedVariables false
set_option linter.unusedSimpArgs false
set_option maxHeartbeats 1600000
set_option maxRecDepth 4000
abbrev RyO (b : Nat) (q : Np) (ve vm : Value) : Nat × Obj := (b, Cs (q.cells ve vm) 56)
abbrev YO (b : Nat) (x : Ey) : Nat × Obj := (b, Cs x.cells 58)
theorem dqP_keep {t : Tp} (h : t.2.2 ≠ 0) : dqP (midP t) = (zNp, t.2.2) := by
  have e := midP_keep h
  have h' : (midP t).2.2 ≠ 0 := by rw [e]; exact h
  have := dqC_keep (z := zNp) (k := dqR zNp getEy (dqF (midP t).1)) (xs := (midP t).2.1) (i := 2) h'
  rw [e] at this
  unfold dqP
  rw [e]; exact this
theorem eRaw_keep {xs : List UInt8} {bad i : Int} (h : bad ≠ 0) : eRaw xs bad i = ([], xs, bad) := if_pos h
attribute [local irreducible] Code.wp wpList stepK Holds Val wpR Eff Eff0 Code.wpIn wpListIn stepI Exit.then Exit.inBlock bodyPost bodyPostM

theorem rndep_c (vb : Value) (xs : List UInt8) (hxl : xs.length ≤ 1000000) (w0 w : World) (G : Im) (F : Hp) (hvb : EB G vb xs) (hs : Sat w0 w G F) :
    Calls Try.prog 20 #[vb] w fun e w' => ∃ G' ve vm, e = .returned (.tuple #[.agg ((decP xs).1.cells ve vm).toArray, I64 (decP xs).2]) ∧ Im.le G G' ∧ RecV 3 EyC G' ve (decP xs).1.es ∧ EB G' vm (decP xs).1.m ∧ Sat w0 w' G' F := by
  refine f_enter (vs := [_]) Try.func20 rfl Try.ntmps20 (by simp) hs ?_
  refine ww ?_
  refine c_cons (s_allocA (zNp.cells (.slice none 0 0) (.slice none 0 0)) (by kernel_rfl) rfl rfl fun b2 => ?_)
  change Holds _ _ _ _ _ (RyO b2 zNp (.slice none 0 0) (.slice none 0 0) :: F) _
  obtain ⟨adb, cpb, hvbe⟩ := hvb.form
  subst hvbe
  refine ww ?_
  refine c_cons (s_val (v_build (ps := [_]) #[.slice adb xs.length cpb, I64 0] rfl (by kernel_rfl)) rfl rfl rfl ?_)
  refine c_cons (s_boxA [_, _] rfl rfl rfl fun ep => ?_)
  change Holds _ _ _ _ _ (EyR ep (.slice adb xs.length cpb) 0 :: RyO b2 zNp (.slice none 0 0) (.slice none 0 0) :: F) _
  refine ww ?_
  refine c_cons (s_val (v_build (ps := []) (zNp.cells (.slice none 0 0) (.slice none 0 0)).toArray rfl (by kernel_rfl)) rfl rfl rfl ?_)
  refine c_cons (s_allocA (zNp.cells (.slice none 0 0) (.slice none 0 0)) (by kernel_rfl) rfl rfl fun b5 => ?_)
  refine c_cons (s_storeA (vs := zNp.cells (.slice none 0 0) (.slice none 0 0)) rfl rfl rfl .head (by kernel_rfl) (by simp [Value.oneCell']) rfl ?_)
  change Holds _ _ _ _ _ (RyO b5 zNp (.slice none 0 0) (.slice none 0 0) :: EyR ep (.slice adb xs.length cpb) 0 :: RyO b2 zNp (.slice none 0 0) (.slice none 0 0) :: F) _
  obtain ⟨v0, hv0e⟩ : ∃ v, v = Value.slice adb xs.length cpb := ⟨_, rfl⟩
  rw [← hv0e] at hvb ⊢
  obtain ⟨t0, ht0⟩ : ∃ x, x = (zNp, xs, (0 : Int)) := ⟨_, rfl⟩
  have hv0 : EB G v0 (zNp, xs, (0 : Int)).2.1 := hvb
  change Holds _ _ _ _ _ (RyO b5 (zNp, xs, (0 : Int)).1 (.slice none 0 0) (.slice none 0 0) :: EyR ep v0 (zNp, xs, (0 : Int)).2.2 :: RyO b2 zNp (.slice none 0 0) (.slice none 0 0) :: F) _
  rw [← ht0] at hv0 ⊢
  refine c_sub (EyR ep v0 t0.2.2 :: RyO b5 t0.1 (.slice none 0 0) (.slice none 0 0) :: RyO b2 zNp (.slice none 0 0) (.slice none 0 0) :: F) sbx ?_
  refine ww ?_
  refine c_cons (s_call (xs := [_, _]) rfl rfl rfl rfl rfl rfl (by kernel_rfl) (fun w hs => renum_c ep _ t0.2.2 t0.2.1 1 _ w _ _ hv0 hs) ?_)
  rintro e w' ⟨v1, rfl, hv1, hs'⟩; refine a_ret ?_ hs'; clear hs'
  refine c_cons (s_val (v_field 0 rfl (by kernel_rfl)) rfl rfl rfl ?_)
  refine c_cons (s_store1 rfl rfl rfl (.tail .head) (by kernel_rfl) rfl (by simp) ?_)
  obtain ⟨t1, ht1⟩ : ∃ x, x = stN 1 fpE t0 := ⟨_, rfl⟩
  change EB G v1 (stN 1 fpE t0).2.1 at hv1
  change Holds _ _ _ _ _ (RyO b5 (stN 1 fpE t0).1 (.slice none 0 0) (.slice none 0 0) :: EyR ep v1 (stN 1 fpE t0).2.2 :: RyO b2 zNp (.slice none 0 0) (.slice none 0 0) :: F) _
  rw [← ht1] at hv1 ⊢
  refine c_sub (EyR ep v1 t1.2.2 :: RyO b5 t1.1 (.slice none 0 0) (.slice none 0 0) :: RyO b2 zNp (.slice none 0 0) (.slice none 0 0) :: F) sbx ?_
  refine wn ?_
  have hhd : stN 1 fpE (zNp, xs, 0) = t1 := by rw [ht1, ht0]
  refine ww ?_
  refine c_cons (s_val (v_field 0 rfl (by kernel_rfl)) rfl rfl rfl ?_)
  refine c_cons (s_val (v_load rfl (Cel.tail (Cel.head rfl)) (by kernel_rfl)) rfl rfl rfl ?_)
  refine ww ?_
  refine c_cons (s_call (xs := [_, _]) rfl rfl rfl rfl rfl rfl (by kernel_rfl) (fun w hs => rform_c ep v1 t1.2.2 _ _ w _ _ hs) ?_)
  rintro e w' ⟨rfl, hs'⟩; refine a_ret ?_ hs'; clear hs'
  obtain ⟨bd, hbd⟩ : ∃ bd : Int, bd = if t1.2.2 = 0 ∧ decide (18 < t1.1.e) = true then 4 else t1.2.2 := ⟨_, rfl⟩
  rw [← hbd]
  obtain ⟨t20, ht20⟩ : ∃ x, x = (t1.1, t1.2.1, bd) := ⟨_, rfl⟩
  have hdm : decP xs = dqP (midP t20) := by
    by_cases h : t1.2.2 = 0
    · by_cases hk : t1.1.e ≤ 18
      · rw [if_neg (fun k => absurd (of_decide_eq_true k.2) (by omega))] at hbd
        have e : t20 = t1 := by rw [ht20, hbd]
        rw [e]
        rw [← hhd] at h hk ⊢
        exact decP_ok h hk
      · rw [if_pos ⟨h, decide_eq_true (by omega)⟩] at hbd
        have e : t20.2.2 = 4 := by rw [ht20]; exact hbd
        rw [dqP_keep (by rw [e]; decide), e]
        rw [← hhd] at h hk
        exact decP_kind h hk
    · rw [if_neg (fun k => h k.1)] at hbd
      have e : t20.2.2 = t1.2.2 := by rw [ht20]; exact hbd
      rw [dqP_keep (by rw [e]; exact h), e]
      rw [← hhd] at h ⊢
      exact decP_bad h
  have hv20 : EB G v1 (t1.1, t1.2.1, bd).2.1 := hv1
  obtain ⟨v20, hv20e⟩ : ∃ v, v = v1 := ⟨_, rfl⟩
  change Holds _ _ _ _ _ (EyR ep v1 (t1.1, t1.2.1, bd).2.2 :: RyO b5 (t1.1, t1.2.1, bd).1 (.slice none 0 0) (.slice none 0 0) :: RyO b2 zNp (.slice none 0 0) (.slice none 0 0) :: F) _
  rw [← ht20, ← hv20e] at hv20
  rw [← ht20, ← hv20e]
  clear hbd ht20 hv20e hhd ht1 ht0
  refine ww ?_
  refine c_cons (s_call (xs := [_, _]) rfl rfl rfl rfl rfl rfl (by kernel_rfl) (fun w hs => renum_c ep _ t20.2.2 t20.2.1 2 _ w _ _ hv20 hs) ?_)
  rintro e w' ⟨v21, rfl, hv21, hs'⟩; refine a_ret ?_ hs'; clear hs'
  refine c_cons (s_val (v_field 1 rfl (by kernel_rfl)) rfl rfl rfl ?_)
  refine c_cons (s_store1 rfl rfl rfl (.tail .head) (by kernel_rfl) rfl (by simp) ?_)
  obtain ⟨t21, ht21⟩ : ∃ x, x = stN 2 fpI t20 := ⟨_, rfl⟩
  change EB G v21 (stN 2 fpI t20).2.1 at hv21
  change Holds _ _ _ _ _ (RyO b5 (stN 2 fpI t20).1 (.slice none 0 0) (.slice none 0 0) :: EyR ep v21 (stN 2 fpI t20).2.2 :: RyO b2 zNp (.slice none 0 0) (.slice none 0 0) :: F) _
  rw [← ht21] at hv21 ⊢
  refine c_sub (EyR ep v21 t21.2.2 :: RyO b5 t21.1 (.slice none 0 0) (.slice none 0 0) :: RyO b2 zNp (.slice none 0 0) (.slice none 0 0) :: F) sbx ?_
  refine ww ?_
  refine c_cons (s_call (xs := [_, _]) rfl rfl rfl rfl rfl rfl (by kernel_rfl) (fun w hs => renum_c ep _ t21.2.2 t21.2.1 2 _ w _ _ hv21 hs) ?_)
  rintro e w' ⟨v22, rfl, hv22, hs'⟩; refine a_ret ?_ hs'; clear hs'
  refine c_cons (s_val (v_field 2 rfl (by kernel_rfl)) rfl rfl rfl ?_)
  refine c_cons (s_store1 rfl rfl rfl (.tail .head) (by kernel_rfl) rfl (by simp) ?_)
  obtain ⟨t22, ht22⟩ : ∃ x, x = stN 2 fpZ t21 := ⟨_, rfl⟩
  change EB G v22 (stN 2 fpZ t21).2.1 at hv22
  change Holds _ _ _ _ _ (RyO b5 (stN 2 fpZ t21).1 (.slice none 0 0) (.slice none 0 0) :: EyR ep v22 (stN 2 fpZ t21).2.2 :: RyO b2 zNp (.slice none 0 0) (.slice none 0 0) :: F) _
  rw [← ht22] at hv22 ⊢
  refine c_sub (EyR ep v22 t22.2.2 :: RyO b5 t22.1 (.slice none 0 0) (.slice none 0 0) :: RyO b2 zNp (.slice none 0 0) (.slice none 0 0) :: F) sbx ?_
  refine ww ?_
  refine c_cons (s_call (xs := [_, _]) rfl rfl rfl rfl rfl rfl (by kernel_rfl) (fun w hs => renum_c ep _ t22.2.2 t22.2.1 1 _ w _ _ hv22 hs) ?_)
  rintro e w' ⟨v23, rfl, hv23, hs'⟩; refine a_ret ?_ hs'; clear hs'
  refine c_cons (s_val (v_field 3 rfl (by kernel_rfl)) rfl rfl rfl ?_)
  refine c_cons (s_store1 rfl rfl rfl (.tail .head) (by kernel_rfl) rfl (by simp) ?_)
  obtain ⟨t23, ht23⟩ : ∃ x, x = stN 1 fpH t22 := ⟨_, rfl⟩
  change EB G v23 (stN 1 fpH t22).2.1 at hv23
  change Holds _ _ _ _ _ (RyO b5 (stN 1 fpH t22).1 (.slice none 0 0) (.slice none 0 0) :: EyR ep v23 (stN 1 fpH t22).2.2 :: RyO b2 zNp (.slice none 0 0) (.slice none 0 0) :: F) _
  rw [← ht23] at hv23 ⊢
  refine c_sub (EyR ep v23 t23.2.2 :: RyO b5 t23.1 (.slice none 0 0) (.slice none 0 0) :: RyO b2 zNp (.slice none 0 0) (.slice none 0 0) :: F) sbx ?_
  refine ww ?_
  refine c_cons (s_call (xs := [_, _]) rfl rfl rfl rfl rfl rfl (by kernel_rfl) (fun w hs => renum_c ep _ t23.2.2 t23.2.1 3 _ w _ _ hv23 hs) ?_)
  rintro e w' ⟨v24, rfl, hv24, hs'⟩; refine a_ret ?_ hs'; clear hs'
  refine c_cons (s_val (v_field 4 rfl (by kernel_rfl)) rfl rfl rfl ?_)
  refine c_cons (s_store1 rfl rfl rfl (.tail .head) (by kernel_rfl) rfl (by simp) ?_)
  obtain ⟨t24, ht24⟩ : ∃ x, x = stN 3 fpW t23 := ⟨_, rfl⟩
  change EB G v24 (stN 3 fpW t23).2.1 at hv24
  change Holds _ _ _ _ _ (RyO b5 (stN 3 fpW t23).1 (.slice none 0 0) (.slice none 0 0) :: EyR ep v24 (stN 3 fpW t23).2.2 :: RyO b2 zNp (.slice none 0 0) (.slice none 0 0) :: F) _
  rw [← ht24] at hv24 ⊢
  refine c_sub (EyR ep v24 t24.2.2 :: RyO b5 t24.1 (.slice none 0 0) (.slice none 0 0) :: RyO b2 zNp (.slice none 0 0) (.slice none 0 0) :: F) sbx ?_
  refine ww ?_
  refine c_cons (s_call (xs := [_]) rfl rfl rfl rfl rfl rfl (by kernel_rfl) (fun w hs => rebool_c ep _ t24.2.2 t24.2.1 _ w _ _ hv24 hs) ?_)
  rintro e w' ⟨v25, rfl, hv25, hs'⟩; refine a_ret ?_ hs'; clear hs'
  refine c_cons (s_val (v_field 5 rfl (by kernel_rfl)) rfl rfl rfl ?_)
  refine c_cons (s_store1 rfl rfl rfl (.tail .head) (by kernel_rfl) rfl (by simp) ?_)
  obtain ⟨t25, ht25⟩ : ∃ x, x = stB fpD t24 := ⟨_, rfl⟩
  change EB G v25 (stB fpD t24).2.1 at hv25
  change Holds _ _ _ _ _ (RyO b5 (stB fpD t24).1 (.slice none 0 0) (.slice none 0 0) :: EyR ep v25 (stB fpD t24).2.2 :: RyO b2 zNp (.slice none 0 0) (.slice none 0 0) :: F) _
  rw [← ht25] at hv25 ⊢
  refine c_sub (EyR ep v25 t25.2.2 :: RyO b5 t25.1 (.slice none 0 0) (.slice none 0 0) :: RyO b2 zNp (.slice none 0 0) (.slice none 0 0) :: F) sbx ?_
  refine ww ?_
  have hmid : midP t20 = t25 := by rw [ht25, ht24, ht23, ht22, ht21]; rfl
  rw [hmid] at hdm
  have hq := (show dqP t25 = dqC zNp (dqR zNp getEy (dqF t25.1)) (eNum t25.2.1 t25.2.2 2) from rfl)
  rw [hq] at hdm
  clear hq hmid ht25 ht24 ht23 ht22 ht21
  refine c_cons (s_call (xs := [_, _]) rfl rfl rfl rfl rfl rfl (by kernel_rfl) (fun w hs => renum_c ep _ t25.2.2 t25.2.1 2 _ w _ _ hv25 hs) ?_)
  have hn0 := eNum_pos t25.2.1 t25.2.2 2
  have hn1 := eNum_2 t25.2.1 t25.2.2
  generalize eNum t25.2.1 t25.2.2 2 = a at hdm hn0 hn1 ⊢
  rintro e w' ⟨va, rfl, hva, hs'⟩; refine a_ret ?_ hs'; clear hs'
  refine wn ?_
  obtain ⟨q0, hq0⟩ : ∃ q, q = t25.1 := ⟨_, rfl⟩
  rw [← hq0] at hdm ⊢
  clear hq0
  refine c_cut (α := Int) (fun x => [(2, Pt b2 0), (4, Pt ep 0), (5, Pt b5 0), (6, I64 a.1)]) (fun x => G) (fun x => EyR ep va x :: RyO b5 q0 (.slice none 0 0) (.slice none 0 0) :: RyO b2 zNp (.slice none 0 0) (.slice none 0 0) :: F) (fun x => x = if a.2.2 = 0 ∧ 4000 < a.1 then 3 else a.2.2) ?_ ?_
  · refine ww ?_
    refine c_cond_d rfl (fun c2 => ?_) (fun c2 => ?_)
    · refine ww ?_
      refine c_cons (s_call (xs := [_, _]) rfl rfl rfl rfl rfl rfl (by kernel_rfl) (fun w hs => rfall_c ep _ a.2.2 3 _ w _ _ hs) ?_)
      rintro e w' ⟨rfl, hs'⟩; refine a_ret ?_ hs'; clear hs'
      refine ww ?_
      exact n_mid (if a.2.2 = 0 then 3 else a.2.2) (by
        by_cases h : a.2.2 = 0
        · rw [if_pos h, if_pos ⟨h, c2⟩]
        · rw [if_neg h, if_neg (fun k => h k.1)]) ⟨rfl, rfl, rfl, rfl, trivial⟩ rfl sbx
    refine ww ?_
    exact n_mid a.2.2 (if_neg (fun k => c2 k.2)).symm ⟨rfl, rfl, rfl, rfl, trivial⟩ rfl sbx
  rintro bd2 hbd2
  try dsimp only at hbd2 ⊢
  have hst0 : (bd2 = 0 ∧ decP xs = dqR zNp getEy (dqF q0) a.1 a.2.1) ∨ (bd2 ≠ 0 ∧ decP xs = (zNp, bd2)) := by
    by_cases h : a.2.2 = 0
    · by_cases h4 : 4000 < a.1
      · rw [if_pos ⟨h, h4⟩] at hbd2
        exact .inr ⟨by rw [hbd2]; decide, by rw [hdm, hbd2]; exact dqC_long h h4⟩
      · rw [if_neg (fun k => h4 k.2)] at hbd2
        exact .inl ⟨by rw [hbd2]; exact h, by rw [hdm]; exact dqC_ok h h4⟩
    · rw [if_neg (fun k => h k.1)] at hbd2
      exact .inr ⟨by rw [hbd2]; exact h, by rw [hdm, hbd2]; exact dqC_bad h⟩
  clear hbd2 hdm
  refine wn ?_
  refine c_cut (α := Im × Int × Value × List UInt8 × Value × List Ey × Hp) (fun x => [(2, Pt b2 0), (4, Pt ep 0), (5, Pt b5 0)]) (fun x => x.1) (fun x => EyR ep x.2.2.1 x.2.1 :: RyO b5 q0 x.2.2.2.2.1 (.slice none 0 0) :: (x.2.2.2.2.2.2 ++ (RyO b2 zNp (.slice none 0 0) (.slice none 0 0) :: F))) (fun x => Im.le G x.1 ∧ EB x.1 x.2.2.1 x.2.2.2.1 ∧ EyRo x.1 x.2.2.2.2.1 x.2.2.2.2.2.1 x.2.2.2.2.2.2 ∧
    ((x.2.1 = 0 ∧ decP xs = dqF q0 x.2.2.2.2.2.1 x.2.2.2.1) ∨ (x.2.1 ≠ 0 ∧ decP xs = (zNp, x.2.1)))) ?_ ?_
  · -- the entries
    refine ww ?_
    refine c_loop (α := Nat × Im × Int × Value × List UInt8 × Value × List Ey × Hp) (fun x => [(2, Pt b2 0), (4, Pt ep 0), (5, Pt b5 0), (6, I64 a.1), (7, I64 x.1)]) (fun x => x.2.1) (fun x => EyR ep x.2.2.2.1 x.2.2.1 :: RyO b5 q0 x.2.2.2.2.2.1 (.slice none 0 0) :: (x.2.2.2.2.2.2.2 ++ (RyO b2 zNp (.slice none 0 0) (.slice none 0 0) :: F))) (fun x => Im.le G x.2.1 ∧ EB x.2.1 x.2.2.2.1 x.2.2.2.2.1 ∧ EyRo x.2.1 x.2.2.2.2.2.1 x.2.2.2.2.2.2.1 x.2.2.2.2.2.2.2 ∧ (x.1 : Int) ≤ a.1 ∧
      ((x.2.2.1 = 0 ∧ decP xs = dqR zNp getEy (dqF q0) a.1 a.2.1 ∧ x.2.2.2.2.1 = gAfter getEy x.1 a.2.1 ∧ x.2.2.2.2.2.2.1 = gRedd getEy x.1 a.2.1 ∧ gGood getEy x.1 a.2.1) ∨ (x.2.2.1 ≠ 0 ∧ decP xs = (zNp, x.2.2.1)))) (fun x => a.1.toNat - x.1) (0, G, bd2, va, a.2.1, (.slice none 0 0), [], []) ⟨Im.le_refl _, hva, ROwn.zero _ _, hn0, hst0.imp (fun h => ⟨h.1, h.2, rfl, rfl, trivial⟩) id⟩ ?_ ?_
    · exact n_at ⟨rfl, rfl, rfl, rfl, rfl, trivial⟩ sbx
    rintro ⟨i, G3, b, v, left, vl, l, B⟩ ⟨hG3, hvi, ho, hi, hst⟩
    dsimp only at hG3 hvi ho hi hst ⊢
    refine ww ?_
    refine c_part_d 46 _ rfl (fun c3 => ?_) (fun c3 => ?_)
    · refine ww ?_
      refine c_cons (s_val (v_field 1 rfl (by kernel_rfl)) rfl rfl rfl ?_)
      refine c_cons (s_val (v_load rfl (Cel.head rfl) (by kernel_rfl)) rfl rfl rfl ?_)
      refine ww ?_
      refine c_cond_d rfl (fun c4 => ?_) (fun c4 => ?_)
      · -- then
        obtain ⟨_, hd, rfl, rfl, hg⟩ := hst.resolve_right fun h => h.1 c4
        subst c4
        have has := gAfter_snoc getEy i a.2.1
        have hrs := gRedd_snoc getEy i a.2.1
        have hrl := gRedd_len getEy i a.2.1
        have hgs := gGood_snoc getEy i a.2.1 hg
        have hb3 := fun h => hd.trans (dqR_bad (z := zNp) (k := dqF q0) (n := a.1) i hg (by omega) h)
        obtain ⟨L, hoL, hRL⟩ := ho
        obtain ⟨y0, hy0⟩ : ∃ x, x = (zEy, gAfter getEy i a.2.1, (0 : Int)) := ⟨_, rfl⟩
        have hgz : getEy (gAfter getEy i a.2.1) = stB fYd (stN 2 fYi (stR fYs y0)) := by rw [hy0]; rfl
        rw [hgz] at has hrs hgs hb3
        have hu0 : EB G3 v y0.2.1 := by rw [hy0]; exact hvi
        have e0 : y0.2.2 = 0 := by rw [hy0]
        have e1 : y0.1 = zEy := by rw [hy0]
        refine c_sub (EyR ep v y0.2.2 :: RyO b5 q0 vl (.slice none 0 0) :: (B ++ (RyO b2 zNp (.slice none 0 0) (.slice none 0 0) :: F))) (by rw [e0]; exact sbx) ?_
        refine ww ?_
        refine c_cons (s_call (xs := [_, _]) rfl rfl rfl rfl rfl rfl (by kernel_rfl) (fun w hs => reraw_c ep _ y0.2.2 y0.2.1 65535 _ w _ _ hu0 hs) ?_)
        rintro e w' ⟨G4, um, u1, rfl, hG4, hum, hu1, hs'⟩; refine a_ret ?_ hs'; clear hs'
        refine c_cons (s_val (v_bstr 5 rfl (hum.mono (Im.le_refl _) (by simp)) (by kernel_rfl) (by kernel_rfl)) rfl rfl rfl ?_)
        refine c_cons (s_val (v_build (ps := [_]) #[St (eRaw y0.2.1 y0.2.2 65535).1, I64 0, .bool false] rfl (by kernel_rfl)) rfl rfl rfl ?_)
        refine c_cons (s_allocA [St [], I64 0, .bool false] (by kernel_rfl) rfl rfl fun b6 => ?_)
        refine c_cons (s_storeA (vs := [St (eRaw y0.2.1 y0.2.2 65535).1, I64 0, .bool false]) rfl rfl rfl .head (by kernel_rfl) (by simp [Value.oneCell']) rfl ?_)
        obtain ⟨y1, hy1⟩ : ∃ x, x = stR fYs y0 := ⟨_, rfl⟩
        have ey : Cs [St (eRaw y0.2.1 y0.2.2 65535).1, I64 0, .bool false] 58 = Cs y1.1.cells 58 := by rw [hy1, hy0]; rfl
        rw [ey]
        rw [← hy1] at has hrs hgs hb3
        change EB G4 u1 (stR fYs y0).2.1 at hu1
        change Holds _ _ _ _ _ (YO b6 y1.1 :: EyR ep u1 (stR fYs y0).2.2 :: RyO b5 q0 vl (.slice none 0 0) :: (B ++ (RyO b2 zNp (.slice none 0 0) (.slice none 0 0) :: F))) _
        rw [← hy1] at hu1 ⊢
        clear ey
        refine c_sub (EyR ep u1 y1.2.2 :: YO b6 y1.1 :: RyO b5 q0 vl (.slice none 0 0) :: (B ++ (RyO b2 zNp (.slice none 0 0) (.slice none 0 0) :: F))) sbx ?_
        refine ww ?_
        refine c_cons (s_call (xs := [_, _]) rfl rfl rfl rfl rfl rfl (by kernel_rfl) (fun w hs => renum_c ep _ y1.2.2 y1.2.1 2 _ w _ _ hu1 hs) ?_)
        rintro e w' ⟨u2, rfl, hu2, hs'⟩; refine a_ret ?_ hs'; clear hs'
        refine c_cons (s_val (v_field 1 rfl (by kernel_rfl)) rfl rfl rfl ?_)
        refine c_cons (s_store1 rfl rfl rfl (.tail .head) (by kernel_rfl) rfl (by simp) ?_)
        obtain ⟨y2, hy2⟩ : ∃ x, x = stN 2 fYi y1 := ⟨_, rfl⟩
        rw [← hy2] at has hrs hgs hb3
        change EB G4 u2 (stN 2 fYi y1).2.1 at hu2
        change Holds _ _ _ _ _ (YO b6 (stN 2 fYi y1).1 :: EyR ep u2 (stN 2 fYi y1).2.2 :: RyO b5 q0 vl (.slice none 0 0) :: (B ++ (RyO b2 zNp (.slice none 0 0) (.slice none 0 0) :: F))) _
        rw [← hy2] at hu2 ⊢
        refine c_sub (EyR ep u2 y2.2.2 :: YO b6 y2.1 :: RyO b5 q0 vl (.slice none 0 0) :: (B ++ (RyO b2 zNp (.slice none 0 0) (.slice none 0 0) :: F))) sbx ?_
        refine ww ?_
        refine c_cons (s_call (xs := [_]) rfl rfl rfl rfl rfl rfl (by kernel_rfl) (fun w hs => rebool_c ep _ y2.2.2 y2.2.1 _ w _ _ hu2 hs) ?_)
        rintro e w' ⟨u3, rfl, hu3, hs'⟩; refine a_ret ?_ hs'; clear hs'
        refine c_cons (s_val (v_field 2 rfl (by kernel_rfl)) rfl rfl rfl ?_)
        refine c_cons (s_store1 rfl rfl rfl (.tail .head) (by kernel_rfl) rfl (by simp) ?_)
        obtain ⟨x, hx⟩ : ∃ x, x = stB fYd y2 := ⟨_, rfl⟩
        rw [← hx] at has hrs hgs hb3
        change EB G4 u3 (stB fYd y2).2.1 at hu3
        change Holds _ _ _ _ _ (YO b6 (stB fYd y2).1 :: EyR ep u3 (stB fYd y2).2.2 :: RyO b5 q0 vl (.slice none 0 0) :: (B ++ (RyO b2 zNp (.slice none 0 0) (.slice none 0 0) :: F))) _
        rw [← hx] at hu3 ⊢
        replace hRL := hRL.mono fun c x => EyC.up _ _ c x hG4
        refine ww ?_
        refine c_cons (s_val (v_field 6 rfl (by kernel_rfl)) rfl rfl rfl ?_)
        refine c_cons (s_val (v_load rfl (Cel.tail (Cel.tail (Cel.head rfl))) (by kernel_rfl)) rfl rfl rfl ?_)
        refine c_cons (s_val (v_loadAgg (vs := x.1.cells) rfl (by kernel_rfl) (by kernel_rfl) rfl (fun j u hj => (Cel.all hj))) rfl rfl rfl ?_)
        refine c_cons (s_litN [_] (z := .agg #[St [], I64 0, .bool false]) (bs := 32) (e := 58) (sz := 3) (by kernel_rfl) rfl rfl rfl rfl (by simp [Value.cells]) (by decide) (by decide) (by decide) fun b7 => ?_)
        refine c_cons (s_append (e := 58) (z := .agg #[St [], I64 0, .bool false]) (sz := 3) (bs := 32) (by kernel_rfl) rfl rfl rfl rfl hoL (Chunk.tail (Chunk.tail (Chunk.tail (Chunk.tail Chunk.head)))) (news := x.1.cells) (SV.block .head (by simp [maxLen])) rfl (by decide) rfl (by simp [Value.oneCell']) (by first | omega | (simp; omega)) (by first | omega | (simp; omega)) fun w3 B3 hown3 => ?_)
        refine c_sub (EyR ep u3 x.2.2 :: RyO b5 q0 vl (.slice none 0 0) :: (B3 ++ (RyO b2 zNp (.slice none 0 0) (.slice none 0 0) :: F))) sbx ?_
        refine c_cons (s_val (v_field 6 rfl (by kernel_rfl)) rfl rfl rfl ?_)
        refine c_cons (s_store1 rfl rfl rfl (.tail .head) (by kernel_rfl) (own_one hown3) (by simp) ?_)
        change Holds _ _ _ _ _ (RyO b5 q0 w3 (.slice none 0 0) :: EyR ep u3 x.2.2 :: (B3 ++ (RyO b2 zNp (.slice none 0 0) (.slice none 0 0) :: F))) _
        refine ww ?_
        exact n_next (x := (i, G3, (0 : Int), v, gAfter getEy i a.2.1, vl, gRedd getEy i a.2.1, B)) (i + 1, G4, x.2.2, u3, x.2.1, w3, gRedd getEy (i + 1) a.2.1, B3) ⟨hG3.trans hG4, hu3, by dsimp only; rw [hrs]; exact EyRo.snoc hRL (by rw [hrl]; rw [hrl] at hown3; exact hown3), by dsimp only; omega, by
          dsimp only
          by_cases hr : x.2.2 = 0
          · exact .inl ⟨hr, hd, has.symm, rfl, hgs hr⟩
          · exact .inr ⟨hr, hb3 hr⟩⟩ (by dsimp only; omega) ⟨rfl, rfl, rfl, rfl, rfl, trivial⟩ rfl sbx
      refine ww ?_
      exact n_mid (G3, b, v, left, vl, l, B) ⟨hG3, hvi, ho, .inr ⟨c4, (hst.resolve_left fun h => c4 h.1).2⟩⟩ ⟨rfl, rfl, rfl, trivial⟩ rfl sbx
    refine ww ?_
    refine c_cond_f rfl ?_
    refine ww ?_
    exact n_mid (G3, b, v, left, vl, l, B) ⟨hG3, hvi, ho, hst.imp (fun ⟨h1, h2, h3, h4, h5⟩ => ⟨h1, by rw [h2, dqR_all i (by omega) h5, h3, h4]⟩) id⟩ ⟨rfl, rfl, rfl, trivial⟩ rfl sbx
  rintro ⟨G3, b, v, left, vl, l, B⟩ ⟨hG3, hvi, ho, hst⟩
  dsimp only at hG3 hvi ho hst ⊢
  have hfn : decP xs = if endS (eRaw left b 65535).2.1 (eRaw left b 65535).2.2 ≠ 0 then (zNp, endS (eRaw left b 65535).2.1 (eRaw left b 65535).2.2) else ({ q0 with es := l, m := (eRaw left b 65535).1 }, 0) := by
    rcases hst with ⟨h1, h2⟩ | ⟨h1, h2⟩
    · rw [h2, h1]; rfl
    · have e : endS (eRaw left b 65535).2.1 (eRaw left b 65535).2.2 = b := by rw [eRaw_keep h1]; exact if_pos h1
      rw [e, if_pos h1]; exact h2
  clear hst
  refine ww ?_
  refine c_cons (s_call (xs := [_, _]) rfl rfl rfl rfl rfl rfl (by kernel_rfl) (fun w hs => reraw_c ep _ b left 65535 _ w _ _ hvi hs) ?_)
  generalize eRaw left b 65535 = r at hfn ⊢
  rintro e w' ⟨G9, um, v9, rfl, hG9, hum, hv9, hs'⟩; refine a_ret ?_ hs'; clear hs'
  refine c_cons (s_val (v_field 7 rfl (by kernel_rfl)) rfl rfl rfl ?_)
  refine c_cons (s_store1 rfl rfl rfl (.tail .head) (by kernel_rfl) (by obtain ⟨ad, c, rfl⟩ := hum.form; rfl) (by simp) ?_)
  obtain ⟨q, hq⟩ : ∃ q : Np, q = { q0 with es := l, m := r.1 } := ⟨_, rfl⟩
  change Holds _ _ _ _ _ (RyO b5 { q0 with es := l, m := r.1 } vl um :: EyR ep v9 r.2.2 :: (B ++ (RyO b2 zNp (.slice none 0 0) (.slice none 0 0) :: F))) _
  have hq1 : l = q.es := by rw [hq]
  have hq2 : r.1 = q.m := by rw [hq]
  rw [← hq] at hfn ⊢
  rw [hq1] at ho
  rw [hq2] at hum
  replace ho := ho.up EyC.up hG9
  refine c_sub (EyR ep v9 r.2.2 :: RyO b5 q vl um :: (B ++ (RyO b2 zNp (.slice none 0 0) (.slice none 0 0) :: F))) sbx ?_
  refine ww ?_
  refine c_cons (s_call (xs := [_]) rfl rfl rfl rfl rfl rfl (by kernel_rfl) (fun w hs => reend_c ep _ r.2.2 r.2.1 _ w _ _ hv9 hs) ?_)
  rintro e w' ⟨rfl, hs'⟩; refine a_ret ?_ hs'; clear hs'
  change decP xs = if (if r.2.2 ≠ 0 then r.2.2 else if 0 < r.2.1.length then 3 else (0 : Int)) ≠ 0 then (zNp, if r.2.2 ≠ 0 then r.2.2 else if 0 < r.2.1.length then 3 else (0 : Int)) else (q, 0) at hfn
  generalize (if r.2.2 ≠ 0 then r.2.2 else if 0 < r.2.1.length then 3 else (0 : Int)) = en at hfn ⊢
  by_cases hy : en = 0
  rotate_left
  · rw [if_pos hy] at hfn
    rw [hfn]
    refine ww ?_
    refine c_cond_d rfl (fun c1 => ?_) (fun c1 => absurd hy c1)
    refine ww ?_
    refine c_cons (s_val (v_build (ps := []) (zNp.cells (.slice none 0 0) (.slice none 0 0)).toArray rfl (by kernel_rfl)) rfl rfl rfl ?_)
    refine ww ?_
    refine c_sub (RyO b2 zNp (.slice none 0 0) (.slice none 0 0) :: F) sbx ?_
    refine c_cons (s_storeA (vs := zNp.cells (.slice none 0 0) (.slice none 0 0)) rfl rfl rfl .head (by kernel_rfl) (by simp [Value.oneCell']) rfl ?_)
    refine ww ?_
    exact f_retA1 (vs := zNp.cells (.slice none 0 0) (.slice none 0 0)) rfl rfl rfl (by kernel_rfl) (by kernel_rfl) rfl (fun j u hj => Cel.all hj) (fun w hs => ⟨G9, _, _, rfl, hG3.trans hG9, RecV.nil, SV.nil _ _, hs.tl⟩)
  · rw [if_neg (fun k => k hy)] at hfn
    rw [hfn]
    obtain ⟨L, hoL, hRL⟩ := ho
    obtain ⟨ad1, cp1, rfl⟩ := hoL.form
    obtain ⟨ad2, cp2, hve⟩ := hum.form
    subst hve
    refine ww ?_
    refine c_cond_d rfl (fun c1 => absurd hy c1) (fun c1 => ?_)
    refine ww ?_
    refine c_cons (s_val (v_loadAgg (vs := q.cells (.slice ad1 q.es.length cp1) (.slice ad2 q.m.length cp2)) rfl (by kernel_rfl) (by kernel_rfl) rfl (fun j u hj => (Cel.tail (Cel.all hj)))) rfl rfl rfl ?_)
    refine c_sub (RyO b2 zNp (.slice none 0 0) (.slice none 0 0) :: (B ++ F)) sbx ?_
    refine c_cons (s_storeA (vs := q.cells (.slice ad1 q.es.length cp1) (.slice ad2 q.m.length cp2)) rfl rfl rfl .head (by kernel_rfl) (by simp [Value.oneCell']) rfl ?_)
    refine c_freezeO hoL (Chunk.tail Chunk.head) fun G10 hG10 hsv => ?_
    refine ww ?_
    exact f_retA1 (vs := q.cells (.slice ad1 q.es.length cp1) (.slice ad2 q.m.length cp2)) rfl rfl rfl (by kernel_rfl) (by kernel_rfl) rfl (fun j u hj => Cel.all hj) (fun w hs => ⟨G10, _, _, rfl, hG3.trans (hG9.trans hG10), ⟨L, hsv, hRL.mono fun c x => EyC.up _ _ c x hG10⟩, hum.up hG10, hs.tl⟩)
end

section
open Go.ChangeShapes Go.WideShapes Go.ChangeAt Go.RowKit
set_option linter.unusedVariables false

theorem own : ownKnob Try.prog.godebug = none := by kernel_rfl
theorem laidOut : laidOutB Try.prog = true := by kernel_rfl

/-- A list of types that can be read. -/
def readables (P : Program) : List TypeId → Bool
  | [] => true
  | t :: r => P.readableRec t && decide (t < P.types.size) && readables P r

theorem trodAll_below {H : Type} {enc : TypeId × Value → H} {P : Program} (hl : laidOutB P = true) {W W' : World} (hb : Below W.heap.size W W') : ∀ {ts : List TypeId} {vs : List Value} {ds : List (DataW H)} {ps : List MemPlace},
    readables P ts = true → DataW.TrodAll enc P W 0 (fun _ => true) true ts vs ds ps → (∀ x ∈ ps, x.block < W.heap.size) → DataW.TrodAll enc P W' 0 (fun b => decide (b < W.heap.size)) true ts vs ds ps
  | [], vs, ds, ps, _, h, _ => by
    obtain ⟨rfl, rfl, rfl⟩ := trodAll_nil h
    exact trodAll_mk0
  | t :: ts, vs, ds, ps, hr, h, hlt => by
    obtain ⟨v0, vs0, d0, ds0, p0, q0, rfl, rfl, rfl, h0, r0⟩ := trodAll_cons h
    simp only [readables, Bool.and_eq_true, decide_eq_true_eq] at hr
    exact trodAll_cons_mk (Below.trod hl hr.1.1 hr.1.2 h0 hb (fun x hx => hlt x (List.mem_append_left _ hx))) (trodAll_below hl hb hr.2 r0 (fun x hx => hlt x (List.mem_append_right _ hx)))

theorem law_post {H : Type} {enc : TypeId × Value → H} {f : Func} {s : ChangeSpec} {W W' : World} {args : Array Value} {ds : List (DataW H)} {before : List MemPlace} (bt : TypeId)
    (hW : DataW.Whole enc Try.prog f.params.toList s.vars false W args.toList ds [] before) (hv : s.vars = []) (hrt : f.resultTypes = #[bt]) (hbt : Try.prog.underlying bt = some .bool)
    (hres : (s.fn H (ds ++ [])).results = [.lit (.bool true)]) (hargs : (s.fn H (ds ++ [])).args = ds) (hvars : (s.fn H (ds ++ [])).vars = []) (hread : readables Try.prog f.params.toList = true) (hb : Below W.heap.size W W') :
    s.post enc Try.prog f false true false false W args (.bool true) W' := by
  have hW' := hW
  obtain ⟨p, q, hA, hV, rfl, hfz, hnd⟩ := hW
  rw [hv] at hV
  obtain ⟨_, rfl⟩ := trodVars_none hV
  have hlt : ∀ x ∈ p, x.block < W.heap.size := fun x hx => by simpa using hW'.lt x (List.mem_append_left _ hx)
  refine ⟨ds, [], p ++ [], [], p, [], hW', ?_, ?_, ?_, hb.frame _, fun h => by cases h⟩
  · rw [hres, hrt]
    exact trodAll_cons_mk (shut_bool hbt true) trodAll_mk0
  · rw [hargs]
    exact trodAll_below laidOut hb hread hA hlt
  · rw [hvars, hv]; rfl
end

section
open Go
set_option linter.unusedVariables false
set_option maxHeartbeats 400000
attribute [local irreducible] Code.wp wpList stepK Holds Val wpR Eff Eff0 Code.wpIn wpListIn stepI Exit.then Exit.inBlock bodyPost bodyPostM

theorem same_c (va vb : Value) (xs ys : List UInt8) (w0 w : World) (G : Im) (H : Hp) (ha : SV G H va xs.length (xs.map B8)) (hb : SV G H vb ys.length (ys.map B8)) (hs : Sat w0 w G H) :
    Calls Try.prog 13 #[va, vb] w fun e w' => e = .returned (.bool (decide (xs = ys))) ∧ Sat w0 w' G H := by
  obtain ⟨aa, ca, rfl, ha1, ha2, ha3⟩ := ha
  obtain ⟨ab, cb, rfl, hb1, hb2, hb3⟩ := hb
  unfold maxLen at ha2 hb2
  refine f_enter (vs := [_, _]) Try.func13 rfl Try.ntmps13 (by simp) hs ?_
  refine ww ?_
  refine c_cond_d rfl (fun hne => ?_) (fun hne => ?_)
  · refine ww ?_
    refine f_ret1 rfl rfl (fun w hs => ⟨?_, hs⟩)
    have : ¬ xs = ys := fun e => hne (by rw [e])
    simp [this]
  · have hlen : xs.length = ys.length := by omega
    clear hne
    refine ww ?_
    refine c_loop (α := Nat) (fun k => [(5, I64 k), (0, .slice aa xs.length ca), (1, .slice ab ys.length cb)]) (fun _ => G) (fun _ => H) (fun k => k ≤ xs.length ∧ xs.take k = ys.take k) (fun k => xs.length - k) 0 ⟨Nat.zero_le _, by simp⟩ ?_ ?_
    · exact l_at ⟨rfl, rfl, rfl, trivial⟩ (Split.refl H)
    · rintro k ⟨hk, htk⟩
      refine ww ?_
      refine c_cond_d rfl (fun hlt => ?_) (fun hge => ?_)
      · refine ww ?_
        have hkx : k < xs.length := by omega
        have hky : k < ys.length := by omega
        rcases ha3 with ⟨hx0, _⟩ | ⟨b1, o1, rfl, hc1⟩
        · simp at hx0; subst hx0; simp at hkx
        rcases hb3 with ⟨hy0, _⟩ | ⟨b2, o2, rfl, hc2⟩
        · simp at hy0; subst hy0; simp at hky
        have e1 := hc1 k (B8 xs[k]) (by simp [hkx])
        have e2 := hc2 k (B8 ys[k]) (by simp [hky])
        refine r_start [] (by kernel_rfl) ?_
        refine r_tk 0 rfl rfl (v_move rfl) (fun _ h => h) ?_
        refine r_tk 1 rfl rfl (v_move rfl) (fun _ h => h) ?_
        refine r_tk 2 rfl rfl (v_index1 rfl rfl (by kernel_rfl) (by omega)) (fun _ h => h) ?_
        refine r_tk 3 rfl rfl (v_load rfl (by simpa using e1) (by kernel_rfl)) (fun _ h => h) ?_
        refine r_tk 4 rfl rfl (v_move rfl) (fun _ h => h) ?_
        refine r_tk 5 rfl rfl (v_move rfl) (fun _ h => h) ?_
        refine r_tk 6 rfl rfl (v_index1 rfl rfl (by kernel_rfl) (by omega)) (fun _ h => h) ?_
        refine r_tk 7 rfl rfl (v_load rfl (by simpa using e2) (by kernel_rfl)) (fun _ h => h) ?_
        refine r_tk 8 rfl rfl (v_neq rfl rfl) (fun _ h => h) ?_
        refine r_done (by kernel_rfl) ?_
        refine ww ?_
        refine c_cond_d rfl (fun hne => ?_) (fun heq => ?_)
        · refine ww ?_
          refine f_ret1 rfl rfl (fun w hs => ⟨?_, hs⟩)
          have : ¬ xs = ys := fun e => hne (by subst e; rfl)
          simp [this]
        · refine ww ?_
          refine l_next (k + 1) ⟨hkx, ?_⟩ (by omega) ⟨rfl, rfl, rfl, trivial⟩ rfl (Split.refl H)
          have hkk : xs[k] = ys[k] := by
            have : ¬ ¬ (xs[k].toNat : Int) = (ys[k].toNat : Int) := heq
            exact UInt8.toNat_inj.1 (by omega)
          rw [List.take_succ_eq_append_getElem hkx, List.take_succ_eq_append_getElem hky, htk, hkk]
      · refine ww ?_
        refine f_ret1 rfl rfl (fun w hs => ⟨?_, hs⟩)
        have : xs = ys := by
          have e : k = xs.length := by omega
          rw [e, List.take_length, hlen, List.take_length] at htk
          exact htk
        simp [this]
end
end Go.Proofs.Ytobhlbhklblncaa
