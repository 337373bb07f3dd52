/- Replies of package note: what bytes are read as (plain), and the walk of DecodeReply. Requests and replies there and back, in plain Lean. The reference's walks of chapter 12: a delta written, and read. -/
import Derived.Test.YtobhlbhklblncaaK6
import Derived.Test.YtobhlbhklblncaaK4
namespace Go.Proofs.Ytobhlbhklblncaa
section
open Go
set_option linter.unusedVariables false
set_option linter.unusedSimpArgs false
set_option maxHeartbeats 1600000
set_option maxRecDepth 4000
def zEy : Ey := ⟨[], 0, false⟩
def fYs (q : Ey) (x : List UInt8) : Ey := { q with s := x }
def fYi (q : Ey) (x : Int) : Ey := { q with i := x }
def fYd (q : Ey) (x : Bool) : Ey := { q with d := x }
def getEy (xs : List UInt8) : Ey × List UInt8 × Int := stB fYd (stN 2 fYi (stR fYs (zEy, xs, 0)))
def zNp : Np := ⟨0, 0, 0, 0, 0, false, [], []⟩
def fpE (q : Np) (x : Int) : Np := { q with e := x }
def fpI (q : Np) (x : Int) : Np := { q with i := x }
def fpZ (q : Np) (x : Int) : Np := { q with z := x }
def fpH (q : Np) (x : Int) : Np := { q with h := x }
def fpW (q : Np) (x : Int) : Np := { q with w := x }
def fpD (q : Np) (x : Bool) : Np := { q with d := x }
abbrev Tp := Np × List UInt8 × Int
def midP (t : Tp) : Tp := stB fpD (stN 3 fpW (stN 1 fpH (stN 2 fpZ (stN 2 fpI t))))
theorem midP_keep {t : Tp} (h : t.2.2 ≠ 0) : (midP t).2.2 = t.2.2 := by
  have h1 : (stN 2 fpI t).2.2 = t.2.2 := stN_keep h
  have h2 : (stN 2 fpZ (stN 2 fpI t)).2.2 = t.2.2 := (stN_keep (by rw [h1]; exact h)).trans h1
  have h3 : (stN 1 fpH (stN 2 fpZ (stN 2 fpI t))).2.2 = t.2.2 := (stN_keep (by rw [h2]; exact h)).trans h2
  have h4 : (stN 3 fpW (stN 1 fpH (stN 2 fpZ (stN 2 fpI t)))).2.2 = t.2.2 := (stN_keep (by rw [h3]; exact h)).trans h3
  exact (stB_keep (by rw [h4]; exact h)).trans h4
/-- The map, and whether something is left. -/
def dqF (q : Np) (l : List Ey) (xs : List UInt8) : Np × Int := if endS (eRaw xs 0 65535).2.1 (eRaw xs 0 65535).2.2 ≠ 0 then (zNp, endS (eRaw xs 0 65535).2.1 (eRaw xs 0 65535).2.2) else ({ q with es := l, m := (eRaw xs 0 65535).1 }, 0)
def dqP (t : Tp) : Np × Int := dqC zNp (dqR zNp getEy (dqF t.1)) (eNum t.2.1 t.2.2 2)
/-- The reply that bytes are, or what is wrong first. -/
def decP (xs : List UInt8) : Np × Int := if (stN 1 fpE (zNp, xs, 0)).2.2 ≠ 0 then (zNp, (stN 1 fpE (zNp, xs, 0)).2.2) else if ¬ (stN 1 fpE (zNp, xs, 0)).1.e ≤ 18 then (zNp, 4) else dqP (midP (stN 1 fpE (zNp, xs, 0)))
theorem decP_bad {xs : List UInt8} (h : (stN 1 fpE (zNp, xs, 0)).2.2 ≠ 0) : decP xs = (zNp, (stN 1 fpE (zNp, xs, 0)).2.2) := if_pos h
theorem decP_kind {xs : List UInt8} (h : (stN 1 fpE (zNp, xs, 0)).2.2 = 0) (h2 : ¬ (stN 1 fpE (zNp, xs, 0)).1.e ≤ 18) : decP xs = (zNp, 4) := by unfold decP; rw [if_neg (by omega), if_pos h2]
theorem decP_ok {xs : List UInt8} (h : (stN 1 fpE (zNp, xs, 0)).2.2 = 0) (h2 : (stN 1 fpE (zNp, xs, 0)).1.e ≤ 18) : decP xs = dqP (midP (stN 1 fpE (zNp, xs, 0))) := by unfold decP; rw [if_neg (by omega), if_neg (fun k => k h2)]
abbrev RpO (b : Nat) (q : Np) (ve vm : Value) : Nat × Obj := (b, Cs (q.cells ve vm) 52)
abbrev EyRo (G : Im) (v : Value) (l : List Ey) (B : Hp) : Prop := ROwn 3 EyC 58 G v l B
theorem EyRo.snoc {G : Im} {v : Value} {l : List Ey} {B : Hp} {L : List Value} {x : Ey} (hR : Recs 3 (EyC G) L l) (ho : Own v (l.length + 1) (L ++ x.cells) 58 3 B) : EyRo G v (l ++ [x]) B :=
  ⟨L ++ x.cells, by rw [List.length_append]; exact ho, hR.append (Recs.one rfl rfl)⟩
attribute [local irreducible] Code.wp wpList stepK Holds Val wpR Eff Eff0 Code.wpIn wpListIn stepI Exit.then Exit.inBlock bodyPost bodyPostM

theorem ndep1_c (b1 ep : Nat) (v0 : Value) (xs : List UInt8) (w0 w : World) (G : Im) (F : Hp) (hv0 : EB G v0 xs) (hs : Sat w0 w G (EyO ep v0 0 :: RpO b1 zNp (.slice none 0 0) (.slice none 0 0) :: F)) :
    Calls Try.prog 60 #[Pt ep 0, Pt b1 0] w fun e w' => ∃ G', Im.le G G' ∧ ((∃ v' ys bad q ve vm B, e = .returned (.tuple #[]) ∧ EB G' v' ys ∧ (decP xs = if endS ys bad ≠ 0 then (zNp, endS ys bad) else (q, 0)) ∧ EyRo G' ve q.es B ∧ EB G' vm q.m ∧ Sat w0 w' G' (EyO ep v' bad :: RpO b1 q ve vm :: (B ++ F))) ∨ ∃ c, e = .panicked (ngone c) ∧ c ≠ 0 ∧ decP xs = (zNp, c) ∧ Sat w0 w' G' F) := by
  refine f_enter (vs := [_, _]) Try.func60 rfl Try.ntmps60 (by simp) hs ?_
  obtain ⟨t0, ht0⟩ : ∃ x, x = (zNp, xs, (0 : Int)) := ⟨_, rfl⟩
  change EB G v0 (zNp, xs, (0 : Int)).2.1 at hv0
  change Holds _ _ _ _ _ (EyO ep v0 (zNp, xs, (0 : Int)).2.2 :: RpO b1 (zNp, xs, (0 : Int)).1 (.slice none 0 0) (.slice none 0 0) :: F) _
  rw [← ht0] at hv0 ⊢
  refine ww ?_
  refine c_cons (s_call (xs := [_, _]) rfl rfl rfl rfl rfl rfl (by kernel_rfl) (fun w hs => enum_c ep _ t0.2.2 t0.2.1 1 _ w _ _ hv0 hs) ?_)
  rintro e w' ⟨v1, rfl, hv1, hs'⟩; refine a_ret ?_ hs'; clear hs'
  refine c_cons (s_val (v_field 0 rfl (by kernel_rfl)) rfl rfl rfl ?_)
  refine c_cons (s_store1 rfl rfl rfl (.tail .head) (by kernel_rfl) rfl (by simp) ?_)
  obtain ⟨t1, ht1⟩ : ∃ x, x = stN 1 fpE t0 := ⟨_, rfl⟩
  change EB G v1 (stN 1 fpE t0).2.1 at hv1
  change Holds _ _ _ _ _ (RpO b1 (stN 1 fpE t0).1 (.slice none 0 0) (.slice none 0 0) :: EyO ep v1 (stN 1 fpE t0).2.2 :: F) _
  rw [← ht1] at hv1 ⊢
  refine c_sub (EyO ep v1 t1.2.2 :: RpO b1 t1.1 (.slice none 0 0) (.slice none 0 0) :: F) sbx ?_
  refine ww ?_
  have hhd : stN 1 fpE (zNp, xs, 0) = t1 := by rw [ht1, ht0]
  refine c_cons (s_call (xs := [_]) rfl rfl rfl rfl rfl rfl (by kernel_rfl) (fun w hs => ngoing_c ep v1 t1.2.2 _ w _ _ hs) ?_)
  rintro e w' ⟨hs', ⟨hb, rfl⟩ | ⟨hb, rfl⟩⟩
  rotate_left
  · refine a_panic ?_ hs'; clear hs'
    repeat (first | refine x_then_panic ?_ | refine x_block_panic ?_)
    exact f_panic (fun w hs => ⟨G, Im.le_refl _, .inr ⟨_, rfl, hb, by rw [← hhd] at hb ⊢; exact decP_bad hb, hs.tl.tl⟩⟩)
  refine a_ret ?_ hs'; clear hs'
  refine ww ?_
  refine c_cons (s_val (v_field 0 rfl (by kernel_rfl)) rfl rfl rfl ?_)
  refine c_cons (s_val (v_load rfl (Cel.tail (Cel.head rfl)) (by kernel_rfl)) rfl rfl rfl ?_)
  refine ww ?_
  by_cases hk : t1.1.e ≤ 18
  rotate_left
  · rw [decide_eq_false hk]
    refine c_cons (s_call (xs := [_, _]) rfl rfl rfl rfl rfl rfl (by kernel_rfl) (fun w hs => nmust_f 4 _ w _ _ hs) ?_)
    rintro e w' ⟨rfl, hs'⟩
    refine a_panic ?_ hs'; clear hs'
    repeat (first | refine x_then_panic ?_ | refine x_block_panic ?_)
    exact f_panic (fun w hs => ⟨G, Im.le_refl _, .inr ⟨4, rfl, by decide, by rw [← hhd] at hb hk; exact decP_kind hb hk, hs.tl.tl⟩⟩)
  rw [decide_eq_true hk]
  refine c_cons (s_call (xs := [_, _]) rfl rfl rfl rfl rfl rfl (by kernel_rfl) (fun w hs => nmust_t 4 _ w _ _ hs) ?_)
  rintro e w' ⟨rfl, hs'⟩; refine a_ret ?_ hs'; clear hs'
  have hdm : decP xs = dqP (midP t1) := by rw [← hhd] at hb hk ⊢; exact decP_ok hb hk
  refine ww ?_
  refine c_cons (s_call (xs := [_, _]) rfl rfl rfl rfl rfl rfl (by kernel_rfl) (fun w hs => enum_c ep _ t1.2.2 t1.2.1 2 _ w _ _ hv1 hs) ?_)
  rintro e w' ⟨v2, rfl, hv2, hs'⟩; refine a_ret ?_ hs'; clear hs'
  refine c_cons (s_val (v_field 1 rfl (by kernel_rfl)) rfl rfl rfl ?_)
  refine c_cons (s_store1 rfl rfl rfl (.tail .head) (by kernel_rfl) rfl (by simp) ?_)
  obtain ⟨t2, ht2⟩ : ∃ x, x = stN 2 fpI t1 := ⟨_, rfl⟩
  change EB G v2 (stN 2 fpI t1).2.1 at hv2
  change Holds _ _ _ _ _ (RpO b1 (stN 2 fpI t1).1 (.slice none 0 0) (.slice none 0 0) :: EyO ep v2 (stN 2 fpI t1).2.2 :: F) _
  rw [← ht2] at hv2 ⊢
  refine c_sub (EyO ep v2 t2.2.2 :: RpO b1 t2.1 (.slice none 0 0) (.slice none 0 0) :: F) sbx ?_
  refine ww ?_
  refine c_cons (s_call (xs := [_, _]) rfl rfl rfl rfl rfl rfl (by kernel_rfl) (fun w hs => enum_c ep _ t2.2.2 t2.2.1 2 _ w _ _ hv2 hs) ?_)
  rintro e w' ⟨v3, rfl, hv3, hs'⟩; refine a_ret ?_ hs'; clear hs'
  refine c_cons (s_val (v_field 2 rfl (by kernel_rfl)) rfl rfl rfl ?_)
  refine c_cons (s_store1 rfl rfl rfl (.tail .head) (by kernel_rfl) rfl (by simp) ?_)
  obtain ⟨t3, ht3⟩ : ∃ x, x = stN 2 fpZ t2 := ⟨_, rfl⟩
  change EB G v3 (stN 2 fpZ t2).2.1 at hv3
  change Holds _ _ _ _ _ (RpO b1 (stN 2 fpZ t2).1 (.slice none 0 0) (.slice none 0 0) :: EyO ep v3 (stN 2 fpZ t2).2.2 :: F) _
  rw [← ht3] at hv3 ⊢
  refine c_sub (EyO ep v3 t3.2.2 :: RpO b1 t3.1 (.slice none 0 0) (.slice none 0 0) :: F) sbx ?_
  refine ww ?_
  refine c_cons (s_call (xs := [_, _]) rfl rfl rfl rfl rfl rfl (by kernel_rfl) (fun w hs => enum_c ep _ t3.2.2 t3.2.1 1 _ w _ _ hv3 hs) ?_)
  rintro e w' ⟨v4, rfl, hv4, hs'⟩; refine a_ret ?_ hs'; clear hs'
  refine c_cons (s_val (v_field 3 rfl (by kernel_rfl)) rfl rfl rfl ?_)
  refine c_cons (s_store1 rfl rfl rfl (.tail .head) (by kernel_rfl) rfl (by simp) ?_)
  obtain ⟨t4, ht4⟩ : ∃ x, x = stN 1 fpH t3 := ⟨_, rfl⟩
  change EB G v4 (stN 1 fpH t3).2.1 at hv4
  change Holds _ _ _ _ _ (RpO b1 (stN 1 fpH t3).1 (.slice none 0 0) (.slice none 0 0) :: EyO ep v4 (stN 1 fpH t3).2.2 :: F) _
  rw [← ht4] at hv4 ⊢
  refine c_sub (EyO ep v4 t4.2.2 :: RpO b1 t4.1 (.slice none 0 0) (.slice none 0 0) :: F) sbx ?_
  refine ww ?_
  refine c_cons (s_call (xs := [_, _]) rfl rfl rfl rfl rfl rfl (by kernel_rfl) (fun w hs => enum_c ep _ t4.2.2 t4.2.1 3 _ w _ _ hv4 hs) ?_)
  rintro e w' ⟨v5, rfl, hv5, hs'⟩; refine a_ret ?_ hs'; clear hs'
  refine c_cons (s_val (v_field 4 rfl (by kernel_rfl)) rfl rfl rfl ?_)
  refine c_cons (s_store1 rfl rfl rfl (.tail .head) (by kernel_rfl) rfl (by simp) ?_)
  obtain ⟨t5, ht5⟩ : ∃ x, x = stN 3 fpW t4 := ⟨_, rfl⟩
  change EB G v5 (stN 3 fpW t4).2.1 at hv5
  change Holds _ _ _ _ _ (RpO b1 (stN 3 fpW t4).1 (.slice none 0 0) (.slice none 0 0) :: EyO ep v5 (stN 3 fpW t4).2.2 :: F) _
  rw [← ht5] at hv5 ⊢
  refine c_sub (EyO ep v5 t5.2.2 :: RpO b1 t5.1 (.slice none 0 0) (.slice none 0 0) :: F) sbx ?_
  refine ww ?_
  refine c_cons (s_call (xs := [_]) rfl rfl rfl rfl rfl rfl (by kernel_rfl) (fun w hs => ebool_c ep _ t5.2.2 t5.2.1 _ w _ _ hv5 hs) ?_)
  rintro e w' ⟨v6, rfl, hv6, hs'⟩; refine a_ret ?_ hs'; clear hs'
  refine c_cons (s_val (v_field 5 rfl (by kernel_rfl)) rfl rfl rfl ?_)
  refine c_cons (s_store1 rfl rfl rfl (.tail .head) (by kernel_rfl) rfl (by simp) ?_)
  obtain ⟨t6, ht6⟩ : ∃ x, x = stB fpD t5 := ⟨_, rfl⟩
  change EB G v6 (stB fpD t5).2.1 at hv6
  change Holds _ _ _ _ _ (RpO b1 (stB fpD t5).1 (.slice none 0 0) (.slice none 0 0) :: EyO ep v6 (stB fpD t5).2.2 :: F) _
  rw [← ht6] at hv6 ⊢
  refine c_sub (EyO ep v6 t6.2.2 :: RpO b1 t6.1 (.slice none 0 0) (.slice none 0 0) :: F) sbx ?_
  refine ww ?_
  have hmid : midP t1 = t6 := by rw [ht6, ht5, ht4, ht3, ht2]; rfl
  rw [hmid] at hdm
  have hq := (show dqP t6 = dqC zNp (dqR zNp getEy (dqF t6.1)) (eNum t6.2.1 t6.2.2 2) from rfl)
  rw [hq] at hdm
  clear hq hmid hhd ht6 ht5 ht4 ht3 ht2 ht1 ht0
  refine c_cons (s_call (xs := [_]) rfl rfl rfl rfl rfl rfl (by kernel_rfl) (fun w hs => ncount_c ep v6 t6.2.2 t6.2.1 _ w _ _ hv6 hs) ?_)
  have hn0 := eNum_pos t6.2.1 t6.2.2 2
  have hn1 := eNum_2 t6.2.1 t6.2.2
  generalize eNum t6.2.1 t6.2.2 2 = a at hdm hn0 hn1 ⊢
  rintro e w' ⟨va, hva, hs', ⟨hb, rfl⟩ | ⟨hb, hb2, rfl⟩ | ⟨hb1, hb2, rfl⟩⟩
  · refine a_panic ?_ hs'; clear hs'
    repeat (first | refine x_then_panic ?_ | refine x_block_panic ?_)
    exact f_panic (fun w hs => ⟨G, Im.le_refl _, .inr ⟨_, rfl, hb, by rw [hdm]; exact dqC_bad hb, hs.tl.tl⟩⟩)
  · refine a_panic ?_ hs'; clear hs'
    repeat (first | refine x_then_panic ?_ | refine x_block_panic ?_)
    exact f_panic (fun w hs => ⟨G, Im.le_refl _, .inr ⟨_, rfl, by decide, by rw [hdm]; exact dqC_long hb (by omega), hs.tl.tl⟩⟩)
  refine a_ret ?_ hs'; clear hs'
  rw [dqC_ok hb1 (by omega)] at hdm
  rw [hb1]
  refine ww ?_
  refine c_loop (α := Nat × Im × Value × Value × Hp) (fun x => [(0, Pt ep 0), (1, Pt b1 0), (30, I64 a.1), (31, I64 x.1)]) (fun x => x.2.1) (fun x => EyO ep x.2.2.1 0 :: RpO b1 t6.1 x.2.2.2.1 (.slice none 0 0) :: (x.2.2.2.2 ++ F)) (fun x => (x.1 : Int) ≤ a.1 ∧ Im.le G x.2.1 ∧ EB x.2.1 x.2.2.1 (gAfter getEy x.1 a.2.1) ∧ EyRo x.2.1 x.2.2.2.1 (gRedd getEy x.1 a.2.1) x.2.2.2.2 ∧ gGood getEy x.1 a.2.1) (fun x => a.1.toNat - x.1) (0, G, va, (.slice none 0 0), []) ⟨hn0, Im.le_refl _, hva, ROwn.zero _ _, trivial⟩ ?_ ?_
  · exact n_at ⟨rfl, rfl, rfl, rfl, trivial⟩ sbx
  rintro ⟨i, G7, v, vl, B⟩ ⟨hi, hG7, hvi, ho, hg⟩
  dsimp only at hi hG7 hvi ho hg ⊢
  refine ww ?_
  refine c_cond_d rfl (fun c1 => ?_) (fun c1 => ?_)
  · -- then
    have has := gAfter_snoc getEy i a.2.1
    have hrs := gRedd_snoc getEy i a.2.1
    have hrl := gRedd_len getEy i a.2.1
    have hgs := gGood_snoc getEy i a.2.1 hg
    have hb3 := fun h => hdm.trans (dqR_bad (z := zNp) (k := dqF t6.1) (n := a.1) i hg (by omega) h)
    obtain ⟨L, hoL, hRL⟩ := ho
    obtain ⟨y0, hy0⟩ : ∃ x, x = (zEy, gAfter getEy i a.2.1, (0 : Int)) := ⟨_, rfl⟩
    have hgz : getEy (gAfter getEy i a.2.1) = stB fYd (stN 2 fYi (stR fYs y0)) := by rw [hy0]; rfl
    rw [hgz] at has hrs hgs hb3
    have hu0 : EB G7 v y0.2.1 := by rw [hy0]; exact hvi
    have e0 : y0.2.2 = 0 := by rw [hy0]
    refine c_sub (EyO ep v y0.2.2 :: RpO b1 t6.1 vl (.slice none 0 0) :: (B ++ F)) (by rw [e0]; exact sbx) ?_
    clear hy0 hgz e0
    refine ww ?_
    refine c_cons (s_call (xs := [_, _]) rfl rfl rfl rfl rfl rfl (by kernel_rfl) (fun w hs => etext_c ep _ y0.2.2 y0.2.1 65535 _ w _ _ hu0 hs) ?_)
    rintro e w' ⟨G8, u1, rfl, hG8, hu1, hs'⟩; refine a_ret ?_ hs'; clear hs'
    obtain ⟨y1, hy1⟩ : ∃ x, x = stR fYs y0 := ⟨_, rfl⟩
    rw [← hy1] at has hrs hgs hb3
    change EB G8 u1 (stR fYs y0).2.1 at hu1
    change Holds _ _ _ _ _ (EyO ep u1 (stR fYs y0).2.2 :: RpO b1 t6.1 vl (.slice none 0 0) :: (B ++ F)) _
    rw [← hy1] at hu1 ⊢
    refine ww ?_
    refine c_cons (s_call (xs := [_, _]) rfl rfl rfl rfl rfl rfl (by kernel_rfl) (fun w hs => enum_c ep _ y1.2.2 y1.2.1 2 _ w _ _ hu1 hs) ?_)
    rintro e w' ⟨u2, rfl, hu2, hs'⟩; refine a_ret ?_ hs'; clear hs'
    obtain ⟨y2, hy2⟩ : ∃ x, x = stN 2 fYi y1 := ⟨_, rfl⟩
    rw [← hy2] at has hrs hgs hb3
    change EB G8 u2 (stN 2 fYi y1).2.1 at hu2
    change Holds _ _ _ _ _ (EyO ep u2 (stN 2 fYi y1).2.2 :: RpO b1 t6.1 vl (.slice none 0 0) :: (B ++ F)) _
    rw [← hy2] at hu2 ⊢
    replace hRL := hRL.mono fun c x => EyC.up _ _ c x hG8
    refine ww ?_
    refine r_startS [RpO b1 t6.1 vl (.slice none 0 0)] [10] (by kernel_rfl) (fun w h => h.sb) ?_
    refine r_tk 0 rfl rfl (v_field 6 rfl (by kernel_rfl)) (fun _ h => (h.sb)) ?_
    refine r_tk 1 rfl rfl (v_load rfl (Cel.head rfl) (by kernel_rfl)) (fun _ h => (h.sb)) ?_
    refine r_tk 2 rfl rfl (v_move rfl) (fun _ h => (h.sb)) ?_
    refine r_tk 3 rfl rfl (v_move rfl) (fun _ h => (h.sb)) ?_
    refine r_tk 4 rfl rfl (v_move rfl) (fun _ h => (h.sb)) ?_
    refine r_one 5 (by kernel_rfl) rfl ?_
    refine s_call (xs := [_]) rfl rfl rfl rfl rfl rfl (by kernel_rfl) (fun w hs => ebool_c ep _ y2.2.2 y2.2.1 _ w _ _ hu2 hs) ?_
    rintro e w' ⟨u3, rfl, hu3, hs'⟩; refine a_ret ?_ hs'; clear hs'
    obtain ⟨y, hy⟩ : ∃ x, x = stB fYd y2 := ⟨_, rfl⟩
    have ey : [St (eRaw y0.2.1 y0.2.2 65535).1, I64 (eNum y1.2.1 y1.2.2 2).1, .bool (eBool y2.2.1 y2.2.2).1] = y.1.cells := by
      rw [hy, hy2, hy1]; rfl
    change EB G8 u3 (stB fYd y2).2.1 at hu3
    change Holds _ _ _ _ _ (EyO ep u3 (stB fYd y2).2.2 :: RpO b1 t6.1 vl (.slice none 0 0) :: (B ++ F)) _
    rw [← hy] at hu3 has hrs hgs hb3 ⊢
    refine r_next (fun w h => (h.sb)) ?_
    refine r_tk 6 rfl rfl (v_build (ps := [_, _, _]) #[St (eRaw y0.2.1 y0.2.2 65535).1, I64 (eNum y1.2.1 y1.2.2 2).1, .bool (eBool y2.2.1 y2.2.2).1] rfl (by kernel_rfl)) (fun _ h => (h.sb)) ?_
    refine r_one 7 (by kernel_rfl) rfl ?_
    refine s_litN [_] (z := .agg #[St [], I64 0, .bool false]) (bs := 32) (e := 58) (sz := 3) (by kernel_rfl) rfl rfl rfl rfl (by simp [Value.cells]) (by decide) (by decide) (by decide) fun b3 => ?_
    refine r_next (fun w h => (h.sb)) ?_
    refine r_one 8 (by kernel_rfl) rfl ?_
    refine s_append (e := 58) (z := .agg #[St [], I64 0, .bool false]) (sz := 3) (bs := 32) (by kernel_rfl) rfl rfl rfl rfl hoL (Chunk.tail (Chunk.tail (Chunk.tail Chunk.head))) (news := y.1.cells) (by rw [← ey]; exact SV.block .head (by simp [maxLen])) rfl (by decide) rfl (by rw [← ey]; simp [Value.oneCell']) (by first | omega | (simp; omega)) (by first | omega | (simp; omega)) fun u4 B3 hown3 => ?_
    refine c_sub (EyO ep u3 y.2.2 :: RpO b1 t6.1 vl (.slice none 0 0) :: (B3 ++ F)) sbx ?_
    refine r_next (fun w h => (h.sb)) ?_
    refine r_tk 9 rfl rfl (v_field 6 rfl (by kernel_rfl)) (fun _ h => (h.sb)) ?_
    refine r_one 10 (by kernel_rfl) rfl ?_
    refine s_store1 rfl rfl rfl (.tail .head) (by kernel_rfl) (own_one hown3) (by simp) ?_
    refine r_late rfl ?_
    refine r_done (by kernel_rfl) ?_
    change Holds _ _ _ _ _ (RpO b1 t6.1 u4 (.slice none 0 0) :: EyO ep u3 y.2.2 :: (B3 ++ F)) _
    refine c_sub (EyO ep u3 y.2.2 :: RpO b1 t6.1 u4 (.slice none 0 0) :: (B3 ++ F)) sbx ?_
    refine ww ?_
    refine c_cons (s_call (xs := [_]) rfl rfl rfl rfl rfl rfl (by kernel_rfl) (fun w hs => ngoing_c ep u3 y.2.2 _ w _ _ hs) ?_)
    rintro e w' ⟨hs', ⟨hb, rfl⟩ | ⟨hb, rfl⟩⟩
    rotate_left
    · refine a_panic ?_ hs'; clear hs'
      repeat (first | refine x_then_panic ?_ | refine x_block_panic ?_)
      exact f_panic (fun w hs => ⟨G8, hG7.trans hG8, .inr ⟨_, rfl, hb, hb3 hb, hs.sb⟩⟩)
    refine a_ret ?_ hs'; clear hs'
    rw [hb]
    refine ww ?_
    exact n_next (x := (i, G7, v, vl, B)) (i + 1, G8, u3, u4, B3) ⟨by omega, hG7.trans hG8, by rw [has]; exact hu3, by dsimp only; rw [hrs]; exact EyRo.snoc hRL (by rw [hrl]; rw [hrl] at hown3; exact hown3), hgs hb⟩ (by dsimp only; omega) ⟨rfl, rfl, rfl, rfl, trivial⟩ rfl sbx
  have hi2 : a.1 = i := by omega
  rw [dqR_all i hi2 hg] at hdm
  generalize gAfter getEy i a.2.1 = ys at hdm hvi
  generalize gRedd getEy i a.2.1 = l at hdm ho
  unfold dqF at hdm
  refine ww ?_
  refine c_cons (s_call (xs := [_, _]) rfl rfl rfl rfl rfl rfl (by kernel_rfl) (fun w hs => eraw_c ep v 0 ys 65535 _ w _ _ hvi hs) ?_)
  generalize eRaw ys 0 65535 = r at hdm ⊢
  rintro e w' ⟨G9, um, v9, rfl, hG9, hum, hv9, hs'⟩; refine a_ret ?_ hs'; clear hs'
  refine c_cons (s_val (v_field 7 rfl (by kernel_rfl)) rfl rfl rfl ?_)
  refine c_cons (s_store1 rfl rfl rfl (.tail .head) (by kernel_rfl) (by obtain ⟨ad, c, rfl⟩ := hum.form; rfl) (by simp) ?_)
  refine ww ?_
  obtain ⟨q, hq⟩ : ∃ q : Np, q = { t6.1 with es := l, m := r.1 } := ⟨_, rfl⟩
  change Holds _ _ _ _ _ (RpO b1 { t6.1 with es := l, m := r.1 } vl um :: EyO ep v9 r.2.2 :: (B ++ F)) _
  have hq1 : l = q.es := by rw [hq]
  have hq2 : r.1 = q.m := by rw [hq]
  rw [← hq] at hdm ⊢
  rw [hq1] at ho
  rw [hq2] at hum
  exact f_end0 rfl (fun w hs => ⟨G9, hG7.trans hG9, .inl ⟨v9, r.2.1, r.2.2, q, vl, um, B, rfl, hv9, hdm, ho.up EyC.up hG9, hum, hs.sb⟩⟩)

theorem ndep_c (vb : Value) (xs : List UInt8) (hxl : xs.length ≤ 1000000) (w0 w : World) (G : Im) (F : Hp) (hvb : EB G vb xs) (hs : Sat w0 w G F) :
    Calls Try.prog 17 #[vb] w fun e w' => ∃ G' ve vm, e = .returned (.tuple #[.agg ((decP xs).1.cells ve vm).toArray, I64 (decP xs).2]) ∧ Im.le G G' ∧ RecV 3 EyC G' ve (decP xs).1.es ∧ EB G' vm (decP xs).1.m ∧ Sat w0 w' G' F := by
  refine f_enter (vs := [_]) Try.func17 rfl Try.ntmps17 (by simp) hs ?_
  refine ww ?_
  refine c_cons (s_allocA (zNp.cells (.slice none 0 0) (.slice none 0 0)) (by kernel_rfl) rfl rfl fun b1 => ?_)
  refine ww ?_
  refine c_cons (s_allocA (zNp.cells (.slice none 0 0) (.slice none 0 0)) (by kernel_rfl) rfl rfl fun b2 => ?_)
  change Holds _ _ _ _ _ ([RpO b2 zNp (.slice none 0 0) (.slice none 0 0)] ++ (RpO b1 zNp (.slice none 0 0) (.slice none 0 0) :: F)) _
  refine ww ?_
  refine c_cons (s_call (xs := [_, _]) rfl rfl rfl rfl rfl rfl (by kernel_rfl) (fun w hs => nread_c vb xs hxl 60 #[Pt b2 0] (by kernel_rfl)
    (fun G' H' ys bad => ∃ q ve vm B, (decP xs = if endS ys bad ≠ 0 then (zNp, endS ys bad) else (q, 0)) ∧ EyRo G' ve q.es B ∧ EB G' vm q.m ∧ H' = RpO b2 q ve vm :: B)
    (fun c G' H' => c ≠ 0 ∧ decP xs = (zNp, c) ∧ H' = []) _ w G [RpO b2 zNp (.slice none 0 0) (.slice none 0 0)] _ hvb hs (fun ep v G1 F w hG1 hv hs => (ndep1_c b2 ep v xs w0 w G1 F hv hs).mono (by
    rintro e w' ⟨G', hG', ⟨v', ys, bad, q, ve, vm, B, rfl, hv', hq, ho, hm, hs'⟩ | ⟨c, rfl, h0, hq, hs'⟩⟩
    · exact ⟨G', RpO b2 q ve vm :: B, hG', .inl ⟨v', ys, bad, hv', hs'.sb, rfl, q, ve, vm, B, hq, ho, hm, rfl⟩⟩
    · exact ⟨G', [], hG', .inr ⟨c, hs', rfl, h0, hq, rfl⟩⟩))) ?_)
  rintro e w' ⟨G', H', hG', hs', ⟨ys, bad, rfl, q, ve, vm, B, hq, ho, hm, rfl⟩ | ⟨c, rfl, h0, hq, rfl⟩⟩
  · refine a_ret ?_ hs'; clear hs'
    generalize endS ys bad = en at hq ⊢
    by_cases hy : en = 0
    rotate_left
    · rw [if_pos hy] at hq
      rw [hq]
      refine ww ?_
      refine c_cond_d rfl (fun c1 => ?_) (fun c1 => absurd hy c1)
      refine ww ?_
      refine c_cons (s_val (v_build (ps := []) (zNp.cells (.slice none 0 0) (.slice none 0 0)).toArray rfl (by kernel_rfl)) rfl rfl rfl ?_)
      refine ww ?_
      refine c_sub (RpO b1 zNp (.slice none 0 0) (.slice none 0 0) :: F) sbx ?_
      refine c_cons (s_storeA (vs := zNp.cells (.slice none 0 0) (.slice none 0 0)) rfl rfl rfl .head (by kernel_rfl) (by simp [Value.oneCell']) rfl ?_)
      refine ww ?_
      exact f_retA1 (vs := zNp.cells (.slice none 0 0) (.slice none 0 0)) rfl rfl rfl (by kernel_rfl) (by kernel_rfl) rfl (fun j u hj => Cel.all hj) (fun w hs => ⟨G', _, _, rfl, hG', RecV.nil, SV.nil _ _, hs.tl⟩)
    · rw [if_neg (fun k => k hy)] at hq
      rw [hq]
      obtain ⟨L, hoL, hRL⟩ := ho
      obtain ⟨ad1, cp1, rfl⟩ := hoL.form
      obtain ⟨ad2, cp2, hve⟩ := hm.form
      subst hve
      refine ww ?_
      refine c_cond_d rfl (fun c1 => absurd hy c1) (fun c1 => ?_)
      refine ww ?_
      refine c_cons (s_val (v_loadAgg (vs := q.cells (.slice ad1 q.es.length cp1) (.slice ad2 q.m.length cp2)) rfl (by kernel_rfl) (by kernel_rfl) rfl (fun j u hj => (Cel.all hj))) rfl rfl rfl ?_)
      refine c_sub (RpO b1 zNp (.slice none 0 0) (.slice none 0 0) :: (B ++ F)) sbx ?_
      refine c_cons (s_storeA (vs := q.cells (.slice ad1 q.es.length cp1) (.slice ad2 q.m.length cp2)) rfl rfl rfl .head (by kernel_rfl) (by simp [Value.oneCell']) rfl ?_)
      refine c_freezeO hoL (Chunk.tail Chunk.head) fun G2 hG2 hsv => ?_
      refine ww ?_
      exact f_retA1 (vs := q.cells (.slice ad1 q.es.length cp1) (.slice ad2 q.m.length cp2)) rfl rfl rfl (by kernel_rfl) (by kernel_rfl) rfl (fun j u hj => Cel.all hj) (fun w hs => ⟨G2, _, _, rfl, hG'.trans hG2, ⟨L, hsv, hRL.mono fun c x => EyC.up _ _ c x hG2⟩, hm.up hG2, hs.tl⟩)
  · refine a_ret ?_ hs'; clear hs'
    rw [hq]
    refine ww ?_
    refine c_cond_d rfl (fun c1 => ?_) (fun c1 => absurd h0 c1)
    refine ww ?_
    refine c_cons (s_val (v_build (ps := []) (zNp.cells (.slice none 0 0) (.slice none 0 0)).toArray rfl (by kernel_rfl)) rfl rfl rfl ?_)
    refine ww ?_
    refine c_sub (RpO b1 zNp (.slice none 0 0) (.slice none 0 0) :: F) sbx ?_
    refine c_cons (s_storeA (vs := zNp.cells (.slice none 0 0) (.slice none 0 0)) rfl rfl rfl .head (by kernel_rfl) (by simp [Value.oneCell']) rfl ?_)
    refine ww ?_
    exact f_retA1 (vs := zNp.cells (.slice none 0 0) (.slice none 0 0)) rfl rfl rfl (by kernel_rfl) (by kernel_rfl) rfl (fun j u hj => Cel.all hj) (fun w hs => ⟨G', _, _, rfl, hG', RecV.nil, SV.nil _ _, hs.tl⟩)
end

section
open Go
set_option linter.unusedVariables false
set_option linter.unusedSimpArgs false
set_option maxHeartbeats 1600000

theorem lowB_mk (m : Nat) (c : UInt8) : lowB ((m * 256 + c.toNat : Nat) : Int) = c := by
  have h := lowB_nat ((m * 256 + c.toNat : Nat) : Int)
  have hc := c.toNat_lt
  apply UInt8.toNat_inj.1
  omega
theorem be_num : ∀ (n : Nat) (ys : List UInt8), ys.length = n → be (num ys : Int) n = ys
  | 0, ys, h => by
    have : ys = [] := List.eq_nil_of_length_eq_zero h
    subst this; simp [be]
  | n + 1, ys, h => by
    have hne : ys ≠ [] := by intro e; rw [e] at h; simp at h
    have e := (List.dropLast_concat_getLast hne).symm
    have hl : ys.dropLast.length = n := by rw [List.length_dropLast]; omega
    generalize ys.dropLast = zs at e hl
    generalize ys.getLast hne = c at e
    subst e
    have hc := c.toNat_lt
    rw [be_succ, num_snoc, lowB_mk, show ((num zs * 256 + c.toNat : Nat) : Int) / 256 = (num zs : Int) by omega, be_num n zs hl]
theorem eNum_inv {xs : List UInt8} {bad i : Int} {n : Nat} (hi : i = (n : Int)) (h : (eNum xs bad i).2.2 = 0) : bad = 0 ∧ xs = be (eNum xs bad i).1 n ++ (eNum xs bad i).2.1 := by
  subst hi
  unfold eNum at h ⊢
  split at h
  · rename_i hb; exact absurd h hb
  · rename_i hb
    rw [if_neg hb]
    refine ⟨by omega, ?_⟩
    unfold rNum at h ⊢
    split at h
    · exact absurd h (by show ¬ (1 : Int) = 0; decide)
    · rename_i h1
      rw [if_neg h1]
      split at h
      · exact absurd h (by show ¬ (2 : Int) = 0; decide)
      · rename_i h2
        rw [if_neg h2]
        show xs = be ((num (xs.take (n : Int).toNat) : Nat) : Int) n ++ xs.drop (n : Int).toNat
        rw [Int.toNat_natCast] at h2 ⊢
        rw [be_num n (xs.take n) (by rw [List.length_take]; omega), List.take_append_drop]
theorem nx_inv {s : Int × List UInt8 × Int} {i : Int} {n : Nat} (hi : i = (n : Int)) (h : (nx s i).2.2 = 0) : s.2.2 = 0 ∧ s.2.1 = be (nx s i).1 n ++ (nx s i).2.1 := eNum_inv hi h
theorem getP_inv {xs : List UInt8} {bad : Int} (h : (getP xs bad).2.2 = 0) : bad = 0 ∧ xs = bsP (getP xs bad).1 ++ (getP xs bad).2.1 := by
  unfold getP at h ⊢
  obtain ⟨k5, e5⟩ := nx_inv (i := 1) (n := 1) rfl h
  obtain ⟨k4, e4⟩ := nx_inv (i := 2) (n := 2) rfl k5
  obtain ⟨k3, e3⟩ := nx_inv (i := 4) (n := 4) rfl k4
  obtain ⟨k2, e2⟩ := nx_inv (i := 3) (n := 3) rfl k3
  obtain ⟨k1, e1⟩ := eNum_inv (i := 1) (n := 1) rfl k2
  refine ⟨k1, ?_⟩
  unfold bsP
  dsimp only
  simp only [List.append_assoc]
  rw [← e5, ← e4, ← e3, ← e2]
  exact e1
theorem getT_inv {d : Int} {s : Int × List UInt8 × Int} (h : (getT d s).2.2.2 = 0) : s.2.2 = 0 ∧ s.2.1 = (if d = 1 then bsP (getT d s).1 else if d = 3 then bsP (getT d s).2.1 ++ bsP (getT d s).1 else []) ++ (getT d s).2.2.1 ∧ (¬ d = 1 → ¬ d = 3 → (getT d s).1 = p0) ∧ (¬ d = 3 → (getT d s).2.1 = p0) := by
  unfold getT at h ⊢
  by_cases h1 : d = 1
  · simp only [if_pos h1] at h ⊢
    obtain ⟨k, e⟩ := getP_inv h
    exact ⟨k, e, fun h => absurd h1 h, fun _ => by first | trivial | rfl⟩
  · by_cases h3 : d = 3
    · simp only [if_neg h1, if_pos h3] at h ⊢
      obtain ⟨k2, e2⟩ := getP_inv h
      obtain ⟨k1, e1⟩ := getP_inv k2
      refine ⟨k1, ?_, fun _ h => absurd h3 h, fun h => absurd h3 h⟩
      rw [List.append_assoc, ← e2]; exact e1
    · simp only [if_neg h1, if_neg h3] at h ⊢
      exact ⟨h, by simp, fun _ _ => by first | trivial | rfl, fun _ => by first | trivial | rfl⟩
theorem getDl_inv {xs : List UInt8} (h : (getDl xs).2.2 = 0) : mayDl (getDl xs).1 ∧ xs = bsD (getDl xs).1 ++ (getDl xs).2.1 := by
  have hd : (getD0 xs 0).2.2 = 0 ∧ mayDl (getD0 xs 0).1 ∧ getDl xs = getD0 xs 0 := by
    unfold getDl at h ⊢
    split at h
    · rename_i k; exact absurd h k
    · rename_i k
      rw [if_neg k]
      split at h
      · rename_i m
        rw [if_pos m]
        exact ⟨by omega, m, rfl⟩
      · exact absurd h (by show ¬ (4 : Int) = 0; decide)
  obtain ⟨h0, hm, he⟩ := hd
  rw [he]
  refine ⟨hm, ?_⟩
  unfold getD0 getN at h0 ⊢
  obtain ⟨k4, e5, _, _⟩ := getT_inv h0
  obtain ⟨k3, e4⟩ := nx_inv (i := 2) (n := 2) rfl k4
  obtain ⟨k2, e3⟩ := nx_inv (i := 1) (n := 1) rfl k3
  obtain ⟨k1, e2⟩ := nx_inv (i := 2) (n := 2) rfl k2
  obtain ⟨_, e1⟩ := eNum_inv (i := 1) (n := 1) rfl k1
  unfold bsD
  dsimp only
  rw [List.append_assoc, ← e5, List.append_assoc, List.append_assoc, List.append_assoc]
  rw [← e4, ← e3, ← e2]
  exact e1
theorem getDl_bs {x : Dl} (h : mayDl x) (r : List UInt8) : getDl (bsD x ++ r) = (x, r, 0) := by
  obtain ⟨m1, m2, m3, m4⟩ := be_nums h
  obtain ⟨T, hT⟩ : ∃ T, T = (if x.d = 1 then bsP x.t else if x.d = 3 then bsP x.o ++ bsP x.t else []) := ⟨_, rfl⟩
  have e1 : eNum (bsD x ++ r) 0 1 = (x.d, be x.i 2 ++ (be x.b 1 ++ (be x.s 2 ++ (T ++ r))), 0) := by
    unfold bsD
    rw [← hT, List.append_assoc, List.append_assoc, List.append_assoc, List.append_assoc]
    exact yd_num (n := 1) (by decide) m1 _
  have e2 : nx (x.d, be x.i 2 ++ (be x.b 1 ++ (be x.s 2 ++ (T ++ r))), 0) 2 = (x.i, be x.b 1 ++ (be x.s 2 ++ (T ++ r)), 0) := yd_num (n := 2) (by decide) m2 _
  have e3 : nx (x.i, be x.b 1 ++ (be x.s 2 ++ (T ++ r)), 0) 1 = (x.b, be x.s 2 ++ (T ++ r), 0) := yd_num (n := 1) (by decide) m3 _
  have e4 : nx (x.b, be x.s 2 ++ (T ++ r), 0) 2 = (x.s, T ++ r, 0) := yd_num (n := 2) (by decide) m4 _
  have hto : getT x.d (x.s, T ++ r, 0) = (x.t, x.o, r, 0) := by
    unfold getT
    rcases h.2 with ⟨hd, ho⟩ | ⟨hd, ho, ht, _⟩ | ⟨hd, _⟩
    · rw [if_pos hd, hT, if_pos hd]
      dsimp only
      rw [getP_bs h.1.2.2.2.1, ho]
    · rw [if_neg (by omega), if_neg (by omega), hT, if_neg (by omega), if_neg (by omega), ho, ht]
      rfl
    · rw [if_neg (by omega), if_pos hd, hT, if_neg (by omega), if_pos hd]
      dsimp only
      rw [List.append_assoc, getP_bs h.1.2.2.2.2]
      dsimp only
      rw [getP_bs h.1.2.2.2.1]
  have h0 : getD0 (bsD x ++ r) 0 = (x, r, 0) := by
    unfold getD0 getN
    rw [e1]
    dsimp only
    rw [e2, e3, e4]
    dsimp only
    rw [hto]
  unfold getDl
  rw [h0, if_neg (show ¬ (0 : Int) ≠ 0 by decide), if_pos h]

theorem eNum_good {xs : List UInt8} {bad i : Int} {n : Nat} (hi : i = (n : Int)) (h : (eNum xs bad i).2.2 = 0) : goodN (eNum xs bad i).1 i := by
  subst hi
  unfold eNum at h ⊢
  split at h
  · rename_i hb; exact absurd h hb
  · rename_i hb
    rw [if_neg hb]
    unfold rNum at h ⊢
    split at h
    · exact absurd h (by show ¬ (1 : Int) = 0; decide)
    · rename_i h1
      rw [if_neg h1]
      have h1' := Decidable.not_not.1 h1
      split at h
      · exact absurd h (by show ¬ (2 : Int) = 0; decide)
      · rename_i h2
        rw [if_neg h2]
        refine ⟨h1', Int.natCast_nonneg _, ?_⟩
        rw [Int.toNat_natCast] at h2 ⊢
        have k1 := num_lt (xs.take n)
        have k2 : (xs.take n).length = n := by rw [List.length_take]; omega
        rw [k2] at k1
        have k3 : (256 : Nat) ^ n = 2 ^ (8 * n) := by rw [Nat.pow_mul]
        rw [k3] at k1
        show ((num (xs.take n) : Nat) : Int) < 2 ^ (8 * n)
        exact_mod_cast k1

/-! What a pen holds, and what is still to come of b. -/
def V (b : List UInt8) (s : Pn) (R : List UInt8) : Prop := s.2 = 0 ∧ b = s.1 ++ R
/-- A text as it is written. -/
def bR (ys : List UInt8) : List UInt8 := be ys.length 2 ++ ys
def bY (b : Bool) : List UInt8 := [if b then 1 else 0]
section
variable {b : List UInt8} {s : Pn} {R ys : List UInt8}
theorem v_put (h : V b (pput s 0 ys) R) : V b s (ys ++ R) := by
  obtain ⟨h1, h2⟩ := h
  unfold pput at h1 h2
  by_cases k : s.2 = 0
  · rw [if_neg (fun h => h k), if_neg (fun h => h rfl)] at h1 h2
    by_cases k2 : 65536 < s.1.length + ys.length
    · rw [if_pos k2] at h1; exact absurd h1 (by show ¬ (3 : Int) = 0; decide)
    · rw [if_neg k2] at h2
      exact ⟨k, by rw [h2, List.append_assoc]⟩
  · rw [if_pos k] at h1; exact absurd h1 k
theorem w_put (hb : b.length ≤ 65536) (h : V b s (ys ++ R)) : V b (pput s 0 ys) R := by
  obtain ⟨h1, h2⟩ := h
  have hl := congrArg List.length h2
  rw [List.length_append, List.length_append] at hl
  unfold pput
  rw [if_neg (fun h => h h1), if_neg (fun h => h rfl), if_neg (by omega)]
  exact ⟨rfl, by rw [h2, List.append_assoc]⟩
theorem v_put1 {e : Int} (he : e ≠ 0) (h : V b (pput s e ys) R) : False := by
  obtain ⟨h1, h2⟩ := h
  unfold pput at h1
  by_cases k : s.2 = 0
  · rw [if_neg (fun h => h k), if_pos he] at h1; exact he h1
  · rw [if_pos k] at h1; exact k h1
theorem v_num {x i : Int} {n : Nat} (hi : i = (n : Int)) (h : V b (pnum s x i) R) : V b s (be x n ++ R) ∧ goodN x i := by
  unfold pnum at h
  by_cases k : goodN x i
  · rw [if_pos k] at h
    have := v_put h
    rw [hi, Int.toNat_natCast] at this
    exact ⟨this, k⟩
  · rw [if_neg k] at h; exact (v_put1 (by decide) h).elim
theorem w_num {x i : Int} {n : Nat} (hi : i = (n : Int)) (hb : b.length ≤ 65536) (h : V b s (be x n ++ R)) (hg : goodN x i) : V b (pnum s x i) R := by
  unfold pnum
  rw [if_pos hg]
  refine w_put hb ?_
  rw [hi, Int.toNat_natCast]; exact h
theorem bR_eq (ys : List UInt8) : lowB ((ys.length : Int) / 256) :: lowB (ys.length : Int) :: ys = bR ys := by
  unfold bR; rw [be2]; rfl
theorem v_raw (h : V b (praw s ys) R) : V b s (bR ys ++ R) ∧ ys.length ≤ 65535 := by
  unfold praw at h
  by_cases k : 65535 < ys.length
  · rw [if_pos k] at h; exact (v_put1 (by decide) h).elim
  · rw [if_neg k, bR_eq] at h; exact ⟨v_put h, by omega⟩
theorem w_raw (hb : b.length ≤ 65536) (h : V b s (bR ys ++ R)) (hl : ys.length ≤ 65535) : V b (praw s ys) R := by
  unfold praw
  rw [if_neg (by omega), bR_eq]; exact w_put hb h
theorem v_bool {x : Bool} (h : V b (pbool s x) R) : V b s (bY x ++ R) := v_put h
theorem w_bool {x : Bool} (hb : b.length ≤ 65536) (h : V b s (bY x ++ R)) : V b (pbool s x) R := w_put hb h
theorem v_fold {α : Type} {f : Pn → α → Pn} {bs : α → List UInt8} {P : α → Prop} : ∀ (l : List α) (hf : ∀ x ∈ l, ∀ s R, V b (f s x) R → V b s (bs x ++ R) ∧ P x) (s : Pn) (R : List UInt8), V b (l.foldl f s) R → V b s ((l.map bs).flatten ++ R) ∧ ∀ x ∈ l, P x
  | [], hf, s, R, h => ⟨h, by intro x hx; cases hx⟩
  | x :: l, hf, s, R, h => by
    obtain ⟨h1, h2⟩ := v_fold l (fun y hy => hf y (List.mem_cons_of_mem _ hy)) (f s x) R h
    obtain ⟨h3, h4⟩ := hf x (List.mem_cons_self ..) s _ h1
    refine ⟨by simpa only [List.map_cons, List.flatten_cons, List.append_assoc] using h3, fun y hy => ?_⟩
    rcases List.mem_cons.1 hy with rfl | hy
    · exact h4
    · exact h2 y hy
theorem w_fold {α : Type} {f : Pn → α → Pn} {bs : α → List UInt8} : ∀ (l : List α) (hf : ∀ x ∈ l, ∀ s R, V b s (bs x ++ R) → V b (f s x) R) (s : Pn) (R : List UInt8), V b s ((l.map bs).flatten ++ R) → V b (l.foldl f s) R
  | [], hf, s, R, h => h
  | x :: l, hf, s, R, h => by
    refine w_fold l (fun y hy => hf y (List.mem_cons_of_mem _ hy)) (f s x) R (hf x (List.mem_cons_self ..) s _ ?_)
    simpa only [List.map_cons, List.flatten_cons, List.append_assoc] using h
end
/-! Reading: what is read back, and what was read. -/
section
variable {α : Type} {t : α × List UInt8 × Int} {R : List UInt8}
theorem m_num {i : Int} {f : α → Int → α} {x : Int} {n : Nat} (hi : i = (n : Int)) (h : t.2.2 = 0) (e : t.2.1 = be x n ++ R) (hg : goodN x i) : stN i f t = (f t.1 x, R, 0) := by
  have h1 : eNum t.2.1 t.2.2 i = (x, R, 0) := by
    subst hi
    rw [h, e]
    have k := hg.1
    have k2 := hg.2
    rw [Int.toNat_natCast] at k2
    exact yd_num (by omega) k2 R
  unfold stN; rw [h1]
theorem i_num {i : Int} {f : α → Int → α} {n : Nat} (hi : i = (n : Int)) (h : (stN i f t).2.2 = 0) : t.2.2 = 0 ∧ ∃ x, goodN x i ∧ t.2.1 = be x n ++ (stN i f t).2.1 ∧ (stN i f t).1 = f t.1 x := by
  obtain ⟨h1, h2⟩ := eNum_inv (xs := t.2.1) (bad := t.2.2) hi h
  exact ⟨h1, _, eNum_good hi h, h2, rfl⟩
theorem rRaw_mk {ys : List UInt8} {m : Int} (hl : ys.length ≤ 65535) (hm : (ys.length : Int) ≤ m) : rRaw (bR ys ++ R) m = (ys, R, 0) := by
  have h2 := be_len ys.length 2
  have e1 : (bR ys ++ R).take 2 = be ys.length 2 := by unfold bR; rw [List.append_assoc]; exact List.take_left' h2
  have e2 : (bR ys ++ R).drop 2 = ys ++ R := by unfold bR; rw [List.append_assoc]; exact List.drop_left' h2
  have e3 : num (be ys.length 2) = ys.length := by
    have := num_be 2 ys.length (by omega) (by simp only [Nat.reduceMul]; omega)
    exact_mod_cast this
  have e4 : ¬ (bR ys ++ R).length < 2 := by unfold bR; rw [List.length_append, List.length_append, h2]; omega
  unfold rRaw
  rw [if_neg (by omega), if_neg e4, e1, e2, e3, if_neg (by omega), if_neg (by rw [List.length_append]; omega), List.take_left' rfl, List.drop_left' rfl]
theorem m_raw {f : α → List UInt8 → α} {ys : List UInt8} (h : t.2.2 = 0) (e : t.2.1 = bR ys ++ R) (hl : ys.length ≤ 65535) : stR f t = (f t.1 ys, R, 0) := by
  have h1 : eRaw t.2.1 t.2.2 65535 = (ys, R, 0) := by
    rw [h, e]; unfold eRaw; rw [if_neg (by decide)]; exact rRaw_mk hl (by omega)
  unfold stR; rw [h1]
theorem rRaw_inv {xs : List UInt8} {m : Int} (h : (rRaw xs m).2.2 = 0) : xs = bR (rRaw xs m).1 ++ (rRaw xs m).2.1 ∧ (rRaw xs m).1.length ≤ 65535 := by
  unfold rRaw at h ⊢
  split at h
  · exact absurd h (by show ¬ (1 : Int) = 0; decide)
  rename_i h1; rw [if_neg h1]
  split at h
  · exact absurd h (by show ¬ (2 : Int) = 0; decide)
  rename_i h2; rw [if_neg h2]
  split at h
  · exact absurd h (by show ¬ (3 : Int) = 0; decide)
  rename_i h3; rw [if_neg h3]
  split at h
  · exact absurd h (by show ¬ (2 : Int) = 0; decide)
  rename_i h4; rw [if_neg h4]
  have hl : (xs.take 2).length = 2 := by rw [List.length_take]; omega
  have hn := num_lt (xs.take 2)
  rw [hl] at hn
  have hk : ((xs.drop 2).take (num (xs.take 2))).length = num (xs.take 2) := by rw [List.length_take]; omega
  refine ⟨?_, by show ((xs.drop 2).take (num (xs.take 2))).length ≤ 65535; omega⟩
  show xs = bR ((xs.drop 2).take (num (xs.take 2))) ++ (xs.drop 2).drop (num (xs.take 2))
  unfold bR
  rw [hk, be_num 2 _ hl, List.append_assoc, List.take_append_drop, List.take_append_drop]
theorem i_raw {f : α → List UInt8 → α} (h : (stR f t).2.2 = 0) : t.2.2 = 0 ∧ ∃ ys, ys.length ≤ 65535 ∧ t.2.1 = bR ys ++ (stR f t).2.1 ∧ (stR f t).1 = f t.1 ys := by
  unfold stR eRaw at h ⊢
  by_cases hb : t.2.2 = 0
  · rw [if_neg (fun k => k hb)] at h ⊢
    obtain ⟨h1, h2⟩ := rRaw_inv h
    exact ⟨hb, _, h2, h1, rfl⟩
  · rw [if_pos hb] at h; exact absurd h hb
theorem m_bool {f : α → Bool → α} {x : Bool} (h : t.2.2 = 0) (e : t.2.1 = bY x ++ R) : stB f t = (f t.1 x, R, 0) := by
  have h1 : eBool t.2.1 t.2.2 = (x, R, 0) := by
    rw [h, e]; unfold eBool; rw [if_neg (by decide)]
    cases x <;> rfl
  unfold stB; rw [h1]
theorem rBool_inv {xs : List UInt8} (h : (rBool xs).2.2 = 0) : xs = bY (rBool xs).1 ++ (rBool xs).2.1 := by
  cases xs with
  | nil => exact absurd h (by decide)
  | cons c r =>
    unfold rBool at h ⊢
    by_cases hc : 1 < c.toNat
    · simp only [if_pos hc] at h; exact absurd h (by decide)
    · simp only [if_neg hc]
      unfold bY
      by_cases h1 : c.toNat = 1
      · have : c = 1 := UInt8.toNat_inj.1 h1
        subst this; rfl
      · have : c = 0 := UInt8.toNat_inj.1 (by show c.toNat = 0; omega)
        subst this; rfl
theorem i_bool {f : α → Bool → α} (h : (stB f t).2.2 = 0) : t.2.2 = 0 ∧ ∃ x, t.2.1 = bY x ++ (stB f t).2.1 ∧ (stB f t).1 = f t.1 x := by
  unfold stB eBool at h ⊢
  by_cases hb : t.2.2 = 0
  · rw [if_neg (fun k => k hb)] at h ⊢
    exact ⟨hb, _, rBool_inv h, rfl⟩
  · rw [if_pos hb] at h; exact absurd h hb
theorem rdN_mk {get : List UInt8 → α × List UInt8 × Int} {bs : α → List UInt8} : ∀ (l : List α) (hx : ∀ x ∈ l, ∀ R, get (bs x ++ R) = (x, R, 0)) (R : List UInt8), rdN get l.length ((l.map bs).flatten ++ R) = (l, R, 0)
  | [], _, R => rfl
  | x :: l, hx, R => by
    simp only [List.map_cons, List.flatten_cons, List.append_assoc, List.length_cons]
    unfold rdN
    rw [hx x (List.mem_cons_self ..), if_neg (show ¬ (0 : Int) ≠ 0 by decide)]
    dsimp only
    rw [rdN_mk l (fun y hy => hx y (List.mem_cons_of_mem _ hy))]
theorem rdN_inv {get : List UInt8 → α × List UInt8 × Int} {bs : α → List UInt8} {P : α → Prop} (hx : ∀ xs, (get xs).2.2 = 0 → P (get xs).1 ∧ xs = bs (get xs).1 ++ (get xs).2.1) : ∀ (n : Nat) (xs : List UInt8), (rdN get n xs).2.2 = 0 → (rdN get n xs).1.length = n ∧ (∀ x ∈ (rdN get n xs).1, P x) ∧ xs = ((rdN get n xs).1.map bs).flatten ++ (rdN get n xs).2.1
  | 0, xs, _ => ⟨rfl, (by intro x hx; cases hx), rfl⟩
  | n + 1, xs, h => by
    unfold rdN at h ⊢
    by_cases k : (get xs).2.2 ≠ 0
    · rw [if_pos k] at h; exact absurd h k
    · rw [if_neg k] at h ⊢
      obtain ⟨h1, h2, h3⟩ := rdN_inv hx n _ h
      obtain ⟨g1, g2⟩ := hx xs (by omega)
      refine ⟨by simp [h1], ?_, ?_⟩
      · intro x hx
        rcases List.mem_cons.1 hx with rfl | hx
        · exact g1
        · exact h2 x hx
      · simp only [List.map_cons, List.flatten_cons, List.append_assoc]
        rw [← h3]; exact g2
end
/-! Stripes and deltas. -/
def bZ (x : Sz) : List UInt8 := be x.c 1 ++ (be x.l 3 ++ (be x.n 4 ++ be x.z 2))
def goodZ (x : Sz) : Prop := goodN x.c 1 ∧ goodN x.l 3 ∧ goodN x.n 4 ∧ goodN x.z 2
theorem v_sz {b : List UInt8} {s : Pn} {R : List UInt8} {x : Sz} (h : V b (psz s x) R) : V b s (bZ x ++ R) ∧ goodZ x := by
  obtain ⟨h1, g1⟩ := v_num (i := 2) (n := 2) rfl h
  obtain ⟨h2, g2⟩ := v_num (i := 4) (n := 4) rfl h1
  obtain ⟨h3, g3⟩ := v_num (i := 3) (n := 3) rfl h2
  obtain ⟨h4, g4⟩ := v_num (i := 1) (n := 1) rfl h3
  refine ⟨?_, g4, g3, g2, g1⟩
  unfold bZ; simpa only [List.append_assoc] using h4
theorem w_sz {b : List UInt8} (hb : b.length ≤ 65536) {s : Pn} {R : List UInt8} {x : Sz} (hg : goodZ x) (h : V b s (bZ x ++ R)) : V b (psz s x) R := by
  obtain ⟨g1, g2, g3, g4⟩ := hg
  unfold bZ at h
  simp only [List.append_assoc] at h
  exact w_num (i := 2) (n := 2) rfl hb (w_num (i := 4) (n := 4) rfl hb (w_num (i := 3) (n := 3) rfl hb (w_num (i := 1) (n := 1) rfl hb h g1) g2) g3) g4
theorem getSz_bs {x : Sz} (hg : goodZ x) (R : List UInt8) : getSz (bZ x ++ R) = (x, R, 0) := by
  obtain ⟨g1, g2, g3, g4⟩ := hg
  have e1 := m_num (t := (zSz, bZ x ++ R, (0 : Int))) (f := fun (q : Sz) x => { q with c := x }) (x := x.c) (i := 1) (n := 1) (R := be x.l 3 ++ (be x.n 4 ++ (be x.z 2 ++ R))) rfl rfl (by unfold bZ; simp only [List.append_assoc]) g1
  unfold getSz gStr
  rw [e1, m_num (i := 3) (n := 3) (x := x.l) (R := be x.n 4 ++ (be x.z 2 ++ R)) rfl rfl rfl g2, m_num (i := 4) (n := 4) (x := x.n) (R := be x.z 2 ++ R) rfl rfl rfl g3, m_num (i := 2) (n := 2) (x := x.z) (R := R) rfl rfl rfl g4]
theorem getSz_inv {xs : List UInt8} (h : (getSz xs).2.2 = 0) : goodZ (getSz xs).1 ∧ xs = bZ (getSz xs).1 ++ (getSz xs).2.1 := by
  unfold getSz at h ⊢
  obtain ⟨h1, z, g1, e1, q1⟩ := i_num (i := 2) (n := 2) rfl h
  unfold gStr at h1 e1 q1 h ⊢
  obtain ⟨h2, n, g2, e2, q2⟩ := i_num (i := 4) (n := 4) rfl h1
  obtain ⟨h3, l, g3, e3, q3⟩ := i_num (i := 3) (n := 3) rfl h2
  obtain ⟨h4, c, g4, e4, q4⟩ := i_num (i := 1) (n := 1) rfl h3
  rw [q1, q2, q3, q4]
  refine ⟨⟨g4, g3, g2, g1⟩, ?_⟩
  unfold bZ
  simp only [List.append_assoc]
  rw [← e1, ← e2, ← e3]
  exact e4
theorem v_ptr {b : List UInt8} {s : Pn} {R : List UInt8} {x : P5} (h : V b (pptr s x) R) : V b s (bsP x ++ R) := by
  have h1 := (v_num (i := 1) (n := 1) rfl h).1
  have h2 := (v_num (i := 2) (n := 2) rfl h1).1
  have h3 := (v_num (i := 4) (n := 4) rfl h2).1
  have h4 := (v_num (i := 3) (n := 3) rfl h3).1
  have h5 := (v_num (i := 1) (n := 1) rfl h4).1
  unfold bsP; simpa only [List.append_assoc] using h5
theorem goodN_of {x i : Int} {n : Nat} (hi : i = (n : Int)) (hn : 1 ≤ n ∧ n ≤ 7) (h : 0 ≤ x ∧ x < 2 ^ (8 * n)) : goodN x i := by
  subst hi; exact ⟨by omega, h.1, by rw [Int.toNat_natCast]; exact h.2⟩
theorem w_ptr {b : List UInt8} (hb : b.length ≤ 65536) {s : Pn} {R : List UInt8} {x : P5} (hx : mayP x) (h : V b s (bsP x ++ R)) : V b (pptr s x) R := by
  obtain ⟨h1, h2, h3, h4, h5⟩ := mayP_nums hx
  unfold bsP at h
  simp only [List.append_assoc] at h
  exact w_num (i := 1) (n := 1) rfl hb (w_num (i := 2) (n := 2) rfl hb (w_num (i := 4) (n := 4) rfl hb (w_num (i := 3) (n := 3) rfl hb (w_num (i := 1) (n := 1) rfl hb h (goodN_of (i := 1) (n := 1) rfl (by decide) h1)) (goodN_of (i := 3) (n := 3) rfl (by decide) h2)) (goodN_of (i := 4) (n := 4) rfl (by decide) h3)) (goodN_of (i := 2) (n := 2) rfl (by decide) h4)) (goodN_of (i := 1) (n := 1) rfl (by decide) h5)
theorem v_dl {b : List UInt8} {s : Pn} {R : List UInt8} {x : Dl} (h : V b (pdl s x) R) : V b s (bsD x ++ R) := by
  have key : V b (pdlH s x) ((if x.d = 1 then bsP x.t else if x.d = 3 then bsP x.o ++ bsP x.t else []) ++ R) := by
    unfold pdl pdlT at h
    by_cases h1 : x.d = 1
    · rw [if_pos h1] at h ⊢; exact v_ptr h
    · by_cases h3 : x.d = 3
      · rw [if_neg h1, if_pos h3] at h ⊢
        rw [List.append_assoc]; exact v_ptr (v_ptr h)
      · rw [if_neg h1, if_neg h3] at h ⊢; exact h
  have h1 := (v_num (i := 2) (n := 2) rfl key).1
  have h2 := (v_num (i := 1) (n := 1) rfl h1).1
  have h3 := (v_num (i := 2) (n := 2) rfl h2).1
  have h4 := (v_num (i := 1) (n := 1) rfl h3).1
  unfold bsD; simpa only [List.append_assoc] using h4
theorem w_dl {b : List UInt8} (hb : b.length ≤ 65536) {s : Pn} {R : List UInt8} {x : Dl} (hx : mayDl x) (h : V b s (bsD x ++ R)) : V b (pdl s x) R := by
  obtain ⟨m1, m2, m3, m4⟩ := be_nums hx
  have key : V b (pdlH s x) ((if x.d = 1 then bsP x.t else if x.d = 3 then bsP x.o ++ bsP x.t else []) ++ R) := by
    unfold bsD at h
    simp only [List.append_assoc] at h
    exact w_num (i := 2) (n := 2) rfl hb (w_num (i := 1) (n := 1) rfl hb (w_num (i := 2) (n := 2) rfl hb (w_num (i := 1) (n := 1) rfl hb h (goodN_of (i := 1) (n := 1) rfl (by decide) m1)) (goodN_of (i := 2) (n := 2) rfl (by decide) m2)) (goodN_of (i := 1) (n := 1) rfl (by decide) m3)) (goodN_of (i := 2) (n := 2) rfl (by decide) m4)
  unfold pdl pdlT
  by_cases h1 : x.d = 1
  · rw [if_pos h1] at key ⊢; exact w_ptr hb hx.1.2.2.2.1 key
  · by_cases h3 : x.d = 3
    · rw [if_neg h1, if_pos h3] at key ⊢
      rw [List.append_assoc] at key
      exact w_ptr hb hx.1.2.2.2.1 (w_ptr hb hx.1.2.2.2.2 key)
    · rw [if_neg h1, if_neg h3] at key ⊢; exact key
/-! Requests -/
theorem pnq_V {q : Nq} {b : List UInt8} (h : pnq q = (b, 0)) : V b (pnq q) [] := by rw [h]; exact ⟨rfl, by simp⟩
theorem V_pnq {b : List UInt8} {s : Pn} (h : V b s []) : s = (b, 0) := by
  obtain ⟨h1, h2⟩ := h
  rw [List.append_nil] at h2
  exact Prod.ext h2.symm h1
theorem pnq_len (q : Nq) : (pnq q).1.length ≤ 65536 := by
  have h0 : (([], 0) : Pn).1.length ≤ 65536 := by simp
  have h1 : (pnqH ([], 0) q).1.length ≤ 65536 := pnum_len (pnum_len (pnum_len (pbool_len (pbool_len (pbool_len (praw_len (praw_len (pnum_len (pnum_len (pnum_len (pnum_len h0 _ _) _ _) _ _) _ _) _) _) _) _) _) _ _) _ _) _ _
  have h2 : (pnqS (pnqH ([], 0) q) q).1.length ≤ 65536 := fold_len (fun s x h => psz_len h x) _ _ (pnum_len h1 _ _)
  exact fold_len (fun s x h => pdl_len h x) _ _ (pnum_len h2 _ _)
theorem encQ_len (q : Nq) : (encQ q).1.length ≤ 65536 := by
  unfold encQ
  split
  · simp
  split
  · simp
  split
  · simp
  exact pnq_len q
theorem encQ_texts {q : Nq} {b : List UInt8} (h : encQ q = (b, 0)) : q.p.length ≤ 65535 ∧ q.t.length ≤ 65535 := by
  unfold encQ at h
  split at h
  · exact absurd (congrArg Prod.snd h) (by show ¬ (1 : Int) = 0; decide)
  split at h
  · exact absurd (congrArg Prod.snd h) (by show ¬ (1 : Int) = 0; decide)
  split at h
  · exact absurd (congrArg Prod.snd h) (by show ¬ (3 : Int) = 0; decide)
  have hv := pnq_V h
  unfold pnq pnqD at hv
  have v1 := (v_fold (P := fun _ => True) q.ds (fun x _ s R h => ⟨v_dl h, trivial⟩) _ _ hv).1
  have v2 := (v_num (i := 2) (n := 2) rfl v1).1
  unfold pnqS at v2
  have v3 := (v_fold (f := psz) (bs := bZ) (P := fun _ => True) q.ss (fun x _ s R h => ⟨(v_sz h).1, trivial⟩) _ _ v2).1
  have v4 := (v_num (i := 2) (n := 2) rfl v3).1
  unfold pnqH at v4
  have v7 := (v_num (i := 1) (n := 1) rfl (v_num (i := 4) (n := 4) rfl (v_num (i := 3) (n := 3) rfl v4).1).1).1
  obtain ⟨v11, g11⟩ := v_raw (v_bool (v_bool (v_bool v7)))
  exact ⟨(v_raw v11).2, g11⟩
theorem pnp_len (q : Np) : (pnp q).1.length ≤ 65536 := by
  have h0 : (([], 0) : Pn).1.length ≤ 65536 := by simp
  have h1 : (pnpH ([], 0) q).1.length ≤ 65536 := pbool_len (pnum_len (pnum_len (pnum_len (pnum_len (pnum_len h0 _ _) _ _) _ _) _ _) _ _) _
  exact praw_len (fold_len (fun s x h => pey_len h x) _ _ (pnum_len h1 _ _)) _
theorem encP_len (q : Np) : (encP q).1.length ≤ 65536 := by
  unfold encP
  split
  · simp
  exact pnp_len q
theorem decQ_encQ {q : Nq} {b : List UInt8} (h : encQ q = (b, 0)) : decQ b = (q, 0) := by
  unfold encQ at h
  by_cases hk : 1 ≤ q.d ∧ q.d ≤ 11
  rotate_left
  · rw [if_pos hk] at h; exact absurd (congrArg Prod.snd h) (by show ¬ (1 : Int) = 0; decide)
  rw [if_neg (fun k => k hk)] at h
  by_cases hm : ∀ x ∈ q.ds, mayDl x
  rotate_left
  · rw [if_pos hm] at h; exact absurd (congrArg Prod.snd h) (by show ¬ (1 : Int) = 0; decide)
  rw [if_neg (fun k => k hm)] at h
  by_cases hl : 4000 < q.ss.length ∨ 4000 < q.ds.length
  · rw [if_pos hl] at h; exact absurd (congrArg Prod.snd h) (by show ¬ (3 : Int) = 0; decide)
  rw [if_neg hl] at h
  have hv := pnq_V h
  unfold pnq pnqD at hv
  have v1 := (v_fold (P := fun _ => True) q.ds (fun x _ s R h => ⟨v_dl h, trivial⟩) _ _ hv).1
  obtain ⟨v2, g2⟩ := v_num (i := 2) (n := 2) rfl v1
  unfold pnqS at v2
  obtain ⟨v3, hz⟩ := v_fold q.ss (fun x _ s R h => v_sz h) _ _ v2
  obtain ⟨v4, g4⟩ := v_num (i := 2) (n := 2) rfl v3
  unfold pnqH at v4
  obtain ⟨v5, g5⟩ := v_num (i := 3) (n := 3) rfl v4
  obtain ⟨v6, g6⟩ := v_num (i := 4) (n := 4) rfl v5
  obtain ⟨v7, g7⟩ := v_num (i := 1) (n := 1) rfl v6
  have v8 := v_bool v7
  have v9 := v_bool v8
  have v10 := v_bool v9
  obtain ⟨v11, g11⟩ := v_raw v10
  obtain ⟨v12, g12⟩ := v_raw v11
  obtain ⟨v13, g13⟩ := v_num (i := 1) (n := 1) rfl v12
  obtain ⟨v14, g14⟩ := v_num (i := 4) (n := 4) rfl v13
  obtain ⟨v15, g15⟩ := v_num (i := 3) (n := 3) rfl v14
  obtain ⟨v16, g16⟩ := v_num (i := 1) (n := 1) rfl v15
  have eb := v16.2
  rw [List.nil_append] at eb
  clear v16 v15 v14 v13 v12 v11 v10 v9 v8 v7 v6 v5 v4 v3 v2 v1 hv
  obtain ⟨T, hT⟩ : ∃ T, T = (bR q.p ++ (bR q.t ++ (bY q.a ++ (bY q.b ++ (bY q.e ++ (be q.h 1 ++ (be q.x 4 ++ (be q.w 3 ++ (be q.ss.length 2 ++ ((q.ss.map bZ).flatten ++ (be q.ds.length 2 ++ ((q.ds.map bsD).flatten ++ [])))))))))))) := ⟨_, rfl⟩
  rw [← hT] at eb
  have e1 : hdT b = (fD (fS (fL (fC zNq q.c) q.l) q.s) q.d, T, 0) := by
    unfold hdT
    rw [m_num (t := (zNq, b, (0 : Int))) (i := 1) (n := 1) rfl rfl eb g16, m_num (i := 3) (n := 3) rfl rfl rfl g15, m_num (i := 4) (n := 4) rfl rfl rfl g14, m_num (i := 1) (n := 1) rfl rfl rfl g13]
  rw [decQ_ok (by rw [e1]) (by rw [e1]; exact hk), e1, hT]
  unfold dqM midT
  rw [m_raw (f := fP) rfl rfl g12, m_raw (f := fT) rfl rfl g11, m_bool (f := fA) rfl rfl, m_bool (f := fB) rfl rfl, m_bool (f := fE) rfl rfl, m_num (f := fH) (i := 1) (n := 1) rfl rfl rfl g7, m_num (f := fX) (i := 4) (n := 4) rfl rfl rfl g6, m_num (f := fW) (i := 3) (n := 3) rfl rfl rfl g5]
  dsimp only
  have r1 : ∀ (n : Nat) (R : List UInt8), goodN (n : Int) 2 → eNum (be (n : Int) 2 ++ R) 0 2 = ((n : Int), R, 0) := fun n R hg => yd_num (n := 2) (by decide) hg.2 R
  rw [r1 _ _ g4, dqC_ok rfl (by dsimp only; omega)]
  dsimp only
  unfold dqR
  rw [Int.toNat_natCast, rdN_mk q.ss (fun x hx R => getSz_bs (hz x hx) R), if_neg (show ¬ (0 : Int) ≠ 0 by decide)]
  dsimp only
  unfold dqS
  rw [r1 _ _ g2, dqC_ok rfl (by dsimp only; omega)]
  dsimp only
  unfold dqR
  rw [Int.toNat_natCast, rdN_mk q.ds (fun x hx R => getDl_bs (hm x hx) R), if_neg (show ¬ (0 : Int) ≠ 0 by decide)]
  simp only [dqE, fC, fL, fS, fD, fP, fT, fA, fB, fE, fH, fX, fW]
  rfl
theorem dqC_inv {β : Type} {z : β} {k : Int → List UInt8 → β × Int} {n : Int × List UInt8 × Int} (h : (dqC z k n).2 = 0) : n.2.2 = 0 ∧ n.1 ≤ 4000 ∧ dqC z k n = k n.1 n.2.1 := by
  by_cases h1 : n.2.2 = 0
  · by_cases h2 : 4000 < n.1
    · rw [dqC_long h1 h2] at h; exact absurd h (by show ¬ (3 : Int) = 0; decide)
    · exact ⟨h1, by omega, dqC_ok h1 h2⟩
  · rw [dqC_bad h1] at h; exact absurd h h1
theorem dqR_inv {α β : Type} {z : β} {get : List UInt8 → α × List UInt8 × Int} {k : List α → List UInt8 → β × Int} {n : Int} {xs : List UInt8} (h : (dqR z get k n xs).2 = 0) : (rdN get n.toNat xs).2.2 = 0 ∧ dqR z get k n xs = k (rdN get n.toNat xs).1 (rdN get n.toNat xs).2.1 := by
  unfold dqR at h ⊢
  by_cases h1 : (rdN get n.toNat xs).2.2 = 0
  · rw [if_neg (fun k => k h1)]; exact ⟨h1, rfl⟩
  · rw [if_pos h1] at h; exact absurd h h1
theorem encQ_decQ {q : Nq} {b : List UInt8} (hb : b.length ≤ 65536) (h : decQ b = (q, 0)) : encQ q = (b, 0) := by
  have h0 : (hdT b).2.2 = 0 := Decidable.byContradiction fun k => by rw [decQ_bad k] at h; exact k (congrArg Prod.snd h)
  have hk : 1 ≤ (hdT b).1.d ∧ (hdT b).1.d ≤ 11 := Decidable.byContradiction fun k => by rw [decQ_kind h0 k] at h; exact absurd (congrArg Prod.snd h) (by show ¬ (4 : Int) = 0; decide)
  rw [decQ_ok h0 hk] at h
  unfold dqM at h
  have hc := congrArg Prod.snd h
  dsimp only at hc
  obtain ⟨n1, n2, n3⟩ := dqC_inv hc
  rw [n3] at h hc
  obtain ⟨r1, r2⟩ := dqR_inv hc
  rw [r2] at h hc
  obtain ⟨l1, l2, l3⟩ := rdN_inv (fun xs => getSz_inv (xs := xs)) _ _ r1
  have np := eNum_pos (midT (hdT b)).2.1 (midT (hdT b)).2.2 2
  obtain ⟨mb, ne⟩ := eNum_inv (i := 2) (n := 2) rfl n1
  have ng := eNum_good (i := 2) (n := 2) rfl n1
  generalize eNum (midT (hdT b)).2.1 (midT (hdT b)).2.2 2 = n at *
  generalize rdN getSz n.1.toNat n.2.1 = r at *
  unfold dqS at h hc
  obtain ⟨m1, m2, m3⟩ := dqC_inv hc
  rw [m3] at h hc
  obtain ⟨s1, s2⟩ := dqR_inv hc
  rw [s2] at h hc
  obtain ⟨k1, k2, k3⟩ := rdN_inv (fun xs => getDl_inv (xs := xs)) _ _ s1
  have mp := eNum_pos r.2.1 0 2
  obtain ⟨_, me⟩ := eNum_inv (i := 2) (n := 2) rfl m1
  have mg := eNum_good (i := 2) (n := 2) rfl m1
  generalize eNum r.2.1 0 2 = m at *
  generalize rdN getDl m.1.toNat m.2.1 = d at *
  unfold dqE at h hc
  have hnil : d.2.1 = [] := by
    by_cases hx : 0 < d.2.1.length
    · rw [if_pos hx] at hc; exact absurd hc (by show ¬ (3 : Int) = 0; decide)
    · exact List.eq_nil_of_length_eq_zero (by omega)
  rw [hnil, if_neg (by simp)] at h
  rw [hnil] at k3
  have hq := congrArg Prod.fst h
  dsimp only at hq
  clear h hc n3 r2 m3 s2
  unfold midT at mb ne hq
  obtain ⟨c12, x12, g12, e12, q12⟩ := i_num (i := 3) (n := 3) rfl mb
  obtain ⟨c11, x11, g11, e11, q11⟩ := i_num (i := 4) (n := 4) rfl c12
  obtain ⟨c10, x10, g10, e10, q10⟩ := i_num (i := 1) (n := 1) rfl c11
  obtain ⟨c9, x9, e9, q9⟩ := i_bool c10
  obtain ⟨c8, x8, e8, q8⟩ := i_bool c9
  obtain ⟨c7, x7, e7, q7⟩ := i_bool c8
  obtain ⟨c6, x6, g6, e6, q6⟩ := i_raw c7
  obtain ⟨c5, x5, g5, e5, q5⟩ := i_raw c6
  rw [q12, q11, q10, q9, q8, q7, q6, q5] at hq
  rw [ne] at e12
  clear q12 q11 q10 q9 q8 q7 q6 q5 mb ne c12 c11 c10 c9 c8 c7 c6
  have e5' := e5.trans (congrArg (bR x5 ++ ·) (e6.trans (congrArg (bR x6 ++ ·) (e7.trans (congrArg (bY x7 ++ ·) (e8.trans (congrArg (bY x8 ++ ·) (e9.trans (congrArg (bY x9 ++ ·) (e10.trans (congrArg (be x10 1 ++ ·) (e11.trans (congrArg (be x11 4 ++ ·) e12)))))))))))))
  clear e5 e6 e7 e8 e9 e10 e11 e12
  have hkd := hk
  unfold hdT at c5 e5' hq hkd
  obtain ⟨c4, x4, g4, e4, q4⟩ := i_num (i := 1) (n := 1) rfl c5
  obtain ⟨c3, x3, g3, e3, q3⟩ := i_num (i := 4) (n := 4) rfl c4
  obtain ⟨c2, x2, g2, e2, q2⟩ := i_num (i := 3) (n := 3) rfl c3
  obtain ⟨c1, x1, g1, e1, q1⟩ := i_num (i := 1) (n := 1) rfl c2
  rw [q4, q3, q2, q1] at hq hkd
  rw [e5'] at e4
  have eb : b = _ := e1.trans (congrArg (be x1 1 ++ ·) (e2.trans (congrArg (be x2 3 ++ ·) (e3.trans (congrArg (be x3 4 ++ ·) e4)))))
  clear e1 e2 e3 e4 q4 q3 q2 q1 c1 c2 c3 c4 c5 e5'
  have hll : n.1 = r.1.length := by omega
  have hdl : m.1 = d.1.length := by omega
  rw [hll] at eb ng
  rw [hdl] at me mg
  rw [l3, me, k3] at eb
  have hqs : q.ss = r.1 := by rw [← hq]
  have hqd : q.ds = d.1 := by rw [← hq]
  have hqk : q.d = x4 := by rw [← hq]; rfl
  have hkd' : 1 ≤ q.d ∧ q.d ≤ 11 := by rw [hqk]; exact hkd
  unfold encQ
  rw [if_neg (fun k => k hkd'), if_neg (fun k => k (by rw [hqd]; exact k2)), if_neg (by rw [hqs, hqd]; omega)]
  apply V_pnq
  unfold pnq pnqD pnqS pnqH
  rw [hqs, hqd]
  refine w_fold _ (fun x hx s R h => w_dl hb (k2 x hx) h) _ _ ?_
  refine w_num (i := 2) (n := 2) rfl hb ?_ mg
  refine w_fold _ (fun x hx s R h => w_sz hb (l2 x hx) h) _ _ ?_
  refine w_num (i := 2) (n := 2) rfl hb ?_ ng
  rw [← hq]
  refine w_num (i := 3) (n := 3) rfl hb ?_ g12
  refine w_num (i := 4) (n := 4) rfl hb ?_ g11
  refine w_num (i := 1) (n := 1) rfl hb ?_ g10
  refine w_bool hb (w_bool hb (w_bool hb ?_))
  refine w_raw hb ?_ g6
  refine w_raw hb ?_ g5
  refine w_num (i := 1) (n := 1) rfl hb ?_ g4
  refine w_num (i := 4) (n := 4) rfl hb ?_ g3
  refine w_num (i := 3) (n := 3) rfl hb ?_ g2
  refine w_num (i := 1) (n := 1) rfl hb ?_ g1
  exact ⟨rfl, by rw [List.nil_append]; exact eb⟩
theorem decQ_z {b : List UInt8} (h : (decQ b).2 ≠ 0) : (decQ b).1 = zNq := by
  unfold decQ at h ⊢
  split
  · rfl
  rename_i h1
  rw [if_neg h1] at h
  split
  · rfl
  rename_i h2
  rw [if_neg h2] at h
  unfold dqM dqC at h ⊢
  split
  · rfl
  rename_i h3
  rw [if_neg h3] at h
  split
  · rfl
  rename_i h4
  rw [if_neg h4] at h
  unfold dqR at h ⊢
  split
  · rfl
  rename_i h5
  rw [if_neg h5] at h
  unfold dqS dqC at h ⊢
  split
  · rfl
  rename_i h6
  rw [if_neg h6] at h
  split
  · rfl
  rename_i h7
  rw [if_neg h7] at h
  unfold dqR at h ⊢
  split
  · rfl
  rename_i h8
  rw [if_neg h8] at h
  unfold dqE at h ⊢
  split
  · rfl
  rename_i h9
  rw [if_neg h9] at h
  exact absurd rfl h
theorem encQ_few {q : Nq} {b : List UInt8} (h : encQ q = (b, 0)) : q.ss.length ≤ 4000 := by
  unfold encQ at h
  split at h
  · exact absurd (congrArg Prod.snd h) (by show ¬ (1 : Int) = 0; decide)
  split at h
  · exact absurd (congrArg Prod.snd h) (by show ¬ (1 : Int) = 0; decide)
  split at h
  · exact absurd (congrArg Prod.snd h) (by show ¬ (3 : Int) = 0; decide)
  rename_i h1; omega
theorem decQ_few (b : List UInt8) (hb : b.length ≤ 65536) : (decQ b).1.ss.length ≤ 100000 := by
  by_cases h : (decQ b).2 = 0
  · have := encQ_few (encQ_decQ hb (Prod.ext rfl h : decQ b = ((decQ b).1, 0))); omega
  · rw [decQ_z h]; simp [zNq]
/-! Replies -/
def bE (x : Ey) : List UInt8 := bR x.s ++ (be x.i 2 ++ bY x.d)
def goodE (x : Ey) : Prop := x.s.length ≤ 65535 ∧ goodN x.i 2
theorem v_ey {b : List UInt8} {s : Pn} {R : List UInt8} {x : Ey} (h : V b (pey s x) R) : V b s (bE x ++ R) ∧ goodE x := by
  have h1 := v_bool h
  obtain ⟨h2, g2⟩ := v_num (i := 2) (n := 2) rfl h1
  obtain ⟨h3, g3⟩ := v_raw h2
  refine ⟨?_, g3, g2⟩
  unfold bE; simpa only [List.append_assoc] using h3
theorem getEy_bs {x : Ey} (hg : goodE x) (R : List UInt8) : getEy (bE x ++ R) = (x, R, 0) := by
  obtain ⟨g1, g2⟩ := hg
  have e1 := m_raw (t := (zEy, bE x ++ R, (0 : Int))) (f := fYs) (ys := x.s) (R := be x.i 2 ++ (bY x.d ++ R)) rfl (by unfold bE; simp only [List.append_assoc]) g1
  unfold getEy
  rw [e1, m_num (i := 2) (n := 2) (x := x.i) (R := bY x.d ++ R) rfl rfl rfl g2, m_bool (x := x.d) (R := R) rfl rfl]
  rfl
theorem decP_encP {q : Np} {b : List UInt8} (hk : q.e ≤ 18) (h : encP q = (b, 0)) : decP b = (q, 0) := by
  unfold encP at h
  by_cases hl : 4000 < q.es.length
  · rw [if_pos hl] at h; exact absurd (congrArg Prod.snd h) (by show ¬ (3 : Int) = 0; decide)
  rw [if_neg hl] at h
  have hv : V b (pnp q) [] := by rw [h]; exact ⟨rfl, by simp⟩
  unfold pnp at hv
  obtain ⟨v1, g1⟩ := v_raw hv
  obtain ⟨v2, hz⟩ := v_fold q.es (fun x _ s R h => v_ey h) _ _ v1
  obtain ⟨v3, g3⟩ := v_num (i := 2) (n := 2) rfl v2
  unfold pnpH at v3
  have v4 := v_bool v3
  obtain ⟨v5, g5⟩ := v_num (i := 3) (n := 3) rfl v4
  obtain ⟨v6, g6⟩ := v_num (i := 1) (n := 1) rfl v5
  obtain ⟨v7, g7⟩ := v_num (i := 2) (n := 2) rfl v6
  obtain ⟨v8, g8⟩ := v_num (i := 2) (n := 2) rfl v7
  obtain ⟨v9, g9⟩ := v_num (i := 1) (n := 1) rfl v8
  have eb := v9.2
  rw [List.nil_append] at eb
  clear v9 v8 v7 v6 v5 v4 v3 v2 v1 hv
  obtain ⟨T, hT⟩ : ∃ T, T = (be q.i 2 ++ (be q.z 2 ++ (be q.h 1 ++ (be q.w 3 ++ (bY q.d ++ (be q.es.length 2 ++ ((q.es.map bE).flatten ++ (bR q.m ++ [])))))))) := ⟨_, rfl⟩
  rw [← hT] at eb
  have e1 : stN 1 fpE (zNp, b, 0) = (fpE zNp q.e, T, 0) := m_num (t := (zNp, b, (0 : Int))) (i := 1) (n := 1) rfl rfl eb g9
  rw [decP_ok (by rw [e1]) (by rw [e1]; exact hk), e1, hT]
  unfold dqP midP
  rw [m_num (f := fpI) (i := 2) (n := 2) rfl rfl rfl g8, m_num (f := fpZ) (i := 2) (n := 2) rfl rfl rfl g7, m_num (f := fpH) (i := 1) (n := 1) rfl rfl rfl g6, m_num (f := fpW) (i := 3) (n := 3) rfl rfl rfl g5, m_bool (f := fpD) rfl rfl]
  dsimp only
  have r1 : ∀ (n : Nat) (R : List UInt8), goodN (n : Int) 2 → eNum (be (n : Int) 2 ++ R) 0 2 = ((n : Int), R, 0) := fun n R hg => yd_num (n := 2) (by decide) hg.2 R
  rw [r1 _ _ g3, dqC_ok rfl (by dsimp only; omega)]
  dsimp only
  unfold dqR
  rw [Int.toNat_natCast, rdN_mk q.es (fun x hx R => getEy_bs (hz x hx) R), if_neg (show ¬ (0 : Int) ≠ 0 by decide)]
  dsimp only
  unfold dqF
  have r2 : eRaw (bR q.m ++ []) 0 65535 = (q.m, [], 0) := by
    unfold eRaw; rw [if_neg (by decide)]; exact rRaw_mk g1 (by omega)
  rw [r2]
  rfl
end

section
open Go
set_option linter.unusedVariables false
set_option linter.unusedSimpArgs false
set_option maxHeartbeats 1600000
attribute [local irreducible] Code.wp wpList stepK Holds Val wpR Eff Eff0 Code.wpIn wpListIn stepI Exit.then Exit.inBlock bodyPost bodyPostM

theorem rdput_c (pn : Nat) (v : Value) (xs : List UInt8) (B : Hp) (x : Dl) (hx : mayDl x) (hlen : xs.length + 28 ≤ 65536) (w0 w : World) (G : Im) (F : Hp) (hown : OB v xs B) (hs : Sat w0 w G (RP pn v :: (B ++ F))) :
    Calls Try.prog 38 #[Pt pn 0, x.V] w fun e w' => ∃ G' v' B', e = .returned (.tuple #[]) ∧ Im.le G G' ∧ OB v' (xs ++ bsD x) B' ∧ Sat w0 w' G' (RP pn v' :: (B' ++ F)) := by
  obtain ⟨m1, m2, m3, m4⟩ := be_nums hx
  refine f_enter (vs := [_, _]) Try.func38 rfl Try.ntmps38 (by simp) hs ?_
  refine ww ?_
  refine c_cons (s_boxA [_, _, _, _, _, _, _, _, _, _, _, _, _, _] rfl rfl rfl fun b1 => ?_)
  refine c_freeze .head fun F1 hF1 k1 => ?_
  have k3 : F1 b1 = some (Cs (x.cells ++ []) 75) := k1
  refine ww ?_
  refine c_cons (s_val (v_field 0 rfl (by kernel_rfl)) rfl rfl rfl ?_)
  refine c_cons (s_val (v_load rfl (Cel.imm k1 rfl) (by kernel_rfl)) rfl rfl rfl ?_)
  refine c_cons (s_call (xs := [_, _, _]) rfl rfl rfl rfl rfl rfl (by kernel_rfl) (fun w hs => rnum_c pn _ xs B x.d 1 (by decide) m1 (by omega) _ w _ _ hown hs) ?_)
  rintro e w' ⟨v1, B1, rfl, hown1, hs'⟩; refine a_ret ?_ hs'; clear hs'
  refine ww ?_
  refine c_cons (s_val (v_field 1 rfl (by kernel_rfl)) rfl rfl rfl ?_)
  refine c_cons (s_val (v_load rfl (Cel.imm k1 rfl) (by kernel_rfl)) rfl rfl rfl ?_)
  refine c_cons (s_call (xs := [_, _, _]) rfl rfl rfl rfl rfl rfl (by kernel_rfl) (fun w hs => rnum_c pn _ _ B1 x.i 2 (by decide) m2 (by simp only [List.length_append, be_len]; omega) _ w _ _ hown1 hs) ?_)
  rintro e w' ⟨v2, B2, rfl, hown2, hs'⟩; refine a_ret ?_ hs'; clear hs'
  refine ww ?_
  refine c_cons (s_val (v_field 2 rfl (by kernel_rfl)) rfl rfl rfl ?_)
  refine c_cons (s_val (v_load rfl (Cel.imm k1 rfl) (by kernel_rfl)) rfl rfl rfl ?_)
  refine c_cons (s_call (xs := [_, _, _]) rfl rfl rfl rfl rfl rfl (by kernel_rfl) (fun w hs => rnum_c pn _ _ B2 x.b 1 (by decide) m3 (by simp only [List.length_append, be_len]; omega) _ w _ _ hown2 hs) ?_)
  rintro e w' ⟨v3, B3, rfl, hown3, hs'⟩; refine a_ret ?_ hs'; clear hs'
  refine ww ?_
  refine c_cons (s_val (v_field 3 rfl (by kernel_rfl)) rfl rfl rfl ?_)
  refine c_cons (s_val (v_load rfl (Cel.imm k1 rfl) (by kernel_rfl)) rfl rfl rfl ?_)
  refine c_cons (s_call (xs := [_, _, _]) rfl rfl rfl rfl rfl rfl (by kernel_rfl) (fun w hs => rnum_c pn _ _ B3 x.s 2 (by decide) m4 (by simp only [List.length_append, be_len]; omega) _ w _ _ hown3 hs) ?_)
  rintro e w' ⟨v4, B4, rfl, hown4, hs'⟩; refine a_ret ?_ hs'; clear hs'
  have e : bsD x = be x.d 1 ++ be x.i 2 ++ be x.b 1 ++ be x.s 2 ++ (if x.d = 1 then bsP x.t else if x.d = 3 then bsP x.o ++ bsP x.t else []) := rfl
  refine ww ?_
  refine c_cons (s_val (v_field 0 rfl (by kernel_rfl)) rfl rfl rfl ?_)
  refine c_cons (s_val (v_load rfl (Cel.imm k1 rfl) (by kernel_rfl)) rfl rfl rfl ?_)
  refine ww ?_
  refine c_cond_d rfl (fun c1 => ?_) (fun c1 => ?_)
  · -- then
    rw [if_pos c1] at e
    refine ww ?_
    refine c_cons (s_val (v_field 4 rfl (by kernel_rfl)) rfl rfl rfl ?_)
    refine c_cons (s_val (v_loadAgg (vs := [I64 x.t.c, I64 x.t.l, I64 x.t.n, I64 x.t.a, I64 x.t.k]) rfl (by kernel_rfl) (by kernel_rfl) rfl (fun j u hj => Cel.imm k3 (to_at x [] j u hj))) rfl rfl rfl ?_)
    refine c_cons (s_call (xs := [_, _]) rfl rfl rfl rfl rfl rfl (by kernel_rfl) (fun w hs => rptr_c pn _ _ B4 x.t hx.1.2.2.2.1 (by simp only [List.length_append, be_len]; omega) _ w _ _ hown4 hs) ?_)
    rintro e w' ⟨v5, B5, rfl, hown5, hs'⟩; refine a_ret ?_ hs'; clear hs'
    refine ww ?_
    exact f_end0 rfl (fun w hs => ⟨F1, v5, B5, rfl, hF1, by rw [e]; simpa only [List.append_assoc] using hown5, hs⟩)
  rw [if_neg c1] at e
  refine ww ?_
  refine c_cond_d rfl (fun c2 => ?_) (fun c2 => ?_)
  · -- then
    rw [if_pos c2] at e
    refine ww ?_
    refine c_cons (s_val (v_field 9 rfl (by kernel_rfl)) rfl rfl rfl ?_)
    refine c_cons (s_val (v_loadAgg (vs := [I64 x.o.c, I64 x.o.l, I64 x.o.n, I64 x.o.a, I64 x.o.k]) rfl (by kernel_rfl) (by kernel_rfl) rfl (fun j u hj => Cel.imm k3 (old_at x [] j u hj))) rfl rfl rfl ?_)
    refine c_cons (s_call (xs := [_, _]) rfl rfl rfl rfl rfl rfl (by kernel_rfl) (fun w hs => rptr_c pn _ _ B4 x.o hx.1.2.2.2.2 (by simp only [List.length_append, be_len]; omega) _ w _ _ hown4 hs) ?_)
    rintro e w' ⟨v6, B6, rfl, hown6, hs'⟩; refine a_ret ?_ hs'; clear hs'
    refine ww ?_
    refine c_cons (s_val (v_field 4 rfl (by kernel_rfl)) rfl rfl rfl ?_)
    refine c_cons (s_val (v_loadAgg (vs := [I64 x.t.c, I64 x.t.l, I64 x.t.n, I64 x.t.a, I64 x.t.k]) rfl (by kernel_rfl) (by kernel_rfl) rfl (fun j u hj => Cel.imm k3 (to_at x [] j u hj))) rfl rfl rfl ?_)
    refine c_cons (s_call (xs := [_, _]) rfl rfl rfl rfl rfl rfl (by kernel_rfl) (fun w hs => rptr_c pn _ _ B6 x.t hx.1.2.2.2.1 (by simp only [List.length_append, be_len, bsP_len]; omega) _ w _ _ hown6 hs) ?_)
    rintro e w' ⟨v7, B7, rfl, hown7, hs'⟩; refine a_ret ?_ hs'; clear hs'
    refine ww ?_
    exact f_end0 rfl (fun w hs => ⟨F1, v7, B7, rfl, hF1, by rw [e]; simpa only [List.append_assoc] using hown7, hs⟩)
  rw [if_neg c2, List.append_nil] at e
  refine ww ?_
  exact f_end0 rfl (fun w hs => ⟨F1, v4, B4, rfl, hF1, by rw [e]; simpa only [List.append_assoc] using hown4, hs⟩)

theorem rdget_c (ep : Nat) (v : Value) (xs : List UInt8) (w0 w : World) (G : Im) (F : Hp) (hv : EB G v xs) (hs : Sat w0 w G (EyR ep v 0 :: F)) :
    Calls Try.prog 55 #[Pt ep 0] w fun e w' => ∃ v', e = .returned (getDl xs).1.V ∧ EB G v' (getDl xs).2.1 ∧ Sat w0 w' G (EyR ep v' (getDl xs).2.2 :: F) := by
  refine f_enter (vs := [_]) Try.func55 rfl Try.ntmps55 (by simp) hs ?_
  unfold getDl getD0 getN
  refine ww ?_
  refine c_cons (s_allocA Zs (by kernel_rfl) rfl rfl fun b1 => ?_)
  refine ww ?_
  refine c_cons (s_val (v_build (ps := []) #[I64 0, I64 0, I64 0, I64 0, I64 0, I64 0, I64 0, I64 0, I64 0, I64 0, I64 0, I64 0, I64 0, I64 0] rfl (by kernel_rfl)) rfl rfl rfl ?_)
  refine c_cons (s_allocA Zs (by kernel_rfl) rfl rfl fun b2 => ?_)
  refine c_cons (s_storeA (vs := Zs) rfl rfl rfl .head (by kernel_rfl) (by simp [Value.oneCell']) rfl ?_)
  change Holds _ _ _ _ _ (DeO b2 zD :: DeO b1 zD :: EyR ep v 0 :: F) _
  refine c_sub (EyR ep v 0 :: DeO b2 zD :: DeO b1 zD :: F) sbx ?_
  refine ww ?_
  refine c_cons (s_call (xs := [_, _]) rfl rfl rfl rfl rfl rfl (by kernel_rfl) (fun w hs => renum_c ep _ 0 xs 1 _ w _ _ hv hs) ?_)
  generalize eNum xs 0 1 = a
  rintro e w' ⟨v1, rfl, hv1, hs'⟩; refine a_ret ?_ hs'; clear hs'
  refine c_cons (s_val (v_field 0 rfl (by kernel_rfl)) rfl rfl rfl ?_)
  refine c_cons (s_store1 rfl rfl rfl (.tail .head) (by kernel_rfl) rfl (by simp) ?_)
  change Holds _ _ _ _ _ (DeO b2 ⟨a.1, 0, 0, 0, p0, p0⟩ :: EyR ep v1 a.2.2 :: DeO b1 zD :: F) _
  refine c_sub (EyR ep v1 a.2.2 :: DeO b2 ⟨a.1, 0, 0, 0, p0, p0⟩ :: DeO b1 zD :: F) sbx ?_
  refine ww ?_
  refine c_cons (s_call (xs := [_, _]) rfl rfl rfl rfl rfl rfl (by kernel_rfl) (fun w hs => renum_c ep _ a.2.2 a.2.1 2 _ w _ _ hv1 hs) ?_)
  rw [show eNum a.2.1 a.2.2 2 = nx a 2 from rfl]
  generalize nx a 2 = b
  rintro e w' ⟨v2, rfl, hv2, hs'⟩; refine a_ret ?_ hs'; clear hs'
  refine c_cons (s_val (v_field 1 rfl (by kernel_rfl)) rfl rfl rfl ?_)
  refine c_cons (s_store1 rfl rfl rfl (.tail .head) (by kernel_rfl) rfl (by simp) ?_)
  change Holds _ _ _ _ _ (DeO b2 ⟨a.1, b.1, 0, 0, p0, p0⟩ :: EyR ep v2 b.2.2 :: DeO b1 zD :: F) _
  refine c_sub (EyR ep v2 b.2.2 :: DeO b2 ⟨a.1, b.1, 0, 0, p0, p0⟩ :: DeO b1 zD :: F) sbx ?_
  refine ww ?_
  refine c_cons (s_call (xs := [_, _]) rfl rfl rfl rfl rfl rfl (by kernel_rfl) (fun w hs => renum_c ep _ b.2.2 b.2.1 1 _ w _ _ hv2 hs) ?_)
  rw [show eNum b.2.1 b.2.2 1 = nx b 1 from rfl]
  generalize nx b 1 = c
  rintro e w' ⟨v3, rfl, hv3, hs'⟩; refine a_ret ?_ hs'; clear hs'
  refine c_cons (s_val (v_field 2 rfl (by kernel_rfl)) rfl rfl rfl ?_)
  refine c_cons (s_store1 rfl rfl rfl (.tail .head) (by kernel_rfl) rfl (by simp) ?_)
  change Holds _ _ _ _ _ (DeO b2 ⟨a.1, b.1, c.1, 0, p0, p0⟩ :: EyR ep v3 c.2.2 :: DeO b1 zD :: F) _
  refine c_sub (EyR ep v3 c.2.2 :: DeO b2 ⟨a.1, b.1, c.1, 0, p0, p0⟩ :: DeO b1 zD :: F) sbx ?_
  refine ww ?_
  refine c_cons (s_call (xs := [_, _]) rfl rfl rfl rfl rfl rfl (by kernel_rfl) (fun w hs => renum_c ep _ c.2.2 c.2.1 2 _ w _ _ hv3 hs) ?_)
  rw [show eNum c.2.1 c.2.2 2 = nx c 2 from rfl]
  generalize nx c 2 = d
  rintro e w' ⟨v4, rfl, hv4, hs'⟩; refine a_ret ?_ hs'; clear hs'
  refine c_cons (s_val (v_field 3 rfl (by kernel_rfl)) rfl rfl rfl ?_)
  refine c_cons (s_store1 rfl rfl rfl (.tail .head) (by kernel_rfl) rfl (by simp) ?_)
  change Holds _ _ _ _ _ (DeO b2 ⟨a.1, b.1, c.1, d.1, p0, p0⟩ :: EyR ep v4 d.2.2 :: DeO b1 zD :: F) _
  dsimp only
  obtain ⟨r, hr⟩ : ∃ r, r = getT a.1 d := ⟨_, rfl⟩
  rw [← hr]
  unfold getT at hr
  refine ww ?_
  refine c_cons (s_val (v_field 0 rfl (by kernel_rfl)) rfl rfl rfl ?_)
  refine c_cons (s_val (v_load rfl (Cel.head rfl) (by kernel_rfl)) rfl rfl rfl ?_)
  refine ww ?_
  refine c_cond_d rfl (fun c1 => ?_) (fun c1 => ?_)
  · -- then
    rw [if_pos c1] at hr
    refine c_sub (EyR ep v4 d.2.2 :: DeO b2 ⟨a.1, b.1, c.1, d.1, p0, p0⟩ :: DeO b1 zD :: F) sbx ?_
    refine ww ?_
    refine c_cons (s_call (xs := [_]) rfl rfl rfl rfl rfl rfl (by kernel_rfl) (fun w hs => rgetPtr_c ep v4 d.2.2 d.2.1 _ w _ _ hv4 hs) ?_)
    generalize getP d.2.1 d.2.2 = q at hr ⊢
    subst hr
    rintro e w' ⟨v5, rfl, hv5, hs'⟩; refine a_ret ?_ hs'; clear hs'
    refine c_cons (s_val (v_field 4 rfl (by kernel_rfl)) rfl rfl rfl ?_)
    refine c_cons (s_storeAt (vs := [I64 q.1.c, I64 q.1.l, I64 q.1.n, I64 q.1.a, I64 q.1.k]) rfl rfl rfl (.tail .head) (by kernel_rfl) (by simp [Value.oneCell']) (by simp) ?_)
    change Holds _ _ _ _ _ (DeO b2 ⟨a.1, b.1, c.1, d.1, q.1, p0⟩ :: EyR ep v5 q.2.2 :: DeO b1 zD :: F) _
    generalize hxx : (⟨a.1, b.1, c.1, d.1, q.1, p0⟩ : Dl) = x
    have hv6 := hv5
    refine c_sub (EyR ep v5 q.2.2 :: DeO b2 x :: DeO b1 zD :: F) sbx ?_
    refine ww ?_
    refine c_cons (s_val (v_field 1 rfl (by kernel_rfl)) rfl rfl rfl ?_)
    refine c_cons (s_val (v_load rfl (Cel.head rfl) (by kernel_rfl)) rfl rfl rfl ?_)
    refine ww ?_
    refine c_cond_d rfl (fun c2 => ?_) (fun c2 => ?_)
    · -- then
      rw [if_neg (show ¬ q.2.2 ≠ 0 by omega)]
      refine c_sub (DeO b2 x :: DeO b1 zD :: EyR ep v5 q.2.2 :: F) sbx ?_
      refine ww ?_
      refine c_cons (s_val (v_loadAgg (vs := x.cells) rfl (by kernel_rfl) (by kernel_rfl) rfl (fun j u hj => (Cel.all hj))) rfl rfl rfl ?_)
      refine c_cons (s_call (xs := [_]) rfl rfl rfl rfl rfl rfl (by kernel_rfl) (fun w hs => rdmay_c x _ w _ _ hs) ?_)
      rintro e w' ⟨rfl, hs'⟩; refine a_ret ?_ hs'; clear hs'
      refine c_sub (EyR ep v5 q.2.2 :: DeO b2 x :: DeO b1 zD :: F) sbx ?_
      refine ww ?_
      refine c_cons (s_call (xs := [_, _]) rfl rfl rfl rfl rfl rfl (by kernel_rfl) (fun w hs => rform_c ep _ q.2.2 (!decide (mayDl x)) _ w _ _ hs) ?_)
      rintro e w' ⟨rfl, hs'⟩; refine a_ret ?_ hs'; clear hs'
      refine c_sub (DeO b2 x :: DeO b1 zD :: EyR ep v5 (if q.2.2 = 0 ∧ (!decide (mayDl x)) = true then 4 else q.2.2) :: F) sbx ?_
      refine ww ?_
      refine c_cons (s_val (v_loadAgg (vs := x.cells) rfl (by kernel_rfl) (by kernel_rfl) rfl (fun j u hj => (Cel.all hj))) rfl rfl rfl ?_)
      refine c_cons (s_storeA (vs := x.cells) rfl rfl rfl (.tail (.head)) (by kernel_rfl) (by simp [Value.oneCell']) rfl ?_)
      refine ww ?_
      by_cases hm : mayDl x
      · rw [if_pos hm, if_neg (by simp [hm])]
        exact f_retA (vs := x.cells) rfl rfl (by kernel_rfl) (by kernel_rfl) rfl (fun j u hj => Cel.all hj) (fun w hs => ⟨_, rfl, hv6, hs.sb⟩)
      · rw [if_neg hm, if_pos ⟨c2, by simp [hm]⟩]
        exact f_retA (vs := x.cells) rfl rfl (by kernel_rfl) (by kernel_rfl) rfl (fun j u hj => Cel.all hj) (fun w hs => ⟨_, rfl, hv6, hs.sb⟩)
    rw [if_pos c2]
    refine c_sub (DeO b2 x :: DeO b1 zD :: EyR ep v5 q.2.2 :: F) sbx ?_
    refine ww ?_
    refine c_cons (s_val (v_loadAgg (vs := x.cells) rfl (by kernel_rfl) (by kernel_rfl) rfl (fun j u hj => (Cel.all hj))) rfl rfl rfl ?_)
    refine c_cons (s_storeA (vs := x.cells) rfl rfl rfl (.tail (.head)) (by kernel_rfl) (by simp [Value.oneCell']) rfl ?_)
    refine ww ?_
    exact f_retA (vs := x.cells) rfl rfl (by kernel_rfl) (by kernel_rfl) rfl (fun j u hj => Cel.all hj) (fun w hs => ⟨_, rfl, hv6, hs.sb⟩)
  rw [if_neg c1] at hr
  refine ww ?_
  refine c_cond_d rfl (fun c3 => ?_) (fun c3 => ?_)
  · -- then
    rw [if_pos c3] at hr
    refine c_sub (EyR ep v4 d.2.2 :: DeO b2 ⟨a.1, b.1, c.1, d.1, p0, p0⟩ :: DeO b1 zD :: F) sbx ?_
    refine ww ?_
    refine c_cons (s_call (xs := [_]) rfl rfl rfl rfl rfl rfl (by kernel_rfl) (fun w hs => rgetPtr_c ep v4 d.2.2 d.2.1 _ w _ _ hv4 hs) ?_)
    generalize getP d.2.1 d.2.2 = p at hr ⊢
    rintro e w' ⟨v5, rfl, hv5, hs'⟩; refine a_ret ?_ hs'; clear hs'
    refine c_cons (s_val (v_field 9 rfl (by kernel_rfl)) rfl rfl rfl ?_)
    refine c_cons (s_storeAt (vs := [I64 p.1.c, I64 p.1.l, I64 p.1.n, I64 p.1.a, I64 p.1.k]) rfl rfl rfl (.tail .head) (by kernel_rfl) (by simp [Value.oneCell']) (by simp) ?_)
    change Holds _ _ _ _ _ (DeO b2 ⟨a.1, b.1, c.1, d.1, p0, p.1⟩ :: EyR ep v5 p.2.2 :: DeO b1 zD :: F) _
    refine c_sub (EyR ep v5 p.2.2 :: DeO b2 ⟨a.1, b.1, c.1, d.1, p0, p.1⟩ :: DeO b1 zD :: F) sbx ?_
    refine ww ?_
    refine c_cons (s_call (xs := [_]) rfl rfl rfl rfl rfl rfl (by kernel_rfl) (fun w hs => rgetPtr_c ep v5 p.2.2 p.2.1 _ w _ _ hv5 hs) ?_)
    generalize getP p.2.1 p.2.2 = q at hr ⊢
    subst hr
    rintro e w' ⟨v6, rfl, hv6, hs'⟩; refine a_ret ?_ hs'; clear hs'
    refine c_cons (s_val (v_field 4 rfl (by kernel_rfl)) rfl rfl rfl ?_)
    refine c_cons (s_storeAt (vs := [I64 q.1.c, I64 q.1.l, I64 q.1.n, I64 q.1.a, I64 q.1.k]) rfl rfl rfl (.tail .head) (by kernel_rfl) (by simp [Value.oneCell']) (by simp) ?_)
    change Holds _ _ _ _ _ (DeO b2 ⟨a.1, b.1, c.1, d.1, q.1, p.1⟩ :: EyR ep v6 q.2.2 :: DeO b1 zD :: F) _
    generalize hxx : (⟨a.1, b.1, c.1, d.1, q.1, p.1⟩ : Dl) = x
    refine c_sub (EyR ep v6 q.2.2 :: DeO b2 x :: DeO b1 zD :: F) sbx ?_
    refine ww ?_
    refine c_cons (s_val (v_field 1 rfl (by kernel_rfl)) rfl rfl rfl ?_)
    refine c_cons (s_val (v_load rfl (Cel.head rfl) (by kernel_rfl)) rfl rfl rfl ?_)
    refine ww ?_
    refine c_cond_d rfl (fun c2 => ?_) (fun c2 => ?_)
    · -- then
      rw [if_neg (show ¬ q.2.2 ≠ 0 by omega)]
      refine c_sub (DeO b2 x :: DeO b1 zD :: EyR ep v6 q.2.2 :: F) sbx ?_
      refine ww ?_
      refine c_cons (s_val (v_loadAgg (vs := x.cells) rfl (by kernel_rfl) (by kernel_rfl) rfl (fun j u hj => (Cel.all hj))) rfl rfl rfl ?_)
      refine c_cons (s_call (xs := [_]) rfl rfl rfl rfl rfl rfl (by kernel_rfl) (fun w hs => rdmay_c x _ w _ _ hs) ?_)
      rintro e w' ⟨rfl, hs'⟩; refine a_ret ?_ hs'; clear hs'
      refine c_sub (EyR ep v6 q.2.2 :: DeO b2 x :: DeO b1 zD :: F) sbx ?_
      refine ww ?_
      refine c_cons (s_call (xs := [_, _]) rfl rfl rfl rfl rfl rfl (by kernel_rfl) (fun w hs => rform_c ep _ q.2.2 (!decide (mayDl x)) _ w _ _ hs) ?_)
      rintro e w' ⟨rfl, hs'⟩; refine a_ret ?_ hs'; clear hs'
      refine c_sub (DeO b2 x :: DeO b1 zD :: EyR ep v6 (if q.2.2 = 0 ∧ (!decide (mayDl x)) = true then 4 else q.2.2) :: F) sbx ?_
      refine ww ?_
      refine c_cons (s_val (v_loadAgg (vs := x.cells) rfl (by kernel_rfl) (by kernel_rfl) rfl (fun j u hj => (Cel.all hj))) rfl rfl rfl ?_)
      refine c_cons (s_storeA (vs := x.cells) rfl rfl rfl (.tail (.head)) (by kernel_rfl) (by simp [Value.oneCell']) rfl ?_)
      refine ww ?_
      by_cases hm : mayDl x
      · rw [if_pos hm, if_neg (by simp [hm])]
        exact f_retA (vs := x.cells) rfl rfl (by kernel_rfl) (by kernel_rfl) rfl (fun j u hj => Cel.all hj) (fun w hs => ⟨_, rfl, hv6, hs.sb⟩)
      · rw [if_neg hm, if_pos ⟨c2, by simp [hm]⟩]
        exact f_retA (vs := x.cells) rfl rfl (by kernel_rfl) (by kernel_rfl) rfl (fun j u hj => Cel.all hj) (fun w hs => ⟨_, rfl, hv6, hs.sb⟩)
    rw [if_pos c2]
    refine c_sub (DeO b2 x :: DeO b1 zD :: EyR ep v6 q.2.2 :: F) sbx ?_
    refine ww ?_
    refine c_cons (s_val (v_loadAgg (vs := x.cells) rfl (by kernel_rfl) (by kernel_rfl) rfl (fun j u hj => (Cel.all hj))) rfl rfl rfl ?_)
    refine c_cons (s_storeA (vs := x.cells) rfl rfl rfl (.tail (.head)) (by kernel_rfl) (by simp [Value.oneCell']) rfl ?_)
    refine ww ?_
    exact f_retA (vs := x.cells) rfl rfl (by kernel_rfl) (by kernel_rfl) rfl (fun j u hj => Cel.all hj) (fun w hs => ⟨_, rfl, hv6, hs.sb⟩)
  rw [if_neg c3] at hr
  subst hr
  have hv6 := hv4
  generalize hxx : (⟨a.1, b.1, c.1, d.1, p0, p0⟩ : Dl) = x
  refine c_sub (EyR ep v4 d.2.2 :: DeO b2 x :: DeO b1 zD :: F) sbx ?_
  refine ww ?_
  refine c_cons (s_val (v_field 1 rfl (by kernel_rfl)) rfl rfl rfl ?_)
  refine c_cons (s_val (v_load rfl (Cel.head rfl) (by kernel_rfl)) rfl rfl rfl ?_)
  refine ww ?_
  refine c_cond_d rfl (fun c2 => ?_) (fun c2 => ?_)
  · -- then
    rw [if_neg (show ¬ d.2.2 ≠ 0 by omega)]
    refine c_sub (DeO b2 x :: DeO b1 zD :: EyR ep v4 d.2.2 :: F) sbx ?_
    refine ww ?_
    refine c_cons (s_val (v_loadAgg (vs := x.cells) rfl (by kernel_rfl) (by kernel_rfl) rfl (fun j u hj => (Cel.all hj))) rfl rfl rfl ?_)
    refine c_cons (s_call (xs := [_]) rfl rfl rfl rfl rfl rfl (by kernel_rfl) (fun w hs => rdmay_c x _ w _ _ hs) ?_)
    rintro e w' ⟨rfl, hs'⟩; refine a_ret ?_ hs'; clear hs'
    refine c_sub (EyR ep v4 d.2.2 :: DeO b2 x :: DeO b1 zD :: F) sbx ?_
    refine ww ?_
    refine c_cons (s_call (xs := [_, _]) rfl rfl rfl rfl rfl rfl (by kernel_rfl) (fun w hs => rform_c ep _ d.2.2 (!decide (mayDl x)) _ w _ _ hs) ?_)
    rintro e w' ⟨rfl, hs'⟩; refine a_ret ?_ hs'; clear hs'
    refine c_sub (DeO b2 x :: DeO b1 zD :: EyR ep v4 (if d.2.2 = 0 ∧ (!decide (mayDl x)) = true then 4 else d.2.2) :: F) sbx ?_
    refine ww ?_
    refine c_cons (s_val (v_loadAgg (vs := x.cells) rfl (by kernel_rfl) (by kernel_rfl) rfl (fun j u hj => (Cel.all hj))) rfl rfl rfl ?_)
    refine c_cons (s_storeA (vs := x.cells) rfl rfl rfl (.tail (.head)) (by kernel_rfl) (by simp [Value.oneCell']) rfl ?_)
    refine ww ?_
    by_cases hm : mayDl x
    · rw [if_pos hm, if_neg (by simp [hm])]
      exact f_retA (vs := x.cells) rfl rfl (by kernel_rfl) (by kernel_rfl) rfl (fun j u hj => Cel.all hj) (fun w hs => ⟨_, rfl, hv6, hs.sb⟩)
    · rw [if_neg hm, if_pos ⟨c2, by simp [hm]⟩]
      exact f_retA (vs := x.cells) rfl rfl (by kernel_rfl) (by kernel_rfl) rfl (fun j u hj => Cel.all hj) (fun w hs => ⟨_, rfl, hv6, hs.sb⟩)
  rw [if_pos c2]
  refine c_sub (DeO b2 x :: DeO b1 zD :: EyR ep v4 d.2.2 :: F) sbx ?_
  refine ww ?_
  refine c_cons (s_val (v_loadAgg (vs := x.cells) rfl (by kernel_rfl) (by kernel_rfl) rfl (fun j u hj => (Cel.all hj))) rfl rfl rfl ?_)
  refine c_cons (s_storeA (vs := x.cells) rfl rfl rfl (.tail (.head)) (by kernel_rfl) (by simp [Value.oneCell']) rfl ?_)
  refine ww ?_
  exact f_retA (vs := x.cells) rfl rfl (by kernel_rfl) (by kernel_rfl) rfl (fun j u hj => Cel.all hj) (fun w hs => ⟨_, rfl, hv6, hs.sb⟩)
end
end Go.Proofs.Ytobhlbhklblncaa
