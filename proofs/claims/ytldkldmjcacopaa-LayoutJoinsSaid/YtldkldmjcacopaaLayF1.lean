/- The reference's walks of chapter 13: MayN, Each, long, Read. -/
import Derived.Test.YtldkldmjcacopaaLayR3
import Derived.Test.YtldkldmjcacopaaRefE
namespace Go.Proofs.Ytldkldmjcacopaa
open Go
set_option linter.unusedVariables false
set_option linter.unusedSimpArgs false
set_option maxHeartbeats 1600000
section
variable {w0 w : World} {G : Im} {H : Hp} {n : Nat} {env : Env} {P : Program}
theorem f_retA2 {fn : Func} {R : Ending → World → Prop} {t t2 t3 : Tmp} {ty : TypeId} {b sz : Nat} {vs : List Value} {v2 v3 : Value} (hr : fn.results = #[.cell t ty, .tmp t2, .tmp t3]) (hp : env.lookup t = some (Pt b 0)) (h2 : env.lookup t2 = some v2) (h3 : env.lookup t3 = some v3) (ha : aggB P ty = some true) (hz : szB P ty = some sz) (hl : vs.length = sz)
    (hc : ∀ (j : Nat) u, vs[j]? = some u → Cel G H b (0 + j) u) (hR : ∀ w, Sat w0 w G H → R (.returned (.tuple #[.agg vs.toArray, v2, v3])) w) : Holds n [] w0 env G H (bodyPost P fn R .ret) := fun a w ht hs => by
  have hg := ht.get t _ hp
  have hg2 := ht.get t2 _ h2
  have hg3 := ht.get t3 _ h3
  exact ⟨ht.defers, .tuple #[.agg vs.toArray, v2, v3], by simp [results, hr, hg, hg2, hg3, asAddr, run_loadAgg ha hz hl hc hs], hR w hs⟩
end
theorem long_same {i sz n : Int} (hn : 3 ≤ n ∧ n ≤ 16) (hz : 0 ≤ sz) (hi : 0 ≤ i) : (if i = n - 1 then min (eachS sz n) sz else max (min (eachS sz n) (sz - i * eachS sz n)) 0) = longS i sz n := by
  unfold longS
  obtain ⟨h1, h2⟩ := each_in hn hz
  generalize eachS sz n = e at h1 h2
  split
  · omega
  · have := Int.mul_nonneg hi h1
    generalize i * e = x at this
    omega
attribute [local irreducible] Code.wp wpList stepK Holds Val wpR Eff Eff0 Code.wpIn wpListIn stepI Exit.then Exit.inBlock bodyPost bodyPostM

theorem mayN_c (n : Int) (w0 w : World) (G : Im) (F : Hp) (hs : Sat w0 w G F) :
    Calls Try.prog 37 #[I64 n] w fun e w' => e = .returned (.bool (decide (3 ≤ n ∧ n ≤ 16))) ∧ Sat w0 w' G F := by
  refine f_enter (vs := [_]) Try.func37 rfl Try.ntmps37 (by simp) hs ?_
  refine ww ?_
  refine c_part_d 5 _ rfl (fun c1 => ?_) (fun c1 => ?_)
  · -- t5 = True
    refine ww ?_
    exact f_ret1 rfl rfl (fun w hs => ⟨by rw [decide_eq_decide.2 (show n ≤ 16 ↔ 3 ≤ n ∧ n ≤ 16 by omega)], hs⟩)
  refine ww ?_
  exact f_ret1 rfl rfl (fun w hs => ⟨by rw [decide_eq_false (show ¬ (3 ≤ n ∧ n ≤ 16) by omega)], hs⟩)

theorem reach_c (sz n : Int) (hz : sz ≤ 9223372036854775807) (w0 w : World) (G : Im) (F : Hp) (hs : Sat w0 w G F) :
    Calls Try.prog 26 #[I64 sz, I64 n] w fun e w' => e = .returned (I64 (eachS sz n)) ∧ Sat w0 w' G F := by
  refine f_enter (vs := [_, _]) Try.func26 rfl Try.ntmps26 (by simp) hs ?_
  refine ww ?_
  refine c_part_d 7 _ rfl (fun c1 => ?_) (fun c1 => ?_)
  · -- t7 = True
    refine ww ?_
    refine c_cond_t rfl ?_
    refine ww ?_
    exact f_ret1 rfl rfl (fun w hs => ⟨by unfold eachS; rw [if_neg (by omega)], hs⟩)
  refine ww ?_
  refine c_cons (s_call (xs := [_]) rfl rfl rfl rfl rfl rfl (by kernel_rfl) (fun w hs => mayN_c n _ w _ _ hs) ?_)
  rintro e w' ⟨rfl, hs'⟩; refine a_ret ?_ hs'; clear hs'
  refine ww ?_
  refine c_cond_nd rfl (fun c2 => ?_) (fun c2 => ?_)
  · -- then
    refine ww ?_
    exact f_ret1 rfl rfl (fun w hs => ⟨by unfold eachS; rw [if_neg (by omega)], hs⟩)
  obtain ⟨k, hk⟩ : ∃ k, k = n - 1 := ⟨_, rfl⟩
  have h1 := Int.ediv_nonneg (show 0 ≤ sz - 1 by omega) (show 0 ≤ k by omega)
  have h2 := Int.ediv_le_self k (show 0 ≤ sz - 1 by omega)
  refine ww ?_
  rw [← hk]
  refine c_cons (s_val (v_quo rfl rfl (by omega) (by omega)) rfl rfl rfl ?_)
  refine ww ?_
  exact f_ret1 rfl rfl (fun w hs => ⟨by unfold eachS; rw [if_pos ⟨c2, by omega⟩, hk], hs⟩)

theorem rlong_c (h : Hd) (hi : 0 ≤ h.i ∧ h.i ≤ 255) (hz : 0 ≤ h.z ∧ h.z ≤ 100000) (hn : 3 ≤ h.s ∧ h.s ≤ 16) (w0 w : World) (G : Im) (F : Hp) (hs : Sat w0 w G F) :
    Calls Try.prog 38 #[h.V] w fun e w' => e = .returned (I64 (longS h.i h.z h.s)) ∧ Sat w0 w' G F := by
  refine f_enter (vs := [_]) Try.func38 rfl Try.ntmps38 (by simp) hs ?_
  have hsm := long_same hn hz.1 hi.1
  obtain ⟨h1, h2⟩ := each_in hn hz.1
  refine ww ?_
  refine c_cons (s_boxA [I64 h.c, I64 h.l, I64 h.n, I64 h.i, I64 h.s, I64 h.z] rfl rfl rfl fun b1 => ?_)
  refine ww ?_
  refine c_cons (s_val (v_field 5 rfl (by kernel_rfl)) rfl rfl rfl ?_)
  refine c_cons (s_val (v_load rfl (Cel.head rfl) (by kernel_rfl)) rfl rfl rfl ?_)
  refine c_cons (s_val (v_field 4 rfl (by kernel_rfl)) rfl rfl rfl ?_)
  refine c_cons (s_val (v_load rfl (Cel.head rfl) (by kernel_rfl)) rfl rfl rfl ?_)
  refine c_cons (s_call (xs := [_, _]) rfl rfl rfl rfl rfl rfl (by kernel_rfl) (fun w hs => reach_c h.z h.s (by omega) _ w _ _ hs) ?_)
  rintro e w' ⟨rfl, hs'⟩; refine a_ret ?_ hs'; clear hs'
  generalize eachS h.z h.s = e at h1 h2 hsm ⊢
  have h3 : 0 ≤ h.i * e ∧ h.i * e ≤ 255 * 100000 := ⟨Int.mul_nonneg hi.1 h1, Int.mul_le_mul hi.2 (by omega) h1 (by omega)⟩
  refine ww ?_
  refine c_cons (s_val (v_field 3 rfl (by kernel_rfl)) rfl rfl rfl ?_)
  refine c_cons (s_val (v_load rfl (Cel.head rfl) (by kernel_rfl)) rfl rfl rfl ?_)
  refine c_cons (s_val (v_field 4 rfl (by kernel_rfl)) rfl rfl rfl ?_)
  refine c_cons (s_val (v_load rfl (Cel.head rfl) (by kernel_rfl)) rfl rfl rfl ?_)
  refine ww ?_
  refine c_cond_d rfl (fun c1 => ?_) (fun c1 => ?_)
  · -- then
    rw [if_pos c1] at hsm
    refine ww ?_
    refine c_cons (s_val (v_field 5 rfl (by kernel_rfl)) rfl rfl rfl ?_)
    refine c_cons (s_val (v_load rfl (Cel.head rfl) (by kernel_rfl)) rfl rfl rfl ?_)
    refine ww ?_
    exact f_ret1 rfl rfl (fun w hs => ⟨by rw [← hsm], hs.tl⟩)
  rw [if_neg c1] at hsm
  refine ww ?_
  refine c_cons (s_val (v_field 5 rfl (by kernel_rfl)) rfl rfl rfl ?_)
  refine c_cons (s_val (v_load rfl (Cel.head rfl) (by kernel_rfl)) rfl rfl rfl ?_)
  refine c_cons (s_val (v_field 3 rfl (by kernel_rfl)) rfl rfl rfl ?_)
  refine c_cons (s_val (v_load rfl (Cel.head rfl) (by kernel_rfl)) rfl rfl rfl ?_)
  refine ww ?_
  refine c_cons (s_val (v_mul rfl rfl (by omega)) rfl rfl rfl ?_)
  refine ww ?_
  exact f_ret1 rfl rfl (fun w hs => ⟨by rw [← hsm], hs.tl⟩)

abbrev RhO (b : Nat) (h : Hd) : Nat × Obj := (b, Cs [I64 h.c, I64 h.l, I64 h.n, I64 h.i, I64 h.s, I64 h.z] 31)
theorem rread_c (vb : Value) (b : List UInt8) (hb : b.length ≤ 100000) (w0 w : World) (G : Im) (F : Hp) (hv : SV G [] vb b.length (b.map B8)) (hs : Sat w0 w G F) :
    Calls Try.prog 13 #[vb] w fun e w' => ∃ G' u, e = .returned (.tuple #[(readH b).V, u, I64 (readE b)]) ∧ Im.le G G' ∧ SV G' [] u (readB b).length ((readB b).map B8) ∧ Sat w0 w' G' F := by
  obtain ⟨adb, cpb, rfl⟩ := hv.form
  refine f_enter (vs := [_]) Try.func13 rfl Try.ntmps13 (by simp) hs ?_
  refine ww ?_
  refine c_cons (s_allocA [I64 0, I64 0, I64 0, I64 0, I64 0, I64 0] (by kernel_rfl) rfl rfl fun b1 => ?_)
  refine ww ?_
  refine c_cons (s_val (v_build (ps := [_]) #[.slice adb b.length cpb, I64 0] rfl (by kernel_rfl)) rfl rfl rfl ?_)
  refine c_cons (s_boxA [.slice adb b.length cpb, I64 0] rfl rfl rfl fun ep => ?_)
  refine ww ?_
  refine c_cons (s_val (v_build (ps := []) #[I64 0, I64 0, I64 0, I64 0, I64 0, I64 0] rfl (by kernel_rfl)) rfl rfl rfl ?_)
  refine c_cons (s_allocA [I64 0, I64 0, I64 0, I64 0, I64 0, I64 0] (by kernel_rfl) rfl rfl fun b2 => ?_)
  refine c_cons (s_storeA (vs := [I64 0, I64 0, I64 0, I64 0, I64 0, I64 0]) rfl rfl rfl .head (by kernel_rfl) (by simp [Value.oneCell']) rfl ?_)
  have st1 : EySt b 0 b 0 := .inl ⟨rfl, Nat.zero_le _, rfl⟩
  obtain ⟨v1, hvv⟩ : ∃ v1, v1 = Value.slice adb b.length cpb := ⟨_, rfl⟩
  rw [← hvv] at hv ⊢
  have hv1 : EB G v1 b := hv
  change Holds _ _ _ _ _ ((b2, Cs [I64 0, I64 0, I64 0, I64 0, I64 0, I64 0] 31) :: EyR ep v1 0 :: (b1, Cs [I64 0, I64 0, I64 0, I64 0, I64 0, I64 0] 31) :: F) _
  refine c_sub (EyR ep v1 0 :: (b2, Cs [I64 0, I64 0, I64 0, I64 0, I64 0, I64 0] 31) :: (b1, Cs [I64 0, I64 0, I64 0, I64 0, I64 0, I64 0] 31) :: F) sbx ?_
  obtain ⟨st2, an1⟩ := st1.step 1 (by omega) (by omega) 1 rfl
  refine ww ?_
  refine c_cons (s_call (xs := [_, _]) rfl rfl rfl rfl rfl rfl (by kernel_rfl) (fun w hs => renum_c ep _ 0 b 1 _ w _ _ hv1 hs) ?_)
  rintro e w' ⟨v2, rfl, hv2, hs'⟩; refine a_ret ?_ hs'; clear hs'
  generalize (eNum b 0 1).1 = a1 at an1 ⊢
  generalize (eNum b 0 1).2.1 = xs2 at st2 hv2 ⊢
  generalize (eNum b 0 1).2.2 = bad2 at st2 hv2 ⊢
  refine c_cons (s_val (v_field 0 rfl (by kernel_rfl)) rfl rfl rfl ?_)
  refine c_cons (s_val (v_field 0 rfl (by kernel_rfl)) rfl rfl rfl ?_)
  refine c_cons (s_store1 rfl rfl rfl (.tail .head) (by kernel_rfl) rfl (by simp) ?_)
  change Holds _ _ _ _ _ ((b2, Cs [I64 a1, I64 0, I64 0, I64 0, I64 0, I64 0] 31) :: _) _
  refine c_sub (EyR ep v2 bad2 :: (b2, Cs [I64 a1, I64 0, I64 0, I64 0, I64 0, I64 0] 31) :: (b1, Cs [I64 0, I64 0, I64 0, I64 0, I64 0, I64 0] 31) :: F) sbx ?_
  obtain ⟨st3, an2⟩ := st2.step 3 (by omega) (by omega) 3 rfl
  refine ww ?_
  refine c_cons (s_call (xs := [_, _]) rfl rfl rfl rfl rfl rfl (by kernel_rfl) (fun w hs => renum_c ep _ bad2 xs2 3 _ w _ _ hv2 hs) ?_)
  rintro e w' ⟨v3, rfl, hv3, hs'⟩; refine a_ret ?_ hs'; clear hs'
  generalize (eNum xs2 bad2 3).1 = a2 at an2 ⊢
  generalize (eNum xs2 bad2 3).2.1 = xs3 at st3 hv3 ⊢
  generalize (eNum xs2 bad2 3).2.2 = bad3 at st3 hv3 ⊢
  refine c_cons (s_val (v_field 0 rfl (by kernel_rfl)) rfl rfl rfl ?_)
  refine c_cons (s_val (v_field 1 rfl (by kernel_rfl)) rfl rfl rfl ?_)
  refine c_cons (s_store1 rfl rfl rfl (.tail .head) (by kernel_rfl) rfl (by simp) ?_)
  change Holds _ _ _ _ _ ((b2, Cs [I64 a1, I64 a2, I64 0, I64 0, I64 0, I64 0] 31) :: _) _
  refine c_sub (EyR ep v3 bad3 :: (b2, Cs [I64 a1, I64 a2, I64 0, I64 0, I64 0, I64 0] 31) :: (b1, Cs [I64 0, I64 0, I64 0, I64 0, I64 0, I64 0] 31) :: F) sbx ?_
  obtain ⟨st4, an3⟩ := st3.step 4 (by omega) (by omega) 4 rfl
  refine ww ?_
  refine c_cons (s_call (xs := [_, _]) rfl rfl rfl rfl rfl rfl (by kernel_rfl) (fun w hs => renum_c ep _ bad3 xs3 4 _ w _ _ hv3 hs) ?_)
  rintro e w' ⟨v4, rfl, hv4, hs'⟩; refine a_ret ?_ hs'; clear hs'
  generalize (eNum xs3 bad3 4).1 = a3 at an3 ⊢
  generalize (eNum xs3 bad3 4).2.1 = xs4 at st4 hv4 ⊢
  generalize (eNum xs3 bad3 4).2.2 = bad4 at st4 hv4 ⊢
  refine c_cons (s_val (v_field 0 rfl (by kernel_rfl)) rfl rfl rfl ?_)
  refine c_cons (s_val (v_field 2 rfl (by kernel_rfl)) rfl rfl rfl ?_)
  refine c_cons (s_store1 rfl rfl rfl (.tail .head) (by kernel_rfl) rfl (by simp) ?_)
  change Holds _ _ _ _ _ ((b2, Cs [I64 a1, I64 a2, I64 a3, I64 0, I64 0, I64 0] 31) :: _) _
  refine c_sub (EyR ep v4 bad4 :: (b2, Cs [I64 a1, I64 a2, I64 a3, I64 0, I64 0, I64 0] 31) :: (b1, Cs [I64 0, I64 0, I64 0, I64 0, I64 0, I64 0] 31) :: F) sbx ?_
  obtain ⟨st5, an4⟩ := st4.step 1 (by omega) (by omega) 1 rfl
  refine ww ?_
  refine c_cons (s_call (xs := [_, _]) rfl rfl rfl rfl rfl rfl (by kernel_rfl) (fun w hs => renum_c ep _ bad4 xs4 1 _ w _ _ hv4 hs) ?_)
  rintro e w' ⟨v5, rfl, hv5, hs'⟩; refine a_ret ?_ hs'; clear hs'
  generalize (eNum xs4 bad4 1).1 = a4 at an4 ⊢
  generalize (eNum xs4 bad4 1).2.1 = xs5 at st5 hv5 ⊢
  generalize (eNum xs4 bad4 1).2.2 = bad5 at st5 hv5 ⊢
  refine c_cons (s_val (v_field 3 rfl (by kernel_rfl)) rfl rfl rfl ?_)
  refine c_cons (s_store1 rfl rfl rfl (.tail .head) (by kernel_rfl) rfl (by simp) ?_)
  change Holds _ _ _ _ _ ((b2, Cs [I64 a1, I64 a2, I64 a3, I64 a4, I64 0, I64 0] 31) :: _) _
  refine c_sub (EyR ep v5 bad5 :: (b2, Cs [I64 a1, I64 a2, I64 a3, I64 a4, I64 0, I64 0] 31) :: (b1, Cs [I64 0, I64 0, I64 0, I64 0, I64 0, I64 0] 31) :: F) sbx ?_
  obtain ⟨st6, an5⟩ := st5.step 1 (by omega) (by omega) 1 rfl
  refine ww ?_
  refine c_cons (s_call (xs := [_, _]) rfl rfl rfl rfl rfl rfl (by kernel_rfl) (fun w hs => renum_c ep _ bad5 xs5 1 _ w _ _ hv5 hs) ?_)
  rintro e w' ⟨v6, rfl, hv6, hs'⟩; refine a_ret ?_ hs'; clear hs'
  generalize (eNum xs5 bad5 1).1 = a5 at an5 ⊢
  generalize (eNum xs5 bad5 1).2.1 = xs6 at st6 hv6 ⊢
  generalize (eNum xs5 bad5 1).2.2 = bad6 at st6 hv6 ⊢
  refine c_cons (s_val (v_field 4 rfl (by kernel_rfl)) rfl rfl rfl ?_)
  refine c_cons (s_store1 rfl rfl rfl (.tail .head) (by kernel_rfl) rfl (by simp) ?_)
  change Holds _ _ _ _ _ ((b2, Cs [I64 a1, I64 a2, I64 a3, I64 a4, I64 a5, I64 0] 31) :: _) _
  refine c_sub (EyR ep v6 bad6 :: (b2, Cs [I64 a1, I64 a2, I64 a3, I64 a4, I64 a5, I64 0] 31) :: (b1, Cs [I64 0, I64 0, I64 0, I64 0, I64 0, I64 0] 31) :: F) sbx ?_
  obtain ⟨st7, an6⟩ := st6.step 2 (by omega) (by omega) 2 rfl
  refine ww ?_
  refine c_cons (s_call (xs := [_, _]) rfl rfl rfl rfl rfl rfl (by kernel_rfl) (fun w hs => renum_c ep _ bad6 xs6 2 _ w _ _ hv6 hs) ?_)
  rintro e w' ⟨v7, rfl, hv7, hs'⟩; refine a_ret ?_ hs'; clear hs'
  generalize (eNum xs6 bad6 2).1 = a6 at an6 ⊢
  generalize (eNum xs6 bad6 2).2.1 = xs7 at st7 hv7 ⊢
  generalize (eNum xs6 bad6 2).2.2 = bad7 at st7 hv7 ⊢
  refine c_cons (s_val (v_field 5 rfl (by kernel_rfl)) rfl rfl rfl ?_)
  refine c_cons (s_store1 rfl rfl rfl (.tail .head) (by kernel_rfl) rfl (by simp) ?_)
  change Holds _ _ _ _ _ ((b2, Cs [I64 a1, I64 a2, I64 a3, I64 a4, I64 a5, I64 a6] 31) :: _) _
  refine c_sub (EyR ep v7 bad7 :: (b2, Cs [I64 a1, I64 a2, I64 a3, I64 a4, I64 a5, I64 a6] 31) :: (b1, Cs [I64 0, I64 0, I64 0, I64 0, I64 0, I64 0] 31) :: F) sbx ?_
  refine ww ?_
  refine c_cons (s_val (v_field 1 rfl (by kernel_rfl)) rfl rfl rfl ?_)
  refine c_cons (s_val (v_load rfl (Cel.head rfl) (by kernel_rfl)) rfl rfl rfl ?_)
  refine ww ?_
  by_cases hl : b.length < 12
  · have hb7 : bad7 = 2 := by
      rcases st7 with ⟨h, h2, _⟩ | ⟨h, _⟩
      · omega
      · exact h
    subst hb7
    have hre : readE b = 2 := by unfold readE; rw [if_pos hl]
    refine c_cond_d rfl (fun _ => ?_) (fun h => absurd (show ¬ (2 : Int) = 0 by decide) h)
    have eH : readH b = hd0 := by unfold readH; rw [if_neg (by rw [hre]; decide)]
    have eB : readB b = [] := by unfold readB; rw [if_neg (by rw [hre]; decide)]
    rw [eH, eB, hre]
    refine ww ?_
    refine c_cons (s_val (v_build (ps := []) #[I64 0, I64 0, I64 0, I64 0, I64 0, I64 0] rfl (by kernel_rfl)) rfl rfl rfl ?_)
    refine c_cons (s_storeA (vs := [I64 0, I64 0, I64 0, I64 0, I64 0, I64 0]) rfl rfl rfl (.tail (.tail .head)) (by kernel_rfl) (by simp [Value.oneCell']) rfl ?_)
    refine ww ?_
    exact f_retA2 (vs := [I64 0, I64 0, I64 0, I64 0, I64 0, I64 0]) rfl rfl rfl rfl (by kernel_rfl) (by kernel_rfl) rfl (fun j u hj => Cel.all hj) (fun w hs => ⟨G, _, rfl, Im.le_refl _, SV.nil _ _, hs.sb⟩)
  have hb7 : bad7 = 0 := by
    rcases st7 with ⟨h, _⟩ | ⟨_, h⟩
    · exact h
    · exact absurd h hl
  have hx7 : xs7 = b.drop 12 := by
    rcases st7 with ⟨_, _, h⟩ | ⟨h, _⟩
    · exact h
    · omega
  subst hb7
  rw [hx7] at hv7
  refine c_cond_d rfl (fun h => absurd rfl h) (fun _ => ?_)
  obtain ⟨h, hh⟩ : ∃ h, h = hdOf b := ⟨_, rfl⟩
  have e1 : a1 = h.c := by rw [an1 hl, hh]; rfl
  have e2 : a2 = h.l := by rw [an2 hl, hh]; rfl
  have e3 : a3 = h.n := by rw [an3 hl, hh]; rfl
  have e4 : a4 = h.i := by rw [an4 hl, hh]; rfl
  have e5 : a5 = h.s := by rw [an5 hl, hh]; rfl
  have e6 : a6 = h.z := by rw [an6 hl, hh]; rfl
  rw [e1, e2, e3, e4, e5, e6]
  have hgd := hdOf_gd b
  rw [← hh] at hgd
  refine c_freeze .head fun G1 hG1 k1 => ?_
  refine c_freeze .head fun G2 hG2 k2 => ?_
  replace k1 := hG2 _ _ k1
  have hG12 := hG1.trans hG2
  replace hv7 : SV G2 [] v7 (b.drop 12).length ((b.drop 12).map B8) := hv7.mono hG12 (by simp)
  obtain ⟨adv, cpv, rfl⟩ := hv7.form
  obtain ⟨hg1, hg2, hg3, hg4, hg5, hg6⟩ := hgd
  have bad4 : ¬ hdMay h → readE b = 4 := fun hn => by unfold readE; rw [if_neg hl, if_neg (by rw [← hh]; exact hn)]
  refine ww ?_
  refine r_startS [] [] (by kernel_rfl) (fun w h => h.none) ?_
  refine r_tk 0 rfl rfl (v_field 0 rfl (by kernel_rfl)) (fun _ h => h.none) ?_
  refine r_tk 1 rfl rfl (v_loadAgg (vs := [I64 h.c, I64 h.l, I64 h.n]) rfl (by kernel_rfl) (by kernel_rfl) rfl (fun j u hj => (Cel.imm k2 (by rw [Nat.zero_add]; exact head36 hj)))) (fun _ h => h.none) ?_
  refine r_one 2 (by kernel_rfl) rfl ?_
  refine s_call (xs := [_]) rfl rfl rfl rfl rfl rfl (by kernel_rfl) (fun w hs => mayst_c h.c h.l h.n _ w _ _ hs) ?_
  rintro e w' ⟨rfl, hs'⟩; refine a_ret ?_ hs'; clear hs'
  refine r_next (fun w h => h.none) ?_
  refine r_tk 3 rfl rfl (v_not rfl) (fun _ h => h.none) ?_
  refine r_tk 4 rfl rfl (v_move rfl) (fun _ h => h.none) ?_
  refine c_part_nd 42 _ rfl (fun c1 => ?_) (fun c1 => ?_)
  · refine r_skip 5 rfl (by kernel_rfl) (by kernel_rfl) (by kernel_rfl) (by kernel_rfl) rfl rfl rfl (fun _ h => h.none) (by repeat (first | exact pk_body | exact pk_no | exact pk_S | apply pk_then | apply pk_block)) ?_; refine r_skip 6 rfl (by kernel_rfl) (by kernel_rfl) (by kernel_rfl) (by kernel_rfl) rfl rfl rfl (fun _ h => h.none) (by repeat (first | exact pk_body | exact pk_no | exact pk_S | apply pk_then | apply pk_block)) ?_; refine r_skip 7 rfl (by kernel_rfl) (by kernel_rfl) (by kernel_rfl) (by kernel_rfl) rfl rfl rfl (fun _ h => h.none) (by repeat (first | exact pk_body | exact pk_no | exact pk_S | apply pk_then | apply pk_block)) ?_; refine r_skip 8 rfl (by kernel_rfl) (by kernel_rfl) (by kernel_rfl) (by kernel_rfl) rfl rfl rfl (fun _ h => h.none) (by repeat (first | exact pk_body | exact pk_no | exact pk_S | apply pk_then | apply pk_block)) ?_
    refine r_tk 9 rfl rfl (v_pick_t rfl rfl) (fun _ h => h.none) ?_
    refine r_tk 10 rfl rfl (v_move rfl) (fun _ h => h.none) ?_
    refine r_skip 11 rfl (by kernel_rfl) (by kernel_rfl) (by kernel_rfl) (by kernel_rfl) rfl rfl rfl (fun _ h => h.none) (by repeat (first | exact pk_body | exact pk_no | exact pk_S | apply pk_then | apply pk_block)) ?_; refine r_skip 12 rfl (by kernel_rfl) (by kernel_rfl) (by kernel_rfl) (by kernel_rfl) rfl rfl rfl (fun _ h => h.none) (by repeat (first | exact pk_body | exact pk_no | exact pk_S | apply pk_then | apply pk_block)) ?_; refine r_skip 13 rfl (by kernel_rfl) (by kernel_rfl) (by kernel_rfl) (by kernel_rfl) rfl rfl rfl (fun _ h => h.none) (by repeat (first | exact pk_body | exact pk_no | exact pk_S | apply pk_then | apply pk_block)) ?_; refine r_skip 14 rfl (by kernel_rfl) (by kernel_rfl) (by kernel_rfl) (by kernel_rfl) rfl rfl rfl (fun _ h => h.none) (by repeat (first | exact pk_body | exact pk_no | exact pk_S | apply pk_then | apply pk_block)) ?_; refine r_skip 15 rfl (by kernel_rfl) (by kernel_rfl) (by kernel_rfl) (by kernel_rfl) rfl rfl rfl (fun _ h => h.none) (by repeat (first | exact pk_body | exact pk_no | exact pk_S | apply pk_then | apply pk_block)) ?_
    refine r_tk 16 rfl rfl (v_pick_t rfl rfl) (fun _ h => h.none) ?_
    refine r_tk 17 rfl rfl (v_move rfl) (fun _ h => h.none) ?_
    refine r_skip 18 rfl (by kernel_rfl) (by kernel_rfl) (by kernel_rfl) (by kernel_rfl) rfl rfl rfl (fun _ h => h.none) (by repeat (first | exact pk_body | exact pk_no | exact pk_S | apply pk_then | apply pk_block)) ?_; refine r_skip 19 rfl (by kernel_rfl) (by kernel_rfl) (by kernel_rfl) (by kernel_rfl) rfl rfl rfl (fun _ h => h.none) (by repeat (first | exact pk_body | exact pk_no | exact pk_S | apply pk_then | apply pk_block)) ?_; refine r_skip 20 rfl (by kernel_rfl) (by kernel_rfl) (by kernel_rfl) (by kernel_rfl) rfl rfl rfl (fun _ h => h.none) (by repeat (first | exact pk_body | exact pk_no | exact pk_S | apply pk_then | apply pk_block)) ?_; refine r_skip 21 rfl (by kernel_rfl) (by kernel_rfl) (by kernel_rfl) (by kernel_rfl) rfl rfl rfl (fun _ h => h.none) (by repeat (first | exact pk_body | exact pk_no | exact pk_S | apply pk_then | apply pk_block)) ?_; refine r_skip 22 rfl (by kernel_rfl) (by kernel_rfl) (by kernel_rfl) (by kernel_rfl) rfl rfl rfl (fun _ h => h.none) (by repeat (first | exact pk_body | exact pk_no | exact pk_S | apply pk_then | apply pk_block)) ?_; refine r_skip 23 rfl (by kernel_rfl) (by kernel_rfl) (by kernel_rfl) (by kernel_rfl) rfl rfl rfl (fun _ h => h.none) (by repeat (first | exact pk_body | exact pk_no | exact pk_S | apply pk_then | apply pk_block)) ?_; refine r_skip 24 rfl (by kernel_rfl) (by kernel_rfl) (by kernel_rfl) (by kernel_rfl) rfl rfl rfl (fun _ h => h.none) (by repeat (first | exact pk_body | exact pk_no | exact pk_S | apply pk_then | apply pk_block)) ?_
    refine r_tk 25 rfl rfl (v_pick_t rfl rfl) (fun _ h => h.none) ?_
    refine r_tk 26 rfl rfl (v_move rfl) (fun _ h => h.none) ?_
    refine r_skip 27 rfl (by kernel_rfl) (by kernel_rfl) (by kernel_rfl) (by kernel_rfl) rfl rfl rfl (fun _ h => h.none) (by repeat (first | exact pk_body | exact pk_no | exact pk_S | apply pk_then | apply pk_block)) ?_; refine r_skip 28 rfl (by kernel_rfl) (by kernel_rfl) (by kernel_rfl) (by kernel_rfl) rfl rfl rfl (fun _ h => h.none) (by repeat (first | exact pk_body | exact pk_no | exact pk_S | apply pk_then | apply pk_block)) ?_; refine r_skip 29 rfl (by kernel_rfl) (by kernel_rfl) (by kernel_rfl) (by kernel_rfl) rfl rfl rfl (fun _ h => h.none) (by repeat (first | exact pk_body | exact pk_no | exact pk_S | apply pk_then | apply pk_block)) ?_; refine r_skip 30 rfl (by kernel_rfl) (by kernel_rfl) (by kernel_rfl) (by kernel_rfl) rfl rfl rfl (fun _ h => h.none) (by repeat (first | exact pk_body | exact pk_no | exact pk_S | apply pk_then | apply pk_block)) ?_; refine r_skip 31 rfl (by kernel_rfl) (by kernel_rfl) (by kernel_rfl) (by kernel_rfl) rfl rfl rfl (fun _ h => h.none) (by repeat (first | exact pk_body | exact pk_no | exact pk_S | apply pk_then | apply pk_block)) ?_; refine r_skip 32 rfl (by kernel_rfl) (by kernel_rfl) (by kernel_rfl) (by kernel_rfl) rfl rfl rfl (fun _ h => h.none) (by repeat (first | exact pk_body | exact pk_no | exact pk_S | apply pk_then | apply pk_block)) ?_; refine r_skip 33 rfl (by kernel_rfl) (by kernel_rfl) (by kernel_rfl) (by kernel_rfl) rfl rfl rfl (fun _ h => h.none) (by repeat (first | exact pk_body | exact pk_no | exact pk_S | apply pk_then | apply pk_block)) ?_; refine r_skip 34 rfl (by kernel_rfl) (by kernel_rfl) (by kernel_rfl) (by kernel_rfl) rfl rfl rfl (fun _ h => h.none) (by repeat (first | exact pk_body | exact pk_no | exact pk_S | apply pk_then | apply pk_block)) ?_
    refine r_tk 35 rfl rfl (v_pick_t rfl rfl) (fun _ h => h.none) ?_
    refine r_done (by kernel_rfl) ?_
    refine ww ?_
    refine c_cond_t rfl ?_
    have hre := bad4 (fun hm => by obtain ⟨m1, m2, m3, m4⟩ := hm; first | omega | exact c1 m1)
    have eH : readH b = hd0 := by unfold readH; rw [if_neg (by rw [hre]; decide)]
    have eB : readB b = [] := by unfold readB; rw [if_neg (by rw [hre]; decide)]
    rw [eH, eB, hre]
    refine ww ?_
    refine c_cons (s_val (v_build (ps := []) #[I64 0, I64 0, I64 0, I64 0, I64 0, I64 0] rfl (by kernel_rfl)) rfl rfl rfl ?_)
    refine c_cons (s_storeA (vs := [I64 0, I64 0, I64 0, I64 0, I64 0, I64 0]) rfl rfl rfl .head (by kernel_rfl) (by simp [Value.oneCell']) rfl ?_)
    refine ww ?_
    exact f_retA2 (vs := [I64 0, I64 0, I64 0, I64 0, I64 0, I64 0]) rfl rfl rfl rfl (by kernel_rfl) (by kernel_rfl) rfl (fun j u hj => Cel.all hj) (fun w hs => ⟨G2, _, rfl, hG12, SV.nil _ _, hs.sb⟩)
  refine r_tk 5 rfl rfl (v_field 4 rfl (by kernel_rfl)) (fun _ h => h.none) ?_
  refine r_tk 6 rfl rfl (v_load rfl (Cel.imm k2 rfl) (by kernel_rfl)) (fun _ h => h.none) ?_
  refine r_one 7 (by kernel_rfl) rfl ?_
  refine s_call (xs := [_]) rfl rfl rfl rfl rfl rfl (by kernel_rfl) (fun w hs => mayN_c h.s _ w _ _ hs) ?_
  rintro e w' ⟨rfl, hs'⟩; refine a_ret ?_ hs'; clear hs'
  refine r_next (fun w h => h.none) ?_
  refine r_tk 8 rfl rfl (v_not rfl) (fun _ h => h.none) ?_
  refine r_tk 9 rfl rfl (v_pick_f rfl rfl) (fun _ h => h.none) ?_
  refine r_tk 10 rfl rfl (v_move rfl) (fun _ h => h.none) ?_
  refine c_part_nd 48 _ rfl (fun c2 => ?_) (fun c2 => ?_)
  · refine r_skip 11 rfl (by kernel_rfl) (by kernel_rfl) (by kernel_rfl) (by kernel_rfl) rfl rfl rfl (fun _ h => h.none) (by repeat (first | exact pk_body | exact pk_no | exact pk_S | apply pk_then | apply pk_block)) ?_; refine r_skip 12 rfl (by kernel_rfl) (by kernel_rfl) (by kernel_rfl) (by kernel_rfl) rfl rfl rfl (fun _ h => h.none) (by repeat (first | exact pk_body | exact pk_no | exact pk_S | apply pk_then | apply pk_block)) ?_; refine r_skip 13 rfl (by kernel_rfl) (by kernel_rfl) (by kernel_rfl) (by kernel_rfl) rfl rfl rfl (fun _ h => h.none) (by repeat (first | exact pk_body | exact pk_no | exact pk_S | apply pk_then | apply pk_block)) ?_; refine r_skip 14 rfl (by kernel_rfl) (by kernel_rfl) (by kernel_rfl) (by kernel_rfl) rfl rfl rfl (fun _ h => h.none) (by repeat (first | exact pk_body | exact pk_no | exact pk_S | apply pk_then | apply pk_block)) ?_; refine r_skip 15 rfl (by kernel_rfl) (by kernel_rfl) (by kernel_rfl) (by kernel_rfl) rfl rfl rfl (fun _ h => h.none) (by repeat (first | exact pk_body | exact pk_no | exact pk_S | apply pk_then | apply pk_block)) ?_
    refine r_tk 16 rfl rfl (v_pick_t rfl rfl) (fun _ h => h.none) ?_
    refine r_tk 17 rfl rfl (v_move rfl) (fun _ h => h.none) ?_
    refine r_skip 18 rfl (by kernel_rfl) (by kernel_rfl) (by kernel_rfl) (by kernel_rfl) rfl rfl rfl (fun _ h => h.none) (by repeat (first | exact pk_body | exact pk_no | exact pk_S | apply pk_then | apply pk_block)) ?_; refine r_skip 19 rfl (by kernel_rfl) (by kernel_rfl) (by kernel_rfl) (by kernel_rfl) rfl rfl rfl (fun _ h => h.none) (by repeat (first | exact pk_body | exact pk_no | exact pk_S | apply pk_then | apply pk_block)) ?_; refine r_skip 20 rfl (by kernel_rfl) (by kernel_rfl) (by kernel_rfl) (by kernel_rfl) rfl rfl rfl (fun _ h => h.none) (by repeat (first | exact pk_body | exact pk_no | exact pk_S | apply pk_then | apply pk_block)) ?_; refine r_skip 21 rfl (by kernel_rfl) (by kernel_rfl) (by kernel_rfl) (by kernel_rfl) rfl rfl rfl (fun _ h => h.none) (by repeat (first | exact pk_body | exact pk_no | exact pk_S | apply pk_then | apply pk_block)) ?_; refine r_skip 22 rfl (by kernel_rfl) (by kernel_rfl) (by kernel_rfl) (by kernel_rfl) rfl rfl rfl (fun _ h => h.none) (by repeat (first | exact pk_body | exact pk_no | exact pk_S | apply pk_then | apply pk_block)) ?_; refine r_skip 23 rfl (by kernel_rfl) (by kernel_rfl) (by kernel_rfl) (by kernel_rfl) rfl rfl rfl (fun _ h => h.none) (by repeat (first | exact pk_body | exact pk_no | exact pk_S | apply pk_then | apply pk_block)) ?_; refine r_skip 24 rfl (by kernel_rfl) (by kernel_rfl) (by kernel_rfl) (by kernel_rfl) rfl rfl rfl (fun _ h => h.none) (by repeat (first | exact pk_body | exact pk_no | exact pk_S | apply pk_then | apply pk_block)) ?_
    refine r_tk 25 rfl rfl (v_pick_t rfl rfl) (fun _ h => h.none) ?_
    refine r_tk 26 rfl rfl (v_move rfl) (fun _ h => h.none) ?_
    refine r_skip 27 rfl (by kernel_rfl) (by kernel_rfl) (by kernel_rfl) (by kernel_rfl) rfl rfl rfl (fun _ h => h.none) (by repeat (first | exact pk_body | exact pk_no | exact pk_S | apply pk_then | apply pk_block)) ?_; refine r_skip 28 rfl (by kernel_rfl) (by kernel_rfl) (by kernel_rfl) (by kernel_rfl) rfl rfl rfl (fun _ h => h.none) (by repeat (first | exact pk_body | exact pk_no | exact pk_S | apply pk_then | apply pk_block)) ?_; refine r_skip 29 rfl (by kernel_rfl) (by kernel_rfl) (by kernel_rfl) (by kernel_rfl) rfl rfl rfl (fun _ h => h.none) (by repeat (first | exact pk_body | exact pk_no | exact pk_S | apply pk_then | apply pk_block)) ?_; refine r_skip 30 rfl (by kernel_rfl) (by kernel_rfl) (by kernel_rfl) (by kernel_rfl) rfl rfl rfl (fun _ h => h.none) (by repeat (first | exact pk_body | exact pk_no | exact pk_S | apply pk_then | apply pk_block)) ?_; refine r_skip 31 rfl (by kernel_rfl) (by kernel_rfl) (by kernel_rfl) (by kernel_rfl) rfl rfl rfl (fun _ h => h.none) (by repeat (first | exact pk_body | exact pk_no | exact pk_S | apply pk_then | apply pk_block)) ?_; refine r_skip 32 rfl (by kernel_rfl) (by kernel_rfl) (by kernel_rfl) (by kernel_rfl) rfl rfl rfl (fun _ h => h.none) (by repeat (first | exact pk_body | exact pk_no | exact pk_S | apply pk_then | apply pk_block)) ?_; refine r_skip 33 rfl (by kernel_rfl) (by kernel_rfl) (by kernel_rfl) (by kernel_rfl) rfl rfl rfl (fun _ h => h.none) (by repeat (first | exact pk_body | exact pk_no | exact pk_S | apply pk_then | apply pk_block)) ?_; refine r_skip 34 rfl (by kernel_rfl) (by kernel_rfl) (by kernel_rfl) (by kernel_rfl) rfl rfl rfl (fun _ h => h.none) (by repeat (first | exact pk_body | exact pk_no | exact pk_S | apply pk_then | apply pk_block)) ?_
    refine r_tk 35 rfl rfl (v_pick_t rfl rfl) (fun _ h => h.none) ?_
    refine r_done (by kernel_rfl) ?_
    refine ww ?_
    refine c_cond_t rfl ?_
    have hre := bad4 (fun hm => by obtain ⟨m1, m2, m3, m4⟩ := hm; first | omega | exact c1 m1)
    have eH : readH b = hd0 := by unfold readH; rw [if_neg (by rw [hre]; decide)]
    have eB : readB b = [] := by unfold readB; rw [if_neg (by rw [hre]; decide)]
    rw [eH, eB, hre]
    refine ww ?_
    refine c_cons (s_val (v_build (ps := []) #[I64 0, I64 0, I64 0, I64 0, I64 0, I64 0] rfl (by kernel_rfl)) rfl rfl rfl ?_)
    refine c_cons (s_storeA (vs := [I64 0, I64 0, I64 0, I64 0, I64 0, I64 0]) rfl rfl rfl .head (by kernel_rfl) (by simp [Value.oneCell']) rfl ?_)
    refine ww ?_
    exact f_retA2 (vs := [I64 0, I64 0, I64 0, I64 0, I64 0, I64 0]) rfl rfl rfl rfl (by kernel_rfl) (by kernel_rfl) rfl (fun j u hj => Cel.all hj) (fun w hs => ⟨G2, _, rfl, hG12, SV.nil _ _, hs.sb⟩)
  refine r_tk 11 rfl rfl (v_field 3 rfl (by kernel_rfl)) (fun _ h => h.none) ?_
  refine r_tk 12 rfl rfl (v_load rfl (Cel.imm k2 rfl) (by kernel_rfl)) (fun _ h => h.none) ?_
  refine r_tk 13 rfl rfl (v_field 4 rfl (by kernel_rfl)) (fun _ h => h.none) ?_
  refine r_tk 14 rfl rfl (v_load rfl (Cel.imm k2 rfl) (by kernel_rfl)) (fun _ h => h.none) ?_
  refine r_tk 15 rfl rfl (v_geq rfl rfl) (fun _ h => h.none) ?_
  refine r_tk 16 rfl rfl (v_pick_f rfl rfl) (fun _ h => h.none) ?_
  refine r_tk 17 rfl rfl (v_move rfl) (fun _ h => h.none) ?_
  refine c_part_d 55 _ rfl (fun c3 => ?_) (fun c3 => ?_)
  · refine r_skip 18 rfl (by kernel_rfl) (by kernel_rfl) (by kernel_rfl) (by kernel_rfl) rfl rfl rfl (fun _ h => h.none) (by repeat (first | exact pk_body | exact pk_no | exact pk_S | apply pk_then | apply pk_block)) ?_; refine r_skip 19 rfl (by kernel_rfl) (by kernel_rfl) (by kernel_rfl) (by kernel_rfl) rfl rfl rfl (fun _ h => h.none) (by repeat (first | exact pk_body | exact pk_no | exact pk_S | apply pk_then | apply pk_block)) ?_; refine r_skip 20 rfl (by kernel_rfl) (by kernel_rfl) (by kernel_rfl) (by kernel_rfl) rfl rfl rfl (fun _ h => h.none) (by repeat (first | exact pk_body | exact pk_no | exact pk_S | apply pk_then | apply pk_block)) ?_; refine r_skip 21 rfl (by kernel_rfl) (by kernel_rfl) (by kernel_rfl) (by kernel_rfl) rfl rfl rfl (fun _ h => h.none) (by repeat (first | exact pk_body | exact pk_no | exact pk_S | apply pk_then | apply pk_block)) ?_; refine r_skip 22 rfl (by kernel_rfl) (by kernel_rfl) (by kernel_rfl) (by kernel_rfl) rfl rfl rfl (fun _ h => h.none) (by repeat (first | exact pk_body | exact pk_no | exact pk_S | apply pk_then | apply pk_block)) ?_; refine r_skip 23 rfl (by kernel_rfl) (by kernel_rfl) (by kernel_rfl) (by kernel_rfl) rfl rfl rfl (fun _ h => h.none) (by repeat (first | exact pk_body | exact pk_no | exact pk_S | apply pk_then | apply pk_block)) ?_; refine r_skip 24 rfl (by kernel_rfl) (by kernel_rfl) (by kernel_rfl) (by kernel_rfl) rfl rfl rfl (fun _ h => h.none) (by repeat (first | exact pk_body | exact pk_no | exact pk_S | apply pk_then | apply pk_block)) ?_
    refine r_tk 25 rfl rfl (v_pick_t rfl rfl) (fun _ h => h.none) ?_
    refine r_tk 26 rfl rfl (v_move rfl) (fun _ h => h.none) ?_
    refine r_skip 27 rfl (by kernel_rfl) (by kernel_rfl) (by kernel_rfl) (by kernel_rfl) rfl rfl rfl (fun _ h => h.none) (by repeat (first | exact pk_body | exact pk_no | exact pk_S | apply pk_then | apply pk_block)) ?_; refine r_skip 28 rfl (by kernel_rfl) (by kernel_rfl) (by kernel_rfl) (by kernel_rfl) rfl rfl rfl (fun _ h => h.none) (by repeat (first | exact pk_body | exact pk_no | exact pk_S | apply pk_then | apply pk_block)) ?_; refine r_skip 29 rfl (by kernel_rfl) (by kernel_rfl) (by kernel_rfl) (by kernel_rfl) rfl rfl rfl (fun _ h => h.none) (by repeat (first | exact pk_body | exact pk_no | exact pk_S | apply pk_then | apply pk_block)) ?_; refine r_skip 30 rfl (by kernel_rfl) (by kernel_rfl) (by kernel_rfl) (by kernel_rfl) rfl rfl rfl (fun _ h => h.none) (by repeat (first | exact pk_body | exact pk_no | exact pk_S | apply pk_then | apply pk_block)) ?_; refine r_skip 31 rfl (by kernel_rfl) (by kernel_rfl) (by kernel_rfl) (by kernel_rfl) rfl rfl rfl (fun _ h => h.none) (by repeat (first | exact pk_body | exact pk_no | exact pk_S | apply pk_then | apply pk_block)) ?_; refine r_skip 32 rfl (by kernel_rfl) (by kernel_rfl) (by kernel_rfl) (by kernel_rfl) rfl rfl rfl (fun _ h => h.none) (by repeat (first | exact pk_body | exact pk_no | exact pk_S | apply pk_then | apply pk_block)) ?_; refine r_skip 33 rfl (by kernel_rfl) (by kernel_rfl) (by kernel_rfl) (by kernel_rfl) rfl rfl rfl (fun _ h => h.none) (by repeat (first | exact pk_body | exact pk_no | exact pk_S | apply pk_then | apply pk_block)) ?_; refine r_skip 34 rfl (by kernel_rfl) (by kernel_rfl) (by kernel_rfl) (by kernel_rfl) rfl rfl rfl (fun _ h => h.none) (by repeat (first | exact pk_body | exact pk_no | exact pk_S | apply pk_then | apply pk_block)) ?_
    refine r_tk 35 rfl rfl (v_pick_t rfl rfl) (fun _ h => h.none) ?_
    refine r_done (by kernel_rfl) ?_
    refine ww ?_
    refine c_cond_t rfl ?_
    have hre := bad4 (fun hm => by obtain ⟨m1, m2, m3, m4⟩ := hm; first | omega | exact c1 m1)
    have eH : readH b = hd0 := by unfold readH; rw [if_neg (by rw [hre]; decide)]
    have eB : readB b = [] := by unfold readB; rw [if_neg (by rw [hre]; decide)]
    rw [eH, eB, hre]
    refine ww ?_
    refine c_cons (s_val (v_build (ps := []) #[I64 0, I64 0, I64 0, I64 0, I64 0, I64 0] rfl (by kernel_rfl)) rfl rfl rfl ?_)
    refine c_cons (s_storeA (vs := [I64 0, I64 0, I64 0, I64 0, I64 0, I64 0]) rfl rfl rfl .head (by kernel_rfl) (by simp [Value.oneCell']) rfl ?_)
    refine ww ?_
    exact f_retA2 (vs := [I64 0, I64 0, I64 0, I64 0, I64 0, I64 0]) rfl rfl rfl rfl (by kernel_rfl) (by kernel_rfl) rfl (fun j u hj => Cel.all hj) (fun w hs => ⟨G2, _, rfl, hG12, SV.nil _ _, hs.sb⟩)
  refine r_tk 18 rfl rfl (v_field 5 rfl (by kernel_rfl)) (fun _ h => h.none) ?_
  refine r_tk 19 rfl rfl (v_load rfl (Cel.imm k2 rfl) (by kernel_rfl)) (fun _ h => h.none) ?_
  refine r_tk 20 rfl rfl (v_field 4 rfl (by kernel_rfl)) (fun _ h => h.none) ?_
  refine r_tk 21 rfl rfl (v_load rfl (Cel.imm k2 rfl) (by kernel_rfl)) (fun _ h => h.none) ?_
  refine r_tk 22 rfl rfl (v_sub rfl rfl (by omega)) (fun _ h => h.none) ?_
  refine r_tk 23 rfl rfl (v_mul rfl rfl (by omega)) (fun _ h => h.none) ?_
  refine r_tk 24 rfl rfl (v_gtr rfl rfl) (fun _ h => h.none) ?_
  refine r_tk 25 rfl rfl (v_pick_f rfl rfl) (fun _ h => h.none) ?_
  refine r_tk 26 rfl rfl (v_move rfl) (fun _ h => h.none) ?_
  refine c_part_d 64 _ rfl (fun c4 => ?_) (fun c4 => ?_)
  · refine r_skip 27 rfl (by kernel_rfl) (by kernel_rfl) (by kernel_rfl) (by kernel_rfl) rfl rfl rfl (fun _ h => h.none) (by repeat (first | exact pk_body | exact pk_no | exact pk_S | apply pk_then | apply pk_block)) ?_; refine r_skip 28 rfl (by kernel_rfl) (by kernel_rfl) (by kernel_rfl) (by kernel_rfl) rfl rfl rfl (fun _ h => h.none) (by repeat (first | exact pk_body | exact pk_no | exact pk_S | apply pk_then | apply pk_block)) ?_; refine r_skip 29 rfl (by kernel_rfl) (by kernel_rfl) (by kernel_rfl) (by kernel_rfl) rfl rfl rfl (fun _ h => h.none) (by repeat (first | exact pk_body | exact pk_no | exact pk_S | apply pk_then | apply pk_block)) ?_; refine r_skip 30 rfl (by kernel_rfl) (by kernel_rfl) (by kernel_rfl) (by kernel_rfl) rfl rfl rfl (fun _ h => h.none) (by repeat (first | exact pk_body | exact pk_no | exact pk_S | apply pk_then | apply pk_block)) ?_; refine r_skip 31 rfl (by kernel_rfl) (by kernel_rfl) (by kernel_rfl) (by kernel_rfl) rfl rfl rfl (fun _ h => h.none) (by repeat (first | exact pk_body | exact pk_no | exact pk_S | apply pk_then | apply pk_block)) ?_; refine r_skip 32 rfl (by kernel_rfl) (by kernel_rfl) (by kernel_rfl) (by kernel_rfl) rfl rfl rfl (fun _ h => h.none) (by repeat (first | exact pk_body | exact pk_no | exact pk_S | apply pk_then | apply pk_block)) ?_; refine r_skip 33 rfl (by kernel_rfl) (by kernel_rfl) (by kernel_rfl) (by kernel_rfl) rfl rfl rfl (fun _ h => h.none) (by repeat (first | exact pk_body | exact pk_no | exact pk_S | apply pk_then | apply pk_block)) ?_; refine r_skip 34 rfl (by kernel_rfl) (by kernel_rfl) (by kernel_rfl) (by kernel_rfl) rfl rfl rfl (fun _ h => h.none) (by repeat (first | exact pk_body | exact pk_no | exact pk_S | apply pk_then | apply pk_block)) ?_
    refine r_tk 35 rfl rfl (v_pick_t rfl rfl) (fun _ h => h.none) ?_
    refine r_done (by kernel_rfl) ?_
    refine ww ?_
    refine c_cond_t rfl ?_
    have hre := bad4 (fun hm => by obtain ⟨m1, m2, m3, m4⟩ := hm; first | omega | exact c1 m1)
    have eH : readH b = hd0 := by unfold readH; rw [if_neg (by rw [hre]; decide)]
    have eB : readB b = [] := by unfold readB; rw [if_neg (by rw [hre]; decide)]
    rw [eH, eB, hre]
    refine ww ?_
    refine c_cons (s_val (v_build (ps := []) #[I64 0, I64 0, I64 0, I64 0, I64 0, I64 0] rfl (by kernel_rfl)) rfl rfl rfl ?_)
    refine c_cons (s_storeA (vs := [I64 0, I64 0, I64 0, I64 0, I64 0, I64 0]) rfl rfl rfl .head (by kernel_rfl) (by simp [Value.oneCell']) rfl ?_)
    refine ww ?_
    exact f_retA2 (vs := [I64 0, I64 0, I64 0, I64 0, I64 0, I64 0]) rfl rfl rfl rfl (by kernel_rfl) (by kernel_rfl) rfl (fun j u hj => Cel.all hj) (fun w hs => ⟨G2, _, rfl, hG12, SV.nil _ _, hs.sb⟩)
  have hmay : hdMay h := ⟨c1, c2, by omega, by omega, by omega⟩
  have hre : readE b = if (b.length : Int) - 12 = longS h.i h.z h.s then 0 else 4 := by unfold readE; rw [if_neg hl, ← hh, if_pos hmay]
  refine r_tk 27 rfl rfl (v_move rfl) (fun _ h => h.none) ?_
  refine r_tk 28 rfl rfl (v_nilCheck rfl) (fun _ h => h.none) ?_
  refine r_tk 29 rfl rfl (v_field 0 rfl (by kernel_rfl)) (fun _ h => h.none) ?_
  refine r_tk 30 rfl rfl (v_load rfl (Cel.imm k1 rfl) (by kernel_rfl)) (fun _ h => h.none) ?_
  refine r_tk 31 rfl rfl (v_len rfl (by kernel_rfl)) (fun _ h => h.none) ?_
  refine r_tk 32 rfl rfl (v_loadAgg (vs := [I64 h.c, I64 h.l, I64 h.n, I64 h.i, I64 h.s, I64 h.z]) rfl (by kernel_rfl) (by kernel_rfl) rfl (fun j u hj => (Cel.allI k2 hj))) (fun _ h => h.none) ?_
  refine r_one 33 (by kernel_rfl) rfl ?_
  refine s_call (xs := [_]) rfl rfl rfl rfl rfl rfl (by kernel_rfl) (fun w hs => rlong_c h (by omega) (by omega) c2 _ w _ _ hs) ?_
  rintro e w' ⟨rfl, hs'⟩; refine a_ret ?_ hs'; clear hs'
  refine r_next (fun w h => h.none) ?_
  refine r_tk 34 rfl rfl (v_neq rfl rfl) (fun _ h => h.none) ?_
  refine r_tk 35 rfl rfl (v_pick_f rfl rfl) (fun _ h => h.none) ?_
  refine r_done (by kernel_rfl) ?_
  have hdl : (b.drop 12).length = b.length - 12 := List.length_drop ..
  refine ww ?_
  refine c_cond_d rfl (fun c5 => ?_) (fun c5 => ?_)
  · rw [if_neg (by omega)] at hre
    have eH : readH b = hd0 := by unfold readH; rw [if_neg (by rw [hre]; decide)]
    have eB : readB b = [] := by unfold readB; rw [if_neg (by rw [hre]; decide)]
    rw [eH, eB, hre]
    refine ww ?_
    refine c_cons (s_val (v_build (ps := []) #[I64 0, I64 0, I64 0, I64 0, I64 0, I64 0] rfl (by kernel_rfl)) rfl rfl rfl ?_)
    refine c_cons (s_storeA (vs := [I64 0, I64 0, I64 0, I64 0, I64 0, I64 0]) rfl rfl rfl .head (by kernel_rfl) (by simp [Value.oneCell']) rfl ?_)
    refine ww ?_
    exact f_retA2 (vs := [I64 0, I64 0, I64 0, I64 0, I64 0, I64 0]) rfl rfl rfl rfl (by kernel_rfl) (by kernel_rfl) rfl (fun j u hj => Cel.all hj) (fun w hs => ⟨G2, _, rfl, hG12, SV.nil _ _, hs.sb⟩)
  rw [if_pos (by omega)] at hre
  have eH : readH b = h := by unfold readH; rw [if_pos hre, hh]
  have eB : readB b = b.drop 12 := by unfold readB; rw [if_pos hre]
  rw [eH, eB, hre]
  refine ww ?_
  refine r_startS [] [] (by kernel_rfl) (fun w h => h.none) ?_
  refine r_tk 0 rfl rfl (v_loadAgg (vs := [I64 h.c, I64 h.l, I64 h.n, I64 h.i, I64 h.s, I64 h.z]) rfl (by kernel_rfl) (by kernel_rfl) rfl (fun j u hj => (Cel.allI k2 hj))) (fun _ h => h.none) ?_
  refine r_tk 1 rfl rfl (v_move rfl) (fun _ h => h.none) ?_
  refine r_tk 2 rfl rfl (v_nilCheck rfl) (fun _ h => h.none) ?_
  refine r_tk 3 rfl rfl (v_field 0 rfl (by kernel_rfl)) (fun _ h => h.none) ?_
  refine r_tk 4 rfl rfl (v_load rfl (Cel.imm k1 rfl) (by kernel_rfl)) (fun _ h => h.none) ?_
  refine r_one 5 (by kernel_rfl) rfl ?_
  refine s_call (xs := [_]) rfl rfl rfl rfl rfl rfl (by kernel_rfl) (fun w hs => copy_c _ (b.drop 12) _ w _ _ hv7 (by omega) hs) ?_
  rintro e w' ⟨G7, u7, rfl, hG7, hu7, hs'⟩; refine a_ret ?_ hs'; clear hs'
  refine r_next (fun w h => h.none.weaken hG7) ?_
  refine r_one 6 (by kernel_rfl) rfl ?_
  refine s_storeA (vs := [I64 h.c, I64 h.l, I64 h.n, I64 h.i, I64 h.s, I64 h.z]) rfl rfl rfl .head (by kernel_rfl) (by simp [Value.oneCell']) rfl ?_
  refine r_next (fun w h => h.none.weaken hG7) ?_
  refine r_tk 7 rfl rfl (v_assign rfl) (fun _ h => h.none.weaken hG7) ?_
  refine r_tk 8 rfl rfl (v_assign rfl) (fun _ h => h.none.weaken hG7) ?_
  refine r_done (by kernel_rfl) ?_
  refine ww ?_
  exact f_retA2 (vs := [I64 h.c, I64 h.l, I64 h.n, I64 h.i, I64 h.s, I64 h.z]) rfl rfl rfl rfl (by kernel_rfl) (by kernel_rfl) rfl (fun j u hj => Cel.all hj) (fun w hs => ⟨G7, u7, rfl, hG12.trans hG7, hu7, hs.tl⟩)
end Go.Proofs.Ytldkldmjcacopaa
