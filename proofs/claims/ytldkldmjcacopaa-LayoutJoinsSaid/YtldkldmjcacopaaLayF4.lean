/- The reference's walks of chapter 13: Place, Span, part, head. The reference's walks of chapter 13: parts, Cut. The reference's walks of chapter 13: Cut. -/
import Derived.Test.YtldkldmjcacopaaLayF1
import Derived.Test.YtldkldmjcacopaaLaySp
import Derived.Test.YtldkldmjcacopaaParRef
import Derived.Test.YtldkldmjcacopaaBlkR5
namespace Go.Proofs.Ytldkldmjcacopaa
section
open Go
set_option linter.unusedVariables false
set_option linter.unusedSimpArgs false
set_option maxHeartbeats 1600000
attribute [local irreducible] Code.wp wpList stepK Holds Val wpR Eff Eff0 Code.wpIn wpListIn stepI Exit.then Exit.inBlock bodyPost bodyPostM

theorem rplace_c (c l num ix n : Int) (w0 w : World) (G : Im) (F : Hp) (hs : Sat w0 w G F) :
    Calls Try.prog 27 #[.agg #[I64 c, I64 l, I64 num], I64 ix, I64 n] w fun e w' => e = .returned (I64 (placeS c num ix n)) ∧ Sat w0 w' G F := by
  refine f_enter (vs := [_, _, _]) Try.func27 rfl Try.ntmps27 (by simp) hs ?_
  refine ww ?_
  refine c_cons (s_boxA [I64 c, I64 l, I64 num] rfl rfl rfl fun b1 => ?_)
  refine ww ?_
  refine c_cons (s_call (xs := [_]) rfl rfl rfl rfl rfl rfl (by kernel_rfl) (fun w hs => mayN_c n _ w _ _ hs) ?_)
  rintro e w' ⟨rfl, hs'⟩; refine a_ret ?_ hs'; clear hs'
  refine ww ?_
  refine c_cond_nd rfl (fun c1 => ?_) (fun c1 => ?_)
  · refine ww ?_
    exact f_ret1 rfl rfl (fun w hs => ⟨by unfold placeS; rw [if_neg c1], hs.tl⟩)
  have t1 := tmod_in num n c1
  have t2 := tmod_in c n c1
  have t3 := tmod_in ix n c1
  have t4 := tmod_in (num.tmod n + c.tmod n + ix.tmod n) n c1
  refine ww ?_
  refine r_start [] (by kernel_rfl) ?_ -- D1
  refine r_tk 0 rfl rfl (v_field 2 rfl (by kernel_rfl)) (fun _ h => h) ?_
  refine r_tk 1 rfl rfl (v_load rfl (Cel.head rfl) (by kernel_rfl)) (fun _ h => h) ?_
  refine r_tk 2 rfl rfl (v_move rfl) (fun _ h => h) ?_
  refine r_tk 3 rfl rfl (v_remT rfl rfl (by omega)) (fun _ h => h) ?_
  refine r_tk 4 rfl rfl (v_field 0 rfl (by kernel_rfl)) (fun _ h => h) ?_
  refine r_tk 5 rfl rfl (v_load rfl (Cel.head rfl) (by kernel_rfl)) (fun _ h => h) ?_
  refine r_tk 6 rfl rfl (v_move rfl) (fun _ h => h) ?_
  refine r_tk 7 rfl rfl (v_remT rfl rfl (by omega)) (fun _ h => h) ?_
  refine r_tk 8 rfl rfl (v_add rfl rfl (by omega)) (fun _ h => h) ?_
  refine r_tk 9 rfl rfl (v_move rfl) (fun _ h => h) ?_
  refine r_tk 10 rfl rfl (v_move rfl) (fun _ h => h) ?_
  refine r_tk 11 rfl rfl (v_remT rfl rfl (by omega)) (fun _ h => h) ?_
  refine r_tk 12 rfl rfl (v_add rfl rfl (by omega)) (fun _ h => h) ?_
  refine r_tk 13 rfl rfl (v_move rfl) (fun _ h => h) ?_
  refine r_tk 14 rfl rfl (v_remT rfl rfl (by omega)) (fun _ h => h) ?_
  refine r_tk 15 rfl rfl (v_move rfl) (fun _ h => h) ?_
  refine r_tk 16 rfl rfl (v_add rfl rfl (by omega)) (fun _ h => h) ?_
  refine r_tk 17 rfl rfl (v_move rfl) (fun _ h => h) ?_
  refine r_tk 18 rfl rfl (v_remT rfl rfl (by omega)) (fun _ h => h) ?_
  refine r_tk 19 rfl rfl (v_assign rfl) (fun _ h => h) ?_
  refine r_done (by kernel_rfl) ?_
  refine ww ?_
  exact f_ret1 rfl rfl (fun w hs => ⟨by unfold placeS; rw [if_pos c1], hs.tl⟩)

theorem rspan_c (a count size n : Int) (w0 w : World) (G : Im) (F : Hp) (hs : Sat w0 w G F) :
    Calls Try.prog 24 #[I64 a, I64 count, I64 size, I64 n] w fun e w' => e = .returned (.tuple #[I64 (spanS a count size n).1, I64 (spanS a count size n).2.1, I64 (spanS a count size n).2.2]) ∧ Sat w0 w' G F := by
  have bad : ¬ spanOk a count size n → spanS a count size n = (0, 0, 1) := fun h => by unfold spanS; rw [if_neg h]
  refine f_enter (vs := [_, _, _, _]) Try.func24 rfl Try.ntmps24 (by simp) hs ?_
  refine ww ?_
  refine c_cons (s_call (xs := [_]) rfl rfl rfl rfl rfl rfl (by kernel_rfl) (fun w hs => mayN_c n _ w _ _ hs) ?_)
  rintro e w' ⟨rfl, hs'⟩; refine a_ret ?_ hs'; clear hs'
  refine ww ?_
  refine c_part_nd 15 _ rfl (fun c3 => ?_) (fun c3 => ?_)
  · rw [bad (fun h => by unfold spanOk at h; omega)]
    refine ww ?_
    refine c_cond_t rfl ?_
    refine ww ?_
    exact f_ret3 rfl rfl rfl rfl (fun w hs => ⟨rfl, hs⟩)
  refine ww ?_
  refine c_part_d 19 _ rfl (fun c1 => ?_) (fun c1 => ?_)
  · rw [bad (fun h => by unfold spanOk at h; omega)]
    refine ww ?_
    refine c_cond_t rfl ?_
    refine ww ?_
    exact f_ret3 rfl rfl rfl rfl (fun w hs => ⟨rfl, hs⟩)
  refine ww ?_
  refine c_cons (s_val (v_mul rfl rfl (by omega)) rfl rfl rfl ?_)
  refine ww ?_
  refine c_part_d 26 _ rfl (fun c4 => ?_) (fun c4 => ?_)
  · rw [bad (fun h => by unfold spanOk at h; omega)]
    refine ww ?_
    refine c_cond_t rfl ?_
    refine ww ?_
    exact f_ret3 rfl rfl rfl rfl (fun w hs => ⟨rfl, hs⟩)
  refine ww ?_
  refine c_part_d 30 _ rfl (fun c5 => ?_) (fun c5 => ?_)
  · rw [bad (fun h => by unfold spanOk at h; omega)]
    refine ww ?_
    refine c_cond_t rfl ?_
    refine ww ?_
    exact f_ret3 rfl rfl rfl rfl (fun w hs => ⟨rfl, hs⟩)
  refine ww ?_
  refine c_part_d 34 _ rfl (fun c6 => ?_) (fun c6 => ?_)
  · rw [bad (fun h => by unfold spanOk at h; omega)]
    refine ww ?_
    refine c_cond_t rfl ?_
    refine ww ?_
    exact f_ret3 rfl rfl rfl rfl (fun w hs => ⟨rfl, hs⟩)
  refine ww ?_
  refine c_part_d 39 _ rfl (fun c7 => ?_) (fun c7 => ?_)
  · rw [bad (fun h => by unfold spanOk at h; omega)]
    refine ww ?_
    refine c_cond_t rfl ?_
    refine ww ?_
    exact f_ret3 rfl rfl rfl rfl (fun w hs => ⟨rfl, hs⟩)
  refine ww ?_
  refine c_cond_d rfl (fun c8 => ?_) (fun c8 => ?_)
  · -- then
    rw [bad (fun h => by unfold spanOk at h; omega)]
    refine ww ?_
    exact f_ret3 rfl rfl rfl rfl (fun w hs => ⟨rfl, hs⟩)
  have hyes : spanS a count size n = (a / eachS size n, (a + count - 1) / eachS size n, 0) := by unfold spanS; rw [if_pos (by unfold spanOk; omega)]
  rw [hyes]
  have hp := each_pos c3 (show 1 ≤ size by omega)
  have hle := each_in c3 (show 0 ≤ size by omega)
  refine ww ?_
  refine c_cons (s_call (xs := [_, _]) rfl rfl rfl rfl rfl rfl (by kernel_rfl) (fun w hs => reach_c size n (by omega) _ w _ _ hs) ?_)
  rintro e w' ⟨rfl, hs'⟩; refine a_ret ?_ hs'; clear hs'
  generalize eachS size n = q at hp hle ⊢
  refine ww ?_
  refine r_start [] (by kernel_rfl) ?_ -- D1
  refine r_tk 0 rfl rfl (v_move rfl) (fun _ h => h) ?_
  refine r_tk 1 rfl rfl (v_move rfl) (fun _ h => h) ?_
  refine r_tk 2 rfl rfl (v_quo rfl rfl (by omega) (by omega)) (fun _ h => h) ?_
  refine r_tk 3 rfl rfl (v_move rfl) (fun _ h => h) ?_
  refine r_tk 4 rfl rfl (v_move rfl) (fun _ h => h) ?_
  refine r_tk 5 rfl rfl (v_add rfl rfl (by omega)) (fun _ h => h) ?_
  refine r_tk 6 rfl rfl (v_sub rfl rfl (by omega)) (fun _ h => h) ?_
  refine r_tk 7 rfl rfl (v_move rfl) (fun _ h => h) ?_
  refine r_tk 8 rfl rfl (v_quo rfl rfl (by omega) (by omega)) (fun _ h => h) ?_
  refine r_tk 9 rfl rfl (v_assign rfl) (fun _ h => h) ?_
  refine r_tk 10 rfl rfl (v_assign rfl) (fun _ h => h) ?_
  refine r_tk 11 rfl rfl (v_assign rfl) (fun _ h => h) ?_
  refine r_done (by kernel_rfl) ?_
  refine ww ?_
  exact f_ret3 rfl rfl rfl rfl (fun w hs => ⟨rfl, hs⟩)

theorem rhead_c (h : Hd) (hg : gd h) (w0 w : World) (G : Im) (F : Hp) (hs : Sat w0 w G F) :
    Calls Try.prog 50 #[h.V] w fun e w' => ∃ G' u B, e = .returned u ∧ Im.le G G' ∧ OB u (headB h) B ∧ Sat w0 w' G' (B ++ F) := by
  obtain ⟨hg1, hg2, hg3, hg4, hg5, hg6⟩ := hg
  refine f_enter (vs := [_]) Try.func50 rfl Try.ntmps50 (by simp) hs ?_
  refine ww ?_
  refine c_cons (s_boxA [I64 h.c, I64 h.l, I64 h.n, I64 h.i, I64 h.s, I64 h.z] rfl rfl rfl fun b1 => ?_)
  refine c_freeze .head fun G1 hG1 k1 => ?_
  refine ww ?_
  refine c_cons (s_val (v_build (ps := []) #[.slice none 0 0, I64 0] rfl (by kernel_rfl)) rfl rfl rfl ?_)
  refine c_cons (s_boxA [.slice none 0 0, I64 0] rfl rfl rfl fun b2 => ?_)
  change Holds _ _ _ _ _ (RP b2 (.slice none 0 0) :: ([] ++ F)) _
  refine ww ?_
  refine c_cons (s_val (v_field 0 rfl (by kernel_rfl)) rfl rfl rfl ?_)
  refine c_cons (s_val (v_field 0 rfl (by kernel_rfl)) rfl rfl rfl ?_)
  refine c_cons (s_val (v_load rfl (Cel.imm k1 rfl) (by kernel_rfl)) rfl rfl rfl ?_)
  refine c_cons (s_call (xs := [_, _, _]) rfl rfl rfl rfl rfl rfl (by kernel_rfl) (fun w hs => rnum_c b2 _ [] [] h.c 1 (by omega) (by omega) (by simp) _ w _ _ (Own.zero none _ _) hs) ?_)
  rintro e w' ⟨v1, B1, rfl, hown1, hs'⟩; refine a_ret ?_ hs'; clear hs'
  refine ww ?_
  refine c_cons (s_val (v_field 0 rfl (by kernel_rfl)) rfl rfl rfl ?_)
  refine c_cons (s_val (v_field 1 rfl (by kernel_rfl)) rfl rfl rfl ?_)
  refine c_cons (s_val (v_load rfl (Cel.imm k1 rfl) (by kernel_rfl)) rfl rfl rfl ?_)
  refine c_cons (s_call (xs := [_, _, _]) rfl rfl rfl rfl rfl rfl (by kernel_rfl) (fun w hs => rnum_c b2 _ _ B1 h.l 3 (by omega) (by omega) (by simp [be_len]) _ w _ _ hown1 hs) ?_)
  rintro e w' ⟨v2, B2, rfl, hown2, hs'⟩; refine a_ret ?_ hs'; clear hs'
  refine ww ?_
  refine c_cons (s_val (v_field 0 rfl (by kernel_rfl)) rfl rfl rfl ?_)
  refine c_cons (s_val (v_field 2 rfl (by kernel_rfl)) rfl rfl rfl ?_)
  refine c_cons (s_val (v_load rfl (Cel.imm k1 rfl) (by kernel_rfl)) rfl rfl rfl ?_)
  refine c_cons (s_call (xs := [_, _, _]) rfl rfl rfl rfl rfl rfl (by kernel_rfl) (fun w hs => rnum_c b2 _ _ B2 h.n 4 (by omega) (by omega) (by simp [be_len]) _ w _ _ hown2 hs) ?_)
  rintro e w' ⟨v3, B3, rfl, hown3, hs'⟩; refine a_ret ?_ hs'; clear hs'
  refine ww ?_
  refine c_cons (s_val (v_field 3 rfl (by kernel_rfl)) rfl rfl rfl ?_)
  refine c_cons (s_val (v_load rfl (Cel.imm k1 rfl) (by kernel_rfl)) rfl rfl rfl ?_)
  refine c_cons (s_call (xs := [_, _, _]) rfl rfl rfl rfl rfl rfl (by kernel_rfl) (fun w hs => rnum_c b2 _ _ B3 h.i 1 (by omega) (by omega) (by simp [be_len]) _ w _ _ hown3 hs) ?_)
  rintro e w' ⟨v4, B4, rfl, hown4, hs'⟩; refine a_ret ?_ hs'; clear hs'
  refine ww ?_
  refine c_cons (s_val (v_field 4 rfl (by kernel_rfl)) rfl rfl rfl ?_)
  refine c_cons (s_val (v_load rfl (Cel.imm k1 rfl) (by kernel_rfl)) rfl rfl rfl ?_)
  refine c_cons (s_call (xs := [_, _, _]) rfl rfl rfl rfl rfl rfl (by kernel_rfl) (fun w hs => rnum_c b2 _ _ B4 h.s 1 (by omega) (by omega) (by simp [be_len]) _ w _ _ hown4 hs) ?_)
  rintro e w' ⟨v5, B5, rfl, hown5, hs'⟩; refine a_ret ?_ hs'; clear hs'
  refine ww ?_
  refine c_cons (s_val (v_field 5 rfl (by kernel_rfl)) rfl rfl rfl ?_)
  refine c_cons (s_val (v_load rfl (Cel.imm k1 rfl) (by kernel_rfl)) rfl rfl rfl ?_)
  refine c_cons (s_call (xs := [_, _, _]) rfl rfl rfl rfl rfl rfl (by kernel_rfl) (fun w hs => rnum_c b2 _ _ B5 h.z 2 (by omega) (by omega) (by simp [be_len]) _ w _ _ hown5 hs) ?_)
  rintro e w' ⟨v6, B6, rfl, hown6, hs'⟩; refine a_ret ?_ hs'; clear hs'
  have e6 : [] ++ be h.c 1 ++ be h.l 3 ++ be h.n 4 ++ be h.i 1 ++ be h.s 1 ++ be h.z 2 = headB h := by rw [List.nil_append]; rfl
  rw [e6] at hown6
  refine ww ?_
  refine c_cons (s_val (v_field 0 rfl (by kernel_rfl)) rfl rfl rfl ?_)
  refine c_cons (s_val (v_load rfl (Cel.head rfl) (by kernel_rfl)) rfl rfl rfl ?_)
  refine ww ?_
  exact f_ret1 rfl rfl (fun w hs => ⟨G1, v6, B6, rfl, hG1, hown6, hs.tl⟩)

theorem rpart_c (vd : Value) (xs : List UInt8) (i n : Int) (ii : Nat) (hii : i = ii) (hi : 0 ≤ i ∧ i ≤ 255) (hx : xs.length ≤ 100000) (hn : 3 ≤ n ∧ n ≤ 16) (w0 w : World) (G : Im) (F : Hp) (hv : SV G [] vd xs.length (xs.map B8)) (hs : Sat w0 w G F) :
    Calls Try.prog 68 #[vd, I64 i, I64 n] w fun e w' => ∃ u, e = .returned u ∧ SV G [] u (partB xs (eN xs n) ii).length ((partB xs (eN xs n) ii).map B8) ∧ Sat w0 w' G F := by
  subst hii
  obtain ⟨ad, cp, rfl⟩ := hv.form
  have hcap : xs.length ≤ cp := by
    obtain ⟨_, _, e, h1, _⟩ := hv
    cases e; exact h1
  refine f_enter (vs := [_, _, _]) Try.func68 rfl Try.ntmps68 (by simp) hs ?_
  have he := (each_in hn (Int.natCast_nonneg xs.length))
  obtain ⟨e, hee⟩ : ∃ e : Nat, e = eN xs n := ⟨_, rfl⟩
  have hei : eachS xs.length n = (e : Int) := by rw [hee]; unfold eN; omega
  rw [hei] at he
  rw [← hee]
  have h3 : 0 ≤ (ii : Int) * (e : Int) ∧ (ii : Int) * (e : Int) ≤ 255 * 100000 := ⟨Int.mul_nonneg hi.1 he.1, Int.mul_le_mul hi.2 (by omega) he.1 (by omega)⟩
  refine ww ?_
  refine c_cons (s_call (xs := [_, _]) rfl rfl rfl rfl rfl rfl (by kernel_rfl) (fun w hs => reach_c xs.length n (by omega) _ w _ _ hs) ?_)
  rintro e w' ⟨rfl, hs'⟩; refine a_ret ?_ hs'; clear hs'
  rw [hei]
  refine ww ?_
  refine c_cons (s_val (v_mul rfl rfl (by omega)) rfl rfl rfl ?_)
  refine ww ?_
  obtain ⟨f1, hf1⟩ : ∃ f1, f1 = min (ii * e) xs.length := ⟨_, rfl⟩
  obtain ⟨f2, hf2⟩ : ∃ f2, f2 = min (ii * e + e) xs.length := ⟨_, rfl⟩
  rw [show min ((ii : Int) * (e : Int)) (xs.length : Int) = (f1 : Int) by rw [← Int.natCast_mul]; omega, show min ((f1 : Int) + (e : Int)) (xs.length : Int) = (f2 : Int) by omega]
  have hf12 : f1 ≤ f2 ∧ f2 ≤ xs.length := by omega
  have hpb : partB xs e ii = (xs.drop f1).take (f2 - f1) := by unfold partB; rw [← hf1, ← hf2]
  have hmid : SV G [] (slMid ad cp f1 f2 1) (partB xs e ii).length ((partB xs e ii).map B8) := by
    have h := SV.mid (H := []) (s := 1) (l := f1) (h := f2) hv hf12.1 hf12.2
    rw [Nat.mul_one, Nat.mul_one, ← List.map_drop, ← List.map_take, ← hpb] at h
    rw [partB_len, ← hf1, ← hf2]; exact h
  refine c_cons (s_val (v_slMid f1 f2 1 rfl rfl rfl (by kernel_rfl) (by omega) (by omega)) rfl rfl rfl ?_)
  refine ww ?_
  exact f_ret1 rfl rfl (fun w hs => ⟨_, rfl, hmid, hs⟩)

theorem rxorO_c (v : Value) (rs : List (List UInt8)) (B : Hp) (w0 w : World) (G : Im) (F : Hp) (hv : RO G v rs B) (hm : mxl rs ≤ 1000000) (hs : Sat w0 w G (B ++ F)) :
    Calls Try.prog 69 #[v] w fun e w' => ∃ u B2, e = .returned u ∧ OB u (pxor rs) B2 ∧ Sat w0 w' G (B2 ++ (B ++ F)) := by
  obtain ⟨vs, ⟨hl, hown⟩, hit⟩ := hv
  rcases hown with ⟨ad, rfl, h0, rfl⟩ | ⟨bb, c, sl, rfl, hc1, hc2, hc3, rfl⟩
  · have hvs : vs = [] := List.eq_nil_of_length_eq_zero h0
    subst hvs
    have hrs : rs = [] := List.eq_nil_of_length_eq_zero hit.1.symm
    subst hrs
    exact rxor_c _ [] w0 w G F ⟨[], (Own.zero ad 22 1).sv (by simp), hit⟩ hm hs
  · have hGb : G bb = none := hs.sep _ (List.mem_cons_self ..)
    have hG2 : Im.le G (G.add bb (Cs (vs ++ sl) 22)) := Im.le_add hGb
    have hsv : SV (G.add bb (Cs (vs ++ sl) 22)) [] (Sl bb 0 vs.length c) vs.length vs := ⟨_, c, rfl, hc2, hc1, .inr ⟨bb, 0, rfl, fun j u hj => ⟨_, _, _, .of_imm (Im.add_self G bb _), by simp only [List.getElem?_toArray, Nat.zero_add]; rw [List.getElem?_append_left (List.getElem?_eq_some_iff.1 hj).1]; exact hj⟩⟩⟩
    refine (rxor_c _ rs w0 w _ F ⟨vs, hsv, hit.mono hG2⟩ hm hs.freeze).mono fun e w' ⟨u, B2, he, hu, hs'⟩ => ?_
    have e2 : Im.del (G.add bb (Cs (vs ++ sl) 22)) bb = G := by
      funext k
      unfold Im.del Im.add
      by_cases h : k = bb
      · rw [if_pos h, h, hGb]
      · rw [if_neg h, if_neg h]
    have h3 := hs'.thaw (Im.add_self G bb (Cs (vs ++ sl) 22))
    rw [e2] at h3
    exact ⟨u, B2, he, hu, h3.perm List.perm_middle.symm⟩
end

section
open Go
set_option linter.unusedVariables false
set_option linter.unusedSimpArgs false
set_option maxHeartbeats 1600000
attribute [local irreducible] Code.wp wpList stepK Holds Val wpR Eff Eff0 Code.wpIn wpListIn stepI Exit.then Exit.inBlock bodyPost bodyPostM

theorem rparts_c (vd : Value) (xs : List UInt8) (n : Int) (hx : xs.length ≤ 100000) (hn : 3 ≤ n ∧ n ≤ 16) (w0 w : World) (G : Im) (F : Hp) (hv : SV G [] vd xs.length (xs.map B8)) (hs : Sat w0 w G F) :
    Calls Try.prog 49 #[vd, I64 n] w fun e w' => ∃ G' u B, e = .returned u ∧ Im.le G G' ∧ RO G' u (rowsL xs n) B ∧ Sat w0 w' G' (B ++ F) := by
  refine f_enter (vs := [_, _]) Try.func49 rfl Try.ntmps49 (by simp) hs ?_
  unfold rowsL
  obtain ⟨e, hee⟩ : ∃ e : Nat, e = eN xs n := ⟨_, rfl⟩
  rw [← hee]
  refine ww ?_
  refine c_loop (α := Nat × Im × Value × Hp) (fun x => [(0, vd), (1, I64 n), (5, x.2.2.1), (6, I64 x.1)]) (fun x => x.2.1) (fun x => x.2.2.2 ++ F) (fun x => (x.1 : Int) ≤ n - 1 ∧ Im.le G x.2.1 ∧ RO x.2.1 x.2.2.1 (partsL xs e x.1) x.2.2.2) (fun x => (n - 1).toNat - x.1) (0, G, .slice none 0 0, []) ⟨by dsimp only; omega, Im.le_refl _, RO.zero _ _⟩ ?_ ?_
  · exact n_at ⟨rfl, rfl, rfl, rfl, trivial⟩ sbx
  rintro ⟨i, Gi, v, B⟩ ⟨hi, hGi, hr⟩
  dsimp only at hi hGi hr ⊢
  have hpl := partsL_len xs e i
  refine ww ?_
  refine c_cond_d rfl (fun c1 => ?_) (fun c1 => ?_)
  · -- then
    refine ww ?_
    refine c_cons (s_call (xs := [_, _, _]) rfl rfl rfl rfl rfl rfl (by kernel_rfl) (fun w hs => rpart_c vd xs i n i rfl (by omega) hx hn _ w _ _ (hv.mono (H' := []) hGi (fun p hp => hp)) hs) ?_)
    rw [← hee]
    rintro e w' ⟨u1, rfl, hu1, hs'⟩; refine a_ret ?_ hs'; clear hs'
    refine c_cons (s_call (xs := [_]) rfl rfl rfl rfl rfl rfl (by kernel_rfl) (fun w hs => copy_c _ (partB xs e i) _ w _ _ hu1 (by rw [partB_len]; omega) hs) ?_)
    rintro e w' ⟨G2, u2, rfl, hG2, hu2, hs'⟩; refine a_ret ?_ hs'; clear hs'
    have h1 := hu2.one
    replace hr := hr.up hG2
    obtain ⟨vs, ho, hit⟩ := hr
    have hvl := hit.1
    refine c_cons (s_lit (z := .slice none 0 0) (bs := 24) (e := 22) [_] (by kernel_rfl) rfl rfl rfl rfl (by simpa using h1) rfl (by decide) fun b1 => ?_)
    refine c_cons (s_append (e := 22) (z := .slice none 0 0) (sz := 1) (bs := 24) (by kernel_rfl) rfl rfl rfl rfl ho (Chunk.tail Chunk.head) (SV.block .head (by simp [maxLen])) rfl (by decide) rfl (by simpa using h1) (by simp; omega) (by simp; omega) fun v2 B2 ho2 => ?_)
    have hr2 : RO G2 v2 (partsL xs e (i + 1)) B2 := by rw [partsL_snoc]; exact ⟨vs ++ [u2], by rw [List.length_append]; exact ho2, hit.snoc hu2⟩
    refine ww ?_
    exact n_next (x := (i, Gi, v, B)) (i + 1, G2, v2, B2) ⟨by dsimp only; omega, hGi.trans hG2, hr2⟩ (by dsimp only; omega) ⟨rfl, rfl, rfl, rfl, trivial⟩ rfl sbx
  have ein : i = (n - 1).toNat := by omega
  rw [← ein]
  have hmx := parts_mxl xs e i
  refine ww ?_
  refine c_cons (s_call (xs := [_]) rfl rfl rfl rfl rfl rfl (by kernel_rfl) (fun w hs => rxorO_c v _ B _ w _ _ hr (by omega) hs) ?_)
  rintro e w' ⟨u4, B4, rfl, hu4, hs'⟩; refine a_ret ?_ hs'; clear hs'
  refine c_freezeO hu4 Chunk.head fun G5 hG5 hsv5 => ?_
  replace hr := hr.up hG5
  have h1 := hsv5.one
  obtain ⟨vs, ho, hit⟩ := hr
  have hvl := hit.1
  refine c_cons (s_lit (z := .slice none 0 0) (bs := 24) (e := 22) [_] (by kernel_rfl) rfl rfl rfl rfl (by simpa using h1) rfl (by decide) fun b1 => ?_)
  refine c_cons (s_append (e := 22) (z := .slice none 0 0) (sz := 1) (bs := 24) (by kernel_rfl) rfl rfl rfl rfl ho (Chunk.tail Chunk.head) (SV.block .head (by simp [maxLen])) rfl (by decide) rfl (by simpa using h1) (by simp; omega) (by simp; omega) fun v2 B2 ho2 => ?_)
  have hr2 : RO G5 v2 (partsL xs e i ++ [pxor (partsL xs e i)]) B2 := ⟨vs ++ [u4], by rw [List.length_append]; exact ho2, hit.snoc hsv5⟩
  refine ww ?_
  exact f_ret1 rfl rfl (fun w hs => ⟨G5, v2, B2, rfl, hGi.trans hG5, hr2, hs.sb⟩)

theorem rowsEq_c (va vb : Value) (xs ys : List (List UInt8)) (w0 w : World) (G : Im) (F : Hp) (ha : RowsV G va xs) (hb : RowsV G vb ys) (hs : Sat w0 w G F) (he : xs = ys) :
    Calls Try.prog 25 #[va, vb] w fun e w' => e = .returned (.bool true) ∧ Sat w0 w' G F := by
  subst he
  obtain ⟨us, hu, hui⟩ := ha
  obtain ⟨vs, hv, hvi⟩ := hb
  obtain ⟨ad1, c1, rfl⟩ := hu.form
  obtain ⟨ad2, c2, rfl⟩ := hv.form
  have hul := hui.1
  have hvl := hvi.1
  rw [hul] at hu ⊢
  rw [hvl] at hv ⊢
  have hcapu : xs.length ≤ c1 ∧ c1 ≤ maxLen := by
    obtain ⟨_, _, e, h1, h2, _⟩ := hu
    cases e; exact ⟨h1, h2⟩
  unfold maxLen at hcapu
  refine f_enter (vs := [_, _]) Try.func25 rfl Try.ntmps25 (by simp) hs ?_
  refine ww ?_
  refine c_cond_d rfl (fun h => absurd rfl h) (fun _ => ?_)
  refine ww ?_
  refine c_loop (α := Nat) (fun i => [(0, .slice ad1 xs.length c1), (1, .slice ad2 xs.length c2), (5, I64 i)]) (fun _ => G) (fun _ => F) (fun i => i ≤ xs.length) (fun i => xs.length - i) 0 (Nat.zero_le _) ?_ ?_
  · exact n_at ⟨rfl, rfl, rfl, trivial⟩ sbx
  rintro i hi
  refine ww ?_
  refine c_cond_d rfl (fun c2 => ?_) (fun c2 => ?_)
  · -- then
    have hil : i < xs.length := by omega
    obtain ⟨_, hi1⟩ := hui.at i (by omega)
    obtain ⟨_, hi2⟩ := hvi.at i (by omega)
    obtain ⟨x, hx⟩ : ∃ x, x = xs[i] := ⟨_, rfl⟩
    rw [← hx] at hi1 hi2
    obtain ⟨p, hp⟩ : ∃ p, p = us[i]'(by omega) := ⟨_, rfl⟩
    obtain ⟨q, hq⟩ : ∃ q, q = vs[i]'(by omega) := ⟨_, rfl⟩
    rw [← hp] at hi1
    rw [← hq] at hi2
    obtain ⟨b1, o1, rfl, h1⟩ : ∃ b o, ad1 = some ⟨b, o, none⟩ ∧ ∀ H : Hp, Cel G H b (o + (i : Int).toNat) p := by
      obtain ⟨_, _, e, _, _, h3⟩ := hu
      cases e
      rcases h3 with ⟨h0, _⟩ | ⟨b, o, rfl, hc⟩
      · have h00 : us.length = 0 := by rw [h0]; rfl
        omega
      · exact ⟨b, o, rfl, fun H => by rw [Int.toNat_natCast]; exact (hc i p (by rw [hp]; exact List.getElem?_eq_getElem _)).mono (Im.le_refl _) (by simp)⟩
    obtain ⟨b2, o2, rfl, h2⟩ : ∃ b o, ad2 = some ⟨b, o, none⟩ ∧ ∀ H : Hp, Cel G H b (o + (i : Int).toNat) q := by
      obtain ⟨_, _, e, _, _, h3⟩ := hv
      cases e
      rcases h3 with ⟨h0, _⟩ | ⟨b, o, rfl, hc⟩
      · have h00 : vs.length = 0 := by rw [h0]; rfl
        omega
      · exact ⟨b, o, rfl, fun H => by rw [Int.toNat_natCast]; exact (hc i q (by rw [hq]; exact List.getElem?_eq_getElem _)).mono (Im.le_refl _) (by simp)⟩
    refine ww ?_
    refine r_startS [] [] (by kernel_rfl) (fun w h => h.none) ?_
    refine r_tk 0 rfl rfl (v_move rfl) (fun _ h => h.none) ?_
    refine r_tk 1 rfl rfl (v_move rfl) (fun _ h => h.none) ?_
    refine r_tk 2 rfl rfl (v_index1 rfl rfl (by kernel_rfl) (by omega)) (fun _ h => h.none) ?_
    refine r_tk 3 rfl rfl (v_load rfl (h1 _) (by kernel_rfl)) (fun _ h => h.none) ?_
    refine r_tk 4 rfl rfl (v_move rfl) (fun _ h => h.none) ?_
    refine r_tk 5 rfl rfl (v_move rfl) (fun _ h => h.none) ?_
    refine r_tk 6 rfl rfl (v_index1 rfl rfl (by kernel_rfl) (by omega)) (fun _ h => h.none) ?_
    refine r_tk 7 rfl rfl (v_load rfl (h2 _) (by kernel_rfl)) (fun _ h => h.none) ?_
    refine r_one 8 (by kernel_rfl) rfl ?_
    refine s_call (xs := [_, _]) rfl rfl rfl rfl rfl rfl (by kernel_rfl) (fun w hs => same_c _ _ x x _ w _ _ (hi1.mono (Im.le_refl _) (by simp)) (hi2.mono (Im.le_refl _) (by simp)) hs) ?_
    rintro e w' ⟨rfl, hs'⟩; refine a_ret ?_ hs'; clear hs'
    rw [decide_eq_true (rfl : x = x)]
    refine r_next (fun w h => h.none) ?_
    refine r_tk 9 rfl rfl (v_not rfl) (fun _ h => h.none) ?_
    refine r_done (by kernel_rfl) ?_
    refine ww ?_
    refine c_cond_f rfl ?_
    refine ww ?_
    exact n_next (x := i) (i + 1) hil (by omega) ⟨rfl, rfl, rfl, trivial⟩ rfl sbx
  refine ww ?_
  exact f_ret1 rfl rfl (fun w hs => ⟨rfl, hs⟩)
end

section
open Go
set_option linter.unusedVariables false
set_option linter.unusedSimpArgs false
set_option maxHeartbeats 1600000
theorem Items.set {G : Im} {vs : List Value} {rs : List (List UInt8)} (h : Items G vs rs) {k : Nat} {u : Value} {b : List UInt8} (hu : SV G [] u b.length (b.map B8)) : Items G (vs.set k u) (rs.set k b) := by
  refine ⟨by simp [h.1], fun j v x hv hx => ?_⟩
  by_cases hj : k = j
  · subst hj
    have h1 : k < vs.length := by have := (List.getElem?_eq_some_iff.1 hv).1; simpa using this
    have h2 : k < rs.length := by have := (List.getElem?_eq_some_iff.1 hx).1; simpa using this
    rw [List.getElem?_set_self h1] at hv
    rw [List.getElem?_set_self h2] at hx
    cases hv
    cases hx
    exact hu
  · rw [List.getElem?_set_ne hj] at hv hx
    exact h.2 j v x hv hx
theorem mix_set {α : Type} (fs rs : List α) (i : Nat) (hl : fs.length = rs.length) (hi : i < fs.length) : (fs.take i ++ rs.drop i).set i fs[i] = fs.take (i + 1) ++ rs.drop (i + 1) := by
  have h1 : (fs.take i).length = i := by rw [List.length_take]; omega
  rw [List.set_append_right _ _ (by omega), h1, Nat.sub_self, List.drop_eq_getElem_cons (by omega), List.set_cons_zero, List.take_add_one, List.getElem?_eq_getElem hi, List.append_assoc]
  rfl
theorem mix_at {α : Type} (fs rs : List α) (i : Nat) (hl : fs.length = rs.length) (hi : i < rs.length) : (fs.take i ++ rs.drop i)[i]? = some rs[i] := by
  have h1 : (fs.take i).length = i := by rw [List.length_take]; omega
  rw [List.getElem?_append_right (by omega), h1, Nat.sub_self, List.getElem?_drop, Nat.add_zero, List.getElem?_eq_getElem hi]
theorem rowsL_len (xs : List UInt8) (n : Int) (hn : 3 ≤ n) : ((rowsL xs n).length : Int) = n := by
  unfold rowsL
  rw [List.length_append, partsL_len]
  simp; omega
theorem rowsL_le (xs : List UInt8) (n : Int) : ∀ r, r ∈ rowsL xs n → r.length ≤ xs.length := by
  intro r hr
  have h := parts_mxl xs (eN xs n) (n - 1).toNat
  unfold rowsL at hr
  rcases List.mem_append.1 hr with hr | hr
  · exact Nat.le_trans (le_mxl hr) h
  · have : r = _ := List.mem_singleton.1 hr
    rw [this, pxor_length]; exact h
attribute [local irreducible] Code.wp wpList stepK Holds Val wpR Eff Eff0 Code.wpIn wpListIn stepI Exit.then Exit.inBlock bodyPost bodyPostM

theorem rcut_c (c l num n : Int) (vd : Value) (xs : List UInt8) (hx : xs.length ≤ 60000) (hn64 : -9223372036854775808 ≤ n ∧ n ≤ 9223372036854775807) (w0 w : World) (G : Im) (F : Hp) (hvd : SV G [] vd xs.length (xs.map B8)) (hs : Sat w0 w G F) :
    Calls Try.prog 23 #[.agg #[I64 c, I64 l, I64 num], vd, I64 n] w fun e w' => ∃ G' u, e = .returned (.tuple #[u, I64 (cutS c l num xs n).2]) ∧ Im.le G G' ∧ RowsV G' u (cutS c l num xs n).1 ∧ Sat w0 w' G' F := by
  obtain ⟨ad, cp, rfl⟩ := hvd.form
  refine f_enter (vs := [_, _, _]) Try.func23 rfl Try.ntmps23 (by simp) hs ?_
  refine ww ?_
  refine c_cons (s_boxA [I64 c, I64 l, I64 num] rfl rfl rfl fun b1 => ?_)
  refine c_freeze .head fun G1 hG1 kS => ?_
  refine ww ?_
  refine c_cons (s_call (xs := [_]) rfl rfl rfl rfl rfl rfl (by kernel_rfl) (fun w hs => mayN_c n _ w _ _ hs) ?_)
  rintro e w' ⟨rfl, hs'⟩; refine a_ret ?_ hs'; clear hs'
  refine ww ?_
  refine c_part_nd 13 _ rfl (fun c1 => ?_) (fun c1 => ?_)
  · -- t13 = True
    refine ww ?_
    refine c_cond_t rfl ?_
    refine ww ?_
    have e : cutS c l num xs n = ([], 1) := by unfold cutS; rw [if_neg (fun h => c1 h.1)]
    rw [e]
    exact f_ret2 rfl rfl rfl (fun w hs => ⟨G1, _, rfl, hG1, RowsV.nil _, hs⟩)
  refine ww ?_
  refine c_cons (s_val (v_loadAgg (vs := [I64 c, I64 l, I64 num]) rfl (by kernel_rfl) (by kernel_rfl) rfl (fun j u hj => (Cel.allI kS hj))) rfl rfl rfl ?_)
  refine c_cons (s_call (xs := [_]) rfl rfl rfl rfl rfl rfl (by kernel_rfl) (fun w hs => mayst_c c l num _ w _ _ hs) ?_)
  rintro e w' ⟨rfl, hs'⟩; refine a_ret ?_ hs'; clear hs'
  refine ww ?_
  refine c_cond_nd rfl (fun c2 => ?_) (fun c2 => ?_)
  · -- then
    refine ww ?_
    have e : cutS c l num xs n = ([], 1) := by unfold cutS; rw [if_neg (fun h => c2 h.2)]
    rw [e]
    exact f_ret2 rfl rfl rfl (fun w hs => ⟨G1, _, rfl, hG1, RowsV.nil _, hs⟩)
  refine ww ?_
  refine c_cons (s_val (v_mul rfl rfl (by omega)) rfl rfl rfl ?_)
  refine ww ?_
  refine c_cond_d rfl (fun c3 => ?_) (fun c3 => ?_)
  · -- then
    refine ww ?_
    have e : cutS c l num xs n = ([], 3) := by unfold cutS; rw [if_pos ⟨c1, c2⟩, if_neg (by omega)]
    rw [e]
    exact f_ret2 rfl rfl rfl (fun w hs => ⟨G1, _, rfl, hG1, RowsV.nil _, hs⟩)
  have hcut : cutS c l num xs n = (fragsL c l num n xs.length (rowsL xs n), 0) := by unfold cutS; rw [if_pos ⟨c1, c2⟩, if_pos (by omega)]
  rw [hcut]
  have hst := c2
  unfold mst at hst
  refine ww ?_
  refine c_cons (s_call (xs := [_, _]) rfl rfl rfl rfl rfl rfl (by kernel_rfl) (fun w hs => rparts_c _ xs n (by omega) c1 _ w _ _ (hvd.mono (H' := []) hG1 (fun p hp => hp)) hs) ?_)
  rintro e w' ⟨G2, u, B, rfl, hG2, hr, hs'⟩; refine a_ret ?_ hs'; clear hs'
  have kS2 := hG2 _ _ kS
  have hG12 := hG1.trans hG2
  have hrl := rowsL_len xs n c1.1
  have hrle := rowsL_le xs n
  have hfl := fragsL_len c l num n xs.length (rowsL xs n)
  have hfat : ∀ (i : Nat) (h : i < (rowsL xs n).length), (fragsL c l num n xs.length (rowsL xs n))[i]'(by rw [hfl]; exact h) = headB ⟨c, l, num, i, n, xs.length⟩ ++ (rowsL xs n)[i] := fun i h => by
    unfold fragsL
    rw [List.getElem_mapIdx]
  generalize fragsL c l num n xs.length (rowsL xs n) = fs at hfl hfat ⊢
  generalize rowsL xs n = rs at hr hrl hrle hfl hfat
  obtain ⟨vs, ⟨hl, hown⟩, hit⟩ := hr
  have hvl : vs.length = rs.length := hit.1
  rcases hown with ⟨ad, rfl, h0, rfl⟩ | ⟨bb, cc, sl, rfl, hb1, hb2, hb3, rfl⟩
  · omega
  rw [hvl] at hb2 ⊢
  unfold maxLen at hb1
  change Holds _ _ _ _ _ ((bb, Cs (vs ++ sl) 22) :: F) _
  refine ww ?_
  refine c_loop (α := Nat × Im × List Value) (fun x => [(1, .slice ad xs.length cp), (2, I64 n), (3, Pt b1 0), (8, Sl bb 0 rs.length cc), (9, I64 x.1)]) (fun x => x.2.1) (fun x => (bb, Cs (x.2.2 ++ sl) 22) :: F) (fun x => x.1 ≤ rs.length ∧ Im.le G2 x.2.1 ∧ Items x.2.1 x.2.2 (fs.take x.1 ++ rs.drop x.1)) (fun x => rs.length - x.1) (0, G2, vs) ⟨Nat.zero_le _, Im.le_refl _, by simpa using hit⟩ ?_ ?_
  · exact n_at ⟨rfl, rfl, rfl, rfl, rfl, trivial⟩ sbx
  rintro ⟨i, Gi, cvs⟩ ⟨hi, hGi, hci⟩
  dsimp only at hi hGi hci ⊢
  have hcl : cvs.length = rs.length := by rw [hci.1]; simp; omega
  have kSi := hGi _ _ kS2
  refine ww ?_
  refine c_cond_d rfl (fun c4 => ?_) (fun c4 => ?_)
  · -- then
    have hil : i < rs.length := by omega
    obtain ⟨p, hp⟩ : ∃ p, cvs[i]? = some p := ⟨_, List.getElem?_eq_getElem (by omega)⟩
    have hpi := hci.2 i p rs[i] hp (mix_at fs rs i hfl hil)
    obtain ⟨r, hrr⟩ : ∃ r, r = rs[i] := ⟨_, rfl⟩
    have hrlen := hrle rs[i] (List.getElem_mem hil)
    have hfi := hfat i hil
    rw [← hrr] at hpi hrlen hfi
    have hmix := mix_set fs rs i hfl (by omega)
    rw [hfi] at hmix
    have hgd : gd ⟨c, l, num, i, n, xs.length⟩ := by unfold gd; dsimp only; omega
    have hcel : ∀ (G : Im) (H : Hp), Cel G ((bb, Cs (cvs ++ sl) 22) :: H) bb (0 + (i : Int).toNat) p := fun G H => Cel.head (by rw [Nat.zero_add, Int.toNat_natCast, List.getElem?_append_left (by omega)]; exact hp)
    have hhl := headB_len ⟨c, l, num, i, n, xs.length⟩
    refine ww ?_
    refine r_startS [(bb, Cs (cvs ++ sl) 22)] [15] (by kernel_rfl) (fun w h => h.sb) ?_
    refine r_tk 0 rfl rfl (v_move rfl) (fun _ h => (h.sb)) ?_
    refine r_tk 1 rfl rfl (v_move rfl) (fun _ h => (h.sb)) ?_
    refine r_tk 2 rfl rfl (v_loadAgg (vs := [I64 c, I64 l, I64 num]) rfl (by kernel_rfl) (by kernel_rfl) rfl (fun j u hj => (Cel.allI kSi hj))) (fun _ h => (h.sb)) ?_
    refine r_tk 3 rfl rfl (v_move rfl) (fun _ h => (h.sb)) ?_
    refine r_tk 4 rfl rfl (v_move rfl) (fun _ h => (h.sb)) ?_
    refine r_tk 5 rfl rfl (v_move rfl) (fun _ h => (h.sb)) ?_
    refine r_tk 6 rfl rfl (v_len rfl (by kernel_rfl)) (fun _ h => (h.sb)) ?_
    refine r_tk 7 rfl rfl (v_build (ps := [_, _, _, _]) #[I64 c, I64 l, I64 num, I64 (i : Int), I64 n, I64 (xs.length : Int)] rfl (by kernel_rfl)) (fun _ h => (h.sb)) ?_
    refine r_tk 9 rfl rfl (v_move rfl) (fun _ h => (h.sb)) ?_
    refine r_tk 10 rfl rfl (v_move rfl) (fun _ h => (h.sb)) ?_
    refine r_tk 11 rfl rfl (v_index1 rfl rfl (by kernel_rfl) (by omega)) (fun _ h => (h.sb)) ?_
    refine r_tk 12 rfl rfl (v_load rfl (hcel _ _) (by kernel_rfl)) (fun _ h => (h.sb)) ?_
    refine r_one 8 (by kernel_rfl) rfl ?_
    refine s_call (xs := [_]) rfl rfl rfl rfl rfl rfl (by kernel_rfl) (fun w hs => rhead_c ⟨c, l, num, i, n, xs.length⟩ hgd _ w _ _ hs) ?_
    rintro e w' ⟨G3, u3, B3, rfl, hG3, hu3, hs'⟩; refine a_ret ?_ hs'; clear hs'
    generalize headB ⟨c, l, num, i, n, xs.length⟩ = hd at hu3 hhl hmix
    refine r_next (fun w h => (h.sb).weaken hG3) ?_
    refine r_one 13 (by kernel_rfl) rfl ?_
    refine s_append (e := 5) (z := B8 0) (sz := 1) (bs := 1) (by kernel_rfl) rfl rfl rfl rfl hu3 Chunk.head (hpi.mono hG3 (by simp)) rfl (by decide) (by simp) (B8_one r) (by omega) (by omega) fun u4 B4 hown4 => ?_
    rw [← List.map_append, ← List.length_append] at hown4
    refine c_freezeO hown4 Chunk.head fun G4 hG4 hsv4 => ?_
    refine r_next (fun w h => ((h.sb).weaken hG4).weaken hG3) ?_
    refine r_tk 14 rfl rfl (v_index1 rfl rfl (by kernel_rfl) (by omega)) (fun _ h => ((h.sb).weaken hG4).weaken hG3) ?_
    refine r_one 15 (by kernel_rfl) rfl ?_
    refine s_store1 rfl rfl rfl .head (by kernel_rfl) hsv4.one (by rw [Nat.zero_add, Int.toNat_natCast, List.length_append]; omega) ?_
    rw [Nat.zero_add, Int.toNat_natCast, List.set_append_left _ _ (by omega)]
    refine r_late rfl ?_
    refine r_done (by kernel_rfl) ?_
    have hci2 : Items G4 (cvs.set i u4) (fs.take (i + 1) ++ rs.drop (i + 1)) := by rw [← hmix]; exact (hci.mono (hG3.trans hG4)).set hsv4
    refine ww ?_
    exact n_next (x := (i, Gi, cvs)) (i + 1, G4, cvs.set i u4) ⟨by dsimp only; omega, hGi.trans (hG3.trans hG4), hci2⟩ (by dsimp only; omega) ⟨rfl, rfl, rfl, rfl, rfl, trivial⟩ rfl sbx
  have e : i = fs.length := by omega
  rw [e, List.take_length, hfl, List.drop_length, List.append_nil] at hci
  refine c_freeze .head fun G5 hG5 k5 => ?_
  have hrv : RowsV G5 (Sl bb 0 rs.length cc) fs := ⟨cvs, by
    rw [hcl]
    refine ⟨_, cc, rfl, hb2, by unfold maxLen; omega, .inr ⟨bb, 0, rfl, fun j u hj => ⟨_, _, _, .of_imm k5, ?_⟩⟩⟩
    simp only [List.getElem?_toArray, Nat.zero_add]
    rw [List.getElem?_append_left (List.getElem?_eq_some_iff.1 hj).1]; exact hj, hci.mono hG5⟩
  refine ww ?_
  exact f_ret2 rfl rfl rfl (fun w hs => ⟨G5, _, rfl, hG12.trans (hGi.trans hG5), hrv, hs⟩)
end
end Go.Proofs.Ytldkldmjcacopaa
