/- The law LayoutSpans. -/
import Derived.Test.YtldkldmjcacopaaLayP
import Derived.Test.YtldkldmjcacopaaLaySp
import Derived.Test.YtldkldmjcacopaaLayL0
namespace Go.Proofs.Ytldkldmjcacopaa
open Go
set_option linter.unusedVariables false
set_option linter.unusedSimpArgs false
set_option maxHeartbeats 1600000
attribute [local irreducible] Code.wp wpList stepK Holds Val wpR Eff Eff0 Code.wpIn wpListIn stepI Exit.then Exit.inBlock bodyPost bodyPostM

theorem spans_c (m : Int) (vd : Value) (xs : List UInt8) (a b : Int) (ha : 0 ≤ a ∧ a ≤ 65535) (hb : 0 ≤ b ∧ b ≤ 65535) (w0 w : World) (G : Im) (F : Hp) (hv : SV G [] vd xs.length (xs.map B8)) (hs : Sat w0 w G F) :
    Calls Try.prog 5 #[I64 m, vd, .agg #[.int .u16 a, .int .u16 b]] w fun e w' => ∃ G', e = .returned (.bool true) ∧ Im.le G G' ∧ Sat w0 w' G' F := by
  obtain ⟨ad, cp, rfl⟩ := hv.form
  refine f_enter (vs := [_, _, _]) Try.func5 rfl Try.ntmps5 (by simp) hs ?_
  refine ww ?_
  refine c_cons (s_boxA [.int .u16 a, .int .u16 b] rfl rfl rfl fun b1 => ?_)
  refine c_freeze .head fun G1 hG1 k1 => ?_
  refine ww ?_
  refine c_cons (s_call (xs := []) rfl rfl rfl rfl rfl rfl (by kernel_rfl) (fun w hs => awake_c _ w _ _ hs) ?_)
  rintro e w' ⟨G0, rfl, hG0, hs'⟩; refine a_ret ?_ hs'; clear hs'
  replace k1 := hG0 _ _ k1
  replace hv := hv.mono (H' := []) (hG1.trans hG0) (fun p hp => hp)
  have hG := hG1.trans hG0
  refine ww ?_
  refine c_cond_f rfl ?_
  refine ww ?_
  refine c_cons (s_call (xs := [_]) rfl rfl rfl rfl rfl rfl (by kernel_rfl) (fun w hs => servers_c m _ w _ _ hs) ?_)
  rintro e w' ⟨rfl, hs'⟩; refine a_ret ?_ hs'; clear hs'
  have hn := srvS_in m
  generalize srvS m = n at hn ⊢
  refine ww ?_
  refine c_part_d 29 _ rfl (fun c2 => ?_) (fun c2 => ?_)
  · -- t29 = True
    refine ww ?_
    refine c_cond_t rfl ?_
    refine ww ?_
    exact f_ret1 rfl rfl (fun w hs => ⟨G0, rfl, hG, hs⟩)
  refine ww ?_
  refine c_part_d 34 _ rfl (fun c3 => ?_) (fun c3 => ?_)
  · -- t34 = True
    refine ww ?_
    refine c_cond_t rfl ?_
    refine ww ?_
    exact f_ret1 rfl rfl (fun w hs => ⟨G0, rfl, hG, hs⟩)
  refine ww ?_
  refine c_cons (s_val (v_mul rfl rfl (by omega)) rfl rfl rfl ?_)
  refine ww ?_
  refine c_cond_d rfl (fun c4 => ?_) (fun c4 => ?_)
  · -- then
    refine ww ?_
    exact f_ret1 rfl rfl (fun w hs => ⟨G0, rfl, hG, hs⟩)
  have hmod1 := Int.emod_lt_of_pos a (show (0 : Int) < xs.length by omega)
  have hmod2 := Int.emod_nonneg a (show (xs.length : Int) ≠ 0 by omega)
  refine ww ?_
  refine c_cons (s_val (v_indexA 2 1 rfl rfl (by kernel_rfl) (by omega)) rfl rfl rfl ?_)
  refine c_cons (s_val (v_load rfl (Cel.imm k1 rfl) (by kernel_rfl)) rfl rfl rfl ?_)
  refine c_cons (s_val (v_uint rfl (by kernel_rfl) (by kernel_rfl) (by omega)) rfl rfl rfl ?_)
  refine ww ?_
  refine c_cons (s_val (v_rem rfl rfl (by omega) (by omega)) rfl rfl rfl ?_)
  generalize a % (xs.length : Int) = at' at hmod1 hmod2 ⊢
  have hmod3 := Int.emod_lt_of_pos b (show (0 : Int) < xs.length - at' by omega)
  have hmod4 := Int.emod_nonneg b (show (xs.length - at' : Int) ≠ 0 by omega)
  refine ww ?_
  refine c_cons (s_val (v_indexA 2 1 rfl rfl (by kernel_rfl) (by omega)) rfl rfl rfl ?_)
  refine c_cons (s_val (v_load rfl (Cel.imm k1 rfl) (by kernel_rfl)) rfl rfl rfl ?_)
  refine c_cons (s_val (v_uint rfl (by kernel_rfl) (by kernel_rfl) (by omega)) rfl rfl rfl ?_)
  refine ww ?_
  refine c_cons (s_val (v_rem rfl rfl (by omega) (by omega)) rfl rfl rfl ?_)
  generalize b % (xs.length - at' : Int) = q at hmod3 hmod4 ⊢
  refine ww ?_
  obtain ⟨cn, hcn⟩ : ∃ cn, cn = 1 + q := ⟨_, rfl⟩
  rw [← hcn]
  have hsp : spanS at' cn xs.length n = (at' / eachS xs.length n, (at' + cn - 1) / eachS xs.length n, 0) := by unfold spanS; rw [if_pos (by unfold spanOk; omega)]
  refine c_cons (s_call (xs := [_, _, _, _]) rfl rfl rfl rfl rfl rfl (by kernel_rfl) (fun w hs => span_c at' cn xs.length n _ w _ _ hs) ?_)
  rw [hsp]
  rintro e w' ⟨rfl, hs'⟩; refine a_ret ?_ hs'; clear hs'
  have he := eN_cast xs n hn
  have he1 := each_pos hn (show 1 ≤ (xs.length : Int) by omega)
  have he2 := (each_in hn (show 0 ≤ (xs.length : Int) by omega)).2
  have hlast := span_last (L := xs.length) (a := at') (count := cn) hn (by omega) (by omega) (by omega) (by omega)
  obtain ⟨hf1, hf2, hf3, hf4, hf5⟩ := span_first (L := xs.length) (e := eachS xs.length n) (a := at') (count := cn) he1 (by omega) (by omega)
  obtain ⟨f, hf⟩ : ∃ f : Nat, (f : Int) = at' / eachS xs.length n := ⟨(at' / eachS xs.length n).toNat, by omega⟩
  obtain ⟨l, hl⟩ : ∃ l : Nat, (l : Int) = (at' + cn - 1) / eachS xs.length n := ⟨((at' + cn - 1) / eachS xs.length n).toNat, by omega⟩
  have hle := hl
  rw [← hf] at hf1 hf2 hf3 hf4 ⊢
  rw [← hl] at hf2 hf5 hlast ⊢
  refine ww ?_
  refine c_cons (s_call (xs := [_]) rfl rfl rfl rfl rfl rfl (by kernel_rfl) (fun w hs => stripeL_c m _ w _ _ hs) ?_)
  obtain ⟨hst, _⟩ := strS_mst m
  generalize strS m = s at hst ⊢
  rintro e w' ⟨rfl, hs'⟩; refine a_ret ?_ hs'; clear hs'
  refine ww ?_
  refine c_cons (s_call (xs := [_, _, _]) rfl rfl rfl rfl rfl rfl (by kernel_rfl) (fun w hs => cut_c s.c s.l s.n n _ xs (by omega) _ w _ _ hv hs) ?_)
  rw [cutS_ok hn hst (by omega)]
  rintro e w' ⟨G3, u3, B3, rfl, hG3, hu3, hs'⟩; refine a_ret ?_ hs'; clear hs'
  dsimp only at hu3 ⊢
  refine hu3.freeze Chunk.head fun G4 hG4 hr4 => ?_
  replace hv := hv.mono (H' := []) (hG3.trans hG4) (fun p hp => hp)
  have hG' := hG.trans (hG3.trans hG4)
  have hfl : (fragsL s.c s.l s.n n xs.length (rowsL xs n)).length = n.toNat := by rw [fragsL_len, rowsL_length xs n hn]
  obtain ⟨fr, hfr⟩ : ∃ fr, fr = fragsL s.c s.l s.n n xs.length (rowsL xs n) := ⟨_, rfl⟩
  have hrow : ∀ i : Nat, (i : Int) < n - 1 → ∃ b o c u, u3 = .slice (some ⟨b, o, none⟩) fr.length c ∧ (∀ (G' : Im) (H : Hp), Im.le G4 G' → Cel G' H b (o + (i : Int).toNat) u) ∧ SV G4 [] u (headB ⟨s.c, s.l, s.n, i, n, xs.length⟩ ++ partB xs (eN xs n) i).length ((headB ⟨s.c, s.l, s.n, i, n, xs.length⟩ ++ partB xs (eN xs n) i).map B8) := fun i hi => by
    rw [hfr]
    exact hr4.row (frag_at (rowsL_part xs n i hi))
  obtain ⟨ad4, c4', rfl⟩ := hr4.len
  rw [← hfr] at hfl hrow ⊢
  refine ww ?_
  refine c_kf 77 rfl (by omega) ?_
  refine ww ?_
  refine c_kf 81 rfl (by omega) ?_
  refine ww ?_
  refine c_kf 85 rfl (by omega) ?_
  refine ww ?_
  refine c_kf 90 rfl (by omega) ?_
  refine ww ?_
  refine c_kf 96 rfl (by omega) ?_
  refine ww ?_
  refine c_cond_d rfl (fun c10 => ?_) (fun c10 => ?_)
  · exfalso; omega
  refine ww ?_
  refine c_cons (s_call (xs := [_, _]) rfl rfl rfl rfl rfl rfl (by kernel_rfl) (fun w hs => leach_c xs.length n (by omega) _ w _ _ hs) ?_)
  rintro e w' ⟨rfl, hs'⟩; refine a_ret ?_ hs'; clear hs'
  rw [← he] at hf3 hf4 hf5 he1 he2 hle ⊢
  obtain ⟨e, hee⟩ : ∃ e, e = eN xs n := ⟨_, rfl⟩
  rw [← hee] at hf3 hf4 hf5 hrow he1 he2 hle ⊢
  have hfe : f * e ≤ xs.length := by
    have : ((f * e : Nat) : Int) = (f : Int) * e := Int.natCast_mul _ _
    omega
  refine ww ?_
  refine c_loop (α := Nat × Im × Value × Hp) (fun x => [(1, .slice ad xs.length cp), (8, I64 at'), (9, I64 cn), (10, I64 f), (11, I64 l), (13, .slice ad4 fr.length c4'), (15, I64 e), (16, x.2.2.1), (17, I64 x.1)]) (fun x => x.2.1) (fun x => x.2.2.2 ++ F) (fun x => f ≤ x.1 ∧ x.1 ≤ l + 1 ∧ Im.le G4 x.2.1 ∧ OB x.2.2.1 ((xs.take (x.1 * e)).drop (f * e)) x.2.2.2) (fun x => l + 1 - x.1) (f, G4, .slice none 0 0, []) ⟨Nat.le_refl _, by dsimp only; omega, Im.le_refl _, by dsimp only; rw [List.drop_eq_nil_of_le (by rw [List.length_take]; omega)]; exact Own.zero none _ _⟩ ?_ ?_
  · exact n_at ⟨rfl, rfl, rfl, rfl, rfl, rfl, rfl, rfl, rfl, trivial⟩ sbx
  rintro ⟨i, Gi, v, B⟩ ⟨hi1, hi2, hGi, hob⟩
  dsimp only at hi1 hi2 hGi hob ⊢
  refine ww ?_
  refine c_cond_d rfl (fun c11 => ?_) (fun c11 => ?_)
  · -- then
    obtain ⟨bb, bo, bc, u, hue, hcel, hu⟩ := hrow i (by omega)
    cases hue
    have hpl : (partB xs e i).length ≤ 800 := by rw [partB_len]; omega
    have hcell := fun H => hcel Gi H hGi
    replace hu := hu.mono (H' := []) hGi (fun p hp => hp)
    obtain ⟨r1, r2, r3⟩ := readE_head ⟨s.c, s.l, s.n, i, n, xs.length⟩ (partB xs e i) ⟨hst, hn, by dsimp only; omega, by dsimp only; omega, by dsimp only; omega⟩ (by dsimp only; omega) (by dsimp only; rw [hee]; exact part_long xs n hn i (by omega))
    refine ww ?_
    refine c_cons (s_val (v_index1 rfl rfl (by kernel_rfl) (by omega)) rfl rfl rfl ?_)
    refine c_cons (s_val (v_load rfl (hcell _) (by kernel_rfl)) rfl rfl rfl ?_)
    refine c_cons (s_call (xs := [_]) rfl rfl rfl rfl rfl rfl (by kernel_rfl) (fun w hs => readF_c _ _ (by rw [List.length_append, headB_len]; omega) _ w _ _ hu hs) ?_)
    rw [r1, r2, r3]
    rintro e w' ⟨G5, u5, rfl, hG5, hu5, hs'⟩; refine a_ret ?_ hs'; clear hs'
    refine ww ?_
    refine c_cons (s_allocA [I64 0, I64 0, I64 0, I64 0, I64 0, I64 0] (by kernel_rfl) rfl rfl fun b2 => ?_)
    refine c_cons (s_storeA (vs := [I64 s.c, I64 s.l, I64 s.n, I64 i, I64 n, I64 xs.length]) rfl rfl rfl .head (by kernel_rfl) (by simp [Value.oneCell']) rfl ?_)
    refine ww ?_
    refine c_cond_f rfl ?_
    refine c_sub (B ++ F) sbx ?_
    refine ww ?_
    have hdl : ((xs.take (i * e)).drop (f * e)).length ≤ 800 := by rw [List.length_drop, List.length_take]; omega
    refine c_cons (s_append (e := 5) (z := B8 0) (sz := 1) (bs := 1) (by kernel_rfl) rfl rfl rfl rfl hob Chunk.head (hu5.mono (Im.le_refl _) (by simp)) rfl (by decide) (by simp) (B8_one _) (by omega) (by omega) fun v2 B2 hown2 => ?_)
    rw [← List.map_append, ← List.length_append, got_next xs e f i hi1 hfe] at hown2
    refine ww ?_
    exact n_next (x := (i, Gi, v, B)) (i + 1, G5, v2, B2) ⟨by dsimp only; omega, by dsimp only; omega, hGi.trans hG5, hown2⟩ (by dsimp only; omega) ⟨rfl, rfl, rfl, rfl, rfl, rfl, rfl, rfl, rfl, trivial⟩ rfl sbx
  have hil : i = l + 1 := by omega
  subst hil
  have hf6 : ((f * e : Nat) : Int) = (f : Int) * e := Int.natCast_mul _ _
  have hf7 : (((l + 1) * e : Nat) : Int) = ((l : Int) + 1) * e := by rw [Int.natCast_mul]; rfl
  rw [← hf6] at hf3 hf4
  rw [← hf7] at hf5
  have hfin := got_cut xs ((l + 1) * e) (f * e) at'.toNat cn.toNat (by omega) (by omega)
  obtain ⟨got, hgot⟩ : ∃ got, got = (xs.take ((l + 1) * e)).drop (f * e) := ⟨_, rfl⟩
  rw [← hgot] at hob hfin
  have hgl : at' - (f * e : Nat) + cn ≤ got.length := by rw [hgot, List.length_drop, List.length_take]; omega
  refine c_freezeO hob Chunk.head fun G6 hG6 hsv6 => ?_
  replace hv := hv.mono (H' := []) (hGi.trans hG6) (fun p hp => hp)
  obtain ⟨ad6, cp6, rfl⟩ := hsv6.form
  have hcap6 : got.length ≤ cp6 := by
    obtain ⟨_, _, e, h1, _⟩ := hsv6
    cases e; exact h1
  have hcapv : xs.length ≤ cp := by
    obtain ⟨_, _, e, h1, _⟩ := hv
    cases e; exact h1
  obtain ⟨fr0, hfr0⟩ : ∃ fr0 : Nat, (fr0 : Int) = at' - (f * e : Nat) := ⟨(at' - (f * e : Nat)).toNat, by omega⟩
  obtain ⟨at0, hat0⟩ : ∃ at0 : Nat, (at0 : Int) = at' := ⟨at'.toNat, by omega⟩
  obtain ⟨cn0, hcn0⟩ : ∃ cn0 : Nat, (cn0 : Int) = cn := ⟨cn.toNat, by omega⟩
  rw [show at'.toNat - f * e = fr0 by omega, show cn.toNat = cn0 by omega, show at'.toNat = at0 by omega] at hfin
  have hm1 : SV G6 [] (slMid ad6 cp6 fr0 (fr0 + cn0) 1) ((got.drop fr0).take cn0).length (((got.drop fr0).take cn0).map B8) := by
    have h := hsv6.mid (s := 1) (show fr0 ≤ fr0 + cn0 by omega) (show fr0 + cn0 ≤ got.length by omega)
    simp only [Nat.mul_one] at h
    rw [show fr0 + cn0 - fr0 = cn0 by omega] at h
    rw [show ((got.drop fr0).take cn0).length = cn0 by rw [List.length_take, List.length_drop]; omega, List.map_take, List.map_drop]
    exact h
  have hm2 : SV G6 [] (slMid ad cp at0 (at0 + cn0) 1) ((xs.drop at0).take cn0).length (((xs.drop at0).take cn0).map B8) := by
    have h := hv.mid (s := 1) (show at0 ≤ at0 + cn0 by omega) (show at0 + cn0 ≤ xs.length by omega)
    simp only [Nat.mul_one] at h
    rw [show at0 + cn0 - at0 = cn0 by omega] at h
    rw [show ((xs.drop at0).take cn0).length = cn0 by rw [List.length_take, List.length_drop]; omega, List.map_take, List.map_drop]
    exact h
  rw [hfin] at hm1
  have hGG := hG'.trans (hGi.trans hG6)
  refine ww ?_
  refine c_cons (s_val (v_mul rfl rfl (by omega)) rfl rfl rfl ?_)
  rw [← hf6]
  refine ww ?_
  rw [← hfr0, ← hat0, ← hcn0]
  refine r_startS [] [] (by kernel_rfl) (fun w h => h.none) ?_
  refine r_tk 0 rfl rfl (v_move rfl) (fun _ h => h.none) ?_
  refine r_tk 1 rfl rfl (v_geq rfl rfl) (fun _ h => h.none) ?_
  refine r_tk 2 rfl rfl (v_move rfl) (fun _ h => h.none) ?_
  refine c_kt 133 rfl (by omega) ?_
  refine r_tk 3 rfl rfl (v_move rfl) (fun _ h => h.none) ?_
  refine r_tk 4 rfl rfl (v_move rfl) (fun _ h => h.none) ?_
  refine r_tk 5 rfl rfl (v_lss rfl rfl) (fun _ h => h.none) ?_
  refine r_tk 6 rfl rfl (v_pick_t rfl rfl) (fun _ h => h.none) ?_
  refine r_tk 7 rfl rfl (v_move rfl) (fun _ h => h.none) ?_
  refine c_kt 138 rfl (by omega) ?_
  refine r_tk 8 rfl rfl (v_move rfl) (fun _ h => h.none) ?_
  refine r_tk 9 rfl rfl (v_move rfl) (fun _ h => h.none) ?_
  refine r_tk 10 rfl rfl (v_add rfl rfl (by omega)) (fun _ h => h.none) ?_
  refine r_tk 11 rfl rfl (v_move rfl) (fun _ h => h.none) ?_
  refine r_tk 12 rfl rfl (v_len rfl (by kernel_rfl)) (fun _ h => h.none) ?_
  refine r_tk 13 rfl rfl (v_leq rfl rfl) (fun _ h => h.none) ?_
  refine r_tk 14 rfl rfl (v_pick_t rfl rfl) (fun _ h => h.none) ?_
  refine r_tk 15 rfl rfl (v_move rfl) (fun _ h => h.none) ?_
  refine c_kt 146 rfl (by omega) ?_
  refine r_tk 16 rfl rfl (v_move rfl) (fun _ h => h.none) ?_
  refine r_tk 17 rfl rfl (v_move rfl) (fun _ h => h.none) ?_
  refine r_tk 18 rfl rfl (v_move rfl) (fun _ h => h.none) ?_
  refine r_tk 19 rfl rfl (v_move rfl) (fun _ h => h.none) ?_
  refine r_tk 20 rfl rfl (v_add rfl rfl (by omega)) (fun _ h => h.none) ?_
  refine r_tk 21 rfl rfl (v_slMid fr0 (fr0 + cn0) 1 rfl rfl (by rw [Int.natCast_add]; rfl) (by kernel_rfl) (by omega) (by omega)) (fun _ h => h.none) ?_
  refine r_tk 22 rfl rfl (v_move rfl) (fun _ h => h.none) ?_
  refine r_tk 23 rfl rfl (v_move rfl) (fun _ h => h.none) ?_
  refine r_tk 24 rfl rfl (v_move rfl) (fun _ h => h.none) ?_
  refine r_tk 25 rfl rfl (v_move rfl) (fun _ h => h.none) ?_
  refine r_tk 26 rfl rfl (v_add rfl rfl (by omega)) (fun _ h => h.none) ?_
  refine r_tk 27 rfl rfl (v_slMid at0 (at0 + cn0) 1 rfl rfl (by rw [Int.natCast_add]; rfl) (by kernel_rfl) (by omega) (by omega)) (fun _ h => h.none) ?_
  refine r_one 28 (by kernel_rfl) rfl ?_
  refine s_call (xs := [_, _]) rfl rfl rfl rfl rfl rfl (by kernel_rfl) (fun w hs => same_c _ _ _ _ _ w _ _ (hm1.mono (Im.le_refl _) (by simp)) (hm2.mono (Im.le_refl _) (by simp)) hs) ?_
  rw [decide_eq_true rfl]
  rintro e w' ⟨rfl, hs'⟩; refine a_ret ?_ hs'; clear hs'
  refine r_next (fun w h => h.none) ?_
  refine r_tk 29 rfl rfl (v_pick_t rfl rfl) (fun _ h => h.none) ?_
  refine r_tk 30 rfl rfl (v_move rfl) (fun _ h => h.none) ?_
  refine c_kt 161 (p := (0 : Int) = 0) rfl rfl ?_
  refine r_tk 31 rfl rfl (v_move rfl) (fun _ h => h.none) ?_
  refine r_tk 32 rfl rfl (v_move rfl) (fun _ h => h.none) ?_
  refine r_tk 33 rfl rfl (v_add rfl rfl (by omega)) (fun _ h => h.none) ?_
  refine r_tk 34 rfl rfl (v_sub rfl rfl (by omega)) (fun _ h => h.none) ?_
  refine r_tk 35 rfl rfl (v_move rfl) (fun _ h => h.none) ?_
  refine r_tk 36 rfl rfl (v_quo rfl rfl (by omega) (by omega)) (fun _ h => h.none) ?_
  refine r_tk 37 rfl rfl (v_move rfl) (fun _ h => h.none) ?_
  refine r_tk 38 rfl rfl (v_is (v_eql rfl rfl) (show _ = Value.bool true by rw [decide_eq_true (by rw [hle, hcn0, hat0])])) (fun _ h => h.none) ?_
  refine r_tk 39 rfl rfl (v_pick_t rfl rfl) (fun _ h => h.none) ?_
  refine r_tk 40 rfl rfl (v_assign rfl) (fun _ h => h.none) ?_
  refine r_done (by kernel_rfl) ?_
  refine ww ?_
  exact f_ret1 rfl rfl (fun w hs => ⟨G6, rfl, hGG, hs⟩)
end Go.Proofs.Ytldkldmjcacopaa
