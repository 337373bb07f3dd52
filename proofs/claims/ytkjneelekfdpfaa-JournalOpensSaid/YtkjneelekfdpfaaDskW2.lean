/- The walks of package disk: Read, Write, Image. -/
import Derived.Test.YtkjneelekfdpfaaDskW1
namespace Go.Proofs.Ytkjneelekfdpfaa
open Go
set_option linter.unusedVariables false
set_option linter.unusedSimpArgs false
set_option maxHeartbeats 3200000
attribute [local irreducible] Code.wp wpList stepK Holds Val wpR Eff Eff0 Code.wpIn wpListIn stepI Exit.then Exit.inBlock bodyPost bodyPostM

theorem B8_ones (xs : List UInt8) : ∀ u ∈ xs.map B8, u.oneCell' = true := by
  intro u hu; simp at hu; obtain ⟨x, _, rfl⟩ := hu; rfl
theorem SV.bytes {G : Im} {H : Hp} {v : Value} {ys : List UInt8} (h : SV G H v ys.length (ys.map B8)) (h0 : 0 < ys.length) : ∃ b o c, v = Sl b o ys.length c ∧ ∀ (j : Nat) u, (ys.map B8)[j]? = some u → Cel G H b (o + j) u := by
  obtain ⟨ad, c, rfl, h1, h2, h3⟩ := h
  rcases h3 with ⟨h3, _⟩ | ⟨b, o, rfl, h3⟩
  · simp at h3; subst h3; simp at h0
  · exact ⟨b, o, c, rfl, h3⟩
theorem Dk.wf.sec {D : Dk} {vn vl vs : Value} {Bn Bl Bs : Hp} (h : DkR D vn vl vs Bn Bl Bs) (j : Nat) (hj : j < D.now.length) : (D.now.getD j []).length = 64 := by
  obtain ⟨L, _, hR⟩ := h.n
  have := (hR.2 j (D.now[j]) (by simp [hj])).2
  simpa [hj] using this

/-- Read: its bytes. -/
theorem dread_c (dp : Nat) (vn vl vs : Value) (Bn Bl Bs : Hp) (D : Dk) (hr : DkR D vn vl vs Bn Bl Bs) (n : Int) (w0 w : World) (G : Im) (F : Hp) (hs : Sat w0 w G (DkO dp vn vl vs D.fuse D.ops D.dead :: (Bn ++ (Bl ++ (Bs ++ F))))) :
    Calls Try.prog 56 #[Pt dp 0, I64 n] w fun e w' => ∃ G' u, e = .returned (.tuple #[u, I64 (readS D n).2]) ∧ Im.le G G' ∧ SV G' [] u ((readS D n).1.getD []).length (((readS D n).1.getD []).map B8) ∧ Sat w0 w' G' (DkO dp vn vl vs D.fuse D.ops D.dead :: (Bn ++ (Bl ++ (Bs ++ F)))) := by
  have hw := hr.wf
  have hk2 := hw.k2
  have hkM := hw.kM
  obtain ⟨bn, cn, Ln, rfl, hcn, hcM, hBn⟩ := hr.n.block (by omega)
  refine f_enter (vs := [_, _]) Try.func56 rfl Try.ntmps56 (by simp) hs ?_
  refine ww ?_
  refine c_cons (s_call (xs := [_]) rfl rfl rfl rfl rfl rfl (by kernel_rfl) (fun w hs => gone_c dp (Sl bn 0 D.now.length cn) vl vs _ _ _ rfl _ _ _ _ w _ _ hs) ?_)
  rintro e w' ⟨rfl, hs'⟩; refine a_ret ?_ hs'; clear hs'
  refine ww ?_
  refine c_part 6 D.dead rfl (fun c1 => ?_) (fun c1 => ?_)
  · refine c_cond_t rfl ?_
    refine ww ?_
    exact f_ret2 rfl rfl rfl (fun w hs => ⟨G, _, by rw [readS, if_pos c1], Im.le_refl _, by rw [readS, if_pos c1]; exact SV.nil _ _, hs⟩)
  refine c_cond_f rfl ?_
  refine ww ?_
  refine c_cons (s_call (xs := [_, _]) rfl rfl rfl rfl rfl rfl (by kernel_rfl) (fun w hs => has_c dp (Sl bn 0 D.now.length cn) vl vs _ _ _ rfl _ _ _ n _ w _ _ hs) ?_)
  rintro e w' ⟨rfl, hs'⟩; refine a_ret ?_ hs'; clear hs'
  refine ww ?_
  refine c_cond_nd rfl (fun c2 => ?_) (fun c2 => ?_)
  · -- then
    refine ww ?_
    exact f_ret2 rfl rfl rfl (fun w hs => ⟨G, _, by rw [readS, if_neg (by simp [c1]), if_neg (show ¬ hasS D n from c2)], Im.le_refl _, by rw [readS, if_neg (by simp [c1]), if_neg (show ¬ hasS D n from c2)]; exact SV.nil _ _, hs⟩)
  obtain ⟨m, rfl⟩ : ∃ m : Nat, n = m := ⟨n.toNat, by omega⟩
  have hm : m < D.now.length := by omega
  obtain ⟨b0, o0, c0, cells, hv, ⟨hce, hx64⟩, hcl, hcel⟩ := (hr.n.here (G := G) (H := DkO dp (Sl bn 0 D.now.length cn) vl vs D.fuse D.ops D.dead :: (Bn ++ (Bl ++ (Bs ++ F)))) (fun p hp => by simp [hp])).at (by decide) m hm
  cases hv
  subst hce
  have hrd : readS D m = (some D.now[m], 0) := by rw [readS, if_neg (by simp [c1]), if_pos (show hasS D m from ⟨by omega, by omega⟩)]; simp [hm]
  rw [hrd]
  obtain ⟨X, hX⟩ : ∃ X, X = D.now[m] := ⟨_, rfl⟩
  rw [← hX] at hx64 hcl hcel ⊢
  refine ww ?_
  refine c_cons (s_val (v_field 0 rfl (by kernel_rfl)) rfl rfl rfl ?_)
  refine c_cons (s_val (v_load rfl (Cel.head rfl) (by kernel_rfl)) rfl rfl rfl ?_)
  refine ww ?_
  refine c_cons (s_val (v_index 64 rfl rfl (by kernel_rfl) (by omega)) rfl rfl rfl ?_)
  refine c_cons (s_val (v_field 0 rfl (by kernel_rfl)) rfl rfl rfl ?_)
  refine c_cons (s_val (v_slArr 64 1 rfl (by kernel_rfl)) rfl rfl rfl ?_)
  have hsv : SV G (DkO dp (Sl bn 0 D.now.length cn) vl vs D.fuse D.ops D.dead :: (Bn ++ (Bl ++ (Bs ++ F)))) (Sl bn (0 + (m : Int).toNat * 64 + 0) 64 64) X.length (X.map B8) := by
    rw [hx64]
    exact ⟨_, _, rfl, Nat.le_refl _, by decide, .inr ⟨_, _, rfl, fun j u hj => by have := hcel j u hj; rwa [Int.toNat_natCast, Nat.add_zero]⟩⟩
  refine c_cons (s_call (xs := [_]) rfl rfl rfl rfl rfl rfl (by kernel_rfl) (fun w hs => cloneH_c _ X _ w _ _ hsv (by omega) hs) ?_)
  rintro e w' ⟨G3, u3, rfl, hG3, hu3, hs'⟩; refine a_ret ?_ hs'; clear hs'
  refine ww ?_
  exact f_ret2 rfl rfl rfl (fun w hs => ⟨G3, _, rfl, hG3, hu3, hs⟩)

theorem wf_add {D : Dk} (h : D.wf) (m : Nat) (ys : List UInt8) (hm : m < D.now.length) (hsm : D.since.length < 1000000) : (addS D m ys).wf :=
  ⟨h.k2, h.kM, h.kl, fun p hp => by
    rcases List.mem_append.1 hp with h' | h'
    · exact h.ks p h'
    · rw [List.mem_singleton.1 h']; exact hm, by simp [addS]; omega, h.f0, h.o0⟩
theorem wf_op {D : Dk} (h : D.wf) (ho : D.ops < 1000000) : (opS D).1.wf := by
  have := h.f0
  have := h.o0
  unfold opS
  split
  · exact ⟨h.k2, h.kM, h.kl, h.ks, h.sm, h.f0, h.o0⟩
  · refine ⟨h.k2, h.kM, h.kl, h.ks, h.sm, ?_, ?_⟩
    · dsimp only; split <;> omega
    · dsimp only; omega

/-- Write. -/
theorem write_c (dp : Nat) (B : Hp) (D : Dk) (hr : DH dp D B) (n : Int) (vb : Value) (ys : List UInt8) (hsm : D.since.length < 1000000) (ho : D.ops < 1000000) (w0 w : World) (G : Im) (F : Hp) (hv : SV G F vb ys.length (ys.map B8)) (hs : Sat w0 w G (B ++ F)) :
    Calls Try.prog 40 #[Pt dp 0, I64 n, vb] w fun e w' => ∃ B', e = .returned (I64 (writeS D n ys).2) ∧ DH dp (writeS D n ys).1 B' ∧ Sat w0 w' G (B' ++ F) := by
  obtain ⟨vn, vl, vs, Bn, Bl, Bs, rfl, hr⟩ := hr
  have hw := hr.wf
  have hk2 := hw.k2
  have hkM := hw.kM
  obtain ⟨bn, cn, Ln, rfl, hcn, hcM, hBn⟩ := hr.n.block (by omega)
  have hs1 : Sat w0 w G (DkO dp (Sl bn 0 D.now.length cn) vl vs D.fuse D.ops D.dead :: (Bn ++ (Bl ++ (Bs ++ F)))) := hs.sb
  obtain ⟨adb, cb, hvb, _, _, _⟩ := id hv
  rw [hvb]
  rw [hvb] at hv
  refine f_enter (vs := [_, _, _]) Try.func40 rfl Try.ntmps40 (by simp) hs1 ?_
  refine ww ?_
  refine c_cons (s_call (xs := [_]) rfl rfl rfl rfl rfl rfl (by kernel_rfl) (fun w hs => gone_c dp (Sl bn 0 D.now.length cn) vl vs _ _ _ rfl _ _ _ _ w _ _ hs) ?_)
  rintro e w' ⟨rfl, hs'⟩; refine a_ret ?_ hs'; clear hs'
  refine ww ?_
  refine c_part 8 D.dead rfl (fun c1 => ?_) (fun c1 => ?_)
  · refine c_cond_t rfl ?_
    rw [show writeS D n ys = (D, 14) by rw [writeS, if_pos c1]]
    refine ww ?_
    exact f_ret1 rfl rfl (fun w hs => ⟨_, rfl, ⟨_, _, _, _, _, _, rfl, hr⟩, hs.sb⟩)
  refine c_cond_f rfl ?_
  refine ww ?_
  refine c_cons (s_call (xs := [_, _]) rfl rfl rfl rfl rfl rfl (by kernel_rfl) (fun w hs => has_c dp (Sl bn 0 D.now.length cn) vl vs _ _ _ rfl _ _ _ n _ w _ _ hs) ?_)
  rintro e w' ⟨rfl, hs'⟩; refine a_ret ?_ hs'; clear hs'
  have hno : ¬ (hasS D n ∧ ys.length = 64) → writeS D n ys = (D, 1) := fun h => by rw [writeS, if_neg (by simp [c1]), if_neg h]
  refine ww ?_
  refine c_part_nd 16 _ rfl (fun c2 => ?_) (fun c2 => ?_)
  · -- t16 = True
    rw [hno (fun h => c2 h.1)]
    refine ww ?_
    refine c_cond_t rfl ?_
    refine ww ?_
    exact f_ret1 rfl rfl (fun w hs => ⟨_, rfl, ⟨_, _, _, _, _, _, rfl, hr⟩, hs.sb⟩)
  refine ww ?_
  refine c_cond_d rfl (fun c3 => ?_) (fun c3 => ?_)
  · -- then
    rw [hno (fun h => c3 (by rw [h.2]; rfl))]
    refine ww ?_
    exact f_ret1 rfl rfl (fun w hs => ⟨_, rfl, ⟨_, _, _, _, _, _, rfl, hr⟩, hs.sb⟩)
  have hy : ys.length = 64 := by omega
  obtain ⟨m, rfl⟩ : ∃ m : Nat, n = m := ⟨n.toNat, by omega⟩
  have hm : m < D.now.length := by omega
  obtain ⟨bb, ob, cbb, hve, hcb⟩ := hv.bytes (by omega)
  cases hve
  have hA : (ys.map B8).length = 64 := by simp [hy]
  have hA1 : (I64 (m : Int) :: ys.map B8).length = 65 := by simp [hy]
  have hyes : writeS D m ys = wrt m ys (opS (addS D m ys)) := by rw [writeS, if_neg (by simp [c1]), if_pos ⟨⟨by omega, by omega⟩, hy⟩, Int.toNat_natCast]
  refine ww ?_
  refine c_cons (s_val (v_arrPtr 64 1 rfl (by kernel_rfl) (by omega)) rfl rfl rfl ?_)
  refine c_cons (s_val (v_loadAgg (vs := ys.map B8) rfl (by kernel_rfl) (by kernel_rfl) hA (fun j u hj => (hcb j u hj).mono (Im.le_refl _) (fun p hp => by simp [hp]))) rfl rfl rfl ?_)
  refine c_cons (s_val (v_build1 64 (List.replicate 64 (B8 0)) (ys.map B8) rfl (by kernel_rfl) rfl hA) rfl rfl rfl ?_)
  refine c_cons (s_val (v_build2 64 (I64 0 :: List.replicate 64 (B8 0)) (ys.map B8) rfl rfl rfl (by kernel_rfl) rfl hA) rfl rfl rfl ?_)
  refine c_cons (s_allocA (I64 0 :: List.replicate 64 (B8 0)) (by kernel_rfl) rfl rfl fun b1 => ?_)
  refine c_cons (s_storeA (vs := I64 (m : Int) :: ys.map B8) rfl rfl rfl .head (by rw [hA1]; kernel_rfl) (WrR.one ⟨rfl, hy⟩ (p := (m, ys))) (by rw [hA1]; rfl) ?_)
  refine ww ?_
  refine c_freeze .head fun F1 hF1 k1 => ?_
  obtain ⟨Ls, hls, hRs⟩ := hr.s
  have hlen := hw.sm
  refine r_startS [DkO dp (Sl bn 0 D.now.length cn) vl vs D.fuse D.ops D.dead] [10] (by kernel_rfl) (fun w h => h.sb) ?_
  refine r_tk 0 rfl rfl (v_move rfl) (fun _ h => (h.sb)) ?_
  refine r_tk 1 rfl rfl (v_move rfl) (fun _ h => (h.sb)) ?_
  refine r_tk 2 rfl rfl (v_nilCheck rfl) (fun _ h => (h.sb)) ?_
  refine r_tk 3 rfl rfl (v_field 2 rfl (by kernel_rfl)) (fun _ h => (h.sb)) ?_
  refine r_tk 4 rfl rfl (v_load rfl (Cel.head rfl) (by kernel_rfl)) (fun _ h => (h.sb)) ?_
  refine r_tk 5 rfl rfl (v_loadAgg (vs := I64 (m : Int) :: ys.map B8) rfl (by kernel_rfl) (by kernel_rfl) hA1 (fun j u hj => (Cel.allI k1 hj))) (fun _ h => (h.sb)) ?_
  refine r_one 6 (by kernel_rfl) rfl ?_
  refine s_litA1 (I64 (m : Int) :: ys.map B8) (z := .agg (I64 0 :: List.replicate 64 (B8 0)).toArray) (bs := 72) (e := 94) (sz := 65) (by kernel_rfl) rfl rfl rfl (by simp [Value.cells]) hA1 (by decide) (by decide) fun b2 => ?_
  refine r_next (fun w h => (h.sb)) ?_
  refine r_one 7 (by kernel_rfl) rfl ?_
  refine s_appendA (e := 94) (z := .agg (I64 0 :: List.replicate 64 (B8 0)).toArray) (sz := 65) (bs := 72) (by kernel_rfl) rfl rfl rfl rfl hls (Chunk.tail (Chunk.tail (Chunk.app (Chunk.app Chunk.head)))) (SV.block .head (by decide)) (by simp [Value.cells]) (by decide) (by rw [hA1]) (WrR.one ⟨rfl, hy⟩ (p := (m, ys))) (by omega) (by omega) fun v3 B3 hown3 => ?_
  refine r_next (fun w h => (h.sb)) ?_
  refine r_takeB 8 [9, 10] rfl (by kernel_rfl) (by kernel_rfl) (by kernel_rfl) (by kernel_rfl) rfl rfl rfl (v_nilCheck rfl) (fun _ h => (h.sb)) (by repeat (first | exact pk_body | exact pk_no | exact pk_S | apply pk_then | apply pk_block)) ?_
  refine r_tk 9 rfl rfl (v_field 2 rfl (by kernel_rfl)) (fun _ h => (h.sb)) ?_
  refine r_one 10 (by kernel_rfl) rfl ?_
  obtain ⟨ad3, c3', hv3⟩ : ∃ ad c, v3 = .slice ad (D.since.length + 1) c := by
    obtain ⟨_, ⟨ad, rfl, h0, _⟩ | ⟨b, c, sl, rfl, _⟩⟩ := hown3
    · omega
    · exact ⟨_, _, rfl⟩
  refine s_store1 rfl rfl rfl (.app (.tail .head)) (by kernel_rfl) (by rw [hv3]; rfl) (by simp) ?_
  refine r_late rfl ?_
  refine r_done (by kernel_rfl) ?_
  have hs3 : RA 65 WrR 94 v3 (addS D m ys).since B3 := by
    refine ⟨_, ?_, hRs.append (Recs.one (x := (m, ys)) hA1 ⟨rfl, hy⟩)⟩
    simpa [addS] using hown3
  have hwa := wf_add hw m ys hm hsm
  change Holds _ _ _ _ _ (DkO dp (Sl bn 0 D.now.length cn) vl v3 (addS D m ys).fuse (addS D m ys).ops (addS D m ys).dead :: _) _
  refine c_sub (DkO dp (Sl bn 0 D.now.length cn) vl v3 (addS D m ys).fuse (addS D m ys).ops (addS D m ys).dead :: (Bn ++ (Bl ++ (B3 ++ F)))) sbx ?_
  refine ww ?_
  refine c_cons (s_call (xs := [_]) rfl rfl rfl rfl rfl rfl (by kernel_rfl) (fun w hs => op_c dp (Sl bn 0 D.now.length cn) vl v3 (addS D m ys) hwa _ w _ _ hs) ?_)
  rintro e w' ⟨rfl, hs'⟩; refine a_ret ?_ hs'; clear hs'
  rw [hyes]
  have hwo := wf_op hwa ho
  obtain ⟨hn1, hl1, hs1'⟩ := opS_now (addS D m ys)
  obtain ⟨E, hE⟩ : ∃ E, opS (addS D m ys) = E := ⟨_, rfl⟩
  rw [hE] at hwo hn1 hl1 hs1' ⊢
  obtain ⟨D1, g1⟩ := E
  dsimp only at hwo hn1 hl1 hs1'
  have hr1 : DkR D1 (Sl bn 0 D.now.length cn) vl v3 Bn Bl B3 := ⟨hwo, by rw [hn1]; exact hr.n, by rw [hl1]; exact hr.l, by rw [hs1']; exact hs3⟩
  have hn2 : D1.now = D.now := hn1
  cases g1 with
  | false =>
    dsimp only [wrt]
    refine ww ?_
    refine c_cond_t rfl ?_
    refine ww ?_
    exact f_ret1 rfl rfl (fun w hs => ⟨_, rfl, ⟨_, _, _, _, _, _, rfl, hr1⟩, (hs.weaken hF1).sb⟩)
  | true =>
  dsimp only [wrt]
  refine ww ?_
  refine c_cond_f rfl ?_
  refine ww ?_
  obtain ⟨b0, o0, c0, cells, hvv, ⟨hce, hx64⟩, hcl, hcel⟩ := (hr.n.here (G := F1) (H := DkO dp (Sl bn 0 D.now.length cn) vl v3 D1.fuse D1.ops D1.dead :: (Bn ++ (Bl ++ (B3 ++ F)))) (fun p hp => by simp [hp])).at (by decide) m hm
  cases hvv
  subst hce
  obtain ⟨X, hX⟩ : ∃ X, X = D.now[m] := ⟨_, rfl⟩
  rw [← hX] at hx64 hcl hcel
  have hwf2 : ({ D1 with now := D1.now.set m ys } : Dk).wf := ⟨by simp; exact hwo.k2, by simp; exact hwo.kM, by simp; exact hwo.kl, by simpa using hwo.ks, hwo.sm, hwo.f0, hwo.o0⟩
  refine r_start [] (by kernel_rfl) ?_ -- D2
  refine r_tk 0 rfl rfl (v_move rfl) (fun _ h => h) ?_
  refine r_tk 1 rfl rfl (v_nilCheck rfl) (fun _ h => h) ?_
  refine r_tk 2 rfl rfl (v_field 0 rfl (by kernel_rfl)) (fun _ h => h) ?_
  refine r_tk 3 rfl rfl (v_load rfl (Cel.head rfl) (by kernel_rfl)) (fun _ h => h) ?_
  refine r_tk 4 rfl rfl (v_move rfl) (fun _ h => h) ?_
  refine r_tk 5 rfl rfl (v_index 64 rfl rfl (by kernel_rfl) (by omega)) (fun _ h => h) ?_
  refine r_tk 6 rfl rfl (v_loadAgg (vs := X.map B8) rfl (by kernel_rfl) (by kernel_rfl) hcl (fun j u hj => by rw [Int.toNat_natCast]; exact hcel j u hj)) (fun _ h => h) ?_
  refine r_tk 7 rfl rfl (v_field 1 rfl (by kernel_rfl)) (fun _ h => h) ?_
  refine r_tk 8 rfl rfl (v_loadAgg (vs := ys.map B8) rfl (by kernel_rfl) (by kernel_rfl) hA (fun j u hj => Cel.imm k1 (by rw [show 0 + 1 + j = j + 1 by omega]; exact hj))) (fun _ h => h) ?_
  refine r_tk 9 rfl rfl (v_neS 64 X ys rfl rfl (by kernel_rfl) hx64 hy) (fun _ h => h) ?_
  refine r_done (by kernel_rfl) ?_
  refine ww ?_
  refine c_cond_nd rfl (fun c5 => ?_) (fun c5 => ?_)
  · -- then
    obtain ⟨bn', cn', L', hve', hBe', hle', hput⟩ := hr.n.put m hm
    cases hve'
    have hput := hput (ys.map B8) ys hA ⟨rfl, hy⟩
    subst hBe'
    refine ww ?_
    refine r_startS [DkO dp (Sl bn 0 D.now.length cn) vl v3 D1.fuse D1.ops D1.dead] [] (by kernel_rfl) (fun w h => h.sb) ?_
    refine r_tk 0 rfl rfl (v_move rfl) (fun _ h => (h.sb)) ?_
    refine r_tk 1 rfl rfl (v_nilCheck rfl) (fun _ h => (h.sb)) ?_
    refine r_tk 2 rfl rfl (v_field 0 rfl (by kernel_rfl)) (fun _ h => (h.sb)) ?_
    refine r_tk 3 rfl rfl (v_load rfl (Cel.head rfl) (by kernel_rfl)) (fun _ h => (h.sb)) ?_
    refine r_tk 4 rfl rfl (v_move rfl) (fun _ h => (h.sb)) ?_
    refine r_tk 5 rfl rfl (v_field 1 rfl (by kernel_rfl)) (fun _ h => (h.sb)) ?_
    refine r_tk 6 rfl rfl (v_loadAgg (vs := ys.map B8) rfl (by kernel_rfl) (by kernel_rfl) hA (fun j u hj => Cel.imm k1 (by rw [show 0 + 1 + j = j + 1 by omega]; exact hj))) (fun _ h => (h.sb)) ?_
    refine r_tk 7 rfl rfl (v_index 64 rfl rfl (by kernel_rfl) (by omega)) (fun _ h => (h.sb)) ?_
    refine r_one 8 (by kernel_rfl) rfl ?_
    refine s_storeAt (vs := ys.map B8) rfl rfl rfl (.tail .head) (by rw [hA]; kernel_rfl) (B8_ones ys) (by rw [hA]; rw [Int.toNat_natCast]; omega) ?_
    refine r_next (fun w h => (h.sb)) ?_
    refine r_done (by kernel_rfl) ?_
    change Holds _ _ _ _ _ ((bn, _) :: DkO dp (Sl bn 0 D.now.length cn) vl v3 D1.fuse D1.ops D1.dead :: (Bl ++ (B3 ++ F))) _
    refine ww ?_
    have hoff : 0 + (m : Int).toNat * 64 = m * 64 := by rw [Int.toNat_natCast]; omega
    rw [hoff, hA]
    have hr2 : DkR { D1 with now := D1.now.set m ys } (Sl bn 0 D.now.length cn) vl v3 _ Bl B3 := ⟨hwf2, by dsimp only; rw [hn2]; exact hput, hr1.l, hr1.s⟩
    exact f_ret1 rfl rfl (fun w hs => ⟨_, rfl, ⟨_, _, _, _, _, _, rfl, hr2⟩, (hs.weaken hF1).sb⟩)
  have hXy : X = ys := by simpa using c5
  have hsame : D1.now.set m ys = D1.now := by
    rw [hn2, ← hXy, hX]; exact List.set_getElem_self hm
  have hr3 : DkR { D1 with now := D1.now.set m ys } (Sl bn 0 D.now.length cn) vl v3 Bn Bl B3 := ⟨hwf2, by dsimp only; rw [hsame]; exact hr1.n, hr1.l, hr1.s⟩
  refine ww ?_
  exact f_ret1 rfl rfl (fun w hs => ⟨_, rfl, ⟨_, _, _, _, _, _, rfl, hr3⟩, (hs.weaken hF1).sb⟩)

end Go.Proofs.Ytkjneelekfdpfaa
