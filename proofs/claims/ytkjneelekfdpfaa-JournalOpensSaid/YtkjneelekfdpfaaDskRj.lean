/- The reference's disk: how it lies in memory; a new one, Read. The reference's disk: Write, Sync. The reference's disk: Crash, Image. -/
import Derived.Test.YtkjneelekfdpfaaDskL0
import Derived.Test.YtkjneelekfdpfaaCopy
namespace Go.Proofs.Ytkjneelekfdpfaa
section
open Go
set_option linter.unusedVariables false
set_option linter.unusedSimpArgs false
set_option maxHeartbeats 3200000

def RowR (G : Im) (c : List Value) (x : List UInt8) : Prop := ∃ u, c = [u] ∧ SV G [] u x.length (x.map B8) ∧ x.length = 64
theorem RowR.up : Up RowR := fun G G' c x hG ⟨u, h1, h2, h3⟩ => ⟨u, h1, h2.up hG, h3⟩
abbrev Rows (G : Im) (v : Value) (xs : List (List UInt8)) (B : Hp) : Prop := ROwn 1 RowR 31 G v xs B
abbrev MO (mp : Nat) (vN vL vA vW : Value) (op fu : Int) (de : Bool) : Nat × Obj := (mp, Cs [vN, vL, vA, vW, I64 op, I64 fu, .bool de] 55)
structure MR (G : Im) (M : Dk) (vN vL vA vW : Value) (BN BL BA BW : Hp) : Prop where
  wf : M.wf
  n : Rows G vN M.now BN
  l : Rows G vL M.lasts BL
  a : Own vA M.since.length (M.since.map fun p => I64 (p.1 : Int)) 3 1 BA
  w : Rows G vW (M.since.map Prod.snd) BW
theorem MR.up {G G' : Im} {M : Dk} {vN vL vA vW : Value} {BN BL BA BW : Hp} (h : MR G M vN vL vA vW BN BL BA BW) (hG : Im.le G G') : MR G' M vN vL vA vW BN BL BA BW :=
  ⟨h.wf, h.n.up RowR.up hG, h.l.up RowR.up hG, h.a, h.w.up RowR.up hG⟩
/-- The reference's disk in memory. -/
def MH (G : Im) (mp : Nat) (M : Dk) (B : Hp) : Prop := ∃ vN vL vA vW BN BL BA BW, B = MO mp vN vL vA vW M.ops M.fuse M.dead :: (BN ++ (BL ++ (BA ++ BW))) ∧ MR G M vN vL vA vW BN BL BA BW
theorem MH.up {G G' : Im} {mp : Nat} {M : Dk} {B : Hp} (h : MH G mp M B) (hG : Im.le G G') : MH G' mp M B := by
  obtain ⟨_, _, _, _, _, _, _, _, rfl, hr⟩ := h; exact ⟨_, _, _, _, _, _, _, _, rfl, hr.up hG⟩

theorem Rows.n64 {G : Im} {v : Value} {xs : List (List UInt8)} {B : Hp} (h : Rows G v xs B) : ∀ x ∈ xs, x.length = 64 := fun x hx => by
  obtain ⟨L, _, hR⟩ := h
  obtain ⟨j, hj, rfl⟩ := List.mem_iff_getElem.1 hx
  obtain ⟨_, _, _, h⟩ := hR.2 j xs[j] (by simp [hj])
  exact h
theorem Rows.put {G : Im} {v : Value} {xs : List (List UInt8)} {B : Hp} (h : Rows G v xs B) (h0 : 0 < xs.length) : ∃ b c L, v = Sl b 0 xs.length c ∧ xs.length ≤ c ∧ c ≤ maxLen ∧ B = [(b, Cs L 31)] ∧ xs.length ≤ L.length ∧
    ∀ (G' : Im) (j : Nat) (u : Value) (x : List UInt8), Im.le G G' → j < xs.length → RowR G' [u] x → Rows G' v (xs.set j x) [(b, Cs (L.set j u) 31)] := by
  obtain ⟨L, hown, hR⟩ := h
  obtain ⟨b, c, sl, rfl, hkc, hcm, rfl, hls, hput⟩ := hown.put h0
  have hll : L.length = xs.length := by have := hown.1; omega
  refine ⟨b, c, L ++ sl, rfl, hkc, hcm, rfl, by simp; omega, fun G' j u x hG hj hx => ?_⟩
  have hp := hput j [u] hj rfl
  have hset : (L ++ sl).set j u = (L ++ sl).take (j * 1) ++ [u] ++ (L ++ sl).drop (j * 1 + [u].length) := by
    rw [Nat.mul_one]; exact (take_set _ _ _ (by simp; omega)).symm
  rw [hset]
  refine ⟨_, by rw [List.length_set]; exact hp, ?_⟩
  exact (hR.mono fun c x h => RowR.up _ _ _ _ hG h).set hj rfl hx
theorem Rows.get {G : Im} {v : Value} {xs : List (List UInt8)} {B H : Hp} (h : Rows G v xs B) (hB : ∀ p, p ∈ B → p ∈ H) (j : Nat) (hj : j < xs.length) : ∃ b c u, v = Sl b 0 xs.length c ∧ SV G [] u (xs.getD j []).length ((xs.getD j []).map B8) ∧ Cel G H b (0 + j) u := by
  obtain ⟨b', c', L', hv', _⟩ := h.put (by omega)
  obtain ⟨b, o, c, cells, hv, ⟨u, hc, hu, hl⟩, _, hcel⟩ := (h.here hB).at (by decide) j hj
  rw [hv'] at hv
  cases hv
  refine ⟨b', c', u, hv', by simpa [hj] using hu, ?_⟩
  have := hcel 0 u (by rw [hc]; rfl)
  simpa using this
attribute [local irreducible] Code.wp wpList stepK Holds Val wpR Eff Eff0 Code.wpIn wpListIn stepI Exit.then Exit.inBlock bodyPost bodyPostM

theorem rop_c (mp : Nat) (vN vL vA vW : Value) (D : Dk) (hw : D.wf) (w0 w : World) (G : Im) (F : Hp) (hs : Sat w0 w G (MO mp vN vL vA vW D.ops D.fuse D.dead :: F)) :
    Calls Try.prog 69 #[Pt mp 0] w fun e w' => e = .returned (.bool (!(opS D).2)) ∧ Sat w0 w' G (MO mp vN vL vA vW (opS D).1.ops (opS D).1.fuse (opS D).1.dead :: F) := by
  have hf := hw.f0
  have ho := hw.o0
  refine f_enter (vs := [_]) Try.func69 rfl Try.ntmps69 (by simp) hs ?_
  refine ww ?_
  refine c_cons (s_val (v_field 5 rfl (by kernel_rfl)) rfl rfl rfl ?_)
  refine c_cons (s_val (v_load rfl (Cel.head rfl) (by kernel_rfl)) rfl rfl rfl ?_)
  refine ww ?_
  refine c_cond_d rfl (fun c1 => ?_) (fun c1 => ?_)
  · -- then
    refine ww ?_
    refine c_cons (s_val (v_field 6 rfl (by kernel_rfl)) rfl rfl rfl ?_)
    refine c_cons (s_store1 rfl rfl rfl .head (by kernel_rfl) rfl (by simp) ?_)
    refine ww ?_
    exact f_ret1 rfl rfl (fun w hs => ⟨by rw [opS, if_pos c1]; rfl, by rw [opS, if_pos c1]; exact hs⟩)
  refine ww ?_
  refine c_cons (s_val (v_field 5 rfl (by kernel_rfl)) rfl rfl rfl ?_)
  refine c_cons (s_val (v_load rfl (Cel.head rfl) (by kernel_rfl)) rfl rfl rfl ?_)
  refine ww ?_
  refine c_cond_d rfl (fun c2 => ?_) (fun c2 => ?_)
  · -- then
    refine ww ?_
    refine c_cons (s_val (v_field 5 rfl (by kernel_rfl)) rfl rfl rfl ?_)
    refine c_cons (s_val (v_load rfl (Cel.head rfl) (by kernel_rfl)) rfl rfl rfl ?_)
    refine ww ?_
    refine c_cons (s_val (v_field 5 rfl (by kernel_rfl)) rfl rfl rfl ?_)
    refine c_cons (s_store1 rfl rfl rfl .head (by kernel_rfl) rfl (by simp) ?_)
    refine ww ?_
    refine c_cons (s_val (v_field 4 rfl (by kernel_rfl)) rfl rfl rfl ?_)
    refine c_cons (s_val (v_load rfl (Cel.head rfl) (by kernel_rfl)) rfl rfl rfl ?_)
    refine ww ?_
    refine c_cons (s_val (v_field 4 rfl (by kernel_rfl)) rfl rfl rfl ?_)
    refine c_cons (s_store1 rfl rfl rfl .head (by kernel_rfl) rfl (by simp) ?_)
    refine ww ?_
    exact f_ret1 rfl rfl (fun w hs => ⟨by rw [opS, if_neg c1]; rfl, by rw [opS, if_neg c1]; simp only [if_pos c2]; exact hs⟩)
  refine ww ?_
  refine c_cons (s_val (v_field 4 rfl (by kernel_rfl)) rfl rfl rfl ?_)
  refine c_cons (s_val (v_load rfl (Cel.head rfl) (by kernel_rfl)) rfl rfl rfl ?_)
  refine ww ?_
  refine c_cons (s_val (v_field 4 rfl (by kernel_rfl)) rfl rfl rfl ?_)
  refine c_cons (s_store1 rfl rfl rfl .head (by kernel_rfl) rfl (by simp) ?_)
  refine ww ?_
  exact f_ret1 rfl rfl (fun w hs => ⟨by rw [opS, if_neg c1]; rfl, by rw [opS, if_neg c1]; simp only [if_neg c2]; exact hs⟩)

theorem rnew_n (n : Int) (hn : n < 2 ∨ 4160 < n) (w0 w : World) (G : Im) (F : Hp) (hs : Sat w0 w G F) :
    Calls Try.prog 23 #[I64 n] w fun e w' => e = .returned (.tuple #[.pointer none, I64 1]) ∧ Sat w0 w' G F := by
  refine f_enter (vs := [_]) Try.func23 rfl Try.ntmps23 (by simp) hs ?_
  refine ww ?_
  refine c_part_d 8 _ rfl (fun c1 => ?_) (fun c1 => ?_)
  · -- t8 = True
    refine ww ?_
    refine c_cond_t rfl ?_
    refine ww ?_
    exact f_ret2 rfl rfl rfl (fun w hs => ⟨rfl, hs⟩)
  refine ww ?_
  refine c_cond_d rfl (fun c2 => ?_) (fun c2 => ?_)
  · -- then
    refine ww ?_
    exact f_ret2 rfl rfl rfl (fun w hs => ⟨rfl, hs⟩)
  omega

theorem z64_made : (madeCells (B8 0).cells (64 * 1)).toList = z64.map B8 := by
  rw [Nat.mul_one]; exact (toList_madeCells_one _ _).trans (by simp [z64])
theorem z64_row {G : Im} {b : Nat} (h : G b = some (Cs (z64.map B8) 5)) : RowR G [Sl b 0 64 64] z64 := by
  refine ⟨_, rfl, ?_, by simp [z64]⟩
  rw [show z64.length = 64 by simp [z64]]
  exact SV.block (.of_imm h) (by decide)

theorem rnew_c (m : Nat) (hm : 2 ≤ m ∧ m ≤ 4160) (w0 w : World) (G : Im) (F : Hp) (hs : Sat w0 w G F) :
    Calls Try.prog 23 #[I64 m] w fun e w' => ∃ G' mp B, e = .returned (.tuple #[Pt mp 0, I64 0]) ∧ Im.le G G' ∧ MH G' mp (newD m) B ∧ Sat w0 w' G' (B ++ F) := by
  refine f_enter (vs := [_]) Try.func23 rfl Try.ntmps23 (by simp) hs ?_
  refine ww ?_
  refine c_kf 8 rfl (by omega) ?_
  refine ww ?_
  refine c_cond_d rfl (fun c2 => ?_) (fun c2 => ?_)
  · omega
  refine ww ?_
  refine c_cons (s_val (v_build (ps := [_]) #[.slice none 0 0, .slice none 0 0, .slice none 0 0, .slice none 0 0, I64 0, I64 (-1), .bool false] rfl (by kernel_rfl)) rfl rfl rfl ?_)
  refine c_cons (s_boxA [_, _, _, _, _, _, _] rfl rfl rfl fun mp => ?_)
  change Holds _ _ _ _ _ (MO mp (.slice none 0 0) (.slice none 0 0) (.slice none 0 0) (.slice none 0 0) 0 (-1) false :: F) _
  refine ww ?_
  refine c_loop (α := Nat × Im × Value × Hp × Value × Hp) (fun x => [(0, I64 m), (4, Pt mp 0), (5, I64 x.1)]) (fun x => x.2.1) (fun x => MO mp x.2.2.1 x.2.2.2.2.1 (.slice none 0 0) (.slice none 0 0) 0 (-1) false :: (x.2.2.2.1 ++ (x.2.2.2.2.2 ++ F)))
    (fun x => x.1 ≤ m ∧ Im.le G x.2.1 ∧ Rows x.2.1 x.2.2.1 (List.replicate x.1 z64) x.2.2.2.1 ∧ Rows x.2.1 x.2.2.2.2.1 (List.replicate x.1 z64) x.2.2.2.2.2) (fun x => m - x.1) (0, G, .slice none 0 0, [], .slice none 0 0, []) ⟨Nat.zero_le _, Im.le_refl _, ROwn.zero none _, ROwn.zero none _⟩ ?_ ?_
  · exact n_at ⟨rfl, rfl, rfl, trivial⟩ sbx
  rintro ⟨i, G1, vN, BN, vL, BL⟩ ⟨hi, hG1, hN, hL⟩
  dsimp only at hi hG1 hN hL ⊢
  refine ww ?_
  refine c_cond_d rfl (fun c3 => ?_) (fun c3 => ?_)
  · -- then
    have him : i < m := by omega
    obtain ⟨LN, hoN, hRN⟩ := hN
    rw [List.length_replicate] at hoN
    refine ww ?_
    refine r_startS [MO mp vN vL (.slice none 0 0) (.slice none 0 0) 0 (-1) false] [10] (by kernel_rfl) (fun w h => h.sb) ?_
    refine r_tk 0 rfl rfl (v_move rfl) (fun _ h => (h.sb)) ?_
    refine r_tk 1 rfl rfl (v_move rfl) (fun _ h => (h.sb)) ?_
    refine r_tk 2 rfl rfl (v_nilCheck rfl) (fun _ h => (h.sb)) ?_
    refine r_tk 3 rfl rfl (v_field 0 rfl (by kernel_rfl)) (fun _ h => (h.sb)) ?_
    refine r_tk 4 rfl rfl (v_load rfl (Cel.head rfl) (by kernel_rfl)) (fun _ h => (h.sb)) ?_
    refine r_one 5 (by kernel_rfl) rfl ?_
    refine s_make 5 (B8 0) 1 1 64 rfl rfl rfl rfl (by kernel_rfl) (by omega) (by omega) fun b2 => ?_
    rw [z64_made]
    refine r_next (fun w h => (h.sb)) ?_
    refine r_one 6 (by kernel_rfl) rfl ?_
    refine s_lit (z := .slice none 0 0) (bs := 24) (e := 31) [_] (by kernel_rfl) rfl rfl rfl rfl (by simp [Value.oneCell']) rfl (by decide) fun b3 => ?_
    refine r_next (fun w h => (h.sb)) ?_
    refine r_one 7 (by kernel_rfl) rfl ?_
    refine s_append (e := 31) (z := .slice none 0 0) (sz := 1) (bs := 24) (by kernel_rfl) rfl rfl rfl rfl hoN (Chunk.tail (Chunk.tail (Chunk.tail Chunk.head))) (news := [Sl b2 0 64 64]) (SV.block .head (by simp [maxLen])) rfl (by decide) rfl (by simp [Value.oneCell']) (by simp; omega) (by simp; omega) fun v4 B4 hown4 => ?_
    obtain ⟨ad4, cp4, rfl⟩ := hown4.form
    refine r_next (fun w h => (h.sb)) ?_
    refine r_takeB 8 [9, 10] rfl (by kernel_rfl) (by kernel_rfl) (by kernel_rfl) (by kernel_rfl) rfl rfl rfl (v_nilCheck rfl) (fun _ h => (h.sb)) (by repeat (first | exact pk_body | exact pk_no | exact pk_S | apply pk_then | apply pk_block)) ?_
    refine r_tk 9 rfl rfl (v_field 0 rfl (by kernel_rfl)) (fun _ h => (h.sb)) ?_
    refine r_one 10 (by kernel_rfl) rfl ?_
    refine s_store1 rfl rfl rfl (.app (.tail (.tail .head))) (by kernel_rfl) rfl (by simp) ?_
    refine r_late rfl ?_
    refine r_done (by kernel_rfl) ?_
    change Holds _ _ _ _ _ (MO mp (.slice ad4 (i + 1) cp4) vL (.slice none 0 0) (.slice none 0 0) 0 (-1) false :: _) _
    refine c_sub ((b2, Cs (z64.map B8) 5) :: MO mp (.slice ad4 (i + 1) cp4) vL (.slice none 0 0) (.slice none 0 0) 0 (-1) false :: (BL ++ (B4 ++ F))) sbx ?_
    refine c_freeze .head fun G2 hG2 k2 => ?_
    have hN2 : Rows G2 (.slice ad4 (i + 1) cp4) (List.replicate (i + 1) z64) B4 := by
      refine ⟨LN ++ [Sl b2 0 64 64], by rw [List.length_replicate]; exact hown4, ?_⟩
      rw [List.replicate_succ']
      exact (hRN.mono fun c x h => RowR.up _ _ _ _ hG2 h).append (Recs.one rfl (z64_row k2))
    obtain ⟨LL, hoL, hRL⟩ := hL.up RowR.up hG2
    rw [List.length_replicate] at hoL
    refine ww ?_
    refine r_startS [MO mp (.slice ad4 (i + 1) cp4) vL (.slice none 0 0) (.slice none 0 0) 0 (-1) false] [10] (by kernel_rfl) (fun w h => h.sb) ?_
    refine r_tk 0 rfl rfl (v_move rfl) (fun _ h => (h.sb)) ?_
    refine r_tk 1 rfl rfl (v_move rfl) (fun _ h => (h.sb)) ?_
    refine r_tk 2 rfl rfl (v_nilCheck rfl) (fun _ h => (h.sb)) ?_
    refine r_tk 3 rfl rfl (v_field 1 rfl (by kernel_rfl)) (fun _ h => (h.sb)) ?_
    refine r_tk 4 rfl rfl (v_load rfl (Cel.head rfl) (by kernel_rfl)) (fun _ h => (h.sb)) ?_
    refine r_one 5 (by kernel_rfl) rfl ?_
    refine s_make 5 (B8 0) 1 1 64 rfl rfl rfl rfl (by kernel_rfl) (by omega) (by omega) fun b5 => ?_
    rw [z64_made]
    refine r_next (fun w h => (h.sb)) ?_
    refine r_one 6 (by kernel_rfl) rfl ?_
    refine s_lit (z := .slice none 0 0) (bs := 24) (e := 31) [_] (by kernel_rfl) rfl rfl rfl rfl (by simp [Value.oneCell']) rfl (by decide) fun b6 => ?_
    refine r_next (fun w h => (h.sb)) ?_
    refine r_one 7 (by kernel_rfl) rfl ?_
    refine s_append (e := 31) (z := .slice none 0 0) (sz := 1) (bs := 24) (by kernel_rfl) rfl rfl rfl rfl hoL (Chunk.tail (Chunk.tail (Chunk.tail Chunk.head))) (news := [Sl b5 0 64 64]) (SV.block .head (by simp [maxLen])) rfl (by decide) rfl (by simp [Value.oneCell']) (by simp; omega) (by simp; omega) fun v7 B7 hown7 => ?_
    obtain ⟨ad7, cp7, rfl⟩ := hown7.form
    refine r_next (fun w h => (h.sb)) ?_
    refine r_takeB 8 [9, 10] rfl (by kernel_rfl) (by kernel_rfl) (by kernel_rfl) (by kernel_rfl) rfl rfl rfl (v_nilCheck rfl) (fun _ h => (h.sb)) (by repeat (first | exact pk_body | exact pk_no | exact pk_S | apply pk_then | apply pk_block)) ?_
    refine r_tk 9 rfl rfl (v_field 1 rfl (by kernel_rfl)) (fun _ h => (h.sb)) ?_
    refine r_one 10 (by kernel_rfl) rfl ?_
    refine s_store1 rfl rfl rfl (.app (.tail (.tail .head))) (by kernel_rfl) rfl (by simp) ?_
    refine r_late rfl ?_
    refine r_done (by kernel_rfl) ?_
    change Holds _ _ _ _ _ (MO mp (.slice ad4 (i + 1) cp4) (.slice ad7 (i + 1) cp7) (.slice none 0 0) (.slice none 0 0) 0 (-1) false :: _) _
    refine c_sub ((b5, Cs (z64.map B8) 5) :: MO mp (.slice ad4 (i + 1) cp4) (.slice ad7 (i + 1) cp7) (.slice none 0 0) (.slice none 0 0) 0 (-1) false :: (B4 ++ (B7 ++ F))) sbx ?_
    refine c_freeze .head fun G3 hG3 k3 => ?_
    have hL2 : Rows G3 (.slice ad7 (i + 1) cp7) (List.replicate (i + 1) z64) B7 := by
      refine ⟨LL ++ [Sl b5 0 64 64], by rw [List.length_replicate]; exact hown7, ?_⟩
      rw [List.replicate_succ']
      exact (hRL.mono fun c x h => RowR.up _ _ _ _ hG3 h).append (Recs.one rfl (z64_row k3))
    refine ww ?_
    exact n_next (x := (i, G1, vN, BN, vL, BL)) (i + 1, G3, _, B4, _, B7) ⟨by dsimp only; omega, hG1.trans (hG2.trans hG3), hN2.up RowR.up hG3, hL2⟩ (by dsimp only; omega) ⟨rfl, rfl, rfl, trivial⟩ rfl sbx
  have e : i = m := by omega
  subst e
  refine ww ?_
  exact f_ret2 rfl rfl rfl (fun w hs => ⟨G1, mp, _, rfl, hG1, ⟨vN, vL, .slice none 0 0, .slice none 0 0, BN, BL, [], [], rfl, ⟨newD_wf i hm, hN, hL, Own.zero none _ _, ROwn.zero none _⟩⟩, (show Sat w0 w _ (MO mp vN vL (.slice none 0 0) (.slice none 0 0) 0 (-1) false :: ((BN ++ (BL ++ ([] ++ []))) ++ F)) from hs.sb)⟩)

end

section
open Go
set_option linter.unusedVariables false
set_option linter.unusedSimpArgs false
set_option maxHeartbeats 3200000
attribute [local irreducible] Code.wp wpList stepK Holds Val wpR Eff Eff0 Code.wpIn wpListIn stepI Exit.then Exit.inBlock bodyPost bodyPostM

theorem addS_wf' {M : Dk} (hw : M.wf) (ho : M.ops < 1000000) (m : Nat) (ys : List UInt8) (hm : m < M.now.length) (hsm : M.since.length < 1000000) : (opS (addS M m ys)).1.wf := wf_op (wf_add hw m ys hm hsm) ho
theorem opS_add (M : Dk) (m : Nat) (ys : List UInt8) : opS (addS M m ys) = (addS (opS M).1 m ys, (opS M).2) := by
  unfold opS addS; dsimp only; split <;> rfl

theorem rwrite_c (mp : Nat) (B : Hp) (M : Dk) (n : Int) (vb : Value) (ys : List UInt8) (hyl : ys.length ≤ 1000000) (hsm : M.since.length < 1000000) (ho : M.ops < 1000000) (w0 w : World) (G : Im) (F : Hp) (hr : MH G mp M B) (hv : SV G [] vb ys.length (ys.map B8)) (hs : Sat w0 w G (B ++ F)) :
    Calls Try.prog 48 #[Pt mp 0, I64 n, vb] w fun e w' => ∃ G' B', e = .returned (I64 (writeS M n ys).2) ∧ Im.le G G' ∧ MH G' mp (writeS M n ys).1 B' ∧ Sat w0 w' G' (B' ++ F) := by
  obtain ⟨vN, vL, vA, vW, BN, BL, BA, BW, rfl, hr⟩ := hr
  have hw := hr.wf
  have hk2 := hw.k2
  have hkM := hw.kM
  obtain ⟨bn, cn, Ln, rfl, hcn, hcM, hBn, hLn, hputn⟩ := hr.n.put (by omega)
  obtain ⟨adb, cb, rfl⟩ := hv.form
  have hs1 : Sat w0 w G (MO mp (Sl bn 0 M.now.length cn) vL vA vW M.ops M.fuse M.dead :: (BN ++ (BL ++ (BA ++ (BW ++ F))))) := hs.sb
  refine f_enter (vs := [_, _, _]) Try.func48 rfl Try.ntmps48 (by simp) hs1 ?_
  refine ww ?_
  refine c_cons (s_val (v_field 6 rfl (by kernel_rfl)) rfl rfl rfl ?_)
  refine c_cons (s_val (v_load rfl (Cel.head rfl) (by kernel_rfl)) rfl rfl rfl ?_)
  refine ww ?_
  refine c_part 11 M.dead rfl (fun c1 => ?_) (fun c1 => ?_)
  · refine c_cond_t rfl ?_
    rw [show writeS M n ys = (M, 14) by rw [writeS, if_pos c1]]
    refine ww ?_
    exact f_ret1 rfl rfl (fun w hs => ⟨G, _, rfl, Im.le_refl _, ⟨_, _, _, _, _, _, _, _, rfl, hr⟩, hs.sb⟩)
  refine c_cond_f rfl ?_
  have hno : ¬ (hasS M n ∧ ys.length = 64) → writeS M n ys = (M, 1) := fun h => by rw [writeS, if_neg (by simp [c1]), if_neg h]
  refine ww ?_
  refine c_part_d 14 _ rfl (fun c2 => ?_) (fun c2 => ?_)
  · -- t14 = True
    rw [hno (fun h => by have := h.1.1; omega)]
    refine ww ?_
    refine c_cond_t rfl ?_
    refine ww ?_
    exact f_ret1 rfl rfl (fun w hs => ⟨G, _, rfl, Im.le_refl _, ⟨_, _, _, _, _, _, _, _, rfl, hr⟩, hs.sb⟩)
  refine ww ?_
  refine c_cons (s_val (v_field 0 rfl (by kernel_rfl)) rfl rfl rfl ?_)
  refine c_cons (s_val (v_load rfl (Cel.head rfl) (by kernel_rfl)) rfl rfl rfl ?_)
  refine ww ?_
  refine c_part_d 23 _ rfl (fun c3 => ?_) (fun c3 => ?_)
  · -- t23 = True
    rw [hno (fun h => by have := h.1.2; omega)]
    refine ww ?_
    refine c_cond_t rfl ?_
    refine ww ?_
    exact f_ret1 rfl rfl (fun w hs => ⟨G, _, rfl, Im.le_refl _, ⟨_, _, _, _, _, _, _, _, rfl, hr⟩, hs.sb⟩)
  refine ww ?_
  refine c_cond_d rfl (fun c4 => ?_) (fun c4 => ?_)
  · -- then
    rw [hno (fun h => c4 (by rw [h.2]; rfl))]
    refine ww ?_
    exact f_ret1 rfl rfl (fun w hs => ⟨G, _, rfl, Im.le_refl _, ⟨_, _, _, _, _, _, _, _, rfl, hr⟩, hs.sb⟩)
  have hy : ys.length = 64 := by omega
  obtain ⟨m, rfl⟩ : ∃ m : Nat, n = m := ⟨n.toNat, by omega⟩
  have hm : m < M.now.length := by omega
  have hyes : writeS M m ys = wrt m ys (opS (addS M m ys)) := by rw [writeS, if_neg (by simp [c1]), if_pos ⟨⟨by omega, by omega⟩, hy⟩, Int.toNat_natCast]
  have hwf := addS_wf' hw ho m ys hm hsm
  rw [hyes]
  rw [opS_add] at hwf ⊢
  refine ww ?_
  refine c_cons (s_call (xs := [_]) rfl rfl rfl rfl rfl rfl (by kernel_rfl) (fun w hs => rop_c mp (Sl bn 0 M.now.length cn) vL vA vW M hw _ w _ _ hs) ?_)
  rintro e w' ⟨rfl, hs'⟩; refine a_ret ?_ hs'; clear hs'
  obtain ⟨hn1, hl1, hs1'⟩ := opS_now M
  obtain ⟨E, hE⟩ : ∃ E, opS M = E := ⟨_, rfl⟩
  rw [hE] at hwf hn1 hl1 hs1' ⊢
  obtain ⟨D1, g1⟩ := E
  dsimp only at hwf hn1 hl1 hs1'
  have hlena : M.since.length ≤ 1000000 := by omega
  refine ww ?_
  refine c_cons (s_val (v_field 2 rfl (by kernel_rfl)) rfl rfl rfl ?_)
  refine c_cons (s_val (v_load rfl (Cel.head rfl) (by kernel_rfl)) rfl rfl rfl ?_)
  refine ww ?_
  refine c_cons (s_lit (z := I64 0) (bs := 8) (e := 3) [_] (by kernel_rfl) rfl rfl rfl rfl (by simp [Value.oneCell']) rfl (by decide) fun b1 => ?_)
  refine c_cons (s_append (e := 3) (z := I64 0) (sz := 1) (bs := 8) (by kernel_rfl) rfl rfl rfl rfl hr.a (Chunk.tail (Chunk.tail (Chunk.app (Chunk.app Chunk.head)))) (news := [I64 (m : Int)]) (SV.block .head (by simp [maxLen])) rfl (by decide) rfl (by simp [Value.oneCell']) (by simp; omega) (by simp; omega) fun vA2 BA2 hA2 => ?_)
  obtain ⟨adA, cpA, rfl⟩ := hA2.form
  refine ww ?_
  refine c_cons (s_val (v_field 2 rfl (by kernel_rfl)) rfl rfl rfl ?_)
  refine c_cons (s_store1 rfl rfl rfl (.app (.tail .head)) (by kernel_rfl) rfl (by simp) ?_)
  change Holds _ _ _ _ _ (MO mp (Sl bn 0 M.now.length cn) vL (.slice adA (M.since.length + 1) cpA) vW D1.ops D1.fuse D1.dead :: _) _
  refine c_sub (MO mp (Sl bn 0 M.now.length cn) vL (.slice adA (M.since.length + 1) cpA) vW D1.ops D1.fuse D1.dead :: (BN ++ (BL ++ (BA2 ++ (BW ++ F))))) sbx ?_
  obtain ⟨LW, hoW, hRW⟩ := hr.w
  rw [List.length_map] at hoW
  refine ww ?_
  refine r_startS [MO mp (Sl bn 0 M.now.length cn) vL (.slice adA (M.since.length + 1) cpA) vW D1.ops D1.fuse D1.dead] [11] (by kernel_rfl) (fun w h => h.sb) ?_
  refine r_tk 0 rfl rfl (v_move rfl) (fun _ h => (h.sb)) ?_
  refine r_tk 1 rfl rfl (v_move rfl) (fun _ h => (h.sb)) ?_
  refine r_tk 2 rfl rfl (v_nilCheck rfl) (fun _ h => (h.sb)) ?_
  refine r_tk 3 rfl rfl (v_field 3 rfl (by kernel_rfl)) (fun _ h => (h.sb)) ?_
  refine r_tk 4 rfl rfl (v_load rfl (Cel.head rfl) (by kernel_rfl)) (fun _ h => (h.sb)) ?_
  refine r_tk 5 rfl rfl (v_move rfl) (fun _ h => (h.sb)) ?_
  refine r_one 6 (by kernel_rfl) rfl ?_
  refine s_call (xs := [_]) rfl rfl rfl rfl rfl rfl (by kernel_rfl) (fun w hs => copy_c _ ys _ w _ _ hv (by omega) hs) ?_
  rintro e w' ⟨G2, u2, rfl, hG2, hu2, hs'⟩; refine a_ret ?_ hs'; clear hs'
  obtain ⟨ad2, cp2, rfl⟩ := hu2.form
  refine r_next (fun w h => (h.sb).weaken hG2) ?_
  refine r_one 7 (by kernel_rfl) rfl ?_
  refine s_lit (z := .slice none 0 0) (bs := 24) (e := 31) [_] (by kernel_rfl) rfl rfl rfl rfl (by simp [Value.oneCell']) rfl (by decide) fun b3 => ?_
  refine r_next (fun w h => (h.sb).weaken hG2) ?_
  refine r_one 8 (by kernel_rfl) rfl ?_
  refine s_append (e := 31) (z := .slice none 0 0) (sz := 1) (bs := 24) (by kernel_rfl) rfl rfl rfl rfl hoW (Chunk.tail (Chunk.tail (Chunk.app (Chunk.app (Chunk.app Chunk.head))))) (news := [.slice ad2 ys.length cp2]) (SV.block .head (by simp [maxLen])) rfl (by decide) rfl (by simp [Value.oneCell']) (by simp; omega) (by simp; omega) fun vW2 BW2 hW2 => ?_
  obtain ⟨adW, cpW, rfl⟩ := hW2.form
  refine r_next (fun w h => (h.sb).weaken hG2) ?_
  refine r_takeB 9 [10, 11] rfl (by kernel_rfl) (by kernel_rfl) (by kernel_rfl) (by kernel_rfl) rfl rfl rfl (v_nilCheck rfl) (fun _ h => (h.sb).weaken hG2) (by repeat (first | exact pk_body | exact pk_no | exact pk_S | apply pk_then | apply pk_block)) ?_
  refine r_tk 10 rfl rfl (v_field 3 rfl (by kernel_rfl)) (fun _ h => (h.sb).weaken hG2) ?_
  refine r_one 11 (by kernel_rfl) rfl ?_
  refine s_store1 rfl rfl rfl (.app (.tail .head)) (by kernel_rfl) rfl (by simp) ?_
  refine r_late rfl ?_
  refine r_done (by kernel_rfl) ?_
  change Holds _ _ _ _ _ (MO mp (Sl bn 0 M.now.length cn) vL (.slice adA (M.since.length + 1) cpA) (.slice adW (M.since.length + 1) cpW) D1.ops D1.fuse D1.dead :: _) _
  refine c_sub (MO mp (Sl bn 0 M.now.length cn) vL (.slice adA (M.since.length + 1) cpA) (.slice adW (M.since.length + 1) cpW) D1.ops D1.fuse D1.dead :: (BN ++ (BL ++ (BA2 ++ (BW2 ++ F))))) sbx ?_
  have hA3 : Own (.slice adA (M.since.length + 1) cpA) (M.since ++ [(m, ys)]).length ((M.since ++ [(m, ys)]).map fun p => I64 (p.1 : Int)) 3 1 BA2 := by
    simp only [List.length_append, List.length_cons, List.length_nil, List.map_append, List.map_cons, List.map_nil]; exact hA2
  have hW3 : ∀ G', Im.le G2 G' → Rows G' (.slice adW (M.since.length + 1) cpW) ((M.since ++ [(m, ys)]).map Prod.snd) BW2 := fun G' hG' => by
    refine ⟨LW ++ [.slice ad2 ys.length cp2], by simp only [List.length_map, List.length_append, List.length_cons, List.length_nil]; exact hW2, ?_⟩
    rw [List.map_append]
    exact (hRW.mono fun c x h => RowR.up _ _ _ _ (hG2.trans hG') h).append (Recs.one rfl ⟨_, rfl, hu2.up hG', hy⟩)
  cases g1 with
  | false =>
    dsimp only [wrt]
    refine ww ?_
    refine c_cond_t rfl ?_
    have hr1 : MR G2 (addS D1 m ys) (Sl bn 0 M.now.length cn) vL (.slice adA (M.since.length + 1) cpA) (.slice adW (M.since.length + 1) cpW) BN BL BA2 BW2 :=
      ⟨hwf, by simp only [addS]; rw [hn1]; exact hr.n.up RowR.up hG2, by simp only [addS]; rw [hl1]; exact hr.l.up RowR.up hG2, by simp only [addS]; rw [hs1']; exact hA3, by simp only [addS]; rw [hs1']; exact hW3 _ (Im.le_refl _)⟩
    refine ww ?_
    exact f_ret1 rfl rfl (fun w hs => ⟨G2, _, rfl, hG2, ⟨_, _, _, _, _, _, _, _, rfl, hr1⟩, (show Sat w0 w _ ((MO mp (Sl bn 0 M.now.length cn) vL (.slice adA (M.since.length + 1) cpA) (.slice adW (M.since.length + 1) cpW) D1.ops D1.fuse D1.dead :: (BN ++ (BL ++ (BA2 ++ BW2)))) ++ F) from hs.sb)⟩)
  | true =>
  dsimp only [wrt]
  refine ww ?_
  refine c_cond_f rfl ?_
  refine ww ?_
  refine r_startS [MO mp (Sl bn 0 M.now.length cn) vL (.slice adA (M.since.length + 1) cpA) (.slice adW (M.since.length + 1) cpW) D1.ops D1.fuse D1.dead] [] (by kernel_rfl) (fun w h => h.sb) ?_
  refine r_tk 0 rfl rfl (v_move rfl) (fun _ h => (h.sb)) ?_
  refine r_tk 1 rfl rfl (v_nilCheck rfl) (fun _ h => (h.sb)) ?_
  refine r_tk 2 rfl rfl (v_field 0 rfl (by kernel_rfl)) (fun _ h => (h.sb)) ?_
  refine r_tk 3 rfl rfl (v_load rfl (Cel.head rfl) (by kernel_rfl)) (fun _ h => (h.sb)) ?_
  refine r_tk 4 rfl rfl (v_move rfl) (fun _ h => (h.sb)) ?_
  refine r_tk 5 rfl rfl (v_move rfl) (fun _ h => (h.sb)) ?_
  refine r_one 6 (by kernel_rfl) rfl ?_
  refine s_call (xs := [_]) rfl rfl rfl rfl rfl rfl (by kernel_rfl) (fun w hs => copy_c _ ys _ w _ _ (hv.up hG2) (by omega) hs) ?_
  rintro e w' ⟨G3, u3, rfl, hG3, hu3, hs'⟩; refine a_ret ?_ hs'; clear hs'
  obtain ⟨ad3, cp3, rfl⟩ := hu3.form
  have hput := hputn G3 m (.slice ad3 ys.length cp3) ys (hG2.trans hG3) hm ⟨_, rfl, hu3, hy⟩
  subst hBn
  refine r_next (fun w h => (h.sb).weaken hG3) ?_
  refine r_tk 7 rfl rfl (v_index1 rfl rfl (by kernel_rfl) (by omega)) (fun _ h => (h.sb).weaken hG3) ?_
  refine r_one 8 (by kernel_rfl) rfl ?_
  refine s_store1 rfl rfl rfl (.tail .head) (by kernel_rfl) rfl (by rw [Int.toNat_natCast]; omega) ?_
  refine r_next (fun w h => (h.sb).weaken hG3) ?_
  refine r_done (by kernel_rfl) ?_
  rw [Int.toNat_natCast, Nat.zero_add]
  have hr2 : MR G3 { addS D1 m ys with now := (addS D1 m ys).now.set m ys } (Sl bn 0 M.now.length cn) vL (.slice adA (M.since.length + 1) cpA) (.slice adW (M.since.length + 1) cpW) [(bn, Cs (Ln.set m (.slice ad3 ys.length cp3)) 31)] BL BA2 BW2 :=
    ⟨⟨by simp; exact hwf.k2, by simp; exact hwf.kM, by simp; exact hwf.kl, by simpa using hwf.ks, hwf.sm, hwf.f0, hwf.o0⟩, by simp only [addS]; rw [hn1]; exact hput, by simp only [addS]; rw [hl1]; exact hr.l.up RowR.up (hG2.trans hG3), by simp only [addS]; rw [hs1']; exact hA3, by simp only [addS]; rw [hs1']; exact hW3 _ hG3⟩
  change Holds _ _ _ _ _ ((bn, Cs (Ln.set m (.slice ad3 ys.length cp3)) 31) :: MO mp (Sl bn 0 M.now.length cn) vL (.slice adA (M.since.length + 1) cpA) (.slice adW (M.since.length + 1) cpW) D1.ops D1.fuse D1.dead :: (BL ++ (BA2 ++ (BW2 ++ F)))) _
  refine ww ?_
  exact f_ret1 rfl rfl (fun w hs => ⟨G3, _, rfl, hG2.trans hG3, ⟨_, _, _, _, _, _, _, _, rfl, hr2⟩, (show Sat w0 w _ ((MO mp (Sl bn 0 M.now.length cn) vL (.slice adA (M.since.length + 1) cpA) (.slice adW (M.since.length + 1) cpW) D1.ops D1.fuse D1.dead :: ([(bn, Cs (Ln.set m (.slice ad3 ys.length cp3)) 31)] ++ (BL ++ (BA2 ++ BW2)))) ++ F) from hs.sb)⟩)

/-- As the reference syncs: what stands there lasts. -/
def rsynced : Dk × Bool → Dk × Int
  | (D', false) => (D', 14)
  | (D', true) => ({ D' with lasts := D'.now, since := [] }, 0)
def rsyncS (D : Dk) : Dk × Int := if D.dead then (D, 14) else rsynced (opS D)

theorem rsync_c (mp : Nat) (B : Hp) (M : Dk) (ho : M.ops < 1000000) (w0 w : World) (G : Im) (F : Hp) (hr : MH G mp M B) (hs : Sat w0 w G (B ++ F)) :
    Calls Try.prog 50 #[Pt mp 0] w fun e w' => ∃ G' B', e = .returned (I64 (rsyncS M).2) ∧ Im.le G G' ∧ MH G' mp (rsyncS M).1 B' ∧ Sat w0 w' G' (B' ++ F) := by
  obtain ⟨vN, vL, vA, vW, BN, BL, BA, BW, rfl, hr⟩ := hr
  have hw := hr.wf
  have hk2 := hw.k2
  have hkM := hw.kM
  have hkl := hw.kl
  obtain ⟨bn, cn, Ln, rfl, hcn, hcM, hBn, hLn, _⟩ := hr.n.put (by omega)
  obtain ⟨bl, cl, Ll, rfl, hcl, hcL, rfl, hLl, _⟩ := hr.l.put (by omega)
  have hs1 : Sat w0 w G (MO mp (Sl bn 0 M.now.length cn) (Sl bl 0 M.lasts.length cl) vA vW M.ops M.fuse M.dead :: (BN ++ ((bl, Cs Ll 31) :: (BA ++ (BW ++ F))))) := hs.sb
  refine f_enter (vs := [_]) Try.func50 rfl Try.ntmps50 (by simp) hs1 ?_
  refine ww ?_
  refine c_cons (s_val (v_field 6 rfl (by kernel_rfl)) rfl rfl rfl ?_)
  refine c_cons (s_val (v_load rfl (Cel.head rfl) (by kernel_rfl)) rfl rfl rfl ?_)
  refine ww ?_
  refine c_part 8 M.dead rfl (fun c1 => ?_) (fun c1 => ?_)
  · rw [show rsyncS M = (M, 14) by rw [rsyncS, if_pos c1]]
    refine ww ?_
    refine c_cond_t rfl ?_
    refine ww ?_
    exact f_ret1 rfl rfl (fun w hs => ⟨G, _, rfl, Im.le_refl _, ⟨_, _, _, _, _, _, _, _, rfl, hr⟩, hs.sb⟩)
  have hyes : rsyncS M = rsynced (opS M) := by rw [rsyncS, if_neg (by simp [c1])]
  have hwf := wf_op hw ho
  rw [hyes]
  refine ww ?_
  refine c_cons (s_call (xs := [_]) rfl rfl rfl rfl rfl rfl (by kernel_rfl) (fun w hs => rop_c mp (Sl bn 0 M.now.length cn) (Sl bl 0 M.lasts.length cl) vA vW M hw _ w _ _ hs) ?_)
  rintro e w' ⟨rfl, hs'⟩; refine a_ret ?_ hs'; clear hs'
  obtain ⟨hn1, hl1, hs1'⟩ := opS_now M
  obtain ⟨E, hE⟩ : ∃ E, opS M = E := ⟨_, rfl⟩
  rw [hE] at hwf hn1 hl1 hs1' ⊢
  obtain ⟨D1, g1⟩ := E
  dsimp only at hwf hn1 hl1 hs1'
  have hr1 : MR G D1 (Sl bn 0 M.now.length cn) (Sl bl 0 M.lasts.length cl) vA vW BN [(bl, Cs Ll 31)] BA BW := ⟨hwf, by rw [hn1]; exact hr.n, by rw [hl1]; exact hr.l, by rw [hs1']; exact hr.a, by rw [hs1']; exact hr.w⟩
  cases g1 with
  | false =>
    dsimp only [rsynced]
    refine ww ?_
    refine c_cond_t rfl ?_
    refine ww ?_
    exact f_ret1 rfl rfl (fun w hs => ⟨G, _, rfl, Im.le_refl _, ⟨_, _, _, _, _, _, _, _, rfl, hr1⟩, hs.sb⟩)
  | true =>
  dsimp only [rsynced]
  refine ww ?_
  refine c_cond_f rfl ?_
  refine ww ?_
  refine c_loop (α := Nat × Im × List Value) (fun x => [(0, Pt mp 0), (3, I64 x.1)]) (fun x => x.2.1) (fun x => MO mp (Sl bn 0 M.now.length cn) (Sl bl 0 M.lasts.length cl) vA vW D1.ops D1.fuse D1.dead :: (BN ++ ((bl, Cs x.2.2 31) :: (BA ++ (BW ++ F)))))
    (fun x => x.1 ≤ M.now.length ∧ Im.le G x.2.1 ∧ Rows x.2.1 (Sl bl 0 M.lasts.length cl) (M.now.take x.1 ++ M.lasts.drop x.1) [(bl, Cs x.2.2 31)]) (fun x => M.now.length - x.1) (0, G, Ll) ⟨Nat.zero_le _, Im.le_refl _, by simpa using hr.l⟩ ?_ ?_
  · exact n_at ⟨rfl, rfl, trivial⟩ sbx
  rintro ⟨i, G1, L⟩ ⟨hi, hG1, hLs⟩
  dsimp only at hi hG1 hLs ⊢
  refine ww ?_
  refine c_cons (s_val (v_field 0 rfl (by kernel_rfl)) rfl rfl rfl ?_)
  refine c_cons (s_val (v_load rfl (Cel.head rfl) (by kernel_rfl)) rfl rfl rfl ?_)
  refine ww ?_
  have hlen : (M.now.take i ++ M.lasts.drop i).length = M.lasts.length := by simp; omega
  refine c_cond_d rfl (fun c3 => ?_) (fun c3 => ?_)
  · -- then
    have hil : i < M.now.length := by omega
    obtain ⟨bn', cn', u, hvn, hu, hcu⟩ := Rows.get (hr.n.up RowR.up hG1) (H := MO mp (Sl bn 0 M.now.length cn) (Sl bl 0 M.lasts.length cl) vA vW D1.ops D1.fuse D1.dead :: BN) (fun p hp => by simp [hp]) i hil
    cases hvn
    have hx64 : (M.now.getD i []).length = 64 := hr.n.n64 _ (by simp [hil])
    obtain ⟨b', c', L', hv', _, _, hB', hL', hput⟩ := hLs.put (by omega)
    rw [hlen] at hv' hL' hput
    cases hv'
    have e2 : L' = L := by
      simp only [List.cons.injEq, Prod.mk.injEq, true_and, and_true] at hB'
      exact List.toArray_inj (Obj.cells.inj hB').1.symm
    subst e2
    have hset : (M.now.take i ++ M.lasts.drop i).set i (M.now.getD i []) = M.now.take (i + 1) ++ M.lasts.drop (i + 1) := by
      have hil2 : i < M.lasts.length := by omega
      have hl' : (M.now.take i).length = i := by simp; omega
      rw [List.set_append_right _ _ (by omega), hl', Nat.sub_self, List.take_succ_eq_append_getElem hil, List.drop_eq_getElem_cons hil2, List.set_cons_zero, show M.now.getD i [] = M.now[i] by simp [hil], List.append_assoc]
      rfl
    refine ww ?_
    refine r_startS (MO mp (Sl bn 0 M.now.length cn) (Sl bl 0 M.lasts.length cl) vA vW D1.ops D1.fuse D1.dead :: BN) [] (by kernel_rfl) (fun w h => h.sb) ?_
    refine r_tk 0 rfl rfl (v_move rfl) (fun _ h => (h.sb)) ?_
    refine r_tk 1 rfl rfl (v_nilCheck rfl) (fun _ h => (h.sb)) ?_
    refine r_tk 2 rfl rfl (v_field 1 rfl (by kernel_rfl)) (fun _ h => (h.sb)) ?_
    refine r_tk 3 rfl rfl (v_load rfl (Cel.head rfl) (by kernel_rfl)) (fun _ h => (h.sb)) ?_
    refine r_tk 4 rfl rfl (v_move rfl) (fun _ h => (h.sb)) ?_
    refine r_tk 5 rfl rfl (v_move rfl) (fun _ h => (h.sb)) ?_
    refine r_tk 6 rfl rfl (v_nilCheck rfl) (fun _ h => (h.sb)) ?_
    refine r_tk 7 rfl rfl (v_field 0 rfl (by kernel_rfl)) (fun _ h => (h.sb)) ?_
    refine r_tk 8 rfl rfl (v_load rfl (Cel.head rfl) (by kernel_rfl)) (fun _ h => (h.sb)) ?_
    refine r_tk 9 rfl rfl (v_move rfl) (fun _ h => (h.sb)) ?_
    refine r_tk 10 rfl rfl (v_index1 rfl rfl (by kernel_rfl) (by omega)) (fun _ h => (h.sb)) ?_
    refine r_tk 11 rfl rfl (v_load rfl (by rw [Int.toNat_natCast]; exact hcu) (by kernel_rfl)) (fun _ h => (h.sb)) ?_
    refine r_one 12 (by kernel_rfl) rfl ?_
    refine s_call (xs := [_]) rfl rfl rfl rfl rfl rfl (by kernel_rfl) (fun w hs => copy_c _ (M.now.getD i []) _ w _ _ hu (by omega) hs) ?_
    rintro e w' ⟨G2, u2, rfl, hG2, hu2, hs'⟩; refine a_ret ?_ hs'; clear hs'
    obtain ⟨ad2, cp2, rfl⟩ := hu2.form
    have hput2 := hput G2 i _ (M.now.getD i []) hG2 (by omega) ⟨_, rfl, hu2, hx64⟩
    rw [hset] at hput2
    refine r_next (fun w h => (h.sb).weaken hG2) ?_
    refine r_tk 13 rfl rfl (v_index1 rfl rfl (by kernel_rfl) (by omega)) (fun _ h => (h.sb).weaken hG2) ?_
    refine r_one 14 (by kernel_rfl) rfl ?_
    refine s_store1 rfl rfl rfl (.tail (.app .head)) (by kernel_rfl) rfl (by rw [Int.toNat_natCast]; omega) ?_
    refine r_next (fun w h => (h.sb).weaken hG2) ?_
    refine r_done (by kernel_rfl) ?_
    rw [Int.toNat_natCast, Nat.zero_add]
    refine ww ?_
    exact n_next (x := (i, G1, L')) (i + 1, G2, _) ⟨by dsimp only; omega, hG1.trans hG2, hput2⟩ (by dsimp only; omega) ⟨rfl, rfl, trivial⟩ rfl sbx
  have e : i = M.now.length := by omega
  subst e
  rw [List.take_length, List.drop_of_length_le (by omega), List.append_nil] at hLs
  refine ww ?_
  refine c_cons (s_val (v_field 2 rfl (by kernel_rfl)) rfl rfl rfl ?_)
  refine c_cons (s_store1 rfl rfl rfl .head (by kernel_rfl) rfl (by simp) ?_)
  refine ww ?_
  refine c_cons (s_val (v_field 3 rfl (by kernel_rfl)) rfl rfl rfl ?_)
  refine c_cons (s_store1 rfl rfl rfl .head (by kernel_rfl) rfl (by simp) ?_)
  change Holds _ _ _ _ _ (MO mp (Sl bn 0 M.now.length cn) (Sl bl 0 M.lasts.length cl) (.slice none 0 0) (.slice none 0 0) D1.ops D1.fuse D1.dead :: _) _
  have hr2 : MR G1 { D1 with lasts := D1.now, since := [] } (Sl bn 0 M.now.length cn) (Sl bl 0 M.lasts.length cl) (.slice none 0 0) (.slice none 0 0) BN [(bl, Cs L 31)] [] [] :=
    ⟨⟨hwf.k2, hwf.kM, rfl, by simp, by simp, hwf.f0, hwf.o0⟩, by dsimp only; rw [hn1]; exact hr.n.up RowR.up hG1, by dsimp only; rw [hn1]; exact hLs, Own.zero none _ _, ROwn.zero none _⟩
  refine ww ?_
  exact f_ret1 rfl rfl (fun w hs => ⟨G1, _, rfl, hG1, ⟨_, _, _, _, _, _, _, _, rfl, hr2⟩, hs.sb⟩)
end

section
open Go
set_option linter.unusedVariables false
set_option linter.unusedSimpArgs false
set_option maxHeartbeats 6400000
attribute [local irreducible] Code.wp wpList stepK Holds Val wpR Eff Eff0 Code.wpIn wpListIn stepI Exit.then Exit.inBlock bodyPost bodyPostM

theorem rimage_c (mp : Nat) (B : Hp) (M : Dk) (w0 w : World) (G : Im) (F : Hp) (hr : MH G mp M B) (hs : Sat w0 w G (B ++ F)) :
    Calls Try.prog 32 #[Pt mp 0] w fun e w' => ∃ G' u, e = .returned u ∧ Im.le G G' ∧ SV G' [] u (imgS M).length ((imgS M).map B8) ∧ Sat w0 w' G' (B ++ F) := by
  obtain ⟨vN, vL, vA, vW, BN, BL, BA, BW, hB, hr⟩ := hr
  have hw := hr.wf
  have hk2 := hw.k2
  have hkM := hw.kM
  have h64 := hr.n.n64
  obtain ⟨bn, cn, Ln, rfl, hcn, hcM, hBn, _, _⟩ := hr.n.put (by omega)
  have hs1 : Sat w0 w G (MO mp (Sl bn 0 M.now.length cn) vL vA vW M.ops M.fuse M.dead :: (BN ++ (BL ++ (BA ++ (BW ++ F))))) := by rw [hB] at hs; exact hs.sb
  clear hs
  refine f_enter (vs := [_]) Try.func32 rfl Try.ntmps32 (by simp) hs1 ?_
  refine ww ?_
  refine c_loop (α := Nat × Value × Hp) (fun x => [(0, Pt mp 0), (3, x.2.1), (4, I64 x.1)]) (fun _ => G) (fun x => MO mp (Sl bn 0 M.now.length cn) vL vA vW M.ops M.fuse M.dead :: (BN ++ (BL ++ (BA ++ (BW ++ (x.2.2 ++ F))))))
    (fun x => x.1 ≤ M.now.length ∧ Own x.2.1 (x.1 * 64) ((M.now.take x.1).flatten.map B8) 5 1 x.2.2) (fun x => M.now.length - x.1) (0, .slice none 0 0, []) ⟨Nat.zero_le _, Own.zero none _ _⟩ ?_ ?_
  · exact n_at ⟨rfl, rfl, rfl, trivial⟩ sbx
  rintro ⟨i, vo, Bo⟩ ⟨hi, ho⟩
  dsimp only at hi ho ⊢
  refine ww ?_
  refine c_cons (s_val (v_field 0 rfl (by kernel_rfl)) rfl rfl rfl ?_)
  refine c_cons (s_val (v_load rfl (Cel.head rfl) (by kernel_rfl)) rfl rfl rfl ?_)
  refine ww ?_
  refine c_cond_d rfl (fun c1 => ?_) (fun c1 => ?_)
  · -- then
    have hil : i < M.now.length := by omega
    obtain ⟨bn', cn', u, hvn, hu, hcu⟩ := Rows.get hr.n (H := MO mp (Sl bn 0 M.now.length cn) vL vA vW M.ops M.fuse M.dead :: (BN ++ (BL ++ (BA ++ (BW ++ (Bo ++ F)))))) (fun p hp => by simp [hp]) i hil
    cases hvn
    have htk : (M.now.take (i + 1)).flatten = (M.now.take i).flatten ++ M.now.getD i [] := by
      rw [List.take_succ_eq_append_getElem hil, List.flatten_append, List.flatten_cons, List.flatten_nil, List.append_nil]; simp [hil]
    have hx64 : (M.now.getD i []).length = 64 := h64 _ (by simp [hil])
    generalize M.now.getD i [] = X at hu hx64 htk
    refine ww ?_
    refine c_cons (s_val (v_field 0 rfl (by kernel_rfl)) rfl rfl rfl ?_)
    refine c_cons (s_val (v_load rfl (Cel.head rfl) (by kernel_rfl)) rfl rfl rfl ?_)
    refine ww ?_
    refine c_cons (s_val (v_index1 rfl rfl (by kernel_rfl) (by omega)) rfl rfl rfl ?_)
    refine c_cons (s_val (v_load rfl (by rw [Int.toNat_natCast]; exact hcu) (by kernel_rfl)) rfl rfl rfl ?_)
    refine c_cons (s_append (e := 5) (z := B8 0) (sz := 1) (bs := 1) (by kernel_rfl) rfl rfl rfl rfl ho (Chunk.tail (Chunk.app (Chunk.app (Chunk.app (Chunk.app Chunk.head))))) (hu.mono (Im.le_refl _) (by simp)) rfl (by decide) (by simp) (B8_ones X) (by omega) (by omega) fun u2 B2 hown2 => ?_)
    refine ww ?_
    exact n_next (x := (i, vo, Bo)) (i + 1, u2, B2) ⟨by dsimp only; omega, by dsimp only; rw [htk, List.map_append, show (i + 1) * 64 = i * 64 + X.length by omega]; exact hown2⟩ (by dsimp only; omega) ⟨rfl, rfl, rfl, trivial⟩ rfl sbx
  have e : i = M.now.length := by omega
  subst e
  rw [List.take_length, ← flat_len _ h64] at ho
  refine c_freezeO ho (Chunk.tail (Chunk.app (Chunk.app (Chunk.app (Chunk.app Chunk.head))))) fun G1 hG1 hsv1 => ?_
  refine ww ?_
  exact f_ret1 rfl rfl (fun w hs => ⟨G1, _, rfl, hG1, hsv1, by rw [hB]; exact hs.sb⟩)

end
end Go.Proofs.Ytkjneelekfdpfaa
