/- The reference's disk: LoadDisk. -/
import Derived.Test.YtkjneelekfdpfaaJrR4
namespace Go.Proofs.Ytkjneelekfdpfaa
open Go
set_option linter.unusedVariables false
set_option linter.unusedSimpArgs false
set_option maxHeartbeats 3200000
theorem ldN_at (m : Nat) (img : List UInt8) (i : Nat) (h : i < m) : (ldN m img (i + 1))[i]? = some ((img.drop (i * 64)).take 64) := by
  rw [← ldN_next _ _ _ h, List.getElem?_set_self (by rw [ldN_len _ _ _ (by omega)]; exact h)]
attribute [local irreducible] Code.wp wpList stepK Holds Val wpR Eff Eff0 Code.wpIn wpListIn stepI Exit.then Exit.inBlock bodyPost bodyPostM

theorem rload_c (m : Nat) (hm : 2 ≤ m ∧ m ≤ 4160) (v : Value) (img : List UInt8) (hl : img.length = m * 64) (w0 w : World) (G : Im) (F : Hp) (hv : SV G [] v img.length (img.map B8)) (hs : Sat w0 w G F) :
    Calls Try.prog 34 #[v] w fun e w' => ∃ G' mp B, e = .returned (.tuple #[Pt mp 0, I64 0]) ∧ Im.le G G' ∧ MH G' mp ⟨chunks m img, chunks m img, [], -1, 0, false⟩ B ∧ Sat w0 w' G' (B ++ F) := by
  obtain ⟨ad, cap, rfl⟩ := hv.form
  have hcap : img.length ≤ cap := by
    obtain ⟨_, _, e, h1, _⟩ := hv
    cases e; exact h1
  refine f_enter (vs := [_]) Try.func34 rfl Try.ntmps34 (by simp) hs ?_
  refine ww ?_
  refine c_cons (s_val (v_rem rfl rfl (by omega) (by omega)) rfl rfl rfl ?_)
  refine ww ?_
  refine c_cond_d rfl (fun c1 => ?_) (fun c1 => ?_)
  · exfalso; omega
  refine ww ?_
  refine c_cons (s_val (v_quo rfl rfl (by omega) (by omega)) rfl rfl rfl ?_)
  rw [show ((img.length : Int) / 64) = ((m : Nat) : Int) by omega]
  refine c_cons (s_call (xs := [_]) rfl rfl rfl rfl rfl rfl (by kernel_rfl) (fun w hs => rnew_c m hm _ w _ _ hs) ?_)
  rintro e w' ⟨G1, mp, B, rfl, hG1, hM, hs'⟩; refine a_ret ?_ hs'; clear hs'
  refine ww ?_
  refine c_cond_f rfl ?_
  obtain ⟨vN, vL, vA, vW, BN, BL, BA, BW, rfl, hr⟩ := hM
  have hnl : (newD m).now.length = m := by simp [newD]
  have hll : (newD m).lasts.length = m := by simp [newD]
  have hz0 : (newD m).now = ldN m img 0 := by simp [newD, ldN]
  have hz1 : (newD m).lasts = ldN m img 0 := by simp [newD, ldN]
  obtain ⟨bn, cn, LN0, rfl, hcn, hcM, rfl, _, _⟩ := hr.n.put (by omega)
  obtain ⟨bl, cl, LL0, rfl, hcl, hcL, rfl, _, _⟩ := hr.l.put (by omega)
  have hrn := hr.n
  have hrl := hr.l
  rw [hnl] at hrn hcn ⊢
  rw [hll] at hrl hcl ⊢
  rw [hz0] at hrn
  rw [hz1] at hrl
  change Holds _ _ _ _ _ (MO mp (Sl bn 0 m cn) (Sl bl 0 m cl) vA vW 0 (-1) false :: (([(bn, Cs LN0 31)] ++ ([(bl, Cs LL0 31)] ++ (BA ++ BW))) ++ F)) _
  refine c_sub (MO mp (Sl bn 0 m cn) (Sl bl 0 m cl) vA vW 0 (-1) false :: (bn, Cs LN0 31) :: (bl, Cs LL0 31) :: (BA ++ (BW ++ F))) sbx ?_
  refine ww ?_
  refine c_loop (α := Nat × Im × List Value × List Value) (fun x => [(0, .slice ad img.length cap), (4, Pt mp 0), (6, I64 (x.1 : Int))]) (fun x => x.2.1) (fun x => MO mp (Sl bn 0 m cn) (Sl bl 0 m cl) vA vW 0 (-1) false :: (bn, Cs x.2.2.1 31) :: (bl, Cs x.2.2.2 31) :: (BA ++ (BW ++ F))) (fun x => x.1 ≤ m ∧ Im.le G1 x.2.1 ∧ Rows x.2.1 (Sl bn 0 m cn) (ldN m img x.1) [(bn, Cs x.2.2.1 31)] ∧ Rows x.2.1 (Sl bl 0 m cl) (ldN m img x.1) [(bl, Cs x.2.2.2 31)]) (fun x => m - x.1) (0, G1, LN0, LL0) ⟨Nat.zero_le _, Im.le_refl _, hrn, hrl⟩ ?_ ?_
  · exact n_at ⟨rfl, rfl, rfl, trivial⟩ sbx
  rintro ⟨i, Gi, LN, LL⟩ ⟨hi, hGi, hN, hL⟩
  dsimp only at hi hGi hN hL ⊢
  refine ww ?_
  refine c_cons (s_val (v_field 0 rfl (by kernel_rfl)) rfl rfl rfl ?_)
  refine c_cons (s_val (v_load rfl (Cel.head rfl) (by kernel_rfl)) rfl rfl rfl ?_)
  refine ww ?_
  refine c_cond_d rfl (fun c3 => ?_) (fun c3 => ?_)
  · -- then
    have him : i < m := by omega
    have hnlen := ldN_len m img i hi
    obtain ⟨b', c', L', hve, _, _, hBe, hle, hput⟩ := hN.put (by omega)
    rw [hnlen] at hve hle
    cases hve
    have e2 : L' = LN := by
      simp only [List.cons.injEq, Prod.mk.injEq, true_and, and_true] at hBe
      exact List.toArray_inj (Obj.cells.inj hBe).1.symm
    subst e2
    obtain ⟨b'', c'', L'', hve, _, _, hBe, hleL, hputL⟩ := hL.put (by omega)
    rw [hnlen] at hve hleL
    cases hve
    have e3 : L'' = LL := by
      simp only [List.cons.injEq, Prod.mk.injEq, true_and, and_true] at hBe
      exact List.toArray_inj (Obj.cells.inj hBe).1.symm
    subst e3
    obtain ⟨s, hsd⟩ : ∃ s, s = (img.drop (i * 64)).take 64 := ⟨_, rfl⟩
    have hs64 : s.length = 64 := by rw [hsd, List.length_take, List.length_drop]; omega
    have hmid : SV Gi [] (slMid ad cap (i * 64) ((i + 1) * 64) 1) s.length (s.map B8) := by
      have h := (hv.mono (H' := []) (hG1.trans hGi) (fun p hp => hp)).mid (s := 1) (l := i * 64) (h := (i + 1) * 64) (by omega) (by omega)
      simp only [Nat.mul_one] at h
      rw [show (i + 1) * 64 - i * 64 = 64 by omega] at h
      rw [hs64, hsd, List.map_take, List.map_drop]
      exact h
    refine ww ?_
    refine r_startS [MO mp (Sl bn 0 m cn) (Sl bl 0 m cl) vA vW 0 (-1) false] [] (by kernel_rfl) (fun w h => h.sb) ?_
    refine r_tk 0 rfl rfl (v_move rfl) (fun _ h => (h.sb)) ?_
    refine r_tk 1 rfl rfl (v_nilCheck rfl) (fun _ h => (h.sb)) ?_
    refine r_tk 2 rfl rfl (v_field 0 rfl (by kernel_rfl)) (fun _ h => (h.sb)) ?_
    refine r_tk 3 rfl rfl (v_load rfl (Cel.head rfl) (by kernel_rfl)) (fun _ h => (h.sb)) ?_
    refine r_tk 4 rfl rfl (v_move rfl) (fun _ h => (h.sb)) ?_
    refine r_tk 5 rfl rfl (v_move rfl) (fun _ h => (h.sb)) ?_
    refine r_tk 6 rfl rfl (v_move rfl) (fun _ h => (h.sb)) ?_
    refine r_tk 7 rfl rfl (v_mul rfl rfl (by omega)) (fun _ h => (h.sb)) ?_
    rw [show (i : Int) * 64 = ((i * 64 : Nat) : Int) by omega]
    refine r_tk 8 rfl rfl (v_move rfl) (fun _ h => (h.sb)) ?_
    refine r_tk 9 rfl rfl (v_add rfl rfl (by omega)) (fun _ h => (h.sb)) ?_
    refine r_tk 10 rfl rfl (v_mul rfl rfl (by omega)) (fun _ h => (h.sb)) ?_
    rw [show ((i : Int) + 1) * 64 = (((i + 1) * 64 : Nat) : Int) by omega]
    refine r_tk 11 rfl rfl (v_slMid (i * 64) ((i + 1) * 64) 1 rfl rfl rfl (by kernel_rfl) (by omega) (by omega)) (fun _ h => (h.sb)) ?_
    refine r_one 12 (by kernel_rfl) rfl ?_
    refine s_call (xs := [_]) rfl rfl rfl rfl rfl rfl (by kernel_rfl) (fun w hs => copy_c _ s _ w _ _ hmid (by omega) hs) ?_
    rintro e w' ⟨G2, u2, rfl, hG2, hu2, hs'⟩; refine a_ret ?_ hs'; clear hs'
    obtain ⟨ad2, cp2, rfl⟩ := hu2.form
    have hput2 := hput G2 i _ s hG2 (by omega) ⟨_, rfl, hu2, hs64⟩
    rw [hsd, ldN_next _ _ _ him, ← hsd] at hput2
    refine r_next (fun w h => (h.weaken hG2).sb) ?_
    refine r_tk 13 rfl rfl (v_index1 rfl rfl (by kernel_rfl) (by omega)) (fun _ h => (h.weaken hG2).sb) ?_
    refine r_one 14 (by kernel_rfl) rfl ?_
    refine s_store1 rfl rfl rfl (.tail .head) (by kernel_rfl) rfl (by rw [Int.toNat_natCast]; omega) ?_
    refine r_next (fun w h => (h.weaken hG2).sb) ?_
    refine r_done (by kernel_rfl) ?_
    rw [Int.toNat_natCast, Nat.zero_add]
    have hnl2 := ldN_len m img (i + 1) (by omega)
    obtain ⟨u3, hu3, hc3⟩ := Rows.row (H := [MO mp (Sl bn 0 m cn) (Sl bl 0 m cl) vA vW 0 (-1) false, (bn, Cs (L'.set i (.slice ad2 s.length cp2)) 31)]) (show Rows G2 (Sl bn 0 (ldN m img (i + 1)).length cn) (ldN m img (i + 1)) _ by rw [hnl2]; exact hput2) (Im.le_refl _) (fun p hp => by rw [List.mem_singleton.1 hp]; simp) (hsd ▸ ldN_at m img i him)
    change Holds _ _ _ _ _ ((bn, Cs (L'.set i (.slice ad2 s.length cp2)) 31) :: MO mp (Sl bn 0 m cn) (Sl bl 0 m cl) vA vW 0 (-1) false :: (bl, Cs L'' 31) :: (BA ++ (BW ++ F))) _
    refine ww ?_
    refine r_startS [MO mp (Sl bn 0 m cn) (Sl bl 0 m cl) vA vW 0 (-1) false, (bn, Cs (L'.set i (.slice ad2 s.length cp2)) 31)] [] (by kernel_rfl) (fun w h => h.sb) ?_
    refine r_tk 0 rfl rfl (v_move rfl) (fun _ h => (h.sb)) ?_
    refine r_tk 1 rfl rfl (v_nilCheck rfl) (fun _ h => (h.sb)) ?_
    refine r_tk 2 rfl rfl (v_field 1 rfl (by kernel_rfl)) (fun _ h => (h.sb)) ?_
    refine r_tk 3 rfl rfl (v_load rfl (Cel.head rfl) (by kernel_rfl)) (fun _ h => (h.sb)) ?_
    refine r_tk 4 rfl rfl (v_move rfl) (fun _ h => (h.sb)) ?_
    refine r_tk 5 rfl rfl (v_move rfl) (fun _ h => (h.sb)) ?_
    refine r_tk 6 rfl rfl (v_nilCheck rfl) (fun _ h => (h.sb)) ?_
    refine r_tk 7 rfl rfl (v_field 0 rfl (by kernel_rfl)) (fun _ h => (h.sb)) ?_
    refine r_tk 8 rfl rfl (v_load rfl (Cel.head rfl) (by kernel_rfl)) (fun _ h => (h.sb)) ?_
    refine r_tk 9 rfl rfl (v_move rfl) (fun _ h => (h.sb)) ?_
    refine r_tk 10 rfl rfl (v_index1 rfl rfl (by kernel_rfl) (by omega)) (fun _ h => (h.sb)) ?_
    refine r_tk 11 rfl rfl (v_load rfl hc3 (by kernel_rfl)) (fun _ h => (h.sb)) ?_
    refine r_one 12 (by kernel_rfl) rfl ?_
    refine s_call (xs := [_]) rfl rfl rfl rfl rfl rfl (by kernel_rfl) (fun w hs => copy_c _ s _ w _ _ hu3 (by omega) hs) ?_
    rintro e w' ⟨G4, u4, rfl, hG4, hu4, hs'⟩; refine a_ret ?_ hs'; clear hs'
    obtain ⟨ad4, cp4, rfl⟩ := hu4.form
    have hG24 := hG2.trans hG4
    have hputL2 := hputL G4 i _ s hG24 (by omega) ⟨_, rfl, hu4, hs64⟩
    rw [hsd, ldN_next _ _ _ him, ← hsd] at hputL2
    refine r_next (fun w h => (h.weaken hG4).sb) ?_
    refine r_tk 13 rfl rfl (v_index1 rfl rfl (by kernel_rfl) (by omega)) (fun _ h => (h.weaken hG4).sb) ?_
    refine r_one 14 (by kernel_rfl) rfl ?_
    refine s_store1 rfl rfl rfl (.tail (.tail .head)) (by kernel_rfl) rfl (by rw [Int.toNat_natCast]; omega) ?_
    refine r_next (fun w h => (h.weaken hG4).sb) ?_
    refine r_done (by kernel_rfl) ?_
    rw [Int.toNat_natCast, Nat.zero_add]
    change Holds _ _ _ _ _ ((bl, Cs (L''.set i (.slice ad4 s.length cp4)) 31) :: (bn, Cs (L'.set i (.slice ad2 s.length cp2)) 31) :: MO mp (Sl bn 0 m cn) (Sl bl 0 m cl) vA vW 0 (-1) false :: (BA ++ (BW ++ F))) _
    refine ww ?_
    exact n_next (x := (i, Gi, L', L'')) (i + 1, G4, L'.set i (.slice ad2 s.length cp2), L''.set i (.slice ad4 s.length cp4)) ⟨him, hGi.trans hG24, hput2.up RowR.up hG4, hputL2⟩ (by dsimp only; omega) ⟨rfl, rfl, rfl, trivial⟩ rfl sbx
  have e : i = m := by omega
  subst e
  rw [ldN_all] at hN hL
  have hw : (⟨chunks i img, chunks i img, [], -1, 0, false⟩ : Dk).wf := ⟨by dsimp only; rw [chunks_len]; exact hm.1, by dsimp only; rw [chunks_len]; exact hm.2, rfl, by simp, by simp, by simp, by simp⟩
  refine ww ?_
  exact f_ret2 rfl rfl rfl (fun w hs => ⟨Gi, mp, _, rfl, hG1.trans hGi, ⟨_, _, _, _, _, _, _, _, rfl, ⟨hw, hN, hL, hr.a, hr.w.up RowR.up hGi⟩⟩, (show Sat w0 w Gi ((MO mp (Sl bn 0 i cn) (Sl bl 0 i cl) vA vW 0 (-1) false :: ([(bn, Cs LN 31)] ++ ([(bl, Cs LL 31)] ++ (BA ++ BW)))) ++ F) from hs.sb)⟩)
end Go.Proofs.Ytkjneelekfdpfaa
