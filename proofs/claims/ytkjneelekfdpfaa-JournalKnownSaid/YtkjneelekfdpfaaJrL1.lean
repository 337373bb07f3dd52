/- The laws of package journal: JournalKnown. -/
import Derived.Test.YtkjneelekfdpfaaJrL0
namespace Go.Proofs.Ytkjneelekfdpfaa
open Go
set_option linter.unusedVariables false
set_option linter.unusedSimpArgs false
set_option maxHeartbeats 3200000
theorem not_z64 (S : Nat) : ¬ hdOk S z64 := fun h => by
  have h1 := h.1
  revert h1
  decide
theorem open_new {m : Nat} (hm : 2 ≤ m) : openS (newD m).now = none := by
  have e0 : ((newD m).now).getD 0 [] = z64 := by show (List.replicate m z64).getD 0 [] = z64; rw [List.getD, List.getElem?_replicate, if_pos (by omega)]; rfl
  have e1 : ((newD m).now).getD 1 [] = z64 := by show (List.replicate m z64).getD 1 [] = z64; rw [List.getD, List.getElem?_replicate, if_pos (by omega)]; rfl
  unfold openS
  rw [e0, e1, if_neg]
  rintro ⟨h | h, _⟩ <;> exact not_z64 _ h
attribute [local irreducible] Code.wp wpList stepK Holds Val wpR Eff Eff0 Code.wpIn wpListIn stepI Exit.then Exit.inBlock bodyPost bodyPostM

theorem known_c (w0 w : World) (G : Im) (F : Hp) (hs : Sat w0 w G F) :
    Calls Try.prog 3 #[] w fun e w' => ∃ G', e = .returned (.bool true) ∧ Im.le G G' ∧ Sat w0 w' G' F := by
  refine f_enter (vs := []) Try.func3 rfl Try.ntmps3 (by simp) hs ?_
  have z20 : jz 20 = 9 := rfl
  refine ww ?_
  refine c_cons (s_call (xs := []) rfl rfl rfl rfl rfl rfl (by kernel_rfl) (fun w hs => awake_c _ w _ _ hs) ?_)
  rintro e w' ⟨G0, rfl, hG0, hs'⟩; refine a_ret ?_ hs'; clear hs'
  refine ww ?_
  refine c_cond_f rfl ?_
  refine ww ?_
  refine c_cons (s_call (xs := [_]) rfl rfl rfl rfl rfl rfl (by kernel_rfl) (fun w hs => new_c 20 (by decide) _ w _ _ hs) ?_)
  rintro e w' ⟨dp, B0, rfl, hD0, hs'⟩; refine a_ret ?_ hs'; clear hs'
  refine ww ?_
  refine c_cons (s_call (xs := [_]) rfl rfl rfl rfl rfl rfl (by kernel_rfl) (fun w hs => jopen_c dp B0 (newD 20) hD0 (by simp [newD]) (fun x hx => by rw [show (newD 20).now = List.replicate 20 z64 from rfl] at hx; rw [(List.mem_replicate.1 hx).2]; exact z64_len) _ w _ _ hs) ?_)
  rintro e w' ⟨Go, hGo, ⟨h1, _⟩ | ⟨_, _, rfl, hs'⟩ | ⟨_, _, _, _, h1, _⟩⟩
  · cases h1
  rotate_left
  · rw [open_new (by decide)] at h1; cases h1
  refine a_ret ?_ hs'; clear hs'
  refine ww ?_
  refine c_cons (s_call (xs := [_]) rfl rfl rfl rfl rfl rfl (by kernel_rfl) (fun w hs => format_n dp B0 20 (by decide) hD0 _ w _ _ hs) ?_)
  rintro e w' ⟨G1, jp, Bj1, B1, D1, rfl, hG1, hD1, t1, lv1, hj1, hs'⟩; refine a_ret ?_ hs'; clear hs'
  refine ww ?_
  refine c_cons (s_call (xs := [_]) rfl rfl rfl rfl rfl rfl (by kernel_rfl) (fun w hs => format_nil _ w _ _ hs) ?_)
  rintro e w' ⟨rfl, hs'⟩; refine a_ret ?_ hs'; clear hs'
  refine ww ?_
  refine c_cond_f rfl ?_
  refine ww ?_
  refine c_cons (s_lit (z := B8 0) (bs := 1) (e := 5) [_] (by kernel_rfl) rfl rfl rfl rfl (by simp [Value.oneCell']) rfl (by decide) fun b1 => ?_)
  refine c_freeze .head fun G2 hG2 k2 => ?_
  obtain ⟨a1, t2, lv2, a2, a3⟩ := t1.app_y lv1 (by decide) [1] (by decide) (by decide)
  refine c_cons (s_call (xs := [_, _]) rfl rfl rfl rfl rfl rfl (by kernel_rfl) (fun w hs => jappend_c jp dp B1 Bj1 D1 hD1 t1.hl J0 t1.wj _ [1] (by decide) (t1.sm (by decide)).1 (t1.sm (by decide)).2 _ w _ _ (hj1.up hG2) (SV.block (.of_imm k2) (by simp [maxLen])) hs) ?_)
  rw [a1]
  generalize (appS D1 J0 [1]).1 = D2 at t2 lv2 ⊢
  generalize appJ D1 J0 [1] = J2 at t2 a2 a3 ⊢
  rintro e w' ⟨G3, B2, Bj2, hG3, rfl, hD2, hj2, hs'⟩; refine a_ret ?_ hs'; clear hs'
  refine ww ?_
  refine c_cons (s_make 5 (B8 0) 1 1 600 rfl rfl rfl rfl (by kernel_rfl) (by omega) (by omega) fun b2 => ?_)
  have hmd : (madeCells (B8 0).cells (600 * 1)).toList = (List.replicate 600 (0 : UInt8)).map B8 := by
    rw [Nat.mul_one]; exact (toList_madeCells_one _ _).trans List.map_replicate.symm
  rw [hmd]
  refine c_freeze .head fun G4 hG4 k4 => ?_
  have s4 : SV G4 [] (Sl b2 0 600 600) (List.replicate 600 (0 : UInt8)).length ((List.replicate 600 (0 : UInt8)).map B8) := by
    rw [List.length_replicate]; exact SV.block (.of_imm k4) (by decide)
  obtain ⟨x6, hx6⟩ : ∃ x, x = List.replicate 600 (0 : UInt8) := ⟨_, rfl⟩
  have hl6 : x6.length = 600 := by rw [hx6, List.length_replicate]
  rw [← hx6] at s4
  obtain ⟨c1, c2⟩ := t2.app_n (by decide) x6 (by omega) (by rw [a3, hl6]; decide)
  refine c_cons (s_call (xs := [_, _]) rfl rfl rfl rfl rfl rfl (by kernel_rfl) (fun w hs => jappend_c jp dp B2 Bj2 D2 hD2 t2.hl J2 t2.wj _ x6 (by omega) (t2.sm (by decide)).1 (t2.sm (by decide)).2 _ w _ _ (hj2.up hG4) s4 hs) ?_)
  rw [show (appS D2 J2 x6).2 = 5 by rw [c1], show (appS D2 J2 x6).1 = D2 by rw [c1], c2]
  rintro e w' ⟨G5, B3, Bj3, hG5, rfl, hD3, hj3, hs'⟩; refine a_ret ?_ hs'; clear hs'
  refine ww ?_
  refine c_cons (s_lit (z := B8 0) (bs := 1) (e := 5) [_] (by kernel_rfl) rfl rfl rfl rfl (by simp [Value.oneCell']) rfl (by decide) fun b3 => ?_)
  refine c_freeze .head fun G6 hG6 k6 => ?_
  obtain ⟨d1, t4, lv4, d2, d3⟩ := t2.rst_y lv2 (by decide) [3] (by decide) (by decide)
  refine c_cons (s_call (xs := [_, _]) rfl rfl rfl rfl rfl rfl (by kernel_rfl) (fun w hs => jreset_c jp dp B3 Bj3 D2 hD3 t2.hl J2 t2.wj _ [3] (by decide) (t2.sm (by decide)).1 (t2.sm (by decide)).2 _ w _ _ (hj3.up hG6) (SV.block (.of_imm k6) (by simp [maxLen])) hs) ?_)
  rw [d1]
  generalize (rstS D2 J2 [3]).1 = D4 at t4 lv4 ⊢
  generalize rstJ D2 J2 [3] = J4 at t4 d2 d3 ⊢
  rintro e w' ⟨G7, B4, Bj4, hG7, rfl, hD4, hj4, hs'⟩; refine a_ret ?_ hs'; clear hs'
  refine ww ?_
  refine c_cons (s_make 5 (B8 0) 1 1 65537 rfl rfl rfl rfl (by kernel_rfl) (by omega) (by omega) fun b4 => ?_)
  have hme : (madeCells (B8 0).cells (65537 * 1)).toList = (List.replicate 65537 (0 : UInt8)).map B8 := by
    rw [Nat.mul_one]; exact (toList_madeCells_one _ _).trans List.map_replicate.symm
  rw [hme]
  refine c_freeze .head fun G8 hG8 k8 => ?_
  have s8 : SV G8 [] (Sl b4 0 65537 65537) (List.replicate 65537 (0 : UInt8)).length ((List.replicate 65537 (0 : UInt8)).map B8) := by
    rw [List.length_replicate]; exact SV.block (.of_imm k8) (by decide)
  obtain ⟨x7, hx7⟩ : ∃ x, x = List.replicate 65537 (0 : UInt8) := ⟨_, rfl⟩
  have hl7 : x7.length = 65537 := by rw [hx7, List.length_replicate]
  rw [← hx7] at s8
  obtain ⟨e1, e2⟩ := Jt.app_l (D := D4) (J := J4) x7 (by omega)
  refine c_cons (s_call (xs := [_, _]) rfl rfl rfl rfl rfl rfl (by kernel_rfl) (fun w hs => jappend_c jp dp B4 Bj4 D4 hD4 t4.hl J4 t4.wj _ x7 (by omega) (t4.sm (by decide)).1 (t4.sm (by decide)).2 _ w _ _ (hj4.up hG8) s8 hs) ?_)
  rw [show (appS D4 J4 x7).2 = 3 by rw [e1], show (appS D4 J4 x7).1 = D4 by rw [e1], e2]
  rintro e w' ⟨G9, B5, Bj5, hG9, rfl, hD5, hj5, hs'⟩; refine a_ret ?_ hs'; clear hs'
  refine ww ?_
  refine c_kt 48 rfl (by decide) ?_
  refine ww ?_
  refine c_kt 52 rfl (by decide) ?_
  refine ww ?_
  refine c_kt 56 rfl (by decide) ?_
  refine ww ?_
  refine c_kt 60 rfl (by decide) ?_
  refine ww ?_
  refine c_kt 64 rfl (by decide) ?_
  refine ww ?_
  have hw4 := t4.wj
  refine c_cons (s_call (xs := [_]) rfl rfl rfl rfl rfl rfl (by kernel_rfl) (fun w hs => jall_c jp dp Bj5 J4 hw4.n hw4.r _ w _ _ hj5 hs) ?_)
  rw [show J4.rows = [[3]] from d2]
  rintro e w' ⟨Ga, u8', rfl, hGa, hu8, hs'⟩; refine a_ret ?_ hs'; clear hs'
  refine ww ?_
  refine c_cons (s_lit (z := B8 0) (bs := 1) (e := 5) [_] (by kernel_rfl) rfl rfl rfl rfl (by simp [Value.oneCell']) rfl (by decide) fun b5 => ?_)
  refine c_freeze .head fun Gb hGb kb => ?_
  refine c_cons (s_lit (z := .slice none 0 0) (bs := 24) (e := 31) [_] (by kernel_rfl) rfl rfl rfl rfl (by simp [Value.oneCell']) rfl (by decide) fun b6 => ?_)
  refine c_freeze .head fun Gc hGc kc => ?_
  have i1 : SV Gc [] (Sl b5 0 1 1) ([3] : List UInt8).length (([3] : List UInt8).map B8) := SV.block (.of_imm (hGc _ _ kb)) (by decide)
  have hit : Items Gc [Sl b5 0 1 1] [[3]] := (Items.zero Gc).snoc i1
  refine c_cons (s_call (xs := [_, _]) rfl rfl rfl rfl rfl rfl (by kernel_rfl) (fun w hs => rowsD_c _ _ [[3]] [[3]] _ w _ _ (hu8.mono (hGb.trans hGc)) (RwS.sv (vs := [Sl b5 0 1 1]) (sl := []) kc (by simp [maxLen]) hit) hs) ?_)
  rintro e w' ⟨rfl, hs'⟩; refine a_ret ?_ hs'; clear hs'
  rw [decide_eq_true (rfl : ([[3]] : List (List UInt8)) = [[3]])]
  refine ww ?_
  refine c_cons (s_call (xs := [_]) rfl rfl rfl rfl rfl rfl (by kernel_rfl) (fun w hs => jroom_c jp dp B5 Bj5 D4 hD5 t4.hl J4 hw4.gd _ w _ _ (hj5.up (hGa.trans (hGb.trans hGc))) hs) ?_)
  rw [d3, t4.len, show roomS 20 ((jk [(3 : UInt8)].length : Nat) : Int) = 509 by decide]
  rintro e w' ⟨rfl, hs'⟩; refine a_ret ?_ hs'; clear hs'
  refine ww ?_
  exact f_ret1 rfl rfl (fun w hs => ⟨_, rfl, hG0.trans (hGo.trans (hG1.trans (hG2.trans (hG3.trans (hG4.trans (hG5.trans (hG6.trans (hG7.trans (hG8.trans (hG9.trans (hGa.trans (hGb.trans hGc)))))))))))), hs.sb⟩)
end Go.Proofs.Ytkjneelekfdpfaa
