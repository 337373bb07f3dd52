/- The laws of package journal: JournalFills. -/
import Derived.Test.YtkjneelekfdpfaaJrL0
namespace Go.Proofs.Ytkjneelekfdpfaa
open Go
set_option linter.unusedVariables false
set_option linter.unusedSimpArgs false
set_option maxHeartbeats 3200000
theorem del_add {G : Im} {b : Nat} {o : Obj} (h : G b = none) : Im.del (G.add b o) b = G := by
  funext k
  unfold Im.del Im.add
  by_cases e : k = b
  · rw [if_pos e, e, h]
  · rw [if_neg e, if_neg e]
structure Df where
  i : Nat
  G : Im
  D : Dk
  J : Jn
  B : Hp
  Bj : Hp
  vh : Value
  Bh : Hp
  hv : List (List UInt8)
theorem room_fits {S : Nat} {e : Int} {n : Nat} (he : 0 ≤ e ∧ e ≤ jz S) (hn : n ≤ 300) : ((jk n : Int) ≤ jz S - e → (n : Int) ≤ roomS S e) ∧ (¬ (jk n : Int) ≤ jz S - e → ¬ (n : Int) ≤ roomS S e ∨ (n = 0 ∧ roomS S e = 0)) := by
  have hj : ((jk n : Nat) : Int) = ((n : Int) + 66) / 64 := by unfold jk; omega
  unfold roomS
  rw [hj]
  constructor
  · intro h; omega
  · intro h; omega
attribute [local irreducible] Code.wp wpList stepK Holds Val wpR Eff Eff0 Code.wpIn wpListIn stepI Exit.then Exit.inBlock bodyPost bodyPostM

theorem rowsO_c (va vb : Value) (xs ys : List (List UInt8)) (Bb : Hp) (w0 w : World) (G : Im) (F : Hp) (ha : RowsV G va xs) (hb : RO G vb ys Bb) (hs : Sat w0 w G (Bb ++ F)) :
    Calls Try.prog 15 #[va, vb] w fun e w' => e = .returned (.bool (decide (xs = ys))) ∧ Sat w0 w' G (Bb ++ F) := by
  obtain ⟨vs, ⟨hl, how⟩, hit⟩ := hb
  rcases how with ⟨ad, rfl, h0, rfl⟩ | ⟨bb, c, sl, rfl, hb1, hb2, hb3, rfl⟩
  · have hvs : vs = [] := List.length_eq_zero_iff.1 h0
    subst hvs
    have hys : ys = [] := List.length_eq_zero_iff.1 (by rw [← hit.1]; rfl)
    subst hys
    exact rowsD_c va _ xs [] w0 w G F ha ⟨[], ⟨ad, 0, rfl, Nat.le_refl _, by simp [maxLen], .inl ⟨rfl, fun e => by first | rfl | simp at *⟩⟩, hit⟩ hs
  · have hn : G bb = none := hs.sep (bb, Cs (vs ++ sl) 31) (List.mem_cons_self ..)
    have hle : Im.le G (G.add bb (Cs (vs ++ sl) 31)) := Im.le_add hn
    refine (rowsD_c va _ xs ys w0 w (G.add bb (Cs (vs ++ sl) 31)) F (ha.mono hle) (RwS.sv (Im.add_self _ _ _) ⟨hb2, hb1⟩ (hit.mono hle)) hs.freeze).mono ?_
    rintro e w' ⟨rfl, hs'⟩
    refine ⟨rfl, ?_⟩
    have := hs'.thaw (Im.add_self G bb _)
    rw [del_add hn] at this
    exact this

theorem fills_c (p : UInt8) (vl : Value) (l : List (List UInt8)) (w0 w : World) (G : Im) (F : Hp) (hl : RowsV G vl l) (hs : Sat w0 w G F) :
    Calls Try.prog 5 #[B8 p, vl] w fun e w' => ∃ G', e = .returned (.bool true) ∧ Im.le G G' ∧ Sat w0 w' G' F := by
  obtain ⟨adl, cpl, hvl⟩ := hl.len
  subst hvl
  refine f_enter (vs := [_, _]) Try.func5 rfl Try.ntmps5 (by simp) hs ?_
  refine ww ?_
  refine c_cons (s_call (xs := []) rfl rfl rfl rfl rfl rfl (by kernel_rfl) (fun w hs => awake_c _ w _ _ hs) ?_)
  rintro e w' ⟨G0, rfl, hG0, hs'⟩; refine a_ret ?_ hs'; clear hs'
  refine ww ?_
  refine c_cond_f rfl ?_
  refine ww ?_
  refine c_cons (s_call (xs := [_, _]) rfl rfl rfl rfl rfl rfl (by kernel_rfl) (fun w hs => small_c _ l 300 _ w _ _ (hl.mono hG0) hs) ?_)
  rintro e w' ⟨rfl, hs'⟩; refine a_ret ?_ hs'; clear hs'
  refine ww ?_
  refine c_cond_nd rfl (fun c2 => ?_) (fun c2 => ?_)
  · refine ww ?_
    exact f_ret1 rfl rfl (fun w hs => ⟨G0, rfl, hG0, hs⟩)
  obtain ⟨hl40, hb2⟩ := c2
  refine ww ?_
  refine c_cons (s_val (v_rem rfl rfl (by omega) (by omega)) rfl rfl rfl ?_)
  refine ww ?_
  obtain ⟨S, hS⟩ : ∃ S : Nat, S = 6 + p.toNat % 40 := ⟨_, rfl⟩
  rw [show (6 : Int) + (p.toNat : Int) % 40 = (S : Int) by omega]
  have hS2 : 6 ≤ S ∧ S ≤ 45 := by omega
  refine c_cons (s_call (xs := [_]) rfl rfl rfl rfl rfl rfl (by kernel_rfl) (fun w hs => new_c S (by omega) _ w _ _ hs) ?_)
  rintro e w' ⟨dp, B0, rfl, hD0, hs'⟩; refine a_ret ?_ hs'; clear hs'
  refine ww ?_
  refine c_cons (s_call (xs := [_]) rfl rfl rfl rfl rfl rfl (by kernel_rfl) (fun w hs => format_n dp B0 S (by omega) hD0 _ w _ _ hs) ?_)
  rintro e w' ⟨G1, jp, Bj1, B1, D1, rfl, hG1, hD1, t1, lv1, hj1, hs'⟩; refine a_ret ?_ hs'; clear hs'
  refine ww ?_
  refine c_cond_f rfl ?_
  have hG01 := hG0.trans hG1
  replace hl := hl.mono hG01
  refine wn ?_
  refine c_seq ?_
  refine ww ?_
  refine c_loop (α := Df) (fun x => [(1, .slice adl l.length cpl), (5, Pt dp 0), (7, Pt jp 0), (9, x.vh), (10, I64 (x.i : Int))]) (fun x => x.G) (fun x => x.Bj ++ (x.B ++ (x.Bh ++ F))) (fun x => x.i ≤ l.length ∧ Im.le G1 x.G ∧ DH dp x.D x.B ∧ JH x.G jp dp x.J x.Bj ∧ RO x.G x.vh x.hv x.Bh ∧ Jt (2 * x.i) S x.D x.J ∧ Lv x.D ∧ x.J.rows = x.hv) (fun x => l.length - x.i) ⟨0, G1, D1, J0, B1, Bj1, .slice none 0 0, [], []⟩ ⟨Nat.zero_le _, Im.le_refl _, hD1, hj1, RO.zero _ _, t1, lv1, rfl⟩ ?_ ?_
  · exact n_at ⟨rfl, rfl, rfl, rfl, rfl, trivial⟩ sbx
  rintro ⟨i, Gi, D, J, B, Bj, vh, Bh, hv⟩ ⟨hi, hGi, hD, hj, hro, hJ, hlv, erow⟩
  dsimp only at hi hGi hD hj hro hJ hlv erow ⊢
  have hw := hJ.wj
  refine ww ?_
  refine c_cond_d rfl (fun c5 => ?_) (fun c5 => ?_)
  · have hil : i < l.length := by omega
    have hn8 : 2 * i ≤ 800 := by omega
    obtain ⟨x, hx⟩ : ∃ x, l[i]? = some x := ⟨_, List.getElem?_eq_getElem hil⟩
    have hxb : x.length ≤ 300 := by have := hb2 x (List.mem_of_getElem? hx); omega
    obtain ⟨bl, ol, cl, u, hvl2, hcel, hu0⟩ := hl.row hx
    have hcl : adl = some ⟨bl, ol, none⟩ ∧ cpl = cl := by cases hvl2; exact ⟨rfl, rfl⟩
    obtain ⟨rfl, rfl⟩ := hcl
    have hu1 := hu0.one
    obtain ⟨adu, cpu, rfl⟩ := hu0.form
    have hsm := hJ.sm hn8
    have hfit := room_fits (S := S) (e := J.hd.e) (n := x.length) (by rw [← hJ.len]; exact hJ.st.inv.e) hxb
    refine ww ?_
    refine c_cons (s_call (xs := [_]) rfl rfl rfl rfl rfl rfl (by kernel_rfl) (fun w hs => jroom_c jp dp B Bj D hD hJ.hl J hw.gd _ w _ _ hj hs) ?_)
    rw [hJ.len]
    rintro e w' ⟨rfl, hs'⟩; refine a_ret ?_ hs'; clear hs'
    obtain ⟨rm, hrm⟩ : ∃ rm, rm = roomS S J.hd.e := ⟨_, rfl⟩
    rw [← hrm] at hfit ⊢
    refine ww ?_
    refine c_cons (s_val (v_index1 rfl rfl (by kernel_rfl) (by omega)) rfl rfl rfl ?_)
    refine c_cons (s_val (v_load rfl (hcel _ _ hGi) (by kernel_rfl)) rfl rfl rfl ?_)
    refine c_cons (s_call (xs := [_, _]) rfl rfl rfl rfl rfl rfl (by kernel_rfl) (fun w hs => jappend_c jp dp B Bj D hD hJ.hl J hw _ x (by omega) hsm.1 hsm.2 _ w _ _ hj (hu0.up hGi) hs) ?_)
    by_cases hk : (jk x.length : Int) ≤ jz S - J.hd.e
    · obtain ⟨a1, t2, lv2, a2, a3⟩ := hJ.app_y hlv hn8 x (by omega) hk
      have hle := hfit.1 hk
      rw [erow] at a2
      rw [a1]
      generalize (appS D J x).1 = D2 at t2 lv2 ⊢
      generalize appJ D J x = J2 at t2 a2 a3 ⊢
      rintro e w' ⟨G2, B2, Bj2, hG2, rfl, hD2, hj2, hs'⟩; refine a_ret ?_ hs'; clear hs'
      have hGi2 := hGi.trans hG2
      have hu : SV G2 [] (.slice adu x.length cpu) x.length (x.map B8) := hu0.up hGi2
      obtain ⟨vs, how, hit⟩ := hro.up hG2
      have hvsl := hit.1
      have hvl3 : hv.length ≤ 100000 := by rw [← erow]; exact hw.n
      refine ww ?_
      refine c_cons (s_val (v_index1 rfl rfl (by kernel_rfl) (by omega)) rfl rfl rfl ?_)
      refine c_cons (s_val (v_load rfl (hcel _ _ hGi2) (by kernel_rfl)) rfl rfl rfl ?_)
      refine ww ?_
      rw [decide_eq_true hle]
      refine c_cons (s_val (v_neb rfl rfl (by kernel_rfl)) rfl rfl rfl ?_)
      refine ww ?_
      refine c_cond_f rfl ?_
      refine ww ?_
      refine c_cond_t rfl ?_
      refine ww ?_
      refine c_cons (s_val (v_index1 rfl rfl (by kernel_rfl) (by omega)) rfl rfl rfl ?_)
      refine c_cons (s_val (v_load rfl (hcel _ _ hGi2) (by kernel_rfl)) rfl rfl rfl ?_)
      refine c_cons (s_lit (z := .slice none 0 0) (bs := 24) (e := 31) [_] (by kernel_rfl) rfl rfl rfl rfl (by simp [Value.oneCell']) rfl (by decide) fun b1 => ?_)
      refine c_sub ((b1, Cs [.slice adu x.length cpu] 31) :: (Bh ++ (Bj2 ++ (B2 ++ F)))) sbx ?_
      refine c_cons (s_append (e := 31) (z := .slice none 0 0) (sz := 1) (bs := 24) (by kernel_rfl) rfl rfl rfl rfl how (Chunk.tail Chunk.head) (SV.block .head (by simp [maxLen])) rfl (by decide) rfl (by simp [Value.oneCell']) (by simp; omega) (by simp; omega) fun u7 B7 ho7 => ?_)
      have hro7 : RO G2 u7 (hv ++ [x]) B7 := ⟨vs ++ [.slice adu x.length cpu], by rw [List.length_append]; exact ho7, hit.snoc hu⟩
      refine c_sub (Bj2 ++ (B2 ++ (B7 ++ F))) sbx ?_
      refine ww ?_
      refine c_cond_f rfl ?_
      refine ww ?_
      have hw2 := t2.wj
      refine c_cons (s_call (xs := [_]) rfl rfl rfl rfl rfl rfl (by kernel_rfl) (fun w hs => jall_c jp dp Bj2 J2 hw2.n hw2.r _ w _ _ hj2 hs) ?_)
      rintro e w' ⟨G8, u8', rfl, hG8, hu8, hs'⟩; refine a_ret ?_ hs'; clear hs'
      refine ww ?_
      refine c_sub (B7 ++ (Bj2 ++ (B2 ++ F))) sbx ?_
      refine c_cons (s_call (xs := [_, _]) rfl rfl rfl rfl rfl rfl (by kernel_rfl) (fun w hs => rowsO_c _ _ J2.rows (hv ++ [x]) B7 _ w _ _ hu8 (hro7.up hG8) hs) ?_)
      rintro e w' ⟨rfl, hs'⟩; refine a_ret ?_ hs'; clear hs'
      rw [decide_eq_true a2]
      refine ww ?_
      refine c_cond_f rfl ?_
      refine ww ?_
      exact n_next (x := (⟨i, Gi, D, J, B, Bj, vh, Bh, hv⟩ : Df)) ⟨i + 1, G8, D2, J2, B2, Bj2, u7, B7, hv ++ [x]⟩ ⟨hil, hGi2.trans hG8, hD2, hj2.up hG8, hro7.up hG8, t2.up (by dsimp only; omega), lv2, a2⟩ (by dsimp only; omega) ⟨rfl, rfl, rfl, rfl, rfl, trivial⟩ rfl sbx
    obtain ⟨e1, e2⟩ := hJ.app_n hn8 x (by omega) hk
    rw [show (appS D J x).2 = 5 by rw [e1], show (appS D J x).1 = D by rw [e1], e2]
    rintro e w' ⟨G2, B2, Bj2, hG2, rfl, hD2, hj2, hs'⟩; refine a_ret ?_ hs'; clear hs'
    have hGi2 := hGi.trans hG2
    have hu : SV G2 [] (.slice adu x.length cpu) x.length (x.map B8) := hu0.up hGi2
    have hro2 := hro.up hG2
    refine wn ?_
    refine c_cut (α := Unit) (fun _ => [(1, .slice (some ⟨bl, ol, none⟩) l.length cpl), (5, Pt dp 0), (7, Pt jp 0), (9, vh), (10, I64 (i : Int)), (12, I64 5)]) (fun _ => G2) (fun _ => Bj2 ++ (B2 ++ (Bh ++ F))) (fun _ => True) ?_ ?_
    · refine ww ?_
      refine c_cons (s_val (v_index1 rfl rfl (by kernel_rfl) (by omega)) rfl rfl rfl ?_)
      refine c_cons (s_val (v_load rfl (hcel _ _ hGi2) (by kernel_rfl)) rfl rfl rfl ?_)
      refine ww ?_
      rcases hfit.2 hk with hno | ⟨hx0, hr0⟩
      · rw [decide_eq_false hno]
        refine c_cons (s_val (v_neb rfl rfl (by kernel_rfl)) rfl rfl rfl ?_)
        refine ww ?_
        refine c_cond_f rfl ?_
        refine ww ?_
        exact n_mid () trivial ⟨rfl, rfl, rfl, rfl, rfl, rfl, trivial⟩ rfl sbx
      · rw [decide_eq_true (show ((x.length : Nat) : Int) ≤ rm by omega)]
        refine c_cons (s_val (v_neb rfl rfl (by kernel_rfl)) rfl rfl rfl ?_)
        refine ww ?_
        refine c_cons (s_val (v_index1 rfl rfl (by kernel_rfl) (by omega)) rfl rfl rfl ?_)
        refine c_cons (s_val (v_load rfl (hcel _ _ hGi2) (by kernel_rfl)) rfl rfl rfl ?_)
        refine ww ?_
        refine c_kt 70 rfl (show ((x.length : Nat) : Int) = 0 by omega) ?_
        refine ww ?_
        refine c_part_nd 76 _ rfl (fun c => absurd hr0 c) (fun _ => ?_)
        refine ww ?_
        refine c_cond_f rfl ?_
        refine ww ?_
        exact n_mid () trivial ⟨rfl, rfl, rfl, rfl, rfl, rfl, trivial⟩ rfl sbx
    rintro _ _
    refine ww ?_
    refine c_cond_f rfl ?_
    refine ww ?_
    refine c_cons (s_val (v_index1 rfl rfl (by kernel_rfl) (by omega)) rfl rfl rfl ?_)
    refine c_cons (s_val (v_load rfl (hcel _ _ hGi2) (by kernel_rfl)) rfl rfl rfl ?_)
    refine c_cons (s_call (xs := [_, _]) rfl rfl rfl rfl rfl rfl (by kernel_rfl) (fun w hs => jreset_c jp dp B2 Bj2 D hD2 hJ.hl J hw _ x (by omega) hsm.1 hsm.2 _ w _ _ hj2 hu hs) ?_)
    by_cases hk2 : (jk x.length : Int) ≤ jz S
    · obtain ⟨d1, t4, lv4, d2, d3⟩ := hJ.rst_y hlv hn8 x (by omega) hk2
      rw [d1]
      generalize (rstS D J x).1 = D4 at t4 lv4 ⊢
      generalize rstJ D J x = J4 at t4 d2 d3 ⊢
      rintro e w' ⟨G4, B4, Bj4, hG4, rfl, hD4, hj4, hs'⟩; refine a_ret ?_ hs'; clear hs'
      have hGi4 := hGi2.trans hG4
      refine ww ?_
      refine c_cond_t rfl ?_
      refine ww ?_
      refine c_cons (s_val (v_index1 rfl rfl (by kernel_rfl) (by omega)) rfl rfl rfl ?_)
      refine c_cons (s_val (v_load rfl (hcel _ _ hGi4) (by kernel_rfl)) rfl rfl rfl ?_)
      refine c_cons (s_lit (z := .slice none 0 0) (bs := 24) (e := 31) [_] (by kernel_rfl) rfl rfl rfl rfl (by simp [Value.oneCell']) rfl (by decide) fun b1 => ?_)
      have hro5 : RO G4 (Sl b1 0 1 1) [x] [(b1, Cs [.slice adu x.length cpu] 31)] := ⟨[.slice adu x.length cpu], Own.full rfl (by simp [maxLen]), (Items.zero G4).snoc (hu.up hG4)⟩
      refine c_sub (Bj4 ++ (B4 ++ ([(b1, Cs [.slice adu x.length cpu] 31)] ++ F))) sbx ?_
      refine ww ?_
      have hw4 := t4.wj
      refine c_cons (s_call (xs := [_]) rfl rfl rfl rfl rfl rfl (by kernel_rfl) (fun w hs => jall_c jp dp Bj4 J4 hw4.n hw4.r _ w _ _ hj4 hs) ?_)
      rintro e w' ⟨G8, u8', rfl, hG8, hu8, hs'⟩; refine a_ret ?_ hs'; clear hs'
      refine ww ?_
      refine c_sub ([(b1, Cs [.slice adu x.length cpu] 31)] ++ (Bj4 ++ (B4 ++ F))) sbx ?_
      refine c_cons (s_call (xs := [_, _]) rfl rfl rfl rfl rfl rfl (by kernel_rfl) (fun w hs => rowsO_c _ _ J4.rows [x] [(b1, Cs [.slice adu x.length cpu] 31)] _ w _ _ hu8 (hro5.up hG8) hs) ?_)
      rintro e w' ⟨rfl, hs'⟩; refine a_ret ?_ hs'; clear hs'
      rw [decide_eq_true d2]
      refine ww ?_
      refine c_cond_f rfl ?_
      refine ww ?_
      exact n_next (x := (⟨i, Gi, D, J, B, Bj, vh, Bh, hv⟩ : Df)) ⟨i + 1, G8, D4, J4, B4, Bj4, Sl b1 0 1 1, [(b1, Cs [.slice adu x.length cpu] 31)], [x]⟩ ⟨hil, hGi4.trans hG8, hD4, hj4.up hG8, hro5.up hG8, t4.up (by dsimp only; omega), lv4, d2⟩ (by dsimp only; omega) ⟨rfl, rfl, rfl, rfl, rfl, trivial⟩ rfl sbx
    obtain ⟨d1, d2⟩ := hJ.rst_n hn8 x (by omega) hk2
    rw [show (rstS D J x).2 = 5 by rw [d1], show (rstS D J x).1 = D by rw [d1], d2]
    rintro e w' ⟨G4, B4, Bj4, hG4, rfl, hD4, hj4, hs'⟩; refine a_ret ?_ hs'; clear hs'
    have hGi4 := hGi2.trans hG4
    refine ww ?_
    refine c_cond_f rfl ?_
    refine ww ?_
    refine c_cons (s_call (xs := [_]) rfl rfl rfl rfl rfl rfl (by kernel_rfl) (fun w hs => jall_c jp dp Bj4 J hw.n hw.r _ w _ _ hj4 hs) ?_)
    rintro e w' ⟨G8, u8', rfl, hG8, hu8, hs'⟩; refine a_ret ?_ hs'; clear hs'
    refine ww ?_
    refine c_sub (Bh ++ (Bj4 ++ (B4 ++ F))) sbx ?_
    refine c_cons (s_call (xs := [_, _]) rfl rfl rfl rfl rfl rfl (by kernel_rfl) (fun w hs => rowsO_c _ _ J.rows hv Bh _ w _ _ hu8 (hro2.up (hG4.trans hG8)) hs) ?_)
    rintro e w' ⟨rfl, hs'⟩; refine a_ret ?_ hs'; clear hs'
    rw [decide_eq_true erow]
    refine ww ?_
    refine c_cond_f rfl ?_
    refine ww ?_
    exact n_next (x := (⟨i, Gi, D, J, B, Bj, vh, Bh, hv⟩ : Df)) ⟨i + 1, G8, D, J, B4, Bj4, vh, Bh, hv⟩ ⟨hil, hGi4.trans hG8, hD4, hj4.up hG8, hro2.up (hG4.trans hG8), hJ.up (by dsimp only; omega), hlv, erow⟩ (by dsimp only; omega) ⟨rfl, rfl, rfl, rfl, rfl, trivial⟩ rfl sbx
  refine c_sub (B ++ (Bj ++ (Bh ++ F))) sbx ?_
  refine ww ?_
  refine c_cons (s_lit (z := B8 0) (bs := 1) (e := 5) [_] (by kernel_rfl) rfl rfl rfl rfl (by simp [Value.oneCell']) rfl (by decide) fun b3 => ?_)
  refine c_freeze .head fun G6 hG6 k6 => ?_
  refine c_cons (s_call (xs := [_, _]) rfl rfl rfl rfl rfl rfl (by kernel_rfl) (fun w hs => crash_c dp B D hD _ [0] _ w _ _ (SV.block (.of_imm k6) (by simp [maxLen])) hs) ?_)
  rintro e w' ⟨cp, C1, rfl, hC1, hs'⟩; refine a_ret ?_ hs'; clear hs'
  have t4 := hJ.crash [0]
  generalize crashS D [0] = D4 at t4 hC1
  refine c_cons (s_call (xs := [_]) rfl rfl rfl rfl rfl rfl (by kernel_rfl) (fun w hs => open_y cp C1 D4 hC1 t4 _ w _ _ hs) ?_)
  rintro e w' ⟨G7, jq, Bj4, rfl, hG7, hj4, hs'⟩; refine a_ret ?_ hs'; clear hs'
  refine ww ?_
  refine c_kt 123 rfl (by decide) ?_
  refine ww ?_
  have hw4 := t4.wj
  refine c_cons (s_call (xs := [_]) rfl rfl rfl rfl rfl rfl (by kernel_rfl) (fun w hs => jall_c jq cp Bj4 J hw4.n hw4.r _ w _ _ hj4 hs) ?_)
  rintro e w' ⟨G8, u8', rfl, hG8, hu8, hs'⟩; refine a_ret ?_ hs'; clear hs'
  have hGz := hG6.trans (hG7.trans hG8)
  refine ww ?_
  refine c_sub (Bh ++ (Bj4 ++ (C1 ++ (B ++ (Bj ++ F))))) sbx ?_
  refine c_cons (s_call (xs := [_, _]) rfl rfl rfl rfl rfl rfl (by kernel_rfl) (fun w hs => rowsO_c _ _ J.rows hv Bh _ w _ _ hu8 (hro.up hGz) hs) ?_)
  rintro e w' ⟨rfl, hs'⟩; refine a_ret ?_ hs'; clear hs'
  rw [decide_eq_true erow]
  refine c_sub (Bj4 ++ (C1 ++ (B ++ (Bj ++ F)))) sbx ?_
  refine ww ?_
  refine c_cons (s_call (xs := [_]) rfl rfl rfl rfl rfl rfl (by kernel_rfl) (fun w hs => jroom_c jq cp C1 Bj4 D4 hC1 t4.hl J hw4.gd _ w _ _ (hj4.up hG8) hs) ?_)
  rintro e w' ⟨rfl, hs'⟩; refine a_ret ?_ hs'; clear hs'
  refine ww ?_
  refine c_sub (Bj ++ (B ++ F)) sbx ?_
  refine c_cons (s_call (xs := [_]) rfl rfl rfl rfl rfl rfl (by kernel_rfl) (fun w hs => jroom_c jp dp B Bj D hD hJ.hl J hw.gd _ w _ _ (hj.up hGz) hs) ?_)
  rw [t4.len, hJ.len]
  rintro e w' ⟨rfl, hs'⟩; refine a_ret ?_ hs'; clear hs'
  refine ww ?_
  refine f_ret1 rfl rfl (fun w hs => ⟨_, ?_, hG01.trans (hGi.trans hGz), hs.sb⟩)
  simp
end Go.Proofs.Ytkjneelekfdpfaa
