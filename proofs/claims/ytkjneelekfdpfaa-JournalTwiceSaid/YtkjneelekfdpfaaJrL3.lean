/- The laws of package journal: JournalTwice. -/
import Derived.Test.YtkjneelekfdpfaaJrL2
namespace Go.Proofs.Ytkjneelekfdpfaa
open Go
set_option linter.unusedVariables false
set_option linter.unusedSimpArgs false
set_option maxHeartbeats 3200000
structure Dt where
  r : Nat
  G : Im
  D : Dk
  J : Jn
  B : Hp
  Bj : Hp
  vh : Value
  hv : List (List UInt8)
  dp : Nat
  jp : Nat
attribute [local irreducible] Code.wp wpList stepK Holds Val wpR Eff Eff0 Code.wpIn wpListIn stepI Exit.then Exit.inBlock bodyPost bodyPostM

theorem twice_c (vl vf vch : Value) (l : List Jd) (fs ch : List UInt8) (w0 w : World) (G : Im) (F : Hp) (hl : RecV 3 JdR G vl l) (hfs : SV G [] vf fs.length (fs.map B8)) (hch : SV G [] vch ch.length (ch.map B8)) (hs : Sat w0 w G F) :
    Calls Try.prog 6 #[vl, vf, vch] w fun e w' => ∃ G', e = .returned (.bool true) ∧ Im.le G G' ∧ Sat w0 w' G' F := by
  obtain ⟨adl, cpl, hvl, hl1, hl2⟩ := hl.form
  unfold maxLen at hl2
  obtain ⟨adc, cpc, hvc⟩ := hch.form
  obtain ⟨adf, cpf, hvf⟩ := hfs.form
  subst hvl hvc hvf
  refine f_enter (vs := [_, _, _]) Try.func6 rfl Try.ntmps6 (by simp) hs ?_
  refine ww ?_
  refine c_cons (s_call (xs := []) rfl rfl rfl rfl rfl rfl (by kernel_rfl) (fun w hs => awake_c _ w _ _ hs) ?_)
  rintro e w' ⟨G0, rfl, hG0, hs'⟩; refine a_ret ?_ hs'; clear hs'
  refine ww ?_
  refine c_cond_f rfl ?_
  refine ww ?_
  refine c_cons (s_call (xs := [_, _]) rfl rfl rfl rfl rfl rfl (by kernel_rfl) (fun w hs => room_c _ l 40 _ w _ _ (hl.up JdR.up hG0) hs) ?_)
  rintro e w' ⟨rfl, hs'⟩; refine a_ret ?_ hs'; clear hs'
  refine ww ?_
  refine c_part_nd 23 _ rfl (fun c2 => ?_) (fun c2 => ?_)
  · refine ww ?_
    refine c_cond_t rfl ?_
    refine ww ?_
    exact f_ret1 rfl rfl (fun w hs => ⟨G0, rfl, hG0, hs⟩)
  obtain ⟨hl40, hb2⟩ := c2
  refine ww ?_
  refine c_part_d 28 _ rfl (fun c3 => ?_) (fun c3 => ?_)
  · refine ww ?_
    refine c_cond_t rfl ?_
    refine ww ?_
    exact f_ret1 rfl rfl (fun w hs => ⟨G0, rfl, hG0, hs⟩)
  refine ww ?_
  refine c_cond_d rfl (fun c4 => ?_) (fun c4 => ?_)
  · refine ww ?_
    exact f_ret1 rfl rfl (fun w hs => ⟨G0, rfl, hG0, hs⟩)
  refine ww ?_
  refine c_cons (s_call (xs := [_]) rfl rfl rfl rfl rfl rfl (by kernel_rfl) (fun w hs => new_c 40 (by decide) _ w _ _ hs) ?_)
  rintro e w' ⟨dp, B0, rfl, hD0, hs'⟩; refine a_ret ?_ hs'; clear hs'
  refine ww ?_
  refine c_cons (s_call (xs := [_]) rfl rfl rfl rfl rfl rfl (by kernel_rfl) (fun w hs => format_n dp B0 40 (by decide) hD0 _ w _ _ hs) ?_)
  rintro e w' ⟨G1, jp, Bj1, B1, D1, rfl, hG1, hD1, t1, lv1, hj1, hs'⟩; refine a_ret ?_ hs'; clear hs'
  refine ww ?_
  refine c_cond_f rfl ?_
  have hG01 := hG0.trans hG1
  replace hl := hl.up JdR.up hG01
  replace hch := hch.up (H := []) hG01
  replace hfs := hfs.up (H := []) hG01
  have hlN : l.length ≤ 40 := by omega
  refine ww ?_
  refine c_loop (α := Dt) (fun x => [(0, .slice adl l.length cpl), (1, .slice adf fs.length cpf), (2, .slice adc ch.length cpc), (7, Pt x.dp 0), (9, Pt x.jp 0), (11, x.vh), (12, I64 (x.r : Int))]) (fun x => x.G) (fun x => x.Bj ++ (x.B ++ F)) (fun x => x.r ≤ fs.length ∧ Im.le G1 x.G ∧ DH x.dp x.D x.B ∧ JH x.G x.jp x.dp x.J x.Bj ∧ RowsV x.G x.vh x.hv ∧ Jt (x.r * 40) 40 x.D x.J ∧ x.J.rows = x.hv) (fun x => fs.length - x.r) ⟨0, G1, D1, J0, B1, Bj1, .slice none 0 0, [], dp, jp⟩ ⟨Nat.zero_le _, Im.le_refl _, hD1, hj1, RowsV.nil _, t1.up (Nat.zero_le _), rfl⟩ ?_ ?_
  · exact n_at ⟨rfl, rfl, rfl, rfl, rfl, rfl, rfl, trivial⟩ sbx
  rintro ⟨r, Gr, Dr, Jr, Br, Bjr, vhr, hvr, dp, jp⟩ ⟨hr6, hGr, hDr, hjr, hrhr, tr, erowr⟩
  dsimp only at hr6 hGr hDr hjr hrhr tr erowr ⊢
  refine ww ?_
  refine c_cond_d rfl (fun c7 => ?_) (fun c7 => ?_)
  rotate_left
  · refine ww ?_
    exact f_ret1 rfl rfl (fun w hs => ⟨_, rfl, hG01.trans hGr, hs.sb⟩)
  have hrf : r < fs.length := by omega
  obtain ⟨bf, of', cf, hvf, hcf⟩ := hfs.bytes (by omega)
  have hcf2 : adf = some ⟨bf, of', none⟩ ∧ cpf = cf := by cases hvf; exact ⟨rfl, rfl⟩
  obtain ⟨rfl, rfl⟩ := hcf2
  obtain ⟨p, hp⟩ : ∃ p, fs[r]? = some p := ⟨_, List.getElem?_eq_getElem hrf⟩
  have hcp := (hcf r (B8 p) (by rw [List.getElem?_map, hp]; rfl))
  have hm : bits .and .i64 (p.toNat : Int) 31 ≤ 31 := (and_mask (p.toNat : Int) 31 (by decide)).2
  refine c_sub (Br ++ (Bjr ++ F)) sbx ?_
  refine ww ?_
  refine c_cons (s_val (v_index1 rfl rfl (by kernel_rfl) (by omega)) rfl rfl rfl ?_)
  refine c_cons (s_val (v_load rfl (by rw [Int.toNat_natCast]; exact hcp.mono hGr (fun _ hp => by cases hp)) (by kernel_rfl)) rfl rfl rfl ?_)
  refine ww ?_
  refine c_cons (s_val (v_andI rfl rfl) rfl rfl rfl ?_)
  refine c_cons (s_call (xs := [_, _]) rfl rfl rfl rfl rfl rfl (by kernel_rfl) (fun w hs => fuseH_c dp Br Dr hDr _ (by omega) _ w _ _ hs) ?_)
  rintro e w' ⟨B2, rfl, hD2, hs'⟩; refine a_ret ?_ hs'; clear hs'
  have t2 := tr.fuse (bits .and .i64 (p.toNat : Int) 31)
  generalize fuseS Dr (bits .and .i64 (p.toNat : Int) 31) = D2 at t2 hD2
  refine wn ?_
  refine c_seq ?_
  refine wn ?_
  refine c_seq ?_
  refine wn ?_
  refine c_cut (α := Ds) (fun x => [(0, .slice adl l.length cpl), (1, .slice (some ⟨bf, of', none⟩) fs.length cpf), (2, .slice adc ch.length cpc), (7, Pt dp 0), (11, x.vh), (12, I64 (r : Int)), (13, x.vn), (14, .bool x.op)]) (fun x => x.G) (fun x => x.B ++ F) (fun x => Im.le Gr x.G ∧ DH dp x.D x.B ∧ RowsV x.G x.vh x.hv ∧ RowsV x.G x.vn x.nx ∧ At (r * 40 + 40) 40 x.D x.J x.hv x.nx x.op) ?_ ?_
  · -- the loop
    refine ww ?_
    refine c_loop (α := Ds) (fun x => [(0, .slice adl l.length cpl), (1, .slice (some ⟨bf, of', none⟩) fs.length cpf), (2, .slice adc ch.length cpc), (7, Pt dp 0), (9, Pt jp 0), (11, x.vh), (12, I64 (r : Int)), (13, x.vn), (14, .bool x.op), (15, I64 (x.i : Int))]) (fun x => x.G) (fun x => x.Bj ++ (x.B ++ F)) (fun x => x.i ≤ l.length ∧ Im.le Gr x.G ∧ DH dp x.D x.B ∧ JH x.G jp dp x.J x.Bj ∧ RowsV x.G x.vh x.hv ∧ RowsV x.G x.vn x.nx ∧ At (r * 40 + x.i) 40 x.D x.J x.hv x.nx x.op) (fun x => l.length - x.i) ⟨0, Gr, D2, Jr, B2, Bjr, vhr, .slice none 0 0, false, hvr, []⟩ ⟨Nat.zero_le _, Im.le_refl _, hD2, hjr, hrhr, RowsV.nil _, erowr, .inl ⟨t2, rfl⟩⟩ ?_ ?_
    · exact n_at ⟨rfl, rfl, rfl, rfl, rfl, rfl, rfl, rfl, rfl, rfl, trivial⟩ sbx
    rintro ⟨i, Gi, D, J, B, Bj, vh, vn, op, hv, nx⟩ ⟨hi, hGi, hD, hj, hrh, hrn, hat⟩
    dsimp only at hi hGi hD hj hrh hrn hat ⊢
    refine ww ?_
    refine c_part_d 66 _ rfl (fun c6 => ?_) (fun c6 => ?_)
    rotate_left
    · refine ww ?_
      refine c_cond_f rfl ?_
      refine ww ?_
      exact n_mid ⟨i, Gi, D, J, B, Bj, vh, vn, op, hv, nx⟩ ⟨hGi, hD, hrh, hrn, hat.up (by omega)⟩ ⟨rfl, rfl, rfl, rfl, rfl, rfl, rfl, rfl, trivial⟩ rfl sbx
    refine c_sub (B ++ (Bj ++ F)) sbx ?_
    refine ww ?_
    refine c_cons (s_call (xs := [_]) rfl rfl rfl rfl rfl rfl (by kernel_rfl) (fun w hs => deadH_c dp B D hD _ w _ _ hs) ?_)
    rintro e w' ⟨rfl, hs'⟩; refine a_ret ?_ hs'; clear hs'
    have hil : i < l.length := by omega
    obtain ⟨erow, hcase⟩ := hat
    rcases hcase with ⟨hJ, rfl⟩ | ⟨J', hTd, hnx, rfl⟩
    rotate_left
    · rw [hTd.dead]
      refine ww ?_
      refine c_cond_f rfl ?_
      refine ww ?_
      exact n_mid ⟨i, Gi, D, J, B, Bj, vh, vn, true, hv, nx⟩ ⟨hGi, hD, hrh, hrn, (show At (r * 40 + i) 40 D J hv nx true from ⟨erow, .inr ⟨J', hTd, hnx, rfl⟩⟩).up (by omega)⟩ ⟨rfl, rfl, rfl, rfl, rfl, rfl, rfl, rfl, trivial⟩ rfl sbx
    have hhl : hv.length ≤ 100000 := by rw [← erow]; exact hJ.wj.n
    have hn8 : r * 40 + i ≤ 800 := by omega
    rw [hJ.st.live]
    refine c_sub (Bj ++ (B ++ F)) sbx ?_
    refine ww ?_
    refine c_cond_t rfl ?_
    obtain ⟨x, hx⟩ : ∃ x, l[i]? = some x := ⟨_, List.getElem?_eq_getElem hil⟩
    have hxb : x.b.length ≤ 2000 := hb2 x (List.mem_of_getElem? hx)
    obtain ⟨bl, ol, cl, u, hvl2, hu0, hcel⟩ := Jd.at hl hx
    have hcl : adl = some ⟨bl, ol, none⟩ ∧ cpl = cl := by cases hvl2; exact ⟨rfl, rfl⟩
    obtain ⟨rfl, rfl⟩ := hcl
    have hGri := hGr.trans hGi
    have hu : SV Gi [] u x.b.length (x.b.map B8) := hu0.up hGri
    refine wn ?_
    refine c_seq ?_
    refine wn ?_
    -- to
    refine c_cut (α := Im × Value) (fun y => [(0, .slice (some ⟨bl, ol, none⟩) l.length cpl), (1, .slice (some ⟨bf, of', none⟩) fs.length cpf), (2, .slice adc ch.length cpc), (7, Pt dp 0), (9, Pt jp 0), (11, vh), (12, I64 (r : Int)), (13, vn), (14, .bool false), (15, I64 (i : Int)), (16, y.2)]) (fun y => y.1) (fun y => Bj ++ (B ++ F)) (fun y => Im.le Gi y.1 ∧ RowsV y.1 y.2 (hv ++ [x.b])) ?_ ?_
    · obtain ⟨vs, hsvh, hith⟩ := id hrh
      have hvsl := hith.1
      refine ww ?_
      refine r_startS [] [] (by kernel_rfl) (fun w h => h.none) ?_
      refine r_tk 1 rfl rfl (v_move rfl) (fun _ h => h.none) ?_
      refine r_tk 3 rfl rfl (v_move rfl) (fun _ h => h.none) ?_
      refine r_tk 4 rfl rfl (v_move rfl) (fun _ h => h.none) ?_
      refine r_tk 5 rfl rfl (v_index 3 rfl rfl (by kernel_rfl) (by omega)) (fun _ h => h.none) ?_
      refine r_tk 6 rfl rfl (v_field 2 rfl (by kernel_rfl)) (fun _ h => h.none) ?_
      refine r_tk 7 rfl rfl (v_load rfl (hcel _ _ 2 _ hGri rfl) (by kernel_rfl)) (fun _ h => h.none) ?_
      refine r_two 0 8 (by kernel_rfl) rfl rfl ?_ ?_
      · refine s_lit0 (e := 31) (z := .slice none 0 0) (sz := 1) (bs := 24) (by kernel_rfl) rfl rfl fun b2 => ?_
        refine r_next (fun w h => h.none) ?_
        refine r_two 2 8 (by kernel_rfl) rfl rfl ?_ ?_
        · refine s_append (e := 31) (z := .slice none 0 0) (sz := 1) (bs := 24) (by kernel_rfl) rfl rfl rfl rfl (Own.full (L := []) (k := 0) rfl (Nat.zero_le _)) Chunk.one (hsvh.mono (Im.le_refl _) (by simp)) rfl (by decide) (by omega) hith.one (by simp; omega) (by simp; omega) fun u3 B3 ho3 => ?_
          refine c_sub (B3 ++ (Bj ++ (B ++ F))) sbx ?_
          refine r_next (fun w h => h.none) ?_
          refine r_one 8 (by kernel_rfl) rfl ?_
          refine s_lit (z := .slice none 0 0) (bs := 24) (e := 31) [_] (by kernel_rfl) rfl rfl rfl rfl (by simpa using hu.one) rfl (by decide) fun b4 => ?_
          refine r_next (fun w h => h.none) ?_
          refine r_one 9 (by kernel_rfl) rfl ?_
          refine c_sub ((b4, Cs [u] 31) :: (B3 ++ (Bj ++ (B ++ F)))) sbx ?_
          refine s_append (e := 31) (z := .slice none 0 0) (sz := 1) (bs := 24) (by kernel_rfl) rfl rfl rfl rfl ho3 (Chunk.tail Chunk.head) (SV.block .head (by simp [maxLen])) rfl (by decide) rfl (by simpa using hu.one) (by simp; omega) (by simp; omega) fun u5 B5 ho5 => ?_
          refine c_sub (B5 ++ (Bj ++ (B ++ F))) sbx ?_
          refine r_next (fun w h => h.none) ?_
          refine r_tk 10 rfl rfl (v_assign rfl) (fun _ h => h.none) ?_
          refine r_done (by kernel_rfl) ?_
          refine ww ?_
          refine (to_ro ho5 hith hu).freeze Chunk.head fun G7 hG7 hto => ?_
          exact n_mid (G7, u5) ⟨hG7, hto⟩ ⟨rfl, rfl, rfl, rfl, rfl, rfl, rfl, rfl, rfl, rfl, rfl, trivial⟩ rfl sbx
        · refine s_lit (z := .slice none 0 0) (bs := 24) (e := 31) [_] (by kernel_rfl) rfl rfl rfl rfl (by simpa using hu.one) rfl (by decide) fun b4 => ?_
          refine r_next (fun w h => h.none) ?_
          refine c_sub ((b2, Cs [] 31) :: (b4, Cs [u] 31) :: (Bj ++ (B ++ F))) sbx ?_
          refine r_one 2 (by kernel_rfl) rfl ?_
          refine s_append (e := 31) (z := .slice none 0 0) (sz := 1) (bs := 24) (by kernel_rfl) rfl rfl rfl rfl (Own.full (L := []) (k := 0) rfl (Nat.zero_le _)) Chunk.one (hsvh.mono (Im.le_refl _) (by simp)) rfl (by decide) (by omega) hith.one (by simp; omega) (by simp; omega) fun u3 B3 ho3 => ?_
          refine r_next (fun w h => h.none) ?_
          refine r_one 9 (by kernel_rfl) rfl ?_
          refine c_sub ((b4, Cs [u] 31) :: (B3 ++ (Bj ++ (B ++ F)))) sbx ?_
          refine s_append (e := 31) (z := .slice none 0 0) (sz := 1) (bs := 24) (by kernel_rfl) rfl rfl rfl rfl ho3 (Chunk.tail Chunk.head) (SV.block .head (by simp [maxLen])) rfl (by decide) rfl (by simpa using hu.one) (by simp; omega) (by simp; omega) fun u5 B5 ho5 => ?_
          refine c_sub (B5 ++ (Bj ++ (B ++ F))) sbx ?_
          refine r_next (fun w h => h.none) ?_
          refine r_tk 10 rfl rfl (v_assign rfl) (fun _ h => h.none) ?_
          refine r_done (by kernel_rfl) ?_
          refine ww ?_
          refine (to_ro ho5 hith hu).freeze Chunk.head fun G7 hG7 hto => ?_
          exact n_mid (G7, u5) ⟨hG7, hto⟩ ⟨rfl, rfl, rfl, rfl, rfl, rfl, rfl, rfl, rfl, rfl, rfl, trivial⟩ rfl sbx
      · refine s_lit (z := .slice none 0 0) (bs := 24) (e := 31) [_] (by kernel_rfl) rfl rfl rfl rfl (by simpa using hu.one) rfl (by decide) fun b4 => ?_
        refine r_next (fun w h => h.none) ?_
        refine r_one 0 (by kernel_rfl) rfl ?_
        refine s_lit0 (e := 31) (z := .slice none 0 0) (sz := 1) (bs := 24) (by kernel_rfl) rfl rfl fun b2 => ?_
        refine r_next (fun w h => h.none) ?_
        refine r_one 2 (by kernel_rfl) rfl ?_
        refine s_append (e := 31) (z := .slice none 0 0) (sz := 1) (bs := 24) (by kernel_rfl) rfl rfl rfl rfl (Own.full (L := []) (k := 0) rfl (Nat.zero_le _)) Chunk.one (hsvh.mono (Im.le_refl _) (by simp)) rfl (by decide) (by omega) hith.one (by simp; omega) (by simp; omega) fun u3 B3 ho3 => ?_
        refine r_next (fun w h => h.none) ?_
        refine r_one 9 (by kernel_rfl) rfl ?_
        refine c_sub ((b4, Cs [u] 31) :: (B3 ++ (Bj ++ (B ++ F)))) sbx ?_
        refine s_append (e := 31) (z := .slice none 0 0) (sz := 1) (bs := 24) (by kernel_rfl) rfl rfl rfl rfl ho3 (Chunk.tail Chunk.head) (SV.block .head (by simp [maxLen])) rfl (by decide) rfl (by simpa using hu.one) (by simp; omega) (by simp; omega) fun u5 B5 ho5 => ?_
        refine c_sub (B5 ++ (Bj ++ (B ++ F))) sbx ?_
        refine r_next (fun w h => h.none) ?_
        refine r_tk 10 rfl rfl (v_assign rfl) (fun _ h => h.none) ?_
        refine r_done (by kernel_rfl) ?_
        refine ww ?_
        refine (to_ro ho5 hith hu).freeze Chunk.head fun G7 hG7 hto => ?_
        exact n_mid (G7, u5) ⟨hG7, hto⟩ ⟨rfl, rfl, rfl, rfl, rfl, rfl, rfl, rfl, rfl, rfl, rfl, trivial⟩ rfl sbx
    rintro ⟨G3, vt⟩ ⟨hG3, hto⟩
    dsimp only at hG3 hto ⊢
    have hu3 := hu.up (H := []) hG3
    have hu1 := hu.one
    replace hj := hj.up hG3
    replace hrh := hrh.mono hG3
    replace hrn := hrn.mono hG3
    have hGi3 := hGi.trans hG3
    have hGr3 := hGri.trans hG3
    have hsm := hJ.sm hn8
    refine wn ?_
    refine c_seq ?_
    refine wn ?_
    -- done
    refine c_cut (α := Dc) (fun y => [(0, .slice (some ⟨bl, ol, none⟩) l.length cpl), (1, .slice (some ⟨bf, of', none⟩) fs.length cpf), (2, .slice adc ch.length cpc), (7, Pt dp 0), (9, Pt jp 0), (11, vh), (12, I64 (r : Int)), (13, vn), (14, .bool false), (15, I64 (i : Int)), (16, y.vt), (17, I64 y.c)]) (fun y => y.G) (fun y => y.Bj ++ (y.B ++ F)) (fun y => Im.le G3 y.G ∧ DH dp y.D y.B ∧ JH y.G jp dp y.J y.Bj ∧ RowsV y.G y.vt y.tov ∧ Res (r * 40 + i + 1) 40 y.c y.D y.J hv y.tov) ?_ ?_
    · refine ww ?_
      refine c_cons (s_val (v_index 3 rfl rfl (by kernel_rfl) (by omega)) rfl rfl rfl ?_)
      refine c_cons (s_val (v_field 0 rfl (by kernel_rfl)) rfl rfl rfl ?_)
      refine c_cons (s_val (v_load rfl (hcel _ _ 0 _ hGr3 rfl) (by kernel_rfl)) rfl rfl rfl ?_)
      refine ww ?_
      refine c_cond_d rfl (fun c9 => ?_) (fun c9 => ?_)
      rotate_left
      · have hres := hJ.app_res hn8 x.b (by omega)
        rw [erow] at hres
        refine ww ?_
        refine c_cons (s_val (v_index 3 rfl rfl (by kernel_rfl) (by omega)) rfl rfl rfl ?_)
        refine c_cons (s_val (v_field 2 rfl (by kernel_rfl)) rfl rfl rfl ?_)
        refine c_cons (s_val (v_load rfl (hcel _ _ 2 _ hGr3 rfl) (by kernel_rfl)) rfl rfl rfl ?_)
        refine c_cons (s_call (xs := [_, _]) rfl rfl rfl rfl rfl rfl (by kernel_rfl) (fun w hs => jappend_c jp dp B Bj D hD hJ.hl J hJ.wj u x.b (by omega) hsm.1 hsm.2 _ w _ _ hj hu3 hs) ?_)
        rintro e w' ⟨G4, B4, Bj4, hG4, rfl, hD4, hj4, hs'⟩; refine a_ret ?_ hs'; clear hs'
        refine ww ?_
        exact n_mid ⟨G4, _, _, B4, Bj4, vt, hv ++ [x.b], _⟩ ⟨hG4, hD4, hj4, hto.mono hG4, hres⟩ ⟨rfl, rfl, rfl, rfl, rfl, rfl, rfl, rfl, rfl, rfl, rfl, rfl, trivial⟩ rfl sbx
      have hres := hJ.rst_res hn8 x.b (by omega)
      rw [erow] at hres
      refine ww ?_
      refine c_cons (s_val (v_index 3 rfl rfl (by kernel_rfl) (by omega)) rfl rfl rfl ?_)
      refine c_cons (s_val (v_field 2 rfl (by kernel_rfl)) rfl rfl rfl ?_)
      refine c_cons (s_val (v_load rfl (hcel _ _ 2 _ hGr3 rfl) (by kernel_rfl)) rfl rfl rfl ?_)
      refine c_cons (s_lit (z := .slice none 0 0) (bs := 24) (e := 31) [_] (by kernel_rfl) rfl rfl rfl rfl (by simpa using hu1) rfl (by decide) fun b6 => ?_)
      refine c_freeze .head fun G4 hG4 k4 => ?_
      have hone : RowsV G4 (Sl b6 0 1 1) [x.b] := RwS.sv (vs := [u]) (sl := []) k4 (by simp [maxLen]) (((Items.zero G3).snoc hu3).mono hG4)
      refine ww ?_
      refine c_cons (s_val (v_index 3 rfl rfl (by kernel_rfl) (by omega)) rfl rfl rfl ?_)
      refine c_cons (s_val (v_field 2 rfl (by kernel_rfl)) rfl rfl rfl ?_)
      refine c_cons (s_val (v_load rfl (hcel _ _ 2 _ (hGr3.trans hG4) rfl) (by kernel_rfl)) rfl rfl rfl ?_)
      refine c_cons (s_call (xs := [_, _]) rfl rfl rfl rfl rfl rfl (by kernel_rfl) (fun w hs => jreset_c jp dp B Bj D hD hJ.hl J hJ.wj u x.b (by omega) hsm.1 hsm.2 _ w _ _ (hj.up hG4) (hu3.up hG4) hs) ?_)
      rintro e w' ⟨G5, B5, Bj5, hG5, rfl, hD5, hj5, hs'⟩; refine a_ret ?_ hs'; clear hs'
      refine ww ?_
      exact n_mid ⟨G5, _, _, B5, Bj5, Sl b6 0 1 1, [x.b], _⟩ ⟨hG4.trans hG5, hD5, hj5, hone.mono hG5, hres⟩ ⟨rfl, rfl, rfl, rfl, rfl, rfl, rfl, rfl, rfl, rfl, rfl, rfl, trivial⟩ rfl sbx
    rintro ⟨G6, D6, J6, B6, Bj6, vt6, tov, c⟩ ⟨hG6, hD6, hj6, hto6, hres⟩
    dsimp only at hG6 hD6 hj6 hto6 hres ⊢
    replace hrh := hrh.mono hG6
    replace hrn := hrn.mono hG6
    have hGi6 := hGi3.trans hG6
    refine ww ?_
    refine c_cond_d rfl (fun c10 => ?_) (fun c10 => ?_)
    · rcases hres with ⟨r1, r2, r3⟩ | ⟨r1, _⟩ | ⟨r1, _⟩
      · refine ww ?_
        exact n_next (x := (⟨i, Gi, D, J, B, Bj, vh, vn, false, hv, nx⟩ : Ds)) ⟨i + 1, G6, D6, J6, B6, Bj6, vt6, vn, false, tov, nx⟩ ⟨by dsimp only; omega, hGi6, hD6, hj6, hto6, hrn, r3, .inl ⟨r2, rfl⟩⟩ (by dsimp only; omega) ⟨rfl, rfl, rfl, rfl, rfl, rfl, rfl, rfl, rfl, rfl, trivial⟩ rfl sbx
      · exfalso; omega
      · exfalso; omega
    refine c_sub (B6 ++ (Bj6 ++ F)) sbx ?_
    refine ww ?_
    refine c_cons (s_call (xs := [_]) rfl rfl rfl rfl rfl rfl (by kernel_rfl) (fun w hs => deadH_c dp B6 D6 hD6 _ w _ _ hs) ?_)
    rintro e w' ⟨rfl, hs'⟩; refine a_ret ?_ hs'; clear hs'
    rcases hres with ⟨r1, _⟩ | ⟨r1, r2, r3⟩ | ⟨r1, r2, J', r3, r4⟩
    · exfalso; omega
    · rw [r2.st.live]
      refine ww ?_
      refine c_cond_f rfl ?_
      refine ww ?_
      exact n_next (x := (⟨i, Gi, D, J, B, Bj, vh, vn, false, hv, nx⟩ : Ds)) ⟨i + 1, G6, D6, J6, B6, Bj6, vh, vn, false, hv, nx⟩ ⟨by dsimp only; omega, hGi6, hD6, hj6, hrh, hrn, r3, .inl ⟨r2, rfl⟩⟩ (by dsimp only; omega) ⟨rfl, rfl, rfl, rfl, rfl, rfl, rfl, rfl, rfl, rfl, trivial⟩ rfl sbx
    · rw [r3.dead]
      refine ww ?_
      refine c_cond_t rfl ?_
      refine ww ?_
      exact n_next (x := (⟨i, Gi, D, J, B, Bj, vh, vn, false, hv, nx⟩ : Ds)) ⟨i + 1, G6, D6, J6, B6, Bj6, vh, vt6, true, hv, tov⟩ ⟨by dsimp only; omega, hGi6, hD6, hj6, hrh, hto6, r2, .inr ⟨J', r3, r4, rfl⟩⟩ (by dsimp only; omega) ⟨rfl, rfl, rfl, rfl, rfl, rfl, rfl, rfl, rfl, rfl, trivial⟩ rfl sbx
  rintro ⟨i, Gi, D, J, B, Bj, vh, vn, op, hv, nx⟩ ⟨hGi, hD, hrh, hrn, hat⟩
  dsimp only at hGi hD hrh hrn hat ⊢
  have hGri := hGr.trans hGi
  obtain ⟨J', hJ, hor⟩ := hat.crash ch
  have hJn : Jt ((r + 1) * 40) 40 (crashS D ch) J' := hJ.up (by omega)
  refine ww ?_
  refine c_cons (s_call (xs := [_, _]) rfl rfl rfl rfl rfl rfl (by kernel_rfl) (fun w hs => crash_c dp B D hD _ ch _ w _ F (hch.mono hGri (fun _ hp => by cases hp)) hs) ?_)
  rintro e w' ⟨cp, C1, rfl, hC1, hs'⟩; refine a_ret ?_ hs'; clear hs'
  generalize crashS D ch = D9 at hJ hJn hC1
  refine ww ?_
  refine c_cons (s_call (xs := [_]) rfl rfl rfl rfl rfl rfl (by kernel_rfl) (fun w hs => open_y cp C1 D9 hC1 hJ _ w _ _ hs) ?_)
  rintro e w' ⟨G7, jq, Bj7, rfl, hG7, hj7, hs'⟩; refine a_ret ?_ hs'; clear hs'
  refine ww ?_
  refine c_cond_f rfl ?_
  refine ww ?_
  have hw := hJ.wj
  refine c_cons (s_call (xs := [_]) rfl rfl rfl rfl rfl rfl (by kernel_rfl) (fun w hs => jall_c jq cp Bj7 J' hw.n hw.r _ w _ _ hj7 hs) ?_)
  rintro e w' ⟨G8, u8', rfl, hG8, hu8, hs'⟩; refine a_ret ?_ hs'; clear hs'
  refine ww ?_
  refine c_cons (s_call (xs := [_, _]) rfl rfl rfl rfl rfl rfl (by kernel_rfl) (fun w hs => rowsD_c _ _ J'.rows hv _ w _ _ hu8 (hrh.mono (hG7.trans hG8)) hs) ?_)
  rintro e w' ⟨rfl, hs'⟩; refine a_ret ?_ hs'; clear hs'
  refine ww ?_
  refine c_cond_nd rfl (fun c15 => ?_) (fun c15 => ?_)
  rotate_left
  · refine ww ?_
    exact n_next (x := (⟨r, Gr, Dr, Jr, Br, Bjr, vhr, hvr, dp, jp⟩ : Dt)) ⟨r + 1, G8, D9, J', C1, Bj7, vh, hv, cp, jq⟩ ⟨hrf, hGri.trans (hG7.trans hG8), hC1, hj7.up hG8, hrh.mono (hG7.trans hG8), hJn, c15⟩ (by dsimp only; omega) ⟨rfl, rfl, rfl, rfl, rfl, rfl, rfl, trivial⟩ rfl sbx
  obtain ⟨rfl, hnx⟩ := hor.resolve_left c15
  refine ww ?_
  refine c_cons (s_call (xs := [_]) rfl rfl rfl rfl rfl rfl (by kernel_rfl) (fun w hs => jall_c jq cp Bj7 J' hw.n hw.r _ w _ _ (hj7.up hG8) hs) ?_)
  rintro e w' ⟨G9, u9, rfl, hG9, hu9, hs'⟩; refine a_ret ?_ hs'; clear hs'
  refine ww ?_
  refine c_cons (s_call (xs := [_, _]) rfl rfl rfl rfl rfl rfl (by kernel_rfl) (fun w hs => rowsD_c _ _ J'.rows nx _ w _ _ hu9 (hrn.mono (hG7.trans (hG8.trans hG9))) hs) ?_)
  rintro e w' ⟨rfl, hs'⟩; refine a_ret ?_ hs'; clear hs'
  rw [decide_eq_true hnx]
  refine ww ?_
  refine c_cond_f rfl ?_
  refine ww ?_
  exact n_next (x := (⟨r, Gr, Dr, Jr, Br, Bjr, vhr, hvr, dp, jp⟩ : Dt)) ⟨r + 1, G9, D9, J', C1, Bj7, vn, nx, cp, jq⟩ ⟨hrf, hGri.trans (hG7.trans (hG8.trans hG9)), hC1, hj7.up (hG8.trans hG9), hrn.mono (hG7.trans (hG8.trans hG9)), hJn, hnx⟩ (by dsimp only; omega) ⟨rfl, rfl, rfl, rfl, rfl, rfl, rfl, trivial⟩ rfl sbx
end Go.Proofs.Ytkjneelekfdpfaa
