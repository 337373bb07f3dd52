/- The walks of package journal: Append, Reset, All, Room, Format. -/
import Derived.Test.YtkjneelekfdpfaaJrW5
namespace Go.Proofs.Ytkjneelekfdpfaa
open Go
set_option linter.unusedVariables false
set_option linter.unusedSimpArgs false
set_option maxHeartbeats 3200000
/-- A journal's numbers are such as may be. -/
structure WJ (S : Nat) (J : Jn) : Prop where
  gd : gdJ J.hd
  h : J.hd.h ≤ 1
  e : J.hd.e ≤ jz S
  s : J.s = 0 ∨ J.s = 1
  n : J.rows.length ≤ 100000
  r : ∀ r ∈ J.rows, r.length ≤ 1000000
def appS (D : Dk) (J : Jn) (b : List UInt8) : Dk × Int := layS D J J.hd.h J.hd.e b
def appJ (D : Dk) (J : Jn) (b : List UInt8) : Jn := if (appS D J b).2 = 0 then newJ J J.hd.h J.hd.e b else J
def rstS (D : Dk) (J : Jn) (b : List UInt8) : Dk × Int := layS D J (1 - J.hd.h) 0 b
def rstJ (D : Dk) (J : Jn) (b : List UInt8) : Jn := if (rstS D J b).2 = 0 then newJ J (1 - J.hd.h) 0 b else J
def roomS (S : Nat) (e : Int) : Int := max 0 (min 65536 (((jz S : Int) - e) * 64 - 3))
def fmtS (D : Dk) : Dk × Int :=
  if (writeS D 1 z64).2 = 0 then (if (writeS (writeS D 1 z64).1 0 (pad64 (hdB ⟨1, 0, 0⟩))).2 = 0 then syncS (writeS (writeS D 1 z64).1 0 (pad64 (hdB ⟨1, 0, 0⟩))).1 else writeS (writeS D 1 z64).1 0 (pad64 (hdB ⟨1, 0, 0⟩))) else writeS D 1 z64
/-- A row of one's own rows. -/
theorem RO.cell {G : Im} {v : Value} {rs : List (List UInt8)} {B : Hp} (h : RO G v rs B) {k : Nat} {r : List UInt8} (hr : rs[k]? = some r) : ∃ bb c L u, v = Sl bb 0 rs.length c ∧ B = [(bb, Cs L 31)] ∧ L[k]? = some u ∧ SV G [] u r.length (r.map B8) := by
  obtain ⟨vs, ⟨hl, hown⟩, hit⟩ := h
  have hk := (List.getElem?_eq_some_iff.1 hr).1
  have hvl := hit.1
  rcases hown with ⟨ad, rfl, h0, rfl⟩ | ⟨bb, c, sl, rfl, hb1, hb2, hb3, rfl⟩
  · omega
  · refine ⟨bb, c, vs ++ sl, vs[k]'(by omega), by rw [hvl], rfl, ?_, hit.2 k _ r (List.getElem?_eq_getElem _) hr⟩
    rw [List.getElem?_append_left (by omega)]
    exact List.getElem?_eq_getElem _
attribute [local irreducible] Code.wp wpList stepK Holds Val wpR Eff Eff0 Code.wpIn wpListIn stepI Exit.then Exit.inBlock bodyPost bodyPostM

theorem jappend_c (jp dp : Nat) (B Bj : Hp) (D : Dk) (hr : DH dp D B) (hl : 6 ≤ D.now.length ∧ D.now.length ≤ 4160) (J : Jn) (hW : WJ D.now.length J) (vb : Value) (b : List UInt8) (hbl : b.length ≤ 1000000)
    (hsm : D.since.length < 990000) (ho : D.ops < 990000) (w0 w : World) (G : Im) (F : Hp) (hj : JH G jp dp J Bj) (hvb : SV G [] vb b.length (b.map B8)) (hs : Sat w0 w G (Bj ++ (B ++ F))) :
    Calls Try.prog 13 #[Pt jp 0, vb] w fun e w' => ∃ G' B' Bj', Im.le G G' ∧ e = .returned (I64 (appS D J b).2) ∧ DH dp (appS D J b).1 B' ∧ JH G' jp dp (appJ D J b) Bj' ∧ Sat w0 w' G' (Bj' ++ (B' ++ F)) := by
  obtain ⟨vr, Br, rfl, hro⟩ := hj
  obtain ⟨⟨⟨g, h, e⟩, s, rows⟩, rfl⟩ : ∃ J', J' = J := ⟨J, rfl⟩
  obtain ⟨hg, hh, he, hs01, hn, hrr⟩ := hW
  have hg0 := hg
  obtain ⟨hg1, hg2, hg3⟩ := hg0
  dsimp only at hh he hs01 hg1 hg2 hg3 hn hrr hro
  obtain ⟨hn', rfl⟩ : ∃ x : Nat, h = x := ⟨h.toNat, by omega⟩
  obtain ⟨en, rfl⟩ : ∃ x : Nat, e = x := ⟨e.toNat, by omega⟩
  obtain ⟨J, hJ⟩ : ∃ J : Jn, J = ⟨⟨g, hn', en⟩, s, rows⟩ := ⟨_, rfl⟩
  have hJh : J.hd.h = hn' := by rw [hJ]
  have hJe : J.hd.e = en := by rw [hJ]
  have hJs : J.s = s := by rw [hJ]
  have hJhd : J.hd = ⟨g, hn', en⟩ := by rw [hJ]
  have hJg : gdJ J.hd := by rw [hJ]; exact hg
  have hJs01 : J.s = 0 ∨ J.s = 1 := by rw [hJ]; exact hs01
  have hh1 : hn' ≤ 1 := by omega
  have hee : en ≤ jz D.now.length := by omega
  have hJr : J.rows = rows := by rw [hJ]
  rw [← hJ]
  have hap : appS D J b = layS D J hn' en b := by unfold appS; rw [hJh, hJe]
  have haj : appJ D J b = if (layS D J hn' en b).2 = 0 then newJ J hn' en b else J := by unfold appJ; rw [hap, hJh, hJe]
  rw [hap, haj]
  change Sat w0 w G ((JO jp dp ⟨g, hn', en⟩ s vr :: Br) ++ (B ++ F)) at hs
  refine f_enter (vs := [_, _]) Try.func13 rfl Try.ntmps13 (by simp) (hs.sb : Sat w0 w G (JO jp dp ⟨g, hn', en⟩ s vr :: (B ++ (Br ++ F)))) ?_
  refine ww ?_
  refine c_cons (s_val (v_field 0 rfl (by kernel_rfl)) rfl rfl rfl ?_)
  refine c_cons (s_val (v_load rfl (Cel.head rfl) (by kernel_rfl)) rfl rfl rfl ?_)
  refine ww ?_
  refine c_cond_f rfl ?_
  refine wn ?_
  have hb2 : layS D J hn' en b = layS D J (hn' : Int) (en : Int) b := rfl
  -- lay
  refine c_cut (α := Im × Hp) (fun x => [(0, Pt jp 0), (1, vb), (4, I64 0), (5, I64 (layS D J hn' en b).2)]) (fun x => x.1) (fun x => JO jp dp (okH J hn' en b (layS D J hn' en b).2) (okS J (layS D J hn' en b).2) vr :: (x.2 ++ (Br ++ F))) (fun x => Im.le G x.1 ∧ DH dp (layS D J hn' en b).1 x.2) ?_ ?_
  · refine ww ?_
    refine r_startS [] [] (by kernel_rfl) (fun w h => h.none) ?_
    refine r_tk 0 rfl rfl (v_move rfl) (fun _ h => h.none) ?_
    refine r_tk 1 rfl rfl (v_move rfl) (fun _ h => h.none) ?_
    refine r_tk 2 rfl rfl (v_nilCheck rfl) (fun _ h => h.none) ?_
    refine r_tk 3 rfl rfl (v_field 1 rfl (by kernel_rfl)) (fun _ h => h.none) ?_
    refine r_tk 4 rfl rfl (v_field 1 rfl (by kernel_rfl)) (fun _ h => h.none) ?_
    refine r_tk 6 rfl rfl (v_move rfl) (fun _ h => h.none) ?_
    refine r_tk 7 rfl rfl (v_nilCheck rfl) (fun _ h => h.none) ?_
    refine r_tk 8 rfl rfl (v_field 1 rfl (by kernel_rfl)) (fun _ h => h.none) ?_
    refine r_tk 9 rfl rfl (v_field 2 rfl (by kernel_rfl)) (fun _ h => h.none) ?_
    refine r_tk 11 rfl rfl (v_move rfl) (fun _ h => h.none) ?_
    refine r_two 5 10 (by kernel_rfl) rfl rfl ?_ ?_
    · refine s_val (v_load rfl (Cel.head rfl) (by kernel_rfl)) rfl rfl rfl ?_
      refine r_next (fun w h => h.none) ?_
      refine r_one 10 (by kernel_rfl) rfl ?_; refine s_val (v_load rfl (Cel.head rfl) (by kernel_rfl)) rfl rfl rfl ?_; refine r_next (fun w h => h.none) ?_
      refine r_one 12 (by kernel_rfl) rfl ?_
      refine s_call (xs := [_, _, _, _]) rfl rfl rfl rfl rfl rfl (by kernel_rfl) (fun w hs => jlay_c jp dp B D hr hl J hJg hJs01 vr hn' en hh1 hee vb b hbl hsm ho _ w _ _ hvb (by rw [hJhd, hJs]; exact hs)) ?_
      rintro e w' ⟨G5, B5, hG5, rfl, hr5, hs'⟩; refine a_ret ?_ hs'; clear hs'
      refine r_next (fun w h => (h.weaken hG5).none) ?_
      refine r_tk 13 rfl rfl (v_assign rfl) (fun _ h => (h.weaken hG5).none) ?_
      refine r_done (by kernel_rfl) ?_
      refine ww ?_
      exact n_mid (G5, B5) ⟨hG5, hr5⟩ ⟨rfl, rfl, rfl, rfl, trivial⟩ rfl sbx
    · refine s_val (v_load rfl (Cel.head rfl) (by kernel_rfl)) rfl rfl rfl ?_
      refine r_next (fun w h => h.none) ?_
      refine r_one 5 (by kernel_rfl) rfl ?_; refine s_val (v_load rfl (Cel.head rfl) (by kernel_rfl)) rfl rfl rfl ?_; refine r_next (fun w h => h.none) ?_
      refine r_one 12 (by kernel_rfl) rfl ?_
      refine s_call (xs := [_, _, _, _]) rfl rfl rfl rfl rfl rfl (by kernel_rfl) (fun w hs => jlay_c jp dp B D hr hl J hJg hJs01 vr hn' en hh1 hee vb b hbl hsm ho _ w _ _ hvb (by rw [hJhd, hJs]; exact hs)) ?_
      rintro e w' ⟨G5, B5, hG5, rfl, hr5, hs'⟩; refine a_ret ?_ hs'; clear hs'
      refine r_next (fun w h => (h.weaken hG5).none) ?_
      refine r_tk 13 rfl rfl (v_assign rfl) (fun _ h => (h.weaken hG5).none) ?_
      refine r_done (by kernel_rfl) ?_
      refine ww ?_
      exact n_mid (G5, B5) ⟨hG5, hr5⟩ ⟨rfl, rfl, rfl, rfl, trivial⟩ rfl sbx
  rintro ⟨G5, B5⟩ ⟨hG5, hr5⟩
  dsimp only at hG5 hr5 ⊢
  replace hro := hro.up hG5
  replace hvb := hvb.mono (H' := []) hG5 (fun p hp => hp)
  generalize hR : layS D J hn' en b = R at hr5 ⊢
  obtain ⟨D1, c⟩ := R
  dsimp only at hr5 ⊢
  refine ww ?_
  refine c_cond_d rfl (fun c3 => ?_) (fun c3 => ?_)
  · -- kept
    have c3' : c = 0 := by omega
    subst c3'
    have enj : (newJ J hn' en b).rows = rows ++ [b] := by unfold newJ; rw [hJh, if_pos rfl, hJr]
    rw [if_pos rfl]
    unfold okH okS
    rw [if_pos rfl, if_pos rfl]
    obtain ⟨nh, hnh⟩ : ∃ nh, nh = newH J hn' en b := ⟨_, rfl⟩
    have enh : (newJ J hn' en b).hd = nh := by rw [hnh]; rfl
    have ens : (newJ J hn' en b).s = 1 - J.s := rfl
    rw [← hnh]
    obtain ⟨vs, how, hit⟩ := hro
    have hvl := hit.1
    refine ww ?_
    refine r_startS [JO jp dp nh (1 - J.s) vr] [11] (by kernel_rfl) (fun w h => h.sb) ?_
    refine r_tk 0 rfl rfl (v_move rfl) (fun _ h => (h.sb)) ?_
    refine r_tk 1 rfl rfl (v_move rfl) (fun _ h => (h.sb)) ?_
    refine r_tk 2 rfl rfl (v_nilCheck rfl) (fun _ h => (h.sb)) ?_
    refine r_tk 3 rfl rfl (v_field 5 rfl (by kernel_rfl)) (fun _ h => (h.sb)) ?_
    refine r_tk 4 rfl rfl (v_load rfl (Cel.head rfl) (by kernel_rfl)) (fun _ h => (h.sb)) ?_
    refine r_tk 5 rfl rfl (v_move rfl) (fun _ h => (h.sb)) ?_
    refine r_one 6 (by kernel_rfl) rfl ?_
    refine s_call (xs := [_]) rfl rfl rfl rfl rfl rfl (by kernel_rfl) (fun w hs => clone_c vb b _ w _ _ hvb hbl hs) ?_
    rintro e w' ⟨G6, u, rfl, hG6, hu, hs'⟩; refine a_ret ?_ hs'; clear hs'
    refine r_next (fun w h => ((h.weaken hG6).sb)) ?_
    refine r_one 7 (by kernel_rfl) rfl ?_
    refine s_lit (z := .slice none 0 0) (bs := 24) (e := 31) [_] (by kernel_rfl) rfl rfl rfl rfl (by simpa using hu.one) rfl (by decide) fun b6 => ?_
    refine r_next (fun w h => ((h.weaken hG6).sb)) ?_
    refine r_one 8 (by kernel_rfl) rfl ?_
    refine c_sub ((b6, Cs [u] 31) :: (Br ++ (JO jp dp nh (1 - J.s) vr :: (B5 ++ F)))) sbx ?_
    refine s_append (e := 31) (z := .slice none 0 0) (sz := 1) (bs := 24) (by kernel_rfl) rfl rfl rfl rfl how (Chunk.tail Chunk.head) (SV.block .head (by simp [maxLen])) rfl (by decide) rfl (by simpa using hu.one) (by simp; omega) (by simp; omega) fun u7 B7 ho7 => ?_
    have hro7 : RO G6 u7 (rows ++ [b]) B7 := ⟨vs ++ [u], by rw [List.length_append]; exact ho7, (hit.mono hG6).snoc hu⟩
    have hu7 : u7.oneCell' = true := by obtain ⟨ad, c, e⟩ := ho7.form; rw [e]; rfl
    refine c_sub (JO jp dp nh (1 - J.s) vr :: (B7 ++ (B5 ++ F))) sbx ?_
    refine r_next (fun w h => ((h.weaken hG6).sb)) ?_
    refine r_one 9 (by kernel_rfl) rfl ?_; refine s_val (v_nilCheck rfl) rfl rfl rfl ?_; refine r_next (fun w h => ((h.weaken hG6).sb)) ?_
    refine r_one 10 (by kernel_rfl) rfl ?_; refine s_val (v_field 5 rfl (by kernel_rfl)) rfl rfl rfl ?_; refine r_next (fun w h => ((h.weaken hG6).sb)) ?_
    refine r_one 11 (by kernel_rfl) rfl ?_
    refine s_store1 rfl rfl rfl .head (by kernel_rfl) hu7 (by simp) ?_
    change Holds _ _ _ _ _ (JO jp dp nh (1 - J.s) u7 :: (B7 ++ (B5 ++ F))) _
    refine r_late rfl ?_
    refine r_done (by kernel_rfl) ?_
    refine ww ?_
    exact f_ret1 rfl rfl (fun w hs => ⟨G6, B5, JO jp dp nh (1 - J.s) u7 :: B7, hG5.trans hG6, rfl, hr5, ⟨u7, B7, by rw [enh, ens], by rw [enj]; exact hro7⟩, hs.sb⟩)
  rw [if_neg (by omega)]
  unfold okH okS
  rw [if_neg (by omega), if_neg (by omega), hJhd, hJs]
  refine ww ?_
  exact f_ret1 rfl rfl (fun w hs => ⟨G5, B5, JO jp dp ⟨g, hn', en⟩ s vr :: Br, hG5, rfl, hr5, ⟨vr, Br, by rw [hJhd, hJs], by rw [hJr]; exact hro⟩, hs.sb⟩)
end Go.Proofs.Ytkjneelekfdpfaa
