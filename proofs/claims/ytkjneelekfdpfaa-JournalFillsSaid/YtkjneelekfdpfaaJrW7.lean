/- The walks of package journal: Append, Reset, All, Room, Format. The walks of package journal: Format, Reset, All, Room. -/
import Derived.Test.YtkjneelekfdpfaaJrW5
namespace Go.Proofs.Ytkjneelekfdpfaa
section
open Go
set_option linter.unusedVariables false
set_option linter.unusedSimpArgs false
set_option maxHeartbeats 3200000
/-- A journal's numbers are such as may be. -/
structure WJ (S : Nat) (J : Jn) : Prop where
  gd : gdJ J.hd
  h : J.hd.h ≤ 1
  e : J.hd.e ≤ jz S
  s : J.s = 0 ∨ J.s = 1
  n : J.rows.length ≤ 100000
  r : ∀ r ∈ J.rows, r.length ≤ 1000000
def appS (D : Dk) (J : Jn) (b : List UInt8) : Dk × Int := layS D J J.hd.h J.hd.e b
def appJ (D : Dk) (J : Jn) (b : List UInt8) : Jn := if (appS D J b).2 = 0 then newJ J J.hd.h J.hd.e b else J
def rstS (D : Dk) (J : Jn) (b : List UInt8) : Dk × Int := layS D J (1 - J.hd.h) 0 b
def rstJ (D : Dk) (J : Jn) (b : List UInt8) : Jn := if (rstS D J b).2 = 0 then newJ J (1 - J.hd.h) 0 b else J
def roomS (S : Nat) (e : Int) : Int := max 0 (min 65536 (((jz S : Int) - e) * 64 - 3))
def fmtS (D : Dk) : Dk × Int :=
  if (writeS D 1 z64).2 = 0 then (if (writeS (writeS D 1 z64).1 0 (pad64 (hdB ⟨1, 0, 0⟩))).2 = 0 then syncS (writeS (writeS D 1 z64).1 0 (pad64 (hdB ⟨1, 0, 0⟩))).1 else writeS (writeS D 1 z64).1 0 (pad64 (hdB ⟨1, 0, 0⟩))) else writeS D 1 z64
/-- A row of one's own rows. -/
theorem RO.cell {G : Im} {v : Value} {rs : List (List UInt8)} {B : Hp} (h : RO G v rs B) {k : Nat} {r : List UInt8} (hr : rs[k]? = some r) : ∃ bb c L u, v = Sl bb 0 rs.length c ∧ B = [(bb, Cs L 31)] ∧ L[k]? = some u ∧ SV G [] u r.length (r.map B8) := by
  obtain ⟨vs, ⟨hl, hown⟩, hit⟩ := h
  have hk := (List.getElem?_eq_some_iff.1 hr).1
  have hvl := hit.1
  rcases hown with ⟨ad, rfl, h0, rfl⟩ | ⟨bb, c, sl, rfl, hb1, hb2, hb3, rfl⟩
  · omega
  · refine ⟨bb, c, vs ++ sl, vs[k]'(by omega), by rw [hvl], rfl, ?_, hit.2 k _ r (List.getElem?_eq_getElem _) hr⟩
    rw [List.getElem?_append_left (by omega)]
    exact List.getElem?_eq_getElem _
attribute [local irreducible] Code.wp wpList stepK Holds Val wpR Eff Eff0 Code.wpIn wpListIn stepI Exit.then Exit.inBlock bodyPost bodyPostM

theorem jappend_c (jp dp : Nat) (B Bj : Hp) (D : Dk) (hr : DH dp D B) (hl : 6 ≤ D.now.length ∧ D.now.length ≤ 4160) (J : Jn) (hW : WJ D.now.length J) (vb : Value) (b : List UInt8) (hbl : b.length ≤ 1000000)
    (hsm : D.since.length < 990000) (ho : D.ops < 990000) (w0 w : World) (G : Im) (F : Hp) (hj : JH G jp dp J Bj) (hvb : SV G [] vb b.length (b.map B8)) (hs : Sat w0 w G (Bj ++ (B ++ F))) :
    Calls Try.prog 13 #[Pt jp 0, vb] w fun e w' => ∃ G' B' Bj', Im.le G G' ∧ e = .returned (I64 (appS D J b).2) ∧ DH dp (appS D J b).1 B' ∧ JH G' jp dp (appJ D J b) Bj' ∧ Sat w0 w' G' (Bj' ++ (B' ++ F)) := by
  obtain ⟨vr, Br, rfl, hro⟩ := hj
  obtain ⟨⟨⟨g, h, e⟩, s, rows⟩, rfl⟩ : ∃ J', J' = J := ⟨J, rfl⟩
  obtain ⟨hg, hh, he, hs01, hn, hrr⟩ := hW
  have hg0 := hg
  obtain ⟨hg1, hg2, hg3⟩ := hg0
  dsimp only at hh he hs01 hg1 hg2 hg3 hn hrr hro
  obtain ⟨hn', rfl⟩ : ∃ x : Nat, h = x := ⟨h.toNat, by omega⟩
  obtain ⟨en, rfl⟩ : ∃ x : Nat, e = x := ⟨e.toNat, by omega⟩
  obtain ⟨J, hJ⟩ : ∃ J : Jn, J = ⟨⟨g, hn', en⟩, s, rows⟩ := ⟨_, rfl⟩
  have hJh : J.hd.h = hn' := by rw [hJ]
  have hJe : J.hd.e = en := by rw [hJ]
  have hJs : J.s = s := by rw [hJ]
  have hJhd : J.hd = ⟨g, hn', en⟩ := by rw [hJ]
  have hJg : gdJ J.hd := by rw [hJ]; exact hg
  have hJs01 : J.s = 0 ∨ J.s = 1 := by rw [hJ]; exact hs01
  have hh1 : hn' ≤ 1 := by omega
  have hee : en ≤ jz D.now.length := by omega
  have hJr : J.rows = rows := by rw [hJ]
  rw [← hJ]
  have hap : appS D J b = layS D J hn' en b := by unfold appS; rw [hJh, hJe]
  have haj : appJ D J b = if (layS D J hn' en b).2 = 0 then newJ J hn' en b else J := by unfold appJ; rw [hap, hJh, hJe]
  rw [hap, haj]
  change Sat w0 w G ((JO jp dp ⟨g, hn', en⟩ s vr :: Br) ++ (B ++ F)) at hs
  refine f_enter (vs := [_, _]) Try.func13 rfl Try.ntmps13 (by simp) (hs.sb : Sat w0 w G (JO jp dp ⟨g, hn', en⟩ s vr :: (B ++ (Br ++ F)))) ?_
  refine ww ?_
  refine c_cons (s_val (v_field 0 rfl (by kernel_rfl)) rfl rfl rfl ?_)
  refine c_cons (s_val (v_load rfl (Cel.head rfl) (by kernel_rfl)) rfl rfl rfl ?_)
  refine ww ?_
  refine c_cond_f rfl ?_
  refine wn ?_
  have hb2 : layS D J hn' en b = layS D J (hn' : Int) (en : Int) b := rfl
  -- lay
  refine c_cut (α := Im × Hp) (fun x => [(0, Pt jp 0), (1, vb), (4, I64 0), (5, I64 (layS D J hn' en b).2)]) (fun x => x.1) (fun x => JO jp dp (okH J hn' en b (layS D J hn' en b).2) (okS J (layS D J hn' en b).2) vr :: (x.2 ++ (Br ++ F))) (fun x => Im.le G x.1 ∧ DH dp (layS D J hn' en b).1 x.2) ?_ ?_
  · refine ww ?_
    refine r_startS [] [] (by kernel_rfl) (fun w h => h.none) ?_
    refine r_tk 0 rfl rfl (v_move rfl) (fun _ h => h.none) ?_
    refine r_tk 1 rfl rfl (v_move rfl) (fun _ h => h.none) ?_
    refine r_tk 2 rfl rfl (v_nilCheck rfl) (fun _ h => h.none) ?_
    refine r_tk 3 rfl rfl (v_field 1 rfl (by kernel_rfl)) (fun _ h => h.none) ?_
    refine r_tk 4 rfl rfl (v_field 1 rfl (by kernel_rfl)) (fun _ h => h.none) ?_
    refine r_tk 6 rfl rfl (v_move rfl) (fun _ h => h.none) ?_
    refine r_tk 7 rfl rfl (v_nilCheck rfl) (fun _ h => h.none) ?_
    refine r_tk 8 rfl rfl (v_field 1 rfl (by kernel_rfl)) (fun _ h => h.none) ?_
    refine r_tk 9 rfl rfl (v_field 2 rfl (by kernel_rfl)) (fun _ h => h.none) ?_
    refine r_tk 11 rfl rfl (v_move rfl) (fun _ h => h.none) ?_
    refine r_two 5 10 (by kernel_rfl) rfl rfl ?_ ?_
    · refine s_val (v_load rfl (Cel.head rfl) (by kernel_rfl)) rfl rfl rfl ?_
      refine r_next (fun w h => h.none) ?_
      refine r_one 10 (by kernel_rfl) rfl ?_; refine s_val (v_load rfl (Cel.head rfl) (by kernel_rfl)) rfl rfl rfl ?_; refine r_next (fun w h => h.none) ?_
      refine r_one 12 (by kernel_rfl) rfl ?_
      refine s_call (xs := [_, _, _, _]) rfl rfl rfl rfl rfl rfl (by kernel_rfl) (fun w hs => jlay_c jp dp B D hr hl J hJg hJs01 vr hn' en hh1 hee vb b hbl hsm ho _ w _ _ hvb (by rw [hJhd, hJs]; exact hs)) ?_
      rintro e w' ⟨G5, B5, hG5, rfl, hr5, hs'⟩; refine a_ret ?_ hs'; clear hs'
      refine r_next (fun w h => (h.weaken hG5).none) ?_
      refine r_tk 13 rfl rfl (v_assign rfl) (fun _ h => (h.weaken hG5).none) ?_
      refine r_done (by kernel_rfl) ?_
      refine ww ?_
      exact n_mid (G5, B5) ⟨hG5, hr5⟩ ⟨rfl, rfl, rfl, rfl, trivial⟩ rfl sbx
    · refine s_val (v_load rfl (Cel.head rfl) (by kernel_rfl)) rfl rfl rfl ?_
      refine r_next (fun w h => h.none) ?_
      refine r_one 5 (by kernel_rfl) rfl ?_; refine s_val (v_load rfl (Cel.head rfl) (by kernel_rfl)) rfl rfl rfl ?_; refine r_next (fun w h => h.none) ?_
      refine r_one 12 (by kernel_rfl) rfl ?_
      refine s_call (xs := [_, _, _, _]) rfl rfl rfl rfl rfl rfl (by kernel_rfl) (fun w hs => jlay_c jp dp B D hr hl J hJg hJs01 vr hn' en hh1 hee vb b hbl hsm ho _ w _ _ hvb (by rw [hJhd, hJs]; exact hs)) ?_
      rintro e w' ⟨G5, B5, hG5, rfl, hr5, hs'⟩; refine a_ret ?_ hs'; clear hs'
      refine r_next (fun w h => (h.weaken hG5).none) ?_
      refine r_tk 13 rfl rfl (v_assign rfl) (fun _ h => (h.weaken hG5).none) ?_
      refine r_done (by kernel_rfl) ?_
      refine ww ?_
      exact n_mid (G5, B5) ⟨hG5, hr5⟩ ⟨rfl, rfl, rfl, rfl, trivial⟩ rfl sbx
  rintro ⟨G5, B5⟩ ⟨hG5, hr5⟩
  dsimp only at hG5 hr5 ⊢
  replace hro := hro.up hG5
  replace hvb := hvb.mono (H' := []) hG5 (fun p hp => hp)
  generalize hR : layS D J hn' en b = R at hr5 ⊢
  obtain ⟨D1, c⟩ := R
  dsimp only at hr5 ⊢
  refine ww ?_
  refine c_cond_d rfl (fun c3 => ?_) (fun c3 => ?_)
  · -- kept
    have c3' : c = 0 := by omega
    subst c3'
    have enj : (newJ J hn' en b).rows = rows ++ [b] := by unfold newJ; rw [hJh, if_pos rfl, hJr]
    rw [if_pos rfl]
    unfold okH okS
    rw [if_pos rfl, if_pos rfl]
    obtain ⟨nh, hnh⟩ : ∃ nh, nh = newH J hn' en b := ⟨_, rfl⟩
    have enh : (newJ J hn' en b).hd = nh := by rw [hnh]; rfl
    have ens : (newJ J hn' en b).s = 1 - J.s := rfl
    rw [← hnh]
    obtain ⟨vs, how, hit⟩ := hro
    have hvl := hit.1
    refine ww ?_
    refine r_startS [JO jp dp nh (1 - J.s) vr] [11] (by kernel_rfl) (fun w h => h.sb) ?_
    refine r_tk 0 rfl rfl (v_move rfl) (fun _ h => (h.sb)) ?_
    refine r_tk 1 rfl rfl (v_move rfl) (fun _ h => (h.sb)) ?_
    refine r_tk 2 rfl rfl (v_nilCheck rfl) (fun _ h => (h.sb)) ?_
    refine r_tk 3 rfl rfl (v_field 5 rfl (by kernel_rfl)) (fun _ h => (h.sb)) ?_
    refine r_tk 4 rfl rfl (v_load rfl (Cel.head rfl) (by kernel_rfl)) (fun _ h => (h.sb)) ?_
    refine r_tk 5 rfl rfl (v_move rfl) (fun _ h => (h.sb)) ?_
    refine r_one 6 (by kernel_rfl) rfl ?_
    refine s_call (xs := [_]) rfl rfl rfl rfl rfl rfl (by kernel_rfl) (fun w hs => clone_c vb b _ w _ _ hvb hbl hs) ?_
    rintro e w' ⟨G6, u, rfl, hG6, hu, hs'⟩; refine a_ret ?_ hs'; clear hs'
    refine r_next (fun w h => ((h.weaken hG6).sb)) ?_
    refine r_one 7 (by kernel_rfl) rfl ?_
    refine s_lit (z := .slice none 0 0) (bs := 24) (e := 31) [_] (by kernel_rfl) rfl rfl rfl rfl (by simpa using hu.one) rfl (by decide) fun b6 => ?_
    refine r_next (fun w h => ((h.weaken hG6).sb)) ?_
    refine r_one 8 (by kernel_rfl) rfl ?_
    refine c_sub ((b6, Cs [u] 31) :: (Br ++ (JO jp dp nh (1 - J.s) vr :: (B5 ++ F)))) sbx ?_
    refine s_append (e := 31) (z := .slice none 0 0) (sz := 1) (bs := 24) (by kernel_rfl) rfl rfl rfl rfl how (Chunk.tail Chunk.head) (SV.block .head (by simp [maxLen])) rfl (by decide) rfl (by simpa using hu.one) (by simp; omega) (by simp; omega) fun u7 B7 ho7 => ?_
    have hro7 : RO G6 u7 (rows ++ [b]) B7 := ⟨vs ++ [u], by rw [List.length_append]; exact ho7, (hit.mono hG6).snoc hu⟩
    have hu7 : u7.oneCell' = true := by obtain ⟨ad, c, e⟩ := ho7.form; rw [e]; rfl
    refine c_sub (JO jp dp nh (1 - J.s) vr :: (B7 ++ (B5 ++ F))) sbx ?_
    refine r_next (fun w h => ((h.weaken hG6).sb)) ?_
    refine r_one 9 (by kernel_rfl) rfl ?_; refine s_val (v_nilCheck rfl) rfl rfl rfl ?_; refine r_next (fun w h => ((h.weaken hG6).sb)) ?_
    refine r_one 10 (by kernel_rfl) rfl ?_; refine s_val (v_field 5 rfl (by kernel_rfl)) rfl rfl rfl ?_; refine r_next (fun w h => ((h.weaken hG6).sb)) ?_
    refine r_one 11 (by kernel_rfl) rfl ?_
    refine s_store1 rfl rfl rfl .head (by kernel_rfl) hu7 (by simp) ?_
    change Holds _ _ _ _ _ (JO jp dp nh (1 - J.s) u7 :: (B7 ++ (B5 ++ F))) _
    refine r_late rfl ?_
    refine r_done (by kernel_rfl) ?_
    refine ww ?_
    exact f_ret1 rfl rfl (fun w hs => ⟨G6, B5, JO jp dp nh (1 - J.s) u7 :: B7, hG5.trans hG6, rfl, hr5, ⟨u7, B7, by rw [enh, ens], by rw [enj]; exact hro7⟩, hs.sb⟩)
  rw [if_neg (by omega)]
  unfold okH okS
  rw [if_neg (by omega), if_neg (by omega), hJhd, hJs]
  refine ww ?_
  exact f_ret1 rfl rfl (fun w hs => ⟨G5, B5, JO jp dp ⟨g, hn', en⟩ s vr :: Br, hG5, rfl, hr5, ⟨vr, Br, by rw [hJhd, hJs], by rw [hJr]; exact hro⟩, hs.sb⟩)
end

section
open Go
set_option linter.unusedVariables false
set_option linter.unusedSimpArgs false
set_option maxHeartbeats 3200000
def J0 : Jn := ⟨⟨1, 0, 0⟩, 0, []⟩
theorem pad_nil : pad64 [] = z64 := rfl
theorem z64_len : z64.length = 64 := by unfold z64; simp
attribute [local irreducible] Code.wp wpList stepK Holds Val wpR Eff Eff0 Code.wpIn wpListIn stepI Exit.then Exit.inBlock bodyPost bodyPostM

theorem format_nil (w0 w : World) (G : Im) (F : Hp) (hs : Sat w0 w G F) :
    Calls Try.prog 12 #[.pointer none] w fun e w' => e = .returned (.tuple #[.pointer none, I64 1]) ∧ Sat w0 w' G F := by
  refine f_enter (vs := [_]) Try.func12 rfl Try.ntmps12 (by simp) hs ?_
  refine ww ?_
  refine c_cond_t rfl ?_
  refine ww ?_
  exact f_ret2 rfl rfl rfl (fun w hs => ⟨rfl, hs⟩)
theorem format_s (dp : Nat) (B : Hp) (D : Dk) (hr : DH dp D B) (hl : D.now.length < 6) (w0 w : World) (G : Im) (F : Hp) (hs : Sat w0 w G (B ++ F)) :
    Calls Try.prog 12 #[Pt dp 0] w fun e w' => e = .returned (.tuple #[.pointer none, I64 1]) ∧ Sat w0 w' G (B ++ F) := by
  refine f_enter (vs := [_]) Try.func12 rfl Try.ntmps12 (by simp) hs ?_
  refine ww ?_
  refine c_cons (s_call (xs := [_]) rfl rfl rfl rfl rfl rfl (by kernel_rfl) (fun w hs => sectorsH_c dp B D hr _ w _ _ hs) ?_)
  rintro e w' ⟨rfl, hs'⟩; refine a_ret ?_ hs'; clear hs'
  refine ww ?_
  refine c_cond_d rfl (fun c2 => ?_) (fun c2 => ?_)
  · refine ww ?_
    exact f_ret2 rfl rfl rfl (fun w hs => ⟨rfl, hs⟩)
  exfalso; omega
theorem format_c (dp : Nat) (B : Hp) (D : Dk) (hr : DH dp D B) (hl : 6 ≤ D.now.length ∧ D.now.length ≤ 4160) (hsm : D.since.length < 990000) (ho : D.ops < 990000) (w0 w : World) (G : Im) (F : Hp) (hs : Sat w0 w G (B ++ F)) :
    Calls Try.prog 12 #[Pt dp 0] w fun e w' => ∃ G' B' v, Im.le G G' ∧ e = .returned (.tuple #[v, I64 (fmtS D).2]) ∧ DH dp (fmtS D).1 B' ∧
      (((fmtS D).2 = 0 ∧ ∃ jp Bj, v = Pt jp 0 ∧ JH G' jp dp J0 Bj ∧ Sat w0 w' G' (Bj ++ (B' ++ F))) ∨ (¬ (fmtS D).2 = 0 ∧ v = .pointer none ∧ Sat w0 w' G' (B' ++ F))) := by
  refine f_enter (vs := [_]) Try.func12 rfl Try.ntmps12 (by simp) hs ?_
  refine ww ?_
  refine c_cons (s_call (xs := [_]) rfl rfl rfl rfl rfl rfl (by kernel_rfl) (fun w hs => sectorsH_c dp B D hr _ w _ _ hs) ?_)
  rintro e w' ⟨rfl, hs'⟩; refine a_ret ?_ hs'; clear hs'
  refine ww ?_
  refine c_cond_d rfl (fun c2 => ?_) (fun c2 => ?_)
  · exfalso; omega
  refine ww ?_
  refine c_cons (s_val (v_build (ps := [_]) #[I64 1, I64 0, I64 0] rfl (by kernel_rfl)) rfl rfl rfl ?_)
  refine c_cons (s_allocA [I64 0, I64 0, I64 0] (by kernel_rfl) rfl rfl fun b1 => ?_)
  refine c_cons (s_storeA (vs := [I64 1, I64 0, I64 0]) rfl rfl rfl .head (by kernel_rfl) (by simp [Value.oneCell']) rfl ?_)
  refine c_freeze .head fun G1 hG1 k1 => ?_
  refine ww ?_
  refine c_cons (s_call (xs := [_]) rfl rfl rfl rfl rfl rfl (by kernel_rfl) (fun w hs => jsec_c (.slice none 0 0) [] (by simp) _ w _ _ (SV.nil _ _) hs) ?_)
  rw [pad_nil]
  rintro e w' ⟨G2, u2, rfl, hG2, hu2, hs'⟩; refine a_ret ?_ hs'; clear hs'
  refine c_cons (s_call (xs := [_, _, _]) rfl rfl rfl rfl rfl rfl (by kernel_rfl) (fun w hs => write_c dp B D hr _ _ _ (by omega) (by omega) _ w _ _ (hu2.mono (Im.le_refl _) (by simp)) hs) ?_)
  have hg1 := write_grow D 1 z64
  unfold fmtS
  generalize writeS D 1 z64 = W1 at hg1 ⊢
  rintro e w' ⟨B3, rfl, hr3, hs'⟩; refine a_ret ?_ hs'; clear hs'
  refine ww ?_
  refine c_cond_d rfl (fun c3 => ?_) (fun c3 => ?_)
  · -- then
    rw [if_neg c3]
    refine ww ?_
    exact f_ret2 rfl rfl rfl (fun w hs => ⟨G2, B3, _, hG1.trans hG2, rfl, hr3, .inr ⟨c3, rfl, hs⟩⟩)
  have c3' : W1.2 = 0 := by omega
  rw [if_pos c3']
  replace k1 := hG2 _ _ k1
  refine ww ?_
  refine c_cons (s_val (v_loadAgg (vs := [I64 1, I64 0, I64 0]) rfl (by kernel_rfl) (by kernel_rfl) rfl (fun j u hj => (Cel.allI k1 hj))) rfl rfl rfl ?_)
  refine c_cons (s_call (xs := [_]) rfl rfl rfl rfl rfl rfl (by kernel_rfl) (fun w hs => jlaid_c ⟨1, 0, 0⟩ ⟨by decide, by decide, by decide⟩ _ w _ _ hs) ?_)
  obtain ⟨x, hx⟩ : ∃ x, x = pad64 (hdB ⟨1, 0, 0⟩) := ⟨_, rfl⟩
  rw [← hx]
  rintro e w' ⟨G4, u4, rfl, hG4, hu4, hs'⟩; refine a_ret ?_ hs'; clear hs'
  refine c_cons (s_call (xs := [_, _, _]) rfl rfl rfl rfl rfl rfl (by kernel_rfl) (fun w hs => write_c dp B3 W1.1 hr3 _ _ _ (by omega) (by omega) _ w _ _ (hu4.mono (Im.le_refl _) (by simp)) hs) ?_)
  have hg2 := write_grow W1.1 0 x
  generalize writeS W1.1 0 x = W2 at hg2 ⊢
  rintro e w' ⟨B5, rfl, hr5, hs'⟩; refine a_ret ?_ hs'; clear hs'
  refine ww ?_
  refine c_cond_d rfl (fun c4 => ?_) (fun c4 => ?_)
  · -- then
    rw [if_neg c4]
    refine ww ?_
    exact f_ret2 rfl rfl rfl (fun w hs => ⟨G4, B5, _, hG1.trans (hG2.trans hG4), rfl, hr5, .inr ⟨c4, rfl, hs⟩⟩)
  have c4' : W2.2 = 0 := by omega
  rw [if_pos c4']
  replace k1 := hG4 _ _ k1
  refine ww ?_
  refine c_cons (s_call (xs := [_]) rfl rfl rfl rfl rfl rfl (by kernel_rfl) (fun w hs => sync_c dp B5 W2.1 hr5 (by omega) _ w _ _ hs) ?_)
  generalize syncS W2.1 = W3
  rintro e w' ⟨B6, rfl, hr6, hs'⟩; refine a_ret ?_ hs'; clear hs'
  refine ww ?_
  refine c_cond_d rfl (fun c5 => ?_) (fun c5 => ?_)
  · -- then
    refine ww ?_
    exact f_ret2 rfl rfl rfl (fun w hs => ⟨G4, B6, _, hG1.trans (hG2.trans hG4), rfl, hr6, .inr ⟨c5, rfl, hs⟩⟩)
  have c5' : W3.2 = 0 := by omega
  refine ww ?_
  refine c_cons (s_val (v_loadAgg (vs := [I64 1, I64 0, I64 0]) rfl (by kernel_rfl) (by kernel_rfl) rfl (fun j u hj => (Cel.allI k1 hj))) rfl rfl rfl ?_)
  refine c_cons (s_val (v_build (ps := [_, _]) #[Pt dp 0, I64 1, I64 0, I64 0, I64 0, .slice none 0 0] rfl (by kernel_rfl)) rfl rfl rfl ?_)
  refine c_cons (s_boxA [Pt dp 0, I64 1, I64 0, I64 0, I64 0, .slice none 0 0] rfl rfl rfl fun b2 => ?_)
  refine ww ?_
  exact f_ret2 rfl rfl rfl (fun w hs => ⟨G4, B6, Pt b2 0, hG1.trans (hG2.trans hG4), by rw [c5'], hr6, .inl ⟨c5', b2, [JO b2 dp ⟨1, 0, 0⟩ 0 (.slice none 0 0)], rfl, ⟨_, [], rfl, RO.zero _ _⟩, hs⟩⟩)

theorem jreset_c (jp dp : Nat) (B Bj : Hp) (D : Dk) (hr : DH dp D B) (hl : 6 ≤ D.now.length ∧ D.now.length ≤ 4160) (J : Jn) (hW : WJ D.now.length J) (vb : Value) (b : List UInt8) (hbl : b.length ≤ 1000000)
    (hsm : D.since.length < 990000) (ho : D.ops < 990000) (w0 w : World) (G : Im) (F : Hp) (hj : JH G jp dp J Bj) (hvb : SV G [] vb b.length (b.map B8)) (hs : Sat w0 w G (Bj ++ (B ++ F))) :
    Calls Try.prog 14 #[Pt jp 0, vb] w fun e w' => ∃ G' B' Bj', Im.le G G' ∧ e = .returned (I64 (rstS D J b).2) ∧ DH dp (rstS D J b).1 B' ∧ JH G' jp dp (rstJ D J b) Bj' ∧ Sat w0 w' G' (Bj' ++ (B' ++ F)) := by
  obtain ⟨vr, Br, rfl, hro⟩ := hj
  obtain ⟨⟨⟨g, h, e⟩, s, rows⟩, rfl⟩ : ∃ J', J' = J := ⟨J, rfl⟩
  obtain ⟨hg, hh, he, hs01, hn, hrr⟩ := hW
  have hg0 := hg
  obtain ⟨hg1, hg2, hg3⟩ := hg0
  dsimp only at hh he hs01 hg1 hg2 hg3 hn hrr hro
  obtain ⟨J, hJ⟩ : ∃ J : Jn, J = ⟨⟨g, h, e⟩, s, rows⟩ := ⟨_, rfl⟩
  have hJh : J.hd.h = h := by rw [hJ]
  have hJs : J.s = s := by rw [hJ]
  have hJhd : J.hd = ⟨g, h, e⟩ := by rw [hJ]
  have hJg : gdJ J.hd := by rw [hJ]; exact hg
  have hJs01 : J.s = 0 ∨ J.s = 1 := by rw [hJ]; exact hs01
  have hJr : J.rows = rows := by rw [hJ]
  rw [← hJ]
  obtain ⟨hn', hh'⟩ : ∃ x : Nat, (x : Int) = 1 - h := ⟨(1 - h).toNat, by omega⟩
  have hh1 : hn' ≤ 1 := by omega
  have hap : rstS D J b = layS D J (hn' : Int) ((0 : Nat) : Int) b := by unfold rstS; rw [hJh, hh']; rfl
  have haj : rstJ D J b = if (layS D J (hn' : Int) ((0 : Nat) : Int) b).2 = 0 then newJ J hn' 0 b else J := by unfold rstJ; rw [hap, hJh, hh']
  rw [hap, haj]
  change Sat w0 w G ((JO jp dp ⟨g, h, e⟩ s vr :: Br) ++ (B ++ F)) at hs
  refine f_enter (vs := [_, _]) Try.func14 rfl Try.ntmps14 (by simp) (hs.sb : Sat w0 w G (JO jp dp ⟨g, h, e⟩ s vr :: (B ++ (Br ++ F)))) ?_
  refine ww ?_
  refine c_cons (s_val (v_field 0 rfl (by kernel_rfl)) rfl rfl rfl ?_)
  refine c_cons (s_val (v_load rfl (Cel.head rfl) (by kernel_rfl)) rfl rfl rfl ?_)
  refine ww ?_
  refine c_cond_f rfl ?_
  refine ww ?_
  refine c_cons (s_val (v_field 1 rfl (by kernel_rfl)) rfl rfl rfl ?_)
  refine c_cons (s_val (v_field 1 rfl (by kernel_rfl)) rfl rfl rfl ?_)
  refine c_cons (s_val (v_load rfl (Cel.head rfl) (by kernel_rfl)) rfl rfl rfl ?_)
  refine c_cons (s_val (v_sub rfl rfl (by dsimp only; omega)) rfl rfl rfl ?_)
  rw [show (1 : Int) - (⟨g, h, e⟩ : Jh).h = (hn' : Int) from hh'.symm]
  refine ww ?_
  refine c_cons (s_call (xs := [_, _, _, _]) rfl rfl rfl rfl rfl rfl (by kernel_rfl) (fun w hs => jlay_c jp dp B D hr hl J hJg hJs01 vr hn' 0 hh1 (Nat.zero_le _) vb b hbl hsm ho _ w _ _ hvb (by rw [hJhd, hJs]; exact hs)) ?_)
  rintro e w' ⟨G5, B5, hG5, rfl, hr5, hs'⟩; refine a_ret ?_ hs'; clear hs'
  replace hvb := hvb.mono (H' := []) hG5 (fun p hp => hp)
  generalize hR : layS D J (hn' : Int) ((0 : Nat) : Int) b = R at hr5 ⊢
  obtain ⟨D1, c⟩ := R
  dsimp only at hr5 ⊢
  refine ww ?_
  refine c_cond_d rfl (fun c3 => ?_) (fun c3 => ?_)
  · -- kept
    have c3' : c = 0 := by omega
    subst c3'
    have enj : (newJ J hn' 0 b).rows = [b] := by unfold newJ; rw [hJh, if_neg (by omega)]; rfl
    rw [if_pos rfl]
    unfold okH okS
    rw [if_pos rfl, if_pos rfl]
    obtain ⟨nh, hnh⟩ : ∃ nh, nh = newH J hn' ((0 : Nat) : Int) b := ⟨_, rfl⟩
    have enh : (newJ J hn' 0 b).hd = nh := by rw [hnh]; rfl
    have ens : (newJ J hn' 0 b).s = 1 - J.s := rfl
    rw [← hnh]
    refine ww ?_
    refine c_cons (s_call (xs := [_]) rfl rfl rfl rfl rfl rfl (by kernel_rfl) (fun w hs => clone_c vb b _ w _ _ hvb hbl hs) ?_)
    rintro e w' ⟨G6, u, rfl, hG6, hu, hs'⟩; refine a_ret ?_ hs'; clear hs'
    refine ww ?_
    refine c_cons (s_lit (z := .slice none 0 0) (bs := 24) (e := 31) [_] (by kernel_rfl) rfl rfl rfl rfl (by simpa using hu.one) rfl (by decide) fun b6 => ?_)
    refine ww ?_
    refine c_sub (JO jp dp nh (1 - J.s) vr :: (b6, Cs [u] 31) :: (B5 ++ F)) sbx ?_
    refine c_cons (s_val (v_field 5 rfl (by kernel_rfl)) rfl rfl rfl ?_)
    refine c_cons (s_store1 rfl rfl rfl .head (by kernel_rfl) rfl (by simp) ?_)
    change Holds _ _ _ _ _ (JO jp dp nh (1 - J.s) _ :: (b6, Cs [u] 31) :: (B5 ++ F)) _
    refine ww ?_
    refine f_ret1 rfl rfl (fun w hs => ⟨G6, B5, [JO jp dp nh (1 - J.s) (Sl b6 0 [u].length [u].length), (b6, Cs [u] 31)], hG5.trans hG6, rfl, hr5, ⟨_, [(b6, Cs [u] 31)], by rw [enh, ens], ?_⟩, hs.sb⟩)
    rw [enj]
    exact ⟨[u], ⟨rfl, .inr ⟨b6, 1, [], rfl, by simp [maxLen], by simp, by simp, by simp⟩⟩, by
      have := Items.snoc (G := G6) (vs := []) (rs := []) ⟨rfl, fun j x r h => by simp at h⟩ hu
      simpa using this⟩
  rw [if_neg (by omega)]
  unfold okH okS
  rw [if_neg (by omega), if_neg (by omega), hJhd, hJs]
  refine ww ?_
  exact f_ret1 rfl rfl (fun w hs => ⟨G5, B5, JO jp dp ⟨g, h, e⟩ s vr :: Br, hG5, rfl, hr5, ⟨vr, Br, by rw [hJhd, hJs], by rw [hJr]; exact hro.up hG5⟩, hs.sb⟩)

theorem jroom_c (jp dp : Nat) (B Bj : Hp) (D : Dk) (hr : DH dp D B) (hl : 6 ≤ D.now.length ∧ D.now.length ≤ 4160) (J : Jn) (hg : gdJ J.hd)
    (w0 w : World) (G : Im) (F : Hp) (hj : JH G jp dp J Bj) (hs : Sat w0 w G (Bj ++ (B ++ F))) :
    Calls Try.prog 17 #[Pt jp 0] w fun e w' => e = .returned (I64 (roomS D.now.length J.hd.e)) ∧ Sat w0 w' G (Bj ++ (B ++ F)) := by
  obtain ⟨vr, Br, rfl, hro⟩ := hj
  obtain ⟨hg1, hg2, hg3⟩ := hg
  have hz : jz D.now.length ≤ 2079 := by unfold jz; omega
  obtain ⟨hd, s, rows⟩ := J
  obtain ⟨g, h, e⟩ := hd
  dsimp only at hg1 hg2 hg3 hro ⊢
  change Sat w0 w G ((JO jp dp ⟨g, h, e⟩ s vr :: Br) ++ (B ++ F)) at hs
  refine f_enter (vs := [_]) Try.func17 rfl Try.ntmps17 (by simp) hs ?_
  refine ww ?_
  refine c_cons (s_val (v_field 0 rfl (by kernel_rfl)) rfl rfl rfl ?_)
  refine c_cons (s_val (v_load rfl (Cel.head rfl) (by kernel_rfl)) rfl rfl rfl ?_)
  refine ww ?_
  refine c_cond_f rfl ?_
  refine ww ?_
  refine r_startS [JO jp dp ⟨g, h, e⟩ s vr] [] (by kernel_rfl) (fun w h => h.sb) ?_
  refine r_tk 0 rfl rfl (v_move rfl) (fun _ h => (h.sb)) ?_
  refine r_tk 1 rfl rfl (v_nilCheck rfl) (fun _ h => (h.sb)) ?_
  refine r_tk 2 rfl rfl (v_field 0 rfl (by kernel_rfl)) (fun _ h => (h.sb)) ?_
  refine r_tk 3 rfl rfl (v_load rfl (Cel.head rfl) (by kernel_rfl)) (fun _ h => (h.sb)) ?_
  refine r_tk 5 rfl rfl (v_move rfl) (fun _ h => (h.sb)) ?_
  refine r_tk 6 rfl rfl (v_nilCheck rfl) (fun _ h => (h.sb)) ?_
  refine r_tk 7 rfl rfl (v_field 1 rfl (by kernel_rfl)) (fun _ h => (h.sb)) ?_
  refine r_tk 8 rfl rfl (v_field 2 rfl (by kernel_rfl)) (fun _ h => (h.sb)) ?_
  refine r_tk 9 rfl rfl (v_load rfl (Cel.head rfl) (by kernel_rfl)) (fun _ h => (h.sb)) ?_
  refine c_sub (B ++ (JO jp dp ⟨g, h, e⟩ s vr :: (Br ++ F))) sbx ?_
  refine r_one 4 (by kernel_rfl) rfl ?_
  refine s_call (xs := [_]) rfl rfl rfl rfl rfl rfl (by kernel_rfl) (fun w hs => jsize_c dp B D hr (by omega) _ w _ _ hs) ?_
  rintro e w' ⟨rfl, hs'⟩; refine a_ret ?_ hs'; clear hs'
  refine r_next (fun w h => (h.sb)) ?_
  refine r_tk 10 rfl rfl (v_sub rfl rfl (by dsimp only; omega)) (fun _ h => (h.sb)) ?_
  refine r_tk 11 rfl rfl (v_mul rfl rfl (by dsimp only; omega)) (fun _ h => (h.sb)) ?_
  refine r_tk 12 rfl rfl (v_sub rfl rfl (by dsimp only; omega)) (fun _ h => (h.sb)) ?_
  refine r_tk 13 rfl rfl (v_min rfl rfl) (fun _ h => (h.sb)) ?_
  refine r_tk 14 rfl rfl (v_max rfl rfl) (fun _ h => (h.sb)) ?_
  refine r_tk 15 rfl rfl (v_assign rfl) (fun _ h => (h.sb)) ?_
  refine r_done (by kernel_rfl) ?_
  refine ww ?_
  exact f_ret1 rfl rfl (fun w hs => ⟨rfl, (show Sat w0 w G ((JO jp dp ⟨g, h, e⟩ s vr :: Br) ++ (B ++ F)) from hs.sb)⟩)

theorem jall_c (jp dp : Nat) (Bj : Hp) (J : Jn) (hn : J.rows.length ≤ 100000) (hrr : ∀ r ∈ J.rows, r.length ≤ 1000000)
    (w0 w : World) (G : Im) (F : Hp) (hj : JH G jp dp J Bj) (hs : Sat w0 w G (Bj ++ F)) :
    Calls Try.prog 16 #[Pt jp 0] w fun e w' => ∃ G' u, e = .returned u ∧ Im.le G G' ∧ RowsV G' u J.rows ∧ Sat w0 w' G' (Bj ++ F) := by
  obtain ⟨vr, Br, rfl, hro⟩ := hj
  obtain ⟨hd, s, rows⟩ := J
  obtain ⟨g, h, e⟩ := hd
  dsimp only at hn hrr hro ⊢
  change Sat w0 w G ((JO jp dp ⟨g, h, e⟩ s vr :: Br) ++ F) at hs
  obtain ⟨adr, cpr, hvr⟩ := hro.form
  refine f_enter (vs := [_]) Try.func16 rfl Try.ntmps16 (by simp) hs ?_
  refine ww ?_
  refine c_cond_f rfl ?_
  refine ww ?_
  refine c_cons (s_val (v_field 5 rfl (by kernel_rfl)) rfl rfl rfl ?_)
  refine c_cons (s_val (v_load rfl (Cel.head rfl) (by kernel_rfl)) rfl rfl rfl ?_)
  rw [hvr]
  refine ww ?_
  rw [← hvr]
  refine c_loop (α := Nat × Im × Value × Hp) (fun x => [(3, x.2.2.1), (11, vr), (12, I64 (rows.length : Int)), (13, I64 (x.1 : Int))]) (fun x => x.2.1) (fun x => x.2.2.2 ++ ((JO jp dp ⟨g, h, e⟩ s vr :: Br) ++ F)) (fun x => x.1 ≤ rows.length ∧ Im.le G x.2.1 ∧ RO x.2.1 x.2.2.1 (rows.take x.1) x.2.2.2) (fun x => rows.length - x.1) (0, G, .slice none 0 0, []) ⟨Nat.zero_le _, Im.le_refl _, RO.zero _ _⟩ ?_ ?_
  · exact n_at ⟨rfl, rfl, rfl, rfl, trivial⟩ sbx
  rintro ⟨i, Gi, vo, Bo⟩ ⟨hi, hGi, hoo⟩
  dsimp only at hi hGi hoo ⊢
  refine ww ?_
  refine c_cond_d rfl (fun c6 => ?_) (fun c6 => ?_)
  · -- then
    have hil : i < rows.length := by omega
    obtain ⟨r, hrr2⟩ : ∃ r, rows[i]? = some r := ⟨_, List.getElem?_eq_getElem hil⟩
    have hrl := hrr r (List.mem_of_getElem? hrr2)
    obtain ⟨bb, c, L, u, hv2, hB, hL, hu⟩ := (hro.up hGi).cell hrr2
    subst hB
    subst hv2
    have htk : rows.take (i + 1) = rows.take i ++ [r] := by rw [List.take_add_one, hrr2]; rfl
    obtain ⟨vs, how, hit⟩ := hoo
    have hvl := hit.1
    rw [List.length_take] at hvl
    refine c_sub ((bb, Cs L 31) :: (Bo ++ (JO jp dp ⟨g, h, e⟩ s (Sl bb 0 rows.length c) :: F))) sbx ?_
    refine ww ?_
    refine c_cons (s_val (v_index1 rfl rfl (by kernel_rfl) (by omega)) rfl rfl rfl ?_)
    refine c_cons (s_val (v_load rfl (Cel.head (by rw [Int.toNat_natCast, Nat.zero_add]; simpa using hL)) (by kernel_rfl)) rfl rfl rfl ?_)
    refine ww ?_
    refine c_cons (s_call (xs := [_]) rfl rfl rfl rfl rfl rfl (by kernel_rfl) (fun w hs => clone_c u r _ w _ _ hu hrl hs) ?_)
    rintro e w' ⟨G6, u6, rfl, hG6, hu6, hs'⟩; refine a_ret ?_ hs'; clear hs'
    refine ww ?_
    refine c_cons (s_lit (z := .slice none 0 0) (bs := 24) (e := 31) [_] (by kernel_rfl) rfl rfl rfl rfl (by simpa using hu6.one) rfl (by decide) fun b6 => ?_)
    refine c_sub ((b6, Cs [u6] 31) :: (Bo ++ ((bb, Cs L 31) :: JO jp dp ⟨g, h, e⟩ s (Sl bb 0 rows.length c) :: F))) sbx ?_
    refine c_cons (s_append (e := 31) (z := .slice none 0 0) (sz := 1) (bs := 24) (by kernel_rfl) rfl rfl rfl rfl how (Chunk.tail Chunk.head) (SV.block .head (by simp [maxLen])) rfl (by decide) rfl (by simpa using hu6.one) (by simp; omega) (by simp; omega) fun u7 B7 ho7 => ?_)
    refine ww ?_
    refine n_next (x := (i, Gi, vo, Bo)) (i + 1, G6, u7, B7) ⟨hil, hGi.trans hG6, ?_⟩ (by dsimp only; omega) ⟨rfl, rfl, rfl, rfl, trivial⟩ rfl sbx
    dsimp only
    rw [htk]
    exact ⟨vs ++ [u6], by rw [List.length_append]; exact ho7, (hit.mono hG6).snoc hu6⟩
  have hie : i = rows.length := by omega
  subst hie
  rw [List.take_length] at hoo
  refine ww ?_
  refine hoo.freeze Chunk.head fun G7 hG7 hrv => ?_
  exact f_ret1 rfl rfl (fun w hs => ⟨G7, _, rfl, hGi.trans hG7, hrv, hs⟩)
end
end Go.Proofs.Ytkjneelekfdpfaa
