/- The laws of package journal: awake, Room. -/
import Derived.Test.YtkjneelekfdpfaaJrP
import Derived.Test.YtkjneelekfdpfaaJrW4
namespace Go.Proofs.Ytkjneelekfdpfaa
open Go
set_option linter.unusedVariables false
set_option linter.unusedSimpArgs false
set_option maxHeartbeats 3200000
structure Jd where
  d : Int
  n : Int
  b : List UInt8
def JdR (G : Im) (cs : List Value) (x : Jd) : Prop := ∃ u, cs = [I64 x.d, I64 x.n, u] ∧ SV G [] u x.b.length (x.b.map B8)
theorem JdR.up : Up JdR := fun _ _ _ _ hG h => let ⟨u, e, hu⟩ := h; ⟨u, e, hu.up hG⟩
/-- What a deed has. -/
theorem Jd.at {G : Im} {v : Value} {l : List Jd} (h : RecV 3 JdR G v l) {i : Nat} {x : Jd} (hx : l[i]? = some x) : ∃ b o c u, v = Sl b o l.length c ∧ SV G [] u x.b.length (x.b.map B8) ∧
    ∀ (G' : Im) (H : Hp) (f : Nat) y, Im.le G G' → [I64 x.d, I64 x.n, u][f]? = some y → Cel G' H b (o + (i : Int).toNat * 3 + f) y := by
  obtain ⟨hi, rfl⟩ := List.getElem?_eq_some_iff.1 hx
  obtain ⟨b, o, c, cells, e1, ⟨u, rfl, hu⟩, _, e3⟩ := h.at (by decide) i hi
  exact ⟨b, o, c, u, e1, hu, fun G' H f y hG hy => by rw [Int.toNat_natCast]; exact (e3 [] f y hy).mono hG (by simp)⟩
attribute [local irreducible] Code.wp wpList stepK Holds Val wpR Eff Eff0 Code.wpIn wpListIn stepI Exit.then Exit.inBlock bodyPost bodyPostM

theorem format_n (dp : Nat) (B : Hp) (m : Nat) (hm : 6 ≤ m ∧ m ≤ 4160) (hr : DH dp (newD m) B) (w0 w : World) (G : Im) (F : Hp) (hs : Sat w0 w G (B ++ F)) :
    Calls Try.prog 12 #[Pt dp 0] w fun e w' => ∃ G' jp Bj B' D, e = .returned (.tuple #[Pt jp 0, I64 0]) ∧ Im.le G G' ∧ DH dp D B' ∧ Jt 0 m D J0 ∧ Lv D ∧ JH G' jp dp J0 Bj ∧ Sat w0 w' G' (Bj ++ (B' ++ F)) := by
  obtain ⟨f1, f2, f3⟩ := fmt_new hm
  refine (format_c dp B (newD m) hr (by simpa [newD] using hm) (by simp [newD]) (by simp [newD]) w0 w G F hs).mono ?_
  rintro e w' ⟨G', B', v, hG, rfl, hD, ⟨_, jp, Bj, rfl, hj, hs'⟩ | ⟨hne, _⟩⟩
  · exact ⟨G', jp, Bj, B', _, by rw [f1], hG, hD, f2, f3, hj, hs'⟩
  · exact absurd f1 hne
theorem open_y (dp : Nat) (B : Hp) (D : Dk) (hr : DH dp D B) {n S : Nat} {J : Jn} (h : Jt n S D J) (w0 w : World) (G : Im) (F : Hp) (hs : Sat w0 w G (B ++ F)) :
    Calls Try.prog 11 #[Pt dp 0] w fun e w' => ∃ G' jp Bj, e = .returned (.tuple #[Pt jp 0, I64 0]) ∧ Im.le G G' ∧ JH G' jp dp J Bj ∧ Sat w0 w' G' (Bj ++ (B ++ F)) := by
  refine (jopen_c dp B D hr h.hl h.st.inv.s64 w0 w G F hs).mono ?_
  rintro e w' ⟨G', hG, ⟨h1, _⟩ | ⟨_, h1, _⟩ | ⟨_, J', jp, Bj, h1, rfl, hj, hs'⟩⟩
  · rw [h.st.live] at h1; cases h1
  · rw [h.open] at h1; cases h1
  · rw [h.open] at h1; cases h1
    exact ⟨G', jp, Bj, rfl, hG, hj, hs'⟩

theorem awake_c (w0 w : World) (G : Im) (F : Hp) (hs : Sat w0 w G F) :
    Calls Try.prog 9 #[] w fun e w' => ∃ G', e = .returned (.bool true) ∧ Im.le G G' ∧ Sat w0 w' G' F := by
  refine f_enter (vs := []) Try.func9 rfl Try.ntmps9 (by simp) hs ?_
  have z20 : jz 20 = 9 := rfl
  refine ww ?_
  refine c_cons (s_call (xs := [_]) rfl rfl rfl rfl rfl rfl (by kernel_rfl) (fun w hs => new_c 20 (by decide) _ w _ _ hs) ?_)
  rintro e w' ⟨dp, B0, rfl, hD0, hs'⟩; refine a_ret ?_ hs'; clear hs'
  refine ww ?_
  refine c_cons (s_call (xs := [_]) rfl rfl rfl rfl rfl rfl (by kernel_rfl) (fun w hs => format_n dp B0 20 (by decide) hD0 _ w _ _ hs) ?_)
  rintro e w' ⟨G1, jp, Bj1, B1, D1, rfl, hG1, hD1, t1, lv1, hj1, hs'⟩; refine a_ret ?_ hs'; clear hs'
  refine ww ?_
  refine c_kf 18 rfl (by decide) ?_
  refine ww ?_
  refine c_cons (s_lit (z := B8 0) (bs := 1) (e := 5) [_] (by kernel_rfl) rfl rfl rfl rfl (by simp [Value.oneCell']) rfl (by decide) fun b1 => ?_)
  refine c_freeze .head fun G2 hG2 k2 => ?_
  obtain ⟨a1, t2, lv2, a2, a3⟩ := t1.app_y lv1 (by decide) [1] (by decide) (by decide)
  refine c_cons (s_call (xs := [_, _]) rfl rfl rfl rfl rfl rfl (by kernel_rfl) (fun w hs => jappend_c jp dp B1 Bj1 D1 hD1 t1.hl J0 t1.wj _ [1] (by decide) (t1.sm (by decide)).1 (t1.sm (by decide)).2 _ w _ _ (hj1.up hG2) (SV.block (.of_imm k2) (by simp [maxLen])) hs) ?_)
  rw [a1]
  generalize (appS D1 J0 [1]).1 = D2 at t2 lv2 ⊢
  generalize appJ D1 J0 [1] = J2 at t2 a2 a3 ⊢
  rintro e w' ⟨G3, B2, Bj2, hG3, rfl, hD2, hj2, hs'⟩; refine a_ret ?_ hs'; clear hs'
  refine ww ?_
  refine c_kf 28 rfl (by decide) ?_
  refine ww ?_
  refine c_cons (s_lit (z := B8 0) (bs := 1) (e := 5) [_, _] (by kernel_rfl) rfl rfl rfl rfl (by simp [Value.oneCell']) rfl (by decide) fun b2 => ?_)
  refine c_freeze .head fun G4 hG4 k4 => ?_
  obtain ⟨c1, t3, lv3, c2, c3⟩ := t2.app_y lv2 (by decide) [2, 2] (by decide) (by rw [a3]; decide)
  refine c_cons (s_call (xs := [_, _]) rfl rfl rfl rfl rfl rfl (by kernel_rfl) (fun w hs => jappend_c jp dp B2 Bj2 D2 hD2 t2.hl J2 t2.wj _ [2, 2] (by decide) (t2.sm (by decide)).1 (t2.sm (by decide)).2 _ w _ _ (hj2.up hG4) (SV.block (.of_imm k4) (by simp [maxLen])) hs) ?_)
  rw [c1]
  generalize (appS D2 J2 [2, 2]).1 = D3 at t3 lv3 ⊢
  generalize appJ D2 J2 [2, 2] = J3 at t3 c2 c3 ⊢
  rintro e w' ⟨G5, B3, Bj3, hG5, rfl, hD3, hj3, hs'⟩; refine a_ret ?_ hs'; clear hs'
  refine ww ?_
  refine c_cond_f rfl ?_
  refine c_sub (B3 ++ F) sbx ?_
  refine ww ?_
  refine c_cons (s_lit (z := B8 0) (bs := 1) (e := 5) [_] (by kernel_rfl) rfl rfl rfl rfl (by simp [Value.oneCell']) rfl (by decide) fun b3 => ?_)
  refine c_freeze .head fun G6 hG6 k6 => ?_
  refine c_cons (s_call (xs := [_, _]) rfl rfl rfl rfl rfl rfl (by kernel_rfl) (fun w hs => crash_c dp B3 D3 hD3 _ [0] _ w _ F (SV.block (.of_imm k6) (by simp [maxLen])) hs) ?_)
  rintro e w' ⟨cp, C1, rfl, hC1, hs'⟩; refine a_ret ?_ hs'; clear hs'
  have t4 := t3.crash [0]
  generalize crashS D3 [0] = D4 at t4 hC1
  refine c_cons (s_call (xs := [_]) rfl rfl rfl rfl rfl rfl (by kernel_rfl) (fun w hs => open_y cp C1 D4 hC1 t4 _ w _ _ hs) ?_)
  rintro e w' ⟨G7, jq, Bj4, rfl, hG7, hj4, hs'⟩; refine a_ret ?_ hs'; clear hs'
  refine ww ?_
  refine c_kt 43 rfl (by decide) ?_
  refine ww ?_
  have hw4 := t4.wj
  refine c_cons (s_call (xs := [_]) rfl rfl rfl rfl rfl rfl (by kernel_rfl) (fun w hs => jall_c jq cp Bj4 J3 hw4.n hw4.r _ w _ _ hj4 hs) ?_)
  rw [show J3.rows = [[1], [2, 2]] by rw [c2, a2]; rfl]
  rintro e w' ⟨G8, u8', rfl, hG8, hu8, hs'⟩; refine a_ret ?_ hs'; clear hs'
  refine ww ?_
  refine c_cons (s_lit (z := B8 0) (bs := 1) (e := 5) [_] (by kernel_rfl) rfl rfl rfl rfl (by simp [Value.oneCell']) rfl (by decide) fun b4 => ?_)
  refine c_freeze .head fun G9 hG9 k9 => ?_
  refine c_cons (s_lit (z := B8 0) (bs := 1) (e := 5) [_, _] (by kernel_rfl) rfl rfl rfl rfl (by simp [Value.oneCell']) rfl (by decide) fun b5 => ?_)
  refine c_freeze .head fun Ga hGa ka => ?_
  refine c_cons (s_lit (z := .slice none 0 0) (bs := 24) (e := 31) [_, _] (by kernel_rfl) rfl rfl rfl rfl (by simp [Value.oneCell']) rfl (by decide) fun b6 => ?_)
  refine c_freeze .head fun Gb hGb kb => ?_
  have i1 : SV Gb [] (Sl b4 0 1 1) ([1] : List UInt8).length (([1] : List UInt8).map B8) := SV.block (.of_imm (hGb _ _ (hGa _ _ k9))) (by decide)
  have i2 : SV Gb [] (Sl b5 0 2 2) ([2, 2] : List UInt8).length (([2, 2] : List UInt8).map B8) := SV.block (.of_imm (hGb _ _ ka)) (by decide)
  have hit : Items Gb [Sl b4 0 1 1, Sl b5 0 2 2] [[1], [2, 2]] := ((Items.zero Gb).snoc i1).snoc i2
  refine c_cons (s_call (xs := [_, _]) rfl rfl rfl rfl rfl rfl (by kernel_rfl) (fun w hs => rowsD_c _ _ [[1], [2, 2]] [[1], [2, 2]] _ w _ _ (hu8.mono (hG9.trans (hGa.trans hGb))) (RwS.sv (vs := [Sl b4 0 1 1, Sl b5 0 2 2]) (sl := []) kb (by simp [maxLen]) hit) hs) ?_)
  rintro e w' ⟨rfl, hs'⟩; refine a_ret ?_ hs'; clear hs'
  rw [decide_eq_true (rfl : ([[1], [2, 2]] : List (List UInt8)) = [[1], [2, 2]])]
  refine ww ?_
  exact f_ret1 rfl rfl (fun w hs => ⟨_, rfl, hG1.trans (hG2.trans (hG3.trans (hG4.trans (hG5.trans (hG6.trans (hG7.trans (hG8.trans (hG9.trans (hGa.trans hGb))))))))), hs.sb⟩)

theorem room_c (vl : Value) (l : List Jd) (most : Int) (w0 w : World) (G : Im) (F : Hp) (hl : RecV 3 JdR G vl l) (hs : Sat w0 w G F) :
    Calls Try.prog 18 #[vl, I64 most] w fun e w' => e = .returned (.bool (decide ((l.length : Int) ≤ most ∧ ∀ x ∈ l, x.b.length ≤ 2000))) ∧ Sat w0 w' G F := by
  obtain ⟨adl, cpl, rfl, hl1, hl2⟩ := hl.form
  unfold maxLen at hl2
  refine f_enter (vs := [_, _]) Try.func18 rfl Try.ntmps18 (by simp) hs ?_
  refine ww ?_
  refine c_cond_d rfl (fun c1 => ?_) (fun c1 => ?_)
  · -- then
    refine ww ?_
    exact f_ret1 rfl rfl (fun w hs => ⟨by rw [decide_eq_false (by omega)], hs⟩)
  refine ww ?_
  refine c_loop (α := Nat) (fun x => [(0, .slice adl l.length cpl), (5, I64 (x : Int))]) (fun _ => G) (fun x => F) (fun x => x ≤ l.length ∧ ∀ y ∈ l.take x, y.b.length ≤ 2000) (fun x => l.length - x) 0 ⟨Nat.zero_le _, by simp⟩ ?_ ?_
  · exact n_at ⟨rfl, rfl, trivial⟩ sbx
  rintro i ⟨hi, hall⟩
  refine ww ?_
  refine c_cond_d rfl (fun c2 => ?_) (fun c2 => ?_)
  · -- then
    obtain ⟨x, hx⟩ : ∃ x, l[i]? = some x := ⟨_, List.getElem?_eq_getElem (by omega)⟩
    have htk : l.take (i + 1) = l.take i ++ [x] := by rw [List.take_add_one, hx]; rfl
    obtain ⟨b, o, c, u, hv, hu, hc⟩ := Jd.at hl hx
    cases hv
    obtain ⟨adu, cpu, rfl⟩ := hu.form
    refine ww ?_
    refine c_cons (s_val (v_index 3 rfl rfl (by kernel_rfl) (by omega)) rfl rfl rfl ?_)
    refine c_cons (s_val (v_field 2 rfl (by kernel_rfl)) rfl rfl rfl ?_)
    refine c_cons (s_val (v_load rfl (hc _ _ 2 _ (Im.le_refl _) rfl) (by kernel_rfl)) rfl rfl rfl ?_)
    refine ww ?_
    refine c_cond_d rfl (fun c3 => ?_) (fun c3 => ?_)
    · -- then
      refine ww ?_
      exact f_ret1 rfl rfl (fun w hs => ⟨by rw [decide_eq_false (fun h => by have := h.2 x (List.mem_of_getElem? hx); omega)], hs⟩)
    refine ww ?_
    refine n_next (x := i) (i + 1) ⟨by omega, fun y hy => ?_⟩ (by omega) ⟨rfl, rfl, trivial⟩ rfl sbx
    rw [htk, List.mem_append] at hy
    rcases hy with hy | hy
    · exact hall y hy
    · rw [List.mem_singleton.1 hy]; omega
  have e : i = l.length := by omega
  subst e
  rw [List.take_length] at hall
  refine ww ?_
  exact f_ret1 rfl rfl (fun w hs => ⟨by rw [decide_eq_true ⟨by omega, hall⟩], hs⟩)
end Go.Proofs.Ytkjneelekfdpfaa
