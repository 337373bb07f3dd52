/- The laws of package journal: JournalPlays. -/
import Derived.Test.YtkjneelekfdpfaaJrL4
import Derived.Test.YtkjneelekfdpfaaJrR4
namespace Go.Proofs.Ytkjneelekfdpfaa
open Go
set_option linter.unusedVariables false
set_option linter.unusedSimpArgs false
set_option maxHeartbeats 3200000
theorem puts_grow : ∀ (xs : List (List UInt8)) (D : Dk) (p : Nat), (putsS D p xs).1.ops ≤ D.ops + xs.length ∧ (putsS D p xs).1.since.length ≤ D.since.length + xs.length ∧ (putsS D p xs).1.now.length = D.now.length
  | [], D, p => ⟨by simp [putsS], by simp [putsS], rfl⟩
  | x :: r, D, p => by
    obtain ⟨w1, w2, w3⟩ := write_grow D (p : Int) x
    rw [puts_cons]
    split
    · obtain ⟨i1, i2, i3⟩ := puts_grow r (writeS D p x).1 (p + 1)
      rw [List.length_cons]
      exact ⟨by omega, by omega, by omega⟩
    · rw [List.length_cons]
      exact ⟨by omega, by omega, by omega⟩
theorem lay_grow (D : Dk) (J : Jn) (half at' : Int) (b : List UInt8) : (layS D J half at' b).1.ops ≤ D.ops + jk b.length + 3 ∧ (layS D J half at' b).1.since.length ≤ D.since.length + jk b.length + 1 ∧ (layS D J half at' b).1.now.length = D.now.length := by
  unfold layS
  split
  · exact ⟨by dsimp only; omega, by dsimp only; omega, rfl⟩
  split
  · exact ⟨by dsimp only; omega, by dsimp only; omega, rfl⟩
  obtain ⟨p1, p2, p3⟩ := puts_grow (secsL b) D (2 + half.toNat * jz D.now.length + at'.toNat)
  rw [secsL_len] at p1 p2
  generalize putsS D (2 + half.toNat * jz D.now.length + at'.toNat) (secsL b) = R at p1 p2 p3 ⊢
  have hT : (thenSync R).1.ops ≤ R.1.ops + 1 ∧ (thenSync R).1.since.length ≤ R.1.since.length ∧ (thenSync R).1.now.length = R.1.now.length := by
    unfold thenSync
    split
    · exact sync_grow R.1
    · exact ⟨by omega, Nat.le_refl _, rfl⟩
  generalize thenSync R = T at hT ⊢
  obtain ⟨t1, t2, t3⟩ := hT
  unfold headS
  split
  · obtain ⟨w1, w2, w3⟩ := write_grow T.1 (1 - J.s) (pad64 (hdB (newH J half at' b)))
    split
    · obtain ⟨s1, s2, s3⟩ := sync_grow (writeS T.1 (1 - J.s) (pad64 (hdB (newH J half at' b)))).1
      exact ⟨by omega, by omega, by omega⟩
    · exact ⟨by omega, by omega, by omega⟩
  · exact ⟨by omega, by omega, by omega⟩
theorem lay_zero {D : Dk} {J : Jn} {half at' : Int} {b : List UInt8} (h : (layS D J half at' b).2 = 0) : b.length ≤ 65536 ∧ (jk b.length : Int) ≤ jz D.now.length - at' ∧ J.hd.g < 1099511627775 := by
  unfold layS at h
  split at h
  · cases h
  · split at h
    · cases h
    · omega
/-- What is played: numbers have room. -/
structure Pl (n S : Nat) (D : Dk) (J : Jn) : Prop where
  len : D.now.length = S
  s6 : 6 ≤ S ∧ S ≤ 200
  gd : Gd D
  si : D.since.length ≤ 100 * n
  op : D.ops ≤ 10 + 100 * (n : Int)
  wj : WJ S J
  rl : J.rows.length ≤ 1000 + n
theorem Pl.hl {n S : Nat} {D : Dk} {J : Jn} (h : Pl n S D J) : 6 ≤ D.now.length ∧ D.now.length ≤ 4160 := by rw [h.len]; have := h.s6; omega
theorem Pl.hl2 {n S : Nat} {D : Dk} {J : Jn} (h : Pl n S D J) : 6 ≤ D.now.length ∧ D.now.length ≤ 2000 := by rw [h.len]; have := h.s6; omega
theorem Pl.w {n S : Nat} {D : Dk} {J : Jn} (h : Pl n S D J) : WJ D.now.length J := by rw [h.len]; exact h.wj
theorem Pl.sm {n S : Nat} {D : Dk} {J : Jn} (h : Pl n S D J) (hn : n ≤ 100) : D.since.length < 990000 ∧ D.ops < 990000 := by have := h.si; have := h.op; omega
theorem Pl.up {n m S : Nat} {D : Dk} {J : Jn} (h : Pl n S D J) (hm : n ≤ m) : Pl m S D J := ⟨h.len, h.s6, h.gd, by have := h.si; omega, by have := h.op; omega, h.wj, by have := h.rl; omega⟩
theorem Pl.fuse {n S : Nat} {D : Dk} {J : Jn} (h : Pl n S D J) (k : Int) : Pl n S (fuseS D k) J := ⟨h.len, h.s6, h.gd, h.si, h.op, h.wj, h.rl⟩
theorem Pl.lay {n S : Nat} {D : Dk} {J : Jn} (h : Pl n S D J) (hn : n ≤ 100) {half at' : Int} {b : List UInt8} (hb : b.length ≤ 2000) (hh : 0 ≤ half ∧ half ≤ 1) (ha : 0 ≤ at') :
    Pl (n + 1) S (layS D J half at' b).1 (if (layS D J half at' b).2 = 0 then newJ J half at' b else J) := by
  obtain ⟨g1, g2, g3⟩ := lay_grow D J half at' b
  have hjk : jk b.length ≤ 32 := by unfold jk; omega
  have hsi := h.si
  have hop := h.op
  have hrl := h.rl
  refine ⟨by rw [g3, h.len], h.s6, lay_keeps write_gd sync_gd D J half at' b h.gd, by omega, by omega, ?_, ?_⟩
  · split
    · rename_i e
      obtain ⟨z1, z2, z3⟩ := lay_zero e
      rw [h.len] at z2
      obtain ⟨w1, w2, w3, w4, w5, w6⟩ := h.wj
      obtain ⟨q1, q2, q3⟩ := w1
      have hS := h.s6
      have hzS : jz S ≤ 99 := by unfold jz; omega
      refine ⟨⟨⟨?_, ?_⟩, ⟨?_, ?_⟩, ⟨?_, ?_⟩⟩, hh.2, ?_, ?_, ?_, ?_⟩
      · show 0 ≤ J.hd.g + 1; omega
      · show J.hd.g + 1 < 1099511627776; omega
      · exact hh.1
      · show half ≤ 255; omega
      · show 0 ≤ at' + (jk b.length : Int); omega
      · show at' + (jk b.length : Int) < 16777216; omega
      · show at' + (jk b.length : Int) ≤ jz S; omega
      · show 1 - J.s = 0 ∨ 1 - J.s = 1; omega
      · show ((if half = J.hd.h then J.rows else []) ++ [b]).length ≤ 100000
        rw [List.length_append, List.length_singleton]
        split
        · omega
        · simp
      · show ∀ r ∈ (if half = J.hd.h then J.rows else []) ++ [b], r.length ≤ 1000000
        intro r hr
        rw [List.mem_append, List.mem_singleton] at hr
        rcases hr with hr | rfl
        · split at hr
          · exact w6 r hr
          · cases hr
        · omega
    · exact h.wj
  · split
    · show ((if half = J.hd.h then J.rows else []) ++ [b]).length ≤ 1000 + (n + 1)
      rw [List.length_append, List.length_singleton]
      split
      · omega
      · simp; omega
    · omega
theorem Pl.app {n S : Nat} {D : Dk} {J : Jn} (h : Pl n S D J) (hn : n ≤ 100) (b : List UInt8) (hb : b.length ≤ 2000) : Pl (n + 1) S (appS D J b).1 (appJ D J b) :=
  h.lay hn hb ⟨h.wj.gd.2.1.1, h.wj.h⟩ h.wj.gd.2.2.1
theorem Pl.rst {n S : Nat} {D : Dk} {J : Jn} (h : Pl n S D J) (hn : n ≤ 100) (b : List UInt8) (hb : b.length ≤ 2000) : Pl (n + 1) S (rstS D J b).1 (rstJ D J b) :=
  h.lay hn hb (by have := h.wj.gd.2.1.1; have := h.wj.h; omega) (Int.le_refl _)
theorem open_wj {L : List (List UInt8)} (hl : 6 ≤ L.length ∧ L.length ≤ 2000) (h64 : ∀ x ∈ L, x.length = 64) {J : Jn} (h : openS L = some J) : WJ L.length J ∧ J.rows.length ≤ jz L.length := by
  have hz : jz L.length ≤ 999 := by unfold jz; omega
  have key : ∀ (x : List UInt8) (s : Int), (s = 0 ∨ s = 1) → hdOk L.length x → (recsS L (hdJ x).e.toNat (2 + (hdJ x).h.toNat * jz L.length) (hdJ x).e.toNat).map (fun rows => (⟨hdJ x, s, rows⟩ : Jn)) = some J → WJ L.length J ∧ J.rows.length ≤ jz L.length := by
    intro x s hs ok hm
    cases hr : recsS L (hdJ x).e.toNat (2 + (hdJ x).h.toNat * jz L.length) (hdJ x).e.toNat with
    | none => rw [hr] at hm; cases hm
    | some rows =>
      rw [hr] at hm
      cases hm
      obtain ⟨b1, b2⟩ := recs_bounds h64 _ _ _ _ hr
      obtain ⟨o1, o2, o3, o4, o5⟩ := ok
      have hg := hdJ_gd x
      have he := hg.2.2
      refine ⟨⟨hg, o3, o4, hs, by dsimp only; omega, fun r hr => ?_⟩, by dsimp only; omega⟩
      have := b2 r hr
      have : (hdJ x).e.toNat * 64 ≤ 999 * 64 := Nat.mul_le_mul_right _ (by omega)
      omega
  rw [open_pick rfl rfl] at h
  split at h
  · rename_i c1
    split at h
    · rename_i c2
      exact key _ 1 (.inr rfl) (c2.elim (fun h2 => c1.1.resolve_left h2) (fun h2 => h2.1)) h
    · rename_i c2
      exact key _ 0 (.inl rfl) (Decidable.byContradiction fun h2 => c2 (.inl h2)) h
  · cases h
theorem Pl.opn {n S : Nat} {D : Dk} {J J' : Jn} (h : Pl n S D J) (h64 : ∀ x ∈ D.now, x.length = 64) (ho : openS D.now = some J') : Pl n S D J' := by
  obtain ⟨w, r⟩ := open_wj h.hl2 h64 ho
  rw [h.len] at w r
  have hz : jz S ≤ 99 := by have := h.s6; unfold jz; omega
  exact ⟨h.len, h.s6, h.gd, h.si, h.op, w, by omega⟩
theorem MH.fz {G : Im} {mp : Nat} {M : Dk} {B : Hp} (h : MH G mp M B) (n : Int) (hn : n ≤ 9223372036854775807) : ∃ vN vL vA vW B2, B = MO mp vN vL vA vW M.ops M.fuse M.dead :: B2 ∧ MH G mp (fuseS M n) (MO mp vN vL vA vW M.ops (max n (-1)) M.dead :: B2) := by
  obtain ⟨vN, vL, vA, vW, BN, BL, BA, BW, rfl, hr⟩ := h
  exact ⟨vN, vL, vA, vW, _, rfl, ⟨vN, vL, vA, vW, BN, BL, BA, BW, rfl, ⟨⟨hr.wf.k2, hr.wf.kM, hr.wf.kl, hr.wf.ks, hr.wf.sm, ⟨by simp only [fuseS]; omega, by simp only [fuseS]; omega⟩, hr.wf.o0⟩, hr.n, hr.l, hr.a, hr.w⟩⟩⟩
theorem MH.n64 {G : Im} {mp : Nat} {M : Dk} {B : Hp} (h : MH G mp M B) : ∀ x ∈ M.now, x.length = 64 := by
  obtain ⟨vN, vL, vA, vW, BN, BL, BA, BW, rfl, hr⟩ := h
  exact hr.n.n64
structure Dp where
  i : Nat
  G : Im
  D : Dk
  J : Jn
  B : Hp
  Bj : Hp
  Bm : Hp
  Br : Hp
  jp : Nat
  rj : Nat
attribute [local irreducible] Code.wp wpList stepK Holds Val wpR Eff Eff0 Code.wpIn wpListIn stepI Exit.then Exit.inBlock bodyPost bodyPostM

theorem jplays_c (n : Int) (vl : Value) (l : List Jd) (w0 w : World) (G : Im) (F : Hp) (hl : RecV 3 JdR G vl l) (hs : Sat w0 w G F) :
    Calls Try.prog 7 #[I64 n, vl] w fun e w' => ∃ G', e = .returned (.bool true) ∧ Im.le G G' ∧ Sat w0 w' G' F := by
  obtain ⟨adl, cpl, hvl, hl1, hl2⟩ := hl.form
  unfold maxLen at hl2
  subst hvl
  refine f_enter (vs := [_, _]) Try.func7 rfl Try.ntmps7 (by simp) hs ?_
  refine ww ?_
  refine c_cons (s_call (xs := []) rfl rfl rfl rfl rfl rfl (by kernel_rfl) (fun w hs => awake_c _ w _ _ hs) ?_)
  rintro e w' ⟨G0, rfl, hG0, hs'⟩; refine a_ret ?_ hs'; clear hs'
  refine ww ?_
  refine c_cond_f rfl ?_
  refine ww ?_
  refine c_cons (s_call (xs := [_, _]) rfl rfl rfl rfl rfl rfl (by kernel_rfl) (fun w hs => room_c _ l 80 _ w _ _ (hl.up JdR.up hG0) hs) ?_)
  rintro e w' ⟨rfl, hs'⟩; refine a_ret ?_ hs'; clear hs'
  refine ww ?_
  refine c_part_nd 27 _ rfl (fun c2 => ?_) (fun c2 => ?_)
  · refine ww ?_
    refine c_cond_t rfl ?_
    refine ww ?_
    exact f_ret1 rfl rfl (fun w hs => ⟨G0, rfl, hG0, hs⟩)
  obtain ⟨hl80, hb2⟩ := c2
  refine ww ?_
  refine c_part_d 31 _ rfl (fun c3 => ?_) (fun c3 => ?_)
  · refine ww ?_
    refine c_cond_t rfl ?_
    refine ww ?_
    exact f_ret1 rfl rfl (fun w hs => ⟨G0, rfl, hG0, hs⟩)
  refine ww ?_
  refine c_cond_d rfl (fun c4 => ?_) (fun c4 => ?_)
  · refine ww ?_
    exact f_ret1 rfl rfl (fun w hs => ⟨G0, rfl, hG0, hs⟩)
  obtain ⟨S, rfl⟩ : ∃ S : Nat, n = S := ⟨n.toNat, by omega⟩
  refine ww ?_
  refine c_cons (s_call (xs := [_]) rfl rfl rfl rfl rfl rfl (by kernel_rfl) (fun w hs => new_c S (by omega) _ w _ _ hs) ?_)
  rintro e w' ⟨dp, B0, rfl, hD0, hs'⟩; refine a_ret ?_ hs'; clear hs'
  refine ww ?_
  refine c_cons (s_call (xs := [_]) rfl rfl rfl rfl rfl rfl (by kernel_rfl) (fun w hs => rnew_c S (by omega) _ w _ _ hs) ?_)
  rintro e w' ⟨G1, mp, M0, rfl, hG1, hM0, hs'⟩; refine a_ret ?_ hs'; clear hs'
  have hnl : (newD S).now.length = S := by simp [newD]
  refine c_sub (B0 ++ (M0 ++ F)) sbx ?_
  refine ww ?_
  by_cases hS6 : S < 6
  · refine c_cons (s_call (xs := [_]) rfl rfl rfl rfl rfl rfl (by kernel_rfl) (fun w hs => format_s dp B0 _ hD0 (by omega) _ w _ _ hs) ?_)
    rintro e w' ⟨rfl, hs'⟩; refine a_ret ?_ hs'; clear hs'
    refine c_sub (M0 ++ (B0 ++ F)) sbx ?_
    refine ww ?_
    refine c_cons (s_call (xs := [_]) rfl rfl rfl rfl rfl rfl (by kernel_rfl) (fun w hs => rformat_s mp M0 _ (by omega) _ w _ _ hM0 hs) ?_)
    rintro e w' ⟨rfl, hs'⟩; refine a_ret ?_ hs'; clear hs'
    refine ww ?_
    refine c_cond_f rfl ?_
    refine ww ?_
    refine c_cond_t rfl ?_
    refine ww ?_
    exact f_ret1 rfl rfl (fun w hs => ⟨G1, rfl, hG0.trans hG1, hs.sb⟩)
  obtain ⟨f1, f2, f3⟩ := fmt_new (m := S) (by omega)
  have hgd0 : Gd (newD S) := fun _ => rfl
  refine c_cons (s_call (xs := [_]) rfl rfl rfl rfl rfl rfl (by kernel_rfl) (fun w hs => format_c dp B0 (newD S) hD0 (by omega) (by simp [newD]) (by simp [newD]) _ w _ _ hs) ?_)
  rintro e w' ⟨G2, B1, v, hG2, rfl, hD1, ⟨_, jp, Bj1, rfl, hj1, hs'⟩ | ⟨hne, _⟩⟩
  rotate_left
  · exact absurd f1 hne
  refine a_ret ?_ hs'; clear hs'
  rw [f1]
  refine c_sub (M0 ++ (Bj1 ++ (B1 ++ F))) sbx ?_
  refine ww ?_
  refine c_cons (s_call (xs := [_]) rfl rfl rfl rfl rfl rfl (by kernel_rfl) (fun w hs => rformat_c mp M0 (newD S) hgd0 rfl (by omega) (by simp [newD]) (by simp [newD]) f1 _ w _ _ (hM0.up hG2) hs) ?_)
  rintro e w' ⟨G3, M1, rj, Br1, hG3, rfl, hM1, hr1, hs'⟩; refine a_ret ?_ hs'; clear hs'
  replace hj1 := hj1.up hG3
  refine ww ?_
  refine c_cond_f rfl ?_
  refine ww ?_
  refine c_cond_f rfl ?_
  have hGa := hG0.trans (hG1.trans (hG2.trans hG3))
  replace hl := hl.up JdR.up hGa
  have hP0 : Pl 0 S (fmtS (newD S)).1 J0 := ⟨f2.len, by omega, fun _ => by rw [f2.st.none, f2.st.same]; rfl, by rw [f2.st.none]; simp, by have := f2.o; omega, by have := f2.wj; rw [f2.len] at this; exact this, by simp [J0]⟩
  generalize (fmtS (newD S)).1 = D1 at hD1 hM1 hP0
  refine ww ?_
  refine c_loop (α := Dp) (fun x => [(1, .slice adl l.length cpl), (5, Pt dp 0), (7, Pt mp 0), (9, Pt x.jp 0), (11, Pt x.rj 0), (13, I64 (x.i : Int))]) (fun x => x.G) (fun x => x.Bj ++ (x.B ++ (x.Br ++ (x.Bm ++ F)))) (fun x => x.i ≤ l.length ∧ Im.le G3 x.G ∧ DH dp x.D x.B ∧ JH x.G x.jp dp x.J x.Bj ∧ MH x.G mp x.D x.Bm ∧ RJH x.G x.rj mp x.J x.Br ∧ Pl x.i S x.D x.J) (fun x => l.length - x.i) ⟨0, G3, D1, J0, B1, Bj1, M1, Br1, jp, rj⟩ ⟨Nat.zero_le _, Im.le_refl _, hD1, hj1, hM1, hr1, hP0⟩ ?_ ?_
  · exact n_at ⟨rfl, rfl, rfl, rfl, rfl, rfl, trivial⟩ sbx
  rintro ⟨i, Gi, D, J, B, Bj, Bm, Br, jp, rj⟩ ⟨hi, hGi, hD, hj, hM, hr, hP⟩
  dsimp only at hi hGi hD hj hM hr hP ⊢
  refine ww ?_
  refine c_cond_d rfl (fun c6 => ?_) (fun c6 => ?_)
  rotate_left
  · -- the images
    refine c_sub (B ++ (Bm ++ (Bj ++ (Br ++ F)))) sbx ?_
    refine ww ?_
    refine c_cons (s_call (xs := [_]) rfl rfl rfl rfl rfl rfl (by kernel_rfl) (fun w hs => image_c dp B D hD _ w _ _ hs) ?_)
    rintro e w' ⟨G5, u5, rfl, hG5, hu5, hs'⟩; refine a_ret ?_ hs'; clear hs'
    refine c_sub (Bm ++ (B ++ (Bj ++ (Br ++ F)))) sbx ?_
    refine ww ?_
    refine c_cons (s_call (xs := [_]) rfl rfl rfl rfl rfl rfl (by kernel_rfl) (fun w hs => rimage_c mp Bm D _ w _ _ (hM.up hG5) hs) ?_)
    rintro e w' ⟨G6, u6, rfl, hG6, hu6, hs'⟩; refine a_ret ?_ hs'; clear hs'
    refine c_cons (s_call (xs := [_, _]) rfl rfl rfl rfl rfl rfl (by kernel_rfl) (fun w hs => same_c _ _ (imgS D) (imgS D) _ w _ _ (hu5.up hG6) (hu6.up (Im.le_refl _)) hs) ?_)
    rintro e w' ⟨rfl, hs'⟩; refine a_ret ?_ hs'; clear hs'
    rw [decide_eq_true (rfl : imgS D = imgS D)]
    refine ww ?_
    exact f_ret1 rfl rfl (fun w hs => ⟨G6, rfl, hGa.trans (hGi.trans (hG5.trans hG6)), hs.sb⟩)
  have hil : i < l.length := by omega
  have hn8 : i ≤ 100 := by omega
  obtain ⟨x, hx⟩ : ∃ x, l[i]? = some x := ⟨_, List.getElem?_eq_getElem hil⟩
  have hxb : x.b.length ≤ 2000 := hb2 x (List.mem_of_getElem? hx)
  have hxn : x.n ≤ 9223372036854775807 := by
    obtain ⟨hi', rfl⟩ := List.getElem?_eq_some_iff.1 hx
    obtain ⟨b, o, c, cells, e1, ⟨u, rfl, hu, hn⟩, _, e3⟩ := hl.at (by decide) i hi'
    exact hn
  obtain ⟨bl, ol, cl, u, hvl2, hu0, hcel⟩ := Jd.at hl hx
  have hcl : adl = some ⟨bl, ol, none⟩ ∧ cpl = cl := by cases hvl2; exact ⟨rfl, rfl⟩
  obtain ⟨rfl, rfl⟩ := hcl
  have hu1 := hu0.one
  have h64 := hM.n64
  have hsm := hP.sm hn8
  refine ww ?_
  refine c_cons (s_val (v_index 3 rfl rfl (by kernel_rfl) (by omega)) rfl rfl rfl ?_)
  refine c_cons (s_val (v_loadAgg (vs := [I64 x.d, I64 x.n, u]) rfl (by kernel_rfl) (by kernel_rfl) rfl (fun j y hj => hcel _ _ j y hGi hj)) rfl rfl rfl ?_)
  refine c_cons (s_allocA [I64 0, I64 0, .slice none 0 0] (by kernel_rfl) rfl rfl fun b1 => ?_)
  refine c_cons (s_storeA (vs := [I64 x.d, I64 x.n, u]) rfl rfl rfl .head (by kernel_rfl) (fun y hy => by rcases List.mem_cons.1 hy with rfl | hy; exact rfl; rcases List.mem_cons.1 hy with rfl | hy; exact rfl; rw [List.mem_singleton.1 hy]; exact hu1) rfl ?_)
  refine c_freeze .head fun G4 hG4 k1 => ?_
  have hGi4 := hGi.trans hG4
  have hu : SV G4 [] u x.b.length (x.b.map B8) := hu0.up hGi4
  replace hj := hj.up hG4
  replace hM := hM.up hG4
  replace hr := hr.up hG4
  refine wn ?_
  refine c_seq ?_
  refine wn ?_
  -- the deed
  refine c_cut (α := Dp) (fun y => [(1, .slice (some ⟨bl, ol, none⟩) l.length cpl), (5, Pt dp 0), (7, Pt mp 0), (9, Pt y.jp 0), (11, Pt y.rj 0), (13, I64 (i : Int)), (15, .bool true)]) (fun y => y.G) (fun y => y.Bj ++ (y.B ++ (y.Br ++ (y.Bm ++ F)))) (fun y => Im.le G4 y.G ∧ DH dp y.D y.B ∧ JH y.G y.jp dp y.J y.Bj ∧ MH y.G mp y.D y.Bm ∧ RJH y.G y.rj mp y.J y.Br ∧ Pl (i + 1) S y.D y.J) ?_ ?_
  · refine ww ?_
    refine c_cons (s_val (v_field 0 rfl (by kernel_rfl)) rfl rfl rfl ?_)
    refine c_cons (s_val (v_load rfl (Cel.imm k1 rfl) (by kernel_rfl)) rfl rfl rfl ?_)
    refine ww ?_
    refine c_cond_d rfl (fun d1 => ?_) (fun d1 => ?_)
    · -- append
      have hP2 := hP.app hn8 x.b hxb
      refine ww ?_
      refine c_cons (s_val (v_field 2 rfl (by kernel_rfl)) rfl rfl rfl ?_)
      refine c_cons (s_val (v_load rfl (Cel.imm k1 rfl) (by kernel_rfl)) rfl rfl rfl ?_)
      refine c_cons (s_call (xs := [_, _]) rfl rfl rfl rfl rfl rfl (by kernel_rfl) (fun w hs => jappend_c jp dp B Bj D hD hP.hl J hP.w u x.b (by omega) hsm.1 hsm.2 _ w _ _ hj hu hs) ?_)
      rintro e w' ⟨G5, B5, Bj5, hG5, rfl, hD5, hj5, hs'⟩; refine a_ret ?_ hs'; clear hs'
      refine c_sub (Br ++ (Bm ++ (Bj5 ++ (B5 ++ F)))) sbx ?_
      replace k1 := hG5 _ _ k1
      refine ww ?_
      refine c_cons (s_val (v_field 2 rfl (by kernel_rfl)) rfl rfl rfl ?_)
      refine c_cons (s_val (v_load rfl (Cel.imm k1 rfl) (by kernel_rfl)) rfl rfl rfl ?_)
      refine c_cons (s_call (xs := [_, _]) rfl rfl rfl rfl rfl rfl (by kernel_rfl) (fun w hs => rjappend_c rj mp Bm Br D hP.gd hP.hl J hP.w u x.b (by omega) hsm.1 hsm.2 _ w _ _ (hM.up hG5) (hr.up hG5) (hu.up hG5) hs) ?_)
      rintro e w' ⟨G6, M6, Br6, hG6, rfl, hM6, hr6, hs'⟩; refine a_ret ?_ hs'; clear hs'
      refine ww ?_
      refine c_kt 15 rfl rfl ?_
      refine ww ?_
      exact n_mid ⟨i, G6, _, _, B5, Bj5, M6, Br6, jp, rj⟩ ⟨hG5.trans hG6, hD5, hj5.up hG6, hM6, hr6, hP2⟩ ⟨rfl, rfl, rfl, rfl, rfl, rfl, rfl, trivial⟩ rfl sbx
    refine ww ?_
    refine c_cons (s_val (v_field 0 rfl (by kernel_rfl)) rfl rfl rfl ?_)
    refine c_cons (s_val (v_load rfl (Cel.imm k1 rfl) (by kernel_rfl)) rfl rfl rfl ?_)
    refine ww ?_
    refine c_cond_d rfl (fun d2 => ?_) (fun d2 => ?_)
    · -- reset
      have hP2 := hP.rst hn8 x.b hxb
      refine ww ?_
      refine c_cons (s_val (v_field 2 rfl (by kernel_rfl)) rfl rfl rfl ?_)
      refine c_cons (s_val (v_load rfl (Cel.imm k1 rfl) (by kernel_rfl)) rfl rfl rfl ?_)
      refine c_cons (s_call (xs := [_, _]) rfl rfl rfl rfl rfl rfl (by kernel_rfl) (fun w hs => jreset_c jp dp B Bj D hD hP.hl J hP.w u x.b (by omega) hsm.1 hsm.2 _ w _ _ hj hu hs) ?_)
      rintro e w' ⟨G5, B5, Bj5, hG5, rfl, hD5, hj5, hs'⟩; refine a_ret ?_ hs'; clear hs'
      refine c_sub (Br ++ (Bm ++ (Bj5 ++ (B5 ++ F)))) sbx ?_
      replace k1 := hG5 _ _ k1
      refine ww ?_
      refine c_cons (s_val (v_field 2 rfl (by kernel_rfl)) rfl rfl rfl ?_)
      refine c_cons (s_val (v_load rfl (Cel.imm k1 rfl) (by kernel_rfl)) rfl rfl rfl ?_)
      refine c_cons (s_call (xs := [_, _]) rfl rfl rfl rfl rfl rfl (by kernel_rfl) (fun w hs => rjreset_c rj mp Bm Br D hP.gd hP.hl J hP.w u x.b (by omega) hsm.1 hsm.2 _ w _ _ (hM.up hG5) (hr.up hG5) (hu.up hG5) hs) ?_)
      rintro e w' ⟨G6, M6, Br6, hG6, rfl, hM6, hr6, hs'⟩; refine a_ret ?_ hs'; clear hs'
      refine ww ?_
      refine c_kt 15 rfl rfl ?_
      refine ww ?_
      exact n_mid ⟨i, G6, _, _, B5, Bj5, M6, Br6, jp, rj⟩ ⟨hG5.trans hG6, hD5, hj5.up hG6, hM6, hr6, hP2⟩ ⟨rfl, rfl, rfl, rfl, rfl, rfl, rfl, trivial⟩ rfl sbx
    refine ww ?_
    refine c_cons (s_val (v_field 0 rfl (by kernel_rfl)) rfl rfl rfl ?_)
    refine c_cons (s_val (v_load rfl (Cel.imm k1 rfl) (by kernel_rfl)) rfl rfl rfl ?_)
    refine ww ?_
    refine c_cond_d rfl (fun d3 => ?_) (fun d3 => ?_)
    · -- fuse
      refine c_sub (B ++ (Bj ++ (Br ++ (Bm ++ F)))) sbx ?_
      refine ww ?_
      refine c_cons (s_val (v_field 1 rfl (by kernel_rfl)) rfl rfl rfl ?_)
      refine c_cons (s_val (v_load rfl (Cel.imm k1 rfl) (by kernel_rfl)) rfl rfl rfl ?_)
      refine c_cons (s_call (xs := [_, _]) rfl rfl rfl rfl rfl rfl (by kernel_rfl) (fun w hs => fuseH_c dp B D hD x.n hxn _ w _ _ hs) ?_)
      rintro e w' ⟨B5, rfl, hD5, hs'⟩; refine a_ret ?_ hs'; clear hs'
      obtain ⟨vN, vL, vA, vW, B2, rfl, hM5⟩ := hM.fz x.n hxn
      refine c_sub (MO mp vN vL vA vW D.ops D.fuse D.dead :: (B2 ++ (B5 ++ (Bj ++ (Br ++ F))))) sbx ?_
      refine ww ?_
      refine c_cons (s_val (v_field 1 rfl (by kernel_rfl)) rfl rfl rfl ?_)
      refine c_cons (s_val (v_load rfl (Cel.imm k1 rfl) (by kernel_rfl)) rfl rfl rfl ?_)
      refine c_cons (s_val (v_max rfl rfl) rfl rfl rfl ?_)
      refine ww ?_
      refine c_cons (s_val (v_field 5 rfl (by kernel_rfl)) rfl rfl rfl ?_)
      refine c_cons (s_store1 rfl rfl rfl .head (by kernel_rfl) rfl (by simp) ?_)
      change Holds _ _ _ _ _ (MO mp vN vL vA vW D.ops (max x.n (-1)) D.dead :: (B2 ++ (B5 ++ (Bj ++ (Br ++ F))))) _
      refine ww ?_
      exact n_mid ⟨i, G4, _, _, B5, Bj, MO mp vN vL vA vW D.ops (max x.n (-1)) D.dead :: B2, Br, jp, rj⟩ ⟨Im.le_refl _, hD5, hj, hM5, hr, (hP.fuse x.n).up (Nat.le_succ _)⟩ ⟨rfl, rfl, rfl, rfl, rfl, rfl, rfl, trivial⟩ rfl sbx
    -- opened anew
    refine c_sub (B ++ (Bj ++ (Br ++ (Bm ++ F)))) sbx ?_
    refine ww ?_
    refine c_cons (s_call (xs := [_]) rfl rfl rfl rfl rfl rfl (by kernel_rfl) (fun w hs => jopen_c dp B D hD hP.hl h64 _ w _ _ hs) ?_)
    rintro e w' ⟨G5, hG5, ⟨o1, rfl, hs'⟩ | ⟨o1, o2, rfl, hs'⟩ | ⟨o1, J2, jq, Bj2, o2, rfl, hj2, hs'⟩⟩
    · refine a_ret ?_ hs'; clear hs'
      refine c_sub (Bm ++ (B ++ (Bj ++ (Br ++ F)))) sbx ?_
      refine ww ?_
      refine c_cons (s_call (xs := [_]) rfl rfl rfl rfl rfl rfl (by kernel_rfl) (fun w hs => ropen_c mp Bm D hP.hl2 _ w _ _ (hM.up hG5) hs) ?_)
      rintro e w' ⟨G6, hG6, ⟨q1, rfl, hs'⟩ | ⟨q1, _⟩ | ⟨q1, _⟩⟩
      rotate_left
      · rw [o1] at q1; cases q1
      · rw [o1] at q1; cases q1
      refine a_ret ?_ hs'; clear hs'
      refine ww ?_
      refine c_kt 15 rfl rfl ?_
      have hGx := hG5.trans hG6
      refine ww ?_
      refine c_cond_f rfl ?_
      refine ww ?_
      exact n_mid ⟨i, G6, D, J, B, Bj, Bm, Br, jp, rj⟩ ⟨hGx, hD, hj.up hGx, hM.up hGx, hr.up hGx, hP.up (Nat.le_succ _)⟩ ⟨rfl, rfl, rfl, rfl, rfl, rfl, rfl, trivial⟩ rfl sbx
    · refine a_ret ?_ hs'; clear hs'
      refine c_sub (Bm ++ (B ++ (Bj ++ (Br ++ F)))) sbx ?_
      refine ww ?_
      refine c_cons (s_call (xs := [_]) rfl rfl rfl rfl rfl rfl (by kernel_rfl) (fun w hs => ropen_c mp Bm D hP.hl2 _ w _ _ (hM.up hG5) hs) ?_)
      rintro e w' ⟨G6, hG6, ⟨q1, _⟩ | ⟨q1, q2, rfl, hs'⟩ | ⟨q1, J3, _, _, q2, _⟩⟩
      · rw [o1] at q1; cases q1
      rotate_left
      · rw [o2] at q2; cases q2
      refine a_ret ?_ hs'; clear hs'
      refine ww ?_
      refine c_kt 15 rfl rfl ?_
      have hGx := hG5.trans hG6
      refine ww ?_
      refine c_cond_f rfl ?_
      refine ww ?_
      exact n_mid ⟨i, G6, D, J, B, Bj, Bm, Br, jp, rj⟩ ⟨hGx, hD, hj.up hGx, hM.up hGx, hr.up hGx, hP.up (Nat.le_succ _)⟩ ⟨rfl, rfl, rfl, rfl, rfl, rfl, rfl, trivial⟩ rfl sbx
    · refine a_ret ?_ hs'; clear hs'
      refine c_sub (Bm ++ (B ++ (Bj2 ++ F))) sbx ?_
      refine ww ?_
      refine c_cons (s_call (xs := [_]) rfl rfl rfl rfl rfl rfl (by kernel_rfl) (fun w hs => ropen_c mp Bm D hP.hl2 _ w _ _ (hM.up hG5) hs) ?_)
      rintro e w' ⟨G6, hG6, ⟨q1, _⟩ | ⟨q1, q2, _⟩ | ⟨q1, J3, rq, Br3, q2, rfl, hr3, hs'⟩⟩
      · rw [o1] at q1; cases q1
      · rw [o2] at q2; cases q2
      rw [o2] at q2
      cases q2
      refine a_ret ?_ hs'; clear hs'
      refine ww ?_
      refine c_kt 15 rfl rfl ?_
      have hGx := hG5.trans hG6
      refine ww ?_
      refine c_cond_t rfl ?_
      refine ww ?_
      exact n_mid ⟨i, G6, D, J2, B, Bj2, Bm, Br3, jq, rq⟩ ⟨hGx, hD, hj2.up hG6, hM.up hGx, hr3, (hP.opn h64 o2).up (Nat.le_succ _)⟩ ⟨rfl, rfl, rfl, rfl, rfl, rfl, rfl, trivial⟩ rfl sbx
  rintro ⟨i', G6, D6, J6, B6, Bj6, M6, Br6, jp6, rj6⟩ ⟨hG6, hD6, hj6, hM6, hr6, hP6⟩
  dsimp only at hG6 hD6 hj6 hM6 hr6 hP6 ⊢
  have hGi6 := hGi4.trans hG6
  have hw6 := hP6.w
  obtain ⟨vN, vL, vA, vW, B2, rfl, _⟩ := hM6.mo
  obtain ⟨vr, Brr, rfl, hro⟩ := hr6
  refine ww ?_
  refine r_startS [RJO rj6 mp J6.hd J6.s vr, MO mp vN vL vA vW D6.ops D6.fuse D6.dead] [] (by kernel_rfl) (fun w h => h.sb) ?_
  refine r_tk 0 rfl rfl (v_move rfl) (fun _ h => (h.sb)) ?_
  refine r_tk 1 rfl rfl (v_not rfl) (fun _ h => (h.sb)) ?_
  refine r_tk 2 rfl rfl (v_move rfl) (fun _ h => (h.sb)) ?_
  refine r_tk 3 rfl rfl (v_move rfl) (fun _ h => (h.sb)) ?_
  refine r_tk 5 rfl rfl (v_move rfl) (fun _ h => (h.sb)) ?_
  refine r_tk 6 rfl rfl (v_nilCheck rfl) (fun _ h => (h.sb)) ?_
  refine r_tk 7 rfl rfl (v_field 5 rfl (by kernel_rfl)) (fun _ h => (h.sb)) ?_
  refine r_tk 8 rfl rfl (v_load rfl (Cel.head rfl) (by kernel_rfl)) (fun _ h => (h.sb)) ?_
  refine r_one 4 (by kernel_rfl) rfl ?_
  refine s_call (xs := [_]) rfl rfl rfl rfl rfl rfl (by kernel_rfl) (fun w hs => jall_c jp6 dp Bj6 J6 hw6.n hw6.r _ w _ _ hj6 hs) ?_
  rintro e w' ⟨G8, u8', rfl, hG8, hu8, hs'⟩; refine a_ret ?_ hs'; clear hs'
  refine r_next (fun w h => ((h.weaken hG8).sb)) ?_
  refine c_sub (Brr ++ (RJO rj6 mp J6.hd J6.s vr :: MO mp vN vL vA vW D6.ops D6.fuse D6.dead :: (B2 ++ (Bj6 ++ (B6 ++ F))))) sbx ?_
  refine r_one 9 (by kernel_rfl) rfl ?_
  refine s_call (xs := [_, _]) rfl rfl rfl rfl rfl rfl (by kernel_rfl) (fun w hs => rowsO_c _ _ J6.rows J6.rows Brr _ w _ _ hu8 (hro.up hG8) hs) ?_
  rintro e w' ⟨rfl, hs'⟩; refine a_ret ?_ hs'; clear hs'
  rw [decide_eq_true (rfl : J6.rows = J6.rows)]
  refine r_next (fun w h => ((h.weaken hG8).sb)) ?_
  refine r_tk 10 rfl rfl (v_not rfl) (fun _ h => ((h.weaken hG8).sb)) ?_
  refine r_tk 11 rfl rfl (v_pick_f rfl rfl) (fun _ h => ((h.weaken hG8).sb)) ?_
  refine r_tk 12 rfl rfl (v_move rfl) (fun _ h => ((h.weaken hG8).sb)) ?_
  refine r_tk 13 rfl rfl (v_move rfl) (fun _ h => ((h.weaken hG8).sb)) ?_
  refine r_tk 15 rfl rfl (v_move rfl) (fun _ h => ((h.weaken hG8).sb)) ?_
  refine c_sub (Bj6 ++ (B6 ++ (Brr ++ (RJO rj6 mp J6.hd J6.s vr :: MO mp vN vL vA vW D6.ops D6.fuse D6.dead :: (B2 ++ F))))) sbx ?_
  refine r_one 14 (by kernel_rfl) rfl ?_
  refine s_call (xs := [_]) rfl rfl rfl rfl rfl rfl (by kernel_rfl) (fun w hs => jroom_c jp6 dp B6 Bj6 D6 hD6 hP6.hl J6 hw6.gd _ w _ _ (hj6.up hG8) hs) ?_
  rintro e w' ⟨rfl, hs'⟩; refine a_ret ?_ hs'; clear hs'
  refine r_next (fun w h => ((h.weaken hG8).sb)) ?_
  refine c_sub ((RJO rj6 mp J6.hd J6.s vr :: Brr) ++ ((MO mp vN vL vA vW D6.ops D6.fuse D6.dead :: B2) ++ (Bj6 ++ (B6 ++ F)))) sbx ?_
  refine r_one 16 (by kernel_rfl) rfl ?_
  refine s_call (xs := [_]) rfl rfl rfl rfl rfl rfl (by kernel_rfl) (fun w hs => rjroom_c rj6 mp (MO mp vN vL vA vW D6.ops D6.fuse D6.dead :: B2) (RJO rj6 mp J6.hd J6.s vr :: Brr) D6 hP6.hl J6 hw6.gd _ w _ _ (hM6.up hG8) ⟨vr, Brr, rfl, hro.up hG8⟩ hs) ?_
  rintro e w' ⟨rfl, hs'⟩; refine a_ret ?_ hs'; clear hs'
  refine r_next (fun w h => ((h.weaken hG8).sb)) ?_
  refine r_tk 17 rfl rfl (v_neq rfl rfl) (fun _ h => ((h.weaken hG8).sb)) ?_
  refine r_tk 18 rfl rfl (v_pick_f rfl rfl) (fun _ h => ((h.weaken hG8).sb)) ?_
  refine r_tk 19 rfl rfl (v_move rfl) (fun _ h => ((h.weaken hG8).sb)) ?_
  refine c_kf 153 rfl (fun h => h rfl) ?_
  refine r_tk 20 rfl rfl (v_move rfl) (fun _ h => ((h.weaken hG8).sb)) ?_
  refine r_tk 22 rfl rfl (v_move rfl) (fun _ h => ((h.weaken hG8).sb)) ?_
  refine r_tk 23 rfl rfl (v_nilCheck rfl) (fun _ h => ((h.weaken hG8).sb)) ?_
  refine r_tk 24 rfl rfl (v_field 4 rfl (by kernel_rfl)) (fun _ h => ((h.weaken hG8).sb)) ?_
  refine r_tk 25 rfl rfl (v_load rfl (Cel.tail (Cel.head rfl)) (by kernel_rfl)) (fun _ h => ((h.weaken hG8).sb)) ?_
  refine c_sub (B6 ++ (Bj6 ++ (Brr ++ (RJO rj6 mp J6.hd J6.s vr :: MO mp vN vL vA vW D6.ops D6.fuse D6.dead :: (B2 ++ F))))) sbx ?_
  refine r_one 21 (by kernel_rfl) rfl ?_
  refine s_call (xs := [_]) rfl rfl rfl rfl rfl rfl (by kernel_rfl) (fun w hs => opsH_c dp B6 D6 hD6 _ w _ _ hs) ?_
  rintro e w' ⟨rfl, hs'⟩; refine a_ret ?_ hs'; clear hs'
  refine r_next (fun w h => ((h.weaken hG8).sb)) ?_
  refine r_tk 26 rfl rfl (v_neq rfl rfl) (fun _ h => ((h.weaken hG8).sb)) ?_
  refine r_tk 27 rfl rfl (v_pick_f rfl rfl) (fun _ h => ((h.weaken hG8).sb)) ?_
  refine r_done (by kernel_rfl) ?_
  refine ww ?_
  refine c_cond_d rfl (fun c => absurd rfl c) (fun _ => ?_)
  refine ww ?_
  exact n_next (x := (⟨i, Gi, D, J, B, Bj, Bm, Br, jp, rj⟩ : Dp)) ⟨i + 1, G8, D6, J6, B6, Bj6, MO mp vN vL vA vW D6.ops D6.fuse D6.dead :: B2, RJO rj6 mp J6.hd J6.s vr :: Brr, jp6, rj6⟩ ⟨hil, hGi6.trans hG8, hD6, hj6.up hG8, hM6.up hG8, ⟨vr, Brr, rfl, hro.up hG8⟩, hP6⟩ (by dsimp only; omega) ⟨rfl, rfl, rfl, rfl, rfl, rfl, trivial⟩ rfl sbx
end Go.Proofs.Ytkjneelekfdpfaa
