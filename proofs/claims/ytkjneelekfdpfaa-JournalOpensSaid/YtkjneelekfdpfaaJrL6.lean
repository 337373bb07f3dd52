/- The laws of package journal: JournalOpens. -/
import Derived.Test.YtkjneelekfdpfaaJrL5
import Derived.Test.YtkjneelekfdpfaaJrR5
namespace Go.Proofs.Ytkjneelekfdpfaa
open Go
set_option linter.unusedVariables false
set_option linter.unusedSimpArgs false
set_option maxHeartbeats 3200000
section
variable {w0 w : World} {G : Im} {H : Hp} {env : Env} {P : Program} {dst : Option Tmp} {ty : TypeId} {pos : String} {aft : Array Edge} {g : Option (Nat × Bool)}
theorem v_shl8 {x y : Operand} {t t' : TypeId} {k : IntKind} {p : UInt8} {q : Int} (hx : ev env x = some (B8 p)) (hy : ev env y = some (.int k q)) (h : 0 ≤ q ∧ q ≤ 8) :
    Val P env G H ⟨dst, .binOp .shl t x y t', ty, pos, aft, g⟩ (B8 (lowB ((p.toNat : Int) * 2 ^ q.toNat))) := fun a n ds w0 w ht hs => by
  have := shift_shl .u8 k (p.toNat : Int) q h.1 h.2
  have h2 : IntKind.wrap .u8 ((p.toNat : Int) * 2 ^ q.toNat) = ((p.toNat : Int) * 2 ^ q.toNat) % 256 := by simp [IntKind.wrap, IntKind.bits, IntKind.signed]
  rw [h2, ← lowB_val] at this
  simp only [execOp, eqGuard, binOp, ht.eval hx, ht.eval hy, this]
  rfl
end
def IntR (G : Im) (c : List Value) (x : Int) : Prop := c = [I64 x]
theorem IntR.up : Up IntR := fun _ _ c x hG h => h
theorem chunks_64 {m : Nat} {img : List UInt8} (h : img.length = m * 64) : ∀ x ∈ chunks m img, x.length = 64 := by
  intro x hx
  unfold chunks at hx
  obtain ⟨i, hi, rfl⟩ := List.mem_map.1 hx
  have := List.mem_range.1 hi
  rw [List.length_take, List.length_drop]
  omega
theorem write_64 (D : Dk) (n : Int) (x : List UInt8) (h : ∀ y ∈ D.now, y.length = 64) : ∀ y ∈ (writeS D n x).1.now, y.length = 64 := by
  unfold writeS
  split
  · exact h
  · split
    · rename_i hh
      unfold opS
      by_cases hf : (addS D n.toNat x).fuse = 0
      · rw [if_pos hf]; exact h
      · rw [if_neg hf]
        intro y hy
        rcases List.mem_or_eq_of_mem_set hy with hy | hy
        · exact h y hy
        · rw [hy]; exact hh.2
    · exact h
theorem sync_64 (D : Dk) (h : ∀ y ∈ D.now, y.length = 64) : ∀ y ∈ (syncS D).1.now, y.length = 64 := by
  unfold syncS
  split
  · exact h
  · unfold opS
    by_cases hf : D.fuse = 0
    · rw [if_pos hf]; exact h
    · rw [if_neg hf]; exact h
theorem imgS_len {D : Dk} (h : ∀ x ∈ D.now, x.length = 64) : (imgS D).length = D.now.length * 64 := flat_len _ h
structure Do where
  i : Nat
  G : Im
  D : Dk
  J : Jn
  B : Hp
  Bj : Hp
structure Db where
  i : Nat
  v : Value
  xs : List UInt8
  B : Hp
attribute [local irreducible] Code.wp wpList stepK Holds Val wpR Eff Eff0 Code.wpIn wpListIn stepI Exit.then Exit.inBlock bodyPost bodyPostM

theorem imageO_c (dp : Nat) (B : Hp) (D : Dk) (hr : DH dp D B) (w0 w : World) (G : Im) (F : Hp) (hs : Sat w0 w G (B ++ F)) :
    Calls Try.prog 31 #[Pt dp 0] w fun e w' => ∃ u B', e = .returned u ∧ OB u (imgS D) B' ∧ Sat w0 w' G (B' ++ (B ++ F)) := by
  obtain ⟨vn, vl, vs, Bn, Bl, Bs, hB, hr⟩ := hr
  have hw := hr.wf
  have hk2 := hw.k2
  have hkM := hw.kM
  have h64 := hr.n64
  obtain ⟨bn, cn, Ln, rfl, hcn, hcM, hBn⟩ := hr.n.block (by omega)
  have hs1 : Sat w0 w G (DkO dp (Sl bn 0 D.now.length cn) vl vs D.fuse D.ops D.dead :: (Bn ++ (Bl ++ (Bs ++ F)))) := by rw [hB] at hs; exact hs.sb
  clear hs
  refine f_enter (vs := [_]) Try.func31 rfl Try.ntmps31 (by simp) hs1 ?_
  refine ww ?_
  refine c_cond_f rfl ?_
  refine ww ?_
  refine c_cons (s_val (v_field 0 rfl (by kernel_rfl)) rfl rfl rfl ?_)
  refine c_cons (s_val (v_load rfl (Cel.head rfl) (by kernel_rfl)) rfl rfl rfl ?_)
  refine ww ?_
  refine c_loop (α := Nat × Value × Hp) (fun x => [(3, x.2.1), (11, Sl bn 0 D.now.length cn), (12, I64 D.now.length), (13, I64 x.1)]) (fun _ => G) (fun x => DkO dp (Sl bn 0 D.now.length cn) vl vs D.fuse D.ops D.dead :: (Bn ++ (Bl ++ (Bs ++ (x.2.2 ++ F)))))
    (fun x => x.1 ≤ D.now.length ∧ Own x.2.1 (x.1 * 64) ((D.now.take x.1).flatten.map B8) 5 1 x.2.2) (fun x => D.now.length - x.1) (0, .slice none 0 0, []) ⟨Nat.zero_le _, Own.zero none _ _⟩ ?_ ?_
  · exact n_at ⟨rfl, rfl, rfl, rfl, trivial⟩ sbx
  rintro ⟨i, vo, Bo⟩ ⟨hi, ho⟩
  dsimp only at hi ho ⊢
  refine ww ?_
  refine c_cond_d rfl (fun c2 => ?_) (fun c2 => ?_)
  · -- then
    have hil : i < D.now.length := by omega
    obtain ⟨b0, o0, c0, cells, hv, ⟨hce, hx64⟩, hcl, hcel⟩ := (hr.n.here (G := G) (H := DkO dp (Sl bn 0 D.now.length cn) vl vs D.fuse D.ops D.dead :: (Bn ++ (Bl ++ (Bs ++ (Bo ++ F))))) (fun p hp => by simp [hp])).at (by decide) i hil
    cases hv
    subst hce
    have htk : (D.now.take (i + 1)).flatten = (D.now.take i).flatten ++ D.now[i] := by rw [List.take_succ_eq_append_getElem hil, List.flatten_append, List.flatten_cons, List.flatten_nil, List.append_nil]
    obtain ⟨X, hX⟩ : ∃ X, X = D.now[i] := ⟨_, rfl⟩
    rw [← hX] at hx64 hcl hcel htk
    refine ww ?_
    refine c_cons (s_val (v_index 64 rfl rfl (by kernel_rfl) (by omega)) rfl rfl rfl ?_)
    refine c_cons (s_val (v_loadAgg (vs := X.map B8) rfl (by kernel_rfl) (by kernel_rfl) hcl (fun j u hj => by rw [Int.toNat_natCast]; exact hcel j u hj)) rfl rfl rfl ?_)
    refine c_cons (s_allocA (List.replicate 64 (B8 0)) (by kernel_rfl) rfl rfl fun b1 => ?_)
    refine c_cons (s_storeA (vs := X.map B8) rfl rfl rfl .head (by rw [hcl]; kernel_rfl) (B8_ones X) (by rw [hcl]; rfl) ?_)
    refine ww ?_
    refine c_cons (s_val (v_field 0 rfl (by kernel_rfl)) rfl rfl rfl ?_)
    refine c_cons (s_val (v_slArr 64 1 rfl (by kernel_rfl)) rfl rfl rfl ?_)
    refine c_cons (s_append (e := 5) (z := B8 0) (sz := 1) (bs := 1) (by kernel_rfl) rfl rfl rfl rfl ho (Chunk.tail (Chunk.tail (Chunk.app (Chunk.app (Chunk.app Chunk.head))))) (SV.block .head (by decide)) rfl (by decide) (by rw [hcl]) (B8_ones X) (by omega) (by omega) fun u2 B2 hown2 => ?_)
    refine ww ?_
    exact n_next (x := (i, vo, Bo)) (i + 1, u2, B2) ⟨by dsimp only; omega, by dsimp only; rw [htk, List.map_append, show (i + 1) * 64 = i * 64 + 64 by omega]; exact hown2⟩ (by dsimp only; omega) ⟨rfl, rfl, rfl, rfl, trivial⟩ rfl sbx
  have e : i = D.now.length := by omega
  subst e
  rw [List.take_length, ← flat_len _ h64] at ho
  refine ww ?_
  exact f_ret1 rfl rfl (fun w hs => ⟨_, Bo, rfl, ho, by rw [hB]; exact hs.sb⟩)


theorem opens_c (vl vh : Value) (l : List Jd) (hits : List Int) (w0 w : World) (G : Im) (F : Hp) (hl : RecV 3 JdR G vl l) (hh : RecV 1 IntR G vh hits) (hs : Sat w0 w G F) :
    Calls Try.prog 8 #[vl, vh] w fun e w' => ∃ G', e = .returned (.bool true) ∧ Im.le G G' ∧ Sat w0 w' G' F := by
  obtain ⟨adl, cpl, hvl, hl1, hl2⟩ := hl.form
  obtain ⟨adh, cph, hvh, hh1, hh2⟩ := hh.form
  unfold maxLen at hl2 hh2
  subst hvl hvh
  refine f_enter (vs := [_, _]) Try.func8 rfl Try.ntmps8 (by simp) hs ?_
  refine ww ?_
  refine c_cons (s_call (xs := []) rfl rfl rfl rfl rfl rfl (by kernel_rfl) (fun w hs => awake_c _ w _ _ hs) ?_)
  rintro e w' ⟨G0, rfl, hG0, hs'⟩; refine a_ret ?_ hs'; clear hs'
  refine ww ?_
  refine c_cond_f rfl ?_
  refine ww ?_
  refine c_cons (s_call (xs := [_, _]) rfl rfl rfl rfl rfl rfl (by kernel_rfl) (fun w hs => room_c _ l 30 _ w _ _ (hl.up JdR.up hG0) hs) ?_)
  rintro e w' ⟨rfl, hs'⟩; refine a_ret ?_ hs'; clear hs'
  refine ww ?_
  refine c_part_nd 26 _ rfl (fun c2 => ?_) (fun c2 => ?_)
  · refine ww ?_
    refine c_cond_t rfl ?_
    refine ww ?_
    exact f_ret1 rfl rfl (fun w hs => ⟨G0, rfl, hG0, hs⟩)
  obtain ⟨hl30, hb2⟩ := c2
  refine ww ?_
  refine c_cond_d rfl (fun c3 => ?_) (fun c3 => ?_)
  · refine ww ?_
    exact f_ret1 rfl rfl (fun w hs => ⟨G0, rfl, hG0, hs⟩)
  refine ww ?_
  refine c_cons (s_call (xs := [_]) rfl rfl rfl rfl rfl rfl (by kernel_rfl) (fun w hs => new_c 20 (by decide) _ w _ _ hs) ?_)
  rintro e w' ⟨dp, B0, rfl, hD0, hs'⟩; refine a_ret ?_ hs'; clear hs'
  refine ww ?_
  refine c_cons (s_call (xs := [_]) rfl rfl rfl rfl rfl rfl (by kernel_rfl) (fun w hs => format_n dp B0 20 (by decide) hD0 _ w _ _ hs) ?_)
  rintro e w' ⟨G1, jp, Bj1, B1, D1, rfl, hG1, hD1, f2, lv1, hj1, hs'⟩; refine a_ret ?_ hs'; clear hs'
  refine ww ?_
  refine c_cond_f rfl ?_
  have hGa := hG0.trans hG1
  replace hl := hl.up JdR.up hGa
  replace hh := hh.up IntR.up hGa
  have hP0 : Pl 0 20 D1 J0 := ⟨f2.len, by omega, fun _ => by rw [f2.st.none, f2.st.same]; rfl, by rw [f2.st.none]; simp, by have := f2.o; omega, by have := f2.wj; rw [f2.len] at this; exact this, by simp [J0]⟩
  have h640 : ∀ x ∈ D1.now, x.length = 64 := f2.st.inv.s64
  refine wn ?_
  -- the deeds
  refine c_cut (α := Do) (fun x => [(1, .slice adh hits.length cph), (5, Pt dp 0)]) (fun x => x.G) (fun x => x.B ++ F) (fun x => Im.le G1 x.G ∧ DH dp x.D x.B ∧ x.D.now.length = 20 ∧ ∀ y ∈ x.D.now, y.length = 64) ?_ ?_
  · refine ww ?_
    refine c_loop (α := Do) (fun x => [(0, .slice adl l.length cpl), (1, .slice adh hits.length cph), (5, Pt dp 0), (7, Pt jp 0), (9, I64 (x.i : Int))]) (fun x => x.G) (fun x => x.Bj ++ (x.B ++ F)) (fun x => x.i ≤ l.length ∧ Im.le G1 x.G ∧ DH dp x.D x.B ∧ JH x.G jp dp x.J x.Bj ∧ Pl x.i 20 x.D x.J ∧ ∀ y ∈ x.D.now, y.length = 64) (fun x => l.length - x.i) ⟨0, G1, D1, J0, B1, Bj1⟩ ⟨Nat.zero_le _, Im.le_refl _, hD1, hj1, hP0, h640⟩ ?_ ?_
    · exact n_at ⟨rfl, rfl, rfl, rfl, rfl, trivial⟩ sbx
    rintro ⟨i, Gi, D, J, B, Bj⟩ ⟨hi, hGi, hD, hj, hP, h64⟩
    dsimp only at hi hGi hD hj hP h64 ⊢
    refine ww ?_
    refine c_cond_d rfl (fun c6 => ?_) (fun c6 => ?_)
    rotate_left
    · refine ww ?_
      exact n_mid ⟨i, Gi, D, J, B, Bj⟩ ⟨hGi, hD, hP.len, h64⟩ ⟨rfl, rfl, trivial⟩ rfl sbx
    have hil : i < l.length := by omega
    have hn8 : i ≤ 100 := by omega
    obtain ⟨x, hx⟩ : ∃ x, l[i]? = some x := ⟨_, List.getElem?_eq_getElem hil⟩
    have hxb : x.b.length ≤ 2000 := hb2 x (List.mem_of_getElem? hx)
    obtain ⟨bl, ol, cl, u, hvl2, hu0, hcel⟩ := Jd.at hl hx
    have hcl : adl = some ⟨bl, ol, none⟩ ∧ cpl = cl := by cases hvl2; exact ⟨rfl, rfl⟩
    obtain ⟨rfl, rfl⟩ := hcl
    have hu : SV Gi [] u x.b.length (x.b.map B8) := hu0.up hGi
    have hsm := hP.sm hn8
    refine ww ?_
    refine c_cons (s_val (v_index 3 rfl rfl (by kernel_rfl) (by omega)) rfl rfl rfl ?_)
    refine c_cons (s_val (v_field 0 rfl (by kernel_rfl)) rfl rfl rfl ?_)
    refine c_cons (s_val (v_load rfl (hcel _ _ 0 _ hGi rfl) (by kernel_rfl)) rfl rfl rfl ?_)
    refine ww ?_
    refine c_cond_d rfl (fun d1 => ?_) (fun d1 => ?_)
    · have hP2 := hP.app hn8 x.b hxb
      have h642 : ∀ y ∈ (appS D J x.b).1.now, y.length = 64 := lay_keeps (P := fun D => ∀ y ∈ D.now, y.length = 64) write_64 sync_64 D J _ _ x.b h64
      refine ww ?_
      refine c_cons (s_val (v_index 3 rfl rfl (by kernel_rfl) (by omega)) rfl rfl rfl ?_)
      refine c_cons (s_val (v_field 2 rfl (by kernel_rfl)) rfl rfl rfl ?_)
      refine c_cons (s_val (v_load rfl (hcel _ _ 2 _ hGi rfl) (by kernel_rfl)) rfl rfl rfl ?_)
      refine c_cons (s_call (xs := [_, _]) rfl rfl rfl rfl rfl rfl (by kernel_rfl) (fun w hs => jappend_c jp dp B Bj D hD hP.hl J hP.w u x.b (by omega) hsm.1 hsm.2 _ w _ _ hj hu hs) ?_)
      rintro e w' ⟨G5, B5, Bj5, hG5, rfl, hD5, hj5, hs'⟩; refine a_ret ?_ hs'; clear hs'
      refine ww ?_
      exact n_next (x := (⟨i, Gi, D, J, B, Bj⟩ : Do)) ⟨i + 1, G5, _, _, B5, Bj5⟩ ⟨hil, hGi.trans hG5, hD5, hj5, hP2, h642⟩ (by dsimp only; omega) ⟨rfl, rfl, rfl, rfl, rfl, trivial⟩ rfl sbx
    refine ww ?_
    refine c_cons (s_val (v_index 3 rfl rfl (by kernel_rfl) (by omega)) rfl rfl rfl ?_)
    refine c_cons (s_val (v_field 0 rfl (by kernel_rfl)) rfl rfl rfl ?_)
    refine c_cons (s_val (v_load rfl (hcel _ _ 0 _ hGi rfl) (by kernel_rfl)) rfl rfl rfl ?_)
    refine ww ?_
    refine c_cond_d rfl (fun d2 => ?_) (fun d2 => ?_)
    · have hP2 := hP.rst hn8 x.b hxb
      have h642 : ∀ y ∈ (rstS D J x.b).1.now, y.length = 64 := lay_keeps (P := fun D => ∀ y ∈ D.now, y.length = 64) write_64 sync_64 D J _ _ x.b h64
      refine ww ?_
      refine c_cons (s_val (v_index 3 rfl rfl (by kernel_rfl) (by omega)) rfl rfl rfl ?_)
      refine c_cons (s_val (v_field 2 rfl (by kernel_rfl)) rfl rfl rfl ?_)
      refine c_cons (s_val (v_load rfl (hcel _ _ 2 _ hGi rfl) (by kernel_rfl)) rfl rfl rfl ?_)
      refine c_cons (s_call (xs := [_, _]) rfl rfl rfl rfl rfl rfl (by kernel_rfl) (fun w hs => jreset_c jp dp B Bj D hD hP.hl J hP.w u x.b (by omega) hsm.1 hsm.2 _ w _ _ hj hu hs) ?_)
      rintro e w' ⟨G5, B5, Bj5, hG5, rfl, hD5, hj5, hs'⟩; refine a_ret ?_ hs'; clear hs'
      refine ww ?_
      exact n_next (x := (⟨i, Gi, D, J, B, Bj⟩ : Do)) ⟨i + 1, G5, _, _, B5, Bj5⟩ ⟨hil, hGi.trans hG5, hD5, hj5, hP2, h642⟩ (by dsimp only; omega) ⟨rfl, rfl, rfl, rfl, rfl, trivial⟩ rfl sbx
    refine ww ?_
    exact n_next (x := (⟨i, Gi, D, J, B, Bj⟩ : Do)) ⟨i + 1, Gi, D, J, B, Bj⟩ ⟨hil, hGi, hD, hj, hP.up (Nat.le_succ _), h64⟩ (by dsimp only; omega) ⟨rfl, rfl, rfl, rfl, rfl, trivial⟩ rfl sbx
  rintro ⟨_, Gi, D, J, B, Bj⟩ ⟨hGi, hD, hDl, h64⟩
  dsimp only at hGi hD hDl h64 ⊢
  have hil := imgS_len h64
  rw [hDl] at hil
  refine ww ?_
  refine c_cons (s_call (xs := [_]) rfl rfl rfl rfl rfl rfl (by kernel_rfl) (fun w hs => imageO_c dp B D hD _ w _ _ hs) ?_)
  rintro e w' ⟨vi, Bi, rfl, hob, hs'⟩; refine a_ret ?_ hs'; clear hs'
  generalize imgS D = img0 at hil hob
  refine wn ?_
  -- the hits
  refine c_cut (α := Db) (fun x => [(10, x.v)]) (fun _ => Gi) (fun x => x.B ++ F) (fun x => x.xs.length = 1280 ∧ OB x.v x.xs x.B) ?_ ?_
  · refine ww ?_
    refine c_loop (α := Db) (fun x => [(1, .slice adh hits.length cph), (10, x.v), (11, I64 (x.i : Int))]) (fun _ => Gi) (fun x => x.B ++ F) (fun x => x.i ≤ hits.length ∧ x.xs.length = 1280 ∧ OB x.v x.xs x.B) (fun x => hits.length - x.i) ⟨0, vi, img0, Bi⟩ ⟨Nat.zero_le _, hil, hob⟩ ?_ ?_
    · exact n_at ⟨rfl, rfl, rfl, trivial⟩ sbx
    rintro ⟨i, v, xs, Bx⟩ ⟨hi, hxl, hox⟩
    dsimp only at hi hxl hox ⊢
    refine ww ?_
    refine c_cond_d rfl (fun c6 => ?_) (fun c6 => ?_)
    rotate_left
    · refine ww ?_
      exact n_mid ⟨i, v, xs, Bx⟩ ⟨hxl, hox⟩ ⟨rfl, trivial⟩ rfl sbx
    have hih : i < hits.length := by omega
    obtain ⟨bh, oh, ch, cells, hvh, hce, _, hch⟩ := hh.at (by decide) i hih
    cases hvh
    obtain ⟨q, hq⟩ : ∃ q, q = hits[i] := ⟨_, rfl⟩
    rw [← hq] at hce
    change cells = [I64 q] at hce
    subst hce
    have hcq : Cel Gi (Bx ++ F) bh (oh + (i : Int).toNat) (I64 q) := by
      have h := (hch [] 0 (I64 q) rfl).mono (H' := Bx ++ F) hGi (by simp)
      rw [Int.toNat_natCast]
      simpa using h
    have hq1 := Int.tmod_lt_of_pos q (show (0 : Int) < 10240 by decide)
    have hq2 := Int.tmod_lt_of_pos (-q) (show (0 : Int) < 10240 by decide)
    rw [Int.neg_tmod] at hq2
    obtain ⟨adx, cpx, rfl⟩ := hox.form
    rw [hxl]
    refine ww ?_
    refine c_cons (s_val (v_index1 rfl rfl (by kernel_rfl) (by omega)) rfl rfl rfl ?_)
    refine c_cons (s_val (v_load rfl hcq (by kernel_rfl)) rfl rfl rfl ?_)
    refine ww ?_
    refine c_cons (s_val (v_mul rfl rfl (by omega)) rfl rfl rfl ?_)
    rw [show ((1280 : Nat) : Int) * 8 = 10240 by decide]
    refine c_cons (s_val (v_remT rfl rfl (by decide)) rfl rfl rfl ?_)
    refine ww ?_
    refine c_cons (s_val (v_mul rfl rfl (by omega)) rfl rfl rfl ?_)
    rw [show ((1280 : Nat) : Int) * 8 = 10240 by decide]
    refine c_cons (s_val (v_add rfl rfl (by omega)) rfl rfl rfl ?_)
    refine ww ?_
    refine c_cons (s_val (v_mul rfl rfl (by omega)) rfl rfl rfl ?_)
    rw [show ((1280 : Nat) : Int) * 8 = 10240 by decide]
    refine c_cons (s_val (v_rem rfl rfl (by omega) (by decide)) rfl rfl rfl ?_)
    obtain ⟨k, hk⟩ : ∃ k : Nat, (k : Int) = (q.tmod 10240 + 10240) % 10240 := ⟨((q.tmod 10240 + 10240) % 10240).toNat, by omega⟩
    rw [← hk]
    have hk2 : k < 10240 := by omega
    have hk8 : k / 8 < xs.length := by rw [hxl]; omega
    rw [← hxl]
    obtain ⟨bx, cx, sl, hvx, hBx, hlt, hget, hset⟩ := Own.set (j := k / 8) hox hk8
    cases hvx
    subst hBx
    obtain ⟨y, hy⟩ : ∃ y, xs[k / 8]? = some y := ⟨_, List.getElem?_eq_getElem hk8⟩
    have hgy : (xs.map B8 ++ sl)[k / 8]? = some (B8 y) := by rw [hget, List.getElem?_map, hy]; rfl
    change Holds _ _ _ _ _ ((bx, Cs (xs.map B8 ++ sl) 5) :: F) _
    refine ww ?_
    refine c_cons (s_val (v_quo rfl rfl (by omega) (by decide)) rfl rfl rfl ?_)
    rw [show (k : Int) / 8 = ((k / 8 : Nat) : Int) by omega]
    refine c_cons (s_val (v_index1 rfl rfl (by kernel_rfl) (by omega)) rfl rfl rfl ?_)
    refine c_cons (s_val (v_load rfl (Cel.head (by rw [Int.toNat_natCast, Nat.zero_add]; exact hgy)) (by kernel_rfl)) rfl rfl rfl ?_)
    refine ww ?_
    refine c_cons (s_val (v_rem rfl rfl (by omega) (by decide)) rfl rfl rfl ?_)
    refine c_cons (s_val (v_tou rfl (by kernel_rfl) (by kernel_rfl) (by omega)) rfl rfl rfl ?_)
    refine c_cons (s_val (v_shl8 (p := 1) rfl rfl (by omega)) rfl rfl rfl ?_)
    refine c_cons (s_val (v_xor8 rfl rfl) rfl rfl rfl ?_)
    obtain ⟨z, hz⟩ : ∃ z, z = y ^^^ lowB (((1 : UInt8).toNat : Int) * 2 ^ ((k : Int) % 8).toNat) := ⟨_, rfl⟩
    rw [← hz]
    refine c_cons (s_val (v_index1 rfl rfl (by kernel_rfl) (by omega)) rfl rfl rfl ?_)
    refine c_cons (s_store1 rfl rfl rfl .head (by kernel_rfl) rfl (by rw [Int.toNat_natCast, Nat.zero_add]; exact hlt) ?_)
    rw [Int.toNat_natCast, Nat.zero_add]
    have ho2 : OB (Sl bx 0 xs.length cpx) (xs.set (k / 8) z) [(bx, Cs ((xs.map B8 ++ sl).set (k / 8) (B8 z)) 5)] := by
      have h := hset (B8 z)
      rw [← List.map_set] at h
      show Own _ (xs.set (k / 8) z).length _ _ _ _
      rw [List.length_set]
      exact h
    refine ww ?_
    exact n_next (x := (⟨i, Sl bx 0 xs.length cpx, xs, [(bx, Cs (xs.map B8 ++ sl) 5)]⟩ : Db)) ⟨i + 1, Sl bx 0 xs.length cpx, xs.set (k / 8) z, [(bx, Cs ((xs.map B8 ++ sl).set (k / 8) (B8 z)) 5)]⟩ ⟨hih, by rw [List.length_set], ho2⟩ (by dsimp only; omega) ⟨rfl, rfl, rfl, trivial⟩ rfl sbx
  rintro ⟨_, v, xs, Bx⟩ ⟨hxl, hox⟩
  dsimp only at hxl hox ⊢
  refine c_freezeO hox Chunk.head fun G5 hG5 hsv => ?_
  change SV G5 [] v xs.length (xs.map B8) at hsv
  refine ww ?_
  refine c_cons (s_call (xs := [_]) rfl rfl rfl rfl rfl rfl (by kernel_rfl) (fun w hs => load_c 20 (by decide) v xs (by omega) _ w _ _ hsv hs) ?_)
  rintro e w' ⟨xp, Bp, rfl, hDx, hs'⟩; refine a_ret ?_ hs'; clear hs'
  have hch := chunks_64 (m := 20) (img := xs) (by omega)
  have hcl := chunks_len 20 xs
  obtain ⟨L, hL⟩ : ∃ L, L = chunks 20 xs := ⟨_, rfl⟩
  rw [← hL] at hch hcl hDx
  refine ww ?_
  refine c_cons (s_call (xs := [_]) rfl rfl rfl rfl rfl rfl (by kernel_rfl) (fun w hs => rload_c 20 (by decide) v xs (by omega) _ w _ _ hsv hs) ?_)
  rw [← hL]
  rintro e w' ⟨G6, yp, Bq, rfl, hG6, hMy, hs'⟩; refine a_ret ?_ hs'; clear hs'
  have hGb := hGa.trans (hGi.trans (hG5.trans hG6))
  refine c_sub (Bp ++ (Bq ++ F)) sbx ?_
  refine ww ?_
  refine c_cons (s_call (xs := [_]) rfl rfl rfl rfl rfl rfl (by kernel_rfl) (fun w hs => jopen_c xp Bp _ hDx (by dsimp only; omega) hch _ w _ _ hs) ?_)
  rintro e w' ⟨G7, hG7, ⟨o1, _⟩ | ⟨o1, o2, rfl, hs'⟩ | ⟨o1, J2, jq, Bj2, o2, rfl, hj2, hs'⟩⟩
  · cases o1
  · refine a_ret ?_ hs'; clear hs'
    refine c_sub (Bq ++ (Bp ++ F)) sbx ?_
    refine ww ?_
    refine c_cons (s_call (xs := [_]) rfl rfl rfl rfl rfl rfl (by kernel_rfl) (fun w hs => ropen_c yp Bq _ (by dsimp only; omega) _ w _ _ (hMy.up hG7) hs) ?_)
    rintro e w' ⟨G8, hG8, ⟨q1, _⟩ | ⟨q1, q2, rfl, hs'⟩ | ⟨q1, J3, _, _, q2, _⟩⟩
    · cases q1
    rotate_left
    · rw [o2] at q2; cases q2
    refine a_ret ?_ hs'; clear hs'
    refine ww ?_
    refine r_startS [] [] (by kernel_rfl) (fun w h => h.none) ?_
    refine r_tk 0 rfl rfl (v_move rfl) (fun _ h => h.none) ?_
    refine r_tk 1 rfl rfl (v_move rfl) (fun _ h => h.none) ?_
    refine r_tk 2 rfl rfl (v_eql rfl rfl) (fun _ h => h.none) ?_
    refine r_tk 3 rfl rfl (v_move rfl) (fun _ h => h.none) ?_
    refine c_kt 136 rfl rfl ?_
    refine r_tk 4 rfl rfl (v_move rfl) (fun _ h => h.none) ?_
    refine r_tk 5 rfl rfl (v_neq rfl rfl) (fun _ h => h.none) ?_
    refine r_tk 6 rfl rfl (v_move rfl) (fun _ h => h.none) ?_
    refine c_kt 139 rfl (by decide) ?_
    refine r_tk 7 rfl rfl (v_move rfl) (fun _ h => h.none) ?_
    refine r_tk 8 rfl rfl (v_eqnilP rfl rfl (by kernel_rfl)) (fun _ h => h.none) ?_
    refine r_tk 9 rfl rfl (v_pick_t rfl rfl) (fun _ h => h.none) ?_
    refine r_tk 10 rfl rfl (v_move rfl) (fun _ h => h.none) ?_
    refine r_skip 11 rfl (by kernel_rfl) (by kernel_rfl) (by kernel_rfl) (by kernel_rfl) rfl rfl rfl (fun _ h => h.none) (by repeat (first | exact pk_body | exact pk_no | exact pk_S | apply pk_then | apply pk_block)) ?_; refine r_skip 12 rfl (by kernel_rfl) (by kernel_rfl) (by kernel_rfl) (by kernel_rfl) rfl rfl rfl (fun _ h => h.none) (by repeat (first | exact pk_body | exact pk_no | exact pk_S | apply pk_then | apply pk_block)) ?_; refine r_skip 13 rfl (by kernel_rfl) (by kernel_rfl) (by kernel_rfl) (by kernel_rfl) rfl rfl rfl (fun _ h => h.none) (by repeat (first | exact pk_body | exact pk_no | exact pk_S | apply pk_then | apply pk_block)) ?_; refine r_skip 14 rfl (by kernel_rfl) (by kernel_rfl) (by kernel_rfl) (by kernel_rfl) rfl rfl rfl (fun _ h => h.none) (by repeat (first | exact pk_body | exact pk_no | exact pk_S | apply pk_then | apply pk_block)) ?_; refine r_skip 15 rfl (by kernel_rfl) (by kernel_rfl) (by kernel_rfl) (by kernel_rfl) rfl rfl rfl (fun _ h => h.none) (by repeat (first | exact pk_body | exact pk_no | exact pk_S | apply pk_then | apply pk_block)) ?_; refine r_skip 16 rfl (by kernel_rfl) (by kernel_rfl) (by kernel_rfl) (by kernel_rfl) rfl rfl rfl (fun _ h => h.none) (by repeat (first | exact pk_body | exact pk_no | exact pk_S | apply pk_then | apply pk_block)) ?_; refine r_skip 17 rfl (by kernel_rfl) (by kernel_rfl) (by kernel_rfl) (by kernel_rfl) rfl rfl rfl (fun _ h => h.none) (by repeat (first | exact pk_body | exact pk_no | exact pk_S | apply pk_then | apply pk_block)) ?_; refine r_skip 18 rfl (by kernel_rfl) (by kernel_rfl) (by kernel_rfl) (by kernel_rfl) rfl rfl rfl (fun _ h => h.none) (by repeat (first | exact pk_body | exact pk_no | exact pk_S | apply pk_then | apply pk_block)) ?_; refine r_skip 19 rfl (by kernel_rfl) (by kernel_rfl) (by kernel_rfl) (by kernel_rfl) rfl rfl rfl (fun _ h => h.none) (by repeat (first | exact pk_body | exact pk_no | exact pk_S | apply pk_then | apply pk_block)) ?_; refine r_skip 20 rfl (by kernel_rfl) (by kernel_rfl) (by kernel_rfl) (by kernel_rfl) rfl rfl rfl (fun _ h => h.none) (by repeat (first | exact pk_body | exact pk_no | exact pk_S | apply pk_then | apply pk_block)) ?_; refine r_skip 21 rfl (by kernel_rfl) (by kernel_rfl) (by kernel_rfl) (by kernel_rfl) rfl rfl rfl (fun _ h => h.none) (by repeat (first | exact pk_body | exact pk_no | exact pk_S | apply pk_then | apply pk_block)) ?_; refine r_skip 22 rfl (by kernel_rfl) (by kernel_rfl) (by kernel_rfl) (by kernel_rfl) rfl rfl rfl (fun _ h => h.none) (by repeat (first | exact pk_body | exact pk_no | exact pk_S | apply pk_then | apply pk_block)) ?_; refine r_skip 23 rfl (by kernel_rfl) (by kernel_rfl) (by kernel_rfl) (by kernel_rfl) rfl rfl rfl (fun _ h => h.none) (by repeat (first | exact pk_body | exact pk_no | exact pk_S | apply pk_then | apply pk_block)) ?_; refine r_skip 24 rfl (by kernel_rfl) (by kernel_rfl) (by kernel_rfl) (by kernel_rfl) rfl rfl rfl (fun _ h => h.none) (by repeat (first | exact pk_body | exact pk_no | exact pk_S | apply pk_then | apply pk_block)) ?_; refine r_skip 25 rfl (by kernel_rfl) (by kernel_rfl) (by kernel_rfl) (by kernel_rfl) rfl rfl rfl (fun _ h => h.none) (by repeat (first | exact pk_body | exact pk_no | exact pk_S | apply pk_then | apply pk_block)) ?_; refine r_skip 26 rfl (by kernel_rfl) (by kernel_rfl) (by kernel_rfl) (by kernel_rfl) rfl rfl rfl (fun _ h => h.none) (by repeat (first | exact pk_body | exact pk_no | exact pk_S | apply pk_then | apply pk_block)) ?_; refine r_skip 27 rfl (by kernel_rfl) (by kernel_rfl) (by kernel_rfl) (by kernel_rfl) rfl rfl rfl (fun _ h => h.none) (by repeat (first | exact pk_body | exact pk_no | exact pk_S | apply pk_then | apply pk_block)) ?_; refine r_skip 28 rfl (by kernel_rfl) (by kernel_rfl) (by kernel_rfl) (by kernel_rfl) rfl rfl rfl (fun _ h => h.none) (by repeat (first | exact pk_body | exact pk_no | exact pk_S | apply pk_then | apply pk_block)) ?_
    refine r_tk 29 rfl rfl (v_pick_t rfl rfl) (fun _ h => h.none) ?_
    refine r_tk 30 rfl rfl (v_pick_t rfl rfl) (fun _ h => h.none) ?_
    refine r_tk 31 rfl rfl (v_assign rfl) (fun _ h => h.none) ?_
    refine r_done (by kernel_rfl) ?_
    refine ww ?_
    exact f_ret1 rfl rfl (fun w hs => ⟨G8, rfl, hGb.trans (hG7.trans hG8), hs.sb⟩)
  · refine a_ret ?_ hs'; clear hs'
    refine c_sub (Bq ++ (Bp ++ (Bj2 ++ F))) sbx ?_
    refine ww ?_
    refine c_cons (s_call (xs := [_]) rfl rfl rfl rfl rfl rfl (by kernel_rfl) (fun w hs => ropen_c yp Bq _ (by dsimp only; omega) _ w _ _ (hMy.up hG7) hs) ?_)
    rintro e w' ⟨G8, hG8, ⟨q1, _⟩ | ⟨q1, q2, _⟩ | ⟨q1, J3, rq, Br3, q2, rfl, hr3, hs'⟩⟩
    · cases q1
    · rw [o2] at q2; cases q2
    rw [o2] at q2
    cases q2
    refine a_ret ?_ hs'; clear hs'
    obtain ⟨hw, _⟩ := open_wj (L := L) (by omega) hch o2
    obtain ⟨vr, Brr, rfl, hro⟩ := hr3
    replace hj2 := hj2.up hG8
    refine ww ?_
    refine r_startS [RJO rq yp J2.hd J2.s vr] [] (by kernel_rfl) (fun w h => h.sb) ?_
    refine r_tk 0 rfl rfl (v_move rfl) (fun _ h => (h.sb)) ?_
    refine r_tk 1 rfl rfl (v_move rfl) (fun _ h => (h.sb)) ?_
    refine r_tk 2 rfl rfl (v_eql rfl rfl) (fun _ h => (h.sb)) ?_
    refine r_tk 3 rfl rfl (v_move rfl) (fun _ h => (h.sb)) ?_
    refine c_kt 136 rfl rfl ?_
    refine r_tk 4 rfl rfl (v_move rfl) (fun _ h => (h.sb)) ?_
    refine r_tk 5 rfl rfl (v_neq rfl rfl) (fun _ h => (h.sb)) ?_
    refine r_tk 6 rfl rfl (v_move rfl) (fun _ h => (h.sb)) ?_
    refine c_kf 139 rfl (by decide) ?_
    refine r_skip 7 rfl (by kernel_rfl) (by kernel_rfl) (by kernel_rfl) (by kernel_rfl) rfl rfl rfl (fun _ h => (h.sb)) (by repeat (first | exact pk_body | exact pk_no | exact pk_S | apply pk_then | apply pk_block)) ?_; refine r_skip 8 rfl (by kernel_rfl) (by kernel_rfl) (by kernel_rfl) (by kernel_rfl) rfl rfl rfl (fun _ h => (h.sb)) (by repeat (first | exact pk_body | exact pk_no | exact pk_S | apply pk_then | apply pk_block)) ?_
    refine r_tk 9 rfl rfl (v_pick_f rfl rfl) (fun _ h => (h.sb)) ?_
    refine r_tk 10 rfl rfl (v_move rfl) (fun _ h => (h.sb)) ?_
    refine r_tk 11 rfl rfl (v_move rfl) (fun _ h => (h.sb)) ?_
    refine r_tk 12 rfl rfl (v_eql rfl rfl) (fun _ h => (h.sb)) ?_
    refine r_tk 13 rfl rfl (v_move rfl) (fun _ h => (h.sb)) ?_
    refine c_kt 146 rfl rfl ?_
    refine r_tk 14 rfl rfl (v_move rfl) (fun _ h => (h.sb)) ?_
    refine r_tk 16 rfl rfl (v_move rfl) (fun _ h => (h.sb)) ?_
    refine r_tk 17 rfl rfl (v_nilCheck rfl) (fun _ h => (h.sb)) ?_
    refine r_tk 18 rfl rfl (v_field 5 rfl (by kernel_rfl)) (fun _ h => (h.sb)) ?_
    refine r_tk 19 rfl rfl (v_load rfl (Cel.head rfl) (by kernel_rfl)) (fun _ h => (h.sb)) ?_
    refine c_sub (Bj2 ++ (Bp ++ ((RJO rq yp J2.hd J2.s vr :: Brr) ++ (Bq ++ F)))) sbx ?_
    refine r_one 15 (by kernel_rfl) rfl ?_
    refine s_call (xs := [_]) rfl rfl rfl rfl rfl rfl (by kernel_rfl) (fun w hs => jall_c jq xp Bj2 J2 hw.n hw.r _ w _ _ hj2 hs) ?_
    rintro e w' ⟨G9, u9, rfl, hG9, hu9, hs'⟩; refine a_ret ?_ hs'; clear hs'
    refine r_next (fun w h => ((h.weaken hG9).sb)) ?_
    refine c_sub (Brr ++ (RJO rq yp J2.hd J2.s vr :: (Bq ++ (Bj2 ++ (Bp ++ F))))) sbx ?_
    refine r_one 20 (by kernel_rfl) rfl ?_
    refine s_call (xs := [_, _]) rfl rfl rfl rfl rfl rfl (by kernel_rfl) (fun w hs => rowsO_c _ _ J2.rows J2.rows Brr _ w _ _ hu9 (hro.up hG9) hs) ?_
    rintro e w' ⟨rfl, hs'⟩; refine a_ret ?_ hs'; clear hs'
    rw [decide_eq_true (rfl : J2.rows = J2.rows)]
    refine r_next (fun w h => ((h.weaken hG9).sb)) ?_
    refine r_tk 21 rfl rfl (v_pick_t rfl rfl) (fun _ h => ((h.weaken hG9).sb)) ?_
    refine r_tk 22 rfl rfl (v_move rfl) (fun _ h => ((h.weaken hG9).sb)) ?_
    refine r_tk 23 rfl rfl (v_move rfl) (fun _ h => ((h.weaken hG9).sb)) ?_
    refine r_tk 25 rfl rfl (v_move rfl) (fun _ h => ((h.weaken hG9).sb)) ?_
    refine c_sub (Bj2 ++ (Bp ++ (Brr ++ (RJO rq yp J2.hd J2.s vr :: (Bq ++ F))))) sbx ?_
    refine r_one 24 (by kernel_rfl) rfl ?_
    refine s_call (xs := [_]) rfl rfl rfl rfl rfl rfl (by kernel_rfl) (fun w hs => jroom_c jq xp Bp Bj2 _ hDx (by dsimp only; omega) J2 hw.gd _ w _ _ (hj2.up hG9) hs) ?_
    rintro e w' ⟨rfl, hs'⟩; refine a_ret ?_ hs'; clear hs'
    refine r_next (fun w h => ((h.weaken hG9).sb)) ?_
    refine c_sub ((RJO rq yp J2.hd J2.s vr :: Brr) ++ (Bq ++ (Bj2 ++ (Bp ++ F)))) sbx ?_
    refine r_one 26 (by kernel_rfl) rfl ?_
    refine s_call (xs := [_]) rfl rfl rfl rfl rfl rfl (by kernel_rfl) (fun w hs => rjroom_c rq yp Bq (RJO rq yp J2.hd J2.s vr :: Brr) _ (by dsimp only; omega) J2 hw.gd _ w _ _ (hMy.up (hG7.trans (hG8.trans hG9))) ⟨vr, Brr, rfl, hro.up hG9⟩ hs) ?_
    rintro e w' ⟨rfl, hs'⟩; refine a_ret ?_ hs'; clear hs'
    refine r_next (fun w h => ((h.weaken hG9).sb)) ?_
    refine r_tk 27 rfl rfl (v_eql rfl rfl) (fun _ h => ((h.weaken hG9).sb)) ?_
    refine r_tk 28 rfl rfl (v_pick_t rfl rfl) (fun _ h => ((h.weaken hG9).sb)) ?_
    refine r_tk 29 rfl rfl (v_pick_f rfl rfl) (fun _ h => ((h.weaken hG9).sb)) ?_
    refine r_tk 30 rfl rfl (v_pick_t rfl rfl) (fun _ h => ((h.weaken hG9).sb)) ?_
    refine r_tk 31 rfl rfl (v_assign rfl) (fun _ h => ((h.weaken hG9).sb)) ?_
    refine r_done (by kernel_rfl) ?_
    refine ww ?_
    refine f_ret1 rfl rfl (fun w hs => ⟨G9, ?_, hGb.trans (hG7.trans (hG8.trans hG9)), hs.sb⟩)
    simp
end Go.Proofs.Ytkjneelekfdpfaa
