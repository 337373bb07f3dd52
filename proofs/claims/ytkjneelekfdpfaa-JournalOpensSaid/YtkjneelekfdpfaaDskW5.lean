/- The walks of package disk: Image, Load. -/
import Derived.Test.YtkjneelekfdpfaaDskW4
namespace Go.Proofs.Ytkjneelekfdpfaa
open Go
set_option linter.unusedVariables false
set_option linter.unusedSimpArgs false
set_option maxHeartbeats 3200000
attribute [local irreducible] Code.wp wpList stepK Holds Val wpR Eff Eff0 Code.wpIn wpListIn stepI Exit.then Exit.inBlock bodyPost bodyPostM

theorem DkR.n64 {D : Dk} {vn vl vs : Value} {Bn Bl Bs : Hp} (h : DkR D vn vl vs Bn Bl Bs) : ∀ x ∈ D.now, x.length = 64 := fun x hx => by
  obtain ⟨L, _, hR⟩ := h.n
  obtain ⟨j, hj, rfl⟩ := List.mem_iff_getElem.1 hx
  exact (hR.2 j D.now[j] (by simp [hj])).2
theorem flat_len : ∀ (l : List (List UInt8)), (∀ x ∈ l, x.length = 64) → l.flatten.length = l.length * 64
  | [], _ => rfl
  | x :: l, h => by
    rw [List.flatten_cons, List.length_append, flat_len l (fun y hy => h y (by simp [hy])), h x (by simp), List.length_cons]; omega

theorem image_c (dp : Nat) (B : Hp) (D : Dk) (hr : DH dp D B) (w0 w : World) (G : Im) (F : Hp) (hs : Sat w0 w G (B ++ F)) :
    Calls Try.prog 31 #[Pt dp 0] w fun e w' => ∃ G' u, e = .returned u ∧ Im.le G G' ∧ SV G' [] u (imgS D).length ((imgS D).map B8) ∧ Sat w0 w' G' (B ++ F) := by
  obtain ⟨vn, vl, vs, Bn, Bl, Bs, hB, hr⟩ := hr
  have hw := hr.wf
  have hk2 := hw.k2
  have hkM := hw.kM
  have h64 := hr.n64
  obtain ⟨bn, cn, Ln, rfl, hcn, hcM, hBn⟩ := hr.n.block (by omega)
  have hs1 : Sat w0 w G (DkO dp (Sl bn 0 D.now.length cn) vl vs D.fuse D.ops D.dead :: (Bn ++ (Bl ++ (Bs ++ F)))) := by rw [hB] at hs; exact hs.sb
  clear hs
  refine f_enter (vs := [_]) Try.func31 rfl Try.ntmps31 (by simp) hs1 ?_
  refine ww ?_
  refine c_cond_f rfl ?_
  refine ww ?_
  refine c_cons (s_val (v_field 0 rfl (by kernel_rfl)) rfl rfl rfl ?_)
  refine c_cons (s_val (v_load rfl (Cel.head rfl) (by kernel_rfl)) rfl rfl rfl ?_)
  refine ww ?_
  refine c_loop (α := Nat × Value × Hp) (fun x => [(3, x.2.1), (11, Sl bn 0 D.now.length cn), (12, I64 D.now.length), (13, I64 x.1)]) (fun _ => G) (fun x => DkO dp (Sl bn 0 D.now.length cn) vl vs D.fuse D.ops D.dead :: (Bn ++ (Bl ++ (Bs ++ (x.2.2 ++ F)))))
    (fun x => x.1 ≤ D.now.length ∧ Own x.2.1 (x.1 * 64) ((D.now.take x.1).flatten.map B8) 5 1 x.2.2) (fun x => D.now.length - x.1) (0, .slice none 0 0, []) ⟨Nat.zero_le _, Own.zero none _ _⟩ ?_ ?_
  · exact n_at ⟨rfl, rfl, rfl, rfl, trivial⟩ sbx
  rintro ⟨i, vo, Bo⟩ ⟨hi, ho⟩
  dsimp only at hi ho ⊢
  refine ww ?_
  refine c_cond_d rfl (fun c2 => ?_) (fun c2 => ?_)
  · -- then
    have hil : i < D.now.length := by omega
    obtain ⟨b0, o0, c0, cells, hv, ⟨hce, hx64⟩, hcl, hcel⟩ := (hr.n.here (G := G) (H := DkO dp (Sl bn 0 D.now.length cn) vl vs D.fuse D.ops D.dead :: (Bn ++ (Bl ++ (Bs ++ (Bo ++ F))))) (fun p hp => by simp [hp])).at (by decide) i hil
    cases hv
    subst hce
    have htk : (D.now.take (i + 1)).flatten = (D.now.take i).flatten ++ D.now[i] := by rw [List.take_succ_eq_append_getElem hil, List.flatten_append, List.flatten_cons, List.flatten_nil, List.append_nil]
    obtain ⟨X, hX⟩ : ∃ X, X = D.now[i] := ⟨_, rfl⟩
    rw [← hX] at hx64 hcl hcel htk
    refine ww ?_
    refine c_cons (s_val (v_index 64 rfl rfl (by kernel_rfl) (by omega)) rfl rfl rfl ?_)
    refine c_cons (s_val (v_loadAgg (vs := X.map B8) rfl (by kernel_rfl) (by kernel_rfl) hcl (fun j u hj => by rw [Int.toNat_natCast]; exact hcel j u hj)) rfl rfl rfl ?_)
    refine c_cons (s_allocA (List.replicate 64 (B8 0)) (by kernel_rfl) rfl rfl fun b1 => ?_)
    refine c_cons (s_storeA (vs := X.map B8) rfl rfl rfl .head (by rw [hcl]; kernel_rfl) (B8_ones X) (by rw [hcl]; rfl) ?_)
    refine ww ?_
    refine c_cons (s_val (v_field 0 rfl (by kernel_rfl)) rfl rfl rfl ?_)
    refine c_cons (s_val (v_slArr 64 1 rfl (by kernel_rfl)) rfl rfl rfl ?_)
    refine c_cons (s_append (e := 5) (z := B8 0) (sz := 1) (bs := 1) (by kernel_rfl) rfl rfl rfl rfl ho (Chunk.tail (Chunk.tail (Chunk.app (Chunk.app (Chunk.app Chunk.head))))) (SV.block .head (by decide)) rfl (by decide) (by rw [hcl]) (B8_ones X) (by omega) (by omega) fun u2 B2 hown2 => ?_)
    refine ww ?_
    exact n_next (x := (i, vo, Bo)) (i + 1, u2, B2) ⟨by dsimp only; omega, by dsimp only; rw [htk, List.map_append, show (i + 1) * 64 = i * 64 + 64 by omega]; exact hown2⟩ (by dsimp only; omega) ⟨rfl, rfl, rfl, rfl, trivial⟩ rfl sbx
  have e : i = D.now.length := by omega
  subst e
  rw [List.take_length, ← flat_len _ h64] at ho
  refine c_freezeO ho (Chunk.tail (Chunk.app (Chunk.app (Chunk.app Chunk.head)))) fun G1 hG1 hsv1 => ?_
  refine ww ?_
  exact f_ret1 rfl rfl (fun w hs => ⟨G1, _, rfl, hG1, hsv1, by rw [hB]; exact hs.sb⟩)

def chunks (m : Nat) (img : List UInt8) : List (List UInt8) := (List.range m).map fun i => (img.drop (i * 64)).take 64
theorem chunks_len (m : Nat) (img : List UInt8) : (chunks m img).length = m := by simp [chunks]
theorem chunks_flat : ∀ (m : Nat) (img : List UInt8), img.length = m * 64 → (chunks m img).flatten = img
  | 0, img, h => by simp at h; subst h; rfl
  | m + 1, img, h => by
    have e : chunks (m + 1) img = img.take 64 :: chunks m (img.drop 64) := by
      unfold chunks
      rw [List.range_succ_eq_map]
      simp only [List.map_cons, Nat.zero_mul, List.drop_zero, List.map_map, List.cons.injEq, true_and]
      apply List.map_congr_left
      intro j _
      simp only [Function.comp, List.drop_drop]
      congr 2; omega
    rw [e, List.flatten_cons, chunks_flat m (img.drop 64) (by rw [List.length_drop]; omega), List.take_append_drop]
/-- A disk loaded so far. -/
def ldN (m : Nat) (img : List UInt8) (i : Nat) : List (List UInt8) := (chunks m img).take i ++ List.replicate (m - i) z64
theorem ldN_len (m : Nat) (img : List UInt8) (i : Nat) (h : i ≤ m) : (ldN m img i).length = m := by unfold ldN; simp [chunks_len]; omega
theorem ldN_next (m : Nat) (img : List UInt8) (i : Nat) (h : i < m) : (ldN m img i).set i ((img.drop (i * 64)).take 64) = ldN m img (i + 1) := by
  have hc : (chunks m img)[i]'(by rw [chunks_len]; exact h) = (img.drop (i * 64)).take 64 := by simp [chunks]
  unfold ldN
  rw [List.take_succ_eq_append_getElem (l := chunks m img) (i := i) (by rw [chunks_len]; exact h), hc, List.set_append_right _ _ (by simp [chunks_len]; omega)]
  have : i - (List.take i (chunks m img)).length = 0 := by simp [chunks_len]; omega
  rw [this, show m - i = (m - (i + 1)) + 1 by omega, List.replicate_succ]
  simp
theorem ldN_all (m : Nat) (img : List UInt8) : ldN m img m = chunks m img := by
  unfold ldN; rw [Nat.sub_self, List.take_of_length_le (by rw [chunks_len]; exact Nat.le_refl _)]; simp

theorem load_n (v : Value) (img : List UInt8) (h : img.length / 64 < 2 ∨ img.length % 64 ≠ 0 ∧ img.length / 64 ≤ 4160) (hl : img.length ≤ 1000000) (w0 w : World) (G : Im) (F : Hp) (hv : SV G [] v img.length (img.map B8)) (hs : Sat w0 w G F) :
    Calls Try.prog 33 #[v] w fun e w' => e = .returned (.tuple #[.pointer none, I64 4]) ∧ Sat w0 w' G F := by
  obtain ⟨ad, cap, rfl⟩ := hv.form
  refine f_enter (vs := [_]) Try.func33 rfl Try.ntmps33 (by simp) hs ?_
  refine ww ?_
  refine c_cons (s_val (v_quo rfl rfl (by omega) (by omega)) rfl rfl rfl ?_)
  by_cases hq : img.length / 64 < 2
  · refine c_cons (s_call (xs := [_]) rfl rfl rfl rfl rfl rfl (by kernel_rfl) (fun w hs => new_n _ (by omega) _ w _ _ hs) ?_)
    rintro e w' ⟨rfl, hs'⟩; refine a_ret ?_ hs'; clear hs'
    refine ww ?_
    refine c_kt 16 rfl (by omega) ?_
    refine ww ?_
    refine c_cond_t rfl ?_
    refine ww ?_
    exact f_ret2 rfl rfl rfl (fun w hs => ⟨rfl, hs⟩)
  rw [show ((img.length : Int) / 64) = ((img.length / 64 : Nat) : Int) by omega]
  refine c_cons (s_call (xs := [_]) rfl rfl rfl rfl rfl rfl (by kernel_rfl) (fun w hs => new_c _ (by omega) _ w _ _ hs) ?_)
  rintro e w' ⟨dp, B, rfl, hD, hs'⟩; refine a_ret ?_ hs'; clear hs'
  refine ww ?_
  refine c_kf 16 rfl (by omega) ?_
  refine ww ?_
  refine c_cons (s_val (v_rem rfl rfl (by omega) (by omega)) rfl rfl rfl ?_)
  refine ww ?_
  refine c_cond_d rfl (fun c2 => ?_) (fun c2 => ?_)
  · -- then
    refine ww ?_
    exact f_ret2 rfl rfl rfl (fun w hs => ⟨rfl, hs.dropL⟩)
  omega

theorem load_c (m : Nat) (hm : 2 ≤ m ∧ m ≤ 4160) (v : Value) (img : List UInt8) (hl : img.length = m * 64) (w0 w : World) (G : Im) (F : Hp) (hv : SV G [] v img.length (img.map B8)) (hs : Sat w0 w G F) :
    Calls Try.prog 33 #[v] w fun e w' => ∃ dp B, e = .returned (.tuple #[Pt dp 0, I64 0]) ∧ DH dp ⟨chunks m img, chunks m img, [], -1, 0, false⟩ B ∧ Sat w0 w' G (B ++ F) := by
  obtain ⟨ad, cap, rfl⟩ := hv.form
  refine f_enter (vs := [_]) Try.func33 rfl Try.ntmps33 (by simp) hs ?_
  refine ww ?_
  refine c_cons (s_val (v_quo rfl rfl (by omega) (by omega)) rfl rfl rfl ?_)
  rw [show ((img.length : Int) / 64) = ((m : Nat) : Int) by omega]
  refine c_cons (s_call (xs := [_]) rfl rfl rfl rfl rfl rfl (by kernel_rfl) (fun w hs => new_c _ hm _ w _ _ hs) ?_)
  rintro e w' ⟨dp, B, rfl, hD, hs'⟩; refine a_ret ?_ hs'; clear hs'
  refine ww ?_
  refine c_kf 16 rfl (by omega) ?_
  refine ww ?_
  refine c_cons (s_val (v_rem rfl rfl (by omega) (by omega)) rfl rfl rfl ?_)
  refine ww ?_
  refine c_cond_d rfl (fun c2 => ?_) (fun c2 => ?_)
  · omega
  obtain ⟨vn, vl, vs, Bn, Bl, Bs, rfl, hr⟩ := hD
  have hln : (newD m).now.length = m := by simp [newD]
  have hll : (newD m).lasts.length = m := by simp [newD]
  obtain ⟨bn, cn, Ln, rfl, hcn, hcM, rfl⟩ := hr.n.block (by omega)
  obtain ⟨bl, cl, Ll, rfl, hcl, hcL, rfl⟩ := hr.l.block (by omega)
  have hrn := hr.n
  have hrl := hr.l
  have hrs := hr.s
  rw [hln] at hcn hrn ⊢
  rw [hll] at hcl hrl ⊢
  change Holds _ _ _ _ _ (DkO dp (Sl bn 0 m cn) (Sl bl 0 m cl) vs (-1) 0 false :: ([(bn, Cs Ln 92)] ++ ([(bl, Cs Ll 92)] ++ Bs)) ++ F) _
  refine c_sub (DkO dp (Sl bn 0 m cn) (Sl bl 0 m cl) vs (-1) 0 false :: (bn, Cs Ln 92) :: (bl, Cs Ll 92) :: (Bs ++ F)) sbx ?_
  refine ww ?_
  refine c_cons (s_val (v_field 0 rfl (by kernel_rfl)) rfl rfl rfl ?_)
  refine c_cons (s_val (v_load rfl (Cel.head rfl) (by kernel_rfl)) rfl rfl rfl ?_)
  refine ww ?_
  have hz0 : (newD m).now = ldN m img 0 := by simp [newD, ldN]
  rw [hz0] at hrn
  refine c_loop (α := Nat × List Value) (fun x => [(0, .slice ad img.length cap), (4, Pt dp 0), (26, I64 m), (27, I64 x.1)]) (fun _ => G) (fun x => DkO dp (Sl bn 0 m cn) (Sl bl 0 m cl) vs (-1) 0 false :: (bn, Cs x.2 92) :: (bl, Cs Ll 92) :: (Bs ++ F))
    (fun x => x.1 ≤ m ∧ RA 64 SecR 92 (Sl bn 0 m cn) (ldN m img x.1) [(bn, Cs x.2 92)]) (fun x => m - x.1) (0, Ln) ⟨Nat.zero_le _, hrn⟩ ?_ ?_
  · exact n_at ⟨rfl, rfl, rfl, rfl, trivial⟩ sbx
  rintro ⟨i, L⟩ ⟨hi, hra⟩
  dsimp only at hi hra ⊢
  refine ww ?_
  refine c_cond_d rfl (fun c3 => ?_) (fun c3 => ?_)
  · -- then
    have him : i < m := by omega
    obtain ⟨b', c', L', hve, hBe, hle, hput⟩ := hra.put i (by rw [ldN_len _ _ _ hi]; exact him)
    rw [ldN_len _ _ _ hi] at hve
    cases hve
    have e2 : L' = L := by
      simp only [List.cons.injEq, Prod.mk.injEq, true_and, and_true] at hBe
      exact List.toArray_inj (Obj.cells.inj hBe).1.symm
    subst e2
    have hcut := hv.lo (s := 1) (l := i * 64) (by omega) (by simp)
    rw [Nat.mul_one] at hcut
    have hi1 : ((i : Int) * 64) = ((i * 64 : Nat) : Int) := by omega
    have hpt : ((img.map B8).drop (i * 64)).take (64 * 1) = ((img.drop (i * 64)).take 64).map B8 := by rw [← List.map_drop, ← List.map_take]
    have hpl : (((img.drop (i * 64)).take 64).map B8).length = 64 := by simp; omega
    have hput := hput (((img.drop (i * 64)).take 64).map B8) ((img.drop (i * 64)).take 64) hpl ⟨rfl, by simpa using hpl⟩
    rw [ldN_next _ _ _ him] at hput
    refine ww ?_
    refine r_startS [DkO dp (Sl bn 0 m cn) (Sl bl 0 m cl) vs (-1) 0 false] [] (by kernel_rfl) (fun w h => h.sb) ?_
    refine r_tk 0 rfl rfl (v_move rfl) (fun _ h => (h.sb)) ?_
    refine r_tk 1 rfl rfl (v_nilCheck rfl) (fun _ h => (h.sb)) ?_
    refine r_tk 2 rfl rfl (v_field 0 rfl (by kernel_rfl)) (fun _ h => (h.sb)) ?_
    refine r_tk 3 rfl rfl (v_load rfl (Cel.head rfl) (by kernel_rfl)) (fun _ h => (h.sb)) ?_
    refine r_tk 4 rfl rfl (v_move rfl) (fun _ h => (h.sb)) ?_
    refine r_tk 5 rfl rfl (v_index 64 rfl rfl (by kernel_rfl) (by omega)) (fun _ h => (h.sb)) ?_
    refine r_tk 6 rfl rfl (v_field 0 rfl (by kernel_rfl)) (fun _ h => (h.sb)) ?_
    refine r_tk 7 rfl rfl (v_slArr 64 1 rfl (by kernel_rfl)) (fun _ h => (h.sb)) ?_
    refine r_tk 8 rfl rfl (v_move rfl) (fun _ h => (h.sb)) ?_
    refine r_tk 9 rfl rfl (v_move rfl) (fun _ h => (h.sb)) ?_
    refine r_tk 10 rfl rfl (v_is (v_mul rfl rfl (by omega)) (show _ = I64 ((i * 64 : Nat) : Int) by rw [hi1])) (fun _ h => (h.sb)) ?_
    refine r_tk 11 rfl rfl (v_slLo (i * 64) 1 rfl rfl (by kernel_rfl) (by omega)) (fun _ h => (h.sb)) ?_
    refine r_one 12 (by kernel_rfl) rfl ?_
    refine s_copyD (e := 5) (z := B8 0) (sz := 1) (bs := 1) (by kernel_rfl) rfl rfl rfl rfl (.tail .head) (hcut.mono (Im.le_refl _) (by simp)) (by omega) (by simp) (by rw [Int.toNat_natCast]; omega) (fun u hu => B8_ones img u (List.mem_of_mem_drop hu)) ?_
    refine r_next (fun w h => (h.sb)) ?_
    refine r_done (by kernel_rfl) ?_
    rw [hpt, Int.toNat_natCast, show 0 + i * 64 + 0 = i * 64 by omega, Nat.mul_one]
    refine ww ?_
    exact n_next (x := (i, L')) (i + 1, _) ⟨by dsimp only; omega, hput⟩ (by dsimp only; omega) ⟨rfl, rfl, rfl, by simp [List.lookup], trivial⟩ rfl sbx
  have e : i = m := by omega
  subst e
  rw [ldN_all] at hra
  obtain ⟨Lc, hsvL, hRL⟩ := hra.here (G := G) (H := DkO dp (Sl bn 0 i cn) (Sl bl 0 i cl) vs (-1) 0 false :: (bn, Cs L 92) :: (bl, Cs Ll 92) :: (Bs ++ F)) (fun p hp => by simp at hp; simp [hp])
  have hLc := hRL.1
  rw [chunks_len] at hsvL hLc
  have hLl : i * 64 ≤ Ll.length := by
    obtain ⟨b', c', L', hv', hB', hle', _⟩ := hrl.put (i - 1) (by rw [hll]; omega)
    simp only [List.cons.injEq, Prod.mk.injEq, and_true] at hB'
    have := List.toArray_inj (Obj.cells.inj hB'.2).1
    rw [this]
    have e : (i - 1) * 64 + 64 = i * 64 := by omega
    omega
  refine ww ?_
  refine r_startS [DkO dp (Sl bn 0 i cn) (Sl bl 0 i cl) vs (-1) 0 false] [] (by kernel_rfl) (fun w h => h.sb) ?_
  refine r_tk 0 rfl rfl (v_move rfl) (fun _ h => (h.sb)) ?_
  refine r_tk 1 rfl rfl (v_nilCheck rfl) (fun _ h => (h.sb)) ?_
  refine r_tk 2 rfl rfl (v_field 1 rfl (by kernel_rfl)) (fun _ h => (h.sb)) ?_
  refine r_tk 3 rfl rfl (v_load rfl (Cel.head rfl) (by kernel_rfl)) (fun _ h => (h.sb)) ?_
  refine r_tk 4 rfl rfl (v_move rfl) (fun _ h => (h.sb)) ?_
  refine r_tk 5 rfl rfl (v_nilCheck rfl) (fun _ h => (h.sb)) ?_
  refine r_tk 6 rfl rfl (v_field 0 rfl (by kernel_rfl)) (fun _ h => (h.sb)) ?_
  refine r_tk 7 rfl rfl (v_load rfl (Cel.head rfl) (by kernel_rfl)) (fun _ h => (h.sb)) ?_
  refine r_one 8 (by kernel_rfl) rfl ?_
  refine s_copy (e := 92) (z := .agg (List.replicate 64 (B8 0)).toArray) (sz := 64) (bs := 64) (by kernel_rfl) rfl rfl rfl rfl (.tail (.tail .head)) hsvL (Nat.le_refl _) hLc (by omega) (hRL.all (by decide) (fun c x h => SecR.one h)) ?_
  refine r_next (fun w h => (h.sb)) ?_
  refine r_done (by kernel_rfl) ?_
  have hrl2 : RA 64 SecR 92 (Sl bl 0 i cl) (chunks i img) [(bl, Cs (Lc ++ Ll.drop Lc.length) 92)] := by
    obtain ⟨L0, ⟨hL0, ⟨_, _, h0, _⟩ | ⟨b, c, sl, hv0, hc0, hk0, hs0, hB0⟩⟩, _⟩ := hrl
    · omega
    · rw [hll] at hv0
      cases hv0
      have e5 : Ll = L0 ++ sl := by
        simp only [List.cons.injEq, Prod.mk.injEq, true_and, and_true] at hB0
        exact List.toArray_inj (Obj.cells.inj hB0).1
      refine ⟨Lc, ⟨by rw [chunks_len]; exact hLc, .inr ⟨bl, cl, Ll.drop Lc.length, by rw [chunks_len], hc0, by rw [chunks_len]; omega, ?_, rfl⟩⟩, hRL⟩
      have h6 : Ll.length = L0.length + sl.length := by rw [e5]; simp
      rw [List.length_drop]; omega
  rw [show Ll.take 0 ++ Lc ++ Ll.drop (0 + Lc.length) = Lc ++ Ll.drop Lc.length by simp]
  have hr2 : DkR ⟨chunks i img, chunks i img, [], -1, 0, false⟩ (Sl bn 0 i cn) (Sl bl 0 i cl) vs [(bn, Cs L 92)] [(bl, Cs (Lc ++ Ll.drop Lc.length) 92)] Bs :=
    ⟨⟨by dsimp only; rw [chunks_len]; exact hm.1, by dsimp only; rw [chunks_len]; exact hm.2, rfl, by simp, by simp, by simp, by simp⟩, hra, hrl2, hrs⟩
  refine ww ?_
  exact f_ret2 rfl rfl rfl (fun w hs => ⟨dp, _, rfl, ⟨_, _, _, _, _, _, rfl, hr2⟩, hs.sb⟩)

end Go.Proofs.Ytkjneelekfdpfaa
