/- The walk of package disk: Crash. -/
import Derived.Test.YtkjneelekfdpfaaDskW3
namespace Go.Proofs.Ytkjneelekfdpfaa
open Go
set_option linter.unusedVariables false
set_option linter.unusedSimpArgs false
set_option maxHeartbeats 6400000
attribute [local irreducible] Code.wp wpList stepK Holds Val wpR Eff Eff0 Code.wpIn wpListIn stepI Exit.then Exit.inBlock bodyPost bodyPostM

theorem sel_append (ch : List UInt8) : ∀ (l1 l2 : List (Nat × List UInt8)) (i : Nat), sel ch i (l1 ++ l2) = sel ch i l1 ++ sel ch (i + l1.length) l2
  | [], l2, i => rfl
  | p :: l1, l2, i => by
    simp only [List.cons_append, sel, sel_append ch l1 l2 (i + 1), List.length_cons, List.append_assoc]
    rw [show i + 1 + l1.length = i + (l1.length + 1) by omega]
theorem sel_take (ch : List UInt8) (l : List (Nat × List UInt8)) (j : Nat) (hj : j < l.length) : sel ch 0 (l.take (j + 1)) = sel ch 0 (l.take j) ++ (if chOn ch j then [l[j]] else []) := by
  rw [List.take_succ_eq_append_getElem hj, sel_append, List.length_take, show 0 + min j l.length = j by omega]
  simp [sel]
theorem sel_mem (ch : List UInt8) : ∀ (l : List (Nat × List UInt8)) (i : Nat), ∀ p ∈ sel ch i l, p ∈ l
  | [], _, p, hp => by cases hp
  | q :: l, i, p, hp => by
    simp only [sel] at hp
    rcases List.mem_append.1 hp with h | h
    · split at h
      · rw [List.mem_singleton.1 h]; simp
      · cases h
    · exact List.mem_cons_of_mem _ (sel_mem ch l _ p h)
theorem odd_eq (x : UInt8) : decide (((x.toNat % 2 : Nat) : Int) = 1) = odd8 x := by
  unfold odd8
  by_cases h : x.toNat % 2 = 1
  · simp [h]
  · have : x.toNat % 2 = 0 := by omega
    simp [this]

/-- Crash. -/
theorem crash_c (dp : Nat) (B : Hp) (D : Dk) (hr : DH dp D B) (vch : Value) (ch : List UInt8) (w0 w : World) (G : Im) (F : Hp) (hch : SV G F vch ch.length (ch.map B8)) (hs : Sat w0 w G (B ++ F)) :
    Calls Try.prog 21 #[Pt dp 0, vch] w fun e w' => ∃ cp B2, e = .returned (Pt cp 0) ∧ DH cp (crashS D ch) B2 ∧ Sat w0 w' G (B2 ++ (B ++ F)) := by
  have hrD := hr
  obtain ⟨vn, vl, vs, Bn, Bl, Bs, hB, hr⟩ := hr
  have hw := hr.wf
  have hk2 := hw.k2
  have hkM := hw.kM
  have hkl := hw.kl
  have hsm := hw.sm
  obtain ⟨bn, cn, Ln, rfl, hcn, hcM, hBn⟩ := hr.n.block (by omega)
  obtain ⟨bl, cl, Ll, rfl, hcl, hcL, hBl⟩ := hr.l.block (by omega)
  obtain ⟨Lc, hsvL, hRL⟩ := hr.l.here (G := G) (H := DkO dp (Sl bn 0 D.now.length cn) (Sl bl 0 D.lasts.length cl) vs D.fuse D.ops D.dead :: (Bn ++ (Bl ++ (Bs ++ F)))) (fun p hp => by simp [hp])
  have hLc := hRL.1
  have h64 := wr64 hr.s
  have hks : ∀ p ∈ D.since, p.1 < D.lasts.length ∧ p.2.length = 64 := fun p hp => ⟨by have := hw.ks p hp; omega, h64 p hp⟩
  have hmx : D.lasts.length ≤ maxLen := by unfold maxLen; omega
  obtain ⟨adc, cc, hvc, hc1, hc2, _⟩ := id hch
  unfold maxLen at hc2
  have hs1 : Sat w0 w G (DkO dp (Sl bn 0 D.now.length cn) (Sl bl 0 D.lasts.length cl) vs D.fuse D.ops D.dead :: (Bn ++ (Bl ++ (Bs ++ F)))) := by rw [hB] at hs; exact hs.sb
  clear hs
  refine f_enterM (vs := [_, _]) Try.func21 rfl Try.ntmps21 (by simp) hs1 ?_
  rw [hvc]
  refine ww ?_
  refine c_cons (s_box rfl rfl rfl fun bch => ?_)
  change Holds _ _ _ _ _ ((bch, Cs [.slice adc ch.length cc] 31) :: _) _
  refine ww ?_
  refine c_cons (s_val (v_field 0 rfl (by kernel_rfl)) rfl rfl rfl ?_)
  refine c_cons (s_val (v_load rfl (Cel.tail (Cel.head rfl)) (by kernel_rfl)) rfl rfl rfl ?_)
  refine ww ?_
  refine c_cond_f rfl ?_
  refine ww ?_
  refine c_cons (s_val (v_field 1 rfl (by kernel_rfl)) rfl rfl rfl ?_)
  refine c_cons (s_val (v_load rfl (Cel.tail (Cel.head rfl)) (by kernel_rfl)) rfl rfl rfl ?_)
  refine ww ?_
  refine c_cons (s_make 92 (.agg (List.replicate 64 (B8 0)).toArray) 64 64 D.lasts.length rfl rfl rfl rfl (by kernel_rfl) (by omega) (by omega) fun bL => ?_)
  refine c_cons (s_val (v_build (ps := [_, _]) #[.slice none 0 0, Sl bL 0 D.lasts.length D.lasts.length, .slice none 0 0, I64 (-1), I64 0, .bool false] rfl (by kernel_rfl)) rfl rfl rfl ?_)
  refine c_cons (s_boxA [_, _, _, _, _, _] rfl rfl rfl fun cp => ?_)
  refine c_cons (s_alloc (.pointer none) (by kernel_rfl) rfl rfl fun bc => ?_)
  refine c_cons (s_store1 rfl rfl rfl .head (by kernel_rfl) rfl (by simp [Value.cells]) ?_)
  change Holds _ _ _ _ _ ((bc, Cs [Pt cp 0] 23) :: DkO cp (.slice none 0 0) (Sl bL 0 D.lasts.length D.lasts.length) (.slice none 0 0) (-1) 0 false :: _) _
  have hmade : (madeCells (Value.agg (List.replicate 64 (B8 0)).toArray).cells (D.lasts.length * 64)).toList.length = D.lasts.length * 64 := by rw [Array.length_toList, size_madeCells]
  generalize (madeCells (Value.agg (List.replicate 64 (B8 0)).toArray).cells (D.lasts.length * 64)).toList = Lm at hmade
  refine c_sub ((bc, Cs [Pt cp 0] 23) :: DkO cp (.slice none 0 0) (Sl bL 0 D.lasts.length D.lasts.length) (.slice none 0 0) (-1) 0 false :: (bL, Cs Lm 92) :: (bch, Cs [.slice adc ch.length cc] 31) :: DkO dp (Sl bn 0 D.now.length cn) (Sl bl 0 D.lasts.length cl) vs D.fuse D.ops D.dead :: (Bn ++ (Bl ++ (Bs ++ F)))) sbx ?_
  refine ww ?_
  refine r_startS [(bc, Cs [Pt cp 0] 23), DkO cp (.slice none 0 0) (Sl bL 0 D.lasts.length D.lasts.length) (.slice none 0 0) (-1) 0 false, DkO dp (Sl bn 0 D.now.length cn) (Sl bl 0 D.lasts.length cl) vs D.fuse D.ops D.dead] [] (by kernel_rfl) (fun w h => h.sb) ?_
  refine r_tk 0 rfl rfl (v_load rfl (Cel.head rfl) (by kernel_rfl)) (fun _ h => (h.sb)) ?_
  refine r_tk 1 rfl rfl (v_nilCheck rfl) (fun _ h => (h.sb)) ?_
  refine r_tk 2 rfl rfl (v_field 1 rfl (by kernel_rfl)) (fun _ h => (h.sb)) ?_
  refine r_tk 3 rfl rfl (v_load rfl (Cel.tail (Cel.head rfl)) (by kernel_rfl)) (fun _ h => (h.sb)) ?_
  refine r_tk 4 rfl rfl (v_move rfl) (fun _ h => (h.sb)) ?_
  refine r_tk 5 rfl rfl (v_nilCheck rfl) (fun _ h => (h.sb)) ?_
  refine r_tk 6 rfl rfl (v_field 1 rfl (by kernel_rfl)) (fun _ h => (h.sb)) ?_
  refine r_tk 7 rfl rfl (v_load rfl (Cel.tail (Cel.tail (Cel.head rfl))) (by kernel_rfl)) (fun _ h => (h.sb)) ?_
  refine r_one 8 (by kernel_rfl) rfl ?_
  refine s_copy (e := 92) (z := .agg (List.replicate 64 (B8 0)).toArray) (sz := 64) (bs := 64) (by kernel_rfl) rfl rfl rfl rfl (.tail (.tail .head)) (hsvL.mono (Im.le_refl _) (fun p hp => by simp only [List.mem_cons] at hp ⊢; rcases hp with h | h <;> simp [h])) (Nat.le_refl _) hLc (by omega) (hRL.all (by decide) (fun c x h => SecR.one h)) ?_
  refine r_next (fun w h => (h.sb)) ?_
  refine r_done (by kernel_rfl) ?_
  rw [show Lm.take 0 ++ Lc ++ Lm.drop (0 + Lc.length) = Lc by rw [List.drop_of_length_le (by omega)]; simp]
  refine ww ?_
  refine c_cons (s_alloc (I64 0) (by kernel_rfl) rfl rfl fun bi => ?_)
  refine c_cons (s_store1 rfl rfl rfl .head (by kernel_rfl) rfl (by simp [Value.cells]) ?_)
  change Holds _ _ _ _ _ ((bi, Cs [I64 0] 3) :: _) _
  refine ww ?_
  refine c_cons (s_call (xs := [_]) rfl rfl rfl rfl rfl rfl (by kernel_rfl) (fun w hs => waits_c _ _ w _ _ hs) ?_)
  rintro e w' ⟨bw, rfl, hs'⟩; refine a_ret ?_ hs'; clear hs'
  refine ww ?_
  refine c_env [(35, .func (.func 68) #[] #[Pt bw 0]), (6, Pt bi 0), (5, Pt bc 0), (3, Pt bch 0)] ⟨rfl, rfl, rfl, rfl, trivial⟩ ?_
  refine c_sub ((bw, Cs [Pt dp 0] 23) :: (bi, Cs [I64 0] 3) :: (bc, Cs [Pt cp 0] 23) :: DkO cp (.slice none 0 0) (Sl bL 0 D.lasts.length D.lasts.length) (.slice none 0 0) (-1) 0 false :: (bL, Cs Lc 92) :: (bch, Cs [.slice adc ch.length cc] 31) :: DkO dp (Sl bn 0 D.now.length cn) (Sl bl 0 D.lasts.length cl) vs D.fuse D.ops D.dead :: (Bn ++ (Bl ++ (Bs ++ F)))) sbx ?_
  refine c_rangeC (β := Nat) (wrV D.since) ((bw, Cs [Pt dp 0] 23) :: DkO dp (Sl bn 0 D.now.length cn) (Sl bl 0 D.lasts.length cl) vs D.fuse D.ops D.dead :: Bs)
    (fun j => (bw, Cs [Pt dp 0] 23) :: (bi, Cs [I64 (j : Int)] 3) :: (bc, Cs [Pt cp 0] 23) :: DkO cp (.slice none 0 0) (Sl bL 0 D.lasts.length D.lasts.length) (.slice none 0 0) (-1) 0 false :: (bL, Cs (lsC Lc (sel ch 0 (D.since.take j))) 92) :: (bch, Cs [.slice adc ch.length cc] 31) :: DkO dp (Sl bn 0 D.now.length cn) (Sl bl 0 D.lasts.length cl) vs D.fuse D.ops D.dead :: (Bn ++ (Bl ++ (Bs ++ F))))
    (fun j z => [(7, Pt z 0), (6, Pt bi 0), (5, Pt bc 0), (3, Pt bch 0)]) (fun j z => [(z, Cs (I64 ((D.since.getD j (0, [])).1 : Int) :: (D.since.getD j (0, [])).2.map B8) 94)]) rfl (by kernel_rfl) rfl
    (waits1_it bw dp _ _ vs _ _ _ D.since Bs G hr.s) (fun j p hj hp => by simp only [List.mem_cons] at hp ⊢; rcases hp with h | h | h <;> simp [h]) ?_ ?_ ?_
  · intro j hj l H1 K hK
    have hj' : j < D.since.length := by simpa [wrV] using hj
    have hx : (wrV D.since)[j] = .agg (I64 ((D.since.getD j (0, [])).1 : Int) :: (D.since.getD j (0, [])).2.map B8).toArray := by simp [wrV, hj']
    have hl65 : (I64 ((D.since.getD j (0, [])).1 : Int) :: (D.since.getD j (0, [])).2.map B8).length = 65 := by simp [hj', h64 _ (List.getElem_mem hj')]
    have hone : ∀ u ∈ (I64 ((D.since.getD j (0, [])).1 : Int) :: (D.since.getD j (0, [])).2.map B8), u.oneCell' = true := WrR.one (p := D.since.getD j (0, [])) ⟨rfl, by simpa using hl65⟩
    rw [hx]
    refine wi ?_
    refine i_cons (i_allocA (I64 0 :: List.replicate 64 (B8 0)) (by kernel_rfl) rfl rfl fun z => ?_)
    refine i_cons (i_storeA (vs := I64 ((D.since.getD j (0, [])).1 : Int) :: (D.since.getD j (0, [])).2.map B8) rfl rfl rfl .head (by rw [hl65]; kernel_rfl) hone (by rw [hl65]; rfl) ?_)
    refine wi ?_
    exact c_env [(7, Pt z 0), (6, Pt bi 0), (5, Pt bc 0), (3, Pt bch 0)] ⟨rfl, rfl, rfl, rfl, trivial⟩ (hK z)
  · intro j hj l F' z
    have hj' : j < D.since.length := by simpa [wrV] using hj
    have hp := hks _ (List.getElem_mem hj')
    have hgd : D.since.getD j (0, []) = D.since[j] := by simp [hj']
    have hst := sel_take ch D.since j hj'
    rw [hgd]
    obtain ⟨X, hX⟩ : ∃ X, X = D.since[j] := ⟨_, rfl⟩
    rw [← hX] at hp hst ⊢
    have hA : (X.2.map B8).length = 64 := by simp [hp.2]
    obtain ⟨Lj, hLj⟩ : ∃ Lj, Lj = lsC Lc (sel ch 0 (D.since.take j)) := ⟨_, rfl⟩
    have hlc : Lj.length = Lc.length := by rw [hLj]; exact lsC_len (k := D.lasts.length) _ Lc (by omega) (fun p hp => hks p (List.mem_of_mem_take (sel_mem ch _ _ p hp)))
    have hle : (X.1 + 1) * 64 ≤ D.lasts.length * 64 := Nat.mul_le_mul_right _ hp.1
    have hoff : 0 + (X.1 : Int).toNat * 64 = X.1 * 64 := by rw [Int.toNat_natCast]; omega
    have hnx1 : chOn ch j = true → lsC Lc (sel ch 0 (D.since.take (j + 1))) = Lj.take (X.1 * 64) ++ X.2.map B8 ++ Lj.drop (X.1 * 64 + 64) := fun h => by rw [hst, if_pos h, hLj]; simp [lsC]
    have hnx0 : chOn ch j = false → lsC Lc (sel ch 0 (D.since.take (j + 1))) = Lj := fun h => by rw [hst, if_neg (by simp [h]), hLj]; simp
    rw [← hLj]
    refine i_block ?_
    refine c_sub ((z, Cs (I64 (X.1 : Int) :: X.2.map B8) 94) :: (bi, Cs [I64 (j : Int)] 3) :: (bc, Cs [Pt cp 0] 23) :: DkO cp (.slice none 0 0) (Sl bL 0 D.lasts.length D.lasts.length) (.slice none 0 0) (-1) 0 false :: (bL, Cs Lj 92) :: (bch, Cs [.slice adc ch.length cc] 31) :: (bw, Cs [Pt dp 0] 23) :: DkO dp (Sl bn 0 D.now.length cn) (Sl bl 0 D.lasts.length cl) vs D.fuse D.ops D.dead :: (F ++ (Bn ++ (Bl ++ (Bs ++ F'))))) sbx ?_
    refine wi ?_
    refine i_cons (i_val (v_load rfl (Cel.tail (Cel.head rfl)) (by kernel_rfl)) rfl rfl rfl rfl ?_)
    refine i_cons (i_val (v_load rfl (Cel.tail (Cel.tail (Cel.tail (Cel.tail (Cel.tail (Cel.head rfl)))))) (by kernel_rfl)) rfl rfl rfl rfl ?_)
    refine wi ?_
    refine c_part_d 41 _ rfl (fun c1 => ?_) (fun c1 => ?_)
    · have hon : chOn ch j = true := by unfold chOn; rw [decide_eq_true (by omega)]; rfl
      refine wi ?_
      refine i_cond_t rfl ?_
      refine i_drawn 9 (fun i => [49, 50, 51, 52, 53, 54, 55, 56, 57].getD i 0) (fun i => [Pt cp 0, Pt cp 0, Pt cp (0 + 1), Sl bL 0 D.lasts.length D.lasts.length, Pt z (0 + 0), I64 (X.1 : Int), Pt z (0 + 1), .agg (X.2.map B8).toArray, Pt bL (0 + (X.1 : Int).toNat * 64)].getD i undef) _ (by kernel_rfl) rfl rfl (by kernel_rfl) (by kernel_rfl) ?_ ?_
      · intro i hi
        match i, hi with
        | 0, _ => exact ⟨_, [], rfl, rfl, rfl, rfl, rfl, rfl, (by kernel_rfl), (by kernel_rfl), (by kernel_rfl), v_load rfl (Cel.tail (Cel.tail (Cel.head rfl))) (by kernel_rfl)⟩
        | 1, _ => exact ⟨_, [0], rfl, rfl, rfl, rfl, rfl, rfl, (by kernel_rfl), (by kernel_rfl), (by kernel_rfl), v_nilCheck rfl⟩
        | 2, _ => exact ⟨_, [1], rfl, rfl, rfl, rfl, rfl, rfl, (by kernel_rfl), (by kernel_rfl), (by kernel_rfl), v_field 1 rfl (by kernel_rfl)⟩
        | 3, _ => exact ⟨_, [2], rfl, rfl, rfl, rfl, rfl, rfl, (by kernel_rfl), (by kernel_rfl), (by kernel_rfl), v_load rfl (Cel.tail (Cel.tail (Cel.tail (Cel.head rfl)))) (by kernel_rfl)⟩
        | 4, _ => exact ⟨_, [], rfl, rfl, rfl, rfl, rfl, rfl, (by kernel_rfl), (by kernel_rfl), (by kernel_rfl), v_field 0 rfl (by kernel_rfl)⟩
        | 5, _ => exact ⟨_, [4], rfl, rfl, rfl, rfl, rfl, rfl, (by kernel_rfl), (by kernel_rfl), (by kernel_rfl), v_load rfl (Cel.head rfl) (by kernel_rfl)⟩
        | 6, _ => exact ⟨_, [], rfl, rfl, rfl, rfl, rfl, rfl, (by kernel_rfl), (by kernel_rfl), (by kernel_rfl), v_field 1 rfl (by kernel_rfl)⟩
        | 7, _ => exact ⟨_, [6], rfl, rfl, rfl, rfl, rfl, rfl, (by kernel_rfl), (by kernel_rfl), (by kernel_rfl), v_loadAgg (vs := X.2.map B8) rfl (by kernel_rfl) (by kernel_rfl) hA (fun q u hq => Cel.head (by rw [show 0 + 1 + q = q + 1 by omega]; exact hq))⟩
        | 8, _ => exact ⟨_, [3, 5], rfl, rfl, rfl, rfl, rfl, rfl, (by kernel_rfl), (by kernel_rfl), (by kernel_rfl), v_index 64 rfl rfl (by kernel_rfl) (by omega)⟩
      · refine i_storeAt (vs := X.2.map B8) rfl rfl rfl (.tail (.tail (.tail (.tail .head)))) (by rw [hA]; kernel_rfl) (B8_ones X.2) (by rw [hA, hoff, hlc]; omega) ?_
        rw [hoff, hA, ← hnx1 hon]
        refine wi ?_
        refine i_cons (i_val (v_load rfl (Cel.tail (Cel.tail (Cel.head rfl))) (by kernel_rfl)) rfl rfl rfl rfl ?_)
        refine wi ?_
        refine i_cons (i_store1 rfl rfl rfl (.tail (.tail .head)) (by kernel_rfl) rfl (by simp) ?_)
        change Holds _ _ _ _ _ ((bi, Cs [I64 ((j + 1 : Nat) : Int)] 3) :: _) _
        refine wi ?_
        unfold Holds
        exact fun a w ht hs => ⟨rfl, hs.sb⟩
    have hjc : j < ch.length := by omega
    obtain ⟨bq, oq, cq, hvq, hcq⟩ := hch.bytes (by omega)
    rw [hvc] at hvq
    cases hvq
    have hcx := (hcq j (B8 ch[j]) (by simp [hjc]))
    have hgx : ch.getD j 0 = ch[j] := by simp [hjc]
    obtain ⟨x, hx⟩ : ∃ x, x = ch[j] := ⟨_, rfl⟩
    rw [← hx] at hcx hgx
    have hon : chOn ch j = odd8 x := by unfold chOn; rw [decide_eq_false (by omega), hgx]; rfl
    refine wi ?_
    refine i_cons (i_val (v_load rfl (Cel.tail (Cel.tail (Cel.tail (Cel.tail (Cel.tail (Cel.head rfl)))))) (by kernel_rfl)) rfl rfl rfl rfl ?_)
    refine i_cons (i_val (v_load rfl (Cel.tail (Cel.head rfl)) (by kernel_rfl)) rfl rfl rfl rfl ?_)
    refine i_cons (i_val (v_index1 rfl rfl (by kernel_rfl) (by omega)) rfl rfl rfl rfl ?_)
    refine i_cons (i_val (v_load rfl (by rw [Int.toNat_natCast]; exact hcx.mono (Im.le_refl _) (fun p hp => by simp [hp])) (by kernel_rfl)) rfl rfl rfl rfl ?_)
    refine i_cons (i_val (v_and1 rfl rfl) rfl rfl rfl rfl ?_)
    refine i_cons (i_val (v_is (v_eql rfl rfl) (congrArg Value.bool (odd_eq x))) rfl rfl rfl rfl ?_)
    refine wi ?_
    cases hox : odd8 x with
    | true =>
      rw [hox] at hon
      refine i_cond_t rfl ?_
      refine i_drawn 9 (fun i => [49, 50, 51, 52, 53, 54, 55, 56, 57].getD i 0) (fun i => [Pt cp 0, Pt cp 0, Pt cp (0 + 1), Sl bL 0 D.lasts.length D.lasts.length, Pt z (0 + 0), I64 (X.1 : Int), Pt z (0 + 1), .agg (X.2.map B8).toArray, Pt bL (0 + (X.1 : Int).toNat * 64)].getD i undef) _ (by kernel_rfl) rfl rfl (by kernel_rfl) (by kernel_rfl) ?_ ?_
      · intro i hi
        match i, hi with
        | 0, _ => exact ⟨_, [], rfl, rfl, rfl, rfl, rfl, rfl, (by kernel_rfl), (by kernel_rfl), (by kernel_rfl), v_load rfl (Cel.tail (Cel.tail (Cel.head rfl))) (by kernel_rfl)⟩
        | 1, _ => exact ⟨_, [0], rfl, rfl, rfl, rfl, rfl, rfl, (by kernel_rfl), (by kernel_rfl), (by kernel_rfl), v_nilCheck rfl⟩
        | 2, _ => exact ⟨_, [1], rfl, rfl, rfl, rfl, rfl, rfl, (by kernel_rfl), (by kernel_rfl), (by kernel_rfl), v_field 1 rfl (by kernel_rfl)⟩
        | 3, _ => exact ⟨_, [2], rfl, rfl, rfl, rfl, rfl, rfl, (by kernel_rfl), (by kernel_rfl), (by kernel_rfl), v_load rfl (Cel.tail (Cel.tail (Cel.tail (Cel.head rfl)))) (by kernel_rfl)⟩
        | 4, _ => exact ⟨_, [], rfl, rfl, rfl, rfl, rfl, rfl, (by kernel_rfl), (by kernel_rfl), (by kernel_rfl), v_field 0 rfl (by kernel_rfl)⟩
        | 5, _ => exact ⟨_, [4], rfl, rfl, rfl, rfl, rfl, rfl, (by kernel_rfl), (by kernel_rfl), (by kernel_rfl), v_load rfl (Cel.head rfl) (by kernel_rfl)⟩
        | 6, _ => exact ⟨_, [], rfl, rfl, rfl, rfl, rfl, rfl, (by kernel_rfl), (by kernel_rfl), (by kernel_rfl), v_field 1 rfl (by kernel_rfl)⟩
        | 7, _ => exact ⟨_, [6], rfl, rfl, rfl, rfl, rfl, rfl, (by kernel_rfl), (by kernel_rfl), (by kernel_rfl), v_loadAgg (vs := X.2.map B8) rfl (by kernel_rfl) (by kernel_rfl) hA (fun q u hq => Cel.head (by rw [show 0 + 1 + q = q + 1 by omega]; exact hq))⟩
        | 8, _ => exact ⟨_, [3, 5], rfl, rfl, rfl, rfl, rfl, rfl, (by kernel_rfl), (by kernel_rfl), (by kernel_rfl), v_index 64 rfl rfl (by kernel_rfl) (by omega)⟩
      · refine i_storeAt (vs := X.2.map B8) rfl rfl rfl (.tail (.tail (.tail (.tail .head)))) (by rw [hA]; kernel_rfl) (B8_ones X.2) (by rw [hA, hoff, hlc]; omega) ?_
        rw [hoff, hA, ← hnx1 hon]
        refine wi ?_
        refine i_cons (i_val (v_load rfl (Cel.tail (Cel.tail (Cel.head rfl))) (by kernel_rfl)) rfl rfl rfl rfl ?_)
        refine wi ?_
        refine i_cons (i_store1 rfl rfl rfl (.tail (.tail .head)) (by kernel_rfl) rfl (by simp) ?_)
        change Holds _ _ _ _ _ ((bi, Cs [I64 ((j + 1 : Nat) : Int)] 3) :: _) _
        refine wi ?_
        unfold Holds
        exact fun a w ht hs => ⟨rfl, hs.sb⟩
    | false =>
      rw [hox] at hon
      refine i_cond_f rfl ?_
      refine wi ?_
      refine i_cons (i_val (v_load rfl (Cel.tail (Cel.head rfl)) (by kernel_rfl)) rfl rfl rfl rfl ?_)
      refine wi ?_
      refine i_cons (i_store1 rfl rfl rfl (.tail .head) (by kernel_rfl) rfl (by simp) ?_)
      change Holds _ _ _ _ _ ((bi, Cs [I64 ((j + 1 : Nat) : Int)] 3) :: _) _
      rw [hnx0 hon]
      refine wi ?_
      unfold Holds
      exact fun a w ht hs => ⟨rfl, hs.sb⟩
  · intro D'
    have hlw : (wrV D.since).length = D.since.length := by simp [wrV]
    rw [hlw, List.take_length]
    have hpl := ra_puts (sel ch 0 D.since) D.lasts Lc rfl (RA.one (b := bL) rfl hRL hmx) (fun p hp => hks p (sel_mem ch _ _ p hp))
    have hk3 : (putAll D.lasts (sel ch 0 D.since)).length = D.lasts.length := putAll_len _ _
    generalize hLA : lsC Lc (sel ch 0 D.since) = LA at hpl
    generalize hPA : putAll D.lasts (sel ch 0 D.since) = PA at hpl hk3
    obtain ⟨Lz, hsvz, hRz⟩ := hpl.here (G := G) (H := (bL, Cs LA 92) :: (D', .deferred (some [])) :: (bw, Cs [Pt dp 0] 23) :: (bi, Cs [I64 (D.since.length : Int)] 3) :: (bc, Cs [Pt cp 0] 23) :: DkO cp (.slice none 0 0) (Sl bL 0 D.lasts.length D.lasts.length) (.slice none 0 0) (-1) 0 false :: (bch, Cs [.slice adc ch.length cc] 31) :: DkO dp (Sl bn 0 D.now.length cn) (Sl bl 0 D.lasts.length cl) vs D.fuse D.ops D.dead :: (Bn ++ (Bl ++ (Bs ++ F)))) (fun p hp => by simp at hp; simp [hp])
    rw [hk3] at hsvz
    have hLz := hRz.1
    refine c_sub ((bL, Cs LA 92) :: (D', .deferred (some [])) :: (bw, Cs [Pt dp 0] 23) :: (bi, Cs [I64 (D.since.length : Int)] 3) :: (bc, Cs [Pt cp 0] 23) :: DkO cp (.slice none 0 0) (Sl bL 0 D.lasts.length D.lasts.length) (.slice none 0 0) (-1) 0 false :: (bch, Cs [.slice adc ch.length cc] 31) :: DkO dp (Sl bn 0 D.now.length cn) (Sl bl 0 D.lasts.length cl) vs D.fuse D.ops D.dead :: (Bn ++ (Bl ++ (Bs ++ F)))) sbx ?_
    refine ww ?_
    refine r_startS [(bc, Cs [Pt cp 0] 23), DkO cp (.slice none 0 0) (Sl bL 0 D.lasts.length D.lasts.length) (.slice none 0 0) (-1) 0 false] [8] (by kernel_rfl) (fun w h => h.sb) ?_
    refine r_tk 0 rfl rfl (v_load rfl (Cel.head rfl) (by kernel_rfl)) (fun _ h => (h.sb)) ?_
    refine r_tk 1 rfl rfl (v_load rfl (Cel.head rfl) (by kernel_rfl)) (fun _ h => (h.sb)) ?_
    refine r_tk 2 rfl rfl (v_nilCheck rfl) (fun _ h => (h.sb)) ?_
    refine r_tk 3 rfl rfl (v_field 1 rfl (by kernel_rfl)) (fun _ h => (h.sb)) ?_
    refine r_tk 4 rfl rfl (v_load rfl (Cel.tail (Cel.head rfl)) (by kernel_rfl)) (fun _ h => (h.sb)) ?_
    refine r_one 5 (by kernel_rfl) rfl ?_
    refine s_appendA (L := []) (B := []) (k := 0) (e := 92) (z := .agg (List.replicate 64 (B8 0)).toArray) (sz := 64) (bs := 64) (by kernel_rfl) rfl rfl rfl rfl ⟨rfl, .inl ⟨none, rfl, rfl, rfl⟩⟩ Chunk.none hsvz (by simp [Value.cells]) (by decide) (by omega) (hRz.all (by decide) (fun c x h => SecR.one h)) (by omega) (by omega) fun v6 B6 hown6 => ?_
    have hra6 : RA 64 SecR 92 v6 PA B6 := ⟨Lz, by simpa [hk3] using hown6, hRz⟩
    obtain ⟨b6, c6, L6, hv6, _, _, hB6⟩ := hra6.block (by omega)
    refine r_next (fun w h => (h.sb)) ?_
    refine r_takeB 6 [7, 8] rfl (by kernel_rfl) (by kernel_rfl) (by kernel_rfl) (by kernel_rfl) rfl rfl rfl (v_nilCheck rfl) (fun _ h => (h.sb)) (by repeat (first | exact pk_body | exact pk_no | exact pk_S | apply pk_then | apply pk_block)) ?_
    refine r_tk 7 rfl rfl (v_field 0 rfl (by kernel_rfl)) (fun _ h => (h.sb)) ?_
    refine r_one 8 (by kernel_rfl) rfl ?_
    refine s_store1 rfl rfl rfl (.app (.tail (.tail (.tail (.tail (.tail .head)))))) (by kernel_rfl) (by rw [hv6]; rfl) (by simp) ?_
    refine r_late rfl ?_
    refine r_done (by kernel_rfl) ?_
    change Holds _ _ _ _ _ (DkO cp v6 (Sl bL 0 D.lasts.length D.lasts.length) (.slice none 0 0) (-1) 0 false :: _) _
    refine c_sub ((bc, Cs [Pt cp 0] 23) :: DkO cp v6 (Sl bL 0 D.lasts.length D.lasts.length) (.slice none 0 0) (-1) 0 false :: (D', .deferred (some [])) :: (B6 ++ ((bL, Cs LA 92) :: DkO dp (Sl bn 0 D.now.length cn) (Sl bl 0 D.lasts.length cl) vs D.fuse D.ops D.dead :: (Bn ++ (Bl ++ (Bs ++ F)))))) sbx ?_
    have hcS : crashS D ch = ⟨PA, PA, [], -1, 0, false⟩ := by rw [← hPA]; rfl
    have hr2 : DkR ⟨PA, PA, [], -1, 0, false⟩ v6 (Sl bL 0 D.lasts.length D.lasts.length) (.slice none 0 0) B6 [(bL, Cs LA 92)] [] :=
      ⟨⟨by dsimp only; omega, by dsimp only; omega, rfl, by simp, by simp, by simp, by simp⟩, hra6, hpl, RA.zero none⟩
    refine ww ?_
    refine c_cons (s_val (v_load rfl (Cel.head rfl) (by kernel_rfl)) rfl rfl rfl ?_)
    refine ww ?_
    rw [hcS, hB]
    exact m_ret1D rfl rfl (.tail (.tail .head)) (fun w hs => ⟨cp, _, rfl, ⟨_, _, _, _, _, _, rfl, hr2⟩, hs.sb⟩)

end Go.Proofs.Ytkjneelekfdpfaa
