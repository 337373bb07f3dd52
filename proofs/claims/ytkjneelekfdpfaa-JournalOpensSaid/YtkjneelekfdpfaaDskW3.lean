/- The walks of package disk: the writes that wait, Sync. -/
import Derived.Test.YtkjneelekfdpfaaDskW2
import Derived.Test.YtkjneelekfdpfaaRegIn2
namespace Go.Proofs.Ytkjneelekfdpfaa
open Go
set_option linter.unusedVariables false
set_option linter.unusedSimpArgs false
set_option maxHeartbeats 3200000
attribute [local irreducible] Code.wp wpList stepK Holds Val wpR Eff Eff0 Code.wpIn wpListIn stepI Exit.then Exit.inBlock bodyPost bodyPostM

theorem waits_c (dp : Nat) (w0 w : World) (G : Im) (F : Hp) (hs : Sat w0 w G F) :
    Calls Try.prog 47 #[Pt dp 0] w fun e w' => ∃ b, e = .returned (.func (.func 68) #[] #[Pt b 0]) ∧ Sat w0 w' G ((b, Cs [Pt dp 0] 23) :: F) := by
  refine f_enter (vs := [_]) Try.func47 rfl Try.ntmps47 (by simp) hs ?_
  refine ww ?_
  refine c_cons (s_box rfl rfl rfl fun b1 => ?_)
  refine ww ?_
  exact f_ret1 rfl rfl (fun w hs => ⟨b1, rfl, hs⟩)

/-- What the rounds get. -/
def wrV (l : List (Nat × List UInt8)) : List Value := l.map fun p => .agg (I64 (p.1 : Int) :: p.2.map B8).toArray
theorem waits1_it (bw dp : Nat) (vn vl vs : Value) (fu op : Int) (de : Bool) (l : List (Nat × List UInt8)) (Bs : Hp) (G : Im) (hR : RA 65 WrR 94 vs l Bs) :
    ItSpecK Try.prog 68 #[Pt bw 0] G ((bw, Cs [Pt dp 0] 23) :: DkO dp vn vl vs fu op de :: Bs) (wrV l) := by
  intro lp w0 Hj hK hround w hs
  have hlen : (wrV l).length = l.length := by simp [wrV]
  have hm1 : ∀ j, j ≤ l.length → (bw, Cs [Pt dp 0] 23) ∈ Hj j := fun j hj => hK j _ (by omega) (by simp)
  have hm2 : ∀ j, j ≤ l.length → DkO dp vn vl vs fu op de ∈ Hj j := fun j hj => hK j _ (by omega) (by simp)
  have hm3 : ∀ j, j ≤ l.length → ∀ p ∈ Bs, p ∈ Hj j := fun j hj p hp => hK j _ (by omega) (by simp [hp])
  obtain ⟨ad, cs, hvs, hc1, hc2⟩ := hR.form
  unfold maxLen at hc2
  refine (i_enter (vs := [_, _]) Try.func68 rfl Try.ntmps68 (by simp) hs ?_)
  refine wi ?_
  refine i_cons (i_val (v_load rfl ⟨_, _, _, .inr (hm1 0 (Nat.zero_le _)), rfl⟩ (by kernel_rfl)) rfl rfl rfl rfl ?_)
  refine wi ?_
  refine i_cons (i_val (v_field 2 rfl (by kernel_rfl)) rfl rfl rfl rfl ?_)
  refine i_cons (i_val (v_load rfl ⟨_, _, _, .inr (hm2 0 (Nat.zero_le _)), rfl⟩ (by kernel_rfl)) rfl rfl rfl rfl ?_)
  rw [hvs]
  refine wi ?_
  refine i_loop (α := Nat) (fun x => [(0, .func (.yield lp) #[] #[]), (8, .slice ad l.length cs), (9, I64 l.length), (10, I64 x)]) (fun _ => G) (fun x => Hj x) (fun x => x ≤ l.length) (fun x => l.length - x) 0 (Nat.zero_le _) ?_ ?_
  · exact n_at ⟨rfl, rfl, rfl, rfl, trivial⟩ sbx
  rintro i hi
  refine wi ?_
  refine i_cond_d rfl (fun c1 => ?_) (fun c1 => ?_)
  · -- then
    have hil : i < l.length := by omega
    obtain ⟨b0, o0, c0, cells, hv0, ⟨hce, hx64⟩, hcl, hcel⟩ := (hR.here (G := G) (H := Hj i) (hm3 i hi)).at (by decide) i hil
    obtain ⟨X, hX⟩ : ∃ X, X = l[i] := ⟨_, rfl⟩
    rw [← hX] at hce hx64
    rw [hvs] at hv0
    cases hv0
    have hx : (wrV l)[i]'(by omega) = .agg cells.toArray := by simp only [wrV, List.getElem_map]; rw [hce, hX]
    refine wi ?_
    refine i_cons (i_val (v_index 65 rfl rfl (by kernel_rfl) (by omega)) rfl rfl rfl rfl ?_)
    refine i_cons (i_val (v_loadAgg (vs := cells) rfl (by kernel_rfl) (by kernel_rfl) hcl (fun j u hj => by rw [Int.toNat_natCast]; exact hcel j u hj)) rfl rfl rfl rfl ?_)
    refine i_cons (i_allocA (I64 0 :: List.replicate 64 (B8 0)) (by kernel_rfl) rfl rfl fun b1 => ?_)
    refine i_cons (i_storeA (vs := cells) rfl rfl rfl .head (by rw [hcl]; kernel_rfl) (WrR.one (p := X) ⟨hce, hx64⟩) (by rw [hcl]; rfl) ?_)
    refine wi ?_
    refine i_cons (i_val (v_loadAgg (vs := cells) rfl (by kernel_rfl) (by kernel_rfl) hcl (fun j u hj => Cel.all hj)) rfl rfl rfl rfl ?_)
    refine i_cons (i_yield (xs := [_]) rfl rfl rfl rfl rfl rfl (fun w hs => by have := hround i (by omega) w hs.tl; rw [hx] at this; exact this) (fun w' hs' => Holds.atw ?_ hs'))
    refine wi ?_
    refine i_cond_f rfl ?_
    refine wi ?_
    exact n_next (x := i) (i + 1) (by omega) (by omega) ⟨rfl, rfl, rfl, rfl, trivial⟩ rfl sbx
  have e : i = l.length := by omega
  subst e
  refine wi ?_
  exact i_end0 rfl (fun w hs => ⟨⟨_, rfl⟩, by rw [hlen]; exact hs⟩)

/-- The lasting sectors' cells behind some writes. -/
def lsC (L : List Value) (l : List (Nat × List UInt8)) : List Value := l.foldl (fun L p => L.take (p.1 * 64) ++ p.2.map B8 ++ L.drop (p.1 * 64 + 64)) L
theorem ra_puts {b k c : Nat} : ∀ (l : List (Nat × List UInt8)) (xs : List (List UInt8)) (L : List Value), xs.length = k → RA 64 SecR 92 (Sl b 0 k c) xs [(b, Cs L 92)] → (∀ p ∈ l, p.1 < k ∧ p.2.length = 64) →
    RA 64 SecR 92 (Sl b 0 k c) (putAll xs l) [(b, Cs (lsC L l) 92)]
  | [], xs, L, hk, h, _ => h
  | p :: l, xs, L, hk, h, hp => by
    obtain ⟨h1, h2⟩ := hp p (by simp)
    obtain ⟨b', c', L', hv, hB, hle, hput⟩ := h.put p.1 (by omega)
    have e1 : b' = b := by cases hv; rfl
    subst e1
    have e2 : L' = L := by
      simp only [List.cons.injEq, Prod.mk.injEq, true_and, and_true] at hB
      have := Obj.cells.inj hB
      exact List.toArray_inj this.1.symm
    subst e2
    exact ra_puts l _ _ (by simp [hk]) (hput (p.2.map B8) p.2 (by simp [h2]) ⟨rfl, h2⟩) (fun q hq => hp q (by simp [hq]))
theorem lsC_len {k : Nat} : ∀ (l : List (Nat × List UInt8)) (L : List Value), k * 64 ≤ L.length → (∀ p ∈ l, p.1 < k ∧ p.2.length = 64) → (lsC L l).length = L.length
  | [], L, _, _ => rfl
  | p :: l, L, h, hp => by
    obtain ⟨h1, h2⟩ := hp p (by simp)
    have h3 : (p.1 + 1) * 64 ≤ k * 64 := Nat.mul_le_mul_right _ h1
    have h4 : (L.take (p.1 * 64) ++ p.2.map B8 ++ L.drop (p.1 * 64 + 64)).length = L.length := by simp [h2]; omega
    have := lsC_len l (L.take (p.1 * 64) ++ p.2.map B8 ++ L.drop (p.1 * 64 + 64)) (by omega) (fun q hq => hp q (by simp [hq]))
    show (lsC _ l).length = _
    rw [this, h4]
theorem putAll_len (l : List (Nat × List UInt8)) : ∀ (xs : List (List UInt8)), (putAll xs l).length = xs.length := by
  induction l with
  | nil => intro xs; rfl
  | cons p l ih => intro xs; show (putAll _ l).length = _; rw [ih]; simp
theorem wr64 {vs : Value} {l : List (Nat × List UInt8)} {Bs : Hp} (hR : RA 65 WrR 94 vs l Bs) : ∀ p ∈ l, p.2.length = 64 := by
  intro p hp
  obtain ⟨L, _, h⟩ := hR
  obtain ⟨j, hj, rfl⟩ := List.mem_iff_getElem.1 hp
  exact (h.2 j l[j] (by simp [hj])).2

/-- Sync. -/
theorem sync_c (dp : Nat) (B : Hp) (D : Dk) (hr : DH dp D B) (ho : D.ops < 1000000) (w0 w : World) (G : Im) (F : Hp) (hs : Sat w0 w G (B ++ F)) :
    Calls Try.prog 43 #[Pt dp 0] w fun e w' => ∃ B', e = .returned (I64 (syncS D).2) ∧ DH dp (syncS D).1 B' ∧ Sat w0 w' G (B' ++ F) := by
  obtain ⟨vn, vl, vs, Bn, Bl, Bs, rfl, hr⟩ := hr
  have hw := hr.wf
  have hk2 := hw.k2
  have hkM := hw.kM
  have hkl := hw.kl
  obtain ⟨bn, cn, Ln, rfl, hcn, hcM, hBn⟩ := hr.n.block (by omega)
  obtain ⟨bl, cl, Ll, rfl, hcl, hcL, rfl⟩ := hr.l.block (by omega)
  have hs1 : Sat w0 w G (DkO dp (Sl bn 0 D.now.length cn) (Sl bl 0 D.lasts.length cl) vs D.fuse D.ops D.dead :: (Bn ++ ([(bl, Cs Ll 92)] ++ (Bs ++ F)))) := hs.sb
  refine f_enterM (vs := [_]) Try.func43 rfl Try.ntmps43 (by simp) hs1 ?_
  refine ww ?_
  refine c_cons (s_box rfl rfl rfl fun b1 => ?_)
  change Holds _ _ _ _ _ ((b1, Cs [Pt dp 0] 23) :: _) _
  refine ww ?_
  refine c_cons (s_val (v_load rfl (Cel.head rfl) (by kernel_rfl)) rfl rfl rfl ?_)
  refine c_sub (DkO dp (Sl bn 0 D.now.length cn) (Sl bl 0 D.lasts.length cl) vs D.fuse D.ops D.dead :: (b1, Cs [Pt dp 0] 23) :: (Bn ++ ([(bl, Cs Ll 92)] ++ (Bs ++ F)))) sbx ?_
  refine c_cons (s_call (xs := [_]) rfl rfl rfl rfl rfl rfl (by kernel_rfl) (fun w hs => gone_c dp (Sl bn 0 D.now.length cn) (Sl bl 0 D.lasts.length cl) vs _ _ _ rfl _ _ _ _ w _ _ hs) ?_)
  rintro e w' ⟨rfl, hs'⟩; refine a_ret ?_ hs'; clear hs'
  refine ww ?_
  refine c_part 6 D.dead rfl (fun c1 => ?_) (fun c1 => ?_)
  · rw [show syncS D = (D, 14) by rw [syncS, if_pos c1]]
    refine ww ?_
    refine c_cond_t rfl ?_
    refine ww ?_
    exact m_ret1 rfl rfl (fun w hs => ⟨_, rfl, ⟨_, _, _, _, _, _, rfl, hr⟩, hs.sb⟩)
  have hyes : syncS D = synced (opS D) := by rw [syncS, if_neg (by simp [c1])]
  have hwo := wf_op hw ho
  obtain ⟨hn1, hl1, hs1'⟩ := opS_now D
  refine ww ?_
  refine c_cons (s_val (v_load rfl (Cel.tail (Cel.head rfl)) (by kernel_rfl)) rfl rfl rfl ?_)
  refine c_cons (s_call (xs := [_]) rfl rfl rfl rfl rfl rfl (by kernel_rfl) (fun w hs => op_c dp (Sl bn 0 D.now.length cn) (Sl bl 0 D.lasts.length cl) vs D hw _ w _ _ hs) ?_)
  rintro e w' ⟨rfl, hs'⟩; refine a_ret ?_ hs'; clear hs'
  rw [hyes]
  obtain ⟨E, hE⟩ : ∃ E, opS D = E := ⟨_, rfl⟩
  rw [hE] at hwo hn1 hl1 hs1' ⊢
  obtain ⟨D1, g1⟩ := E
  dsimp only at hwo hn1 hl1 hs1'
  have hr1 : DkR D1 (Sl bn 0 D.now.length cn) (Sl bl 0 D.lasts.length cl) vs Bn [(bl, Cs Ll 92)] Bs := ⟨hwo, by rw [hn1]; exact hr.n, by rw [hl1]; exact hr.l, by rw [hs1']; exact hr.s⟩
  cases g1 with
  | false =>
    dsimp only [synced]
    refine ww ?_
    refine c_cond_t rfl ?_
    refine ww ?_
    exact m_ret1 rfl rfl (fun w hs => ⟨_, rfl, ⟨_, _, _, _, _, _, rfl, hr1⟩, hs.sb⟩)
  | true =>
  dsimp only [synced]
  refine ww ?_
  refine c_cond_f rfl ?_
  refine ww ?_
  refine c_cons (s_val (v_load rfl (Cel.tail (Cel.head rfl)) (by kernel_rfl)) rfl rfl rfl ?_)
  refine c_cons (s_call (xs := [_]) rfl rfl rfl rfl rfl rfl (by kernel_rfl) (fun w hs => waits_c _ _ w _ _ hs) ?_)
  rintro e w' ⟨bw, rfl, hs'⟩; refine a_ret ?_ hs'; clear hs'
  have h64 := wr64 hr.s
  have hks : ∀ p ∈ D.since, p.1 < D.lasts.length ∧ p.2.length = 64 := fun p hp => ⟨by have := hw.ks p hp; omega, h64 p hp⟩
  have hLl : D.lasts.length * 64 ≤ Ll.length := by
    obtain ⟨b', c', L', hv, hB, hle, _⟩ := hr.l.put (D.lasts.length - 1) (by omega)
    simp only [List.cons.injEq, Prod.mk.injEq, and_true] at hB
    have := List.toArray_inj (Obj.cells.inj hB.2).1
    rw [this]
    have e : (D.lasts.length - 1) * 64 + 64 = D.lasts.length * 64 := by
      rw [← Nat.succ_mul]; congr 1; omega
    omega
  refine ww ?_
  refine c_env [(12, .func (.func 68) #[] #[Pt bw 0]), (1, Pt b1 0)] ⟨rfl, rfl, trivial⟩ ?_
  refine c_sub ((bw, Cs [Pt dp 0] 23) :: (b1, Cs [Pt dp 0] 23) :: DkO dp (Sl bn 0 D.now.length cn) (Sl bl 0 D.lasts.length cl) vs D1.fuse D1.ops D1.dead :: (Bn ++ ([(bl, Cs Ll 92)] ++ (Bs ++ F)))) sbx ?_
  refine c_rangeC (β := Nat) (wrV D.since) ((bw, Cs [Pt dp 0] 23) :: DkO dp (Sl bn 0 D.now.length cn) (Sl bl 0 D.lasts.length cl) vs D1.fuse D1.ops D1.dead :: Bs)
    (fun j => (bw, Cs [Pt dp 0] 23) :: (b1, Cs [Pt dp 0] 23) :: DkO dp (Sl bn 0 D.now.length cn) (Sl bl 0 D.lasts.length cl) vs D1.fuse D1.ops D1.dead :: (Bn ++ ([(bl, Cs (lsC Ll (D.since.take j)) 92)] ++ (Bs ++ F))))
    (fun j z => [(3, Pt z 0), (1, Pt b1 0)]) (fun j z => [(z, Cs (I64 ((D.since.getD j (0, [])).1 : Int) :: (D.since.getD j (0, [])).2.map B8) 94)]) rfl (by kernel_rfl) rfl
    (waits1_it bw dp _ _ vs _ _ _ D.since Bs G hr.s) (fun j p hj hp => by simp at hp ⊢; rcases hp with h | h | h <;> simp [h]) ?_ ?_ ?_
  · intro j hj l H1 K hK
    have hj' : j < D.since.length := by simpa [wrV] using hj
    have hx : (wrV D.since)[j] = .agg (I64 ((D.since.getD j (0, [])).1 : Int) :: (D.since.getD j (0, [])).2.map B8).toArray := by simp [wrV, hj']
    have hl65 : (I64 ((D.since.getD j (0, [])).1 : Int) :: (D.since.getD j (0, [])).2.map B8).length = 65 := by simp [hj', h64 _ (List.getElem_mem hj')]
    have hone : ∀ u ∈ (I64 ((D.since.getD j (0, [])).1 : Int) :: (D.since.getD j (0, [])).2.map B8), u.oneCell' = true := WrR.one (p := D.since.getD j (0, [])) ⟨rfl, by simpa using hl65⟩
    rw [hx]
    refine wi ?_
    refine i_cons (i_allocA (I64 0 :: List.replicate 64 (B8 0)) (by kernel_rfl) rfl rfl fun z => ?_)
    refine i_cons (i_storeA (vs := I64 ((D.since.getD j (0, [])).1 : Int) :: (D.since.getD j (0, [])).2.map B8) rfl rfl rfl .head (by rw [hl65]; kernel_rfl) hone (by rw [hl65]; rfl) ?_)
    refine wi ?_
    exact c_env [(3, Pt z 0), (1, Pt b1 0)] ⟨rfl, rfl, trivial⟩ (hK z)
  · intro j hj l F' z
    have hj' : j < D.since.length := by simpa [wrV] using hj
    have hp := hks _ (List.getElem_mem hj')
    have hgd : D.since.getD j (0, []) = D.since[j] := by simp [hj']
    rw [hgd]
    obtain ⟨X, hX⟩ : ∃ X, X = D.since[j] := ⟨_, rfl⟩
    have htk : lsC Ll (D.since.take (j + 1)) = (lsC Ll (D.since.take j)).take (X.1 * 64) ++ X.2.map B8 ++ (lsC Ll (D.since.take j)).drop (X.1 * 64 + 64) := by
      rw [List.take_succ_eq_append_getElem hj', ← hX]; simp [lsC]
    rw [← hX] at hp ⊢
    have hA : (X.2.map B8).length = 64 := by simp [hp.2]
    have hlc := lsC_len (k := D.lasts.length) (D.since.take j) Ll hLl (fun p hp => hks p (List.mem_of_mem_take hp))
    have hle : (X.1 + 1) * 64 ≤ D.lasts.length * 64 := Nat.mul_le_mul_right _ hp.1
    have hoff : 0 + (X.1 : Int).toNat * 64 = X.1 * 64 := by rw [Int.toNat_natCast]; omega
    refine i_block ?_
    refine c_sub ((z, Cs (I64 (X.1 : Int) :: X.2.map B8) 94) :: (bw, Cs [Pt dp 0] 23) :: (b1, Cs [Pt dp 0] 23) :: DkO dp (Sl bn 0 D.now.length cn) (Sl bl 0 D.lasts.length cl) vs D1.fuse D1.ops D1.dead :: (Bn ++ ((bl, Cs (lsC Ll (D.since.take j)) 92) :: (Bs ++ (F ++ F'))))) sbx ?_
    refine i_drawn 9 (fun i => [14, 15, 16, 17, 18, 19, 20, 21, 22].getD i 0) (fun i => [Pt dp 0, Pt dp 0, Pt dp (0 + 1), Sl bl 0 D.lasts.length cl, Pt z (0 + 0), I64 (X.1 : Int), Pt z (0 + 1), .agg (X.2.map B8).toArray, Pt bl (0 + (X.1 : Int).toNat * 64)].getD i undef) _ (by kernel_rfl) rfl rfl (by kernel_rfl) (by kernel_rfl) ?_ ?_
    · intro i hi
      match i, hi with
      | 0, _ => exact ⟨_, [], rfl, rfl, rfl, rfl, rfl, rfl, (by kernel_rfl), (by kernel_rfl), (by kernel_rfl), v_load rfl (Cel.tail (Cel.tail (Cel.head rfl))) (by kernel_rfl)⟩
      | 1, _ => exact ⟨_, [0], rfl, rfl, rfl, rfl, rfl, rfl, (by kernel_rfl), (by kernel_rfl), (by kernel_rfl), v_nilCheck rfl⟩
      | 2, _ => exact ⟨_, [1], rfl, rfl, rfl, rfl, rfl, rfl, (by kernel_rfl), (by kernel_rfl), (by kernel_rfl), v_field 1 rfl (by kernel_rfl)⟩
      | 3, _ => exact ⟨_, [2], rfl, rfl, rfl, rfl, rfl, rfl, (by kernel_rfl), (by kernel_rfl), (by kernel_rfl), v_load rfl (Cel.tail (Cel.tail (Cel.tail (Cel.head rfl)))) (by kernel_rfl)⟩
      | 4, _ => exact ⟨_, [], rfl, rfl, rfl, rfl, rfl, rfl, (by kernel_rfl), (by kernel_rfl), (by kernel_rfl), v_field 0 rfl (by kernel_rfl)⟩
      | 5, _ => exact ⟨_, [4], rfl, rfl, rfl, rfl, rfl, rfl, (by kernel_rfl), (by kernel_rfl), (by kernel_rfl), v_load rfl (Cel.head rfl) (by kernel_rfl)⟩
      | 6, _ => exact ⟨_, [], rfl, rfl, rfl, rfl, rfl, rfl, (by kernel_rfl), (by kernel_rfl), (by kernel_rfl), v_field 1 rfl (by kernel_rfl)⟩
      | 7, _ => exact ⟨_, [6], rfl, rfl, rfl, rfl, rfl, rfl, (by kernel_rfl), (by kernel_rfl), (by kernel_rfl), v_loadAgg (vs := X.2.map B8) rfl (by kernel_rfl) (by kernel_rfl) hA (fun q u hq => Cel.head (by rw [show 0 + 1 + q = q + 1 by omega]; exact hq))⟩
      | 8, _ => exact ⟨_, [3, 5], rfl, rfl, rfl, rfl, rfl, rfl, (by kernel_rfl), (by kernel_rfl), (by kernel_rfl), v_index 64 rfl rfl (by kernel_rfl) (by omega)⟩
    · refine i_storeAt (vs := X.2.map B8) rfl rfl rfl (.tail (.tail (.tail (.tail (.app .head))))) (by rw [hA]; kernel_rfl) (B8_ones X.2) (by rw [hA, hoff, hlc]; omega) ?_
      rw [hoff, hA, ← htk]
      refine x_block ?_
      unfold Holds
      exact fun a w ht hs => ⟨rfl, hs.sb⟩
  · intro D'
    have hlw : (wrV D.since).length = D.since.length := by simp [wrV]
    rw [hlw, List.take_length]
    have hpl := ra_puts D.since D.lasts Ll rfl hr.l hks
    have hr2 : DkR { D1 with lasts := putAll D1.lasts D1.since, since := [] } (Sl bn 0 D.now.length cn) (Sl bl 0 D.lasts.length cl) (.slice none 0 0) Bn [(bl, Cs (lsC Ll D.since) 92)] [] :=
      ⟨⟨hwo.k2, hwo.kM, by dsimp only; rw [putAll_len]; exact hwo.kl, by simp, by simp, hwo.f0, hwo.o0⟩, by dsimp only; rw [hn1]; exact hr.n, by dsimp only; rw [hl1, hs1']; exact hpl, RA.zero none⟩
    refine ww ?_
    refine c_cons (s_val (v_load rfl (Cel.tail (Cel.tail (Cel.head rfl))) (by kernel_rfl)) rfl rfl rfl ?_)
    refine ww ?_
    refine c_cons (s_val (v_field 2 rfl (by kernel_rfl)) rfl rfl rfl ?_)
    refine c_cons (s_store1 rfl rfl rfl (.tail (.tail (.tail .head))) (by kernel_rfl) rfl (by simp) ?_)
    change Holds _ _ _ _ _ (DkO dp (Sl bn 0 D.now.length cn) (Sl bl 0 D.lasts.length cl) (.slice none 0 0) D1.fuse D1.ops D1.dead :: (D', .deferred (some [])) :: _) _
    refine ww ?_
    exact m_ret1D rfl rfl (.tail .head) (fun w hs => ⟨_, rfl, ⟨_, _, _, _, _, _, rfl, hr2⟩, hs.sb⟩)

end Go.Proofs.Ytkjneelekfdpfaa
