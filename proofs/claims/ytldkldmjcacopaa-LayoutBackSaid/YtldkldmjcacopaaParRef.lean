/- The reference's walks: Xor, Fill, Holds. -/
import Derived.Test.YtldkldmjcacopaaParW3
namespace Go.Proofs.Ytldkldmjcacopaa
open Go
set_option linter.unusedVariables false
set_option maxHeartbeats 800000
attribute [local irreducible] Code.wp wpList stepK Holds Val wpR Eff Eff0 Code.wpIn wpListIn stepI Exit.then Exit.inBlock bodyPost bodyPostM

/-- The reference's Xor: each row into what has grown to its length. -/
def rstep (out r : List UInt8) : List UInt8 := xin (out ++ List.replicate (r.length - out.length) 0) r
def rxor (rs : List (List UInt8)) : List UInt8 := rs.foldl rstep []
theorem rstep_length (out r : List UInt8) : (rstep out r).length = max out.length r.length := by simp [rstep, xin_length]; omega
theorem getD_pad (l : List UInt8) (m i : Nat) : (l ++ List.replicate m 0).getD i 0 = l.getD i 0 := by
  by_cases h : i < l.length
  · simp only [List.getD, List.getElem?_append_left h]
  · simp only [List.getD, List.getElem?_append_right (Nat.le_of_not_lt h), List.getElem?_replicate]
    have : l[i]? = none := by simp; omega
    rw [this]; split <;> rfl
theorem rstep_getD (out r : List UInt8) (i : Nat) : (rstep out r).getD i 0 = out.getD i 0 ^^^ r.getD i 0 := by
  unfold rstep
  rw [xin_getD _ _ (by simp; omega), getD_pad]
theorem rxor_snoc (rs : List (List UInt8)) (r : List UInt8) : rxor (rs ++ [r]) = rstep (rxor rs) r := by simp [rxor]
theorem ext_getD {a b : List UInt8} (hl : a.length = b.length) (h : ∀ i, a.getD i 0 = b.getD i 0) : a = b := by
  apply List.ext_getElem hl
  intro i h1 h2
  have := h i
  simpa [List.getD, h1, h2] using this
theorem rxor_eq (rs : List (List UInt8)) : rxor rs = pxor rs := by
  have key : ∀ (rs : List (List UInt8)) (out : List UInt8) (m : Nat), out.length = m → (rs.foldl rstep out).length = rs.foldl (fun n r => max n r.length) m ∧ ∀ i, (rs.foldl rstep out).getD i 0 = rs.foldl (fun a r => a ^^^ r.getD i 0) (out.getD i 0) := by
    intro rs
    induction rs with
    | nil => intro out m h; exact ⟨h, fun i => rfl⟩
    | cons r rs ih =>
      intro out m h
      obtain ⟨h1, h2⟩ := ih (rstep out r) (max m r.length) (by rw [rstep_length, h])
      exact ⟨h1, fun i => by rw [List.foldl_cons, h2, rstep_getD]; rfl⟩
  obtain ⟨h1, h2⟩ := key rs [] 0 rfl
  refine ext_getD ?_ fun i => ?_
  · rw [pxor_length]; exact h1
  · rw [pxor_getD]; exact h2 i

theorem own1_len {v : Value} {k : Nat} {L : List Value} {e : TypeId} {B : Hp} (h : Own v k L e 1 B) : L.length = k := by rw [h.1, Nat.mul_one]

theorem rxor_c (v : Value) (rs : List (List UInt8)) (w0 w : World) (G : Im) (F : Hp) (hv : RowsV G v rs) (hmx : mxl rs ≤ 1000000) (hs : Sat w0 w G F) :
    Calls Try.prog 69 #[v] w fun e w' => ∃ u B, e = .returned u ∧ Own u (pxor rs).length ((pxor rs).map B8) 5 1 B ∧ Sat w0 w' G (B ++ F) := by
  obtain ⟨vs, hv, hx⟩ := hv
  have hlen := hx.1
  obtain ⟨ad, cap, rfl, h1, h2, h3⟩ := hv
  unfold maxLen at h2
  refine f_enter (vs := [_]) Try.func69 rfl Try.ntmps69 (by simp) hs ?_
  refine ww ?_
  refine c_loop (α := Nat × Value × Hp) (fun x => [(4, I64 x.1), (3, x.2.1), (0, .slice ad vs.length cap)]) (fun _ => G) (fun x => x.2.2 ++ F) (fun x => x.1 ≤ vs.length ∧ Own x.2.1 (rxor (rs.take x.1)).length ((rxor (rs.take x.1)).map B8) 5 1 x.2.2) (fun x => vs.length - x.1) (0, .slice none 0 0, []) ⟨Nat.zero_le _, Own.nil _ _⟩ ?_ ?_
  · exact l_at ⟨rfl, rfl, rfl, trivial⟩ (Split.refl _)
  · rintro ⟨i, u, B⟩ ⟨hi, hown⟩
    dsimp only at hi hown ⊢
    refine ww ?_
    refine c_cond_d rfl (fun hlt => ?_) (fun hge => ?_)
    · have hiv : i < vs.length := by omega
      obtain ⟨hir, hsv⟩ := hx.at i hiv
      rcases h3 with ⟨hx0, _⟩ | ⟨b, o, rfl, hc⟩
      · subst hx0; simp at hiv
      have e1 := fun H' => (hc i vs[i] (by simp [hiv])).mono (H' := H') (Im.le_refl G) (by simp)
      obtain ⟨adr, capr, hvi, r1, r2, r3⟩ := hsv
      rw [hvi] at e1
      have hrl : (rs[i]).length ≤ 1000000 := Nat.le_trans (le_mxl (List.getElem_mem hir)) hmx
      obtain ⟨out, hout⟩ : ∃ out, out = rxor (rs.take i) := ⟨_, rfl⟩
      have hol : out.length ≤ 1000000 := by
        rw [hout, rxor_eq, pxor_length]
        exact Nat.le_trans (mxl_le.2 fun r hr => le_mxl (List.mem_of_mem_take hr)) hmx
      rw [← hout] at hown
      refine ww ?_
      refine c_loop (α := Nat × Value × Hp) (fun x => [(3, x.2.1), (4, I64 i), (0, Sl b o vs.length cap)]) (fun _ => G) (fun x => x.2.2 ++ F) (fun x => x.1 ≤ (rs[i]).length - out.length ∧ Own x.2.1 (out.length + x.1) ((out ++ List.replicate x.1 0).map B8) 5 1 x.2.2) (fun x => (rs[i]).length - out.length - x.1) (0, u, B) ⟨Nat.zero_le _, by simpa using hown⟩ ?_ ?_
      · exact l_at ⟨rfl, rfl, rfl, trivial⟩ (Split.refl _)
      · rintro ⟨j, u1, B1⟩ ⟨hj, hown1⟩
        dsimp only at hj hown1 ⊢
        obtain ⟨ad1, c1, rfl⟩ := hown1.form
        refine ww ?_
        refine c_cons (s_val (v_index1 rfl rfl (by kernel_rfl) (by omega)) rfl rfl rfl ?_)
        refine c_cons (s_val (v_load rfl (by simpa using e1 _) (by kernel_rfl)) rfl rfl rfl ?_)
        refine ww ?_
        refine c_cond_d rfl (fun hl1 => ?_) (fun hl1 => ?_)
        · refine ww ?_
          refine c_cons (s_lit (z := B8 0) (bs := 1) (e := 5) [_] (by kernel_rfl) rfl rfl rfl rfl (by simp [Value.oneCell']) rfl (by decide) fun bz => ?_)
          refine c_cons (s_append (e := 5) (z := B8 0) (sz := 1) (bs := 1) (by kernel_rfl) rfl rfl rfl rfl hown1 (Chunk.tail Chunk.head) (SV.block .head (by decide)) rfl (by decide) rfl (by simp [Value.oneCell']) (by simp; omega) (by simp; omega) fun u2 B2 hown2 => ?_)
          refine ww ?_
          obtain ⟨Rz, hsp⟩ := Split.mid1 B2 F (bz, Cs [B8 0] 5)
          refine l_next (x := (j, .slice ad1 (out.length + j) c1, B1)) (j + 1, u2, B2) ⟨by omega, ?_⟩ (by dsimp only; omega) ⟨rfl, rfl, rfl, trivial⟩ rfl hsp
          have e : (out ++ List.replicate (j + 1) 0).map B8 = (out ++ List.replicate j 0).map B8 ++ [B8 0] := by
            rw [List.replicate_succ']; simp
          rw [e]; exact hown2
        · have hj2 : j = (rs[i]).length - out.length := by omega
          subst hj2
          obtain ⟨os, hos⟩ : ∃ os, os = out ++ List.replicate ((rs[i]).length - out.length) (0 : UInt8) := ⟨_, rfl⟩
          have hosl : out.length + ((rs[i]).length - out.length) = os.length := by rw [hos]; simp
          rw [hosl, ← hos] at hown1
          have hrs : (rs[i]).length ≤ os.length := by omega
          have hnx : xin os rs[i] = rxor (rs.take (i + 1)) := by
            rw [List.take_succ_eq_append_getElem hir, rxor_snoc, ← hout, hos]; rfl
          refine ww ?_
          refine c_loop (α := Nat × Hp) (fun x => [(3, .slice ad1 (out.length + ((rs[i]).length - out.length)) c1), (4, I64 i), (0, Sl b o vs.length cap), (5, I64 x.1)]) (fun _ => G) (fun x => x.2 ++ F) (fun x => x.1 ≤ (rs[i]).length ∧ Own (.slice ad1 os.length c1) os.length ((xinTo os rs[i] x.1).map B8) 5 1 x.2) (fun x => (rs[i]).length - x.1) (0, B1) ⟨Nat.zero_le _, by rw [xinTo_zero, ← hosl]; rw [← hosl] at hown1; exact hown1⟩ ?_ ?_
          · exact l_at ⟨rfl, rfl, rfl, rfl, trivial⟩ (Split.refl _)
          · rintro ⟨m, B2⟩ ⟨hm, hown2⟩
            dsimp only at hm hown2 ⊢
            rw [hosl]
            refine ww ?_
            refine c_cons (s_val (v_index1 rfl rfl (by kernel_rfl) (by omega)) rfl rfl rfl ?_)
            refine c_cons (s_val (v_load rfl (by simpa using e1 _) (by kernel_rfl)) rfl rfl rfl ?_)
            refine ww ?_
            refine c_cond_d rfl (fun hlt2 => ?_) (fun hge2 => ?_)
            · have hmr : m < (rs[i]).length := by omega
              obtain ⟨bo, c, sl, hve, rfl, hml, hgt, hset⟩ := hown2.set (j := m) (by omega)
              cases hve
              rcases r3 with ⟨hx0, _⟩ | ⟨bb, oo, rfl, hcr⟩
              · simp at hx0; rw [hx0] at hmr; simp at hmr
              have e2 := fun H' => (hcr m (B8 (rs[i])[m]) (by simp [hmr])).mono (H' := H') (Im.le_refl G) (by simp)
              have e3 : ((xinTo os rs[i] m).map B8 ++ sl)[m]? = some (B8 (os[m]'(by omega))) := by
                rw [hgt, List.getElem?_map, xinTo_getElem _ _ _ (by omega)]; rfl
              refine ww ?_
              refine r_start [15] (by kernel_rfl) ?_
              refine r_tk 0 rfl rfl (v_move rfl) (fun _ h => h) ?_
              refine r_tk 1 rfl rfl (v_move rfl) (fun _ h => h) ?_
              refine r_tk 2 rfl rfl (v_move rfl) (fun _ h => h) ?_
              refine r_tk 3 rfl rfl (v_move rfl) (fun _ h => h) ?_
              refine r_tk 4 rfl rfl (v_index1 rfl rfl (by kernel_rfl) (by omega)) (fun _ h => h) ?_
              refine r_tk 5 rfl rfl (v_load rfl (Cel.head (by simpa using e3)) (by kernel_rfl)) (fun _ h => h) ?_
              refine r_tk 6 rfl rfl (v_move rfl) (fun _ h => h) ?_
              refine r_tk 7 rfl rfl (v_move rfl) (fun _ h => h) ?_
              refine r_tk 8 rfl rfl (v_index1 rfl rfl (by kernel_rfl) (by omega)) (fun _ h => h) ?_
              refine r_tk 9 rfl rfl (v_load rfl (by simpa using e1 _) (by kernel_rfl)) (fun _ h => h) ?_
              refine r_tk 10 rfl rfl (v_move rfl) (fun _ h => h) ?_
              refine r_tk 11 rfl rfl (v_index1 rfl rfl (by kernel_rfl) (by omega)) (fun _ h => h) ?_
              refine r_tk 12 rfl rfl (v_load rfl (by simpa using e2 _) (by kernel_rfl)) (fun _ h => h) ?_
              refine r_tk 13 rfl rfl (v_xor8 rfl rfl) (fun _ h => h) ?_
              refine r_tk 14 rfl rfl (v_index1 rfl rfl (by kernel_rfl) (by omega)) (fun _ h => h) ?_
              refine r_one 15 (by kernel_rfl) rfl ?_
              refine s_store1 rfl rfl rfl .head (by kernel_rfl) rfl (by simpa using hml) ?_
              refine r_late rfl ?_
              refine r_done (by kernel_rfl) ?_
              refine ww ?_
              refine l_next (x := (m, [(bo, Cs ((xinTo os rs[i] m).map B8 ++ sl) 5)])) (m + 1, [(bo, Cs (((xinTo os rs[i] m).map B8 ++ sl).set m (B8 (os[m] ^^^ (rs[i])[m]))) 5)]) ⟨by omega, ?_⟩ (by dsimp only; omega) ⟨rfl, rfl, rfl, rfl, trivial⟩ rfl (by rw [Nat.zero_add, Int.toNat_natCast]; exact Split.refl _)
              have := hset (B8 (os[m] ^^^ (rs[i])[m]))
              rw [← List.map_set, xinTo_step os (rs[i]) m hmr hrs] at this
              simpa using this
            · have e : m = (rs[i]).length := by omega
              subst e
              rw [xinTo_all, hnx] at hown2
              have hosl2 : os.length = (rxor (rs.take (i + 1))).length := by rw [← hnx, xin_length]
              rw [hosl2] at hown2 ⊢
              refine ww ?_
              refine l_next (x := (i, u, B)) (i + 1, Value.slice ad1 (rxor (rs.take (i + 1))).length c1, B2) ⟨by omega, hown2⟩ (by dsimp only; omega) ⟨rfl, rfl, rfl, trivial⟩ rfl (Split.refl _)
    · have e : i = vs.length := by omega
      subst e
      rw [hlen, List.take_length, rxor_eq] at hown
      refine ww ?_
      exact f_ret1 rfl rfl (fun w hs => ⟨u, B, rfl, hown, hs⟩)

/-- The reference's Fill leaves the law's own answer. -/
theorem Sat.dropL {w0 w : World} {G : Im} {B F : Hp} (h : Sat w0 w G (B ++ F)) : Sat w0 w G F := (h.perm List.perm_append_comm).drop
theorem Items.one {G : Im} {vs : List Value} {rs : List (List UInt8)} (h : Items G vs rs) : ∀ x ∈ vs, x.oneCell' = true := fun x hm => by
  obtain ⟨j, hj, rfl⟩ := List.getElem_of_mem hm
  obtain ⟨hr, hsv⟩ := h.at j hj
  obtain ⟨ad, c, e⟩ := hsv.form
  rw [e]; rfl
theorem eraseIdx_eq {α : Type} (l : List α) (i : Nat) (h : i < l.length) : l.take i ++ l.drop (i + 1) = oth l i := by rw [oth_at, List.eraseIdx_eq_take_drop_succ]


theorem rholds_c (v : Value) (rs : List (List UInt8)) (w0 w : World) (G : Im) (F : Hp) (hv : RowsV G v rs) (hmx : mxl rs ≤ 1000000) (hs : Sat w0 w G F) :
    Calls Try.prog 72 #[v] w fun e w' => ∃ G', e = .returned (.bool (decide (∀ c ∈ pxor rs, c = 0))) ∧ Im.le G G' ∧ Sat w0 w' G' F := by
  refine f_enter (vs := [_]) Try.func72 rfl Try.ntmps72 (by simp) hs ?_
  refine ww ?_
  refine c_cons (s_call (xs := [_]) rfl rfl rfl rfl rfl rfl (by kernel_rfl) (fun w hs => rxor_c _ _ _ w _ _ hv hmx hs) ?_)
  rintro e w' ⟨u, B, rfl, hown, hs'⟩
  refine Holds.atw ?_ hs'
  refine c_freezeO hown Chunk.head fun G' hG hsv => ?_
  obtain ⟨ad, cap, rfl, h1, h2, h3⟩ := hsv
  unfold maxLen at h2
  have hl : (pxor rs).length = mxl rs := pxor_length rs
  refine ww ?_
  refine c_loop (α := Nat) (fun i => [(4, I64 i), (3, .slice ad (pxor rs).length cap)]) (fun _ => G') (fun i => F) (fun i => i ≤ (pxor rs).length ∧ ∀ c ∈ (pxor rs).take i, c = 0) (fun i => (pxor rs).length - i) 0 ⟨Nat.zero_le _, by simp⟩ ?_ ?_
  · exact l_at ⟨rfl, rfl, trivial⟩ (Split.refl _)
  · rintro i ⟨hi, hz⟩
    refine ww ?_
    refine c_cond_d rfl (fun hlt => ?_) (fun hge => ?_)
    · have hil : i < (pxor rs).length := by omega
      rcases h3 with ⟨hx0, _⟩ | ⟨b, o, rfl, hc⟩
      · simp at hx0; rw [hx0] at hil; simp at hil
      have e1 := (hc i (B8 (pxor rs)[i]) (by simp [hil])).mono (H' := F) (Im.le_refl G') (by simp)
      refine ww ?_
      refine c_cons (s_val (v_index1 rfl rfl (by kernel_rfl) (by omega)) rfl rfl rfl ?_)
      refine c_cons (s_val (v_load rfl (by simpa using e1) (by kernel_rfl)) rfl rfl rfl ?_)
      refine ww ?_
      refine c_cond_d rfl (fun hne => ?_) (fun heq => ?_)
      · refine ww ?_
        refine f_ret1 rfl rfl (fun w hs => ⟨G', ?_, hG, hs⟩)
        have : ¬ ∀ c ∈ pxor rs, c = 0 := fun h => hne (by rw [h _ (List.getElem_mem hil)]; rfl)
        rw [decide_eq_false this]
      · refine ww ?_
        refine l_next (G' := fun _ => G') (i + 1) ⟨by omega, ?_⟩ (by omega) ⟨rfl, rfl, trivial⟩ rfl (Split.refl _)
        intro c hc
        rw [List.take_succ_eq_append_getElem hil, List.mem_append] at hc
        rcases hc with hc | hc
        · exact hz c hc
        · rw [List.mem_singleton.1 hc]
          have h2 : ¬ ¬ ((pxor rs)[i].toNat : Int) = 0 := heq
          exact UInt8.toNat_inj.1 (by simpa using h2)
    · refine ww ?_
      refine f_ret1 rfl rfl (fun w hs => ⟨G', ?_, hG, hs⟩)
      have e : i = (pxor rs).length := by omega
      subst e
      rw [List.take_length] at hz
      rw [decide_eq_true hz]
end Go.Proofs.Ytldkldmjcacopaa
