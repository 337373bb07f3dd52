/- Plain: a journal goes on. The laws of package journal: awake, Room. Deeds, read as arguments. -/
import Derived.Test.YtkjneelekfdpfaaJrW7
import Derived.Test.YtkjneelekfdpfaaFrame
namespace Go.Proofs.Ytkjneelekfdpfaa
section
open Go
set_option linter.unusedVariables false
set_option linter.unusedSimpArgs false
set_option maxHeartbeats 1600000
theorem rec_row {L : List (List UInt8)} (h64 : ∀ x ∈ L, x.length = 64) {p rest k : Nat} {r : List UInt8} (h : recS L p rest = some (r, k)) : r.length ≤ k * 64 := by
  unfold recS at h
  split at h
  · cases h
    have h1 : (((L.drop p).take (jk (num ((L.getD p []).take 3)))).flatten).length ≤ jk (num ((L.getD p []).take 3)) * 64 := by
      rw [flat_len _ (fun x hx => h64 x (List.mem_of_mem_drop (List.mem_of_mem_take hx))), List.length_take, List.length_drop]
      exact Nat.mul_le_mul_right _ (by omega)
    rw [List.length_take, List.length_drop]
    omega
  · cases h
theorem recs_bounds {L : List (List UInt8)} (h64 : ∀ x ∈ L, x.length = 64) : ∀ f p rest rows, recsS L f p rest = some rows → rows.length ≤ f ∧ ∀ r ∈ rows, r.length ≤ rest * 64
  | 0, _, _, rows, h => by cases h; simp
  | f + 1, p, rest, rows, h => by
    unfold recsS at h
    by_cases h0 : rest = 0
    · rw [if_pos h0] at h; cases h; simp
    · rw [if_neg h0] at h
      cases h1 : recS L p rest with
      | none => rw [h1] at h; cases h
      | some q =>
        obtain ⟨r, k⟩ := q
        rw [h1] at h
        dsimp only at h
        have hk := rec_le h1
        have hr := rec_row h64 h1
        cases h2 : recsS L f (p + k) (rest - k) with
        | none => rw [h2] at h; cases h
        | some rs =>
          rw [h2] at h
          cases h
          obtain ⟨i1, i2⟩ := recs_bounds h64 f _ _ rs h2
          refine ⟨by rw [List.length_cons]; omega, fun x hx => ?_⟩
          rcases List.mem_cons.1 hx with rfl | hx
          · exact Nat.le_trans hr (Nat.mul_le_mul_right _ hk.2)
          · exact Nat.le_trans (i2 x hx) (Nat.mul_le_mul_right _ (by omega))
/-- A journal goes on: n steps at most are done. -/
structure Jt (n S : Nat) (D : Dk) (J : Jn) : Prop where
  st : Stable D J
  len : D.now.length = S
  g : J.hd.g ≤ 1 + n
  o : D.ops ≤ 10 + 1100 * (n : Int)
theorem Jt.hl {n S : Nat} {D : Dk} {J : Jn} (h : Jt n S D J) : 6 ≤ D.now.length ∧ D.now.length ≤ 4160 := h.st.inv.len
theorem Jt.up {n m S : Nat} {D : Dk} {J : Jn} (h : Jt n S D J) (hm : n ≤ m) : Jt m S D J := ⟨h.st, h.len, by have := h.g; omega, by have := h.o; omega⟩
theorem Jt.wj {n S : Nat} {D : Dk} {J : Jn} (h : Jt n S D J) : WJ D.now.length J := by
  have iv := h.st.inv
  have hz : jz D.now.length ≤ 2079 := by have := iv.len; unfold jz; omega
  obtain ⟨r1, r2⟩ := recs_bounds iv.s64 _ _ _ _ iv.rows
  have he := iv.e
  refine ⟨iv.gd, iv.h.2, iv.e.2, iv.s, by omega, fun r hr => ?_⟩
  have := r2 r hr
  have : J.hd.e.toNat * 64 ≤ 2079 * 64 := Nat.mul_le_mul_right _ (by omega)
  omega
theorem Jt.sm {n S : Nat} {D : Dk} {J : Jn} (h : Jt n S D J) (hn : n ≤ 800) : D.since.length < 990000 ∧ D.ops < 990000 := by
  rw [h.st.none]
  have := h.o
  exact ⟨by simp, by omega⟩
theorem Jt.fuse {n S : Nat} {D : Dk} {J : Jn} (h : Jt n S D J) (k : Int) : Jt n S (fuseS D k) J := ⟨⟨h.st.live, h.st.none, h.st.same, h.st.inv⟩, h.len, h.g, h.o⟩
theorem crash_stable {D : Dk} {J : Jn} (h : Stable D J) (ch : List UInt8) : crashS D ch = ⟨D.now, D.now, [], -1, 0, false⟩ := by
  unfold crashS
  rw [h.none, h.same]
  rfl
theorem Jt.crash {n S : Nat} {D : Dk} {J : Jn} (h : Jt n S D J) (ch : List UInt8) : Jt n S (crashS D ch) J := by
  rw [crash_stable h.st]
  exact ⟨⟨rfl, rfl, rfl, h.st.inv⟩, h.len, h.g, by dsimp only; omega⟩
/-! ### What every op keeps -/
theorem puts_keeps {P : Dk → Prop} (hw : ∀ D n x, P D → P (writeS D n x).1) : ∀ (xs : List (List UInt8)) (D : Dk) (p : Nat), P D → P (putsS D p xs).1
  | [], _, _, h => h
  | x :: r, D, p, h => by
    show P (if _ then _ else _ : Dk × Int).1
    split
    · exact puts_keeps hw r _ _ (hw _ _ _ h)
    · exact hw _ _ _ h
theorem lay_keeps {P : Dk → Prop} (hw : ∀ D n x, P D → P (writeS D n x).1) (hy : ∀ D, P D → P (syncS D).1) (D : Dk) (J : Jn) (half at' : Int) (b : List UInt8) (h : P D) : P (layS D J half at' b).1 := by
  unfold layS
  split
  · exact h
  split
  · exact h
  have h1 := puts_keeps hw (secsL b) D (2 + half.toNat * jz D.now.length + at'.toNat) h
  have h2 : P (thenSync (putsS D (2 + half.toNat * jz D.now.length + at'.toNat) (secsL b))).1 := by
    unfold thenSync
    split
    · exact hy _ h1
    · exact h1
  unfold headS
  split
  · split
    · exact hy _ (hw _ _ _ h2)
    · exact hw _ _ _ h2
  · exact h2
def Lens (S : Nat) (D : Dk) : Prop := D.now.length = S ∧ D.lasts.length = S
def Lv (D : Dk) : Prop := D.dead = false ∧ D.fuse = -1
theorem write_lens {S : Nat} (D : Dk) (n : Int) (x : List UInt8) (h : Lens S D) : Lens S (writeS D n x).1 := by
  unfold writeS
  split
  · exact h
  · split
    · unfold opS
      by_cases hf : (addS D n.toNat x).fuse = 0
      · rw [if_pos hf]; exact h
      · rw [if_neg hf]; exact ⟨by simp only [wrt, addS, List.length_set]; exact h.1, h.2⟩
    · exact h
theorem sync_lens {S : Nat} (D : Dk) (h : Lens S D) : Lens S (syncS D).1 := by
  unfold syncS
  split
  · exact h
  · unfold opS
    by_cases hf : D.fuse = 0
    · rw [if_pos hf]; exact h
    · rw [if_neg hf]; exact ⟨h.1, by simp only [synced, putAll_len]; exact h.2⟩
theorem write_lv (D : Dk) (n : Int) (x : List UInt8) (h : Lv D) : Lv (writeS D n x).1 := by
  obtain ⟨h1, h2⟩ := h
  unfold writeS
  rw [if_neg (by simp [h1])]
  split
  · unfold opS
    rw [if_neg (by simp [addS, h2]), if_neg (by simp [addS, h2])]
    exact ⟨h1, h2⟩
  · exact ⟨h1, h2⟩
theorem sync_lv (D : Dk) (h : Lv D) : Lv (syncS D).1 := by
  obtain ⟨h1, h2⟩ := h
  unfold syncS
  rw [if_neg (by simp [h1])]
  unfold opS
  rw [if_neg (by simp [h2]), if_neg (by simp [h2])]
  exact ⟨h1, h2⟩
theorem lay_lv (D : Dk) (J : Jn) (half at' : Int) (b : List UInt8) (h : Lv D) : Lv (layS D J half at' b).1 := lay_keeps write_lv sync_lv D J half at' b h
/-- A disk that died at work. -/
structure Td (n S : Nat) (D : Dk) (J J' : Jn) : Prop where
  dead : D.dead = true
  torn : Torn D J J'
  len : Lens S D
  g : J.hd.g ≤ 1 + n
  g' : J'.hd.g ≤ 1 + n
theorem Td.crash {n S : Nat} {D : Dk} {J J' : Jn} (h : Td n S D J J') (ch : List UInt8) : Jt n S (crashS D ch) J ∨ Jt n S (crashS D ch) J' := by
  have hl : (crashS D ch).now.length = S := by show (putAll _ _).length = S; rw [putAll_len]; exact h.len.2
  have ho : (crashS D ch).ops ≤ 10 + 1100 * (n : Int) := by show (0 : Int) ≤ _; omega
  rcases h.torn ch with hi | hi
  · exact .inl ⟨⟨rfl, rfl, rfl, hi⟩, hl, h.g, ho⟩
  · exact .inr ⟨⟨rfl, rfl, rfl, hi⟩, hl, h.g', ho⟩
/-- A record is laid, has no room, or kills. -/
theorem Jt.lay {n S : Nat} {D : Dk} {J : Jn} (h : Jt n S D J) (hn : n ≤ 800) {half at' : Int} {b : List UInt8} (hc : (half = J.hd.h ∧ at' = J.hd.e) ∨ (half = 1 - J.hd.h ∧ at' = 0)) (hb : b.length ≤ 65536) :
    ((layS D J half at' b).2 = 0 ∧ (jk b.length : Int) ≤ jz S - at' ∧ Jt (n + 1) S (layS D J half at' b).1 (newJ J half at' b)) ∨
    ((layS D J half at' b).2 = 5 ∧ ¬ (jk b.length : Int) ≤ jz S - at' ∧ (layS D J half at' b).1 = D) ∨
    ((layS D J half at' b).2 = 14 ∧ Td (n + 1) S (layS D J half at' b).1 J (newJ J half at' b)) := by
  have hg := h.g
  have hgn : (newJ J half at' b).hd.g ≤ 1 + ((n + 1 : Nat) : Int) := by show J.hd.g + 1 ≤ _; omega
  have hjk : jk b.length ≤ 1025 := by unfold jk; omega
  have ho := h.o
  by_cases hk : (jk b.length : Int) ≤ jz S - at'
  · rcases lay_ok h.st hc hb (by rw [h.len]; omega) (by omega) with ⟨e1, e2, e3, e4⟩ | ⟨e1, e2, e3⟩
    · exact .inl ⟨e1, hk, e2, by rw [e3, h.len], hgn, by omega⟩
    · exact .inr (.inr ⟨e1, e2, e3, lay_keeps write_lens sync_lens D J half at' b ⟨h.len, by rw [h.st.same, h.len]⟩, by omega, hgn⟩)
  · have e : layS D J half at' b = (D, 5) := by unfold layS; rw [if_neg (by omega), if_pos (.inl (by rw [h.len]; omega))]
    rw [e]
    exact .inr (.inl ⟨rfl, hk, rfl⟩)
theorem Jt.app {n S : Nat} {D : Dk} {J : Jn} (h : Jt n S D J) (hn : n ≤ 800) (b : List UInt8) (hb : b.length ≤ 65536) :
    ((appS D J b).2 = 0 ∧ (jk b.length : Int) ≤ jz S - J.hd.e ∧ Jt (n + 1) S (appS D J b).1 (appJ D J b) ∧ (appJ D J b).rows = J.rows ++ [b] ∧ (appJ D J b).hd.e = J.hd.e + jk b.length) ∨
    ((appS D J b).2 = 5 ∧ ¬ (jk b.length : Int) ≤ jz S - J.hd.e ∧ (appS D J b).1 = D ∧ appJ D J b = J) ∨
    ((appS D J b).2 = 14 ∧ appJ D J b = J ∧ ∃ J', Td (n + 1) S (appS D J b).1 J J' ∧ J'.rows = J.rows ++ [b]) := by
  have hr : (newJ J J.hd.h J.hd.e b).rows = J.rows ++ [b] := by unfold newJ; rw [if_pos rfl]
  rcases h.lay hn (b := b) (.inl ⟨rfl, rfl⟩) hb with ⟨e1, e2, e3⟩ | ⟨e1, e2, e3⟩ | ⟨e1, e2⟩
  · have ej : appJ D J b = newJ J J.hd.h J.hd.e b := by unfold appJ appS; rw [if_pos e1]
    rw [ej]
    exact .inl ⟨e1, e2, e3, hr, rfl⟩
  · have ej : appJ D J b = J := by unfold appJ appS; rw [if_neg (by rw [e1]; decide)]
    exact .inr (.inl ⟨e1, e2, e3, ej⟩)
  · have ej : appJ D J b = J := by unfold appJ appS; rw [if_neg (by rw [e1]; decide)]
    exact .inr (.inr ⟨e1, ej, _, e2, hr⟩)
theorem Jt.rst {n S : Nat} {D : Dk} {J : Jn} (h : Jt n S D J) (hn : n ≤ 800) (b : List UInt8) (hb : b.length ≤ 65536) :
    ((rstS D J b).2 = 0 ∧ (jk b.length : Int) ≤ jz S ∧ Jt (n + 1) S (rstS D J b).1 (rstJ D J b) ∧ (rstJ D J b).rows = [b] ∧ (rstJ D J b).hd.e = jk b.length) ∨
    ((rstS D J b).2 = 5 ∧ ¬ (jk b.length : Int) ≤ jz S ∧ (rstS D J b).1 = D ∧ rstJ D J b = J) ∨
    ((rstS D J b).2 = 14 ∧ rstJ D J b = J ∧ ∃ J', Td (n + 1) S (rstS D J b).1 J J' ∧ J'.rows = [b]) := by
  have hh := h.st.inv.h
  have hr : (newJ J (1 - J.hd.h) 0 b).rows = [b] := by unfold newJ; rw [if_neg (by omega)]; rfl
  rcases h.lay hn (b := b) (.inr ⟨rfl, rfl⟩) hb with ⟨e1, e2, e3⟩ | ⟨e1, e2, e3⟩ | ⟨e1, e2⟩
  · have ej : rstJ D J b = newJ J (1 - J.hd.h) 0 b := by unfold rstJ rstS; rw [if_pos e1]
    rw [ej]
    exact .inl ⟨e1, by omega, e3, hr, by show (0 : Int) + _ = _; omega⟩
  · have ej : rstJ D J b = J := by unfold rstJ rstS; rw [if_neg (by rw [e1]; decide)]
    exact .inr (.inl ⟨e1, by omega, e3, ej⟩)
  · have ej : rstJ D J b = J := by unfold rstJ rstS; rw [if_neg (by rw [e1]; decide)]
    exact .inr (.inr ⟨e1, ej, _, e2, hr⟩)
theorem Jt.open {n S : Nat} {D : Dk} {J : Jn} (h : Jt n S D J) : openS D.now = some J := open_inv h.st.inv
/-- A new journal. -/
theorem fmt_new {m : Nat} (hm : 6 ≤ m ∧ m ≤ 4160) : (fmtS (newD m)).2 = 0 ∧ Jt 0 m (fmtS (newD m)).1 J0 ∧ Lv (fmtS (newD m)).1 := by
  obtain ⟨x, hx⟩ : ∃ x, x = pad64 (hdB ⟨1, 0, 0⟩) := ⟨_, rfl⟩
  have hx64 : x.length = 64 := by rw [hx]; exact pad64_len _
  obtain ⟨D, hD⟩ : ∃ D, D = newD m := ⟨_, rfl⟩
  have hlv : Lv D := by rw [hD]; exact ⟨rfl, rfl⟩
  have hnow : D.now = List.replicate m z64 := by rw [hD]; rfl
  have hlast : D.lasts = List.replicate m z64 := by rw [hD]; rfl
  have hnone : D.since = [] := by rw [hD]; rfl
  have hops : D.ops = 0 := by rw [hD]; rfl
  have hml : D.now.length = m := by rw [hnow, List.length_replicate]
  rw [← hD]
  unfold fmtS
  rw [← hx]
  have l1 := write_lv D 1 z64 hlv
  rcases write_live (D := D) hlv.1 (p := 1) (by omega) z64_len with ⟨w1, w2, w3, w4, w5, w6⟩ | ⟨w1, w2, _⟩
  rotate_left
  · exfalso; rw [show ((1 : Nat) : Int) = 1 from rfl] at w2; rw [l1.1] at w2; cases w2
  rw [show ((1 : Nat) : Int) = 1 from rfl] at w1 w2 w3 w4 w5 w6
  generalize writeS D 1 z64 = W1 at l1 w1 w2 w3 w4 w5 w6 ⊢
  rw [if_pos w1]
  have l2 := write_lv W1.1 0 x l1
  rcases write_live (D := W1.1) l1.1 (p := 0) (by rw [w5, List.length_set]; omega) hx64 with ⟨v1, v2, v3, v4, v5, v6⟩ | ⟨v1, v2, _⟩
  rotate_left
  · exfalso; rw [show ((0 : Nat) : Int) = 0 from rfl] at v2; rw [l2.1] at v2; cases v2
  rw [show ((0 : Nat) : Int) = 0 from rfl] at v1 v2 v3 v4 v5 v6
  generalize writeS W1.1 0 x = W2 at l2 v1 v2 v3 v4 v5 v6 ⊢
  rw [if_pos v1]
  have l3 := sync_lv W2.1 l2
  rcases sync_live l2.1 with ⟨s1, s2, s3, s4, s5, s6⟩ | ⟨s1, s2, _⟩
  rotate_left
  · exfalso; rw [l3.1] at s2; cases s2
  generalize syncS W2.1 = W3 at l3 s1 s2 s3 s4 s5 s6 ⊢
  have hn3 : W3.1.now = (D.now.set 1 z64).set 0 x := by rw [s5, v5, w5]
  have hl3 : W3.1.lasts = (D.now.set 1 z64).set 0 x := by
    rw [s3, v4, w4, hnone, v3, w3, hlast, ← hnow]; rfl
  have hlen3 : W3.1.now.length = m := by rw [hn3, List.length_set, List.length_set, hml]
  have hok : hdJ x = ⟨1, 0, 0⟩ := by rw [hx]; exact (hdJ_laid ⟨1, 0, 0⟩ ⟨by decide, by decide, by decide⟩).1
  refine ⟨s1, ⟨⟨s2, s4, by rw [hl3, hn3], ⟨by rw [hlen3]; exact hm, ?_, by decide, by decide, ⟨by decide, ?_⟩, .inl rfl, ?_, ?_, rfl⟩⟩, hlen3, by decide, by omega⟩, l3⟩
  · intro y hy
    rw [hn3] at hy
    rcases List.mem_or_eq_of_mem_set hy with hy | hy
    · rcases List.mem_or_eq_of_mem_set hy with hy | hy
      · rw [hnow] at hy; rw [(List.mem_replicate.1 hy).2]; exact z64_len
      · rw [hy]; exact z64_len
    · rw [hy]; exact hx64
  · show (0 : Int) ≤ _; omega
  · rw [hn3]
    show ((D.now.set 1 z64).set 0 x)[0]? = some (pad64 (hdB ⟨1, 0, 0⟩))
    rw [List.getElem?_set_self (by rw [List.length_set]; omega), hx]
  · intro y hy
    left
    rw [hn3] at hy
    change ((D.now.set 1 z64).set 0 x)[1]? = some y at hy
    rw [List.getElem?_set_ne (by decide), List.getElem?_set_self (by omega)] at hy
    cases hy
    rintro ⟨h1, _⟩
    revert h1
    decide
/-- A disk that does not die. -/
theorem Jt.app_y {n S : Nat} {D : Dk} {J : Jn} (h : Jt n S D J) (lv : Lv D) (hn : n ≤ 800) (b : List UInt8) (hb : b.length ≤ 65536) (hk : (jk b.length : Int) ≤ jz S - J.hd.e) :
    (appS D J b).2 = 0 ∧ Jt (n + 1) S (appS D J b).1 (appJ D J b) ∧ Lv (appS D J b).1 ∧ (appJ D J b).rows = J.rows ++ [b] ∧ (appJ D J b).hd.e = J.hd.e + jk b.length := by
  have hl : Lv (appS D J b).1 := lay_lv D J _ _ b lv
  rcases h.app hn b hb with ⟨e1, _, e2, e3, e4⟩ | ⟨_, e2, _⟩ | ⟨_, _, J', e2, _⟩
  · exact ⟨e1, e2, hl, e3, e4⟩
  · exact absurd hk e2
  · have := e2.dead; rw [hl.1] at this; cases this
theorem Jt.app_n {n S : Nat} {D : Dk} {J : Jn} (h : Jt n S D J) (hn : n ≤ 800) (b : List UInt8) (hb : b.length ≤ 65536) (hk : ¬ (jk b.length : Int) ≤ jz S - J.hd.e) :
    appS D J b = (D, 5) ∧ appJ D J b = J := by
  have e : appS D J b = (D, 5) := by unfold appS layS; rw [if_neg (by omega), if_pos (.inl (by rw [h.len]; omega))]
  exact ⟨e, by unfold appJ; rw [e, if_neg (by simp)]⟩
theorem Jt.app_l {D : Dk} {J : Jn} (b : List UInt8) (hb : 65536 < b.length) : appS D J b = (D, 3) ∧ appJ D J b = J := by
  have e : appS D J b = (D, 3) := by unfold appS layS; rw [if_pos hb]
  exact ⟨e, by unfold appJ; rw [e, if_neg (by simp)]⟩
theorem Jt.rst_y {n S : Nat} {D : Dk} {J : Jn} (h : Jt n S D J) (lv : Lv D) (hn : n ≤ 800) (b : List UInt8) (hb : b.length ≤ 65536) (hk : (jk b.length : Int) ≤ jz S) :
    (rstS D J b).2 = 0 ∧ Jt (n + 1) S (rstS D J b).1 (rstJ D J b) ∧ Lv (rstS D J b).1 ∧ (rstJ D J b).rows = [b] ∧ (rstJ D J b).hd.e = jk b.length := by
  have hl : Lv (rstS D J b).1 := lay_lv D J _ _ b lv
  rcases h.rst hn b hb with ⟨e1, _, e2, e3, e4⟩ | ⟨_, e2, _⟩ | ⟨_, _, J', e2, _⟩
  · exact ⟨e1, e2, hl, e3, e4⟩
  · exact absurd hk e2
  · have := e2.dead; rw [hl.1] at this; cases this
theorem Jt.rst_n {n S : Nat} {D : Dk} {J : Jn} (h : Jt n S D J) (hn : n ≤ 800) (b : List UInt8) (hb : b.length ≤ 65536) (hk : ¬ (jk b.length : Int) ≤ jz S) :
    rstS D J b = (D, 5) ∧ rstJ D J b = J := by
  have e : rstS D J b = (D, 5) := by unfold rstS layS; rw [if_neg (by omega), if_pos (.inl (by rw [h.len]; omega))]
  exact ⟨e, by unfold rstJ; rw [e, if_neg (by simp)]⟩
theorem Items.zero (G : Im) : Items G [] [] := ⟨rfl, fun j x r h => by simp at h⟩
end

section
open Go
set_option linter.unusedVariables false
set_option linter.unusedSimpArgs false
set_option maxHeartbeats 3200000
structure Jd where
  d : Int
  n : Int
  b : List UInt8
def JdR (G : Im) (cs : List Value) (x : Jd) : Prop := ∃ u, cs = [I64 x.d, I64 x.n, u] ∧ SV G [] u x.b.length (x.b.map B8) ∧ x.n ≤ 9223372036854775807
theorem JdR.up : Up JdR := fun _ _ _ _ hG h => let ⟨u, e, hu, hn⟩ := h; ⟨u, e, hu.up hG, hn⟩
/-- What a deed has. -/
theorem Jd.at {G : Im} {v : Value} {l : List Jd} (h : RecV 3 JdR G v l) {i : Nat} {x : Jd} (hx : l[i]? = some x) : ∃ b o c u, v = Sl b o l.length c ∧ SV G [] u x.b.length (x.b.map B8) ∧
    ∀ (G' : Im) (H : Hp) (f : Nat) y, Im.le G G' → [I64 x.d, I64 x.n, u][f]? = some y → Cel G' H b (o + (i : Int).toNat * 3 + f) y := by
  obtain ⟨hi, rfl⟩ := List.getElem?_eq_some_iff.1 hx
  obtain ⟨b, o, c, cells, e1, ⟨u, rfl, hu, _⟩, _, e3⟩ := h.at (by decide) i hi
  exact ⟨b, o, c, u, e1, hu, fun G' H f y hG hy => by rw [Int.toNat_natCast]; exact (e3 [] f y hy).mono hG (by simp)⟩
attribute [local irreducible] Code.wp wpList stepK Holds Val wpR Eff Eff0 Code.wpIn wpListIn stepI Exit.then Exit.inBlock bodyPost bodyPostM

theorem format_n (dp : Nat) (B : Hp) (m : Nat) (hm : 6 ≤ m ∧ m ≤ 4160) (hr : DH dp (newD m) B) (w0 w : World) (G : Im) (F : Hp) (hs : Sat w0 w G (B ++ F)) :
    Calls Try.prog 12 #[Pt dp 0] w fun e w' => ∃ G' jp Bj B' D, e = .returned (.tuple #[Pt jp 0, I64 0]) ∧ Im.le G G' ∧ DH dp D B' ∧ Jt 0 m D J0 ∧ Lv D ∧ JH G' jp dp J0 Bj ∧ Sat w0 w' G' (Bj ++ (B' ++ F)) := by
  obtain ⟨f1, f2, f3⟩ := fmt_new hm
  refine (format_c dp B (newD m) hr (by simpa [newD] using hm) (by simp [newD]) (by simp [newD]) w0 w G F hs).mono ?_
  rintro e w' ⟨G', B', v, hG, rfl, hD, ⟨_, jp, Bj, rfl, hj, hs'⟩ | ⟨hne, _⟩⟩
  · exact ⟨G', jp, Bj, B', _, by rw [f1], hG, hD, f2, f3, hj, hs'⟩
  · exact absurd f1 hne
theorem open_y (dp : Nat) (B : Hp) (D : Dk) (hr : DH dp D B) {n S : Nat} {J : Jn} (h : Jt n S D J) (w0 w : World) (G : Im) (F : Hp) (hs : Sat w0 w G (B ++ F)) :
    Calls Try.prog 11 #[Pt dp 0] w fun e w' => ∃ G' jp Bj, e = .returned (.tuple #[Pt jp 0, I64 0]) ∧ Im.le G G' ∧ JH G' jp dp J Bj ∧ Sat w0 w' G' (Bj ++ (B ++ F)) := by
  refine (jopen_c dp B D hr h.hl h.st.inv.s64 w0 w G F hs).mono ?_
  rintro e w' ⟨G', hG, ⟨h1, _⟩ | ⟨_, h1, _⟩ | ⟨_, J', jp, Bj, h1, rfl, hj, hs'⟩⟩
  · rw [h.st.live] at h1; cases h1
  · rw [h.open] at h1; cases h1
  · rw [h.open] at h1; cases h1
    exact ⟨G', jp, Bj, rfl, hG, hj, hs'⟩

theorem awake_c (w0 w : World) (G : Im) (F : Hp) (hs : Sat w0 w G F) :
    Calls Try.prog 9 #[] w fun e w' => ∃ G', e = .returned (.bool true) ∧ Im.le G G' ∧ Sat w0 w' G' F := by
  refine f_enter (vs := []) Try.func9 rfl Try.ntmps9 (by simp) hs ?_
  have z20 : jz 20 = 9 := rfl
  refine ww ?_
  refine c_cons (s_call (xs := [_]) rfl rfl rfl rfl rfl rfl (by kernel_rfl) (fun w hs => new_c 20 (by decide) _ w _ _ hs) ?_)
  rintro e w' ⟨dp, B0, rfl, hD0, hs'⟩; refine a_ret ?_ hs'; clear hs'
  refine ww ?_
  refine c_cons (s_call (xs := [_]) rfl rfl rfl rfl rfl rfl (by kernel_rfl) (fun w hs => format_n dp B0 20 (by decide) hD0 _ w _ _ hs) ?_)
  rintro e w' ⟨G1, jp, Bj1, B1, D1, rfl, hG1, hD1, t1, lv1, hj1, hs'⟩; refine a_ret ?_ hs'; clear hs'
  refine ww ?_
  refine c_kf 18 rfl (by decide) ?_
  refine ww ?_
  refine c_cons (s_lit (z := B8 0) (bs := 1) (e := 5) [_] (by kernel_rfl) rfl rfl rfl rfl (by simp [Value.oneCell']) rfl (by decide) fun b1 => ?_)
  refine c_freeze .head fun G2 hG2 k2 => ?_
  obtain ⟨a1, t2, lv2, a2, a3⟩ := t1.app_y lv1 (by decide) [1] (by decide) (by decide)
  refine c_cons (s_call (xs := [_, _]) rfl rfl rfl rfl rfl rfl (by kernel_rfl) (fun w hs => jappend_c jp dp B1 Bj1 D1 hD1 t1.hl J0 t1.wj _ [1] (by decide) (t1.sm (by decide)).1 (t1.sm (by decide)).2 _ w _ _ (hj1.up hG2) (SV.block (.of_imm k2) (by simp [maxLen])) hs) ?_)
  rw [a1]
  generalize (appS D1 J0 [1]).1 = D2 at t2 lv2 ⊢
  generalize appJ D1 J0 [1] = J2 at t2 a2 a3 ⊢
  rintro e w' ⟨G3, B2, Bj2, hG3, rfl, hD2, hj2, hs'⟩; refine a_ret ?_ hs'; clear hs'
  refine ww ?_
  refine c_kf 28 rfl (by decide) ?_
  refine ww ?_
  refine c_cons (s_lit (z := B8 0) (bs := 1) (e := 5) [_, _] (by kernel_rfl) rfl rfl rfl rfl (by simp [Value.oneCell']) rfl (by decide) fun b2 => ?_)
  refine c_freeze .head fun G4 hG4 k4 => ?_
  obtain ⟨c1, t3, lv3, c2, c3⟩ := t2.app_y lv2 (by decide) [2, 2] (by decide) (by rw [a3]; decide)
  refine c_cons (s_call (xs := [_, _]) rfl rfl rfl rfl rfl rfl (by kernel_rfl) (fun w hs => jappend_c jp dp B2 Bj2 D2 hD2 t2.hl J2 t2.wj _ [2, 2] (by decide) (t2.sm (by decide)).1 (t2.sm (by decide)).2 _ w _ _ (hj2.up hG4) (SV.block (.of_imm k4) (by simp [maxLen])) hs) ?_)
  rw [c1]
  generalize (appS D2 J2 [2, 2]).1 = D3 at t3 lv3 ⊢
  generalize appJ D2 J2 [2, 2] = J3 at t3 c2 c3 ⊢
  rintro e w' ⟨G5, B3, Bj3, hG5, rfl, hD3, hj3, hs'⟩; refine a_ret ?_ hs'; clear hs'
  refine ww ?_
  refine c_cond_f rfl ?_
  refine c_sub (B3 ++ F) sbx ?_
  refine ww ?_
  refine c_cons (s_lit (z := B8 0) (bs := 1) (e := 5) [_] (by kernel_rfl) rfl rfl rfl rfl (by simp [Value.oneCell']) rfl (by decide) fun b3 => ?_)
  refine c_freeze .head fun G6 hG6 k6 => ?_
  refine c_cons (s_call (xs := [_, _]) rfl rfl rfl rfl rfl rfl (by kernel_rfl) (fun w hs => crash_c dp B3 D3 hD3 _ [0] _ w _ F (SV.block (.of_imm k6) (by simp [maxLen])) hs) ?_)
  rintro e w' ⟨cp, C1, rfl, hC1, hs'⟩; refine a_ret ?_ hs'; clear hs'
  have t4 := t3.crash [0]
  generalize crashS D3 [0] = D4 at t4 hC1
  refine c_cons (s_call (xs := [_]) rfl rfl rfl rfl rfl rfl (by kernel_rfl) (fun w hs => open_y cp C1 D4 hC1 t4 _ w _ _ hs) ?_)
  rintro e w' ⟨G7, jq, Bj4, rfl, hG7, hj4, hs'⟩; refine a_ret ?_ hs'; clear hs'
  refine ww ?_
  refine c_kt 43 rfl (by decide) ?_
  refine ww ?_
  have hw4 := t4.wj
  refine c_cons (s_call (xs := [_]) rfl rfl rfl rfl rfl rfl (by kernel_rfl) (fun w hs => jall_c jq cp Bj4 J3 hw4.n hw4.r _ w _ _ hj4 hs) ?_)
  rw [show J3.rows = [[1], [2, 2]] by rw [c2, a2]; rfl]
  rintro e w' ⟨G8, u8', rfl, hG8, hu8, hs'⟩; refine a_ret ?_ hs'; clear hs'
  refine ww ?_
  refine c_cons (s_lit (z := B8 0) (bs := 1) (e := 5) [_] (by kernel_rfl) rfl rfl rfl rfl (by simp [Value.oneCell']) rfl (by decide) fun b4 => ?_)
  refine c_freeze .head fun G9 hG9 k9 => ?_
  refine c_cons (s_lit (z := B8 0) (bs := 1) (e := 5) [_, _] (by kernel_rfl) rfl rfl rfl rfl (by simp [Value.oneCell']) rfl (by decide) fun b5 => ?_)
  refine c_freeze .head fun Ga hGa ka => ?_
  refine c_cons (s_lit (z := .slice none 0 0) (bs := 24) (e := 31) [_, _] (by kernel_rfl) rfl rfl rfl rfl (by simp [Value.oneCell']) rfl (by decide) fun b6 => ?_)
  refine c_freeze .head fun Gb hGb kb => ?_
  have i1 : SV Gb [] (Sl b4 0 1 1) ([1] : List UInt8).length (([1] : List UInt8).map B8) := SV.block (.of_imm (hGb _ _ (hGa _ _ k9))) (by decide)
  have i2 : SV Gb [] (Sl b5 0 2 2) ([2, 2] : List UInt8).length (([2, 2] : List UInt8).map B8) := SV.block (.of_imm (hGb _ _ ka)) (by decide)
  have hit : Items Gb [Sl b4 0 1 1, Sl b5 0 2 2] [[1], [2, 2]] := ((Items.zero Gb).snoc i1).snoc i2
  refine c_cons (s_call (xs := [_, _]) rfl rfl rfl rfl rfl rfl (by kernel_rfl) (fun w hs => rowsD_c _ _ [[1], [2, 2]] [[1], [2, 2]] _ w _ _ (hu8.mono (hG9.trans (hGa.trans hGb))) (RwS.sv (vs := [Sl b4 0 1 1, Sl b5 0 2 2]) (sl := []) kb (by simp [maxLen]) hit) hs) ?_)
  rintro e w' ⟨rfl, hs'⟩; refine a_ret ?_ hs'; clear hs'
  rw [decide_eq_true (rfl : ([[1], [2, 2]] : List (List UInt8)) = [[1], [2, 2]])]
  refine ww ?_
  exact f_ret1 rfl rfl (fun w hs => ⟨_, rfl, hG1.trans (hG2.trans (hG3.trans (hG4.trans (hG5.trans (hG6.trans (hG7.trans (hG8.trans (hG9.trans (hGa.trans hGb))))))))), hs.sb⟩)

theorem room_c (vl : Value) (l : List Jd) (most : Int) (w0 w : World) (G : Im) (F : Hp) (hl : RecV 3 JdR G vl l) (hs : Sat w0 w G F) :
    Calls Try.prog 18 #[vl, I64 most] w fun e w' => e = .returned (.bool (decide ((l.length : Int) ≤ most ∧ ∀ x ∈ l, x.b.length ≤ 2000))) ∧ Sat w0 w' G F := by
  obtain ⟨adl, cpl, rfl, hl1, hl2⟩ := hl.form
  unfold maxLen at hl2
  refine f_enter (vs := [_, _]) Try.func18 rfl Try.ntmps18 (by simp) hs ?_
  refine ww ?_
  refine c_cond_d rfl (fun c1 => ?_) (fun c1 => ?_)
  · -- then
    refine ww ?_
    exact f_ret1 rfl rfl (fun w hs => ⟨by rw [decide_eq_false (by omega)], hs⟩)
  refine ww ?_
  refine c_loop (α := Nat) (fun x => [(0, .slice adl l.length cpl), (5, I64 (x : Int))]) (fun _ => G) (fun x => F) (fun x => x ≤ l.length ∧ ∀ y ∈ l.take x, y.b.length ≤ 2000) (fun x => l.length - x) 0 ⟨Nat.zero_le _, by simp⟩ ?_ ?_
  · exact n_at ⟨rfl, rfl, trivial⟩ sbx
  rintro i ⟨hi, hall⟩
  refine ww ?_
  refine c_cond_d rfl (fun c2 => ?_) (fun c2 => ?_)
  · -- then
    obtain ⟨x, hx⟩ : ∃ x, l[i]? = some x := ⟨_, List.getElem?_eq_getElem (by omega)⟩
    have htk : l.take (i + 1) = l.take i ++ [x] := by rw [List.take_add_one, hx]; rfl
    obtain ⟨b, o, c, u, hv, hu, hc⟩ := Jd.at hl hx
    cases hv
    obtain ⟨adu, cpu, rfl⟩ := hu.form
    refine ww ?_
    refine c_cons (s_val (v_index 3 rfl rfl (by kernel_rfl) (by omega)) rfl rfl rfl ?_)
    refine c_cons (s_val (v_field 2 rfl (by kernel_rfl)) rfl rfl rfl ?_)
    refine c_cons (s_val (v_load rfl (hc _ _ 2 _ (Im.le_refl _) rfl) (by kernel_rfl)) rfl rfl rfl ?_)
    refine ww ?_
    refine c_cond_d rfl (fun c3 => ?_) (fun c3 => ?_)
    · -- then
      refine ww ?_
      exact f_ret1 rfl rfl (fun w hs => ⟨by rw [decide_eq_false (fun h => by have := h.2 x (List.mem_of_getElem? hx); omega)], hs⟩)
    refine ww ?_
    refine n_next (x := i) (i + 1) ⟨by omega, fun y hy => ?_⟩ (by omega) ⟨rfl, rfl, trivial⟩ rfl sbx
    rw [htk, List.mem_append] at hy
    rcases hy with hy | hy
    · exact hall y hy
    · rw [List.mem_singleton.1 hy]; omega
  have e : i = l.length := by omega
  subst e
  rw [List.take_length] at hall
  refine ww ?_
  exact f_ret1 rfl rfl (fun w hs => ⟨by rw [decide_eq_true ⟨by omega, hall⟩], hs⟩)
end

section
open Go
set_option linter.unusedVariables false
set_option maxRecDepth 100000

theorem rd_jd {H : Type} {enc : TypeId × Value → H} {W : World} (cs : List Value) (h : Rd enc Try.prog W 40 cs) : ∃ x, JdR (atStart W) cs x := by
  have hl : cs.length = 3 := rd_len Try.underlying40 h
  have h0 := rd_field Try.underlying40 h (i := 0) rfl
  have h1 := rd_field Try.underlying40 h (i := 1) rfl
  have h2 := rd_field Try.underlying40 h (i := 2) rfl
  obtain ⟨a, ea, _⟩ := rd_i64 Try.underlying3 h0
  obtain ⟨b, eb, hb⟩ := rd_i64 Try.underlying3 h1
  obtain ⟨u, xs, eu, hu⟩ := rd_bytes Try.underlying31 Try.underlying5 (by kernel_rfl) h2
  match cs, hl with
  | [c0, c1, c2], _ =>
    have e0 : [c0] = [I64 a] := ea
    have e1 : [c1] = [I64 b] := eb
    have e2 : [c2] = [u] := eu
    cases e0; cases e1; cases e2
    exact ⟨⟨a, b, xs⟩, u, rfl, hu, hb.2⟩
end
end Go.Proofs.Ytkjneelekfdpfaa
