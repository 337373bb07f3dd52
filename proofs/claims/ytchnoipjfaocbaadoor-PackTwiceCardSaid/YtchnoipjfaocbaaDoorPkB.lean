/- What was packed is where the deltas say, in plain Lean. -/
import Derived.Test.YtchnoipjfaocbaaDoorPkSz
import Derived.Test.YtchnoipjfaocbaaDoorBlkD
namespace Go.Proofs.YtchnoipjfaocbaaDoor
open Go
set_option linter.unusedVariables false
set_option linter.unusedSimpArgs false
theorem snoc_ind {α : Type} {p : List α → Prop} (h0 : p []) (h1 : ∀ l x, p l → p (l ++ [x])) (l : List α) : p l := by
  rw [← List.reverse_reverse l]
  induction l.reverse with
  | nil => exact h0
  | cons x r ih => rw [List.reverse_cons]; exact h1 _ _ ih
/-- A pointer says where bytes lie. -/
def Ref (R : List Fl) (p : P5) (m : List UInt8) : Prop := ∃ y, y ∈ R ∧ ∃ a : Nat, p = ⟨y.c, y.l, y.n, a, m.length⟩ ∧ a + m.length ≤ y.d.length ∧ (y.d.drop a).take m.length = m
def FuOk (M : Nat) : List Fl → Prop
  | [] => True
  | y :: r => (1 ≤ y.d.length ∧ y.d.length ≤ M) ∧ ∀ z, z ∈ r → M < z.d.length + 64 ∧ z.d.length ≤ M
theorem opn_back (f : Sr) (M : Nat) (R : List Fl) (k : Nat) (hk : k ≤ 64) (hM : 64 ≤ M) (hF : FuOk M R) : ∃ y r, opn f M R k = y :: r ∧ y.d.length + k ≤ M ∧ (∀ z, z ∈ r → M < z.d.length + 64 ∧ z.d.length ≤ M) ∧ ∀ q m, Ref R q m → Ref (y :: r) q m := by
  cases R with
  | nil => exact ⟨_, _, rfl, by simp; omega, (fun z hz => by cases hz), fun q m ⟨y, hy, _⟩ => by cases hy⟩
  | cons y r =>
    obtain ⟨⟨h1, h2⟩, h3⟩ := hF
    by_cases hc : M < y.d.length + k
    · have e : opn f M (y :: r) k = ⟨f.c, f.l, f.n + ((r.length + 1 : Nat) : Int), []⟩ :: y :: r := by unfold opn; dsimp only; rw [if_pos hc]
      refine ⟨_, _, e, by simp; omega, fun z hz => ?_, fun q m ⟨z, hz, h⟩ => ⟨z, List.mem_cons_of_mem _ hz, h⟩⟩
      rcases List.mem_cons.1 hz with rfl | hz
      · omega
      · exact h3 z hz
    · have e : opn f M (y :: r) k = y :: r := by unfold opn; dsimp only; rw [if_neg hc]
      exact ⟨y, r, e, by omega, h3, fun q m h => h⟩
theorem lay_back (f : Sr) (M : Nat) (R : List Fl) (m : List UInt8) (hm : m.length ≤ 64) (hne : ¬ m = []) (hM : 64 ≤ M) (hF : FuOk M R) :
    FuOk M (layS f M R m).2 ∧ Ref (layS f M R m).2 (layS f M R m).1 m ∧ ∀ q k, Ref R q k → Ref (layS f M R m).2 q k := by
  obtain ⟨y, r, e, h1, h2, h3⟩ := opn_back f M R m.length hm hM hF
  have hl : 0 < m.length := List.length_pos_iff.2 hne
  unfold layS
  rw [e]
  show FuOk M ({ y with d := y.d ++ m } :: r) ∧ Ref ({ y with d := y.d ++ m } :: r) ⟨y.c, y.l, y.n, y.d.length, m.length⟩ m ∧ ∀ q k, Ref R q k → Ref ({ y with d := y.d ++ m } :: r) q k
  refine ⟨⟨⟨?_, ?_⟩, h2⟩, ⟨_, List.mem_cons_self, y.d.length, rfl, ?_, ?_⟩, fun q k hq => ?_⟩
  · show 1 ≤ (y.d ++ m).length; rw [List.length_append]; omega
  · show (y.d ++ m).length ≤ M; rw [List.length_append]; omega
  · show y.d.length + m.length ≤ (y.d ++ m).length; rw [List.length_append]; omega
  · show ((y.d ++ m).drop y.d.length).take m.length = m
    rw [List.drop_left, List.take_length]
  · obtain ⟨z, hz, a, hp, ha, hd⟩ := h3 q k hq
    rcases List.mem_cons.1 hz with rfl | hz
    · refine ⟨_, List.mem_cons_self, a, hp, ?_, ?_⟩
      · show a + k.length ≤ (z.d ++ m).length; rw [List.length_append]; omega
      · show ((z.d ++ m).drop a).take k.length = k
        rw [List.drop_append_of_le_length (by omega), List.take_append_of_le_length (by rw [List.length_drop]; omega)]
        exact hd
    · exact ⟨z, List.mem_cons_of_mem _ hz, a, hp, ha, hd⟩
/-- What is known of stripes and deltas on the way. -/
structure BkW (M : Nat) (sz : Int) (l : List Dy) (R : List Fl) (D : List Dl) : Prop where
  len : D.length = l.length
  num : R.length ≤ l.length
  full : FuOk M R
  tok : ∀ (j : Nat) x d, l[j]? = some x → D[j]? = some d → d.d = 1 ∧ d.b = x.b ∧ d.s = sz ∧ (trimS x.d = [] → d.t = p0) ∧ (¬ trimS x.d = [] → Ref R d.t (trimS x.d))
theorem opn_len (f : Sr) (M : Nat) (R : List Fl) (k : Nat) : (opn f M R k).length ≤ R.length + 1 := by
  unfold opn
  cases R with
  | nil => simp
  | cons y r => dsimp only; split <;> simp
theorem putS_len (m : List UInt8) (R : List Fl) : (putS m R).2.length = R.length := by cases R <;> rfl
theorem run_bk (f : Sr) (M : Nat) (ino sz : Int) (hM : 64 ≤ M) (l : List Dy) : (∀ x, x ∈ l → x.d.length ≤ 64) → BkW M sz l (runS f M ino sz l).1 (runS f M ino sz l).2 := by
  induction l using snoc_ind with
  | h0 => exact fun _ => ⟨rfl, Nat.le_refl 0, trivial, fun j x d h => by simp at h⟩
  | h1 l x ih =>
    intro hx
    have h := ih (fun y hy => hx y (by simp [hy]))
    rw [runS_snoc]
    generalize runS f M ino sz l = s at h
    obtain ⟨h1, h2, h3, h4⟩ := h
    have hxl := hx x (by simp)
    have htl := trimS_len x.d
    have snoc : ∀ (R' : List Fl) (d : Dl), (∀ q k, Ref s.1 q k → Ref R' q k) → d.d = 1 ∧ d.b = x.b ∧ d.s = sz ∧ (trimS x.d = [] → d.t = p0) ∧ (¬ trimS x.d = [] → Ref R' d.t (trimS x.d)) →
        ∀ (j : Nat) y e, (l ++ [x])[j]? = some y → (s.2 ++ [d])[j]? = some e → e.d = 1 ∧ e.b = y.b ∧ e.s = sz ∧ (trimS y.d = [] → e.t = p0) ∧ (¬ trimS y.d = [] → Ref R' e.t (trimS y.d)) := by
      intro R' d hR hd j y e hj he
      by_cases hl : j < l.length
      · rw [List.getElem?_append_left hl] at hj
        rw [List.getElem?_append_left (by omega)] at he
        obtain ⟨g1, g2, g3, g4, g5⟩ := h4 j y e hj he
        exact ⟨g1, g2, g3, g4, fun hn => hR _ _ (g5 hn)⟩
      · by_cases hj2 : j = l.length
        · subst hj2
          rw [List.getElem?_append_right (Nat.le_refl _), Nat.sub_self] at hj
          rw [← h1, List.getElem?_append_right (Nat.le_refl _), Nat.sub_self] at he
          cases hj
          cases he
          exact hd
        · rw [List.getElem?_eq_none (by simp; omega)] at hj
          cases hj
    unfold stepS
    by_cases ht : trimS x.d = []
    · rw [if_pos ht]
      refine ⟨by simp [h1], by simp; omega, h3, snoc s.1 _ (fun q k h => h) ⟨rfl, rfl, rfl, fun _ => rfl, fun hn => absurd ht hn⟩⟩
    · rw [if_neg ht]
      obtain ⟨g1, g2, g3⟩ := lay_back f M s.1 (trimS x.d) (by omega) ht hM h3
      refine ⟨by simp [h1], ?_, g1, snoc _ _ g3 ⟨rfl, rfl, rfl, fun hn => absurd hn ht, fun _ => g2⟩⟩
      show (putS (trimS x.d) (opn f M s.1 (trimS x.d).length)).2.length ≤ _
      rw [putS_len]
      have := opn_len f M s.1 (trimS x.d).length
      simp; omega
/-- Pointers set, one after the other. -/
def setL (D : List Dl) (L : List P5) : List P5 := D.foldl (fun L x => L.set x.b.toNat x.t) L
theorem setL_snoc (D : List Dl) (d : Dl) (L : List P5) : setL (D ++ [d]) L = (setL D L).set d.b.toNat d.t := by simp [setL]
theorem setL_len (D : List Dl) (L : List P5) : (setL D L).length = L.length := by
  induction D using snoc_ind with
  | h0 => rfl
  | h1 D d ih => rw [setL_snoc, List.length_set, ih]
/-- Whose pointer stands at a block at the end. -/
def lastT (D : List Dl) (i : Nat) : Option P5 := D.foldl (fun o x => if x.b.toNat = i then some x.t else o) none
theorem lastT_snoc (D : List Dl) (d : Dl) (i : Nat) : lastT (D ++ [d]) i = if d.b.toNat = i then some d.t else lastT D i := by simp [lastT]
theorem setL_at (D : List Dl) (L : List P5) (i : Nat) (hi : i < L.length) : (setL D L).getD i p0 = (lastT D i).getD (L.getD i p0) := by
  induction D using snoc_ind with
  | h0 => rfl
  | h1 D d ih =>
    rw [setL_snoc, lastT_snoc]
    have hl := setL_len D L
    by_cases h : d.b.toNat = i
    · rw [if_pos h, h, List.getD, List.getElem?_set_self (by omega)]; rfl
    · rw [if_neg h, ← ih, List.getD, List.getD, List.getElem?_set_ne h]
def PutOk (sz : Int) (x : Dl) : Prop := x.d = 1 ∧ (0 ≤ x.b ∧ x.b < 64) ∧ x.b * 64 < sz ∧ x.s = sz ∧ mayP x.t
theorem resS_self (L : List P5) (n : Nat) (h : L.length = n) : resS L n = L := by unfold resS; rw [if_pos (by omega), List.take_of_length_le (by omega)]
theorem app_put {sz : Int} {x : Dl} (h : PutOk sz x) (hsz : sz ≤ 4096) (L : List P5) (s : Int) (hs : s = sz ∧ L.length = cntS sz ∨ s = 0 ∧ L = []) (h0 : 0 ≤ sz) :
    appL L s x = (sz, (if s = sz ∧ L.length = cntS sz then L else List.replicate (cntS sz) p0).set x.b.toNat x.t) := by
  obtain ⟨h1, h2, h3, h4, h5⟩ := h
  have hm : mayD L x := .inl ⟨h1, h2, by omega, by omega, h5⟩
  rw [appL_put hm h1]
  have hmx : max s x.s = sz := by rcases hs with ⟨rfl, _⟩ | ⟨rfl, _⟩ <;> omega
  rw [hmx]
  rcases hs with ⟨rfl, hL⟩ | ⟨rfl, rfl⟩
  · rw [if_pos ⟨rfl, hL⟩, resS_self L _ hL]
  · by_cases hz : (0 : Int) = sz ∧ ([] : List P5).length = cntS sz
    · rw [if_pos hz, resS_self _ _ hz.2]
    · rw [if_neg hz]
      unfold resS
      by_cases hc : cntS sz ≤ ([] : List P5).length
      · have : cntS sz = 0 := by simpa using hc
        rw [this]; rfl
      · rw [if_neg hc]; simp
theorem fold_puts (sz : Int) (hsz : 0 ≤ sz ∧ sz ≤ 4096) (D : List Dl) (L : List P5) (hL : L.length = cntS sz) : (∀ x, x ∈ D → PutOk sz x) → D.foldl (fun p x => appL p.2 p.1 x) (sz, L) = (sz, setL D L) := by
  induction D using snoc_ind with
  | h0 => exact fun _ => rfl
  | h1 D d ih =>
    intro h
    rw [List.foldl_append, ih (fun x hx => h x (by simp [hx])), setL_snoc]
    show appL (setL D L) sz d = _
    rw [app_put (h d (by simp)) hsz.2 _ _ (.inl ⟨rfl, by rw [setL_len, hL]⟩) hsz.1, if_pos ⟨rfl, by rw [setL_len, hL]⟩]
theorem app_cut (sz : Int) (hsz : 0 ≤ sz ∧ sz ≤ 4096) (ino : Int) (L : List P5) (s : Int) : appL L s ⟨2, ino, 0, sz, p0, p0⟩ = (sz, resS L (cntS sz)) := appL_cut (mayD_cutc L ino sz hsz) rfl
theorem runD_puts (sz : Int) (hsz : 0 ≤ sz ∧ sz ≤ 4096) (ino : Int) (D : List Dl) (h : ∀ x, x ∈ D → PutOk sz x) : runD (D ++ [⟨2, ino, 0, sz, p0, p0⟩]) = (sz, setL D (List.replicate (cntS sz) p0)) := by
  rw [runD_snoc]
  cases D with
  | nil =>
    rw [app_cut sz hsz]
    congr 1
    show resS [] (cntS sz) = List.replicate (cntS sz) p0
    unfold resS
    by_cases hc : cntS sz ≤ ([] : List P5).length
    · have : cntS sz = 0 := by simpa using hc
      rw [this]; rfl
    · rw [if_neg hc]; simp
  | cons d D =>
    have e : runD (d :: D) = (sz, setL (d :: D) (List.replicate (cntS sz) p0)) := by
      unfold runD
      rw [List.foldl_cons]
      show D.foldl _ (appL [] 0 d) = _
      rw [app_put (h d (by simp)) hsz.2 _ _ (.inr ⟨rfl, rfl⟩) hsz.1]
      have e2 : (if (0 : Int) = sz ∧ ([] : List P5).length = cntS sz then ([] : List P5) else List.replicate (cntS sz) p0) = List.replicate (cntS sz) p0 := by
        split
        · rename_i hc; rw [← hc.2]; rfl
        · rfl
      rw [e2, fold_puts sz hsz D _ (by rw [List.length_set, List.length_replicate]) (fun x hx => h x (by simp [hx]))]
      rfl
    rw [e, app_cut sz hsz, resS_self _ _ (by dsimp only; rw [setL_len, List.length_replicate])]
theorem runD_again (sz : Int) (hsz : 0 ≤ sz ∧ sz ≤ 4096) (ino : Int) (D C : List Dl) (h : ∀ x, x ∈ D → PutOk sz x) (hC : ∀ x, x ∈ C → PutOk sz x) :
    runD ((D ++ [⟨2, ino, 0, sz, p0, p0⟩]) ++ (C ++ [⟨2, ino, 0, sz, p0, p0⟩])) = (sz, setL C (setL D (List.replicate (cntS sz) p0))) := by
  have e := runD_puts sz hsz ino D h
  unfold runD at e ⊢
  have hl : (setL D (List.replicate (cntS sz) p0)).length = cntS sz := by rw [setL_len, List.length_replicate]
  rw [List.foldl_append, e, List.foldl_append, fold_puts sz hsz C _ hl hC]
  show appL (setL C (setL D (List.replicate (cntS sz) p0))) sz _ = _
  rw [app_cut sz hsz, resS_self _ _ (by rw [setL_len, hl])]
theorem ris_last (sz : Int) : ∀ (l : List Dy) (last : Int), risS sz last l → last ≤ lastB last l ∧ ∀ x, x ∈ l → x.b ≤ lastB last l
  | [], last, _ => ⟨Int.le_refl _, fun x hx => by cases hx⟩
  | y :: l, last, ⟨h, h2⟩ => by
    obtain ⟨g1, g2⟩ := ris_last sz l y.b h2
    have hy := h.1
    refine ⟨by show last ≤ lastB y.b l; omega, fun x hx => ?_⟩
    rcases List.mem_cons.1 hx with rfl | hx
    · exact g1
    · exact g2 x hx
theorem lastT_at (sz : Int) (l : List Dy) : ∀ D : List Dl, D.length = l.length → (∀ (j : Nat) x d, l[j]? = some x → D[j]? = some d → d.b = x.b) → risS sz (-1) l → ∀ (j : Nat) x d, l[j]? = some x → D[j]? = some d → lastT D x.b.toNat = some d.t := by
  induction l using snoc_ind with
  | h0 => intro D _ _ _ j x d h; simp at h
  | h1 l y ih =>
    intro D hlen hb hr j x d hx hd
    have hne : D ≠ [] := by intro h; rw [h] at hlen; simp at hlen
    obtain ⟨D', e, rfl⟩ : ∃ D' e, D = D' ++ [e] := ⟨D.dropLast, D.getLast hne, (List.dropLast_concat_getLast hne).symm⟩
    have hl : D'.length = l.length := by simpa using hlen
    obtain ⟨hr1, hr2⟩ := (risS_snoc sz y l (-1)).1 hr
    have heb : e.b = y.b := hb l.length y e (by rw [List.getElem?_append_right (Nat.le_refl _), Nat.sub_self]; rfl) (by rw [← hl, List.getElem?_append_right (Nat.le_refl _), Nat.sub_self]; rfl)
    have hlb := ris_last sz l (-1) hr1
    rw [lastT_snoc]
    by_cases hj : j < l.length
    · rw [List.getElem?_append_left hj] at hx
      rw [List.getElem?_append_left (by omega)] at hd
      have hm := hlb.2 x (List.mem_of_getElem? hx)
      have hx0 := (risS_mem (by omega) hr1 x (List.mem_of_getElem? hx)).1
      have h1 := hr2.1
      rw [if_neg (by omega)]
      refine ih D' hl (fun j x d h1 h2 => hb j x d ?_ ?_) hr1 j x d hx hd
      · have := (List.getElem?_eq_some_iff.1 h1).1
        rw [List.getElem?_append_left this]; exact h1
      · have := (List.getElem?_eq_some_iff.1 h2).1
        rw [List.getElem?_append_left this]; exact h2
    · have hjl : j < (l ++ [y]).length := (List.getElem?_eq_some_iff.1 hx).1
      have hje : j = l.length := by simp at hjl; omega
      subst hje
      rw [List.getElem?_append_right (Nat.le_refl _), Nat.sub_self] at hx
      rw [← hl, List.getElem?_append_right (Nat.le_refl _), Nat.sub_self] at hd
      cases hx
      cases hd
      rw [if_pos (by rw [heb])]
theorem numOk_mem (f : Sr) : ∀ (R : List Fl), numOk f R → ∀ y, y ∈ R → y.c = f.c ∧ y.l = f.l ∧ f.n ≤ y.n ∧ y.n ≤ f.n + R.length
  | [], _, y, hy => by cases hy
  | z :: r, ⟨⟨h1, h2, h3⟩, h4⟩, y, hy => by
    rcases List.mem_cons.1 hy with rfl | hy
    · rw [List.length_cons]; exact ⟨h1, h2, by omega, by omega⟩
    · obtain ⟨g1, g2, g3, g4⟩ := numOk_mem f r h4 y hy
      rw [List.length_cons]; exact ⟨g1, g2, g3, by omega⟩
theorem fuOk_mem {M : Nat} (hM : 64 ≤ M) {R : List Fl} (h : FuOk M R) : ∀ y, y ∈ R → 1 ≤ y.d.length ∧ y.d.length ≤ M := by
  cases R with
  | nil => intro y hy; cases hy
  | cons z r =>
    intro y hy
    rcases List.mem_cons.1 hy with rfl | hy
    · exact h.1
    · have := h.2 y hy; omega
theorem ref_may {f : Sr} {M : Nat} (hM : 64 ≤ M ∧ M ≤ 6000) {R : List Fl} (hn : numOk f R) (hf : FuOk M R) (hl : R.length ≤ 200) (hm : mst f.c f.l f.n) (hb : f.n ≤ 16777400) {p : P5} {m : List UInt8} (h1 : ¬ m = []) (h64 : m.length ≤ 64) (h : Ref R p m) : mayP p := by
  obtain ⟨y, hy, a, rfl, ha, _⟩ := h
  obtain ⟨g1, g2, g3, g4⟩ := numOk_mem f R hn y hy
  obtain ⟨g5, g6⟩ := fuOk_mem hM.1 hf y hy
  have hpos : 0 < m.length := List.length_pos_iff.2 h1
  unfold mst at hm
  refine .inr ⟨?_, ?_, ?_, ?_, ?_, ?_, ?_, ?_, ?_, ?_, ?_⟩ <;> dsimp only <;> omega
theorem bk_puts {f : Sr} {M : Nat} {sz : Int} {l : List Dy} {R : List Fl} {D : List Dl} (hM : 64 ≤ M ∧ M ≤ 6000) (hl : l.length ≤ 200) (hn : numOk f R) (h : BkW M sz l R D) (hm : mst f.c f.l f.n) (hb : f.n ≤ 16777400) (hr : risS sz (-1) l) : ∀ d, d ∈ D → PutOk sz d := by
  intro d hd
  obtain ⟨j, hj⟩ := List.getElem?_of_mem hd
  have hjl : j < D.length := (List.getElem?_eq_some_iff.1 hj).1
  obtain ⟨x, hx⟩ : ∃ x, l[j]? = some x := ⟨_, List.getElem?_eq_getElem (by rw [← h.len]; exact hjl)⟩
  obtain ⟨g1, g2, g3, g4, g5⟩ := h.tok j x d hx hj
  obtain ⟨k1, k2, k3, k4⟩ := risS_mem (by omega) hr x (List.mem_of_getElem? hx)
  refine ⟨g1, by omega, by omega, g3, ?_⟩
  by_cases ht : trimS x.d = []
  · rw [g4 ht]; exact mayP_0
  · have := trimS_len x.d
    exact ref_may hM hn h.full (by have := h.num; omega) hm hb ht (by omega) (g5 ht)
theorem fuOk_rev {M : Nat} (hM : 64 ≤ M) {R : List Fl} (h : FuOk M R) (k : Nat) (hk : k < R.reverse.length) : 1 ≤ R.reverse[k].d.length ∧ R.reverse[k].d.length ≤ M ∧ (k + 1 < R.reverse.length → M < R.reverse[k].d.length + 64) := by
  have hm := fuOk_mem hM h R.reverse[k] (by rw [← List.mem_reverse]; exact List.getElem_mem hk)
  refine ⟨hm.1, hm.2, fun h2 => ?_⟩
  cases R with
  | nil => simp at hk
  | cons y r =>
    have hk2 : k < r.reverse.length := by simp at h2 ⊢; omega
    have e2 : (y :: r).reverse[k] = r.reverse[k] := by
      simp only [List.reverse_cons]; rw [List.getElem_append_left hk2]
    rw [e2]
    exact (h.2 _ (by rw [← List.mem_reverse]; exact List.getElem_mem hk2)).1
/-- The file that the deltas make. -/
theorem back_s (f : Sr) (n sz : Int) (hf : mst f.c f.l f.n ∧ f.n ≤ 16777400) (hn : 3 ≤ n ∧ n ≤ 16) (hsz : 0 ≤ sz ∧ sz ≤ 4096) (l : List Dy) (hl : l.length ≤ 70) :
    packS 2 sz f n l = ([], [], 1) ∨ ∃ R D, packS 2 sz f n l = (R.reverse, D ++ [⟨2, 2, 0, sz, p0, p0⟩], 0) ∧ (R, D) = runS f (mostM n) 2 sz l ∧ numOk f R ∧ BkW (mostM n) sz l R D ∧ risS sz (-1) l ∧ ∀ d, d ∈ D → PutOk sz d := by
  have hM : 64 ≤ mostM n ∧ mostM n ≤ 6000 := by unfold mostM; omega
  by_cases hok : okS 2 sz f n l
  · right
    have hnum := runS_num f (mostM n) 2 sz l
    have hr := hok.2.2.2.2
    have hbk := run_bk f (mostM n) 2 sz hM.1 l (fun x hx => (risS_mem (by omega) hr x hx).2.2.2)
    have hn0 : 0 ≤ f.n := by have := hf.1; unfold mst at this; omega
    have htop := topN_le _ hn0 hnum
    have hlen := hbk.num
    refine ⟨(runS f (mostM n) 2 sz l).1, (runS f (mostM n) 2 sz l).2, ?_, rfl, hnum, hbk, hr, bk_puts hM (by omega) hnum hbk hf.1 hf.2 hr⟩
    unfold packS
    rw [if_pos hok, if_neg (by have := hf.2; omega)]
  · left
    unfold packS
    rw [if_neg hok]
theorem back_at {f : Sr} {M : Nat} {sz : Int} {l : List Dy} {R : List Fl} {D : List Dl} (hsz : 0 ≤ sz) (hb : BkW M sz l R D) (hr : risS sz (-1) l) (j : Nat) (x : Dy) (hx : l[j]? = some x) :
    (trimS x.d = [] → atS (setL D (List.replicate (cntS sz) p0)) x.b = p0) ∧ (¬ trimS x.d = [] → Ref R (atS (setL D (List.replicate (cntS sz) p0)) x.b) (trimS x.d)) := by
  have hjl : j < l.length := (List.getElem?_eq_some_iff.1 hx).1
  obtain ⟨d, hd⟩ : ∃ d, D[j]? = some d := ⟨_, List.getElem?_eq_getElem (by rw [hb.len]; exact hjl)⟩
  obtain ⟨g1, g2, g3, g4, g5⟩ := hb.tok j x d hx hd
  obtain ⟨k1, k2, k3, k4⟩ := risS_mem (by omega) hr x (List.mem_of_getElem? hx)
  have hlt := lastT_at sz l D hb.len (fun j x d h1 h2 => (hb.tok j x d h1 h2).2.1) hr j x d hx hd
  have hin : x.b.toNat < (List.replicate (cntS sz) p0).length := by rw [List.length_replicate]; unfold cntS; omega
  have e : atS (setL D (List.replicate (cntS sz) p0)) x.b = d.t := by
    have h1 := setL_at D (List.replicate (cntS sz) p0) x.b.toNat hin
    rw [hlt] at h1
    have h2 := at_nat (setL D (List.replicate (cntS sz) p0)) x.b.toNat
    rw [h1, Int.toNat_of_nonneg k1] at h2
    exact h2
  rw [e]
  exact ⟨g4, g5⟩
theorem back_f (f : Sr) (n sz : Int) (hf : mst f.c f.l f.n ∧ f.n ≤ 16777215) (hn : 3 ≤ n ∧ n ≤ 16) (hsz : 0 ≤ sz ∧ sz ≤ 4096) (l : List Dy) (hl : l.length ≤ 70) :
    packS 2 sz f n l = ([], [], 1) ∨ ∃ A D L, packS 2 sz f n l = (A, D, 0) ∧ A.length ≤ 70 ∧ D.length ≤ 71 ∧ runD D = (sz, L) ∧
      (∀ k (h : k < A.length), (1 ≤ A[k].d.length ∧ (A[k].d.length : Int) ≤ 400 * (n - 1)) ∧ (k + 1 < A.length → 400 * (n - 1) - 64 < (A[k].d.length : Int))) ∧
      ∀ (j : Nat) x, l[j]? = some x → x.d.length ≤ 64 ∧ (trimS x.d = [] → atS L x.b = p0) ∧ (¬ trimS x.d = [] → ∃ kk y, A[kk]? = some y ∧ ∃ a : Nat, atS L x.b = ⟨y.c, y.l, y.n, a, (trimS x.d).length⟩ ∧ a + (trimS x.d).length ≤ y.d.length ∧ (y.d.drop a).take (trimS x.d).length = trimS x.d ∧
        ∀ (k : Nat) z, A[k]? = some z → k ≠ kk → z.n ≠ y.n) := by
  rcases back_s f n sz ⟨hf.1, by omega⟩ hn hsz l hl with h | ⟨R, D, h1, h2, h3, h4, h5, h6⟩
  · exact .inl h
  have hM : 64 ≤ mostM n := by unfold mostM; omega
  have hMi : ((mostM n : Nat) : Int) = 400 * (n - 1) := by unfold mostM; omega
  refine .inr ⟨R.reverse, _, _, h1, by rw [List.length_reverse]; have := h4.num; omega, by rw [List.length_append, h4.len]; simp; omega, runD_puts sz hsz 2 D h6, fun k hk => ?_, fun j x hx => ?_⟩
  · obtain ⟨g1, g2, g3⟩ := fuOk_rev hM h4.full k hk
    exact ⟨⟨g1, by omega⟩, fun h => by have := g3 h; omega⟩
  · have hk := (risS_mem (by omega) h5 x (List.mem_of_getElem? hx)).2.2.2
    obtain ⟨g1, g2⟩ := back_at (f := f) hsz.1 h4 h5 j x hx
    refine ⟨hk, g1, fun hne => ?_⟩
    obtain ⟨y, hy, a, e1, e2, e3⟩ := g2 hne
    obtain ⟨kk, hkk⟩ := List.getElem?_of_mem (List.mem_reverse.2 hy)
    refine ⟨kk, y, hkk, a, e1, e2, e3, fun k z hz hne2 => ?_⟩
    obtain ⟨b1, e1⟩ := List.getElem?_eq_some_iff.1 hkk
    obtain ⟨b2, e2⟩ := List.getElem?_eq_some_iff.1 hz
    have n1 := (numOk_at f R kk b1 h3).2.2
    have n2 := (numOk_at f R k b2 h3).2.2
    rw [e1] at n1
    rw [e2] at n2
    omega
/-- The same elsewhere: other numbers. -/
def shF (y : Fl) : Fl := { y with n := y.n + 100 }
def shP (p : P5) : P5 := if p.k = 0 then p else { p with n := p.n + 100 }
def shD (d : Dl) : Dl := { d with t := shP d.t }
def shS (f : Sr) : Sr := { f with n := f.n + 100 }
theorem opn_sh (f : Sr) (M : Nat) (R : List Fl) (k : Nat) : opn (shS f) M (R.map shF) k = (opn f M R k).map shF := by
  cases R with
  | nil => rfl
  | cons y r =>
    unfold opn
    show (if M < y.d.length + k then _ else _) = _
    dsimp only
    split
    · show _ :: _ = _ :: _
      congr 1
      show Fl.mk _ _ _ _ = Fl.mk _ _ _ _
      rw [List.length_map]
      congr 1
      show f.n + 100 + _ = f.n + _ + 100
      omega
    · rfl
theorem putS_sh (m : List UInt8) (hm : ¬ m = []) (R : List Fl) : putS m (R.map shF) = (shP (putS m R).1, (putS m R).2.map shF) := by
  cases R with
  | nil => rfl
  | cons y r =>
    have hl : 0 < m.length := List.length_pos_iff.2 hm
    show (P5.mk _ _ _ _ _, _) = (shP (P5.mk _ _ _ _ _), _)
    unfold shP
    rw [if_neg (by dsimp only; omega)]
    rfl
theorem stepS_sh (f : Sr) (M : Nat) (ino sz : Int) (s : List Fl × List Dl) (x : Dy) : stepS (shS f) M ino sz (s.1.map shF, s.2.map shD) x = ((stepS f M ino sz s x).1.map shF, (stepS f M ino sz s x).2.map shD) := by
  unfold stepS
  by_cases h : trimS x.d = []
  · rw [if_pos h, if_pos h]
    show (_, _ ++ _) = (_, List.map _ (_ ++ _))
    rw [List.map_append]
    rfl
  · rw [if_neg h, if_neg h]
    unfold layS
    dsimp only
    rw [opn_sh, putS_sh _ h, List.map_append]
    rfl
theorem runS_sh (f : Sr) (M : Nat) (ino sz : Int) (l : List Dy) : runS (shS f) M ino sz l = ((runS f M ino sz l).1.map shF, (runS f M ino sz l).2.map shD) := by
  induction l using snoc_ind with
  | h0 => rfl
  | h1 l x ih => rw [runS_snoc, runS_snoc, ih, stepS_sh]
theorem lastT_sh (D : List Dl) (i : Nat) : lastT (D.map shD) i = (lastT D i).map shP := by
  induction D using snoc_ind with
  | h0 => rfl
  | h1 D d ih =>
    rw [List.map_append]
    show lastT (_ ++ [shD d]) i = _
    rw [lastT_snoc, lastT_snoc, ih]
    show (if d.b.toNat = i then some (shP d.t) else _) = _
    split <;> rfl
theorem twice_at (sz : Int) (D : List Dl) (i : Nat) (hi : i < cntS sz) : atS (setL (D.map shD) (setL D (List.replicate (cntS sz) p0))) i = shP (atS (setL D (List.replicate (cntS sz) p0)) i) := by
  rw [at_nat, at_nat, setL_at _ _ _ (by rw [setL_len, List.length_replicate]; exact hi), lastT_sh]
  have e := setL_at D (List.replicate (cntS sz) p0) i (by rw [List.length_replicate]; exact hi)
  rw [e]
  cases lastT D i with
  | some t => rfl
  | none =>
    show (List.replicate (cntS sz) p0).getD i p0 = shP ((List.replicate (cntS sz) p0).getD i p0)
    have e2 : (List.replicate (cntS sz) p0).getD i p0 = p0 := by
      rw [List.getD, List.getElem?_replicate]
      split <;> rfl
    rw [e2]; rfl
theorem twice_s (f : Sr) (n sz : Int) (hf : mst f.c f.l f.n ∧ f.n ≤ 16777215) (hn : 3 ≤ n ∧ n ≤ 16) (hsz : 0 ≤ sz ∧ sz ≤ 4096) (l : List Dy) (hl : l.length ≤ 70) :
    (packS 2 sz f n l = ([], [], 1) ∧ packS 2 sz (shS f) n l = ([], [], 1)) ∨ ∃ R D, packS 2 sz f n l = (R.reverse, D ++ [⟨2, 2, 0, sz, p0, p0⟩], 0) ∧ packS 2 sz (shS f) n l = ((R.map shF).reverse, D.map shD ++ [⟨2, 2, 0, sz, p0, p0⟩], 0) ∧ (∀ d, d ∈ D → PutOk sz d) ∧ (∀ d, d ∈ D.map shD → PutOk sz d) ∧ R.length ≤ 70 ∧ D.length ≤ 70 ∧ numOk f R := by
  have hf2 : mst (shS f).c (shS f).l (shS f).n ∧ (shS f).n ≤ 16777400 := by
    have h := hf.1
    unfold mst at h ⊢
    unfold shS
    dsimp only
    exact ⟨by omega, by omega⟩
  rcases back_s f n sz ⟨hf.1, by omega⟩ hn hsz l hl with h | ⟨R, D, h1, h2, h3, h4, h5, h6⟩
  · refine .inl ⟨h, ?_⟩
    rcases back_s (shS f) n sz hf2 hn hsz l hl with h' | ⟨R, D, h1, h2, h3, h4, h5, h6⟩
    · exact h'
    · exfalso
      have hok : okS 2 sz f n l := ⟨hn, hf.1, by omega, hsz, h5⟩
      unfold packS at h
      rw [if_pos hok] at h
      split at h
      · exact absurd (congrArg (fun x : List Fl × List Dl × Int => x.2.2) h) (by simp)
      · exact absurd (congrArg (fun x : List Fl × List Dl × Int => x.2.2) h) (by simp)
  · refine .inr ⟨R, D, h1, ?_, h6, ?_, ?_, ?_, h3⟩
    · rcases back_s (shS f) n sz hf2 hn hsz l hl with h' | ⟨R', D', g1, g2, g3, g4, g5, g6⟩
      · exfalso
        have hok : okS 2 sz (shS f) n l := ⟨hn, hf2.1, by omega, hsz, h5⟩
        unfold packS at h'
        rw [if_pos hok] at h'
        split at h'
        · exact absurd (congrArg (fun x : List Fl × List Dl × Int => x.2.2) h') (by simp)
        · exact absurd (congrArg (fun x : List Fl × List Dl × Int => x.2.2) h') (by simp)
      · rw [runS_sh, ← h2] at g2
        obtain ⟨rfl, rfl⟩ := Prod.mk.inj g2
        exact g1
    · rcases back_s (shS f) n sz hf2 hn hsz l hl with h' | ⟨R', D', g1, g2, g3, g4, g5, g6⟩
      · exfalso
        have hok : okS 2 sz (shS f) n l := ⟨hn, hf2.1, by omega, hsz, h5⟩
        unfold packS at h'
        rw [if_pos hok] at h'
        split at h'
        · exact absurd (congrArg (fun x : List Fl × List Dl × Int => x.2.2) h') (by simp)
        · exact absurd (congrArg (fun x : List Fl × List Dl × Int => x.2.2) h') (by simp)
      · rw [runS_sh, ← h2] at g2
        obtain ⟨rfl, rfl⟩ := Prod.mk.inj g2
        exact g6
    · have := h4.num; omega
    · have := h4.len; omega
theorem twice_f (f : Sr) (n sz : Int) (hf : mst f.c f.l f.n ∧ f.n ≤ 16777215) (hn : 3 ≤ n ∧ n ≤ 16) (hsz : 0 ≤ sz ∧ sz ≤ 4096) (l : List Dy) (hl : l.length ≤ 70) :
    (packS 2 sz f n l = ([], [], 1) ∧ packS 2 sz (shS f) n l = ([], [], 1)) ∨ ∃ A D C L L2, packS 2 sz f n l = (A, D, 0) ∧ packS 2 sz (shS f) n l = (A.map shF, C, 0) ∧ A.length ≤ 70 ∧ D.length ≤ 71 ∧ C.length ≤ 71 ∧ runD D = (sz, L) ∧ runD (D ++ C) = (sz, L2) ∧ L.length = cntS sz ∧ L2.length = cntS sz ∧
      (∀ i : Nat, i < cntS sz → atS L2 i = shP (atS L i) ∧ (0 < (atS L i).k → 0 ≤ (atS L i).n ∧ (atS L i).n ≤ 1073741824)) ∧ ∀ y, y ∈ A → 0 ≤ y.n ∧ y.n ≤ 16777400 := by
  rcases twice_s f n sz hf hn hsz l hl with h | ⟨R, D, h1, h2, h3, h4, h5, h6, h7⟩
  · exact .inl h
  have hn0 : 0 ≤ f.n := by have := hf.1; unfold mst at this; omega
  refine .inr ⟨R.reverse, _, _, _, _, h1, by rw [h2, List.map_reverse], by rw [List.length_reverse]; exact h5, by rw [List.length_append]; simp; omega, by rw [List.length_append, List.length_map]; simp; omega, runD_puts sz hsz 2 D h3, runD_again sz hsz 2 D _ h3 h4, by rw [setL_len, List.length_replicate], by rw [setL_len, setL_len, List.length_replicate], fun i hi => ⟨twice_at sz D i hi, fun hk => ?_⟩, fun y hy => ?_⟩
  · have hm := runD_may (D ++ [⟨2, 2, 0, sz, p0, p0⟩])
    rw [runD_puts sz hsz 2 D h3] at hm
    dsimp only at hm
    have hne : ¬ atS (setL D (List.replicate (cntS sz) p0)) i = p0 := fun h => by rw [h] at hk; exact absurd hk (by decide)
    have h8 := hm _ (at_in hne rfl)
    rw [mayP_iff hne] at h8
    omega
  · obtain ⟨_, _, g1, g2⟩ := numOk_mem f R h7 y (List.mem_reverse.1 hy)
    omega
theorem shP_k (p : P5) : (shP p).k = p.k ∧ (shP p).a = p.a ∧ (0 < p.k → (shP p).n = p.n + 100) := by
  unfold shP
  split
  · exact ⟨rfl, rfl, fun h => by omega⟩
  · exact ⟨rfl, rfl, fun _ => rfl⟩
end Go.Proofs.YtchnoipjfaocbaaDoor
