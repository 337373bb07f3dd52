/- What is synced lasts, in plain Lean; rows of bytes that grow where they lie. -/
import Derived.Test.YtehkooboflaikaaDskL3
namespace Go.Proofs.Ytehkooboflaikaa
open Go
set_option linter.unusedVariables false
set_option linter.unusedSimpArgs false

theorem getD_set {α : Type} (l : List α) (n m : Nat) (x d : α) (hn : n < l.length) : (l.set n x).getD m d = if n = m then x else l.getD m d := by
  by_cases h : n = m
  · subst h; simp [List.getD, hn]
  · rw [if_neg h]; simp [List.getD, h]

/-- Eight rows of bytes, each in memory of its own. -/
def Mine (vs : List Value) (xs : List (List UInt8)) (Bs : List Hp) : Prop := vs.length = 8 ∧ xs.length = 8 ∧ Bs.length = 8 ∧ ∀ n v, vs[n]? = some v → Own v (xs.getD n []).length ((xs.getD n []).map B8) 5 1 (Bs.getD n [])
theorem Mine.set {vs : List Value} {xs : List (List UInt8)} {Bs : List Hp} (h : Mine vs xs Bs) (n : Nat) (hn : n < 8) {v : Value} {ys : List UInt8} {B : Hp} (ho : Own v ys.length (ys.map B8) 5 1 B) : Mine (vs.set n v) (xs.set n ys) (Bs.set n B) := by
  obtain ⟨h1, h2, h3, h4⟩ := h
  refine ⟨by simp [h1], by simp [h2], by simp [h3], fun m u hu => ?_⟩
  rw [getD_set _ _ _ _ _ (by omega), getD_set _ _ _ _ _ (by omega)]
  by_cases e : n = m
  · subst e
    rw [if_pos rfl, if_pos rfl]
    rw [List.getElem?_set_self (by omega)] at hu
    cases hu; exact ho
  · rw [if_neg e, if_neg e]
    rw [List.getElem?_set_ne e] at hu
    exact h4 m u hu
theorem Mine.nils : Mine (List.replicate 8 (.slice none 0 0)) (List.replicate 8 []) (List.replicate 8 []) := by
  refine ⟨by simp, by simp, by simp, fun n v hv => ?_⟩
  have h1 : v = .slice none 0 0 := by
    rw [List.getElem?_replicate] at hv
    split at hv
    · cases hv; rfl
    · cases hv
  have e2 : (List.replicate 8 ([] : List UInt8)).getD n [] = [] := by
    simp only [List.getD, List.getElem?_replicate]; split <;> rfl
  have e3 : (List.replicate 8 ([] : Hp)).getD n [] = [] := by
    simp only [List.getD, List.getElem?_replicate]; split <;> rfl
  rw [e2, e3, h1]
  exact Own.nil _ _
theorem Mine.one {vs : List Value} {xs : List (List UInt8)} {Bs : List Hp} (h : Mine vs xs Bs) : ∀ u ∈ vs, u.oneCell' = true := by
  intro u hu
  obtain ⟨n, hn, rfl⟩ := List.getElem_of_mem hu
  obtain ⟨ad, c, e⟩ := (h.2.2.2 n _ (List.getElem?_eq_getElem hn)).form
  rw [e]; rfl

theorem repl_getD {α : Type} (m n : Nat) (x d : α) (h : n < m) : (List.replicate m x).getD n d = x := by simp [List.getD, List.getElem?_replicate, h]
def rest (Bs : List Hp) (n : Nat) : Hp := (Bs.take n).flatten ++ (Bs.drop (n + 1)).flatten
theorem flat_sum (f : Nat × Obj → Nat) : ∀ (Bs : List Hp) (n : Nat), (Bs.flatten.map f).sum = ((Bs.getD n []).map f).sum + ((rest Bs n).map f).sum
  | [], n => by simp [rest]
  | B :: Bs, 0 => by simp [rest]
  | B :: Bs, n + 1 => by
    have h := flat_sum f Bs n
    simp only [rest, List.map_append, List.sum_append, List.flatten_cons, List.take_succ_cons, List.drop_succ_cons, List.getD_cons_succ] at h ⊢
    omega
theorem flat_set (f : Nat × Obj → Nat) (B' : Hp) : ∀ (Bs : List Hp) (n : Nat), n < Bs.length → ((Bs.set n B').flatten.map f).sum = (B'.map f).sum + ((rest Bs n).map f).sum
  | [], n, hn => by simp at hn
  | B :: Bs, 0, _ => by simp [rest]
  | B :: Bs, n + 1, hn => by
    have h := flat_set f B' Bs n (by simpa using hn)
    simp only [rest, List.map_append, List.sum_append, List.flatten_cons, List.take_succ_cons, List.drop_succ_cons, List.set_cons_succ] at h ⊢
    omega
theorem rest_nils (n : Nat) : (List.replicate 8 ([] : Hp)).flatten = [] := by simp

/-- Each sector is one byte over and over, and one that it may be. -/
structure La (i : Nat) (D : Dk) (xs : List (List UInt8)) (nw : List UInt8) : Prop where
  ln : nw.length = 8
  lx : xs.length = 8
  ll : D.lasts.length = 8
  h : D.now.length = 8
  l : ∀ n, n < 8 → ∃ c, c ∈ xs.getD n [] ∧ D.lasts.getD n [] = List.replicate 64 c
  s : ∀ p, p ∈ D.since → p.1 < 8 ∧ ∃ c, c ∈ xs.getD p.1 [] ∧ p.2 = List.replicate 64 c
  p : D.dead = false → putAll D.lasts D.since = nw.map (List.replicate 64)
  si : D.since.length ≤ i
  so : D.ops ≤ i
  xl : ∀ n, (xs.getD n []).length ≤ i + 1

theorem la_new : La 0 (newD 8) (List.replicate 8 [0]) (List.replicate 8 0) := by
  refine ⟨by simp, by simp, by simp [newD], by simp [newD], fun n hn => ⟨0, ?_, ?_⟩, ?_, ?_, by simp [newD], by simp [newD], fun n => ?_⟩
  · rw [repl_getD _ _ _ _ hn]; simp
  · show (List.replicate 8 z64).getD n [] = _
    rw [repl_getD _ _ _ _ hn]; rfl
  · intro p hp; simp [newD] at hp
  · intro _; simp [newD, putAll, z64]
  · simp only [List.getD, List.getElem?_replicate]; split <;> simp

theorem La.mono {i j : Nat} {D : Dk} {xs : List (List UInt8)} {nw : List UInt8} (h : La i D xs nw) (hij : i ≤ j) : La j D xs nw :=
  ⟨h.ln, h.lx, h.ll, h.h, h.l, h.s, h.p, by have := h.si; omega, by have := h.so; omega, fun n => by have := h.xl n; omega⟩

theorem la_write {i : Nat} {D : Dk} {xs : List (List UInt8)} {nw : List UInt8} (h : La i D xs nw) (hd : D.dead = false) (n : Nat) (hn : n < 8) (c : UInt8) :
    La (i + 1) (writeS D n (List.replicate 64 c)).1 (xs.set n (xs.getD n [] ++ [c])) (nw.set n c) ∧ ((writeS D n (List.replicate 64 c)).2 = 0 ∨ (writeS D n (List.replicate 64 c)).1.dead = true) := by
  have hh : hasS D n := ⟨by omega, by have := h.h; omega⟩
  have hln := h.ln
  have hlx := h.lx
  have key : ∀ D' : Dk, D'.lasts = D.lasts → D'.since = D.since ++ [(n, List.replicate 64 c)] → D'.now.length = 8 → D'.ops ≤ D.ops + 1 → La (i + 1) D' (xs.set n (xs.getD n [] ++ [c])) (nw.set n c) ∨ D'.dead = false ∧ D.dead = true := by
    intro D' e1 e2 e3 e4
    refine .inl ⟨by simp [h.ln], by simp [h.lx], by rw [e1]; exact h.ll, e3, fun m hm => ?_, fun p hp => ?_, fun _ => ?_, by rw [e2]; have := h.si; simp; omega, by have := h.so; omega, fun m => ?_⟩
    · obtain ⟨c', k1, k2⟩ := h.l m hm
      refine ⟨c', ?_, by rw [e1]; exact k2⟩
      rw [getD_set _ _ _ _ _ (by omega)]
      split
      · rename_i e; rw [e]; exact List.mem_append_left _ k1
      · exact k1
    · rw [e2] at hp
      rcases List.mem_append.1 hp with hp | hp
      · obtain ⟨k0, c', k1, k2⟩ := h.s p hp
        refine ⟨k0, c', ?_, k2⟩
        rw [getD_set _ _ _ _ _ (by omega)]
        split
        · rename_i e; rw [e]; exact List.mem_append_left _ k1
        · exact k1
      · simp only [List.mem_singleton] at hp
        subst hp
        refine ⟨hn, c, ?_, rfl⟩
        rw [getD_set _ _ _ _ _ (by omega), if_pos rfl]
        simp
    · rw [e1, e2, putAll_snoc, h.p hd, List.map_set]
    · rw [getD_set _ _ _ _ _ (by omega)]
      have := h.xl n
      have := h.xl m
      split
      · rw [List.length_append]; simp only [List.length_cons, List.length_nil]; omega
      · omega
  have hw : writeS D n (List.replicate 64 c) = wrt n (List.replicate 64 c) (opS (addS D n (List.replicate 64 c))) := by
    unfold writeS
    rw [if_neg (by simp [hd]), if_pos ⟨hh, by simp⟩]; simp
  rw [hw]
  unfold opS addS
  by_cases hf : D.fuse = 0
  · rw [if_pos hf]
    dsimp only [wrt]
    refine ⟨?_, .inr rfl⟩
    rcases key { D with since := D.since ++ [(n, List.replicate 64 c)], dead := true } rfl rfl h.h (by show D.ops ≤ D.ops + 1; omega) with k | k
    · exact k
    · simp at k
  · rw [if_neg hf]
    dsimp only [wrt]
    refine ⟨?_, .inl rfl⟩
    refine (key { now := D.now.set n (List.replicate 64 c), lasts := D.lasts, since := D.since ++ [(n, List.replicate 64 c)], fuse := if 0 < D.fuse then D.fuse - 1 else D.fuse, ops := D.ops + 1, dead := D.dead } rfl rfl ?_ ?_).resolve_right ?_
    · simp [h.h]
    · exact Int.le_refl _
    · rintro ⟨_, k⟩; rw [hd] at k; cases k

theorem la_sync {i : Nat} {D : Dk} {xs : List (List UInt8)} {nw : List UInt8} (h : La i D xs nw) (hd : D.dead = false) :
    ((syncS D).2 = 0 → La (i + 1) (syncS D).1 (nw.map fun c => [c]) nw) ∧ ((syncS D).2 ≠ 0 → La (i + 1) (syncS D).1 xs nw) := by
  have hln := h.ln
  have hso := h.so
  have hsi := h.si
  unfold syncS
  rw [if_neg (by simp [hd])]
  unfold opS
  by_cases hf : D.fuse = 0
  · rw [if_pos hf]
    dsimp only [synced]
    exact ⟨fun e => absurd e (by decide), fun _ => ⟨h.ln, h.lx, h.ll, h.h, h.l, h.s, fun e => absurd e (by simp), by show D.since.length ≤ i + 1; omega, by show D.ops ≤ ((i + 1 : Nat) : Int); omega, fun n => by have := h.xl n; omega⟩⟩
  · rw [if_neg hf]
    dsimp only [synced]
    refine ⟨fun _ => ⟨h.ln, by simp [hln], by show (putAll D.lasts D.since).length = 8; rw [putAll_len]; exact h.ll, h.h, fun n hn => ⟨nw.getD n 0, ?_, ?_⟩, fun p hp => by simp at hp, fun _ => ?_, by simp, by show D.ops + 1 ≤ ((i + 1 : Nat) : Int); omega, fun n => ?_⟩, fun e => absurd rfl e⟩
    · simp [List.getD, hln, hn]
    · show (putAll D.lasts D.since).getD n [] = _
      rw [h.p hd]; simp [List.getD, hln, hn]
    · exact h.p hd
    · simp only [List.getD, List.getElem?_map]
      rcases nw[n]? with _ | c <;> simp

theorem la_fuse {i : Nat} {D : Dk} {xs : List (List UInt8)} {nw : List UInt8} (h : La i D xs nw) (n : Int) : La (i + 1) (fuseS D n) xs nw :=
  (La.mono ⟨h.ln, h.lx, h.ll, h.h, h.l, h.s, h.p, h.si, h.so, h.xl⟩ (Nat.le_succ i))

theorem la_puts {xs : List (List UInt8)} : ∀ (l : List (Nat × List UInt8)) (L : List (List UInt8)), L.length = 8 → (∀ n, n < 8 → ∃ c, c ∈ xs.getD n [] ∧ L.getD n [] = List.replicate 64 c) → (∀ p, p ∈ l → p.1 < 8 ∧ ∃ c, c ∈ xs.getD p.1 [] ∧ p.2 = List.replicate 64 c) →
    ∀ n, n < 8 → ∃ c, c ∈ xs.getD n [] ∧ (putAll L l).getD n [] = List.replicate 64 c
  | [], L, _, h, _ => h
  | p :: l, L, hL, h, hp => by
    obtain ⟨k0, c, k1, k2⟩ := hp p (by simp)
    show ∀ n, n < 8 → ∃ c, c ∈ xs.getD n [] ∧ (putAll (L.set p.1 p.2) l).getD n [] = List.replicate 64 c
    refine la_puts l (L.set p.1 p.2) (by simp [hL]) (fun n hn => ?_) (fun q hq => hp q (by simp [hq]))
    rw [getD_set _ _ _ _ _ (by omega)]
    split
    · rename_i e; subst e; exact ⟨c, k1, k2⟩
    · exact h n hn
theorem la_crash {i : Nat} {D : Dk} {xs : List (List UInt8)} {nw : List UInt8} (h : La i D xs nw) (ch : List UInt8) : (crashS D ch).now.length = 8 ∧ ∀ n, n < 8 → ∃ c, c ∈ xs.getD n [] ∧ (crashS D ch).now.getD n [] = List.replicate 64 c :=
  ⟨by show (putAll D.lasts (sel ch 0 D.since)).length = 8; rw [putAll_len]; exact h.ll, la_puts _ _ h.ll h.l fun p hp => h.s p (sel_mem ch D.since 0 p hp)⟩
theorem read_crash (D : Dk) (ch : List UInt8) (n : Nat) (hn : n < (crashS D ch).now.length) : readS (crashS D ch) n = (some ((crashS D ch).now.getD n []), 0) := by
  unfold readS
  rw [if_neg (by simp [crashS]), if_pos ⟨by omega, by omega⟩]; simp
theorem may_next (nw : List UInt8) (xs : List (List UInt8)) (h1 : nw.length = 8) (h2 : xs.length = 8) (k : Nat) (hk : k < 8) (c : UInt8) (hc : nw[k]? = some c) :
    ((nw.map fun c => [c]).take k ++ xs.drop k).set k [c] = (nw.map fun c => [c]).take (k + 1) ++ xs.drop (k + 1) := by
  rw [List.set_append_right _ _ (by simp; omega)]
  have e1 : k - ((nw.map fun c => [c]).take k).length = 0 := by simp; omega
  rw [e1, List.drop_eq_getElem_cons (by omega), List.set_cons_zero, List.take_add_one]
  have e2 : (nw.map fun c => [c])[k]? = some [c] := by rw [List.getElem?_map, hc]; rfl
  rw [e2]; simp
/-- Is it among the first ones? -/
def seen (r : List UInt8) (k : Nat) (b : List UInt8) : Bool := (r.take k).any fun c => decide (b = List.replicate 64 c)
theorem seen_next (r : List UInt8) (k : Nat) (hk : k < r.length) (b : List UInt8) : seen r (k + 1) b = (seen r k b || decide (b = List.replicate 64 r[k])) := by
  unfold seen
  rw [List.take_add_one, List.any_append, List.getElem?_eq_getElem hk]
  simp
theorem seen_all {r : List UInt8} {c : UInt8} {b : List UInt8} (hc : c ∈ r) (hb : b = List.replicate 64 c) : seen r r.length b = true := by
  unfold seen
  rw [List.take_length, List.any_eq_true]
  exact ⟨c, hc, by simpa using hb⟩
theorem own_cel {ad : Option Addr} {c : Nat} {r : List UInt8} {B : Hp} (h : Own (.slice ad r.length c) r.length (r.map B8) 5 1 B) (k : Nat) (hk : k < r.length) : ∃ b, ad = some ⟨b, 0, none⟩ ∧ ∀ (G : Im) (F : Hp) (x : Nat × Obj), Cel G (x :: (B ++ F)) b k (B8 r[k]) := by
  obtain ⟨hl, ⟨_, e, h0, _⟩ | ⟨b, c', sl, e, hc, hkc, _, rfl⟩⟩ := h
  · omega
  · refine ⟨b, by cases e; rfl, fun G F x => ?_⟩
    refine ⟨_, _, _, .inr (List.mem_cons_of_mem _ (List.mem_append_left _ (List.mem_singleton.2 rfl))), ?_⟩
    simp only [List.getElem?_toArray]
    rw [List.getElem?_append_left (by simp; omega)]
    simp [hk]
end Go.Proofs.Ytehkooboflaikaa
