/- Numbers and their bytes. bytes.Clone with owned bytes; package wire's Pen.Bytes likewise. Plain: journals on sectors: heads, records; what a disk has while one is laid, and behind a crash. -/
import Derived.Test.YtkjneelekfdpfaaBlkP1
import Derived.Test.YtkjneelekfdpfaaEye1
import Derived.Test.YtkjneelekfdpfaaDskW4
namespace Go.Proofs.Ytkjneelekfdpfaa
section
set_option linter.unusedVariables false
theorem lowB_nat (x : Int) : ((lowB x).toNat : Int) = x % 256 := by
  unfold lowB
  have h1 := Int.emod_nonneg x (show (256 : Int) ≠ 0 by decide)
  have h2 := Int.emod_lt_of_pos x (show (0 : Int) < 256 by decide)
  simp only [UInt8.toNat_ofNat']
  omega
theorem be_succ (x : Int) (n : Nat) : be x (n + 1) = be (x / 256) n ++ [lowB x] := by
  unfold be
  rw [List.range_succ, List.map_append]
  congr 1
  · apply List.map_congr_left
    intro j hj
    have hj := List.mem_range.1 hj
    rw [show 8 * (n + 1 - 1 - j) = 8 + 8 * (n - 1 - j) by omega, Int.pow_add, show (2 : Int) ^ 8 = 256 by decide, ← Int.ediv_ediv_of_nonneg (by decide)]
  · simp
theorem num_be : ∀ (n : Nat) (x : Int), 0 ≤ x → x < 2 ^ (8 * n) → (num (be x n) : Int) = x := by
  intro n
  induction n with
  | zero => intro x h0 h1; simp [be, num] at *; omega
  | succ n ih =>
    intro x h0 h1
    rw [be_succ, num_snoc]
    have h2 : (2 : Int) ^ (8 * (n + 1)) = 2 ^ (8 * n) * 256 := by rw [show 8 * (n + 1) = 8 * n + 8 by omega, Int.pow_add]; rfl
    rw [h2] at h1
    have h3 := ih (x / 256) (by omega) (Int.ediv_lt_of_lt_mul (by decide) h1)
    have h4 := lowB_nat x
    omega
theorem mid_app {α : Type} (p q r : List α) (a k : Nat) (hp : p.length = a) (hq : q.length = k) : ((p ++ (q ++ r)).drop a).take k = q := by subst hp hq; simp
theorem lowB_mk (m : Nat) (c : UInt8) : lowB ((m * 256 + c.toNat : Nat) : Int) = c := by
  have h := lowB_nat ((m * 256 + c.toNat : Nat) : Int)
  have hc := c.toNat_lt
  apply UInt8.toNat_inj.1
  omega
theorem be_num : ∀ (n : Nat) (ys : List UInt8), ys.length = n → be (num ys : Int) n = ys
  | 0, ys, h => by
    have : ys = [] := List.eq_nil_of_length_eq_zero h
    subst this; simp [be]
  | n + 1, ys, h => by
    have hne : ys ≠ [] := by intro e; rw [e] at h; simp at h
    have e := (List.dropLast_concat_getLast hne).symm
    have hl : ys.dropLast.length = n := by rw [List.length_dropLast]; omega
    generalize ys.dropLast = zs at e hl
    generalize ys.getLast hne = c at e
    subst e
    have hc := c.toNat_lt
    rw [be_succ, num_snoc, lowB_mk, show ((num zs * 256 + c.toNat : Nat) : Int) / 256 = (num zs : Int) by omega, be_num n zs hl]
end

section
open Go
set_option linter.unusedVariables false
set_option linter.unusedSimpArgs false
set_option maxHeartbeats 1600000
attribute [local irreducible] Code.wp wpList stepK Holds Val wpR Eff Eff0 Code.wpIn wpListIn stepI Exit.then Exit.inBlock bodyPost bodyPostM

theorem cloneO_c (v : Value) (xs : List UInt8) (w0 w : World) (G : Im) (F : Hp) (hv : SV G [] v xs.length (xs.map B8)) (hm : xs.length ≤ 1000000) (hs : Sat w0 w G F) :
    Calls Try.prog 45 #[v] w fun e w' => ∃ u B, e = .returned u ∧ OB u xs B ∧ Sat w0 w' G (B ++ F) := by
  obtain ⟨ad, cap, rfl⟩ := hv.form
  refine f_enter (vs := [_]) Try.func45 rfl Try.ntmps45 (by simp) hs ?_
  refine ww ?_
  cases ad with
  | none =>
    refine c_cond_t rfl ?_
    refine ww ?_
    obtain ⟨_, _, he, h1, h2, h3⟩ := hv
    cases he
    have hx : xs = [] := by
      rcases h3 with ⟨h, _⟩ | ⟨_, _, h, _⟩
      · simpa using h
      · cases h
    subst hx
    exact f_ret1 rfl rfl (fun w hs => ⟨_, [], rfl, Own.zero none _ _, hs⟩)
  | some b =>
    refine c_cond_f rfl ?_
    refine ww ?_
    refine c_cons (s_lit (z := B8 0) (bs := 1) (e := 5) [] (by kernel_rfl) rfl rfl rfl rfl (by simp) rfl (by decide) fun b0 => ?_)
    refine ww ?_
    refine c_cons (s_append (e := 5) (z := B8 0) (sz := 1) (bs := 1) (by kernel_rfl) rfl rfl rfl rfl (Own.full (by simp) (by decide)) Chunk.one (hv.mono (Im.le_refl _) (by simp)) rfl (by decide) (by simp) (by simp [Value.oneCell']) (by simp; omega) (by simp; omega) fun u1 B1 hown1 => ?_)
    simp only [List.length_nil, List.nil_append, Nat.zero_add] at hown1
    refine ww ?_
    exact f_ret1 rfl rfl (fun w hs => ⟨_, B1, rfl, hown1, hs⟩)

theorem wbytesO_c (pn : Nat) (v : Value) (xs : List UInt8) (hm : xs.length ≤ 1000000) (w0 w : World) (G : Im) (F : Hp) (hv : SV G [] v xs.length (xs.map B8)) (hs : Sat w0 w G (WP pn v :: F)) :
    Calls Try.prog 66 #[Pt pn 0] w fun e w' => ∃ u B, e = .returned (.tuple #[u, I64 0]) ∧ OB u xs B ∧ Sat w0 w' G (B ++ (WP pn v :: F)) := by
  obtain ⟨ad, c, rfl, hc1, hc2, hc3⟩ := id hv
  refine f_enter (vs := [_]) Try.func66 rfl Try.ntmps66 (by simp) hs ?_
  refine ww ?_
  refine c_cond_f rfl ?_
  refine ww ?_
  refine c_cons (s_val (v_field 1 rfl (by kernel_rfl)) rfl rfl rfl ?_)
  refine c_cons (s_val (v_load rfl (Cel.head rfl) (by kernel_rfl)) rfl rfl rfl ?_)
  refine ww ?_
  refine c_kf 7 rfl (by simp) ?_
  refine c_cond_f rfl ?_
  refine ww ?_
  refine c_cons (s_val (v_field 0 rfl (by kernel_rfl)) rfl rfl rfl ?_)
  refine c_cons (s_val (v_load rfl (Cel.head rfl) (by kernel_rfl)) rfl rfl rfl ?_)
  refine c_cons (s_call (xs := [_]) rfl rfl rfl rfl rfl rfl (by kernel_rfl) (fun w hs => cloneO_c _ xs _ w _ _ hv hm hs) ?_)
  rintro e w' ⟨u1, B1, rfl, hu1, hs'⟩; refine a_ret ?_ hs'; clear hs'
  refine ww ?_
  exact f_ret2 rfl rfl rfl (fun w hs => ⟨u1, B1, rfl, hu1, hs⟩)
end

section
open Go
set_option linter.unusedVariables false
set_option linter.unusedSimpArgs false
set_option maxHeartbeats 1600000
/-! ### Heads -/
def jz (S : Nat) : Nat := (S - 2) / 2
def jk (n : Nat) : Nat := (n + 66) / 64
structure Jh where
  g : Int
  h : Int
  e : Int
structure Jn where
  hd : Jh
  s : Int
  rows : List (List UInt8)
def pad64 (b : List UInt8) : List UInt8 := b.take 64 ++ List.replicate (64 - b.length) 0
theorem pad64_len (b : List UInt8) : (pad64 b).length = 64 := by unfold pad64; rw [List.length_append, List.length_take, List.length_replicate]; omega
def hdB (h : Jh) : List UInt8 := be 1 1 ++ be h.g 5 ++ be h.h 1 ++ be h.e 3
theorem hdB_len (h : Jh) : (hdB h).length = 10 := by simp [hdB, be_len]
def hdJ (b : List UInt8) : Jh := ⟨(num ((b.drop 1).take 5) : Nat), (num ((b.drop 6).take 1) : Nat), (num ((b.drop 7).take 3) : Nat)⟩
def hdOk (S : Nat) (b : List UInt8) : Prop := num (b.take 1) = 1 ∧ 1 ≤ (hdJ b).g ∧ (hdJ b).h ≤ 1 ∧ (hdJ b).e ≤ jz S ∧ ∀ c ∈ b.drop 10, c = 0
instance (S : Nat) (b : List UInt8) : Decidable (hdOk S b) := by unfold hdOk; infer_instance
/-- The numbers of a head have room. -/
def gdJ (h : Jh) : Prop := (0 ≤ h.g ∧ h.g < 1099511627776) ∧ (0 ≤ h.h ∧ h.h ≤ 255) ∧ (0 ≤ h.e ∧ h.e < 16777216)
theorem num_lt3 (xs : List UInt8) (k : Nat) (h : xs.length ≤ k) : num xs < 256 ^ k := Nat.lt_of_lt_of_le (num_lt xs) (Nat.pow_le_pow_right (by decide) h)
theorem hdJ_gd (b : List UInt8) : gdJ (hdJ b) := by
  have h1 := num_lt3 ((b.drop 1).take 5) 5 (by rw [List.length_take]; omega)
  have h2 := num_lt3 ((b.drop 6).take 1) 1 (by rw [List.length_take]; omega)
  have h3 := num_lt3 ((b.drop 7).take 3) 3 (by rw [List.length_take]; omega)
  unfold gdJ hdJ
  dsimp only
  omega
theorem hdB_of {b : List UInt8} (hl : b.length = 64) (h1 : num (b.take 1) = 1) : hdB (hdJ b) = b.take 10 := by
  have e1 := be_num 1 (b.take 1) (by rw [List.length_take]; omega)
  have e2 := be_num 5 ((b.drop 1).take 5) (by rw [List.length_take, List.length_drop]; omega)
  have e3 := be_num 1 ((b.drop 6).take 1) (by rw [List.length_take, List.length_drop]; omega)
  have e4 := be_num 3 ((b.drop 7).take 3) (by rw [List.length_take, List.length_drop]; omega)
  rw [h1] at e1
  unfold hdB hdJ
  dsimp only
  rw [e2, e3, e4]
  change be ((1 : Nat) : Int) 1 ++ _ ++ _ ++ _ = _
  rw [e1]
  have t1 : b.take 10 = b.take 1 ++ (b.drop 1).take 9 := by
    rw [show (10 : Nat) = 1 + 9 by rfl, List.take_add]
  have t2 : (b.drop 1).take 9 = (b.drop 1).take 5 ++ ((b.drop 1).drop 5).take 4 := by
    rw [show (9 : Nat) = 5 + 4 by rfl, List.take_add]
  have t3 : (b.drop 6).take 4 = (b.drop 6).take 1 ++ ((b.drop 6).drop 1).take 3 := by
    rw [show (4 : Nat) = 1 + 3 by rfl, List.take_add]
  rw [t1, t2, List.drop_drop, t3, List.drop_drop]
  simp [List.append_assoc]
theorem zeros_iff {x : List UInt8} : (∀ c ∈ x, c = 0) ↔ x = List.replicate x.length 0 := by rw [List.eq_replicate_iff]; simp
/-- A sector is a head just if it is that head, laid. -/
theorem laid_iff {b : List UInt8} (hl : b.length = 64) (h1 : num (b.take 1) = 1) : b = pad64 (hdB (hdJ b)) ↔ ∀ c ∈ b.drop 10, c = 0 := by
  have e : pad64 (hdB (hdJ b)) = b.take 10 ++ List.replicate 54 0 := by
    unfold pad64
    rw [hdB_len, hdB_of hl h1, List.take_of_length_le (by rw [List.length_take]; omega)]
  rw [e, zeros_iff, List.length_drop, hl]
  constructor
  · intro h
    have h2 := congrArg (List.drop 10) h
    rw [List.drop_left' (by rw [List.length_take]; omega)] at h2
    exact h2
  · intro h
    have h3 := List.take_append_drop 10 b
    rw [h] at h3
    exact h3.symm
theorem hdJ_laid (h : Jh) (g : gdJ h) : hdJ (pad64 (hdB h)) = h ∧ num ((pad64 (hdB h)).take 1) = 1 ∧ ∀ c ∈ (pad64 (hdB h)).drop 10, c = 0 := by
  obtain ⟨g1, g2, g3⟩ := g
  have l0 := be_len 1 1
  have l1 := be_len h.g 5
  have l2 := be_len h.h 1
  have l3 := be_len h.e 3
  have e : pad64 (hdB h) = hdB h ++ List.replicate 54 0 := by
    unfold pad64
    rw [hdB_len, List.take_of_length_le (by rw [hdB_len]; omega)]
  rw [e]
  unfold hdB hdJ
  have e0 := mid_app [] (be 1 1) (be h.g 5 ++ be h.h 1 ++ be h.e 3 ++ List.replicate 54 0) 0 1 rfl l0
  have e1 := mid_app (be 1 1) (be h.g 5) (be h.h 1 ++ be h.e 3 ++ List.replicate 54 0) 1 5 l0 l1
  have e2 := mid_app (be 1 1 ++ be h.g 5) (be h.h 1) (be h.e 3 ++ List.replicate 54 0) 6 1 (by simp [l0, l1]) l2
  have e3 := mid_app (be 1 1 ++ be h.g 5 ++ be h.h 1) (be h.e 3) (List.replicate 54 0) 7 3 (by simp [l0, l1, l2]) l3
  simp only [List.nil_append, List.append_assoc, List.drop_zero] at e0 e1 e2 e3 ⊢
  rw [e0, e1, e2, e3, num_be 5 h.g g1.1 (by omega), num_be 1 h.h g2.1 (by omega), num_be 3 h.e g3.1 (by omega)]
  refine ⟨rfl, ?_, ?_⟩
  · have := num_be 1 1 (by decide) (by decide); omega
  · have e4 : be 1 1 ++ (be h.g 5 ++ (be h.h 1 ++ (be h.e 3 ++ List.replicate 54 (0 : UInt8)))) = (be 1 1 ++ be h.g 5 ++ be h.h 1 ++ be h.e 3) ++ List.replicate 54 0 := by simp [List.append_assoc]
    rw [e4, List.drop_left' (by simp [l0, l1, l2, l3])]
    intro c hc
    exact (List.mem_replicate.1 hc).2
/-! ### Records -/
def recS (L : List (List UInt8)) (p rest : Nat) : Option (List UInt8 × Nat) :=
  if jk (num ((L.getD p []).take 3)) ≤ rest then some ((((L.drop p).take (jk (num ((L.getD p []).take 3)))).flatten.drop 3).take (num ((L.getD p []).take 3)), jk (num ((L.getD p []).take 3))) else none
def recsS (L : List (List UInt8)) : Nat → Nat → Nat → Option (List (List UInt8))
  | 0, _, _ => some []
  | f + 1, p, rest => if rest = 0 then some [] else match recS L p rest with
    | none => none
    | some (r, k) => match recsS L f (p + k) (rest - k) with
      | none => none
      | some rs => some (r :: rs)
def openS (L : List (List UInt8)) : Option Jn :=
  if (hdOk L.length (L.getD 0 []) ∨ hdOk L.length (L.getD 1 [])) ∧ ¬ (hdOk L.length (L.getD 0 []) ∧ hdOk L.length (L.getD 1 []) ∧ (hdJ (L.getD 0 [])).g = (hdJ (L.getD 1 [])).g) then
    if ¬ hdOk L.length (L.getD 0 []) ∨ (hdOk L.length (L.getD 1 []) ∧ (hdJ (L.getD 0 [])).g < (hdJ (L.getD 1 [])).g) then
      match recsS L (hdJ (L.getD 1 [])).e.toNat (2 + (hdJ (L.getD 1 [])).h.toNat * jz L.length) (hdJ (L.getD 1 [])).e.toNat with
      | none => none
      | some rows => some ⟨hdJ (L.getD 1 []), 1, rows⟩
    else
      match recsS L (hdJ (L.getD 0 [])).e.toNat (2 + (hdJ (L.getD 0 [])).h.toNat * jz L.length) (hdJ (L.getD 0 [])).e.toNat with
      | none => none
      | some rows => some ⟨hdJ (L.getD 0 []), 0, rows⟩
  else none
theorem jk_pos (n : Nat) : 1 ≤ jk n := by unfold jk; omega
def recB (b : List UInt8) : List UInt8 := be b.length 3 ++ b
def secAt (b : List UInt8) (i : Nat) : List UInt8 := pad64 (((recB b).drop (i * 64)).take 64)
def secsL (b : List UInt8) : List (List UInt8) := (List.range (jk b.length)).map (secAt b)
theorem secsL_len (b : List UInt8) : (secsL b).length = jk b.length := by simp [secsL]
theorem secsL_64 (b : List UInt8) : ∀ x ∈ secsL b, x.length = 64 := fun x hx => by
  obtain ⟨i, _, rfl⟩ := List.mem_map.1 hx
  exact pad64_len _
theorem pads_flat (xs : List UInt8) : ∀ k, ((List.range k).map fun i => pad64 ((xs.drop (i * 64)).take 64)).flatten = (xs ++ List.replicate (k * 64 - xs.length) 0).take (k * 64)
  | 0 => by simp
  | k + 1 => by
    rw [List.range_succ, List.map_append, List.flatten_append, pads_flat xs k]
    simp only [List.map_cons, List.map_nil, List.flatten_cons, List.flatten_nil, List.append_nil]
    apply List.ext_getElem?
    intro j
    have hl : ((xs ++ List.replicate (k * 64 - xs.length) 0).take (k * 64)).length = k * 64 := by rw [List.length_take, List.length_append, List.length_replicate]; omega
    by_cases hj : j < k * 64
    · rw [List.getElem?_append_left (by rw [hl]; exact hj), List.getElem?_take_of_lt hj, List.getElem?_take_of_lt (by omega)]
      by_cases hx : j < xs.length
      · rw [List.getElem?_append_left hx, List.getElem?_append_left hx]
      · rw [List.getElem?_append_right (by omega), List.getElem?_append_right (by omega), List.getElem?_replicate, List.getElem?_replicate, if_pos (by omega), if_pos (by omega)]
    · rw [List.getElem?_append_right (by rw [hl]; omega), hl]
      by_cases hj2 : j < (k + 1) * 64
      · rw [List.getElem?_take_of_lt hj2]
        unfold pad64
        rw [List.take_of_length_le (by rw [List.length_take]; omega)]
        have hd : ((xs.drop (k * 64)).take 64).length = min 64 (xs.length - k * 64) := by rw [List.length_take, List.length_drop]
        by_cases hx : j < xs.length
        · rw [List.getElem?_append_left (by omega), List.getElem?_append_left hx, List.getElem?_take_of_lt (by omega), List.getElem?_drop]
          congr 1; omega
        · rw [List.getElem?_append_right (by omega), List.getElem?_append_right (by omega), List.getElem?_replicate, List.getElem?_replicate, if_pos (by omega), if_pos (by omega)]
      · rw [List.getElem?_eq_none (by rw [pad64_len]; omega), List.getElem?_eq_none (by rw [List.length_take]; omega)]
theorem secs_flat (b : List UInt8) : (secsL b).flatten = recB b ++ List.replicate (jk b.length * 64 - (recB b).length) 0 := by
  have h := pads_flat (recB b) (jk b.length)
  have hl : (recB b).length = b.length + 3 := by simp [recB, be_len]; omega
  have hk : b.length + 3 ≤ jk b.length * 64 := by unfold jk; omega
  rw [List.take_of_length_le (by rw [List.length_append, List.length_replicate]; omega)] at h
  exact h
/-- What was laid is read. -/
theorem rec_laid {L : List (List UInt8)} {p rest : Nat} {b : List UInt8} (hb : b.length < 16777216) (hr : jk b.length ≤ rest) (h : (L.drop p).take (jk b.length) = secsL b) : recS L p rest = some (b, jk b.length) := by
  have hk := jk_pos b.length
  have hg : L.getD p [] = secAt b 0 := by
    have h1 := congrArg (fun l => l[0]?) h
    simp only [List.getElem?_take, List.getElem?_drop] at h1
    rw [if_pos (by omega), Nat.add_zero] at h1
    unfold secsL at h1
    rw [List.getElem?_map, List.getElem?_range (by omega)] at h1
    rw [List.getD, h1]; rfl
  have hn : num ((L.getD p []).take 3) = b.length := by
    rw [hg]
    unfold secAt pad64
    have hl : (recB b).length = b.length + 3 := by simp [recB, be_len]; omega
    have h3 : (((recB b).drop (0 * 64)).take 64).take 64 = (recB b).take 64 := by simp [List.take_take]
    rw [h3, List.take_append_of_le_length (by rw [List.length_take]; omega), List.take_take, show min 3 64 = 3 by rfl]
    unfold recB
    rw [List.take_left' (be_len _ _)]
    have := num_be 3 b.length (by omega) (by omega)
    omega
  unfold recS
  rw [hn, if_pos hr, h, secs_flat]
  congr 2
  unfold recB
  rw [List.append_assoc, List.drop_left' (be_len _ _), List.take_left' rfl]
theorem rec_le {L : List (List UInt8)} {p rest : Nat} {r : List UInt8} {k : Nat} (h : recS L p rest = some (r, k)) : 1 ≤ k ∧ k ≤ rest := by
  unfold recS at h
  split at h
  · cases h; exact ⟨jk_pos _, by assumption⟩
  · cases h
theorem rec_more {L : List (List UInt8)} {p rest : Nat} {r : List UInt8} {k : Nat} (h : recS L p rest = some (r, k)) (m : Nat) : recS L p (rest + m) = some (r, k) := by
  unfold recS at h ⊢
  split at h
  · rw [if_pos (by omega)]; exact h
  · cases h
theorem rec_congr {L L' : List (List UInt8)} {p rest : Nat} (h : ∀ i, p ≤ i → i < p + rest → L[i]? = L'[i]?) (hr : 0 < rest) : recS L p rest = recS L' p rest := by
  have hg : L.getD p [] = L'.getD p [] := by rw [List.getD, List.getD, h p (Nat.le_refl _) (by omega)]
  unfold recS
  rw [hg]
  by_cases hc : jk (num ((L'.getD p []).take 3)) ≤ rest
  · rw [if_pos hc, if_pos hc]
    have e : (L.drop p).take (jk (num ((L'.getD p []).take 3))) = (L'.drop p).take (jk (num ((L'.getD p []).take 3))) := by
      apply List.ext_getElem?
      intro j
      simp only [List.getElem?_take, List.getElem?_drop]
      by_cases hj : j < jk (num ((L'.getD p []).take 3))
      · rw [if_pos hj, if_pos hj]; exact h _ (by omega) (by omega)
      · rw [if_neg hj, if_neg hj]
    rw [e]
  · rw [if_neg hc, if_neg hc]
theorem recs_congr {L L' : List (List UInt8)} : ∀ f p rest, (∀ i, p ≤ i → i < p + rest → L[i]? = L'[i]?) → recsS L f p rest = recsS L' f p rest
  | 0, _, _, _ => rfl
  | f + 1, p, rest, h => by
    unfold recsS
    by_cases h0 : rest = 0
    · rw [if_pos h0, if_pos h0]
    · rw [if_neg h0, if_neg h0, rec_congr h (by omega)]
      cases hr : recS L' p rest with
      | none => rfl
      | some q =>
        obtain ⟨r, k⟩ := q
        have hk := rec_le hr
        dsimp only
        rw [recs_congr f (p + k) (rest - k) (fun i h1 h2 => h i (by omega) (by omega))]
theorem recs_fuel {L : List (List UInt8)} : ∀ f p rest, rest ≤ f → recsS L f p rest = recsS L rest p rest
  | 0, p, rest, h => by
    have : rest = 0 := by omega
    subst this; rfl
  | f + 1, p, rest, h => by
    by_cases h0 : rest = 0
    · subst h0; unfold recsS; rw [if_pos rfl]
    · obtain ⟨m, rfl⟩ : ∃ m, rest = m + 1 := ⟨rest - 1, by omega⟩
      unfold recsS
      rw [if_neg h0, if_neg h0]
      cases hr : recS L p (m + 1) with
      | none => rfl
      | some q =>
        obtain ⟨r, k⟩ := q
        have hk := rec_le hr
        dsimp only
        rw [recs_fuel f (p + k) (m + 1 - k) (by omega), recs_fuel m (p + k) (m + 1 - k) (by omega)]
theorem recs_step {L : List (List UInt8)} {p rest : Nat} (h0 : 0 < rest) : recsS L rest p rest = match recS L p rest with
    | none => none
    | some (r, k) => match recsS L (rest - k) (p + k) (rest - k) with
      | none => none
      | some rs => some (r :: rs) := by
  obtain ⟨m, rfl⟩ : ∃ m, rest = m + 1 := ⟨rest - 1, by omega⟩
  show (if m + 1 = 0 then some [] else match recS L p (m + 1) with | none => none | some (r, k) => match recsS L m (p + k) (m + 1 - k) with | none => none | some rs => some (r :: rs)) = _
  rw [if_neg (by omega)]
  cases hr : recS L p (m + 1) with
  | none => rfl
  | some q =>
    obtain ⟨r, k⟩ := q
    have hk := rec_le hr
    dsimp only
    rw [recs_fuel m (p + k) (m + 1 - k) (by omega)]
/-- One record more. -/
theorem recs_snoc {L : List (List UInt8)} {b : List UInt8} {k : Nat} : ∀ f p e rows f', e ≤ f → e + k ≤ f' → recsS L f p e = some rows → recS L (p + e) k = some (b, k) → recsS L f' p (e + k) = some (rows ++ [b])
  | 0, p, e, rows, f', h1, h2, hr, hb => by
    have he : e = 0 := by omega
    subst he
    have hk := rec_le hb
    cases hr
    obtain ⟨f'', rfl⟩ : ∃ f'', f' = f'' + 1 := ⟨f' - 1, by omega⟩
    unfold recsS
    rw [Nat.add_zero] at hb
    rw [if_neg (by omega), Nat.zero_add, hb]
    dsimp only
    rw [Nat.sub_self]
    cases f'' <;> rfl
  | f + 1, p, e, rows, f', h1, h2, hr, hb => by
    have hk := rec_le hb
    by_cases he : e = 0
    · subst he
      have : rows = [] := by unfold recsS at hr; rw [if_pos rfl] at hr; cases hr; rfl
      subst this
      exact recs_snoc (k := k) (b := b) 0 p 0 [] f' (Nat.le_refl _) h2 rfl hb
    · unfold recsS at hr
      rw [if_neg he] at hr
      cases h3 : recS L p e with
      | none => rw [h3] at hr; cases hr
      | some q =>
        obtain ⟨r, k1⟩ := q
        rw [h3] at hr
        dsimp only at hr
        have hk1 := rec_le h3
        cases h4 : recsS L f (p + k1) (e - k1) with
        | none => rw [h4] at hr; cases hr
        | some rs =>
          rw [h4] at hr
          cases hr
          obtain ⟨f'', rfl⟩ : ∃ f'', f' = f'' + 1 := ⟨f' - 1, by omega⟩
          have ih := recs_snoc (k := k) (b := b) f (p + k1) (e - k1) rs f'' (by omega) (by omega) h4 (by rw [show p + k1 + (e - k1) = p + e by omega]; exact hb)
          unfold recsS
          rw [if_neg (by omega), rec_more h3]
          dsimp only
          rw [show e + k - k1 = e - k1 + k by omega, ih]
          rfl
/-! ### A journal on sectors -/
structure JInv (L : List (List UInt8)) (J : Jn) : Prop where
  len : 6 ≤ L.length ∧ L.length ≤ 4160
  s64 : ∀ x ∈ L, x.length = 64
  g : 1 ≤ J.hd.g ∧ J.hd.g < 1099511627776
  h : 0 ≤ J.hd.h ∧ J.hd.h ≤ 1
  e : 0 ≤ J.hd.e ∧ J.hd.e ≤ jz L.length
  s : J.s = 0 ∨ J.s = 1
  here : L[J.s.toNat]? = some (pad64 (hdB J.hd))
  oth : ∀ x, L[1 - J.s.toNat]? = some x → ¬ hdOk L.length x ∨ (hdJ x).g < J.hd.g
  rows : recsS L J.hd.e.toNat (2 + J.hd.h.toNat * jz L.length) J.hd.e.toNat = some J.rows
theorem jz_le {S : Nat} (h : 6 ≤ S) : 2 ≤ jz S ∧ 2 + 2 * jz S ≤ S := by unfold jz; omega
theorem JInv.gd {L : List (List UInt8)} {J : Jn} (h : JInv L J) : gdJ J.hd := by
  obtain ⟨h1, h2⟩ := h.g
  obtain ⟨h3, h4⟩ := h.h
  obtain ⟨h5, h6⟩ := h.e
  obtain ⟨h7, h8⟩ := h.len
  have : jz L.length ≤ 2079 := by unfold jz; omega
  refine ⟨⟨by omega, h2⟩, ⟨h3, by omega⟩, ⟨h5, by omega⟩⟩
theorem JInv.ok {L : List (List UInt8)} {J : Jn} (h : JInv L J) : hdJ (pad64 (hdB J.hd)) = J.hd ∧ hdOk L.length (pad64 (hdB J.hd)) := by
  obtain ⟨e1, e2, e3⟩ := hdJ_laid J.hd h.gd
  refine ⟨e1, e2, ?_, ?_, ?_, e3⟩
  · rw [e1]; exact h.g.1
  · rw [e1]; exact h.h.2
  · rw [e1]; exact h.e.2
theorem open_inv {L : List (List UInt8)} {J : Jn} (h : JInv L J) : openS L = some J := by
  obtain ⟨k1, k2⟩ := h.ok
  have hl := h.len.1
  have hr := h.rows
  rcases h.s with hs | hs
  · have e0 : L.getD 0 [] = pad64 (hdB J.hd) := by have := h.here; rw [hs] at this; simp only [Int.toNat_zero] at this; rw [List.getD, this]; rfl
    obtain ⟨x, hx⟩ : ∃ x, L[1]? = some x := ⟨_, List.getElem?_eq_getElem (by omega)⟩
    have e1 : L.getD 1 [] = x := by rw [List.getD, hx]; rfl
    have ho := h.oth x (by rw [hs]; exact hx)
    unfold openS
    rw [e0, e1, k1, if_pos, if_neg, hr]
    · dsimp only
      rw [← hs]
    · rintro (h1 | ⟨h1, h2⟩)
      · exact h1 k2
      · rcases ho with ho | ho
        · exact ho h1
        · omega
    · refine ⟨.inl k2, fun ⟨_, h1, h2⟩ => ?_⟩
      rcases ho with ho | ho
      · exact ho h1
      · omega
  · have e0 : L.getD 1 [] = pad64 (hdB J.hd) := by have := h.here; rw [hs] at this; rw [List.getD]; change L[1]? = _ at this; rw [this]; rfl
    obtain ⟨x, hx⟩ : ∃ x, L[0]? = some x := ⟨_, List.getElem?_eq_getElem (by omega)⟩
    have e1 : L.getD 0 [] = x := by rw [List.getD, hx]; rfl
    have ho := h.oth x (by rw [hs]; exact hx)
    unfold openS
    rw [e0, e1, k1, if_pos, if_pos, hr]
    · dsimp only
      rw [← hs]
    · by_cases hk : hdOk L.length x
      · right
        refine ⟨k2, ?_⟩
        rcases ho with ho | ho
        · exact absurd hk ho
        · exact ho
      · exact .inl hk
    · refine ⟨.inr k2, fun ⟨h1, _, h2⟩ => ?_⟩
      rcases ho with ho | ho
      · exact ho h1
      · omega
theorem JInv.congr {L L' : List (List UInt8)} {J : Jn} (h : JInv L J) (hl : L'.length = L.length) (h64 : ∀ x ∈ L', x.length = 64) (h0 : L'[0]? = L[0]?) (h1 : L'[1]? = L[1]?)
    (hr : ∀ i, 2 + J.hd.h.toNat * jz L.length ≤ i → i < 2 + J.hd.h.toNat * jz L.length + J.hd.e.toNat → L'[i]? = L[i]?) : JInv L' J := by
  have hat : ∀ i, i ≤ 1 → L'[i]? = L[i]? := fun i hi => by
    match i, hi with
    | 0, _ => exact h0
    | 1, _ => exact h1
  have hs := h.s
  refine ⟨by rw [hl]; exact h.len, h64, h.g, h.h, by rw [hl]; exact h.e, hs, by rw [hat _ (by omega)]; exact h.here, fun x hx => ?_, ?_⟩
  · rw [hat _ (by omega)] at hx
    rw [hl]; exact h.oth x hx
  · rw [hl, ← h.rows]
    exact recs_congr _ _ _ hr
/-- A record more, or the only one; the other head counts it. -/
theorem JInv.next {L L1 : List (List UInt8)} {J : Jn} (h : JInv L J) {half at' : Int} {b : List UInt8} (hc : (half = J.hd.h ∧ at' = J.hd.e) ∨ (half = 1 - J.hd.h ∧ at' = 0)) (hb : b.length < 16777216) (hk : at' + jk b.length ≤ jz L.length) (hg : J.hd.g < 1099511627775)
    (hl : L1.length = L.length) (h64 : ∀ x ∈ L1, x.length = 64) (h0 : L1[0]? = L[0]?) (h1 : L1[1]? = L[1]?)
    (hr : ∀ i, 2 + half.toNat * jz L.length ≤ i → i < 2 + half.toNat * jz L.length + at'.toNat → L1[i]? = L[i]?)
    (hn : (L1.drop (2 + half.toNat * jz L.length + at'.toNat)).take (jk b.length) = secsL b) :
    JInv (L1.set (1 - J.s).toNat (pad64 (hdB ⟨J.hd.g + 1, half, at' + jk b.length⟩))) ⟨⟨J.hd.g + 1, half, at' + jk b.length⟩, 1 - J.s, (if half = J.hd.h then J.rows else []) ++ [b]⟩ := by
  obtain ⟨g1, g2⟩ := h.g
  obtain ⟨hh1, hh2⟩ := h.h
  obtain ⟨e1, e2⟩ := h.e
  have hlen := h.len
  have hs := h.s
  obtain ⟨z1, z2⟩ := jz_le hlen.1
  have hkp := jk_pos b.length
  have hp0 : 0 ≤ half ∧ half ≤ 1 := by omega
  have ha0 : 0 ≤ at' := by omega
  have hsl : (1 - J.s).toNat < L1.length := by omega
  have hset : ∀ i, i ≠ (1 - J.s).toNat → (L1.set (1 - J.s).toNat (pad64 (hdB ⟨J.hd.g + 1, half, at' + jk b.length⟩)))[i]? = L1[i]? := fun i hi => List.getElem?_set_ne (Ne.symm hi)
  refine ⟨by rw [List.length_set, hl]; exact hlen, ?_, by dsimp only; omega, hp0, by dsimp only; rw [List.length_set, hl]; omega, by dsimp only; omega, ?_, ?_, ?_⟩
  · intro x hx
    rcases List.mem_or_eq_of_mem_set hx with hx | hx
    · exact h64 x hx
    · rw [hx]; exact pad64_len _
  · dsimp only
    exact List.getElem?_set_self hsl
  · dsimp only
    intro x hx
    right
    rw [hset _ (by omega), show 1 - (1 - J.s).toNat = J.s.toNat by omega] at hx
    have hx' : L[J.s.toNat]? = some x := by
      rcases hs with e | e <;> rw [e] at hx ⊢
      · change L1[0]? = _ at hx; change L[0]? = _; rw [← h0]; exact hx
      · change L1[1]? = _ at hx; change L[1]? = _; rw [← h1]; exact hx
    rw [h.here] at hx'
    cases hx'
    rw [h.ok.1]
    omega
  · dsimp only
    rw [List.length_set, hl]
    have hc1 : recsS (L1.set (1 - J.s).toNat (pad64 (hdB ⟨J.hd.g + 1, half, at' + jk b.length⟩))) (at' + jk b.length).toNat (2 + half.toNat * jz L.length) (at' + jk b.length).toNat = recsS L1 (at' + jk b.length).toNat (2 + half.toNat * jz L.length) (at' + jk b.length).toNat := recs_congr _ _ _ fun i hi _ => hset i (by omega)
    rw [hc1, show (at' + (jk b.length : Int)).toNat = at'.toNat + jk b.length by omega]
    have hrec := rec_laid (L := L1) (p := 2 + half.toNat * jz L.length + at'.toNat) (rest := jk b.length) hb (Nat.le_refl _) hn
    refine recs_snoc at'.toNat _ at'.toNat _ _ (Nat.le_refl _) (Nat.le_refl _) ?_ hrec
    rcases hc with ⟨c1, c2⟩ | ⟨c1, c2⟩
    · rw [if_pos c1]
      subst c1 c2
      rw [← h.rows]
      exact recs_congr _ _ _ hr
    · rw [if_neg (by omega), c2]
      rfl
/-! ### What a disk does meanwhile -/
def zp : Nat → List (List UInt8) → List (Nat × List UInt8)
  | _, [] => []
  | p, x :: r => (p, x) :: zp (p + 1) r
theorem zp_mem : ∀ (xs : List (List UInt8)) (p : Nat), ∀ q ∈ zp p xs, p ≤ q.1 ∧ q.1 < p + xs.length ∧ q.2 ∈ xs
  | [], _, q, h => by cases h
  | x :: r, p, q, h => by
    rcases List.mem_cons.1 h with rfl | h
    · exact ⟨Nat.le_refl _, by simp, by simp⟩
    · obtain ⟨h1, h2, h3⟩ := zp_mem r (p + 1) q h
      exact ⟨by omega, by rw [List.length_cons]; omega, List.mem_cons_of_mem _ h3⟩
theorem putAll_out : ∀ (l : List (Nat × List UInt8)) (L : List (List UInt8)) (i : Nat), (∀ p ∈ l, p.1 ≠ i) → (putAll L l)[i]? = L[i]?
  | [], L, i, _ => rfl
  | p :: l, L, i, h => by
    show (putAll (L.set p.1 p.2) l)[i]? = _
    rw [putAll_out l _ i (fun q hq => h q (List.mem_cons_of_mem _ hq)), List.getElem?_set_ne (h p (List.mem_cons_self ..))]
theorem putAll_in : ∀ (xs : List (List UInt8)) (L : List (List UInt8)) (p : Nat), p + xs.length ≤ L.length → ∀ i, i < xs.length → (putAll L (zp p xs))[p + i]? = xs[i]?
  | [], L, p, _, i, hi => by simp at hi
  | x :: r, L, p, h, i, hi => by
    show (putAll (L.set p x) (zp (p + 1) r))[p + i]? = _
    rw [List.length_cons] at h hi
    cases i with
    | zero =>
      rw [putAll_out _ _ _ (fun q hq => by have := zp_mem r (p + 1) q hq; omega)]
      rw [Nat.add_zero, List.getElem?_set_self (by omega)]; rfl
    | succ i =>
      have := putAll_in r (L.set p x) (p + 1) (by rw [List.length_set]; omega) i (by omega)
      rw [show p + (i + 1) = p + 1 + i by omega, this]; rfl
theorem putAll_at {xs L : List (List UInt8)} {p : Nat} (h : p + xs.length ≤ L.length) : ((putAll L (zp p xs)).drop p).take xs.length = xs := by
  apply List.ext_getElem?
  intro i
  rw [List.getElem?_take]
  by_cases hi : i < xs.length
  · rw [if_pos hi, List.getElem?_drop, putAll_in xs L p h i hi]
  · rw [if_neg hi, List.getElem?_eq_none (by omega)]
theorem putAll_64 : ∀ (l : List (Nat × List UInt8)) (L : List (List UInt8)), (∀ x ∈ L, x.length = 64) → (∀ p ∈ l, p.2.length = 64) → ∀ x ∈ putAll L l, x.length = 64
  | [], L, h, _ => h
  | p :: l, L, h, hl => by
    show ∀ x ∈ putAll (L.set p.1 p.2) l, x.length = 64
    refine putAll_64 l _ (fun x hx => ?_) (fun q hq => hl q (List.mem_cons_of_mem _ hq))
    rcases List.mem_or_eq_of_mem_set hx with hx | hx
    · exact h x hx
    · rw [hx]; exact hl p (List.mem_cons_self ..)
theorem putAll_app (L : List (List UInt8)) (a b : List (Nat × List UInt8)) : putAll L (a ++ b) = putAll (putAll L a) b := by simp [putAll]
def putsS : Dk → Nat → List (List UInt8) → Dk × Int
  | D, _, [] => (D, 0)
  | D, p, x :: r => if (writeS D p x).2 = 0 then putsS (writeS D p x).1 (p + 1) r else writeS D p x
theorem write_live {D : Dk} (hd : D.dead = false) {p : Nat} (hp : p < D.now.length) {x : List UInt8} (hx : x.length = 64) :
    ((writeS D p x).2 = 0 ∧ (writeS D p x).1.dead = false ∧ (writeS D p x).1.lasts = D.lasts ∧ (writeS D p x).1.since = D.since ++ [(p, x)] ∧ (writeS D p x).1.now = D.now.set p x ∧ (writeS D p x).1.ops = D.ops + 1) ∨
    ((writeS D p x).2 = 14 ∧ (writeS D p x).1.dead = true ∧ (writeS D p x).1.lasts = D.lasts ∧ (writeS D p x).1.since = D.since ++ [(p, x)] ∧ (writeS D p x).1.now = D.now ∧ (writeS D p x).1.ops = D.ops) := by
  have hh : hasS D (p : Int) ∧ x.length = 64 := ⟨⟨by omega, by omega⟩, hx⟩
  unfold writeS
  rw [if_neg (by simp [hd]), if_pos hh]
  unfold opS
  by_cases hf : (addS D (p : Int).toNat x).fuse = 0
  · rw [if_pos hf]; exact .inr ⟨rfl, rfl, rfl, rfl, rfl, rfl⟩
  · rw [if_neg hf]; exact .inl ⟨rfl, hd, rfl, rfl, rfl, rfl⟩
theorem sync_live {D : Dk} (hd : D.dead = false) :
    ((syncS D).2 = 0 ∧ (syncS D).1.dead = false ∧ (syncS D).1.lasts = putAll D.lasts D.since ∧ (syncS D).1.since = [] ∧ (syncS D).1.now = D.now ∧ (syncS D).1.ops = D.ops + 1) ∨
    ((syncS D).2 = 14 ∧ (syncS D).1.dead = true ∧ (syncS D).1.lasts = D.lasts ∧ (syncS D).1.since = D.since ∧ (syncS D).1.now = D.now ∧ (syncS D).1.ops = D.ops) := by
  unfold syncS
  rw [if_neg (by simp [hd])]
  unfold opS
  by_cases hf : D.fuse = 0
  · rw [if_pos hf]; exact .inr ⟨rfl, rfl, rfl, rfl, rfl, rfl⟩
  · rw [if_neg hf]; exact .inl ⟨rfl, hd, rfl, rfl, rfl, rfl⟩
theorem puts_live : ∀ (xs : List (List UInt8)) (D : Dk) (p : Nat), D.dead = false → (∀ x ∈ xs, x.length = 64) → p + xs.length ≤ D.now.length →
    ((putsS D p xs).2 = 0 ∧ (putsS D p xs).1.dead = false ∧ (putsS D p xs).1.lasts = D.lasts ∧ (putsS D p xs).1.since = D.since ++ zp p xs ∧ (putsS D p xs).1.now = putAll D.now (zp p xs) ∧ (putsS D p xs).1.ops = D.ops + xs.length) ∨
    ((putsS D p xs).2 = 14 ∧ (putsS D p xs).1.dead = true ∧ (putsS D p xs).1.lasts = D.lasts ∧ (putsS D p xs).1.now.length = D.now.length ∧ (putsS D p xs).1.ops ≤ D.ops + xs.length ∧ ∃ l, (putsS D p xs).1.since = D.since ++ l ∧ ∀ q ∈ l, p ≤ q.1 ∧ q.1 < p + xs.length ∧ q.2.length = 64)
  | [], D, p, hd, _, _ => .inl ⟨rfl, hd, rfl, by simp [putsS, zp], rfl, by simp [putsS]⟩
  | x :: r, D, p, hd, h64, hp => by
    rw [List.length_cons] at hp
    have hx := h64 x (List.mem_cons_self ..)
    rcases write_live (D := D) hd (p := p) (by omega) hx with ⟨w1, w2, w3, w4, w5, w6⟩ | ⟨w1, w2, w3, w4, w5, w6⟩
    · have e : putsS D p (x :: r) = putsS (writeS D p x).1 (p + 1) r := by show (if _ then _ else _) = _; rw [if_pos w1]
      rw [e]
      rcases puts_live r (writeS D p x).1 (p + 1) w2 (fun y hy => h64 y (List.mem_cons_of_mem _ hy)) (by rw [w5, List.length_set]; omega) with ⟨r1, r2, r3, r4, r5, r6⟩ | ⟨r1, r2, r3, r4, r5, l, r6, r7⟩
      · refine .inl ⟨r1, r2, by rw [r3, w3], by rw [r4, w4]; simp [zp], by rw [r5, w5]; rfl, by rw [r6, w6, List.length_cons]; omega⟩
      · refine .inr ⟨r1, r2, by rw [r3, w3], by rw [r4, w5, List.length_set], by rw [List.length_cons]; omega, (p, x) :: l, by rw [r6, w4]; simp, fun q hq => ?_⟩
        rw [List.length_cons]
        rcases List.mem_cons.1 hq with rfl | hq
        · exact ⟨Nat.le_refl _, by dsimp only; omega, hx⟩
        · have := r7 q hq
          exact ⟨by omega, by omega, this.2.2⟩
    · have e : putsS D p (x :: r) = writeS D p x := by show (if _ then _ else _) = _; rw [if_neg (by rw [w1]; decide)]
      rw [e]
      refine .inr ⟨w1, w2, w3, by rw [w5], by rw [w6]; omega, [(p, x)], w4, fun q hq => ?_⟩
      rw [List.mem_singleton.1 hq, List.length_cons]
      exact ⟨Nat.le_refl _, by dsimp only; omega, hx⟩
def newH (J : Jn) (half at' : Int) (b : List UInt8) : Jh := ⟨J.hd.g + 1, half, at' + jk b.length⟩
def newJ (J : Jn) (half at' : Int) (b : List UInt8) : Jn := ⟨newH J half at' b, 1 - J.s, (if half = J.hd.h then J.rows else []) ++ [b]⟩
def headS (R : Dk × Int) (p : Int) (x : List UInt8) : Dk × Int := if R.2 = 0 then (if (writeS R.1 p x).2 = 0 then syncS (writeS R.1 p x).1 else writeS R.1 p x) else R
def thenSync (R : Dk × Int) : Dk × Int := if R.2 = 0 then syncS R.1 else R
def layS (D : Dk) (J : Jn) (half at' : Int) (b : List UInt8) : Dk × Int :=
  if 65536 < b.length then (D, 3) else if (jz D.now.length : Int) - at' < jk b.length ∨ 1099511627775 ≤ J.hd.g then (D, 5) else
    headS (thenSync (putsS D (2 + half.toNat * jz D.now.length + at'.toNat) (secsL b))) (1 - J.s) (pad64 (hdB (newH J half at' b)))
structure Stable (D : Dk) (J : Jn) : Prop where
  live : D.dead = false
  none : D.since = []
  same : D.lasts = D.now
  inv : JInv D.now J
/-- A disk that died at work: whatever is left, it has the journal of before, or the one that was under way. -/
def Torn (D : Dk) (J J' : Jn) : Prop := ∀ ch, JInv (crashS D ch).now J ∨ JInv (crashS D ch).now J'
theorem crash_in {D : Dk} {l : List (Nat × List UInt8)} (hs : D.since = l) (ch : List UInt8) : ∃ l', (crashS D ch).now = putAll D.lasts l' ∧ ∀ p ∈ l', p ∈ l := ⟨sel ch 0 D.since, rfl, fun p hp => by rw [← hs]; exact sel_mem ch _ _ p hp⟩
theorem torn1 {L : List (List UInt8)} {J J' : Jn} {q : Nat} {x : List UInt8} : ∀ (l : List (Nat × List UInt8)), (∀ p ∈ l, p ∈ [(q, x)]) → JInv L J → JInv (L.set q x) J' → JInv (putAll L l) J ∨ JInv (putAll L l) J'
  | [], _, h, _ => .inl h
  | p :: l, hl, _, h => by
    right
    have hp := List.mem_singleton.1 (hl p (List.mem_cons_self ..))
    subst hp
    show JInv (putAll (L.set q x) l) J'
    have key : ∀ (l : List (Nat × List UInt8)), (∀ p ∈ l, p ∈ [(q, x)]) → putAll (L.set q x) l = L.set q x := by
      intro l
      induction l with
      | nil => intro _; rfl
      | cons p l ih =>
        intro hl
        have hp := List.mem_singleton.1 (hl p (List.mem_cons_self ..))
        subst hp
        show putAll ((L.set q x).set q x) l = _
        rw [List.set_set]
        exact ih (fun r hr => hl r (List.mem_cons_of_mem _ hr))
    rw [key l (fun r hr => hl r (List.mem_cons_of_mem _ hr))]
    exact h
/-- A record is laid. -/
theorem lay_ok {D : Dk} {J : Jn} (st : Stable D J) {half at' : Int} {b : List UInt8} (hc : (half = J.hd.h ∧ at' = J.hd.e) ∨ (half = 1 - J.hd.h ∧ at' = 0)) (hb : b.length ≤ 65536) (hk : at' + jk b.length ≤ jz D.now.length) (hg : J.hd.g < 1099511627775) :
    ((layS D J half at' b).2 = 0 ∧ Stable (layS D J half at' b).1 (newJ J half at' b) ∧ (layS D J half at' b).1.now.length = D.now.length ∧ (layS D J half at' b).1.ops ≤ D.ops + jk b.length + 3) ∨
    ((layS D J half at' b).2 = 14 ∧ (layS D J half at' b).1.dead = true ∧ Torn (layS D J half at' b).1 J (newJ J half at' b)) := by
  obtain ⟨live, non, same, inv⟩ := st
  have hlen := inv.len
  obtain ⟨z1, z2⟩ := jz_le hlen.1
  have hhd := inv.h
  have hee := inv.e
  have hss := inv.s
  have hkp := jk_pos b.length
  have hhalf : half.toNat ≤ 1 := by omega
  have hz : half.toNat * jz D.now.length ≤ jz D.now.length := by
    rcases (show half.toNat = 0 ∨ half.toNat = 1 by omega) with e | e <;> rw [e] <;> omega
  obtain ⟨p, hp⟩ : ∃ p, p = 2 + half.toNat * jz D.now.length + at'.toNat := ⟨_, rfl⟩
  have hpl : p + (secsL b).length ≤ D.now.length := by
    rw [secsL_len, hp]
    rcases (show half.toNat = 0 ∨ half.toNat = 1 by omega) with e | e <;> rw [e] <;> omega
  have hp2 : 2 ≤ p := by omega
  have elay : layS D J half at' b = headS (thenSync (putsS D p (secsL b))) (1 - J.s) (pad64 (hdB (newH J half at' b))) := by
    unfold layS
    rw [if_neg (by omega), if_neg (by omega), hp]
  -- what stands where the journal of before stands, if only the region is written
  have keep : ∀ L' : List (List UInt8), L'.length = D.now.length → (∀ x ∈ L', x.length = 64) → (∀ i, i < p ∨ p + jk b.length ≤ i → L'[i]? = D.now[i]?) → JInv L' J := fun L' h1 h2 h3 => by
    refine inv.congr h1 h2 (h3 0 (by omega)) (h3 1 (by omega)) fun i i1 i2 => h3 i ?_
    rcases hc with ⟨c1, c2⟩ | ⟨c1, c2⟩
    · left; rw [hp, c1, c2]; exact i2
    · rcases (show (J.hd.h.toNat = 0 ∧ half.toNat = 1) ∨ (J.hd.h.toNat = 1 ∧ half.toNat = 0) by omega) with ⟨e1, e2⟩ | ⟨e1, e2⟩
      · left; rw [hp, e2]; rw [e1] at i2; omega
      · right; rw [hp, e2, c2]; rw [e1] at i1; omega
  have cut : ∀ (M : Dk) (l : List (Nat × List UInt8)), M.lasts = D.now → M.since = l → (∀ q ∈ l, p ≤ q.1 ∧ q.1 < p + jk b.length ∧ q.2.length = 64) → ∀ ch, JInv (crashS M ch).now J := fun M l h1 h2 h3 ch => by
    obtain ⟨l', e1, e2⟩ := crash_in h2 ch
    rw [e1, h1]
    refine keep _ (putAll_len _ _) (putAll_64 _ _ inv.s64 (fun q hq => (h3 q (e2 q hq)).2.2)) fun i hi => putAll_out _ _ _ fun q hq => ?_
    have := h3 q (e2 q hq)
    omega
  have hreg : ∀ q ∈ zp p (secsL b), p ≤ q.1 ∧ q.1 < p + jk b.length ∧ q.2.length = 64 := fun q hq => by
    obtain ⟨h1, h2, h3⟩ := zp_mem _ _ q hq
    rw [secsL_len] at h2
    exact ⟨h1, h2, secsL_64 b _ h3⟩
  rw [elay]
  rcases puts_live (secsL b) D p live (secsL_64 b) hpl with ⟨r1, r2, r3, r4, r5, r6⟩ | ⟨r1, r2, r3, r4, r5, l, r6, r7⟩
  rotate_left
  · have e : thenSync (putsS D p (secsL b)) = putsS D p (secsL b) := by unfold thenSync; rw [if_neg (by rw [r1]; decide)]
    have e2 : headS (putsS D p (secsL b)) (1 - J.s) (pad64 (hdB (newH J half at' b))) = putsS D p (secsL b) := by unfold headS; rw [if_neg (by rw [r1]; decide)]
    rw [e, e2]
    refine .inr ⟨r1, r2, fun ch => .inl (cut _ l (by rw [r3, same]) (by rw [r6, non]; rfl) (fun q hq => by have := r7 q hq; rw [secsL_len] at this; exact this) ch)⟩
  have e : thenSync (putsS D p (secsL b)) = syncS (putsS D p (secsL b)).1 := by unfold thenSync; rw [if_pos r1]
  rw [e]
  rcases sync_live r2 with ⟨s1, s2, s3, s4, s5, s6⟩ | ⟨s1, s2, s3, s4, s5, s6⟩
  rotate_left
  · have e2 : headS (syncS (putsS D p (secsL b)).1) (1 - J.s) (pad64 (hdB (newH J half at' b))) = syncS (putsS D p (secsL b)).1 := by unfold headS; rw [if_neg (by rw [s1]; decide)]
    rw [e2]
    refine .inr ⟨s1, s2, fun ch => .inl (cut _ (zp p (secsL b)) (by rw [s3, r3, same]) (by rw [s4, r4, non]; rfl) hreg ch)⟩
  -- the record lasts
  obtain ⟨L1, hL1⟩ : ∃ L1, L1 = putAll D.now (zp p (secsL b)) := ⟨_, rfl⟩
  have hl1 : L1.length = D.now.length := by rw [hL1]; exact putAll_len _ _
  have h641 : ∀ x ∈ L1, x.length = 64 := by rw [hL1]; exact putAll_64 _ _ inv.s64 (fun q hq => (hreg q hq).2.2)
  have hout1 : ∀ i, i < p ∨ p + jk b.length ≤ i → L1[i]? = D.now[i]? := fun i hi => by
    rw [hL1]
    exact putAll_out _ _ _ fun q hq => by have := hreg q hq; omega
  have hat1 : (L1.drop p).take (jk b.length) = secsL b := by
    have := putAll_at (xs := secsL b) (L := D.now) (p := p) hpl
    rw [secsL_len] at this
    rw [hL1]; exact this
  have hlast1 : (syncS (putsS D p (secsL b)).1).1.lasts = L1 := by rw [s3, r3, r4, non, same, hL1]; rfl
  have hnow1 : (syncS (putsS D p (secsL b)).1).1.now = L1 := by rw [s5, r5, hL1]
  have hold : JInv L1 J := keep L1 hl1 h641 hout1
  have hnew : JInv (L1.set (1 - J.s).toNat (pad64 (hdB (newH J half at' b)))) (newJ J half at' b) := by
    refine inv.next hc (by omega) hk hg hl1 h641 (hout1 0 (by omega)) (hout1 1 (by omega)) (fun i i1 i2 => hout1 i (.inl ?_)) ?_
    · rw [hp]; exact i2
    · rw [← hp]; exact hat1
  generalize syncS (putsS D p (secsL b)).1 = R at s1 s2 s4 s6 hlast1 hnow1 ⊢
  obtain ⟨q, hq⟩ : ∃ q : Nat, (q : Int) = 1 - J.s := ⟨(1 - J.s).toNat, by omega⟩
  have hq2 : (1 - J.s).toNat = q := by omega
  rw [hq2] at hnew
  rw [← hq]
  generalize pad64 (hdB (newH J half at' b)) = x at hnew ⊢
  have hx : x.length = 64 := hnew.s64 x (List.mem_iff_getElem?.2 ⟨q, List.getElem?_set_self (by omega)⟩)
  rcases write_live (D := R.1) s2 (p := q) (by rw [hnow1]; omega) hx with ⟨w1, w2, w3, w4, w5, w6⟩ | ⟨w1, w2, w3, w4, w5, w6⟩
  rotate_left
  · have e2 : headS R (q : Int) x = writeS R.1 q x := by unfold headS; rw [if_pos s1, if_neg (by rw [w1]; decide)]
    rw [e2]
    refine .inr ⟨w1, w2, fun ch => ?_⟩
    obtain ⟨l', e1, e3⟩ := crash_in (l := [(q, x)]) (D := (writeS R.1 q x).1) (by rw [w4, s4]; rfl) ch
    rw [e1, w3, hlast1]
    exact torn1 l' e3 hold hnew
  have e2 : headS R (q : Int) x = syncS (writeS R.1 q x).1 := by unfold headS; rw [if_pos s1, if_pos w1]
  rw [e2]
  rcases sync_live w2 with ⟨t1, t2, t3, t4, t5, t6⟩ | ⟨t1, t2, t3, t4, t5, t6⟩
  · refine .inl ⟨t1, ⟨t2, t4, ?_, ?_⟩, by rw [t5, w5, List.length_set, hnow1, hl1], by rw [t6, w6, s6, r6, secsL_len]; omega⟩
    · rw [t3, t5, w3, w4, w5, s4, hlast1, hnow1]; rfl
    · rw [t5, w5, hnow1]; exact hnew
  · refine .inr ⟨t1, t2, fun ch => ?_⟩
    obtain ⟨l', e1, e3⟩ := crash_in (l := [(q, x)]) (D := (syncS (writeS R.1 q x).1).1) (by rw [t4, w4, s4]; rfl) ch
    rw [e1, t3, w3, hlast1]
    exact torn1 l' e3 hold hnew
end
end Go.Proofs.Ytkjneelekfdpfaa
