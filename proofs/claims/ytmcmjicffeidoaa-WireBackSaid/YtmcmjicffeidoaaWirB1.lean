/- What was written is read. -/
import Derived.Test.YtmcmjicffeidoaaWirL6
import Derived.Test.YtmcmjicffeidoaaWirL5
namespace Go.Proofs.Ytmcmjicffeidoaa
open Go
set_option linter.unusedVariables false
set_option linter.unusedSimpArgs false
set_option maxHeartbeats 1600000

theorem be_succ (x : Int) (n : Nat) : be x (n + 1) = be (x / 256) n ++ [lowB x] := by
  unfold be
  rw [List.range_succ, List.map_append]
  congr 1
  · apply List.map_congr_left
    intro j hj
    have hj := List.mem_range.1 hj
    rw [show 8 * (n + 1 - 1 - j) = 8 + 8 * (n - 1 - j) by omega, Int.pow_add, show (2 : Int) ^ 8 = 256 by decide, ← Int.ediv_ediv_of_nonneg (by decide)]
  · simp
theorem num_be : ∀ (n : Nat) (x : Int), 0 ≤ x → x < 2 ^ (8 * n) → (num (be x n) : Int) = x := by
  intro n
  induction n with
  | zero => intro x h0 h1; simp [be, num] at *; omega
  | succ n ih =>
    intro x h0 h1
    rw [be_succ, num_snoc]
    have h2 : (2 : Int) ^ (8 * (n + 1)) = 2 ^ (8 * n) * 256 := by rw [show 8 * (n + 1) = 8 * n + 8 by omega, Int.pow_add]; rfl
    rw [h2] at h1
    have h3 := ih (x / 256) (by omega) (Int.ediv_lt_of_lt_mul (by decide) h1)
    have h4 := lowB_nat x
    omega
/-- The bytes of deeds. -/
def Bs (l : List Dd) : List UInt8 := l.flatMap fun d => (dY d).getD []
theorem Bs_cons (d : Dd) (l : List Dd) : Bs (d :: l) = (dY d).getD [] ++ Bs l := rfl
theorem wrL_Bs : ∀ (l : List Dd) (x y : List UInt8), wrL (x, 0) l = (y, 0) → y = x ++ Bs l ∧ ∀ d ∈ l, ∃ ys, dY d = some ys := by
  intro l
  induction l with
  | nil => intro x y h; cases h; exact ⟨by simp [Bs], by simp⟩
  | cons d l ih =>
    intro x y h
    change wrL (wrS (x, 0) d) l = (y, 0) at h
    cases hd : dY d with
    | none =>
      have h1 := wrS_none hd (x, 0)
      rw [wrL_bad h1] at h
      rw [h] at h1; exact absurd rfl h1
    | some zs =>
      rw [wrS_some hd] at h
      rcases pput_cases x zs with ⟨_, e⟩ | ⟨_, e⟩
      · rw [e] at h
        obtain ⟨hy, hall⟩ := ih _ _ h
        refine ⟨by rw [hy, Bs_cons, hd]; simp, fun q hq => ?_⟩
        rcases List.mem_cons.1 hq with rfl | hq
        · exact ⟨zs, hd⟩
        · exact hall q hq
      · rw [e, wrL_bad (by simp)] at h
        cases h
/-- A number that may be written is read; its beginning is too short. -/
theorem yd_num {x i : Int} (h : goodN x i) (r : List UInt8) : eNum (be x i.toNat ++ r) 0 i = (x, r, 0) := by
  have hl := be_len x i.toNat
  unfold eNum rNum
  rw [if_neg (by simp), if_neg (fun hn => hn h.1), if_neg (by simp; omega), List.take_left' hl, List.drop_left' hl, num_be _ _ h.2.1 h.2.2]
theorem sh_num {x i : Int} (h : goodN x i) (r : List UInt8) {c : Nat} (hc : c < (be x i.toNat).length) : (eNum ((be x i.toNat ++ r).take c) 0 i).2.2 = 2 := by
  rw [be_len] at hc
  unfold eNum rNum
  rw [if_neg (by simp), if_neg (fun hn => hn h.1), if_pos (by rw [List.length_take]; omega)]
theorem yd_raw (ys r : List UInt8) (hk : ys.length ≤ 65535) : eRaw (lowB ((ys.length : Int) / 256) :: lowB (ys.length : Int) :: ys ++ r) 0 65535 = (ys, r, 0) := by
  have h1 := num_be2 ys.length (by omega)
  unfold eRaw rRaw
  have ht : (lowB ((ys.length : Int) / 256) :: lowB (ys.length : Int) :: ys ++ r).take 2 = [lowB ((ys.length : Int) / 256), lowB (ys.length : Int)] := by simp
  have hd : (lowB ((ys.length : Int) / 256) :: lowB (ys.length : Int) :: ys ++ r).drop 2 = ys ++ r := by simp
  have hl : ¬ (lowB ((ys.length : Int) / 256) :: lowB (ys.length : Int) :: ys ++ r).length < 2 := by simp
  rw [if_neg (by simp), ht, hd, h1, if_neg (by decide), if_neg hl, if_neg (by omega), if_neg (by simp), List.take_left' rfl, List.drop_left' rfl]
theorem sh_raw (ys r : List UInt8) (hk : ys.length ≤ 65535) {c : Nat} (hc : c < ys.length + 2) : (eRaw ((lowB ((ys.length : Int) / 256) :: lowB (ys.length : Int) :: ys ++ r).take c) 0 65535).2.2 = 2 := by
  have h1 := num_be2 ys.length (by omega)
  unfold eRaw rRaw
  rw [if_neg (by simp), if_neg (by decide)]
  match c, hc with
  | 0, _ => rfl
  | 1, _ => rfl
  | c + 2, hc =>
    have ht : ((lowB ((ys.length : Int) / 256) :: lowB (ys.length : Int) :: ys ++ r).take (c + 2)).take 2 = [lowB ((ys.length : Int) / 256), lowB (ys.length : Int)] := by simp
    have hd : ((lowB ((ys.length : Int) / 256) :: lowB (ys.length : Int) :: ys ++ r).take (c + 2)).drop 2 = (ys ++ r).take c := by simp
    have hl : ¬ ((lowB ((ys.length : Int) / 256) :: lowB (ys.length : Int) :: ys ++ r).take (c + 2)).length < 2 := by simp
    rw [ht, hd, h1, if_neg hl, if_neg (by omega), if_pos (by rw [List.length_take]; omega)]
theorem yd_bool (b : Bool) (r : List UInt8) : eBool ([if b then (1 : UInt8) else 0] ++ r) 0 = (b, r, 0) := by
  cases b <;> rfl
theorem dY_num {d : Dd} {ys : List UInt8} (h : dY d = some ys) (h1 : d.d ≤ 1) (r : List UInt8) : eNum (ys ++ r) 0 d.n = (d.x, r, 0) := by
  unfold dY at h
  rw [if_pos h1] at h
  split at h
  · rename_i h2; cases h; exact yd_num h2 r
  · cases h
theorem dY_raw {d : Dd} {ys : List UInt8} (h : dY d = some ys) (h1 : ¬ d.d ≤ 1) (h2 : d.d = 2 ∨ d.d = 3) (r : List UInt8) : eRaw (ys ++ r) 0 65535 = (d.b, r, 0) := by
  unfold dY at h
  rw [if_neg h1, if_pos h2] at h
  split at h
  · cases h
  · rename_i h3; cases h; exact yd_raw _ _ (by omega)
theorem dY_bool {d : Dd} {ys : List UInt8} (h : dY d = some ys) (h1 : ¬ d.d ≤ 1) (h2 : ¬ (d.d = 2 ∨ d.d = 3)) (r : List UInt8) : eBool (ys ++ r) 0 = (bitD d.x, r, 0) := by
  unfold dY at h
  rw [if_neg h1, if_neg h2] at h
  cases h; exact yd_bool _ _
/-- What a reading of a deed leaves. -/
def rdS (zs : List UInt8) (bad : Int) (d : Dd) : List UInt8 × Int := if d.d ≤ 1 then (eNum zs bad d.n).2 else if d.d = 2 ∨ d.d = 3 then (eRaw zs bad 65535).2 else (eBool zs bad).2
theorem rdS_full {d : Dd} {ys : List UInt8} (h : dY d = some ys) (r : List UInt8) : rdS (ys ++ r) 0 d = (r, 0) := by
  unfold dY at h
  unfold rdS
  split
  · rename_i h1
    rw [if_pos h1] at h
    split at h
    · rename_i h2; cases h; rw [yd_num h2]
    · cases h
  · rename_i h1
    rw [if_neg h1] at h
    split
    · rename_i h2
      rw [if_pos h2] at h
      split at h
      · cases h
      · rename_i h3; cases h; rw [yd_raw _ _ (by omega)]
    · rename_i h2
      rw [if_neg h2] at h
      cases h; rw [yd_bool]
theorem rdS_short {d : Dd} {ys : List UInt8} (h : dY d = some ys) (r : List UInt8) {c : Nat} (hc : c < ys.length) : (rdS ((ys ++ r).take c) 0 d).2 = 2 := by
  unfold dY at h
  unfold rdS
  split
  · rename_i h1
    rw [if_pos h1] at h
    split at h
    · rename_i h2; cases h; exact sh_num h2 r hc
    · cases h
  · rename_i h1
    rw [if_neg h1] at h
    split
    · rename_i h2
      rw [if_pos h2] at h
      split at h
      · cases h
      · rename_i h3; cases h; exact sh_raw _ _ (by omega) (by simpa using hc)
    · rename_i h2
      rw [if_neg h2] at h
      cases h
      have : c = 0 := by simp at hc; omega
      subst this; rfl
theorem rdS_two (zs : List UInt8) (d : Dd) : (rdS zs 2 d).2 = 2 := by
  unfold rdS
  split
  · rfl
  · split <;> rfl
/-- A beginning that is too short stays so. -/
def Sh (l : List Dd) (zs : List UInt8) (bad : Int) : Prop := bad = 2 ∨ bad = 0 ∧ ∃ c, zs = (Bs l).take c ∧ c < (Bs l).length
theorem Sh.step {d : Dd} {l : List Dd} {zs : List UInt8} {bad : Int} (h : Sh (d :: l) zs bad) {ys : List UInt8} (hd : dY d = some ys) : Sh l (rdS zs bad d).1 (rdS zs bad d).2 := by
  rcases h with rfl | ⟨rfl, c, rfl, hc⟩
  · exact .inl (rdS_two _ _)
  · rw [Bs_cons, hd] at hc ⊢
    simp only [Option.getD_some] at hc ⊢
    by_cases h1 : c < ys.length
    · exact .inl (rdS_short hd _ h1)
    · have e : (ys ++ Bs l).take c = ys ++ (Bs l).take (c - ys.length) := by
        rw [List.take_append, List.take_of_length_le (by omega)]
      rw [e, rdS_full hd]
      rw [List.length_append] at hc
      exact .inr ⟨rfl, c - ys.length, rfl, by omega⟩
end Go.Proofs.Ytmcmjicffeidoaa
