/- A disk's sectors, in plain Lean, and as they lie in memory. -/
import Derived.Test.YtkjneelekfdpfaaOps9
namespace Go.Proofs.Ytkjneelekfdpfaa
open Go
set_option linter.unusedVariables false
set_option linter.unusedSimpArgs false

structure Dk where
  now : List (List UInt8)
  lasts : List (List UInt8)
  since : List (Nat × List UInt8)
  fuse : Int
  ops : Int
  dead : Bool

def z64 : List UInt8 := List.replicate 64 0
def newD (m : Nat) : Dk := ⟨List.replicate m z64, List.replicate m z64, [], -1, 0, false⟩
/-- One op more: does it go on? -/
def opS (D : Dk) : Dk × Bool := if D.fuse = 0 then ({ D with dead := true }, false) else ({ D with fuse := if 0 < D.fuse then D.fuse - 1 else D.fuse, ops := D.ops + 1 }, true)
def hasS (D : Dk) (n : Int) : Prop := 0 ≤ n ∧ n < D.now.length
instance (D : Dk) (n : Int) : Decidable (hasS D n) := by unfold hasS; infer_instance
def readS (D : Dk) (n : Int) : Option (List UInt8) × Int := if D.dead then (none, 14) else if hasS D n then (some (D.now.getD n.toNat []), 0) else (none, 1)
def addS (D : Dk) (n : Nat) (ys : List UInt8) : Dk := { D with since := D.since ++ [(n, ys)] }
def wrt (m : Nat) (ys : List UInt8) : Dk × Bool → Dk × Int
  | (D', false) => (D', 14)
  | (D', true) => ({ D' with now := D'.now.set m ys }, 0)
def writeS (D : Dk) (n : Int) (ys : List UInt8) : Dk × Int :=
  if D.dead then (D, 14) else if hasS D n ∧ ys.length = 64 then
    wrt n.toNat ys (opS (addS D n.toNat ys))
  else (D, 1)
def putAll (L : List (List UInt8)) (l : List (Nat × List UInt8)) : List (List UInt8) := l.foldl (fun L p => L.set p.1 p.2) L
def synced : Dk × Bool → Dk × Int
  | (D', false) => (D', 14)
  | (D', true) => ({ D' with lasts := putAll D'.lasts D'.since, since := [] }, 0)
def syncS (D : Dk) : Dk × Int := if D.dead then (D, 14) else synced (opS D)
def odd8 (x : UInt8) : Bool := x.toNat % 2 == 1
def chOn (ch : List UInt8) (i : Nat) : Bool := decide (ch.length ≤ i) || odd8 (ch.getD i 0)
def sel (ch : List UInt8) : Nat → List (Nat × List UInt8) → List (Nat × List UInt8)
  | _, [] => []
  | i, p :: l => (if chOn ch i then [p] else []) ++ sel ch (i + 1) l
def crashS (D : Dk) (ch : List UInt8) : Dk := ⟨putAll D.lasts (sel ch 0 D.since), putAll D.lasts (sel ch 0 D.since), [], -1, 0, false⟩
def fuseS (D : Dk) (n : Int) : Dk := { D with fuse := max n (-1) }
def imgS (D : Dk) : List UInt8 := D.now.flatten

structure Dk.wf (D : Dk) : Prop where
  k2 : 2 ≤ D.now.length
  kM : D.now.length ≤ 4160
  kl : D.lasts.length = D.now.length
  ks : ∀ p ∈ D.since, p.1 < D.now.length
  sm : D.since.length ≤ 1000000
  f0 : -1 ≤ D.fuse ∧ D.fuse ≤ 9223372036854775807
  o0 : 0 ≤ D.ops ∧ D.ops ≤ 1000000

abbrev DkO (dp : Nat) (vn vl vs : Value) (fuse ops : Int) (dead : Bool) : Nat × Obj := (dp, Cs [vn, vl, vs, I64 fuse, I64 ops, .bool dead] 70)
def SecR (c : List Value) (x : List UInt8) : Prop := c = x.map B8 ∧ x.length = 64
def WrR (c : List Value) (p : Nat × List UInt8) : Prop := c = I64 (p.1 : Int) :: p.2.map B8 ∧ p.2.length = 64
structure DkR (D : Dk) (vn vl vs : Value) (Bn Bl Bs : Hp) : Prop where
  wf : D.wf
  n : RA 64 SecR 92 vn D.now Bn
  l : RA 64 SecR 92 vl D.lasts Bl
  s : RA 65 WrR 94 vs D.since Bs
/-- A disk in memory. -/
def DH (dp : Nat) (D : Dk) (B : Hp) : Prop := ∃ vn vl vs Bn Bl Bs, B = DkO dp vn vl vs D.fuse D.ops D.dead :: (Bn ++ (Bl ++ Bs)) ∧ DkR D vn vl vs Bn Bl Bs

theorem RA.block {α : Type} {s : Nat} {R : List Value → α → Prop} {e : TypeId} {v : Value} {xs : List α} {B : Hp} (h : RA s R e v xs B) (hx : 0 < xs.length) : ∃ b c L, v = Sl b 0 xs.length c ∧ xs.length ≤ c ∧ c ≤ maxLen ∧ B = [(b, Cs L e)] := by
  obtain ⟨L, ⟨_, ⟨_, _, h0, _⟩ | ⟨b, c, sl, rfl, hc, hk, _, rfl⟩⟩, _⟩ := h
  · omega
  · exact ⟨b, c, _, rfl, hk, hc, rfl⟩
theorem RA.one {α : Type} {s : Nat} {R : List Value → α → Prop} {e : TypeId} {b k : Nat} {xs : List α} {L : List Value} (hk : k = xs.length) (hR : Recs s R L xs) (hm : k ≤ maxLen) : RA s R e (Sl b 0 k k) xs [(b, Cs L e)] := by
  subst hk
  exact ⟨L, ⟨hR.1, .inr ⟨b, _, [], rfl, hm, Nat.le_refl _, by rw [hR.1]; simp, by simp⟩⟩, hR⟩
theorem recs_made {α : Type} {Rc : List Value → α → Prop} {z : Value} {x0 : α} (s m : Nat) (hs : z.cells.size = s) (h0 : 0 < s) (hx : Rc z.cells.toList x0) : Recs s Rc (madeCells z.cells (m * s)).toList (List.replicate m x0) := by
  subst hs
  refine ⟨by rw [Array.length_toList, size_madeCells, List.length_replicate], fun j x hj => ?_⟩
  have hjm : j < m := by have := (List.getElem?_eq_some_iff.1 hj).1; simpa using this
  have hxe : x = x0 := by have := List.mem_of_getElem? hj; exact List.eq_of_mem_replicate this
  subst hxe
  have hmul : (j + 1) * z.cells.size ≤ m * z.cells.size := Nat.mul_le_mul_right _ hjm
  rw [Nat.add_mul, Nat.one_mul] at hmul
  have : ((madeCells z.cells (m * z.cells.size)).toList.drop (j * z.cells.size)).take z.cells.size = z.cells.toList := by
    apply List.ext_getElem
    · simp [madeCells]; omega
    · intro f h1 h2
      have hf : f < z.cells.size := by simpa using h2
      have hmod : (j * z.cells.size + f) % z.cells.size = f := by rw [Nat.mul_comm, Nat.mul_add_mod, Nat.mod_eq_of_lt hf]
      simp [madeCells, hmod, hf]
  rw [this]; exact hx
theorem recs_nows {L : List Value} {xs : List (List UInt8)} (h : Recs 64 SecR L xs) : L = xs.flatten.map B8 := by
  induction xs generalizing L with
  | nil => have := h.1; simp at this; simpa using this
  | cons x xs ih =>
    have h0 := h.2 0 x rfl
    have h1 := h.drop 1
    simp only [List.drop_succ_cons, List.drop_zero, Nat.one_mul] at h1
    have e := ih h1
    have e0 : L.take 64 = x.map B8 := by have := h0.1; simpa using this
    rw [List.flatten_cons, List.map_append, ← e, ← e0, List.take_append_drop]
theorem WrR.one {c : List Value} {p : Nat × List UInt8} (h : WrR c p) : ∀ u ∈ c, u.oneCell' = true := by
  obtain ⟨rfl, _⟩ := h
  intro u hu; simp at hu; rcases hu with rfl | ⟨x, _, rfl⟩ <;> rfl
theorem SecR.one {c : List Value} {p : List UInt8} (h : SecR c p) : ∀ u ∈ c, u.oneCell' = true := by
  obtain ⟨rfl, _⟩ := h
  intro u hu; simp at hu; obtain ⟨x, _, rfl⟩ := hu; rfl
theorem opS_now (D : Dk) : (opS D).1.now = D.now ∧ (opS D).1.lasts = D.lasts ∧ (opS D).1.since = D.since := by
  unfold opS; split <;> exact ⟨rfl, rfl, rfl⟩
end Go.Proofs.Ytkjneelekfdpfaa
