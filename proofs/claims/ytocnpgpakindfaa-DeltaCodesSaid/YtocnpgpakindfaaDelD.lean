/- Deltas, in plain Lean: which may be, their bytes, and the deltas that bytes are. -/
import Derived.Test.YtocnpgpakindfaaBlkB1
namespace Go.Proofs.Ytocnpgpakindfaa
open Go
set_option linter.unusedVariables false
set_option linter.unusedSimpArgs false

/-- A change of a file: what it does, of which file, which block, to which size; to which pointer, from which. -/
structure Dl where
  d : Int
  i : Int
  b : Int
  s : Int
  t : P5
  o : P5
  deriving DecidableEq
abbrev Dl.cells (x : Dl) : List Value := [I64 x.d, I64 x.i, I64 x.b, I64 x.s, I64 x.t.c, I64 x.t.l, I64 x.t.n, I64 x.t.a, I64 x.t.k, I64 x.o.c, I64 x.o.l, I64 x.o.n, I64 x.o.a, I64 x.o.k]
abbrev Dl.V (x : Dl) : Value := .agg #[I64 x.d, I64 x.i, I64 x.b, I64 x.s, I64 x.t.c, I64 x.t.l, I64 x.t.n, I64 x.t.a, I64 x.t.k, I64 x.o.c, I64 x.o.l, I64 x.o.n, I64 x.o.a, I64 x.o.k]
theorem to_at (x : Dl) (M : List Value) (j : Nat) (u : Value) (hj : [I64 x.t.c, I64 x.t.l, I64 x.t.n, I64 x.t.a, I64 x.t.k][j]? = some u) : (x.cells ++ M)[4 + j]? = some u := by
  match j, hj with
  | 0, k => exact k
  | 1, k => exact k
  | 2, k => exact k
  | 3, k => exact k
  | 4, k => exact k
  | n + 5, k => simp at k
theorem old_at (x : Dl) (M : List Value) (j : Nat) (u : Value) (hj : [I64 x.o.c, I64 x.o.l, I64 x.o.n, I64 x.o.a, I64 x.o.k][j]? = some u) : (x.cells ++ M)[9 + j]? = some u := by
  match j, hj with
  | 0, k => exact k
  | 1, k => exact k
  | 2, k => exact k
  | 3, k => exact k
  | 4, k => exact k
  | n + 5, k => simp at k
theorem dl_to {G : Im} {b : Nat} {x : Dl} {e : TypeId} {H : Hp} (j : Nat) (u : Value) (hj : [I64 x.t.c, I64 x.t.l, I64 x.t.n, I64 x.t.a, I64 x.t.k][j]? = some u) : Cel G ((b, Cs x.cells e) :: H) b (0 + 4 + j) u := Cel.head (by
  have := to_at x [] j u hj; rwa [List.append_nil] at this)
theorem dl_old {G : Im} {b : Nat} {x : Dl} {e : TypeId} {H : Hp} (j : Nat) (u : Value) (hj : [I64 x.o.c, I64 x.o.l, I64 x.o.n, I64 x.o.a, I64 x.o.k][j]? = some u) : Cel G ((b, Cs x.cells e) :: H) b (0 + 9 + j) u := Cel.head (by
  have := old_at x [] j u hj; rwa [List.append_nil] at this)

def baseD (x : Dl) : Prop := (2 ≤ x.i ∧ x.i ≤ 128) ∧ (0 ≤ x.b ∧ x.b < 64) ∧ (0 ≤ x.s ∧ x.s ≤ 4096) ∧ mayP x.t ∧ mayP x.o
def kindD (x : Dl) : Prop := (x.d = 1 ∧ x.o = p0) ∨ (x.d = 2 ∧ x.o = p0 ∧ x.t = p0 ∧ x.b = 0) ∨ (x.d = 3 ∧ x.s = 0)
/-- It may be. -/
def mayDl (x : Dl) : Prop := baseD x ∧ kindD x
instance (x : Dl) : Decidable (baseD x) := by unfold baseD; infer_instance
instance (x : Dl) : Decidable (kindD x) := by unfold kindD; infer_instance
instance (x : Dl) : Decidable (mayDl x) := by unfold mayDl; infer_instance
theorem may_put {x : Dl} (hb : baseD x) (h : x.d = 1) : x.o = p0 ↔ mayDl x := by
  refine ⟨fun k => ⟨hb, .inl ⟨h, k⟩⟩, fun k => ?_⟩
  rcases k.2 with ⟨_, k⟩ | ⟨k, _⟩ | ⟨k, _⟩
  · exact k
  · omega
  · omega
theorem may_cut {x : Dl} (hb : baseD x) (h : x.d = 2) : (x.o = p0 ∧ x.t = p0 ∧ x.b = 0) ↔ mayDl x := by
  refine ⟨fun k => ⟨hb, .inr (.inl ⟨h, k⟩)⟩, fun k => ?_⟩
  rcases k.2 with ⟨k, _⟩ | ⟨_, k⟩ | ⟨k, _⟩
  · omega
  · exact k
  · omega
theorem may_move {x : Dl} (hb : baseD x) (h : x.d = 3) : x.s = 0 ↔ mayDl x := by
  refine ⟨fun k => ⟨hb, .inr (.inr ⟨h, k⟩)⟩, fun k => ?_⟩
  rcases k.2 with ⟨k, _⟩ | ⟨k, _⟩ | ⟨_, k⟩
  · omega
  · omega
  · exact k
theorem may_none {x : Dl} (h1 : ¬ x.d = 1) (h2 : ¬ x.d = 2) (h3 : ¬ x.d = 3) : ¬ mayDl x := fun k => by
  rcases k.2 with ⟨k, _⟩ | ⟨k, _⟩ | ⟨k, _⟩
  · exact h1 k
  · exact h2 k
  · exact h3 k

/-- A delta's bytes. -/
def bsD (x : Dl) : List UInt8 := be x.d 1 ++ be x.i 2 ++ be x.b 1 ++ be x.s 2 ++ (if x.d = 1 then bsP x.t else if x.d = 3 then bsP x.o ++ bsP x.t else [])
theorem bsD_len (x : Dl) : (bsD x).length ≤ 28 := by
  unfold bsD
  simp only [List.length_append, be_len]
  split
  · rw [bsP_len]; omega
  · split
    · rw [List.length_append, bsP_len, bsP_len]; omega
    · simp
def bsL (l : List Dl) : List UInt8 := be (l.length : Int) 2 ++ (l.map bsD).flatten
theorem flat_le (l : List Dl) : ((l.map bsD).flatten).length ≤ 28 * l.length := by
  induction l with
  | nil => simp
  | cons x l ih => have := bsD_len x; simp only [List.map_cons, List.flatten_cons, List.length_append, List.length_cons]; omega
theorem bsL_len (l : List Dl) : (bsL l).length ≤ 2 + 28 * l.length := by
  unfold bsL; have := flat_le l; simp only [List.length_append, be_len]; omega
/-- What is made of a list: its bytes, or that it may not be. -/
def encS (l : List Dl) : List UInt8 × Int := if ∀ x ∈ l, mayDl x then (bsL l, 0) else ([], 1)
theorem be_nums {x : Dl} (h : mayDl x) : (0 ≤ x.d ∧ x.d < 2 ^ (8 * 1)) ∧ (0 ≤ x.i ∧ x.i < 2 ^ (8 * 2)) ∧ (0 ≤ x.b ∧ x.b < 2 ^ (8 * 1)) ∧ (0 ≤ x.s ∧ x.s < 2 ^ (8 * 2)) := by
  obtain ⟨⟨⟨h1, h2⟩, ⟨h3, h4⟩, ⟨h5, h6⟩, _⟩, hk⟩ := h
  have hd : 0 ≤ x.d ∧ x.d ≤ 3 := by
    rcases hk with ⟨k, _⟩ | ⟨k, _⟩ | ⟨k, _⟩ <;> omega
  refine ⟨⟨hd.1, ?_⟩, ⟨by omega, ?_⟩, ⟨h3, ?_⟩, ⟨h5, ?_⟩⟩ <;> simp only [Nat.reduceMul] <;> omega

/-- The rest of a delta: its pointers. -/
def getT (d : Int) (s : Int × List UInt8 × Int) : P5 × P5 × List UInt8 × Int :=
  if d = 1 then ((getP s.2.1 s.2.2).1, p0, (getP s.2.1 s.2.2).2) else if d = 3 then ((getP (getP s.2.1 s.2.2).2.1 (getP s.2.1 s.2.2).2.2).1, (getP s.2.1 s.2.2).1, (getP (getP s.2.1 s.2.2).2.1 (getP s.2.1 s.2.2).2.2).2) else (p0, p0, s.2)
def getN (xs : List UInt8) (bad : Int) : Int × List UInt8 × Int := nx (nx (nx (eNum xs bad 1) 2) 1) 2
/-- A delta is read: what is read, what is left, what is wrong. -/
def getD0 (xs : List UInt8) (bad : Int) : Dl × List UInt8 × Int :=
  (⟨(eNum xs bad 1).1, (nx (eNum xs bad 1) 2).1, (nx (nx (eNum xs bad 1) 2) 1).1, (getN xs bad).1, (getT (eNum xs bad 1).1 (getN xs bad)).1, (getT (eNum xs bad 1).1 (getN xs bad)).2.1⟩, (getT (eNum xs bad 1).1 (getN xs bad)).2.2)
def getDl (xs : List UInt8) : Dl × List UInt8 × Int := if (getD0 xs 0).2.2 ≠ 0 then getD0 xs 0 else if mayDl (getD0 xs 0).1 then getD0 xs 0 else ((getD0 xs 0).1, (getD0 xs 0).2.1, 4)
def rdDs : Nat → List UInt8 → List Dl × List UInt8 × Int
  | 0, xs => ([], xs, 0)
  | n + 1, xs => if (getDl xs).2.2 ≠ 0 then ([], (getDl xs).2.1, (getDl xs).2.2) else ((getDl xs).1 :: (rdDs n (getDl xs).2.1).1, (rdDs n (getDl xs).2.1).2)
/-- The deltas that bytes are, or what is wrong first. -/
def decS (xs : List UInt8) : List Dl × Int :=
  if (eNum xs 0 2).2.2 ≠ 0 then ([], (eNum xs 0 2).2.2)
  else if 4000 < (eNum xs 0 2).1 then ([], 3)
  else if (rdDs (eNum xs 0 2).1.toNat (eNum xs 0 2).2.1).2.2 ≠ 0 then ([], (rdDs (eNum xs 0 2).1.toNat (eNum xs 0 2).2.1).2.2)
  else if 0 < (rdDs (eNum xs 0 2).1.toNat (eNum xs 0 2).2.1).2.1.length then ([], 3)
  else ((rdDs (eNum xs 0 2).1.toNat (eNum xs 0 2).2.1).1, 0)
end Go.Proofs.Ytocnpgpakindfaa
