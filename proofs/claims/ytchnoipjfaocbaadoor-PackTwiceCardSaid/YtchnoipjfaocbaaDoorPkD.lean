/- Blocks packed into stripes, in plain Lean. -/
import Derived.Test.YtchnoipjfaocbaaDoorDlS
import Derived.Test.YtchnoipjfaocbaaDoorBlkR1
namespace Go.Proofs.YtchnoipjfaocbaaDoor
open Go
set_option linter.unusedVariables false
set_option linter.unusedSimpArgs false

/-- Whose a stripe is, in which life, which one. -/
structure Sr where
  c : Int
  l : Int
  n : Int
  deriving DecidableEq
/-- A stripe and its bytes. -/
structure Fl where
  c : Int
  l : Int
  n : Int
  d : List UInt8
  deriving DecidableEq
/-- A block that was changed. -/
structure Dy where
  b : Int
  d : List UInt8
/-- How many bytes stand ahead of the noughts at the end. -/
def tl (xs : List UInt8) : Nat → Nat
  | 0 => 0
  | k + 1 => if xs.getD k 0 = 0 then tl xs k else k + 1
theorem tl_le (xs : List UInt8) : ∀ k, tl xs k ≤ k
  | 0 => Nat.le_refl 0
  | k + 1 => by
    unfold tl
    have := tl_le xs k
    split <;> omega
def trimS (xs : List UInt8) : List UInt8 := xs.take (tl xs xs.length)
theorem trimS_len (xs : List UInt8) : (trimS xs).length ≤ xs.length := by unfold trimS; rw [List.length_take]; omega
def opn (f : Sr) (M : Nat) (R : List Fl) (m : Nat) : List Fl := match R with
  | [] => [⟨f.c, f.l, f.n, []⟩]
  | y :: r => if M < y.d.length + m then ⟨f.c, f.l, f.n + ((r.length + 1 : Nat) : Int), []⟩ :: y :: r else y :: r
def putS (m : List UInt8) : List Fl → P5 × List Fl
  | [] => (p0, [])
  | y :: r => (⟨y.c, y.l, y.n, y.d.length, m.length⟩, { y with d := y.d ++ m } :: r)
/-- Bytes are laid into the last stripe (the list's first), or into a new one. -/
def layS (f : Sr) (M : Nat) (R : List Fl) (m : List UInt8) : P5 × List Fl := putS m (opn f M R m.length)
def stepS (f : Sr) (M : Nat) (ino sz : Int) (s : List Fl × List Dl) (x : Dy) : List Fl × List Dl :=
  if trimS x.d = [] then (s.1, s.2 ++ [⟨1, ino, x.b, sz, p0, p0⟩]) else ((layS f M s.1 (trimS x.d)).2, s.2 ++ [⟨1, ino, x.b, sz, (layS f M s.1 (trimS x.d)).1, p0⟩])
def runS (f : Sr) (M : Nat) (ino sz : Int) (l : List Dy) : List Fl × List Dl := l.foldl (stepS f M ino sz) ([], [])
theorem runS_snoc (f : Sr) (M : Nat) (ino sz : Int) (l : List Dy) (x : Dy) : runS f M ino sz (l ++ [x]) = stepS f M ino sz (runS f M ino sz l) x := by simp [runS]
def blkOk (sz last : Int) (x : Dy) : Prop := last < x.b ∧ x.b < 64 ∧ x.b * 64 < sz ∧ x.d.length ≤ 64
instance (sz last : Int) (x : Dy) : Decidable (blkOk sz last x) := by unfold blkOk; infer_instance
/-- Blocks rise, lie below the size, are not too long. -/
def risS (sz : Int) : Int → List Dy → Prop
  | _, [] => True
  | last, x :: l => blkOk sz last x ∧ risS sz x.b l
instance instRis (sz : Int) : (last : Int) → (l : List Dy) → Decidable (risS sz last l)
  | _, [] => .isTrue trivial
  | last, x :: l => by unfold risS; exact @instDecidableAnd _ _ _ (instRis sz x.b l)
def lastB : Int → List Dy → Int
  | last, [] => last
  | _, x :: l => lastB x.b l
theorem lastB_snoc (x : Dy) : ∀ (l : List Dy) (last : Int), lastB last (l ++ [x]) = x.b
  | [], _ => rfl
  | y :: l, _ => lastB_snoc x l y.b
theorem risS_snoc (sz : Int) (x : Dy) : ∀ (l : List Dy) (last : Int), risS sz last (l ++ [x]) ↔ risS sz last l ∧ blkOk sz (lastB last l) x
  | [], last => by simp [risS, lastB]
  | y :: l, last => by
    show blkOk sz last y ∧ risS sz y.b (l ++ [x]) ↔ (blkOk sz last y ∧ risS sz y.b l) ∧ blkOk sz (lastB y.b l) x
    rw [risS_snoc sz x l y.b, and_assoc]
theorem risS_app (sz : Int) (k : List Dy) : ∀ (l : List Dy) (last : Int), risS sz last (l ++ k) → risS sz last l
  | [], _, _ => trivial
  | y :: l, last, h => ⟨h.1, risS_app sz k l y.b h.2⟩
theorem risS_mem {sz : Int} : ∀ {l : List Dy} {last : Int}, -1 ≤ last → risS sz last l → ∀ x ∈ l, 0 ≤ x.b ∧ x.b < 64 ∧ x.b * 64 < sz ∧ x.d.length ≤ 64
  | [], _, _, _, x, hx => by cases hx
  | y :: l, last, h0, h, x, hx => by
    obtain ⟨⟨h1, h2, h3, h4⟩, h5⟩ := h
    rcases List.mem_cons.1 hx with rfl | hx
    · exact ⟨by omega, h2, h3, h4⟩
    · exact risS_mem (by omega) h5 x hx
def okS (ino sz : Int) (f : Sr) (n : Int) (l : List Dy) : Prop := (3 ≤ n ∧ n ≤ 16) ∧ mst f.c f.l f.n ∧ (2 ≤ ino ∧ ino ≤ 128) ∧ (0 ≤ sz ∧ sz ≤ 4096) ∧ risS sz (-1) l
instance (ino sz : Int) (f : Sr) (n : Int) (l : List Dy) : Decidable (okS ino sz f n l) := by unfold okS; infer_instance
def topN : List Fl → Int
  | [] => 0
  | y :: _ => y.n
def mostM (n : Int) : Nat := (400 * (n - 1)).toNat
/-- The stripes and the deltas, or what may not be. -/
def packS (ino sz : Int) (f : Sr) (n : Int) (l : List Dy) : List Fl × List Dl × Int :=
  if okS ino sz f n l then
    if 1073741824 < topN (runS f (mostM n) ino sz l).1 then ([], [], 5)
    else ((runS f (mostM n) ino sz l).1.reverse, (runS f (mostM n) ino sz l).2 ++ [⟨2, ino, 0, sz, p0, p0⟩], 0)
  else ([], [], 1)
/-- What is known of the stripes on the way. -/
structure Wy (f : Sr) (i : Nat) (R : List Fl) : Prop where
  len : R.length ≤ i
  d : ∀ y, y ∈ R → y.d.length ≤ 64 * i
  n : ∀ y, y ∈ R → f.n ≤ y.n ∧ y.n ≤ f.n + i
theorem Wy.nil (f : Sr) : Wy f 0 [] := ⟨Nat.le_refl 0, (fun y hy => by cases hy), (fun y hy => by cases hy)⟩
theorem Wy.mono {f : Sr} {i j : Nat} {R : List Fl} (h : Wy f i R) (hij : i ≤ j) : Wy f j R :=
  ⟨by have := h.len; omega, fun y hy => by have := h.d y hy; omega, fun y hy => by have := h.n y hy; omega⟩
theorem Wy.opn {f : Sr} {i : Nat} {R : List Fl} (h : Wy f i R) (M m : Nat) : Wy f (i + 1) (opn f M R m) := by
  unfold Go.Proofs.YtchnoipjfaocbaaDoor.opn
  cases R with
  | nil =>
    refine ⟨by simp, fun y hy => ?_, fun y hy => ?_⟩
    · simp only [List.mem_singleton] at hy; subst hy; simp
    · simp only [List.mem_singleton] at hy; subst hy; dsimp only; omega
  | cons y r =>
    have hl := h.len
    simp only [List.length_cons] at hl
    dsimp only
    split
    · refine ⟨by simp; omega, fun z hz => ?_, fun z hz => ?_⟩
      · rcases List.mem_cons.1 hz with rfl | hz
        · simp
        · have := h.d z hz; omega
      · rcases List.mem_cons.1 hz with rfl | hz
        · dsimp only; omega
        · have := h.n z hz; omega
    · exact h.mono (by omega)
theorem Wy.put {f : Sr} {i : Nat} {R : List Fl} (h : Wy f (i + 1) R) (hd : ∀ y, y ∈ R → y.d.length ≤ 64 * i) (m : List UInt8) (hm : m.length ≤ 64) : Wy f (i + 1) (putS m R).2 := by
  cases R with
  | nil => exact h
  | cons y r =>
    refine ⟨h.len, fun z hz => ?_, fun z hz => ?_⟩
    · rcases List.mem_cons.1 hz with rfl | hz
      · have := hd y (by simp); simp only [List.length_append]; omega
      · exact h.d z (by simp [hz])
    · rcases List.mem_cons.1 hz with rfl | hz
      · exact h.n y (by simp)
      · exact h.n z (by simp [hz])
theorem opn_d {f : Sr} {i : Nat} {R : List Fl} (h : ∀ y, y ∈ R → y.d.length ≤ 64 * i) (M m : Nat) : ∀ y, y ∈ opn f M R m → y.d.length ≤ 64 * i := by
  unfold opn
  cases R with
  | nil => intro y hy; simp only [List.mem_singleton] at hy; subst hy; simp
  | cons z r =>
    dsimp only
    split
    · intro y hy
      rcases List.mem_cons.1 hy with rfl | hy
      · simp
      · exact h y hy
    · exact h
theorem opn_ne (f : Sr) (M : Nat) (R : List Fl) (m : Nat) : ∃ y r, opn f M R m = y :: r := by
  unfold opn
  cases R with
  | nil => exact ⟨_, _, rfl⟩
  | cons z r =>
    dsimp only
    split
    · exact ⟨_, _, rfl⟩
    · exact ⟨_, _, rfl⟩
theorem Wy.lay {f : Sr} {i : Nat} {R : List Fl} (h : Wy f i R) (M : Nat) (m : List UInt8) (hm : m.length ≤ 64) : Wy f (i + 1) (layS f M R m).2 :=
  (h.opn M m.length).put (opn_d h.d M m.length) m hm
end Go.Proofs.YtchnoipjfaocbaaDoor
