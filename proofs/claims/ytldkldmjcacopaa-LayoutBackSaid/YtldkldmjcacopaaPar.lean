/- Rows of bytes, plain: all but one of them; how long the longest is; their exclusive or. -/
namespace Go.Proofs.Ytldkldmjcacopaa

/-- All but the i-th. -/
def oth {α : Type} : List α → Int → List α
  | [], _ => []
  | v :: r, i => (if i = 0 then [] else [v]) ++ oth r (i - 1)
theorem oth_snoc {α : Type} (l : List α) (v : α) (i : Int) : oth (l ++ [v]) i = oth l i ++ (if i = l.length then [] else [v]) := by
  induction l generalizing i with
  | nil => simp [oth]
  | cons u r ih =>
    simp only [List.cons_append, oth, ih, List.append_assoc, List.length_cons]
    have : (i - 1 = (r.length : Int)) ↔ (i = ((r.length + 1 : Nat) : Int)) := by omega
    by_cases h : i = ((r.length + 1 : Nat) : Int) <;> simp [h, this]
theorem oth_append {α : Type} (l r : List α) (i : Int) : oth (l ++ r) i = oth l i ++ oth r (i - l.length) := by
  induction l generalizing i with
  | nil => simp [oth]
  | cons u l ih =>
    simp only [List.cons_append, oth, ih, List.append_assoc, List.length_cons]
    have : i - 1 - (l.length : Int) = i - ((l.length + 1 : Nat) : Int) := by omega
    rw [this]
theorem oth_next {α : Type} (vs : List α) (i : Int) (k : Nat) (hk : k < vs.length) (hne : ¬ (k : Int) = i) : (oth vs i)[(oth (vs.take k) i).length]? = some vs[k] := by
  have h1 : vs = vs.take k ++ (vs[k] :: vs.drop (k + 1)) := by simp
  have h2 : oth vs i = oth (vs.take k) i ++ oth (vs[k] :: vs.drop (k + 1)) (i - (vs.take k).length) := by
    conv => lhs; rw [h1]
    rw [oth_append]
  have h3 : ¬ i - ((vs.take k).length : Int) = 0 := by rw [List.length_take, Nat.min_eq_left (by omega)]; omega
  rw [h2, oth, if_neg h3]
  simp
theorem oth_map {α β : Type} (f : α → β) (l : List α) (i : Int) : oth (l.map f) i = (oth l i).map f := by
  induction l generalizing i with
  | nil => rfl
  | cons u r ih => simp only [List.map_cons, oth, ih, List.map_append]; split <;> rfl
theorem oth_neg {α : Type} (l : List α) (i : Int) (h : i < 0) : oth l i = l := by
  induction l generalizing i with
  | nil => rfl
  | cons u r ih => simp only [oth, if_neg (show ¬ i = 0 by omega), ih (i - 1) (by omega)]; rfl
theorem oth_at {α : Type} (l : List α) (i : Nat) : oth l i = l.eraseIdx i := by
  induction l generalizing i with
  | nil => rfl
  | cons u r ih =>
    cases i with
    | zero => simp [oth, oth_neg]
    | succ i =>
      have : ((i + 1 : Nat) : Int) - 1 = (i : Int) := by omega
      simp only [oth, this, ih, List.eraseIdx_cons_succ]
      rw [if_neg (by omega)]; rfl
theorem oth_mem {α : Type} {l : List α} {i : Int} {x : α} (h : x ∈ oth l i) : x ∈ l := by
  induction l generalizing i with
  | nil => cases h
  | cons u r ih =>
    simp only [oth, List.mem_append] at h
    rcases h with h | h
    · split at h
      · cases h
      · rw [List.mem_singleton.1 h]; exact List.mem_cons_self ..
    · exact List.mem_cons_of_mem _ (ih h)

def mxl (rs : List (List UInt8)) : Nat := rs.foldl (fun n r => max n r.length) 0
theorem mxl_snoc (rs : List (List UInt8)) (r : List UInt8) : mxl (rs ++ [r]) = max (mxl rs) r.length := by simp [mxl]

theorem foldl_max_le (rs : List (List UInt8)) (a b : Nat) : rs.foldl (fun n r => max n r.length) a ≤ b ↔ a ≤ b ∧ ∀ r ∈ rs, r.length ≤ b := by
  induction rs generalizing a with
  | nil => simp
  | cons r rs ih => rw [List.foldl_cons, ih, List.forall_mem_cons, ← and_assoc, Nat.max_le]
theorem mxl_le {rs : List (List UInt8)} {b : Nat} : mxl rs ≤ b ↔ ∀ r ∈ rs, r.length ≤ b := by simp [mxl, foldl_max_le]
theorem le_mxl {rs : List (List UInt8)} {r : List UInt8} (h : r ∈ rs) : r.length ≤ mxl rs := mxl_le.1 (Nat.le_refl _) r h

/-- One row into another one. -/
def xin (os r : List UInt8) : List UInt8 := (List.range os.length).map fun i => os.getD i 0 ^^^ r.getD i 0
theorem xin_length (os r : List UInt8) : (xin os r).length = os.length := by simp [xin]
theorem xin_getD (os r : List UInt8) (h : r.length ≤ os.length) (i : Nat) : (xin os r).getD i 0 = os.getD i 0 ^^^ r.getD i 0 := by
  unfold xin
  by_cases hi : i < os.length
  · simp [List.getD, hi]
  · have h1 : os[i]? = none := by simp; omega
    have h2 : r[i]? = none := by simp; omega
    have h3 : ((List.range os.length).map fun i => os.getD i 0 ^^^ r.getD i 0)[i]? = none := by simp; omega
    simp only [List.getD] at h3 ⊢
    rw [h1, h2, h3]; rfl

/-- All of them. -/
def pxor (rs : List (List UInt8)) : List UInt8 := rs.foldl xin (List.replicate (mxl rs) 0)
/-- The first k of them, into so many noughts. -/
def pxk (m : Nat) (rs : List (List UInt8)) : List UInt8 := rs.foldl xin (List.replicate m 0)
theorem pxk_length (m : Nat) (rs : List (List UInt8)) : (pxk m rs).length = m := by
  unfold pxk
  have : ∀ (l : List UInt8), (rs.foldl xin l).length = l.length := by
    induction rs with
    | nil => intro l; rfl
    | cons r rs ih => intro l; rw [List.foldl_cons, ih, xin_length]
  rw [this, List.length_replicate]
theorem pxk_snoc (m : Nat) (rs : List (List UInt8)) (r : List UInt8) : pxk m (rs ++ [r]) = xin (pxk m rs) r := by simp [pxk]
theorem pxor_length (rs : List (List UInt8)) : (pxor rs).length = mxl rs := pxk_length _ _
/-- A column. -/
def col (rs : List (List UInt8)) (i : Nat) : UInt8 := rs.foldl (fun a r => a ^^^ r.getD i 0) 0
theorem foldl_xin_getD (rs : List (List UInt8)) (l : List UInt8) (h : ∀ r ∈ rs, r.length ≤ l.length) (i : Nat) : (rs.foldl xin l).getD i 0 = rs.foldl (fun a r => a ^^^ r.getD i 0) (l.getD i 0) := by
  induction rs generalizing l with
  | nil => rfl
  | cons r rs ih =>
    rw [List.foldl_cons, List.foldl_cons, ih, xin_getD _ _ (h r (List.mem_cons_self ..))]
    intro r' hr'; rw [xin_length]; exact h r' (List.mem_cons_of_mem _ hr')
theorem pxor_getD (rs : List (List UInt8)) (i : Nat) : (pxor rs).getD i 0 = col rs i := by
  unfold pxor col
  rw [foldl_xin_getD]
  · congr 1
    by_cases h : i < mxl rs <;> simp [List.getD, h]
  · intro r hr; rw [List.length_replicate]; exact le_mxl hr
end Go.Proofs.Ytldkldmjcacopaa
