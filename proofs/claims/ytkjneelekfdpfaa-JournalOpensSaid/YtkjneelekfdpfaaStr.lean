/- Strings: from bytes, to bytes, compared, how long. -/
import Derived.Test.YtkjneelekfdpfaaEye1
import Derived.Laws.IdiomStrings
import Derived.Laws.Strings
import Derived.Test.YtkjneelekfdpfaaOps7
namespace Go.Proofs.Ytkjneelekfdpfaa
open Go
set_option linter.unusedVariables false
set_option linter.unusedSimpArgs false

variable {w0 w : World} {G G' : Im} {H H' H1 : Hp} {m d : Nat}
variable {n : Nat} {ds : List Deferred} {env : Env} {P : Program} {Q : Exit → Act → World → Prop} {ops : Array Oper} {K : Act → World → Prop}
variable {dst : Option Tmp} {ty : TypeId} {pos : String} {aft : Array Edge} {g : Option (Nat × Bool)}

/-- A text. -/
abbrev St (xs : List UInt8) : Value := .string ⟨xs.toArray⟩
def strB (P : Program) (t : TypeId) : Bool := match P.underlying t with
  | some .string => true
  | _ => false
theorem strB_spec {t : TypeId} (h : strB P t = true) : P.underlying t = some .string := by
  unfold strB at h; split at h
  · assumption
  · cases h
def bysB (P : Program) (t : TypeId) : Option TypeId := match P.underlying t with
  | some (.slice e) => if u8B P e then some e else none
  | _ => none
theorem bysB_spec {t e : TypeId} (h : bysB P t = some e) : P.underlying t = some (.slice e) ∧ P.underlying e = some (.int .u8) := by
  unfold bysB at h
  split at h
  · rename_i e' hu
    split at h
    · rename_i h8; cases h; exact ⟨hu, u8B_spec h8⟩
    · cases h
  · cases h
theorem v_bstr (e : TypeId) {x : Operand} {s t : TypeId} {v : Value} {xs : List UInt8} (hx : ev env x = some v) (hv : SV G H v xs.length (xs.map B8)) (hs : bysB P s = some e) (ht' : strB P t = true) :
    Val P env G H ⟨dst, .convert s t x, ty, pos, aft, g⟩ (St xs) := fun a n ds w0 w ht hsat => by
  obtain ⟨h1, h2⟩ := bysB_spec hs
  have h3 := strB_spec ht'
  obtain ⟨ad, c, rfl, hc1, hc2, hc3⟩ := hv
  simp only [execOp, ht.eval hx]
  cases ad with
  | none =>
    have hx0 : xs = [] := by
      rcases hc3 with ⟨h, _⟩ | ⟨_, _, h, _⟩
      · simpa using h
      · cases h
    subst hx0
    rw [Sem.run_bind, run_convert_bytes_string w s t e _ _ _ h1 h2 h3]
    rfl
  | some a' =>
    rw [Sem.run_bind, run_convert_bytes_back w s t e a' c xs h1 h2 h3 (fun j hj => ?_)]
    · rfl
    · rcases hc3 with ⟨h, _⟩ | ⟨b, o, h, hcel⟩
      · have : xs = [] := by simpa using h
        subst this; simp at hj
      · cases h
        have := (hcel j (B8 xs[j]) (by simp [hj])).cell hsat
        have e1 : (⟨b, o, none⟩ : Addr).add j = ⟨b, o + j, none⟩ := by (by_cases h0 : j = 0 <;> simp [Addr.add, h0])
        rw [e1]; exact this
theorem v_strlen {x : Operand} {t : TypeId} {xs : List UInt8} (hx : ev env x = some (St xs)) (hu : strB P t = true) :
    Val P env G H ⟨dst, .call { callee := .builtin .len, args := #[x], argTypes := #[t] }, ty, pos, aft, g⟩ (I64 (xs.length : Int)) := fun a n ds w0 w ht hs => by
  have h1 := run_len_string w t ty ⟨xs.toArray⟩ (strB_spec hu)
  have h2 : (⟨xs.toArray⟩ : ByteArray).size = xs.length := by simp [ByteArray.size]
  rw [h2] at h1
  simp only [execOp, resolve, invoke, builtin]
  simp [builtin, invoke, ht.eval hx, h1, goInt]
theorem v_streql {x y : Operand} {t t' : TypeId} {xs ys : List UInt8} (hx : ev env x = some (St xs)) (hy : ev env y = some (St ys)) :
    Val P env G H ⟨dst, .binOp .eql t x y t', ty, pos, aft, g⟩ (.bool (decide (xs = ys))) := fun a n ds w0 w ht hs => by
  have e : (xs == ys) = decide (xs = ys) := by
    by_cases h : xs = ys <;> simp [h]
  simp [execOp, eqGuard, binOp, Op.stringOp, ht.eval hx, ht.eval hy, e]
theorem v_strneq {x y : Operand} {t t' : TypeId} {xs ys : List UInt8} (hx : ev env x = some (St xs)) (hy : ev env y = some (St ys)) :
    Val P env G H ⟨dst, .binOp .neq t x y t', ty, pos, aft, g⟩ (.bool (decide (¬ xs = ys))) := fun a n ds w0 w ht hs => by
  have e : (xs == ys) = decide (xs = ys) := by
    by_cases h : xs = ys <;> simp [h]
  simp [execOp, eqGuard, binOp, Op.stringOp, ht.eval hx, ht.eval hy, bne, e]
theorem s_strb (e : TypeId) {x : Operand} {s t : TypeId} {xs : List UInt8} (hx : ev env x = some (St xs)) (hs : strB P s = true) (ht' : bysB P t = some e) (hm : xs.length ≤ maxLen) (hg : gOn ops env ⟨some d, .convert s t x, ty, pos, aft, g⟩ = some true) (hd : Nat.blt d n = true)
    (k : ∀ G' v, Im.le G G' → EB G' v xs → Holds n ds w0 ((d, v) :: env) G' H K) :
    Holds n ds w0 env G H (stepK P ops Q ⟨some d, .convert s t x, ty, pos, aft, g⟩ K) := by
  obtain ⟨h1, h2⟩ := bysB_spec ht'
  have h3 := strB_spec hs
  refine s_eff (Φ := fun u w' => ∃ G', Im.le G G' ∧ EB G' u xs ∧ Sat w0 w' G' H) hg rfl hd (fun a n ds w ht hsat => ?_) (fun u w' ⟨G', hG', hu, hs⟩ => (k G' u hG' hu).atw hs)
  have hrun := run_bytes_of_string (P := P) w s t e ⟨xs.toArray⟩ h3 h1 h2
  have h2 : (⟨xs.toArray⟩ : ByteArray).size = xs.length := by simp [ByteArray.size]
  rw [h2] at hrun
  have hge := grownCap_ge w xs.length 0 e
  have hcm := grownCap_le_maxLen w xs.length 0 e hm
  have ha := (hsat.drew).alloc (.cells (bytesRow ⟨xs.toArray⟩ (grownCap w xs.length 0 e)) e ((bytesRow ⟨xs.toArray⟩ (grownCap w xs.length 0 e)).size, (bytesRow ⟨xs.toArray⟩ (grownCap w xs.length 0 e)).size + 1))
  have hsz : w.drew.heap.size = w.heap.size := rfl
  rw [hsz] at ha
  refine ⟨_, _, by simp only [execOp, ht.eval hx]; rw [Sem.run_bind, hrun]; rfl, _, Im.le_add (ha.sep _ (List.mem_cons_self ..)), ⟨some ⟨w.heap.size, 0, none⟩, grownCap w xs.length 0 e, rfl, hge, hcm, .inr ⟨_, _, rfl, fun j u hj => ⟨_, _, _, .inl (Im.add_self _ _ _), ?_⟩⟩⟩, ha.freeze⟩
  have hj' : j < xs.length := by
    have := (List.getElem?_eq_some_iff.1 hj).1
    simpa using this
  simp only [List.getElem?_map] at hj
  simp only [bytesRow, Nat.zero_add]
  rw [Array.getElem?_append_left (by simpa using hj')]
  simpa using hj
end Go.Proofs.Ytkjneelekfdpfaa
