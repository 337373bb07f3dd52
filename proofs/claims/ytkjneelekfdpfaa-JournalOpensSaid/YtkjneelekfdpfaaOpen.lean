/- The arguments that a law is given, as slots and memory that nobody writes. -/
import Derived.Test.YtkjneelekfdpfaaAppend
import Derived.ProofKit
import Derived.OpenShut
import Derived.Deep.Matrix
namespace Go.Proofs.Ytkjneelekfdpfaa
open Go Go.ChangeShapes Go.WideShapes Go.ChangeAt Go.RowKit
set_option linter.unusedVariables false

/-- The memory a law finds. -/
def atStart (W : World) : Im := fun b => W.heap[b]?
theorem cel_at {W : World} {b o : Nat} {v : Value} (h : W.cell? ⟨b, o, none⟩ = some v) : Cel (atStart W) [] b o v := by
  simp only [World.cell?] at h
  split at h
  · rename_i c t fz hb
    exact ⟨c, t, fz, .inl hb, by simpa using h⟩
  · cases h
theorem sv_at {W : World} {ad : Option Addr} {k c : Nat} {L : List Value} (hk : k ≤ c) (hc : c ≤ maxLen) (hn : ad = none → c = 0) (hl : L.length = k) (h : ∀ a, ad = some a → ∀ (j : Nat) u, L[j]? = some u → W.cell? (a.add j) = some u) :
    SV (atStart W) [] (.slice ad k c) k L := by
  refine ⟨ad, c, rfl, hk, hc, ?_⟩
  cases L with
  | nil => exact .inl ⟨rfl, hn⟩
  | cons u r =>
    cases ad with
    | none => have := hn rfl; simp at hl; omega
    | some a =>
      have h0 := h a rfl 0 u rfl
      have hs := World.cell?_spot h0
      obtain ⟨b, o, s⟩ := a
      simp only [Addr.add] at hs
      subst hs
      exact .inr ⟨b, o, rfl, fun j x hj => cel_at (by have := h _ rfl j x hj; rwa [addr_add] at this)⟩

/-- A number as a byte. -/
def u8 (n : Int) : UInt8 := UInt8.ofNat n.toNat
theorem u8_wf {n : Int} (h : (Lit.int .u8 n).wf = true) : .int .u8 n = B8 (u8 n) := by
  have h1 : 0 ≤ n ∧ n ≤ 255 := by
    simp only [Lit.wf, Bool.and_eq_true, decide_eq_true_eq] at h
    have a : IntKind.min .u8 = 0 := rfl
    have b : IntKind.max .u8 = 255 := rfl
    omega
  have h2 : ((u8 n).toNat : Int) = n := by
    simp [u8]; omega
  show Value.int .u8 n = Value.int .u8 ((u8 n).toNat : Int)
  rw [h2]

section
variable {H : Type} {enc : TypeId × Value → H} {P : Program} {W : World} {r : Reach} {b0 : Nat} {v : Value} {d : DataW H} {ps : List MemPlace}
theorem arg_int {t : TypeId} {k : IntKind} (ht : P.underlying t = some (.int k)) (hval : Value.okWide P W r b0 t v) (hd : DataW.Trod enc P W 0 (fun _ => true) true t v d ps) : ∃ n, v = .int k n ∧ k.min ≤ n ∧ n ≤ k.max := by
  obtain ⟨n, h1, _, _, h2⟩ := open_int ht hval hd
  simp only [Lit.wf, Bool.and_eq_true, decide_eq_true_eq] at h2
  exact ⟨n, h1, h2⟩
theorem arg_i64 {t : TypeId} (ht : P.underlying t = some (.int .i64)) (hval : Value.okWide P W r b0 t v) (hd : DataW.Trod enc P W 0 (fun _ => true) true t v d ps) : ∃ n, v = I64 n ∧ -9223372036854775808 ≤ n ∧ n ≤ 9223372036854775807 := arg_int ht hval hd
theorem arg_u8 {t : TypeId} (ht : P.underlying t = some (.int .u8)) (hval : Value.okWide P W r b0 t v) (hd : DataW.Trod enc P W 0 (fun _ => true) true t v d ps) : ∃ x : UInt8, v = B8 x := by
  obtain ⟨n, h1, _, _, h2⟩ := open_int ht hval hd
  exact ⟨u8 n, by rw [h1, u8_wf h2]⟩
theorem arg_bytes {t e : TypeId} (ht : P.underlying t = some (.slice e)) (he : P.underlying e = some (.int .u8)) (hc : P.cellsOf e = 1) (hval : Value.okWide P W r b0 t v) (hd : DataW.Trod enc P W 0 (fun _ => true) true t v d ps) :
    ∃ xs : List UInt8, SV (atStart W) [] v xs.length (xs.map B8) := by
  obtain ⟨a, k, c, rfl⟩ := okWide_slice ht hval
  obtain ⟨fuel, hf⟩ := hd
  rcases open_ints ht he hc hf with ⟨h1, _⟩ | ⟨a', k', c', zs, h1, _, hl, hm, hz, _, hcell, hw⟩
  · have h1 : Value.slice a k c = .slice none 0 0 := by simpa [Value.cells] using h1
    cases h1
    exact ⟨[], SV.nil _ _⟩
  · have h1 : Value.slice a k c = .slice (some a') k' c' := by simpa [Value.cells] using h1
    cases h1
    simp only [if_true] at hz
    have hlen : ((zs.take k).map u8).length = k := by simp; omega
    refine ⟨(zs.take k).map u8, ?_⟩
    rw [hlen]
    refine sv_at hl hm (by simp) (by simpa using hlen) fun a ha j u hj => ?_
    cases ha
    simp only [List.map_map, List.getElem?_map, List.getElem?_take] at hj
    by_cases hjk : j < k
    · rw [if_pos hjk, List.getElem?_eq_getElem (by omega)] at hj
      have hj : B8 (u8 zs[j]) = u := by simpa using hj
      rw [hcell j (by omega), ← hj, ← u8_wf (hw _ (List.getElem_mem (by omega)))]
      simp [List.getD, show j < zs.length by omega]
    · rw [if_neg hjk] at hj; cases hj
theorem arg_rows {t e q : TypeId} (ht : P.underlying t = some (.slice e)) (he : P.underlying e = some (.slice q)) (hq : P.underlying q = some (.int .u8)) (ce : P.cellsOf e = 1) (cq : P.cellsOf q = 1)
    (hval : Value.okWide P W r b0 t v) (hd : DataW.Trod enc P W 0 (fun _ => true) true t v d ps) :
    ∃ (vs : List Value) (rs : List (List UInt8)), SV (atStart W) [] v vs.length vs ∧ vs.length = rs.length ∧ ∀ (j : Nat) x s, vs[j]? = some x → rs[j]? = some s → SV (atStart W) [] x s.length (s.map B8) := by
  obtain ⟨a, k, c, rfl⟩ := okWide_slice ht hval
  obtain ⟨fuel, hf⟩ := hd
  rcases Go.Deep.open_int_rows ht he hq ce cq hf with ⟨h1, _⟩ | ⟨a', k', c', A, L, C, Z, h1, _, hl, hm, _, hr⟩
  · have h1 : Value.slice a k c = .slice none 0 0 := by simpa [Value.cells] using h1
    cases h1
    exact ⟨[], [], SV.nil _ _, rfl, fun j x s hx => by simp at hx⟩
  · have h1 : Value.slice a k c = .slice (some a') k' c' := by simpa [Value.cells] using h1
    cases h1
    refine ⟨(List.range k).map fun r => .slice (A r) (L r) (C r), (List.range k).map fun r => ((Z r).take (L r)).map u8, ?_, by simp, fun j x s hx hs => ?_⟩
    · rw [List.length_map, List.length_range]
      refine sv_at hl hm (by simp) (by simp) fun a ha j u hj => ?_
      cases ha
      have hjk : j < k := by have := (List.getElem?_eq_some_iff.1 hj).1; simpa using this
      rw [(hr j (by omega)).1]
      simpa [hjk] using hj
    · have hjk : j < k := by have := (List.getElem?_eq_some_iff.1 hx).1; simpa using this
      obtain ⟨_, g1, g2, g3, g4, g5, g6⟩ := hr j (by omega)
      have ex : Value.slice (A j) (L j) (C j) = x := by simpa [hjk] using hx
      have es : ((Z j).take (L j)).map u8 = s := by simpa [hjk] using hs
      subst ex es
      have hlen : (((Z j).take (L j)).map u8).length = L j := by simp; omega
      rw [hlen]
      refine sv_at g1 g2 g5 (by simpa using hlen) fun a ha i u hi => ?_
      have hil : i < L j := by have := (List.getElem?_eq_some_iff.1 hi).1; simpa [g3, Nat.min_eq_left g1] using this
      rw [(g6 a ha).2 i (by omega)]
      have hi : B8 (u8 ((Z j)[i]'(by omega))) = u := by simpa [List.getElem?_take, hil, show i < (Z j).length by omega] using hi
      rw [← hi, ← u8_wf (g4 _ (List.getElem_mem (by omega)))]
      simp [List.getD, show i < (Z j).length by omega]
end
end Go.Proofs.Ytkjneelekfdpfaa
