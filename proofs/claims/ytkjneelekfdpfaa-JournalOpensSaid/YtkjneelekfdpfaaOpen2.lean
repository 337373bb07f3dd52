/- Arguments that are slices of structs. -/
import Derived.Test.YtkjneelekfdpfaaOpen
import Derived.Test.YtkjneelekfdpfaaRecV
namespace Go.Proofs.Ytkjneelekfdpfaa
open Go Go.ChangeShapes Go.WideShapes Go.ChangeAt Go.RowKit
set_option linter.unusedVariables false
section
variable {H : Type} {enc : TypeId × Value → H} {P : Program} {W : World} {r : Reach} {b0 : Nat} {v : Value} {d : DataW H} {ps : List MemPlace}
/-- What is read as a type e: these cells. -/
def Rd (enc : TypeId × Value → H) (P : Program) (W : World) (e : TypeId) (cs : List Value) : Prop := ∃ n y, DataW.trod enc P W 0 (fun _ => true) true n e cs = some y
theorem rd_field {t : TypeId} {fs : Array Field} {cs : List Value} (ht : P.underlying t = some (.struct fs)) (h : Rd enc P W t cs) {i : Nat} {f : Field} (hf : fs[i]? = some f) : Rd enc P W f.type ((cs.drop f.offset).take (P.cellsOf f.type)) := by
  obtain ⟨n, y, h⟩ := h
  obtain ⟨xs, m, _, _, _, hl, hx⟩ := DataW.trod_struct ht h
  have h1 := hx i f hf
  have hi : i < fs.size := (Array.getElem?_eq_some_iff.1 hf).1
  rw [List.getElem?_eq_getElem (by omega)] at h1
  exact ⟨m, _, h1⟩
theorem rd_len {t : TypeId} {fs : Array Field} {cs : List Value} (ht : P.underlying t = some (.struct fs)) (h : Rd enc P W t cs) : cs.length = P.cellsOf t := by
  obtain ⟨n, y, h⟩ := h
  obtain ⟨xs, m, _, _, hl, _⟩ := DataW.trod_struct ht h
  exact hl
theorem rd_int {t : TypeId} {k : IntKind} {cs : List Value} (ht : P.underlying t = some (.int k)) (h : Rd enc P W t cs) : ∃ n, cs = [.int k n] ∧ k.min ≤ n ∧ n ≤ k.max := by
  obtain ⟨m, y, h⟩ := h
  obtain ⟨n, h1, _, h2⟩ := DataW.trod_int ht h
  simp only [Lit.wf, Bool.and_eq_true, decide_eq_true_eq] at h2
  exact ⟨n, h1, h2⟩
theorem rd_i64 {t : TypeId} {cs : List Value} (ht : P.underlying t = some (.int .i64)) (h : Rd enc P W t cs) : ∃ n, cs = [I64 n] ∧ -9223372036854775808 ≤ n ∧ n ≤ 9223372036854775807 := rd_int ht h
theorem rd_u8 {t : TypeId} {cs : List Value} (ht : P.underlying t = some (.int .u8)) (h : Rd enc P W t cs) : ∃ x : UInt8, cs = [B8 x] := by
  obtain ⟨m, y, h⟩ := h
  obtain ⟨n, h1, _, h2⟩ := DataW.trod_int ht h
  exact ⟨u8 n, by rw [h1, u8_wf h2]⟩
theorem rd_bool {t : TypeId} {cs : List Value} (ht : P.underlying t = some .bool) (h : Rd enc P W t cs) : ∃ b : Bool, cs = [.bool b] := by
  obtain ⟨m, y, h⟩ := h
  obtain ⟨b, h1, _⟩ := DataW.trod_bool ht h
  exact ⟨b, h1⟩
theorem adda (a : Addr) (p q : Nat) : (a.add p).add q = a.add (p + q) := by
  unfold Addr.add
  by_cases hp : p = 0 <;> by_cases hq : q = 0 <;> simp_all [Nat.add_assoc]
/-- A slice of whatever reads as records. -/
theorem rd_recs {α : Type} {t e : TypeId} {s : Nat} {R : Im → List Value → α → Prop} {cs : List Value} (ht : P.underlying t = some (.slice e)) (ce : P.cellsOf e = s) (hs : 0 < s) (hR : ∀ cs, Rd enc P W e cs → ∃ x, R (atStart W) cs x) (h : Rd enc P W t cs) :
    ∃ u xs, cs = [u] ∧ RecV s R (atStart W) u xs := by
  obtain ⟨m, y, h⟩ := h
  rcases DataW.trod_slice ht h with ⟨h1, _⟩ | ⟨a, k, c, elems, rest, n, _, h1, _, _, hl, hm, hlen, hel, _⟩
  · exact ⟨_, [], h1, RecV.nil⟩
  · have each : ∀ i, i < k → ∃ cx : List Value × α, cx.1.length = s ∧ R (atStart W) cx.1 cx.2 ∧ ∀ f, f < s → W.cell? (a.add (i * s + f)) = cx.1[f]? := fun i hi => by
      have h2 := hel i hi
      rw [ce, List.getElem?_eq_getElem (by omega), Option.bind_eq_some_iff] at h2
      obtain ⟨cs', hcs, hy⟩ := h2
      obtain ⟨_, hl', hc'⟩ := World.cells?_some hcs
      obtain ⟨x, hx⟩ := hR cs' ⟨n, _, hy⟩
      refine ⟨(cs', x), hl', hx, fun f hf => ?_⟩
      rw [← hc' f hf, adda]
    refine ⟨.slice (some a) k c, ?_⟩
    have build : ∀ k', k' ≤ k → ∃ (L : List Value) (xs : List α), xs.length = k' ∧ Recs s (R (atStart W)) L xs ∧ ∀ j, j < k' * s → W.cell? (a.add j) = L[j]? := by
      intro k'
      induction k' with
      | zero => exact fun _ => ⟨[], [], rfl, Recs.nil, fun j hj => by simp at hj⟩
      | succ k' ih =>
        intro hk'
        obtain ⟨L, xs, hx, hr, hc⟩ := ih (by omega)
        obtain ⟨⟨cs', x⟩, e1, e2, e3⟩ := each k' (by omega)
        refine ⟨L ++ cs', xs ++ [x], by simp [hx], hr.append (Recs.one e1 e2), fun j hj => ?_⟩
        have hL : L.length = k' * s := by rw [hr.1, hx]
        by_cases hjk : j < k' * s
        · rw [List.getElem?_append_left (by rw [hL]; exact hjk)]; exact hc j hjk
        · rw [List.getElem?_append_right (by rw [hL]; omega), hL]
          rw [Nat.add_mul, Nat.one_mul] at hj
          have := e3 (j - k' * s) (by omega)
          rwa [show k' * s + (j - k' * s) = j by omega] at this
    obtain ⟨L, xs, hx, hr, hc⟩ := build k (Nat.le_refl k)
    refine ⟨xs, h1, L, ?_, hr⟩
    rw [hx]
    have hL : L.length = k * s := by rw [hr.1, hx]
    refine ⟨some a, c, rfl, hl, hm, ?_⟩
    by_cases hk0 : L = []
    · exact .inl ⟨hk0, by simp⟩
    · have hpos : 0 < L.length := List.length_pos_iff.2 hk0
      have h0 := hc 0 (by rw [← hL]; exact hpos)
      rw [List.getElem?_eq_getElem hpos] at h0
      have hsp := World.cell?_spot h0
      obtain ⟨b, o, sp⟩ := a
      simp only [Addr.add] at hsp
      subst hsp
      exact .inr ⟨b, o, rfl, fun j x hj => cel_at (by
        have hlt : j < L.length := (List.getElem?_eq_some_iff.1 hj).1
        have := hc j (by rw [← hL]; exact hlt)
        rw [addr_add] at this
        rw [this]; exact hj)⟩
def ByteR (G : Im) (c : List Value) (x : UInt8) : Prop := c = [B8 x]
theorem recs_bytes {G : Im} {L : List Value} {xs : List UInt8} (h : Recs 1 (ByteR G) L xs) : L = xs.map B8 := by
  apply List.ext_getElem?
  intro j
  by_cases hj : j < xs.length
  · obtain ⟨c, hc, _, hf⟩ := h.at j hj
    have := hf 0 (by omega)
    rw [hc] at this
    simp at this
    rw [this]; simp [hj]
  · have h1 := h.1
    rw [List.getElem?_eq_none (by omega), List.getElem?_eq_none (by simp; omega)]
theorem rd_bytes {t e : TypeId} {cs : List Value} (ht : P.underlying t = some (.slice e)) (he : P.underlying e = some (.int .u8)) (hc : P.cellsOf e = 1) (h : Rd enc P W t cs) : ∃ (u : Value) (xs : List UInt8), cs = [u] ∧ SV (atStart W) [] u xs.length (xs.map B8) := by
  obtain ⟨u, xs, h1, L, h2, h3⟩ := rd_recs (R := ByteR) ht hc (by decide) (fun cs h => rd_u8 he h) h
  exact ⟨u, xs, h1, by rw [← recs_bytes h3]; exact h2⟩
/-- An argument that reads. -/
theorem arg_rd {t : TypeId} (hd : DataW.Trod enc P W 0 (fun _ => true) true t v d ps) : Rd enc P W t v.cells.toList := let ⟨n, h⟩ := hd; ⟨n, _, h⟩
theorem arg_recs {α : Type} {t e : TypeId} {s : Nat} {R : Im → List Value → α → Prop} (ht : P.underlying t = some (.slice e)) (ce : P.cellsOf e = s) (hs : 0 < s) (hR : ∀ cs, Rd enc P W e cs → ∃ x, R (atStart W) cs x) (hval : Value.okWide P W r b0 t v) (hd : DataW.Trod enc P W 0 (fun _ => true) true t v d ps) :
    ∃ xs, RecV s R (atStart W) v xs := by
  obtain ⟨a, k, c, rfl⟩ := okWide_slice ht hval
  obtain ⟨u, xs, h1, h2⟩ := rd_recs ht ce hs hR (arg_rd hd)
  have h1 : Value.slice a k c = u := by simpa [Value.cells] using h1
  subst h1
  exact ⟨xs, h2⟩
end
section
variable {w0 : World} {G : Im} {H R' : Hp} {n : Nat} {ds : List Deferred} {env : Env} {P : Program} {Q : Exit → Act → World → Prop} {x y : Code}
theorem v_neq_same {dst : Option Tmp} {ty : TypeId} {pos : String} {aft : Array Edge} {g : Option (Nat × Bool)} {x y : Operand} {t t' : TypeId} {k : IntKind} {p : Int} (hx : ev env x = some (.int k p)) (hy : ev env y = some (.int k p)) :
    Val P env G H ⟨dst, .binOp .neq t x y t', ty, pos, aft, g⟩ (.bool false) := by
  have := v_neq (P := P) (env := env) (G := G) (H := H) (dst := dst) (t := t) (t' := t') (ty := ty) (pos := pos) (aft := aft) (g := g) hx hy
  rwa [decide_eq_false (fun h => h rfl)] at this
theorem c_perm {H' : Hp} {R : Act → World → Prop} (hp : H.Perm H') (h : Holds n ds w0 env G H' R) : Holds n ds w0 env G H R := fun a w ht hs => h a w ht (hs.perm hp)
/-- What comes behind is walked once, from whatever state its beginning leaves. -/
theorem c_cut {α : Type} (env' : α → Env) (G' : α → Im) (H' : α → Hp) (inv : α → Prop)
    (hx : Holds n ds w0 env G H (x.wp P (Exit.then (fun a w => ∃ z, inv z ∧ TT a n ds (env' z) ∧ Sat w0 w (G' z) (H' z)) Q)))
    (hy : ∀ z, inv z → Holds n ds w0 (env' z) (G' z) (H' z) (y.wp P Q)) : Holds n ds w0 env G H ((Code.seq x y).wp P Q) := fun a w ht hs => by
  refine wp_seq (wp_mono (hx a w ht hs) fun e a' w' h => ?_)
  cases e with
  | normal => obtain ⟨z, hz, ht', hs'⟩ := h; exact hy z hz a' w' ht' hs'
  | _ => exact h
theorem l_mid {α : Type} {env' : α → Env} {G' : α → Im} {H' : α → Hp} {inv : α → Prop} (z : α) (hz : inv z) (he : Env.sub env (env' z)) (hG : G' z = G) (hsp : Split H (H' z) R') :
    Holds n ds w0 env G H (fun a w => ∃ z, inv z ∧ TT a n ds (env' z) ∧ Sat w0 w (G' z) (H' z)) := fun a w ht hs => ⟨z, hz, ht.mono (Env.sub_spec he), by rw [hG]; exact hs.only hsp⟩
end
end Go.Proofs.Ytkjneelekfdpfaa
