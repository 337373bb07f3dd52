/- One rule for each operation, over Base. -/
import Derived.Test.YtkjneelekfdpfaaBase
namespace Go.Proofs.Ytkjneelekfdpfaa
open Go
set_option linter.unusedVariables false
set_option linter.unusedSimpArgs false

abbrev Cs (L : List Value) (t : TypeId) : Obj := .cells L.toArray t (0, 0)
abbrev B8 (x : UInt8) : Value := .int .u8 (x.toNat : Int)
abbrev I64 (x : Int) : Value := .int .i64 x
abbrev Pt (b o : Nat) : Value := .pointer (some ⟨b, o, none⟩)
abbrev Sl (b o k c : Nat) : Value := .slice (some ⟨b, o, none⟩) k c

def aggB (P : Program) (t : TypeId) : Option Bool := (P.underlying t).map fun | .struct _ | .array _ _ => true | _ => false
def slB (P : Program) (t : TypeId) : Bool := match P.underlying t with
  | some (.slice _) => true
  | _ => false
theorem slB_spec {P : Program} {t : TypeId} (h : slB P t = true) : ∃ e, P.underlying t = some (.slice e) := by
  unfold slB at h; split at h
  · exact ⟨_, by assumption⟩
  · cases h
/-- Where a struct's field lies. -/
def offB (P : Program) (s : TypeId) (i : Nat) : Option Nat := match P.underlying s with
  | some (.struct fs) => match fs[i]? with
    | some f => match (P.info? f.type).map (·.size) with
      | some (_ + 1) => some f.offset
      | _ => none
    | none => none
  | _ => none
/-- How many cells an element of a slice has. -/
def elB (P : Program) (t : TypeId) : Option Nat := match P.underlying t with
  | some (.slice e) => (P.info? e).map (·.size)
  | _ => none
def szB (P : Program) (t : TypeId) : Option Nat := (P.info? t).map (·.size)

/-- What make wants to know of a slice's type. -/
def mkB (P : Program) (t : TypeId) : Option (TypeId × Value × Nat × Nat) := match P.underlying t with
  | some (.slice e) => match P.info? e with
    | some i => match i.zero with
      | some z => some (e, z, i.size, i.bytes)
      | none => none
    | none => none
  | _ => none
theorem mkB_spec {P : Program} {t e : TypeId} {z : Value} {s bs : Nat} (h : mkB P t = some (e, z, s, bs)) : ∃ i, P.underlying t = some (.slice e) ∧ P.info? e = some i ∧ i.zero = some z ∧ i.size = s ∧ i.bytes = bs := by
  unfold mkB at h
  split at h
  · rename_i e' hu
    split at h
    · rename_i i hi
      split at h
      · rename_i z' hz; cases h; exact ⟨i, hu, hi, hz, rfl, rfl⟩
      · cases h
    · cases h
  · cases h
theorem offB_spec {P : Program} {s : TypeId} {i off : Nat} (h : offB P s i = some off) : ∃ fs f sz, P.underlying s = some (.struct fs) ∧ fs[i]? = some f ∧ szB P f.type = some sz ∧ sz ≠ 0 ∧ off = f.offset := by
  unfold offB at h
  split at h
  · rename_i fs hu
    split at h
    · rename_i f hf
      split at h
      · rename_i k hk; cases h; exact ⟨fs, f, _, hu, hf, hk, by simp, rfl⟩
      · cases h
    · cases h
  · cases h
theorem elB_spec {P : Program} {t : TypeId} {sz : Nat} (h : elB P t = some sz) : ∃ e, P.underlying t = some (.slice e) ∧ szB P e = some sz := by
  unfold elB at h
  split at h
  · exact ⟨_, by assumption, h⟩
  · cases h
section
variable {P : Program} {w : World}
theorem run_isAgg' {t : TypeId} {β : Bool} (h : aggB P t = some β) : (isAgg t).run P w = .ok β w := by
  unfold aggB at h
  cases hu : P.underlying t with
  | none => simp [hu] at h
  | some d =>
    unfold isAgg
    rw [Sem.run_bind, run_underlying hu w]
    simp only [hu, Option.map_some, Option.some.injEq] at h
    subst h
    cases d <;> rfl
theorem run_sizeOf' {t : TypeId} {s : Nat} (h : szB P t = some s) : (sizeOf t).run P w = .ok s w := by
  unfold szB at h
  cases hi : P.info? t with
  | none => simp [hi] at h
  | some i =>
    have hs : i.size = s := by simpa [hi] using h
    simp [sizeOf, typeInfo, hi, hs]
end

theorem of_blt {a b : Nat} (h : Nat.blt a b = true) : a < b := by simpa using h
theorem addr_add (b o n : Nat) : Addr.add ⟨b, o, none⟩ n = ⟨b, o + n, none⟩ := Addr.add_lit b o n

variable {w0 w : World} {G G' : Im} {H H' R' : Hp}
variable {n : Nat} {ds : List Deferred} {env : Env} {P : Program} {Q : Exit → Act → World → Prop} {R : Act → World → Prop} {ops : Array Oper} {rest : List Oper} {K : Act → World → Prop}

/-- The guard of an operation, as far as the environment tells it. -/
def boolOf : Value → Option Bool
  | .bool b => some b
  | _ => none
def gOn (ops : Array Oper) (env : Env) (o : Oper) : Option Bool :=
  match o.guard with
  | none => some true
  | some (j, want) => match (ops[j]?).bind (·.dst) with
    | none => none
    | some d => match env.lookup d with
      | none => none
      | some v => some (boolOf v == some want)
theorem gOn_spec {o : Oper} {a : Act} {β : Bool} (ht : TT a n ds env) (h : gOn ops env o = some β) : Region.wanted o (yielded ops a.tmps) = β := by
  unfold gOn at h
  unfold Region.wanted
  cases hg : o.guard with
  | none => simp only [hg, Option.some.injEq] at h; simp [← h]
  | some jw =>
    obtain ⟨j, want⟩ := jw
    simp only [hg] at h
    cases hd : (ops[j]?).bind (·.dst) with
    | none => simp [hd] at h
    | some d =>
      simp only [hd] at h
      cases hl : env.lookup d with
      | none => simp [hl] at h
      | some v =>
        simp only [hl, Option.some.injEq] at h
        have := ht.get d v hl
        simp only [yielded, hd, Option.bind_some, this]
        rw [← h]
        cases v <;> rfl

/-- One operation of a list or region, and what follows. -/
def stepK (P : Program) (ops : Array Oper) (Q : Exit → Act → World → Prop) (o : Oper) (K : Act → World → Prop) (a : Act) (w : World) : Prop :=
  if Region.wanted o (yielded ops a.tmps) then o.wp P a w K Q ∨ (o.asks P a w ∧ LetsOut Q) else K (a.put o.dst undef) w
theorem c_cons {o : Oper} (h : Holds n ds w0 env G H (stepK P ops Q o (wpList P ops Q rest))) : Holds n ds w0 env G H (wpList P ops Q (o :: rest)) := fun a w ht hs => h a w ht hs

/-- In whatever state that is so, o yields v and does nothing else. -/
def Val (P : Program) (env : Env) (G : Im) (H : Hp) (o : Oper) (v : Value) : Prop :=
  ∀ (a : Act) (n : Nat) (ds : List Deferred) (w0 w : World), TT a n ds env → Sat w0 w G H → (execOp a.eval o).run P w = .ok (.value v) w

theorem s_val {o : Oper} {d : Nat} {v : Value} (hv : Val P env G H o v) (hg : gOn ops env o = some true) (hdst : o.dst = some d) (hd : Nat.blt d n = true)
    (k : Holds n ds w0 ((d, v) :: env) G H K) : Holds n ds w0 env G H (stepK P ops Q o K) := fun a w ht hs => by
  unfold stepK
  rw [gOn_spec ht hg, if_pos rfl]
  refine .inl ?_
  unfold Oper.wp
  rw [hv a n ds w0 w ht hs, Oper.upon_value, hdst]
  exact k _ w (ht.put (of_blt hd) v) hs

theorem s_skip {o : Oper} {d : Nat} (hg : gOn ops env o = some false) (hdst : o.dst = some d) (hd : Nat.blt d n = true)
    (k : Holds n ds w0 ((d, undef) :: env) G H K) : Holds n ds w0 env G H (stepK P ops Q o K) := fun a w ht hs => by
  unfold stepK
  rw [gOn_spec ht hg, if_neg (by simp), hdst]
  exact k _ w (ht.put (of_blt hd) undef) hs
theorem s_skip0 {o : Oper} (hg : gOn ops env o = some false) (hdst : o.dst = none)
    (k : Holds n ds w0 env G H K) : Holds n ds w0 env G H (stepK P ops Q o K) := fun a w ht hs => by
  unfold stepK
  rw [gOn_spec ht hg, if_neg (by simp), hdst]
  exact k _ w ht hs

/-- o yields some value and leaves some world, of which Φ holds. -/
def Eff (P : Program) (w0 : World) (env : Env) (G : Im) (H : Hp) (o : Oper) (Φ : Value → World → Prop) : Prop :=
  ∀ (a : Act) (n : Nat) (ds : List Deferred) (w : World), TT a n ds env → Sat w0 w G H → ∃ v w', (execOp a.eval o).run P w = .ok (.value v) w' ∧ Φ v w'
theorem s_eff {o : Oper} {d : Nat} {Φ : Value → World → Prop} (hg : gOn ops env o = some true) (hdst : o.dst = some d) (hd : Nat.blt d n = true) (he : Eff P w0 env G H o Φ)
    (k : ∀ v w', Φ v w' → HoldsW n ds ((d, v) :: env) w' K) : Holds n ds w0 env G H (stepK P ops Q o K) := fun a w ht hs => by
  unfold stepK
  rw [gOn_spec ht hg, if_pos rfl]
  refine .inl ?_
  obtain ⟨v, w', hr, hp⟩ := he a n ds w ht hs
  unfold Oper.wp
  rw [hr, Oper.upon_value, hdst]
  exact k v w' hp _ (ht.put (of_blt hd) v)
/-- A store. -/
def Eff0 (P : Program) (w0 : World) (env : Env) (G : Im) (H : Hp) (o : Oper) (Φ : World → Prop) : Prop :=
  ∀ (a : Act) (n : Nat) (ds : List Deferred) (w : World), TT a n ds env → Sat w0 w G H → ∃ w', (execOp a.eval o).run P w = .ok .skip w' ∧ Φ w'
theorem s_eff0 {o : Oper} {Φ : World → Prop} (hg : gOn ops env o = some true) (hdst : o.dst = none) (he : Eff0 P w0 env G H o Φ)
    (k : ∀ w', Φ w' → HoldsW n ds env w' K) : Holds n ds w0 env G H (stepK P ops Q o K) := fun a w ht hs => by
  unfold stepK
  rw [gOn_spec ht hg, if_pos rfl]
  refine .inl ?_
  obtain ⟨w', hr, hp⟩ := he a n ds w ht hs
  unfold Oper.wp
  rw [hr, Oper.upon_skip, hdst]
  exact k w' hp _ ht

/-! ### What yields a value and does nothing else -/
section vals
variable {dst : Option Tmp} {ty : TypeId} {pos : String} {aft : Array Edge} {g : Option (Nat × Bool)}

theorem v_move {x : Operand} {v : Value} (hx : ev env x = some v) : Val P env G H ⟨dst, .move x, ty, pos, aft, g⟩ v := fun a n ds w0 w ht hs => by
  simp [execOp, ht.eval hx]
theorem v_assign {x : Operand} {v : Value} (hx : ev env x = some v) : Val P env G H ⟨dst, .assign x, ty, pos, aft, g⟩ v := fun a n ds w0 w ht hs => by
  simp [execOp, ht.eval hx]
theorem v_pick_t {c x y : Operand} {v : Value} (hc : ev env c = some (.bool true)) (hx : ev env x = some v) : Val P env G H ⟨dst, .pick c x y, ty, pos, aft, g⟩ v := fun a n ds w0 w ht hs => by
  simp [execOp, ht.eval hx, ht.eval hc, asBool]
theorem v_pick_f {c x y : Operand} {v : Value} (hc : ev env c = some (.bool false)) (hy : ev env y = some v) : Val P env G H ⟨dst, .pick c x y, ty, pos, aft, g⟩ v := fun a n ds w0 w ht hs => by
  simp [execOp, ht.eval hy, ht.eval hc, asBool]
theorem v_len {x : Operand} {t : TypeId} {ad : Option Addr} {k c : Nat} (hx : ev env x = some (.slice ad k c)) (hu : slB P t = true) :
    Val P env G H ⟨dst, .call { callee := .builtin .len, args := #[x], argTypes := #[t] }, ty, pos, aft, g⟩ (I64 k) := fun a n ds w0 w ht hs => by
  obtain ⟨e, hu⟩ := slB_spec hu
  simp [execOp, resolve, invoke, builtin, Builtin.len_, ht.eval hx, run_underlying hu, goInt]
theorem v_not {x : Operand} {t : TypeId} {β : Bool} (hx : ev env x = some (.bool β)) : Val P env G H ⟨dst, .unOp .not t x, ty, pos, aft, g⟩ (.bool (!β)) := fun a n ds w0 w ht hs => by
  simp [execOp, Op.unary, ht.eval hx]
theorem v_makeFunc {fn : Fn} {f c : List Operand} {vf vc : List Value} (hf : evl env f = some vf) (hc : evl env c = some vc) :
    Val P env G H ⟨dst, .makeFunc fn f.toArray c.toArray, ty, pos, aft, g⟩ (.func fn vf.toArray vc.toArray) := fun a n ds w0 w ht hs => by
  simp [execOp, Instr.makeFunc, ht.evall hf, ht.evall hc]
theorem v_extract {x : Operand} {i : Nat} {vs : Array Value} {v : Value} (hx : ev env x = some (.tuple vs)) (hi : vs[i]? = some v) : Val P env G H ⟨dst, .extract x i, ty, pos, aft, g⟩ v := fun a n ds w0 w ht hs => by
  simp [execOp, Instr.extract, ht.eval hx, hi]
theorem v_nilCheck {x : Operand} {ad : Addr} (hx : ev env x = some (.pointer (some ad))) : Val P env G H ⟨dst, .nilCheck x, ty, pos, aft, g⟩ (.pointer (some ad)) := fun a n ds w0 w ht hs => by
  simp [execOp, ht.eval hx]

/-! integers -/
theorem v_add {x y : Operand} {t t' : TypeId} {p q : Int} (hx : ev env x = some (I64 p)) (hy : ev env y = some (I64 q)) (hr : -9223372036854775808 ≤ p + q ∧ p + q ≤ 9223372036854775807) :
    Val P env G H ⟨dst, .binOp .add t x y t', ty, pos, aft, g⟩ (I64 (p + q)) := fun a n ds w0 w ht hs => by
  simp [execOp, eqGuard, binOp, Op.intArith, ht.eval hx, ht.eval hy, IntWalk.i64_in _ hr]
theorem v_sub {x y : Operand} {t t' : TypeId} {p q : Int} (hx : ev env x = some (I64 p)) (hy : ev env y = some (I64 q)) (hr : -9223372036854775808 ≤ p - q ∧ p - q ≤ 9223372036854775807) :
    Val P env G H ⟨dst, .binOp .sub t x y t', ty, pos, aft, g⟩ (I64 (p - q)) := fun a n ds w0 w ht hs => by
  simp [execOp, eqGuard, binOp, Op.intArith, ht.eval hx, ht.eval hy, IntWalk.i64_in _ hr]
theorem v_mul {x y : Operand} {t t' : TypeId} {p q : Int} (hx : ev env x = some (I64 p)) (hy : ev env y = some (I64 q)) (hr : -9223372036854775808 ≤ p * q ∧ p * q ≤ 9223372036854775807) :
    Val P env G H ⟨dst, .binOp .mul t x y t', ty, pos, aft, g⟩ (I64 (p * q)) := fun a n ds w0 w ht hs => by
  simp [execOp, eqGuard, binOp, Op.intArith, ht.eval hx, ht.eval hy, IntWalk.i64_in _ hr]
theorem v_rem {x y : Operand} {t t' : TypeId} {p q : Int} (hx : ev env x = some (I64 p)) (hy : ev env y = some (I64 q)) (hp : 0 ≤ p) (hq : 0 < q) :
    Val P env G H ⟨dst, .binOp .rem t x y t', ty, pos, aft, g⟩ (I64 (p % q)) := fun a n ds w0 w ht hs => by
  have h0 : ¬ q = 0 := by omega
  simp [execOp, eqGuard, binOp, Op.intDiv, ht.eval hx, ht.eval hy, h0, Int.tmod_eq_emod_of_nonneg hp]
theorem v_quo {x y : Operand} {t t' : TypeId} {p q : Int} (hx : ev env x = some (I64 p)) (hy : ev env y = some (I64 q)) (hp : 0 ≤ p ∧ p ≤ 9223372036854775807) (hq : 1 ≤ q) :
    Val P env G H ⟨dst, .binOp .quo t x y t', ty, pos, aft, g⟩ (I64 (p / q)) := fun a n ds w0 w ht hs => by
  have h0 : ¬ q = 0 := by omega
  simp [execOp, eqGuard, binOp, Op.intDiv, ht.eval hx, ht.eval hy, h0, IntWalk.i64_quo p q ⟨hp.1, hp.2, hq⟩]
theorem v_lss {x y : Operand} {t t' : TypeId} {k : IntKind} {p q : Int} (hx : ev env x = some (.int k p)) (hy : ev env y = some (.int k q)) :
    Val P env G H ⟨dst, .binOp .lss t x y t', ty, pos, aft, g⟩ (.bool (decide (p < q))) := fun a n ds w0 w ht hs => by
  simp [execOp, eqGuard, binOp, Op.intCmp, ht.eval hx, ht.eval hy]
theorem v_leq {x y : Operand} {t t' : TypeId} {k : IntKind} {p q : Int} (hx : ev env x = some (.int k p)) (hy : ev env y = some (.int k q)) :
    Val P env G H ⟨dst, .binOp .leq t x y t', ty, pos, aft, g⟩ (.bool (decide (p ≤ q))) := fun a n ds w0 w ht hs => by
  simp [execOp, eqGuard, binOp, Op.intCmp, ht.eval hx, ht.eval hy]
theorem v_gtr {x y : Operand} {t t' : TypeId} {k : IntKind} {p q : Int} (hx : ev env x = some (.int k p)) (hy : ev env y = some (.int k q)) :
    Val P env G H ⟨dst, .binOp .gtr t x y t', ty, pos, aft, g⟩ (.bool (decide (q < p))) := fun a n ds w0 w ht hs => by
  simp [execOp, eqGuard, binOp, Op.intCmp, ht.eval hx, ht.eval hy]
theorem v_geq {x y : Operand} {t t' : TypeId} {k : IntKind} {p q : Int} (hx : ev env x = some (.int k p)) (hy : ev env y = some (.int k q)) :
    Val P env G H ⟨dst, .binOp .geq t x y t', ty, pos, aft, g⟩ (.bool (decide (q ≤ p))) := fun a n ds w0 w ht hs => by
  simp [execOp, eqGuard, binOp, Op.intCmp, ht.eval hx, ht.eval hy]
theorem int_beq (p q : Int) : (p == q) = decide (p = q) := by by_cases h : p = q <;> simp [h]
theorem int_bne (p q : Int) : (p != q) = decide (¬ p = q) := by by_cases h : p = q <;> simp [h]
theorem v_eql {x y : Operand} {t t' : TypeId} {k : IntKind} {p q : Int} (hx : ev env x = some (.int k p)) (hy : ev env y = some (.int k q)) :
    Val P env G H ⟨dst, .binOp .eql t x y t', ty, pos, aft, g⟩ (.bool (decide (p = q))) := fun a n ds w0 w ht hs => by
  simp [execOp, eqGuard, binOp, Op.intCmp, ht.eval hx, ht.eval hy, int_beq]
theorem v_neq {x y : Operand} {t t' : TypeId} {k : IntKind} {p q : Int} (hx : ev env x = some (.int k p)) (hy : ev env y = some (.int k q)) :
    Val P env G H ⟨dst, .binOp .neq t x y t', ty, pos, aft, g⟩ (.bool (decide (¬ p = q))) := fun a n ds w0 w ht hs => by
  simp [execOp, eqGuard, binOp, Op.intCmp, ht.eval hx, ht.eval hy, int_bne]
theorem v_xor8 {x y : Operand} {t t' : TypeId} {p q : UInt8} (hx : ev env x = some (B8 p)) (hy : ev env y = some (B8 q)) :
    Val P env G H ⟨dst, .binOp .xor t x y t', ty, pos, aft, g⟩ (B8 (p ^^^ q)) := fun a n ds w0 w ht hs => by
  have h1 := u8_xor_nat p.toNat q.toNat p.toNat_lt q.toNat_lt
  have h2 : (binOp .xor t (B8 p) (B8 q)).run P w = .ok (.int .u8 (bits .xor .u8 (p.toNat : Int) (q.toNat : Int))) w := by
    simp [binOp, Op.intBits, bits]
  simp [execOp, eqGuard, ht.eval hx, ht.eval hy, h2, h1]
theorem v_toInt {x : Operand} {s t : TypeId} {k k' : IntKind} {p : Int} (hx : ev env x = some (.int k' p)) (hs : ∃ d, P.underlying s = some d) (ht' : P.underlying t = some (.int k)) (hr : k.wrap p = p) :
    Val P env G H ⟨dst, .convert s t x, ty, pos, aft, g⟩ (.int k p) := fun a n ds w0 w ht hs' => by
  obtain ⟨d, hd⟩ := hs
  simp only [execOp, ht.eval hx]
  cases d <;> simp [convert, run_underlying hd, run_underlying ht', Conv.intToInt, hr]

theorem v_max {x y : Operand} {ts : Array TypeId} {p q : Int} (hx : ev env x = some (I64 p)) (hy : ev env y = some (I64 q)) :
    Val P env G H ⟨dst, .call { callee := .builtin .max, args := #[x, y], argTypes := ts }, ty, pos, aft, g⟩ (I64 (max p q)) := fun a n ds w0 w ht hs => by
  have : max p q = if p < q then q else p := by omega
  simp [execOp, resolve, invoke, builtin, Builtin.max_, Builtin.max2, ht.eval hx, ht.eval hy, this]
theorem v_min {x y : Operand} {ts : Array TypeId} {p q : Int} (hx : ev env x = some (I64 p)) (hy : ev env y = some (I64 q)) :
    Val P env G H ⟨dst, .call { callee := .builtin .min, args := #[x, y], argTypes := ts }, ty, pos, aft, g⟩ (I64 (min p q)) := fun a n ds w0 w ht hs => by
  have : min p q = if q < p then q else p := by omega
  simp [execOp, resolve, invoke, builtin, Builtin.min_, Builtin.min2, ht.eval hx, ht.eval hy, this]

/-! a slice of a slice -/
theorem run_sliceBound {v : Value} {i y : Nat} {code : BoundsCode} (hv : v = I64 (i : Int)) (h : i ≤ y) : (Instr.sliceBound v y code).run P w = .ok i w := by
  subst hv
  have h1 : (0 : Int) ≤ (i : Int) := by omega
  have h2 : (i : Int) ≤ (y : Int) := by omega
  simp [Instr.sliceBound, asIntOf, h1, h2]
/-- s[:i:i] -/
theorem v_slice0 (i : Nat) {x hi mx : Operand} {t : TypeId} {b o k c : Nat} (hx : ev env x = some (Sl b o k c)) (hh : ev env hi = some (I64 (i : Int))) (hm : ev env mx = some (I64 (i : Int))) (hu : (elB P t).isSome = true) (hl : i ≤ c) :
    Val P env G H ⟨dst, .slice t x none (some hi) (some mx), ty, pos, aft, g⟩ (Sl b o i i) := fun a n ds w0 w ht hs => by
  obtain ⟨sz, hu⟩ := Option.isSome_iff_exists.1 hu
  obtain ⟨e, hu, hz⟩ := elB_spec hu
  have h0 : (if i = 0 then (some ⟨b, o, none⟩ : Option Addr) else some ⟨b, o, none⟩) = some ⟨b, o, none⟩ := by split <;> rfl
  simp [execOp, Instr.sliceAt, Instr.slice, Instr.sliceBounds, ht.eval hx, ht.eval hh, ht.eval hm, run_underlying hu, run_sliceBound rfl hl, run_sliceBound rfl (Nat.le_refl i), run_sizeOf' hz, addr_add, h0]

/-! memory that is read -/
theorem v_field (off : Nat) {x : Operand} {s : TypeId} {i : Nat} {b o : Nat} (hx : ev env x = some (Pt b o)) (hu : offB P s i = some off) : Val P env G H ⟨dst, .fieldAddr s x i, ty, pos, aft, g⟩ (Pt b (o + off)) := fun a n ds w0 w ht hs => by
  obtain ⟨fs, f, sz, hu1, hf, hz, hnz, rfl⟩ := offB_spec hu
  simp [execOp, Instr.fieldAt, run_underlying hu1, hf, Instr.sureAddr, ht.eval hx, fieldPlace, run_sizeOf' hz, hnz, addr_add]
theorem v_index (sz : Nat) {x i : Operand} {t : TypeId} {b o k c : Nat} {p : Int} (hx : ev env x = some (Sl b o k c)) (hi : ev env i = some (I64 p)) (hu : elB P t = some sz)
    (hp : 0 ≤ p ∧ p < k) : Val P env G H ⟨dst, .indexAddr t x i, ty, pos, aft, g⟩ (Pt b (o + p.toNat * sz)) := fun a n ds w0 w ht hs => by
  obtain ⟨e, hu1, hz⟩ := elB_spec hu
  simp [execOp, Instr.indexAt, asIntOf, ht.eval hx, ht.eval hi, run_underlying hu1, hp.1, hp.2, run_sizeOf' hz, addr_add]
theorem v_index1 {x i : Operand} {t : TypeId} {b o k c : Nat} {p : Int} (hx : ev env x = some (Sl b o k c)) (hi : ev env i = some (I64 p)) (hu : elB P t = some 1)
    (hp : 0 ≤ p ∧ p < k) : Val P env G H ⟨dst, .indexAddr t x i, ty, pos, aft, g⟩ (Pt b (o + p.toNat)) := by
  have := v_index (P := P) (env := env) (G := G) (H := H) (dst := dst) (ty := ty) (pos := pos) (aft := aft) (g := g) 1 hx hi hu hp
  rwa [Nat.mul_one] at this
theorem v_load {x : Operand} {t : TypeId} {b o : Nat} {v : Value} (hx : ev env x = some (Pt b o)) (hc : Cel G H b o v) (ha : aggB P t = some false) :
    Val P env G H ⟨dst, .load t x, ty, pos, aft, g⟩ v := fun a n ds w0 w ht hs => by
  simp [execOp, Instr.loadAt, Instr.sureAddr, ht.eval hx, loadVar, run_isAgg' ha, hc.cell hs]
theorem v_loadAgg {x : Operand} {t : TypeId} {b o sz : Nat} {vs : List Value} (hx : ev env x = some (Pt b o)) (ha : aggB P t = some true) (hz : szB P t = some sz) (hl : vs.length = sz)
    (hc : ∀ (j : Nat) u, vs[j]? = some u → Cel G H b (o + j) u) : Val P env G H ⟨dst, .load t x, ty, pos, aft, g⟩ (.agg vs.toArray) := fun a n ds w0 w ht hs => by
  have hcs : (loadCells ⟨b, o, none⟩ vs.length).run P w = .ok vs.toArray w := run_loadCells_list (P := P) w ⟨b, o, none⟩ vs (fun j v hj => by
    rw [addr_add]; exact (hc j v hj).cell hs)
  simp [execOp, Instr.loadAt, Instr.sureAddr, ht.eval hx, loadVar, run_isAgg' ha, run_sizeOf' hz, ← hl, hcs]
end vals

/-! ### Memory that is made and written -/
section effs
variable {dst : Option Tmp} {d : Nat} {ty : TypeId} {pos : String} {aft : Array Edge} {g : Option (Nat × Bool)}

theorem e_box {t : TypeId} {x : Operand} {v : Value} (hx : ev env x = some v) : Eff P w0 env G H ⟨some d, .box t x, ty, pos, aft, g⟩ (fun u w' => ∃ b, u = Pt b 0 ∧ Sat w0 w' G ((b, Cs v.cells.toList t) :: H)) :=
    (fun a n ds w ht hs => ⟨Pt w.heap.size 0, w.alloc (Cs v.cells.toList t), by simp [execOp, Instr.box, newVar, newRow, ht.eval hx], _, rfl, hs.alloc (Cs v.cells.toList t)⟩)
theorem s_box {t : TypeId} {x : Operand} {v : Value} (hg : gOn ops env ⟨some d, .box t x, ty, pos, aft, g⟩ = some true) (hd : Nat.blt d n = true) (hx : ev env x = some v)
    (k : ∀ b, Holds n ds w0 ((d, Pt b 0) :: env) G ((b, Cs v.cells.toList t) :: H) K) :
    Holds n ds w0 env G H (stepK P ops Q ⟨some d, .box t x, ty, pos, aft, g⟩ K) :=
  s_eff hg rfl hd (e_box hx) (fun u w' ⟨b, hu, hs⟩ => by subst hu; exact (k b).atw hs)

theorem e_store {t t' : TypeId} {x y : Operand} {b o : Nat} {v : Value} {L : List Value} {H1 : Hp}
    (hx : ev env x = some (Pt b o)) (hy : ev env y = some v) (hp : Pick b (Cs L t') H H1) (hz : szB P t = some v.cells.size) (h1 : ∀ u ∈ v.cells.toList, u.oneCell' = true) (hl : o + v.cells.size ≤ L.length) :
    Eff0 P w0 env G H ⟨none, .store t x y, ty, pos, aft, g⟩ (fun w' => Sat w0 w' G ((b, Cs (L.take o ++ v.cells.toList ++ L.drop (o + v.cells.size)) t') :: H1)) :=
    (fun a n ds w ht hs => by
      have hs' := hs.perm hp.perm
      have hb : w.heap[b]? = some (.cells L.toArray t' (0, 0)) := hs'.own _ (List.mem_cons_self ..)
      have hst := run_storeCells_at (P := P) b o t' v.cells.toList 0 L.toArray w hb (by simpa using hl) h1
      refine ⟨w.setRow b (L.take o ++ v.cells.toList ++ L.drop (o + v.cells.size)).toArray, ?_, hs'.upd rfl rfl rfl (by simp) (setRow_heap w b _ _ t' (0, 0) hb) (fun j _ hj => setRow_other w b j _ hj)⟩
      simp only [Nat.add_zero, Array.length_toList] at hst
      simp [execOp, Instr.storeAt, Instr.sureAddr, ht.eval hx, ht.eval hy, storeVar, run_sizeOf' hz, hst])
theorem s_store {t t' : TypeId} {x y : Operand} {b o : Nat} {v : Value} {L : List Value} {H1 : Hp} (hg : gOn ops env ⟨none, .store t x y, ty, pos, aft, g⟩ = some true)
    (hx : ev env x = some (Pt b o)) (hy : ev env y = some v) (hp : Pick b (Cs L t') H H1) (hz : szB P t = some v.cells.size) (h1 : ∀ u ∈ v.cells.toList, u.oneCell' = true) (hl : o + v.cells.size ≤ L.length)
    (k : Holds n ds w0 env G ((b, Cs (L.take o ++ v.cells.toList ++ L.drop (o + v.cells.size)) t') :: H1) K) :
    Holds n ds w0 env G H (stepK P ops Q ⟨none, .store t x y, ty, pos, aft, g⟩ K) :=
  s_eff0 (Φ := fun w' => Sat w0 w' G ((b, Cs (L.take o ++ v.cells.toList ++ L.drop (o + v.cells.size)) t') :: H1)) hg rfl (e_store hx hy hp hz h1 hl) (fun w' hs => k.atw hs)
theorem take_set {α : Type} (L : List α) (o : Nat) (v : α) (h : o < L.length) : L.take o ++ [v] ++ L.drop (o + 1) = L.set o v := by
  rw [List.set_eq_take_append_cons_drop, if_pos h]; simp
theorem cells_one {v : Value} (h : v.oneCell' = true) : v.cells = #[v] := by cases v <;> first | rfl | (cases h)
/-- A store of one cell. -/
theorem e_store1 {t t' : TypeId} {x y : Operand} {b o : Nat} {v : Value} {L : List Value} {H1 : Hp}
    (hx : ev env x = some (Pt b o)) (hy : ev env y = some v) (hp : Pick b (Cs L t') H H1) (hz : szB P t = some 1) (h1 : v.oneCell' = true) (hl : o < L.length) :
    Eff0 P w0 env G H ⟨none, .store t x y, ty, pos, aft, g⟩ (fun w' => Sat w0 w' G ((b, Cs (L.set o v) t') :: H1)) := by
  have hc := cells_one h1
  have := e_store (P := P) (w0 := w0) (env := env) (G := G) (H := H) (ty := ty) (pos := pos) (aft := aft) (g := g) hx hy hp (by rw [hc]; exact hz) (by rw [hc]; intro u hu; rw [List.mem_singleton.1 hu]; exact h1) (by rw [hc]; simp; omega)
  rw [hc] at this
  have h2 : (#[v] : Array Value).toList = [v] := rfl
  have h3 : (#[v] : Array Value).size = 1 := rfl
  rw [h2, h3, take_set L o v hl] at this
  exact this
theorem s_store1 {t t' : TypeId} {x y : Operand} {b o : Nat} {v : Value} {L : List Value} {H1 : Hp} (hg : gOn ops env ⟨none, .store t x y, ty, pos, aft, g⟩ = some true)
    (hx : ev env x = some (Pt b o)) (hy : ev env y = some v) (hp : Pick b (Cs L t') H H1) (hz : szB P t = some 1) (h1 : v.oneCell' = true) (hl : o < L.length)
    (k : Holds n ds w0 env G ((b, Cs (L.set o v) t') :: H1) K) :
    Holds n ds w0 env G H (stepK P ops Q ⟨none, .store t x y, ty, pos, aft, g⟩ K) :=
  s_eff0 hg rfl (e_store1 hx hy hp hz h1 hl) (fun w' hs => k.atw hs)
theorem s_make (e : TypeId) (z : Value) (s bs k : Nat) {t : TypeId} {x y : Operand} (hg : gOn ops env ⟨some d, .makeSlice t x y, ty, pos, aft, g⟩ = some true) (hd : Nat.blt d n = true) (hx : ev env x = some (I64 (k : Int))) (hy : ev env y = some (I64 (k : Int)))
    (hm : mkB P t = some (e, z, s, bs)) (hb : bs * k ≤ 281474976710656) (hk : k ≤ 281474976710656)
    (hK : ∀ b, Holds n ds w0 ((d, Sl b 0 k k) :: env) G ((b, Cs (madeCells z.cells (k * s)).toList e) :: H) K) :
    Holds n ds w0 env G H (stepK P ops Q ⟨some d, .makeSlice t x y, ty, pos, aft, g⟩ K) := by
  obtain ⟨i, hu, hi, hz, rfl, rfl⟩ := mkB_spec hm
  refine s_eff (Φ := fun u w' => ∃ b, u = Sl b 0 k k ∧ Sat w0 w' G ((b, Cs (madeCells z.cells (k * i.size)).toList e) :: H)) hg rfl hd (fun a n ds w ht hs => ?_) (fun u w' ⟨b, hu, hs⟩ => by subst hu; exact (hK b).atw hs)
  have hr := run_make (P := P) w t e i z hu hi hz .i64 .i64 k k (by omega) (Int.le_refl _) (by omega) (by omega)
  simp only [Int.toNat_natCast] at hr
  exact ⟨_, w.alloc (.cells (madeCells z.cells (k * i.size)) e), by simp [execOp, ht.eval hx, ht.eval hy, hr], w.heap.size, rfl, by have := hs.alloc (.cells (madeCells z.cells (k * i.size)) e); simpa using this⟩
end effs

theorem c_cond_d {c : Operand} {x y : Code} {p : Prop} [Decidable p] (hc : ev env c = some (.bool (decide p))) (h1 : p → Holds n ds w0 env G H (x.wp P Q)) (h2 : ¬ p → Holds n ds w0 env G H (y.wp P Q)) : Holds n ds w0 env G H ((Code.cond c x y).wp P Q) :=
  c_cond hc (fun e => h1 (of_decide_eq_true e)) (fun e => h2 (of_decide_eq_false e))
theorem c_cond_nd {c : Operand} {x y : Code} {p : Prop} [Decidable p] (hc : ev env c = some (.bool (!decide p))) (h1 : ¬ p → Holds n ds w0 env G H (x.wp P Q)) (h2 : p → Holds n ds w0 env G H (y.wp P Q)) : Holds n ds w0 env G H ((Code.cond c x y).wp P Q) :=
  c_cond hc (fun e => h1 (by simpa using e)) (fun e => h2 (by simpa using e))
/-- At a Bool that is not known the state is parted. -/
theorem c_part (d : Nat) (β : Bool) (hd : env.lookup d = some (.bool β)) (h1 : β = true → Holds n ds w0 ((d, .bool true) :: env) G H R) (h2 : β = false → Holds n ds w0 ((d, .bool false) :: env) G H R) : Holds n ds w0 env G H R := fun a w ht hs => by
  have key : ∀ γ, β = γ → TT a n ds ((d, .bool γ) :: env) := fun γ e => ht.mono fun i v hv => by
    simp only [List.lookup] at hv
    split at hv
    · rename_i e'
      have e' : i = d := by simpa using e'
      cases hv; subst e'; rw [hd, e]
    · exact hv
  cases hb : β with
  | true => exact h1 hb a w (key _ hb) hs
  | false => exact h2 hb a w (key _ hb) hs
theorem c_part_d (d : Nat) (p : Prop) [Decidable p] (hd : env.lookup d = some (.bool (decide p))) (h1 : p → Holds n ds w0 ((d, .bool true) :: env) G H R) (h2 : ¬ p → Holds n ds w0 ((d, .bool false) :: env) G H R) : Holds n ds w0 env G H R :=
  c_part d _ hd (fun e => h1 (of_decide_eq_true e)) (fun e => h2 (of_decide_eq_false e))

/-! ### Calls -/
/-- What follows a call. -/
def After (n : Nat) (ds : List Deferred) (env : Env) (d : Option Tmp) (Q : Exit → Act → World → Prop) (nx : Act → World → Prop) : Ending → World → Prop
  | .returned v, w' => HoldsW n ds (match d with | some d => (d, v) :: env | none => env) w' nx
  | .panicked ch, w' => HoldsW n ds env w' (Q (.panic ch))
  | .outgrown, _ => LetsOut Q

/-- A function of the program's own, which has a body. -/
def entersB (P : Program) (f : FuncId) : Bool := match P.funcs[f]? with
  | none => false
  | some fn => fn.name != "runtime.NumGoroutine" && fn.body.isSome
theorem enters_run {f : FuncId} (h : entersB P f = true) (args : Array Value) : (callFunc f args).run P w = .ok (.enter f args) w := by
  unfold entersB at h
  cases hf : P.funcs[f]? with
  | none => simp [hf] at h
  | some fn =>
    simp only [hf, Bool.and_eq_true] at h
    have h1 : fn.name ≠ "runtime.NumGoroutine" := by simpa using h.1
    have h2 : ¬ fn.body = none := by intro hb; simp [hb] at h
    simp [callFunc, hf, h1, h2]

theorem s_callG {o : Oper} {fo : Operand} {xs : List Operand} {ts : Array TypeId} {f : FuncId} {vs : List Value} {cap : Array Value} {R : Ending → World → Prop} (hop : o.op = .call { callee := .value fo, args := xs.toArray, argTypes := ts })
    (hg : gOn ops env o = some true) (hd : ∀ d, o.dst = some d → d < n) (hf : ev env fo = some (.func (.func f) #[] cap)) (hxs : evl env xs = some vs) (hen : entersB P f = true)
    (hC : ∀ w, Sat w0 w G H → Calls P f (vs.toArray ++ cap) w R) (k : ∀ e w', R e w' → After n ds env o.dst Q K e w') :
    Holds n ds w0 env G H (stepK P ops Q o K) := fun a w ht hs => by
  unfold stepK
  rw [gOn_spec ht hg, if_pos rfl]
  refine .inl ?_
  unfold Oper.wp
  have hrun : (execOp a.eval o).run P w = .ok (.enter f (vs.toArray ++ cap)) w := by
    simp [execOp, hop, resolve, ht.eval hf, ht.evall hxs, Deferred.ofValue, invoke, enters_run hen]
  rw [hrun, Oper.upon_enter]
  refine (hC w hs).mono fun e w' hr => ?_
  have := k e w' hr
  cases e with
  | returned v =>
    simp only [After] at this ⊢
    cases hdst : o.dst with
    | none => rw [hdst] at this; exact this a ht
    | some d => rw [hdst] at this; exact this _ (ht.put (hd d hdst) v)
  | panicked ch => exact this a ht
  | outgrown => exact this
/-- What follows a call whose answer goes into a slot. -/
def AfterD (n : Nat) (ds : List Deferred) (env : Env) (d : Tmp) (Q : Exit → Act → World → Prop) (nx : Act → World → Prop) : Ending → World → Prop
  | .returned v, w' => HoldsW n ds ((d, v) :: env) w' nx
  | .panicked ch, w' => HoldsW n ds env w' (Q (.panic ch))
  | .outgrown, _ => LetsOut Q
theorem AfterD.after {d : Tmp} {o : Option Tmp} {nx : Act → World → Prop} {e : Ending} {w' : World} (ho : o = some d) (h : AfterD n ds env d Q nx e w') : After n ds env o Q nx e w' := by
  subst ho; cases e <;> exact h
theorem s_call {o : Oper} {d : Tmp} {fo : Operand} {xs : List Operand} {ts : Array TypeId} {f : FuncId} {vs : List Value} {cap : Array Value} {R : Ending → World → Prop} (hop : o.op = .call { callee := .value fo, args := xs.toArray, argTypes := ts })
    (hg : gOn ops env o = some true) (hd : o.dst = some d) (hlt : Nat.blt d n = true) (hf : ev env fo = some (.func (.func f) #[] cap)) (hxs : evl env xs = some vs) (hen : entersB P f = true)
    (hC : ∀ w, Sat w0 w G H → Calls P f (vs.toArray ++ cap) w R) (k : ∀ e w', R e w' → AfterD n ds env d Q K e w') :
    Holds n ds w0 env G H (stepK P ops Q o K) :=
  s_callG hop hg (fun d' h => by rw [hd] at h; cases h; exact of_blt hlt) hf hxs hen hC (fun e w' hr => (k e w' hr).after hd)
theorem s_call0 {o : Oper} {fo : Operand} {xs : List Operand} {ts : Array TypeId} {f : FuncId} {vs : List Value} {cap : Array Value} {R : Ending → World → Prop} (hop : o.op = .call { callee := .value fo, args := xs.toArray, argTypes := ts })
    (hg : gOn ops env o = some true) (hd : o.dst = none) (hf : ev env fo = some (.func (.func f) #[] cap)) (hxs : evl env xs = some vs) (hen : entersB P f = true)
    (hC : ∀ w, Sat w0 w G H → Calls P f (vs.toArray ++ cap) w R) (k : ∀ e w', R e w' → After n ds env none Q K e w') :
    Holds n ds w0 env G H (stepK P ops Q o K) :=
  s_callG hop hg (fun d' h => by rw [hd] at h; cases h) hf hxs hen hC (fun e w' hr => by rw [hd]; exact k e w' hr)
end Go.Proofs.Ytkjneelekfdpfaa
