/- Panics, deferred calls, recover. -/
import Derived.Test.YtkjneelekfdpfaaOps9
import Derived.Recover
namespace Go.Proofs.Ytkjneelekfdpfaa
open Go
set_option linter.unusedVariables false
set_option linter.unusedSimpArgs false

variable {w0 w : World} {G G' : Im} {H H' H1 : Hp} {m d : Nat}
variable {n : Nat} {ds : List Deferred} {env : Env} {P : Program} {Q : Exit → Act → World → Prop} {ops : Array Oper} {K : Act → World → Prop}
variable {dst : Option Tmp} {ty : TypeId} {pos : String} {aft : Array Edge} {g : Option (Nat × Bool)}

/-- A type that is no interface. -/
def concB (P : Program) (t : TypeId) : Bool := match P.underlying t with
  | some (.interface _) => false
  | some _ => true
  | none => false
theorem v_iface {x : Operand} {t : TypeId} {v : Value} (hx : ev env x = some v) (hc : concB P t = true) : Val P env G H ⟨dst, .makeInterface t x, ty, pos, aft, g⟩ (.iface t v) := fun a n ds w0 w ht hs => by
  unfold concB at hc
  cases hu : P.underlying t with
  | none => rw [hu] at hc; cases hc
  | some k =>
    rw [hu] at hc
    cases k <;> first | (simp at hc; done) | simp [execOp, Instr.makeInterface, ht.eval hx, run_underlying hu]
theorem v_assert_t {x : Operand} {t xt : TypeId} {v : Value} (hx : ev env x = some (.iface t v)) (hc : concB P t = true) : Val P env G H ⟨dst, .typeAssert x xt t true, ty, pos, aft, g⟩ (.tuple #[v, .bool true]) := fun a n ds w0 w ht hs => by
  unfold concB at hc
  cases hu : P.underlying t with
  | none => rw [hu] at hc; cases hc
  | some k =>
    rw [hu] at hc
    cases k <;> first | (simp at hc; done) | simp [execOp, Instr.typeAssert, ht.eval hx, run_underlying hu]
theorem v_assert_n {x : Operand} {t xt : TypeId} {z : Value} (hx : ev env x = some .nilIface) (hc : concB P t = true) (hz : zeroB P t = some z) : Val P env G H ⟨dst, .typeAssert x xt t true, ty, pos, aft, g⟩ (.tuple #[z, .bool false]) := fun a n ds w0 w ht hs => by
  unfold concB at hc
  obtain ⟨i, hi, hz⟩ := zeroB_spec hz
  cases hu : P.underlying t with
  | none => rw [hu] at hc; cases hc
  | some k =>
    rw [hu] at hc
    cases k <;> first | (simp at hc; done) | simp [execOp, Instr.typeAssert, ht.eval hx, run_underlying hu, zeroValue, typeInfo, hi, hz]

/-- panic(x). -/
theorem s_panic {x : Operand} {t : TypeId} {v : Value} (hg : gOn ops env ⟨none, .panic x, ty, pos, aft, g⟩ = some true) (hx : ev env x = some (.iface t v)) (k : Holds n ds w0 env G H (Q (.panic [{ v := .iface t v, recovered := false }]))) :
    Holds n ds w0 env G H (stepK P ops Q ⟨none, .panic x, ty, pos, aft, g⟩ K) := fun a w ht hs => by
  unfold stepK
  rw [gOn_spec ht hg, if_pos rfl]
  refine .inl ?_
  unfold Oper.wp
  have hrun : (execOp a.eval ⟨none, .panic x, ty, pos, aft, g⟩).run P w = .halt (.panic (.iface t v)) w := by
    simp [execOp, Instr.panic, ht.eval hx, goPanic]
  rw [hrun]
  exact k a w ht hs
theorem TT.defer {a : Act} (h : TT a n ds env) (d : Deferred) : TT { a with defers := d :: a.defers } n (d :: ds) env := ⟨h.size, by simp [h.defers], h.get⟩
theorem s_defer {o : Oper} {fo : Operand} {ts : Array TypeId} {f : FuncId} {cap : Array Value} (hop : o.op = .defer { callee := .value fo, args := #[], argTypes := ts })
    (hg : gOn ops env o = some true) (hd : o.dst = none) (hf : ev env fo = some (.func (.func f) #[] cap))
    (k : Holds n ({ target := .fn (.func f) cap, args := #[] } :: ds) w0 env G H K) : Holds n ds w0 env G H (stepK P ops Q o K) := fun a w ht hs => by
  unfold stepK
  rw [gOn_spec ht hg, if_pos rfl]
  refine .inl ?_
  unfold Oper.wp
  have hrun : (execOp a.eval o).run P w = .ok (.defer { target := .fn (.func f) cap, args := #[] }) w := by
    simp [execOp, hop, resolve, ht.eval hf, Deferred.ofValue]
  rw [hrun, Oper.upon_defer, hd]
  exact k _ w (ht.defer _) hs

/-! ### Functions that defer -/
theorem f_enterD {f : FuncId} {fn : Func} {c : Code} {vs : List Value} {R : Ending → World → Prop} (hf : P.funcs[f]? = some fn) (hb : fn.body = some c) (hn : fn.ntmps = n) (hl : vs.length ≤ n) (hs : Sat w0 w G H)
    (h : Holds n [] w0 (envOf 0 vs) G H (c.wp P (bodyPostD P fn R))) : Calls P f vs.toArray w R := by
  refine calls_of_wp_defers hf hb (h _ w ⟨?_, rfl, fun i v hv => ?_⟩ hs)
  · simp [hn]; omega
  · obtain ⟨_, h2⟩ := envOf_spec vs 0 i v hv
    have hlt : i < vs.length := by simpa using (List.getElem?_eq_some_iff.1 h2).1
    rw [Array.getElem?_append_left (by simpa using hlt)]
    simpa using h2
/-- Out by a return, nothing deferred. -/
theorem d_ret0 {fn : Func} {R : Ending → World → Prop} (hr : fn.results = #[]) (hR : ∀ w, Sat w0 w G H → R (.returned (.tuple #[])) w) : Holds n [] w0 env G H (bodyPostD P fn R .ret) := fun a w ht hs => by
  show Leaves _ _ _ _ _ _ _
  rw [ht.defers]
  exact ⟨_, results_none hr _ _ _, hR w hs⟩
/-- The one deferred call, behind the body's end. -/
theorem d_end1 {fn : Func} {f : FuncId} {cap : Array Value} {R : Ending → World → Prop} {R' : Ending → FrameMode → World → Prop} (hr : fn.results = #[]) (hen : entersB P f = true)
    (hC : ∀ w, Sat w0 w G H → CallsD P f cap .returning w R') (hR : ∀ e u w, R' e u w → (∃ v, e = .returned v) ∧ settle u = .returning ∧ R (.returned (.tuple #[])) w) :
    Holds n [{ target := .fn (.func f) cap, args := #[] }] w0 env G H (bodyPostD P fn R .normal) := fun a w ht hs => by
  show Leaves _ _ _ _ _ _ _
  rw [ht.defers]
  refine leaves_cons (by simp) (f := f) (args := cap) (by simp [invoke, enters_run hen]) ((hC w hs).mono fun e u w' h => ?_)
  obtain ⟨⟨v, rfl⟩, hu, hR'⟩ := hR e u w' h
  show Leaves _ _ _ _ _ _ _
  rw [hu]
  exact ⟨_, results_none hr _ _ _, hR'⟩
/-- The one deferred call, behind a panic. -/
theorem d_panic1 {fn : Func} {f : FuncId} {cap : Array Value} {ch : List PanicEntry} {R : Ending → World → Prop} {R' : Ending → FrameMode → World → Prop} (hr : fn.results = #[]) (hen : entersB P f = true)
    (hC : ∀ w, Sat w0 w G H → CallsD P f cap (.panicking ch) w R') (hR : ∀ e u w, R' e u w → (∃ v, e = .returned v) ∧ settle u = .returning ∧ R (.returned (.tuple #[])) w) :
    Holds n [{ target := .fn (.func f) cap, args := #[] }] w0 env G H (bodyPostD P fn R (.panic ch)) := fun a w ht hs => by
  show Leaves _ _ _ _ _ _ _
  rw [ht.defers]
  refine leaves_cons (by simp) (f := f) (args := cap) (by simp [invoke, enters_run hen]) ((hC w hs).mono fun e u w' h => ?_)
  obtain ⟨⟨v, rfl⟩, hu, hR'⟩ := hR e u w' h
  show Leaves _ _ _ _ _ _ _
  rw [hu]
  exact ⟨_, results_none hr _ _ _, hR'⟩

/-! ### A deferred call's own walk -/
variable {QS : Exit → Act → List Frame → World → Prop} {cs cs' : List Frame} {rest : List Nat}
theorem q_val {i : Nat} {o : Oper} {v : Value} (hi : ops[i]? = some o) (hg : gOn ops env o = some true) (hdst : o.dst = some d) (hd : Nat.blt d n = true) (hv : Val P env G H o v)
    (k : Holds n ds w0 ((d, v) :: env) G H (fun a w => wpOpsS P ops QS rest a cs w)) : Holds n ds w0 env G H (fun a w => wpOpsS P ops QS (i :: rest) a cs w) := fun a w ht hs => by
  show wpOpsS P ops QS (i :: rest) a cs w
  simp only [wpOpsS, hi, gOn_spec ht hg, if_true, hv a n ds w0 w ht hs]
  rw [Oper.upon_value, hdst]
  exact k _ w (ht.put (of_blt hd) v) hs
theorem q_eff {i : Nat} {o : Oper} {Φ : Value → World → Prop} (hi : ops[i]? = some o) (hg : gOn ops env o = some true) (hdst : o.dst = some d) (hd : Nat.blt d n = true) (he : Eff P w0 env G H o Φ)
    (k : ∀ v w', Φ v w' → HoldsW n ds ((d, v) :: env) w' (fun a w => wpOpsS P ops QS rest a cs w)) : Holds n ds w0 env G H (fun a w => wpOpsS P ops QS (i :: rest) a cs w) := fun a w ht hs => by
  show wpOpsS P ops QS (i :: rest) a cs w
  obtain ⟨v, w', hr, hΦ⟩ := he a n ds w ht hs
  simp only [wpOpsS, hi, gOn_spec ht hg, if_true, hr]
  rw [Oper.upon_value, hdst]
  exact k v w' hΦ _ (ht.put (of_blt hd) v)
theorem q_eff0 {i : Nat} {o : Oper} {Φ : World → Prop} (hi : ops[i]? = some o) (hg : gOn ops env o = some true) (hdst : o.dst = none) (he : Eff0 P w0 env G H o Φ)
    (k : ∀ w', Φ w' → HoldsW n ds env w' (fun a w => wpOpsS P ops QS rest a cs w)) : Holds n ds w0 env G H (fun a w => wpOpsS P ops QS (i :: rest) a cs w) := fun a w ht hs => by
  show wpOpsS P ops QS (i :: rest) a cs w
  obtain ⟨w', hr, hΦ⟩ := he a n ds w ht hs
  simp only [wpOpsS, hi, gOn_spec ht hg, if_true, hr]
  rw [Oper.upon_skip, hdst]
  exact k w' hΦ a ht
theorem q_rec_n {i : Nat} {t : Array TypeId} (hi : ops[i]? = some ⟨some d, .call { callee := .builtin .recover, args := #[], argTypes := t }, ty, pos, aft, g⟩) (hg : gOn ops env ⟨some d, .call { callee := .builtin .recover, args := #[], argTypes := t }, ty, pos, aft, g⟩ = some true) (hd : Nat.blt d n = true) (hr : recoverD cs = none)
    (k : Holds n ds w0 ((d, .nilIface) :: env) G H (fun a w => wpOpsS P ops QS rest a cs w)) : Holds n ds w0 env G H (fun a w => wpOpsS P ops QS (i :: rest) a cs w) := fun a w ht hs => by
  show wpOpsS P ops QS (i :: rest) a cs w
  have hrun : (execOp a.eval ⟨some d, .call { callee := .builtin .recover, args := #[], argTypes := t }, ty, pos, aft, g⟩).run P w = .ok .recover w := by
    simp [execOp, resolve, invoke, builtin]
  simp only [wpOpsS, hi, gOn_spec ht hg, if_true, hrun, hr]
  exact k _ w (ht.put (of_blt hd) _) hs
theorem q_rec_s {i : Nat} {t : Array TypeId} {v : Value} (hi : ops[i]? = some ⟨some d, .call { callee := .builtin .recover, args := #[], argTypes := t }, ty, pos, aft, g⟩) (hg : gOn ops env ⟨some d, .call { callee := .builtin .recover, args := #[], argTypes := t }, ty, pos, aft, g⟩ = some true) (hd : Nat.blt d n = true) (hr : recoverD cs = some (v, cs'))
    (k : Holds n ds w0 ((d, v) :: env) G H (fun a w => wpOpsS P ops QS rest a cs' w)) : Holds n ds w0 env G H (fun a w => wpOpsS P ops QS (i :: rest) a cs w) := fun a w ht hs => by
  show wpOpsS P ops QS (i :: rest) a cs w
  have hrun : (execOp a.eval ⟨some d, .call { callee := .builtin .recover, args := #[], argTypes := t }, ty, pos, aft, g⟩).run P w = .ok .recover w := by
    simp [execOp, resolve, invoke, builtin]
  simp only [wpOpsS, hi, gOn_spec ht hg, if_true, hrun, hr]
  exact k _ w (ht.put (of_blt hd) _) hs
theorem q_nil (k : Holds n ds w0 env G H (fun a w => QS .normal a cs w)) : Holds n ds w0 env G H (fun a w => wpOpsS P ops QS [] a cs w) := k
theorem q_region {id : Nat} (k : Holds n ds w0 env G H (fun a w => wpOpsS P ops QS (List.range ops.size) a cs w)) : Holds n ds w0 env G H (fun a w => (Code.region id ops false).wpS P QS a cs w) := fun a w ht hs => wpS_region (k a w ht hs)
theorem q_seq {x y : Code} (k : Holds n ds w0 env G H (fun a w => x.wpS P (Exit.thenS (y.wpS P QS) QS) a cs w)) : Holds n ds w0 env G H (fun a w => (Code.seq x y).wpS P QS a cs w) := fun a w ht hs => wpS_seq (k a w ht hs)
theorem q_plain {c : Code} (k : Holds n ds w0 env G H (c.wp P (fun e a w => QS e a cs w))) : Holds n ds w0 env G H (fun a w => c.wpS P QS a cs w) := fun a w ht hs => wpS_of_wp (k a w ht hs)
theorem q_enter {f : FuncId} {fn : Func} {c : Code} {vs : List Value} {u : FrameMode} {R : Ending → FrameMode → World → Prop} (hf : P.funcs[f]? = some fn) (hb : fn.body = some c) (hn : fn.ntmps = n) (hl : vs.length ≤ n) (hs : Sat w0 w G H)
    (h : ∀ (c₀ : Frame) (cs : List Frame), c₀.mode = u → Holds n [] w0 (envOf 0 vs) G H (fun a w => c.wpS P (bodyPostS P fn c₀ cs R) a (c₀ :: cs) w)) : CallsD P f vs.toArray u w R := by
  refine callsD_of_wpS hf hb fun c₀ cs hu => h c₀ cs hu _ w ⟨?_, rfl, fun i v hv => ?_⟩ hs
  · simp [hn]; omega
  · obtain ⟨_, h2⟩ := envOf_spec vs 0 i v hv
    have hlt : i < vs.length := by simpa using (List.getElem?_eq_some_iff.1 h2).1
    rw [Array.getElem?_append_left (by simpa using hlt)]
    simpa using h2
theorem q_end {fn : Func} {c₀ : Frame} {u' : FrameMode} {R : Ending → FrameMode → World → Prop} (hr : fn.results = #[]) (hcs : cs = { c₀ with mode := u' } :: cs') (hR : ∀ w, Sat w0 w G H → R (.returned (.tuple #[])) u' w) :
    Holds n [] w0 env G H (fun a w => bodyPostS P fn c₀ cs' R .normal a cs w) := fun a w ht hs =>
  ⟨ht.defers, u', hcs, _, results_none hr _ _ _, hR w hs⟩
end Go.Proofs.Ytkjneelekfdpfaa
