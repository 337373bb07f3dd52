/- The same rules within a fence (a range over a function: the function that goes through it, its rounds, and the statement itself). -/
import Derived.Test.YtkjneelekfdpfaaRegion
import Derived.RangeFuncKeeps
import Derived.RangeFuncCalls
import Derived.OwnWalkIn
namespace Go.Proofs.Ytkjneelekfdpfaa
open Go
set_option linter.unusedVariables false
set_option linter.unusedSimpArgs false

def FW (r : Option Nat) : Fence := { Fence.wide with round := r }
theorem fw_calls {r : Option Nat} {m : Nat} {P : Program} {f : FuncId} {args : Array Value} {w : World} {R : Ending → World → Prop} (h : Calls P f args w R) : CallsIn (FW r) m P f args w R := by
  have h1 := (callsIn_wide (n := m)).2 h
  cases r with
  | none => exact h1
  | some l => exact CallsIn.inRound l h1
theorem fw_back {m : Nat} {P : Program} {f : FuncId} {args : Array Value} {w : World} {R : Ending → World → Prop} (h : CallsIn (FW none) m P f args w R) : Calls P f args w R := (callsIn_wide (n := m)).1 h
theorem fw_depth (r : Option Nat) : (FW r).depth = none := rfl
theorem fw_fn (r : Option Nat) (f : FuncId) : (FW r).fn f := trivial

variable {w0 w : World} {G G' : Im} {H H' R' : Hp} {r : Option Nat} {m : Nat}
variable {n : Nat} {ds : List Deferred} {env : Env} {P : Program} {Q : Exit → Act → World → Prop} {R : Act → World → Prop} {ops : Array Oper} {rest : List Oper} {K : Act → World → Prop}

theorem i_seq {x y : Code} (h : Holds n ds w0 env G H (x.wpIn (FW r) m P (Exit.then (y.wpIn (FW r) m P Q) Q))) : Holds n ds w0 env G H ((Code.seq x y).wpIn (FW r) m P Q) := fun a w ht hs => wpIn_seq (h a w ht hs)
theorem i_skip (h : Holds n ds w0 env G H (Q .normal)) : Holds n ds w0 env G H (Code.skip.wpIn (FW r) m P Q) := fun a w ht hs => wpIn_skip (h a w ht hs)
theorem i_ret (h : Holds n ds w0 env G H (Q .ret)) : Holds n ds w0 env G H (Code.ret.wpIn (FW r) m P Q) := fun a w ht hs => wpIn_ret (h a w ht hs)
theorem i_exit {id : Nat} (h : Holds n ds w0 env G H (Q (.exit id))) : Holds n ds w0 env G H ((Code.exit id).wpIn (FW r) m P Q) := fun a w ht hs => wpIn_exit (h a w ht hs)
theorem i_block {id : Nat} {c : Code} (h : Holds n ds w0 env G H (c.wpIn (FW r) m P (Exit.inBlock id Q))) : Holds n ds w0 env G H ((Code.block id c).wpIn (FW r) m P Q) := fun a w ht hs => wpIn_block (h a w ht hs)
theorem i_region {id : Nat} {l : List Oper} (h : Holds n ds w0 env G H (wpListIn (FW r) m P l.toArray Q l)) : Holds n ds w0 env G H ((Code.region id l.toArray false).wpIn (FW r) m P Q) := fun a w ht hs => wpIn_region_lit (h a w ht hs)
theorem i_nil (h : Holds n ds w0 env G H (Q .normal)) : Holds n ds w0 env G H (wpListIn (FW r) m P ops Q []) := fun a w ht hs => wpListIn_nil (h a w ht hs)
theorem i_cond {c : Operand} {x y : Code} {β : Bool} (hc : ev env c = some (.bool β)) (h1 : β = true → Holds n ds w0 env G H (x.wpIn (FW r) m P Q)) (h2 : β = false → Holds n ds w0 env G H (y.wpIn (FW r) m P Q)) : Holds n ds w0 env G H ((Code.cond c x y).wpIn (FW r) m P Q) := fun a w ht hs => by
  cases hb : β with
  | true => exact wpIn_cond_true (by rw [ht.eval hc, hb]) (h1 hb a w ht hs)
  | false => exact wpIn_cond_false (by rw [ht.eval hc, hb]) (h2 hb a w ht hs)
theorem i_cond_t {c : Operand} {x y : Code} (hc : ev env c = some (.bool true)) (h1 : Holds n ds w0 env G H (x.wpIn (FW r) m P Q)) : Holds n ds w0 env G H ((Code.cond c x y).wpIn (FW r) m P Q) := i_cond hc (fun _ => h1) (fun e => by cases e)
theorem i_cond_f {c : Operand} {x y : Code} (hc : ev env c = some (.bool false)) (h1 : Holds n ds w0 env G H (y.wpIn (FW r) m P Q)) : Holds n ds w0 env G H ((Code.cond c x y).wpIn (FW r) m P Q) := i_cond hc (fun e => by cases e) (fun _ => h1)
theorem i_cond_d {c : Operand} {x y : Code} {p : Prop} [Decidable p] (hc : ev env c = some (.bool (decide p))) (h1 : p → Holds n ds w0 env G H (x.wpIn (FW r) m P Q)) (h2 : ¬ p → Holds n ds w0 env G H (y.wpIn (FW r) m P Q)) : Holds n ds w0 env G H ((Code.cond c x y).wpIn (FW r) m P Q) :=
  i_cond hc (fun e => h1 (of_decide_eq_true e)) (fun e => h2 (of_decide_eq_false e))

/-- One operation of a list, and what follows. -/
def stepI (r : Option Nat) (m : Nat) (P : Program) (ops : Array Oper) (Q : Exit → Act → World → Prop) (o : Oper) (K : Act → World → Prop) (a : Act) (w : World) : Prop :=
  if Region.wanted o (yielded ops a.tmps) then o.wpIn (FW r) m P a w K Q else (∀ f, o.about P w a.eval = some f → (FW r).fn f) ∧ K (a.put o.dst undef) w
theorem i_cons {o : Oper} (h : Holds n ds w0 env G H (stepI r m P ops Q o (wpListIn (FW r) m P ops Q rest))) : Holds n ds w0 env G H (wpListIn (FW r) m P ops Q (o :: rest)) := fun a w ht hs => h a w ht hs

/-- No statement that defers. -/
def noDefer (o : Oper) : Bool := match o.op with
  | .defer _ => false
  | _ => true
theorem semAt_noDefer {o : Oper} (h : noDefer o = true) (ρ : Operand → Value) : o.semAt (FW r).round ρ = execOp ρ o := Oper.semAt_eq _ _ _ fun c hc => by
  unfold noDefer at h; rw [hc] at h; cases h

theorem i_val {o : Oper} {d : Nat} {v : Value} (hv : Val P env G H o v) (hg : gOn ops env o = some true) (hdst : o.dst = some d) (hd : Nat.blt d n = true) (hnd : noDefer o = true)
    (k : Holds n ds w0 ((d, v) :: env) G H K) : Holds n ds w0 env G H (stepI r m P ops Q o K) := fun a w ht hs => by
  unfold stepI
  rw [gOn_spec ht hg, if_pos rfl]
  refine ⟨fun _ _ => trivial, ?_⟩
  rw [semAt_noDefer hnd, hv a n ds w0 w ht hs, Oper.uponIn_value, hdst]
  exact k _ w (ht.put (of_blt hd) v) hs
theorem i_gskip {o : Oper} {d : Nat} (hg : gOn ops env o = some false) (hdst : o.dst = some d) (hd : Nat.blt d n = true)
    (k : Holds n ds w0 ((d, undef) :: env) G H K) : Holds n ds w0 env G H (stepI r m P ops Q o K) := fun a w ht hs => by
  unfold stepI
  rw [gOn_spec ht hg, if_neg (by simp), hdst]
  exact ⟨fun _ _ => trivial, k _ w (ht.put (of_blt hd) undef) hs⟩
theorem i_gskip0 {o : Oper} (hg : gOn ops env o = some false) (hdst : o.dst = none)
    (k : Holds n ds w0 env G H K) : Holds n ds w0 env G H (stepI r m P ops Q o K) := fun a w ht hs => by
  unfold stepI
  rw [gOn_spec ht hg, if_neg (by simp), hdst]
  exact ⟨fun _ _ => trivial, k _ w ht hs⟩
theorem i_eff {o : Oper} {d : Nat} {Φ : Value → World → Prop} (hg : gOn ops env o = some true) (hdst : o.dst = some d) (hd : Nat.blt d n = true) (hnd : noDefer o = true) (he : Eff P w0 env G H o Φ)
    (k : ∀ v w', Φ v w' → HoldsW n ds ((d, v) :: env) w' K) : Holds n ds w0 env G H (stepI r m P ops Q o K) := fun a w ht hs => by
  unfold stepI
  rw [gOn_spec ht hg, if_pos rfl]
  obtain ⟨v, w', hr, hp⟩ := he a n ds w ht hs
  refine ⟨fun _ _ => trivial, ?_⟩
  rw [semAt_noDefer hnd, hr, Oper.uponIn_value, hdst]
  exact k v w' hp _ (ht.put (of_blt hd) v)
theorem i_eff0 {o : Oper} {Φ : World → Prop} (hg : gOn ops env o = some true) (hdst : o.dst = none) (hnd : noDefer o = true) (he : Eff0 P w0 env G H o Φ)
    (k : ∀ w', Φ w' → HoldsW n ds env w' K) : Holds n ds w0 env G H (stepI r m P ops Q o K) := fun a w ht hs => by
  unfold stepI
  rw [gOn_spec ht hg, if_pos rfl]
  obtain ⟨w', hr, hp⟩ := he a n ds w ht hs
  refine ⟨fun _ _ => trivial, ?_⟩
  rw [semAt_noDefer hnd, hr, Oper.uponIn_skip, hdst]
  exact k w' hp _ ht
theorem i_store {t t' : TypeId} {ty : TypeId} {pos : String} {aft : Array Edge} {g : Option (Nat × Bool)} {x y : Operand} {b o : Nat} {v : Value} {L : List Value} {H1 : Hp} (hg : gOn ops env ⟨none, .store t x y, ty, pos, aft, g⟩ = some true)
    (hx : ev env x = some (Pt b o)) (hy : ev env y = some v) (hp : Pick b (Cs L t') H H1) (hz : szB P t = some v.cells.size) (h1 : ∀ u ∈ v.cells.toList, u.oneCell' = true) (hl : o + v.cells.size ≤ L.length)
    (k : Holds n ds w0 env G ((b, Cs (L.take o ++ v.cells.toList ++ L.drop (o + v.cells.size)) t') :: H1) K) :
    Holds n ds w0 env G H (stepI r m P ops Q ⟨none, .store t x y, ty, pos, aft, g⟩ K) :=
  i_eff0 (Φ := fun w' => Sat w0 w' G ((b, Cs (L.take o ++ v.cells.toList ++ L.drop (o + v.cells.size)) t') :: H1)) hg rfl rfl (e_store hx hy hp hz h1 hl) (fun w' hs => k.atw hs)

theorem i_store1 {t t' : TypeId} {ty : TypeId} {pos : String} {aft : Array Edge} {g : Option (Nat × Bool)} {x y : Operand} {b o : Nat} {v : Value} {L : List Value} {H1 : Hp} (hg : gOn ops env ⟨none, .store t x y, ty, pos, aft, g⟩ = some true)
    (hx : ev env x = some (Pt b o)) (hy : ev env y = some v) (hp : Pick b (Cs L t') H H1) (hz : szB P t = some 1) (h1 : v.oneCell' = true) (hl : o < L.length)
    (k : Holds n ds w0 env G ((b, Cs (L.set o v) t') :: H1) K) :
    Holds n ds w0 env G H (stepI r m P ops Q ⟨none, .store t x y, ty, pos, aft, g⟩ K) :=
  i_eff0 hg rfl rfl (e_store1 hx hy hp hz h1 hl) (fun w' hs => k.atw hs)
theorem i_box {d : Nat} {t : TypeId} {ty : TypeId} {pos : String} {aft : Array Edge} {g : Option (Nat × Bool)} {x : Operand} {v : Value} (hg : gOn ops env ⟨some d, .box t x, ty, pos, aft, g⟩ = some true) (hd : Nat.blt d n = true) (hx : ev env x = some v)
    (k : ∀ b, Holds n ds w0 ((d, Pt b 0) :: env) G ((b, Cs v.cells.toList t) :: H) K) :
    Holds n ds w0 env G H (stepI r m P ops Q ⟨some d, .box t x, ty, pos, aft, g⟩ K) :=
  i_eff hg rfl hd rfl (e_box hx) (fun u w' ⟨b, hu, hs⟩ => by subst hu; exact (k b).atw hs)

theorem i_callG {o : Oper} {fo : Operand} {xs : List Operand} {ts : Array TypeId} {f : FuncId} {vs : List Value} {cap : Array Value} {R : Ending → World → Prop} (hop : o.op = .call { callee := .value fo, args := xs.toArray, argTypes := ts })
    (hg : gOn ops env o = some true) (hd : ∀ d, o.dst = some d → d < n) (hf : ev env fo = some (.func (.func f) #[] cap)) (hxs : evl env xs = some vs) (hen : entersB P f = true)
    (hC : ∀ w, Sat w0 w G H → Calls P f (vs.toArray ++ cap) w R) (k : ∀ e w', R e w' → After n ds env o.dst Q K e w') :
    Holds n ds w0 env G H (stepI r m P ops Q o K) := fun a w ht hs => by
  unfold stepI
  rw [gOn_spec ht hg, if_pos rfl]
  have hrun : (execOp a.eval o).run P w = .ok (.enter f (vs.toArray ++ cap)) w := by
    simp [execOp, hop, resolve, ht.eval hf, ht.evall hxs, Deferred.ofValue, invoke, enters_run hen]
  refine ⟨fun _ _ => trivial, ?_⟩
  rw [semAt_noDefer (by simp [noDefer, hop]), hrun, Oper.uponIn_enter]
  refine ⟨by simp [fw_depth], ?_⟩
  refine (fw_calls (hC w hs)).mono fun e w' hr => ?_
  have := k e w' hr
  cases e with
  | returned v =>
    simp only [After] at this ⊢
    cases hdst : o.dst with
    | none => rw [hdst] at this; exact this a ht
    | some d => rw [hdst] at this; exact this _ (ht.put (hd d hdst) v)
  | panicked ch => exact this a ht
  | outgrown => exact this
theorem i_call {o : Oper} {d : Tmp} {fo : Operand} {xs : List Operand} {ts : Array TypeId} {f : FuncId} {vs : List Value} {cap : Array Value} {R : Ending → World → Prop} (hop : o.op = .call { callee := .value fo, args := xs.toArray, argTypes := ts })
    (hg : gOn ops env o = some true) (hd : o.dst = some d) (hlt : Nat.blt d n = true) (hf : ev env fo = some (.func (.func f) #[] cap)) (hxs : evl env xs = some vs) (hen : entersB P f = true)
    (hC : ∀ w, Sat w0 w G H → Calls P f (vs.toArray ++ cap) w R) (k : ∀ e w', R e w' → AfterD n ds env d Q K e w') :
    Holds n ds w0 env G H (stepI r m P ops Q o K) :=
  i_callG hop hg (fun d' h => by rw [hd] at h; cases h; exact of_blt hlt) hf hxs hen hC (fun e w' hr => (k e w' hr).after hd)
theorem i_call0 {o : Oper} {fo : Operand} {xs : List Operand} {ts : Array TypeId} {f : FuncId} {vs : List Value} {cap : Array Value} {R : Ending → World → Prop} (hop : o.op = .call { callee := .value fo, args := xs.toArray, argTypes := ts })
    (hg : gOn ops env o = some true) (hd : o.dst = none) (hf : ev env fo = some (.func (.func f) #[] cap)) (hxs : evl env xs = some vs) (hen : entersB P f = true)
    (hC : ∀ w, Sat w0 w G H → Calls P f (vs.toArray ++ cap) w R) (k : ∀ e w', R e w' → After n ds env none Q K e w') :
    Holds n ds w0 env G H (stepI r m P ops Q o K) :=
  i_callG hop hg (fun d' h => by rw [hd] at h; cases h) hf hxs hen hC (fun e w' hr => by rw [hd]; exact k e w' hr)

/-- What a round does to the heap: the iterator hands 'xs' over, and hears 'go on'. -/
def RoundTo (P : Program) (l : Nat) (xs : List Value) (w : World) (R : World → Prop) : Prop :=
  ∃ fn tmps assign body, (Instr.yield l xs.toArray).run P w = .ok (.round l fn tmps assign body) w ∧ RoundIn (FW none) 0 P l fn tmps assign body w fun e w' => e = .returned (.bool true) ∧ R w'

/-- A call of yield. -/
theorem i_yield {o : Oper} {fo : Operand} {xs : List Operand} {ts : Array TypeId} {l d : Nat} {vs : List Value} {R : World → Prop} (hop : o.op = .call { callee := .value fo, args := xs.toArray, argTypes := ts })
    (hg : gOn ops env o = some true) (hdst : o.dst = some d) (hd : Nat.blt d n = true) (hf : ev env fo = some (.func (.yield l) #[] #[])) (hxs : evl env xs = some vs)
    (hY : ∀ w, Sat w0 w G H → RoundTo P l vs w R) (k : ∀ w', R w' → HoldsW n ds ((d, .bool true) :: env) w' K) :
    Holds n ds w0 env G H (stepI none 0 P ops Q o K) := fun a w ht hs => by
  unfold stepI
  rw [gOn_spec ht hg, if_pos rfl]
  obtain ⟨fn, tmps, assign, body, hy, hR⟩ := hY w hs
  have hrun : (execOp a.eval o).run P w = .ok (.round l fn tmps assign body) w := by
    simp [execOp, hop, resolve, ht.eval hf, ht.evall hxs, Deferred.ofValue, invoke, hy]
  refine ⟨fun _ _ => trivial, ?_⟩
  rw [semAt_noDefer (by simp [noDefer, hop]), hrun, Oper.uponIn_round]
  refine ⟨by simp [fw_depth], ?_⟩
  refine hR.mono ?_
  rintro e w' ⟨rfl, hr⟩
  rw [hdst]
  exact k w' hr _ (ht.put (of_blt hd) _)

theorem i_loop {α : Type} {c : Code} (env' : α → Env) (G' : α → Im) (H' : α → Hp) (inv : α → Prop) (mu : α → Nat) (x0 : α) (h0 : inv x0)
    (start : Holds n ds w0 env G H (fun a w => TT a n ds (env' x0) ∧ Sat w0 w (G' x0) (H' x0)))
    (round : ∀ x, inv x → Holds n ds w0 (env' x) (G' x) (H' x) (c.wpIn (FW r) m P (Exit.then (fun a w => ∃ y, inv y ∧ mu y < mu x ∧ TT a n ds (env' y) ∧ Sat w0 w (G' y) (H' y)) Q))) :
    Holds n ds w0 env G H ((Code.loop c).wpIn (FW r) m P Q) := by
  intro a w ht hs b k cs hro hb hr
  have key : ∀ q x, mu x = q → inv x → ∀ a w, TT a n ds (env' x) → Sat w0 w (G' x) (H' x) →
      ∃ e a' w', Q e a' w' ∧ ArrivesIn (Machine.fenced P (FW r)) P (lone (b.atR a (.code c :: .inLoop c :: k)) cs w) b k cs e a' w' := by
    intro q
    induction q using Nat.strongRecOn with
    | _ q ih =>
      intro x hm hx a w ht hs
      obtain ⟨e, a₁, w₁, hq, harr⟩ := round x hx a w ht hs b (.inLoop c :: k) cs hro hb hr
      cases e with
      | normal =>
        obtain ⟨y, hy, hlt, ht1, hs1⟩ := hq
        obtain ⟨e₂, a₂, w₂, hq₂, harr₂⟩ := ih (mu y) (hm ▸ hlt) y rfl hy a₁ w₁ ht1 hs1
        exact ⟨e₂, a₂, w₂, hq₂, .of_steps (StepsIn.trans harr (.one (fenced_calm hb hr rfl) stepR_inLoop)) harr₂⟩
      | exit id => exact ⟨_, a₁, w₁, hq, .pass (x := .inLoop c) rfl (fun _ _ => .inl (by simp)) harr⟩
      | goto l => exact ⟨_, a₁, w₁, hq, .pass (x := .inLoop c) rfl (fun _ _ => .inl (by simp)) harr⟩
      | ret => exact ⟨_, a₁, w₁, hq, .pass (x := .inLoop c) rfl (fun _ _ => .inl (by simp)) harr⟩
      | panic ch => exact ⟨_, a₁, w₁, hq, .pass (x := .inLoop c) rfl (fun _ _ => .inl (by simp)) harr⟩
      | outgrown => exact ⟨_, a₁, w₁, hq, .pass (x := .inLoop c) rfl (fun _ _ => .inl (by simp)) harr⟩
  obtain ⟨ht1, hs1⟩ := start a w ht hs
  obtain ⟨e, a', w', hq, harr⟩ := key _ x0 rfl h0 a w ht1 hs1
  exact ⟨e, a', w', hq, .of_steps (.one (fenced_calm hb hr rfl) stepR_loop) harr⟩

/-! ### Functions -/
theorem i_enter {f : FuncId} {fn : Func} {c : Code} {vs : List Value} {R : Ending → World → Prop} (hf : P.funcs[f]? = some fn) (hb : fn.body = some c) (hn : fn.ntmps = n) (hl : vs.length ≤ n) (hs : Sat w0 w G H)
    (h : Holds n [] w0 (envOf 0 vs) G H (c.wpIn (FW none) 0 P (bodyPostM (FW none) 0 P fn R))) : CallsIn (FW none) 0 P f vs.toArray w R := by
  refine callsIn_of_wp_marks hf hb trivial (h _ w ⟨?_, rfl, fun i v hv => ?_⟩ hs) rfl
  · simp [hn]; omega
  · obtain ⟨_, h2⟩ := envOf_spec vs 0 i v hv
    have hlt : i < vs.length := by simpa using (List.getElem?_eq_some_iff.1 h2).1
    rw [Array.getElem?_append_left (by simpa using hlt)]
    simpa using h2
theorem i_end0 {fn : Func} {R : Ending → World → Prop} (hr : fn.results = #[]) (hR : ∀ w, Sat w0 w G H → R (.returned (.tuple #[])) w) : Holds n [] w0 env G H (bodyPostM (FW none) 0 P fn R .normal) := fun a w ht hs => by
  show LeavesInM _ _ _ _ _ _ _ _ _
  rw [ht.defers]
  exact ⟨_, results_none hr _ _ _, hR w hs⟩
theorem i_ret1 {fn : Func} {R : Ending → World → Prop} {t : Tmp} {v : Value} {D : Nat} {H1 : Hp} (hr : fn.results = #[.tmp t]) (hv : env.lookup t = some v) (hp : Pick D (.deferred (some [])) H H1) (hR : ∀ w, Sat w0 w G H1 → R (.returned v) w) :
    Holds n [{ target := .collected D, args := #[] }] w0 env G H (bodyPostM (FW none) 0 P fn R .ret) := fun a w ht hs => by
  show LeavesInM _ _ _ _ _ _ _ _ _
  rw [ht.defers]
  have hs1 := hs.perm hp.perm
  have hK := hs1.own _ (List.mem_cons_self ..)
  have hlt := hs1.lt (List.mem_cons_self ..)
  refine ⟨by simp, .inl ⟨D, _, rfl, run_takeDeferred hK, ?_⟩⟩
  refine ⟨_, by rw [results_tmp hr, ht.getD hv], hR _ ?_⟩
  have hs2 := hs1.upd (w' := w.putObj D (.deferred none)) (o' := .deferred none) rfl rfl rfl (by simp) (World.putObj_heap_same hlt) (fun k _ hk => World.putObj_heap_other hk)
  exact hs2.tl
end Go.Proofs.Ytkjneelekfdpfaa
