/- Regions that draw their order: what only reads is taken first; the beginning and the end of a function. -/
import Derived.Test.YtkjneelekfdpfaaOps
namespace Go.Proofs.Ytkjneelekfdpfaa
open Go
set_option linter.unusedVariables false
set_option linter.unusedSimpArgs false

section
variable {P : Program} {ops : Array Oper} {Q : Exit → Act → World → Prop} {S : World → Prop} {late : List Nat}

/-- Whatever order is picked from here on; S holds behind each operation that is not a late one. -/
def wpR (P : Program) (ops : Array Oper) (late : List Nat) (Q : Exit → Act → World → Prop) (S : World → Prop) : Nat → Array Bool → Act → World → Prop
  | 0, L, a, w => Region.ready .any ops L = [] ∧ Q .normal a w
  | fuel + 1, L, a, w => (Region.ready .any ops L = [] → Q .normal a w) ∧
    ∀ i ∈ Region.ready .any ops L, wpOp P ops Q i (fun a' w' => (late.contains i = true ∨ S w') ∧ wpR P ops late Q S fuel (L.setIfInBounds i true) a' w') a w

theorem wpAny_of_wpR : ∀ (fuel : Nat) (L : Array Bool) (a : Act) (w : World), wpR P ops late Q S fuel L a w → wpAny P .any ops Q fuel L a w
  | 0, _, _, _, h => h
  | fuel + 1, _, _, _, h => ⟨h.1, fun i hi => wpOp_mono (fun a' w' h' => wpAny_of_wpR fuel _ a' w' h'.2) (h.2 i hi)⟩

theorem wpR_mono {S' : World → Prop} (hS : ∀ w, S' w → S w) : ∀ (fuel : Nat) (L : Array Bool) (a : Act) (w : World), wpR P ops late Q S' fuel L a w → wpR P ops late Q S fuel L a w
  | 0, _, _, _, h => h
  | fuel + 1, _, _, _, h => ⟨h.1, fun i hi => wpOp_mono (fun a' w' h' => ⟨h'.1.imp id (hS w'), wpR_mono hS fuel _ a' w' h'.2⟩) (h.2 i hi)⟩

/-- Each late operation that has not come up waits for number i. -/
def lateOk (ops : Array Oper) (late : List Nat) (L : Array Bool) (i : Nat) : Bool :=
  late.all fun j => L.getD j true || (match ops[j]? with | none => true | some o => o.after.any fun e => e.on == i && Region.binds .any e)

theorem late_not_ready {i j : Nat} {L : Array Bool} (hl : lateOk ops late L i = true) (hi : i ∈ Region.ready .any ops L) (hj : j ∈ Region.ready .any ops L) : late.contains j = false := by
  cases hc : late.contains j with
  | false => rfl
  | true =>
    exfalso
    have hm : j ∈ late := by simpa using hc
    have h1 := List.all_eq_true.1 hl j hm
    obtain ⟨hun, oj, hoj, hall⟩ := mem_ready.1 hj
    rw [hun, hoj] at h1
    simp only [Bool.false_or] at h1
    obtain ⟨e, he, hb⟩ := Array.any_eq_true'.1 h1
    simp only [Bool.and_eq_true, beq_iff_eq] at hb
    have h2 := hall e he hb.2
    rw [hb.1] at h2
    have h0 := (mem_ready.1 hi).1
    rcases Nat.lt_or_ge i L.size with h' | h'
    · simp [h'] at h0 h2; rw [h0] at h2; cases h2
    · simp [Array.getElem?_eq_none h'] at h2

theorem lateOk_set {i j : Nat} {L : Array Bool} (hl : lateOk ops late L i = true) : lateOk ops late (L.setIfInBounds j true) i = true := by
  refine List.all_eq_true.2 fun k hk => ?_
  have h1 := List.all_eq_true.1 hl k hk
  by_cases hjk : j = k
  · subst hjk
    have : (L.setIfInBounds j true).getD j true = true := by
      rcases Nat.lt_or_ge j L.size with h' | h'
      · simp [h']
      · simp [Array.getElem?_eq_none h', h']
    rw [this]; rfl
  · rw [getD_set_ne true hjk]; exact h1

theorem wpR_first {i : Nat} {oi : Oper} {v : Value} (hi : ops[i]? = some oi) (hsel : ∀ (j : Nat) (o : Oper) cs b, ops[j]? = some o → o.op ≠ .select cs b)
    (hQ : ∀ c a w, Q (.panic c) (a.put oi.dst v) w → Q (.panic c) a w) :
    ∀ (fuel : Nat) (L : Array Bool) (a : Act) (w : World),
      (∀ j oj, ops[j]? = some oj → j ≠ i → L.getD j true = false → (∀ e ∈ oj.after, Region.binds .any e = true → e.on ≠ i) → oi.apart ops oj = true) →
      lateOk ops late L i = true → i ∈ Region.ready .any ops L → YieldsIf P ops S oi v a → S w →
      wpR P ops late Q S fuel (L.setIfInBounds i true) (a.put oi.dst v) w → wpR P ops late Q S (fuel + 1) L a w := by
  intro fuel
  induction fuel with
  | zero =>
    intro L a w _ _ hr hy hS H
    refine ⟨fun h => (by rw [h] at hr; cases hr), fun j hj => ?_⟩
    by_cases hji : j = i
    · subst hji; exact hy.wpOp hi hS ⟨.inr hS, H⟩
    · have h1 := ready_mono hj hji
      rw [H.1] at h1
      cases h1
  | succ fuel ih =>
    intro L a w hfree hlate hr hy hS H
    refine ⟨fun h => (by rw [h] at hr; cases hr), fun j hj => ?_⟩
    by_cases hji : j = i
    · subst hji; exact hy.wpOp hi hS ⟨.inr hS, H⟩
    · have h1 := H.2 j (ready_mono hj hji)
      obtain ⟨hjun, oj, hoj, hall⟩ := mem_ready.1 hj
      have hnot : ∀ e ∈ oj.after, Region.binds .any e = true → e.on ≠ i := fun e he hb heq => by
        have h1 := hall e he hb
        have h0 := (mem_ready.1 hr).1
        rw [heq] at h1
        rcases Nat.lt_or_ge i L.size with h' | h'
        · simp [h'] at h0 h1; rw [h0] at h1; cases h1
        · simp [Array.getElem?_eq_none h'] at h1
      have h2 := wpOp_putIf hoj (hfree j oj hoj hji hjun hnot) (fun cs b => hsel i oi cs b hi) (fun cs b => hsel j oj cs b hoj) hQ hy h1
      have hfree' : ∀ k ok, ops[k]? = some ok → k ≠ i → (L.setIfInBounds j true).getD k true = false →
          (∀ e ∈ ok.after, Region.binds .any e = true → e.on ≠ i) → oi.apart ops ok = true := fun k ok hk hki hun hno => by
        refine hfree k ok hk hki ?_ hno
        by_cases hjk : j = k
        · subst hjk; exact hjun
        · rw [getD_set_ne true hjk] at hun; exact hun
      have hnl := late_not_ready hlate hr hj
      refine wpOp_mono (fun a' w' h3 => ?_) h2
      obtain ⟨hy', hs', hrest⟩ := h3
      have hS' : S w' := hs'.resolve_left (by rw [hnl]; simp)
      rw [Array.setIfInBounds_comm _ _ (Ne.symm hji)] at hrest
      exact ⟨.inr hS', ih (L.setIfInBounds j true) a' w' hfree' (lateOk_set hlate) (ready_mono hr (Ne.symm hji)) hy' hS' hrest⟩
end

variable {w0 w : World} {G G' : Im} {H H' R' : Hp}
variable {n : Nat} {ds : List Deferred} {env : Env} {P : Program} {Q : Exit → Act → World → Prop} {ops : Array Oper} {late : List Nat} {S : World → Prop} {fuel : Nat} {L : Array Bool}

theorem r_start {id : Nat} {l : List Oper} (late : List Nat) (hm : P.follows .mixedOrders = true) (h : Holds n ds w0 env G H (wpR P l.toArray late Q (fun w => Sat w0 w G H) l.length (Array.replicate l.length false))) :
    Holds n ds w0 env G H ((Code.region id l.toArray true).wp P Q) := fun a w ht hs => by
  refine wp_region_any hm ?_
  have := wpAny_of_wpR _ _ _ _ (h a w.drew ht hs.drew)
  simpa using this

/-- Behind a panic no slot is looked at. -/
def PanicOk (Q : Exit → Act → World → Prop) : Prop := ∀ c a d v w, Q (.panic c) (Act.put a (some d) v) w → Q (.panic c) a w
theorem pk_then {nx : Act → World → Prop} (h : PanicOk Q) : PanicOk (Exit.then nx Q) := h
theorem pk_block {id : Nat} (h : PanicOk Q) : PanicOk (Exit.inBlock id Q) := h
theorem pk_body {fn : Func} {R : Ending → World → Prop} : PanicOk (bodyPost P fn R) := fun _ _ _ _ _ h => h

theorem r_take (i : Nat) {oi : Oper} {d : Nat} {v : Value} {G1 : Im} {H1 : Hp} (hi : ops[i]? = some oi) (hs : Region.noSelect ops = true) (hf : Region.free .any ops L i = true) (hr : (Region.ready .any ops L).contains i = true)
    (hl : lateOk ops late L i = true) (hg : gOn ops env oi = some true) (hdst : oi.dst = some d) (hd : Nat.blt d n = true) (hv : Val P env G H oi v) (hS : ∀ w, Sat w0 w G1 H1 → Sat w0 w G H) (hQ : PanicOk Q)
    (k : Holds n ds w0 ((d, v) :: env) G1 H1 (wpR P ops late Q (fun w => Sat w0 w G H) fuel (L.setIfInBounds i true))) :
    Holds n ds w0 env G1 H1 (wpR P ops late Q (fun w => Sat w0 w G H) (fuel + 1) L) := fun a w ht hw => by
  refine wpR_first hi (Region.noSelect_spec hs) (fun c a w h => hQ c a _ _ w (by rw [hdst] at h; exact h)) fuel L a w (Region.free_spec hi hf) hl (by simpa using hr) (.inl ⟨gOn_spec ht hg, fun w' hw' => hv a n ds w0 w' ht hw'⟩) (hS w hw) ?_
  rw [hdst]
  exact k _ w (ht.put (of_blt hd) v) hw
/-- The same with what is alike everywhere left to be found. -/
theorem r_tk (i : Nat) {oi : Oper} {d : Nat} {v : Value} {G1 : Im} {H1 : Hp} (hi : ops[i]? = some oi) (hdst : oi.dst = some d) (hv : Val P env G H oi v) (hS : ∀ w, Sat w0 w G1 H1 → Sat w0 w G H)
    (k : Holds n ds w0 ((d, v) :: env) G1 H1 (wpR P ops late Q (fun w => Sat w0 w G H) fuel (L.setIfInBounds i true)))
    (hs : Region.noSelect ops = true := by kernel_rfl) (hf : Region.free .any ops L i = true := by kernel_rfl) (hr : (Region.ready .any ops L).contains i = true := by kernel_rfl)
    (hl : lateOk ops late L i = true := by kernel_rfl) (hg : gOn ops env oi = some true := by exact rfl) (hd : Nat.blt d n = true := by exact rfl) (hQ : PanicOk Q := by repeat (first | exact pk_body | exact pk_no | exact pk_S | apply pk_then | apply pk_block)) :
    Holds n ds w0 env G1 H1 (wpR P ops late Q (fun w => Sat w0 w G H) (fuel + 1) L) := r_take i hi hs hf hr hl hg hdst hd hv hS hQ k
theorem r_skip (i : Nat) {oi : Oper} {d : Nat} {G1 : Im} {H1 : Hp} (hi : ops[i]? = some oi) (hs : Region.noSelect ops = true) (hf : Region.free .any ops L i = true) (hr : (Region.ready .any ops L).contains i = true)
    (hl : lateOk ops late L i = true) (hg : gOn ops env oi = some false) (hdst : oi.dst = some d) (hd : Nat.blt d n = true) (hS : ∀ w, Sat w0 w G1 H1 → Sat w0 w G H) (hQ : PanicOk Q)
    (k : Holds n ds w0 ((d, undef) :: env) G1 H1 (wpR P ops late Q (fun w => Sat w0 w G H) fuel (L.setIfInBounds i true))) :
    Holds n ds w0 env G1 H1 (wpR P ops late Q (fun w => Sat w0 w G H) (fuel + 1) L) := fun a w ht hw => by
  refine wpR_first hi (Region.noSelect_spec hs) (fun c a w h => hQ c a _ _ w (by rw [hdst] at h; exact h)) fuel L a w (Region.free_spec hi hf) hl (by simpa using hr) (.inr ⟨gOn_spec ht hg, rfl⟩) (hS w hw) ?_
  rw [hdst]
  exact k _ w (ht.put (of_blt hd) undef) hw

/-- The one operation that may come up is carried out. -/
theorem r_one (i : Nat) {o : Oper} (hr : Region.ready .any ops L = [i]) (ho : ops[i]? = some o)
    (k : Holds n ds w0 env G H (stepK P ops Q o (fun a w => (late.contains i = true ∨ S w) ∧ wpR P ops late Q S fuel (L.setIfInBounds i true) a w))) :
    Holds n ds w0 env G H (wpR P ops late Q S (fuel + 1) L) := fun a w ht hs => by
  refine ⟨fun h => (by rw [hr] at h; cases h), fun j hj => ?_⟩
  rw [hr] at hj
  have e : j = i := by simpa using hj
  subst e
  unfold wpOp
  rw [ho]
  exact k a w ht hs
/-- Two may come up: each first. -/
theorem r_two (i j : Nat) {o p : Oper} (hr : Region.ready .any ops L = [i, j]) (ho : ops[i]? = some o) (hp : ops[j]? = some p)
    (k : Holds n ds w0 env G H (stepK P ops Q o (fun a w => (late.contains i = true ∨ S w) ∧ wpR P ops late Q S fuel (L.setIfInBounds i true) a w)))
    (k' : Holds n ds w0 env G H (stepK P ops Q p (fun a w => (late.contains j = true ∨ S w) ∧ wpR P ops late Q S fuel (L.setIfInBounds j true) a w))) :
    Holds n ds w0 env G H (wpR P ops late Q S (fuel + 1) L) := fun a w ht hs => by
  refine ⟨fun h => (by rw [hr] at h; cases h), fun q hq => ?_⟩
  rw [hr] at hq
  have e : q = i ∨ q = j := by simpa using hq
  rcases e with rfl | rfl
  · unfold wpOp; rw [ho]; exact k a w ht hs
  · unfold wpOp; rw [hp]; exact k' a w ht hs
theorem r_next {c : Prop} (hS : ∀ w, Sat w0 w G H → S w) (k : Holds n ds w0 env G H (wpR P ops late Q S fuel L)) :
    Holds n ds w0 env G H (fun a w => (c ∨ S w) ∧ wpR P ops late Q S fuel L a w) := fun a w ht hs => ⟨.inr (hS w hs), k a w ht hs⟩
theorem r_late {c : Prop} (hc : c) (k : Holds n ds w0 env G H (wpR P ops late Q S fuel L)) :
    Holds n ds w0 env G H (fun a w => (c ∨ S w) ∧ wpR P ops late Q S fuel L a w) := fun a w ht hs => ⟨.inl hc, k a w ht hs⟩
theorem r_done (hr : Region.ready .any ops L = []) (k : Holds n ds w0 env G H (Q .normal)) : Holds n ds w0 env G H (wpR P ops late Q S fuel L) := fun a w ht hs => by
  cases fuel with
  | zero => exact ⟨hr, k a w ht hs⟩
  | succ f => exact ⟨fun _ => k a w ht hs, by rw [hr]; simp⟩
/-- From here on a narrower class of worlds is held. -/
theorem r_sub (G1 : Im) (H1 : Hp) (hS : ∀ w, Sat w0 w G1 H1 → S w) (k : Holds n ds w0 env G H (wpR P ops late Q (fun w => Sat w0 w G1 H1) fuel L)) : Holds n ds w0 env G H (wpR P ops late Q S fuel L) :=
  fun a w ht hs => wpR_mono hS _ _ _ _ (k a w ht hs)

/-! ### A loop's beginning and a round's end -/
theorem l_at {env' : Env} {K R' : Hp} (he : Env.sub env env') (hsp : Split H K R') : Holds n ds w0 env G H (fun a w => TT a n ds env' ∧ Sat w0 w G K) := fun a w ht hs => ⟨ht.mono (Env.sub_spec he), hs.only hsp⟩
theorem l_next {α : Type} {env' : α → Env} {G' : α → Im} {H' : α → Hp} {inv : α → Prop} {mu : α → Nat} {x : α} {R' : Hp} (y : α) (hy : inv y) (hm : mu y < mu x) (he : Env.sub env (env' y)) (hG : G' y = G) (hsp : Split H (H' y) R') :
    Holds n ds w0 env G H (fun a w => ∃ y, inv y ∧ mu y < mu x ∧ TT a n ds (env' y) ∧ Sat w0 w (G' y) (H' y)) := fun a w ht hs =>
  ⟨y, hy, hm, ht.mono (Env.sub_spec he), by rw [hG]; exact hs.only hsp⟩

/-! ### A function's beginning and end -/
def envOf : Nat → List Value → Env
  | _, [] => []
  | i, v :: r => (i, v) :: envOf (i + 1) r
theorem envOf_spec : ∀ (vs : List Value) (i j : Nat) (v : Value), (envOf i vs).lookup j = some v → i ≤ j ∧ vs[j - i]? = some v
  | [], _, _, _, h => by cases h
  | u :: r, i, j, v, h => by
    simp only [envOf, List.lookup] at h
    split at h
    · rename_i e
      have e' : j = i := by simpa using e
      subst e'; cases h; simp
    · rename_i e
      have e' : ¬ j = i := by simpa using e
      obtain ⟨h1, h2⟩ := envOf_spec r (i + 1) j v h
      refine ⟨by omega, ?_⟩
      have : j - i = (j - (i + 1)) + 1 := by omega
      rw [this, List.getElem?_cons_succ]; exact h2

theorem f_enter {f : FuncId} {fn : Func} {c : Code} {vs : List Value} {R : Ending → World → Prop} (hf : P.funcs[f]? = some fn) (hb : fn.body = some c) (hn : fn.ntmps = n) (hl : vs.length ≤ n) (hs : Sat w0 w G H)
    (h : Holds n [] w0 (envOf 0 vs) G H (c.wp P (bodyPost P fn R))) : Calls P f vs.toArray w R := by
  refine calls_of_wp hf hb (h _ w ⟨?_, rfl, fun i v hv => ?_⟩ hs)
  · simp [hn]; omega
  · obtain ⟨_, h2⟩ := envOf_spec vs 0 i v hv
    have hlt : i < vs.length := by simpa using (List.getElem?_eq_some_iff.1 h2).1
    rw [Array.getElem?_append_left (by simpa using hlt)]
    simpa using h2

theorem f_ret0 {fn : Func} {R : Ending → World → Prop} (hr : fn.results = #[]) (hR : ∀ w, Sat w0 w G H → R (.returned (.tuple #[])) w) : Holds n [] w0 env G H (bodyPost P fn R .ret) := fun a w ht hs =>
  ⟨ht.defers, _, results_none hr _ _ _, hR w hs⟩
theorem f_end0 {fn : Func} {R : Ending → World → Prop} (hr : fn.results = #[]) (hR : ∀ w, Sat w0 w G H → R (.returned (.tuple #[])) w) : Holds n [] w0 env G H (bodyPost P fn R .normal) := fun a w ht hs =>
  ⟨ht.defers, _, results_none hr _ _ _, hR w hs⟩
theorem TT.getD {a : Act} {t : Nat} {v : Value} (ht : TT a n ds env) (h : env.lookup t = some v) : a.tmps.getD t undef = v := by
  have := ht.get t v h
  simp [this]
theorem f_ret1 {fn : Func} {R : Ending → World → Prop} {t : Tmp} {v : Value} (hr : fn.results = #[.tmp t]) (hv : env.lookup t = some v) (hR : ∀ w, Sat w0 w G H → R (.returned v) w) : Holds n [] w0 env G H (bodyPost P fn R .ret) := fun a w ht hs =>
  ⟨ht.defers, v, by rw [results_tmp hr, ht.getD hv], hR w hs⟩
theorem f_ret2 {fn : Func} {R : Ending → World → Prop} {t u : Tmp} {v x : Value} (hr : fn.results = #[.tmp t, .tmp u]) (hv : env.lookup t = some v) (hx : env.lookup u = some x) (hR : ∀ w, Sat w0 w G H → R (.returned (.tuple #[v, x])) w) : Holds n [] w0 env G H (bodyPost P fn R .ret) := fun a w ht hs =>
  ⟨ht.defers, _, by rw [results_tmp2 hr, ht.getD hv, ht.getD hx], hR w hs⟩
theorem f_ret3 {fn : Func} {R : Ending → World → Prop} {t u s : Tmp} {v x y : Value} (hr : fn.results = #[.tmp t, .tmp u, .tmp s]) (hv : env.lookup t = some v) (hx : env.lookup u = some x) (hy : env.lookup s = some y)
    (hR : ∀ w, Sat w0 w G H → R (.returned (.tuple #[v, x, y])) w) : Holds n [] w0 env G H (bodyPost P fn R .ret) := fun a w ht hs =>
  ⟨ht.defers, .tuple #[v, x, y], by simp [results, hr, ht.getD hv, ht.getD hx, ht.getD hy]; exact ⟨by rw [← ht.getD hv]; simp, by rw [← ht.getD hx]; simp, by rw [← ht.getD hy]; simp⟩, hR w hs⟩
/-- A result that lies in a cell. -/
theorem f_retc {fn : Func} {R : Ending → World → Prop} {t : Tmp} {ty : TypeId} {b : Nat} {v : Value} (hr : fn.results = #[.cell t ty]) (hp : env.lookup t = some (Pt b 0)) (hb : Cel G H b 0 v) (ha : aggB P ty = some false)
    (hR : ∀ w, Sat w0 w G H → R (.returned v) w) : Holds n [] w0 env G H (bodyPost P fn R .ret) := fun a w ht hs => by
  have hc := hb.cell hs
  have hg := ht.get t _ hp
  exact ⟨ht.defers, v, by simp [results, hr, hg, asAddr, loadVar, run_isAgg' ha, hc], hR w hs⟩
theorem bp_panic {fn : Func} {R : Ending → World → Prop} {ch : List PanicEntry} (hR : ∀ w, Sat w0 w G H → R (.panicked ch) w) : Holds n [] w0 env G H (bodyPost P fn R (.panic ch)) := fun a w ht hs => ⟨ht.defers, hR w hs⟩

/-- The frame of a contract: what is called keeps the rest. -/
theorem Sat.app_nil (h : Sat w0 w G H) : Sat w0 w G ([] ++ H) := h
/-- At a law's beginning nothing is owned. -/
theorem Sat.start (w : World) : Sat w w (fun b => w.heap[b]?) [] :=
  ⟨rfl, rfl, rfl, Nat.le_refl _, fun _ _ h => h, by simp, by simp, by simp⟩
theorem Sat.below (h : Sat w0 w G H) (hG : Im.le (fun b => w0.heap[b]?) G) : Go.RowKit.Below w0.heap.size w0 w :=
  ⟨h.os, h.tape, h.output, h.size, fun k hk => by
    have : w0.heap[k]? = some w0.heap[k] := Array.getElem?_eq_getElem hk
    rw [this]; exact h.imm k _ (hG k _ this)⟩
end Go.Proofs.Ytkjneelekfdpfaa
