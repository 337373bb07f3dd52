/- A delta: a change of a file; two compared. -/
import Derived.Test.YtchnoipjfaocbaaDoorOps5
namespace Go.Proofs.YtchnoipjfaocbaaDoor
open Go
set_option linter.unusedVariables false
set_option linter.unusedSimpArgs false
set_option maxHeartbeats 1600000
/-- A change of a file: what it does, of which file, which block, to which size; to which pointer, from which. -/
structure Dl where
  d : Int
  i : Int
  b : Int
  s : Int
  t : P5
  o : P5
  deriving DecidableEq
abbrev Dl.cells (x : Dl) : List Value := [I64 x.d, I64 x.i, I64 x.b, I64 x.s, I64 x.t.c, I64 x.t.l, I64 x.t.n, I64 x.t.a, I64 x.t.k, I64 x.o.c, I64 x.o.l, I64 x.o.n, I64 x.o.a, I64 x.o.k]
abbrev Dl.V (x : Dl) : Value := .agg #[I64 x.d, I64 x.i, I64 x.b, I64 x.s, I64 x.t.c, I64 x.t.l, I64 x.t.n, I64 x.t.a, I64 x.t.k, I64 x.o.c, I64 x.o.l, I64 x.o.n, I64 x.o.a, I64 x.o.k]
/-- A struct of four int and two pointers of bytes. -/
def st14B (P : Program) (t : TypeId) : Bool := match P.underlying t with
  | some (.struct fs) => match fs.toList with
    | [f, g, h, i, p, q] => i64B P f.type && i64B P g.type && i64B P h.type && i64B P i.type && (st5B P p.type && (szB P p.type == some 5) && (aggB P p.type == some true)) && (st5B P q.type && (szB P q.type == some 5) && (aggB P q.type == some true)) && (f.offset == 0 && g.offset == 1 && h.offset == 2 && i.offset == 3 && p.offset == 4 && q.offset == 9) && (f.name != "_" && g.name != "_" && h.name != "_" && i.name != "_" && p.name != "_" && q.name != "_") && (!P.stoodInHeld t && !P.eqGuardType P.depth t)
    | _ => false
  | _ => false
section
variable {w0 w : World} {G G' : Im} {H H1 : Hp} {n : Nat} {ds : List Deferred} {env : Env} {P : Program} {R : Act → World → Prop} {ops : Array Oper} {Q : Exit → Act → World → Prop} {K : Act → World → Prop}
variable {dst : Option Tmp} {d : Nat} {ty : TypeId} {pos : String} {aft : Array Edge} {g : Option (Nat × Bool)}

theorem dl_eq (x y : Dl) : decide (x = y) = (decide (x.d = y.d) && (decide (x.i = y.i) && (decide (x.b = y.b) && (decide (x.s = y.s) && (decide (x.t = y.t) && decide (x.o = y.o)))))) := by
  cases x; cases y; simp
theorem run_eq14 {t : TypeId} (x y : Dl) (h : st14B P t = true) (dp : Nat) : (Op.equalIn (dp + 4) t x.V y.V).run P w = .ok (decide (x = y)) w ∧ P.eqGuardType P.depth t = false := by
  unfold st14B at h
  split at h
  · rename_i fs hu
    split at h
    · rename_i f1 f2 f3 f4 f5 f6 hfs
      simp only [Bool.and_eq_true, beq_iff_eq, bne_iff_ne, Bool.not_eq_true'] at h
      obtain ⟨⟨⟨⟨⟨⟨⟨⟨h1, h2⟩, h3⟩, h4⟩, ⟨⟨h5, z5⟩, a5⟩⟩, ⟨⟨h6, z6⟩, a6⟩⟩, ⟨⟨⟨⟨⟨o1, o2⟩, o3⟩, o4⟩, o5⟩, o6⟩⟩, ⟨⟨⟨⟨⟨n1, n2⟩, n3⟩, n4⟩, n5⟩, n6⟩⟩, hst, heg⟩ := h
      refine ⟨?_, heg⟩
      have hf : P.fieldsOf t = fs := by unfold Program.fieldsOf; rw [hu]
      have hu' : P.underlying t = some (.struct (P.fieldsOf t)) := by rw [hf]; exact hu
      rw [run_equalIn_struct w (dp + 3) t _ _ hu' hst, hf, hfs]
      have p1 : ∀ (v1 v2 v3 v4 v5 v6 v7 v8 v9 v10 v11 v12 v13 v14 : Value), (part f1.type #[v1, v2, v3, v4, v5, v6, v7, v8, v9, v10, v11, v12, v13, v14] f1.offset).run P w = .ok v1 w := fun v1 v2 v3 v4 v5 v6 v7 v8 v9 v10 v11 v12 v13 v14 => run_part_i64 h1 (by rw [o1]; rfl)
      have p2 : ∀ (v1 v2 v3 v4 v5 v6 v7 v8 v9 v10 v11 v12 v13 v14 : Value), (part f2.type #[v1, v2, v3, v4, v5, v6, v7, v8, v9, v10, v11, v12, v13, v14] f2.offset).run P w = .ok v2 w := fun v1 v2 v3 v4 v5 v6 v7 v8 v9 v10 v11 v12 v13 v14 => run_part_i64 h2 (by rw [o2]; rfl)
      have p3 : ∀ (v1 v2 v3 v4 v5 v6 v7 v8 v9 v10 v11 v12 v13 v14 : Value), (part f3.type #[v1, v2, v3, v4, v5, v6, v7, v8, v9, v10, v11, v12, v13, v14] f3.offset).run P w = .ok v3 w := fun v1 v2 v3 v4 v5 v6 v7 v8 v9 v10 v11 v12 v13 v14 => run_part_i64 h3 (by rw [o3]; rfl)
      have p4 : ∀ (v1 v2 v3 v4 v5 v6 v7 v8 v9 v10 v11 v12 v13 v14 : Value), (part f4.type #[v1, v2, v3, v4, v5, v6, v7, v8, v9, v10, v11, v12, v13, v14] f4.offset).run P w = .ok v4 w := fun v1 v2 v3 v4 v5 v6 v7 v8 v9 v10 v11 v12 v13 v14 => run_part_i64 h4 (by rw [o4]; rfl)
      have p5 : ∀ (v1 v2 v3 v4 v5 v6 v7 v8 v9 v10 v11 v12 v13 v14 : Value), (part f5.type #[v1, v2, v3, v4, v5, v6, v7, v8, v9, v10, v11, v12, v13, v14] f5.offset).run P w = .ok (.agg #[v5, v6, v7, v8, v9]) w := fun v1 v2 v3 v4 v5 v6 v7 v8 v9 v10 v11 v12 v13 v14 => by rw [o5, run_part_agg a5 z5]; rfl
      have p6 : ∀ (v1 v2 v3 v4 v5 v6 v7 v8 v9 v10 v11 v12 v13 v14 : Value), (part f6.type #[v1, v2, v3, v4, v5, v6, v7, v8, v9, v10, v11, v12, v13, v14] f6.offset).run P w = .ok (.agg #[v10, v11, v12, v13, v14]) w := fun v1 v2 v3 v4 v5 v6 v7 v8 v9 v10 v11 v12 v13 v14 => by rw [o6, run_part_agg a6 z6]; rfl
      have e1 : (Op.equalIn (dp + 3) f1.type (I64 x.d) (I64 y.d)).run P w = .ok (decide (x.d = y.d)) w := run_equalIn_int (P := P) w (dp + 2) f1.type .i64 .i64 x.d y.d (i64B_spec h1)
      have e2 : (Op.equalIn (dp + 3) f2.type (I64 x.i) (I64 y.i)).run P w = .ok (decide (x.i = y.i)) w := run_equalIn_int (P := P) w (dp + 2) f2.type .i64 .i64 x.i y.i (i64B_spec h2)
      have e3 : (Op.equalIn (dp + 3) f3.type (I64 x.b) (I64 y.b)).run P w = .ok (decide (x.b = y.b)) w := run_equalIn_int (P := P) w (dp + 2) f3.type .i64 .i64 x.b y.b (i64B_spec h3)
      have e4 : (Op.equalIn (dp + 3) f4.type (I64 x.s) (I64 y.s)).run P w = .ok (decide (x.s = y.s)) w := run_equalIn_int (P := P) w (dp + 2) f4.type .i64 .i64 x.s y.s (i64B_spec h4)
      have e5 := (run_eq5 (w := w) x.t y.t h5 dp).1
      have e6 := (run_eq5 (w := w) x.o y.o h6 dp).1
      rw [dl_eq]
      generalize decide (x.d = y.d) = β1 at e1 ⊢
      generalize decide (x.i = y.i) = β2 at e2 ⊢
      generalize decide (x.b = y.b) = β3 at e3 ⊢
      generalize decide (x.s = y.s) = β4 at e4 ⊢
      generalize decide (x.t = y.t) = β5 at e5 ⊢
      generalize decide (x.o = y.o) = β6 at e6 ⊢
      cases β1
      · simp [Op.eqFields, n1, n2, n3, n4, n5, n6, p1, p2, p3, p4, p5, p6, e1]
      cases β2
      · simp [Op.eqFields, n1, n2, n3, n4, n5, n6, p1, p2, p3, p4, p5, p6, e1, e2]
      cases β3
      · simp [Op.eqFields, n1, n2, n3, n4, n5, n6, p1, p2, p3, p4, p5, p6, e1, e2, e3]
      cases β4
      · simp [Op.eqFields, n1, n2, n3, n4, n5, n6, p1, p2, p3, p4, p5, p6, e1, e2, e3, e4]
      cases β5
      · simp [Op.eqFields, n1, n2, n3, n4, n5, n6, p1, p2, p3, p4, p5, p6, e1, e2, e3, e4, e5]
      · cases β6 <;> simp [Op.eqFields, n1, n2, n3, n4, n5, n6, p1, p2, p3, p4, p5, p6, e1, e2, e3, e4, e5, e6]
    · cases h
  · cases h
theorem v_eqD (p q : Dl) {x y : Operand} {t t' : TypeId} (hx : ev env x = some p.V) (hy : ev env y = some q.V) (h : st14B P t = true) :
    Val P env G H ⟨dst, .binOp .eql t x y t', ty, pos, aft, g⟩ (.bool (decide (p = q))) := fun ac n ds w0 w ht hs => by
  obtain ⟨h1, h2⟩ := run_eq14 (w := w) p q h 9996
  have h3 := run_eqGuard_agg (P := P) w .eql t x y #[I64 p.d, I64 p.i, I64 p.b, I64 p.s, I64 p.t.c, I64 p.t.l, I64 p.t.n, I64 p.t.a, I64 p.t.k, I64 p.o.c, I64 p.o.l, I64 p.o.n, I64 p.o.a, I64 p.o.k] #[I64 q.d, I64 q.i, I64 q.b, I64 q.s, I64 q.t.c, I64 q.t.l, I64 q.t.n, I64 q.t.a, I64 q.t.k, I64 q.o.c, I64 q.o.l, I64 q.o.n, I64 q.o.a, I64 q.o.k] h2
  simp only [execOp, ht.eval hx, ht.eval hy, Sem.run_bind, h3, Result.andThen_ok, run_eql_struct, h1, Sem.run_pure]
theorem v_neD (p q : Dl) {x y : Operand} {t t' : TypeId} (hx : ev env x = some p.V) (hy : ev env y = some q.V) (h : st14B P t = true) :
    Val P env G H ⟨dst, .binOp .neq t x y t', ty, pos, aft, g⟩ (.bool (!decide (p = q))) := fun ac n ds w0 w ht hs => by
  obtain ⟨h1, h2⟩ := run_eq14 (w := w) p q h 9996
  have h3 := run_eqGuard_agg (P := P) w .neq t x y #[I64 p.d, I64 p.i, I64 p.b, I64 p.s, I64 p.t.c, I64 p.t.l, I64 p.t.n, I64 p.t.a, I64 p.t.k, I64 p.o.c, I64 p.o.l, I64 p.o.n, I64 p.o.a, I64 p.o.k] #[I64 q.d, I64 q.i, I64 q.b, I64 q.s, I64 q.t.c, I64 q.t.l, I64 q.t.n, I64 q.t.a, I64 q.t.k, I64 q.o.c, I64 q.o.l, I64 q.o.n, I64 q.o.a, I64 q.o.k] h2
  simp only [execOp, ht.eval hx, ht.eval hy, Sem.run_bind, h3, Result.andThen_ok, run_neq_struct, h1, Sem.run_pure]
end
end Go.Proofs.YtchnoipjfaocbaaDoor
