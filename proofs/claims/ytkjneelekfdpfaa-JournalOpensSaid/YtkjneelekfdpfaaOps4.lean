/- Arrays in memory, structs compared, numbers stepped. -/
import Derived.Test.YtkjneelekfdpfaaOps3
import Derived.Laws.StructEq
namespace Go.Proofs.Ytkjneelekfdpfaa
open Go
set_option linter.unusedVariables false
set_option linter.unusedSimpArgs false

/-- An array: how many elements, and how many cells each has. -/
def arB (P : Program) (t : TypeId) : Option (Nat × Nat) := match P.underlying t with
  | some (.array k e) => match szB P e with
    | some s => some (k, s)
    | none => none
  | _ => none
theorem arB_spec {P : Program} {t : TypeId} {k s : Nat} (h : arB P t = some (k, s)) : ∃ e, P.underlying t = some (.array k e) ∧ szB P e = some s := by
  unfold arB at h
  split at h
  · rename_i k' e hu
    split at h
    · rename_i s' h2; cases h; exact ⟨e, hu, h2⟩
    · cases h
  · cases h
/-- A struct of three int: its fields. -/
def st3B (P : Program) (t : TypeId) : Bool := match P.underlying t with
  | some (.struct fs) => match fs.toList with
    | [f, g, h] => i64B P f.type && i64B P g.type && i64B P h.type && f.offset == 0 && g.offset == 1 && h.offset == 2 && f.name != "_" && g.name != "_" && h.name != "_" && !P.stoodInHeld t && !P.eqGuardType P.depth t
    | _ => false
  | _ => false
section
variable {w0 w : World} {G G' : Im} {H H1 : Hp} {n : Nat} {ds : List Deferred} {env : Env} {P : Program} {R : Act → World → Prop} {ops : Array Oper} {Q : Exit → Act → World → Prop} {K : Act → World → Prop}
variable {dst : Option Tmp} {d : Nat} {ty : TypeId} {pos : String} {aft : Array Edge} {g : Option (Nat × Bool)}

theorem agg_i64 {t : TypeId} (h : i64B P t = true) : aggB P t = some false := by
  have := i64B_spec h
  unfold aggB; rw [this]; rfl
theorem run_part_i64 {t : TypeId} {xs : Array Value} {off : Nat} {v : Value} (h : i64B P t = true) (hx : xs[off]? = some v) : (part t xs off).run P w = .ok v w := by
  simp [part, run_isAgg' (agg_i64 h), hx]
theorem run_eq3 {t : TypeId} {a b c a' b' c' : Int} (h : st3B P t = true) (dp : Nat) :
    (Op.equalIn (dp + 2) t (.agg #[I64 a, I64 b, I64 c]) (.agg #[I64 a', I64 b', I64 c'])).run P w = .ok (decide (a = a') && decide (b = b') && decide (c = c')) w ∧ P.eqGuardType P.depth t = false := by
  unfold st3B at h
  split at h
  · rename_i fs hu
    split at h
    · rename_i f1 f2 f3 hfs
      simp only [Bool.and_eq_true, beq_iff_eq, bne_iff_ne, Bool.not_eq_true'] at h
      obtain ⟨⟨⟨⟨⟨⟨⟨⟨⟨⟨h1, h2⟩, h3⟩, o1⟩, o2⟩, o3⟩, n1⟩, n2⟩, n3⟩, hst⟩, heg⟩ := h
      refine ⟨?_, heg⟩
      have hf : P.fieldsOf t = fs := by unfold Program.fieldsOf; rw [hu]
      have hu' : P.underlying t = some (.struct (P.fieldsOf t)) := by rw [hf]; exact hu
      rw [run_equalIn_struct w (dp + 1) t _ _ hu' hst, hf, hfs]
      have p1 : ∀ (x y z : Value), (part f1.type #[x, y, z] f1.offset).run P w = .ok x w := fun x y z => run_part_i64 h1 (by rw [o1]; rfl)
      have p2 : ∀ (x y z : Value), (part f2.type #[x, y, z] f2.offset).run P w = .ok y w := fun x y z => run_part_i64 h2 (by rw [o2]; rfl)
      have p3 : ∀ (x y z : Value), (part f3.type #[x, y, z] f3.offset).run P w = .ok z w := fun x y z => run_part_i64 h3 (by rw [o3]; rfl)
      have e1 := fun p q => run_equalIn_int (P := P) w dp f1.type .i64 .i64 p q (i64B_spec h1)
      have e2 := fun p q => run_equalIn_int (P := P) w dp f2.type .i64 .i64 p q (i64B_spec h2)
      have e3 := fun p q => run_equalIn_int (P := P) w dp f3.type .i64 .i64 p q (i64B_spec h3)
      by_cases ha : a = a' <;> by_cases hb : b = b' <;> by_cases hc : c = c' <;> simp [Op.eqFields, n1, n2, n3, p1, p2, p3, e1, e2, e3, ha, hb, hc]
    · cases h
  · cases h
theorem v_eq3 {x y : Operand} {t t' : TypeId} {a b c a' b' c' : Int} (hx : ev env x = some (.agg #[I64 a, I64 b, I64 c])) (hy : ev env y = some (.agg #[I64 a', I64 b', I64 c'])) (h : st3B P t = true) :
    Val P env G H ⟨dst, .binOp .eql t x y t', ty, pos, aft, g⟩ (.bool (decide (a = a') && decide (b = b') && decide (c = c'))) := fun ac n ds w0 w ht hs => by
  obtain ⟨h1, h2⟩ := run_eq3 (w := w) (a := a) (b := b) (c := c) (a' := a') (b' := b') (c' := c') h 9998
  have h3 := run_eqGuard_agg (P := P) w .eql t x y #[I64 a, I64 b, I64 c] #[I64 a', I64 b', I64 c'] h2
  simp only [execOp, ht.eval hx, ht.eval hy, Sem.run_bind, h3, Result.andThen_ok, run_eql_struct, h1, Sem.run_pure]
theorem v_ne3 {x y : Operand} {t t' : TypeId} {a b c a' b' c' : Int} (hx : ev env x = some (.agg #[I64 a, I64 b, I64 c])) (hy : ev env y = some (.agg #[I64 a', I64 b', I64 c'])) (h : st3B P t = true) :
    Val P env G H ⟨dst, .binOp .neq t x y t', ty, pos, aft, g⟩ (.bool (!(decide (a = a') && decide (b = b') && decide (c = c')))) := fun ac n ds w0 w ht hs => by
  obtain ⟨h1, h2⟩ := run_eq3 (w := w) (a := a) (b := b) (c := c) (a' := a') (b' := b') (c' := c') h 9998
  have h3 := run_eqGuard_agg (P := P) w .neq t x y #[I64 a, I64 b, I64 c] #[I64 a', I64 b', I64 c'] h2
  simp only [execOp, ht.eval hx, ht.eval hy, Sem.run_bind, h3, Result.andThen_ok, run_neq_struct, h1, Sem.run_pure]

/-- A comparison whose answer is known. -/
theorem v_t {o : Oper} {p : Prop} {hd : Decidable p} (hv : Val P env G H o (.bool (@decide p hd))) (h : p) : Val P env G H o (.bool true) := by rwa [decide_eq_true h] at hv
theorem v_f {o : Oper} {p : Prop} {hd : Decidable p} (hv : Val P env G H o (.bool (@decide p hd))) (h : ¬ p) : Val P env G H o (.bool false) := by rwa [decide_eq_false h] at hv
theorem v_is {o : Oper} {v u : Value} (hv : Val P env G H o v) (h : v = u) : Val P env G H o u := h ▸ hv

theorem v_indexA (k sz : Nat) {x i : Operand} {t : TypeId} {b o : Nat} {p : Int} (hx : ev env x = some (Pt b o)) (hi : ev env i = some (I64 p)) (hu : arB P t = some (k, sz))
    (hp : 0 ≤ p ∧ p < k) : Val P env G H ⟨dst, .indexAddr t x i, ty, pos, aft, g⟩ (Pt b (o + p.toNat * sz)) := fun a n ds w0 w ht hs => by
  obtain ⟨e, hu1, hz⟩ := arB_spec hu
  simp [execOp, Instr.indexAt, Instr.sureAddr, asIntOf, ht.eval hx, ht.eval hi, run_underlying hu1, hp.1, hp.2, run_sizeOf' hz, addr_add]
end
end Go.Proofs.Ytkjneelekfdpfaa
