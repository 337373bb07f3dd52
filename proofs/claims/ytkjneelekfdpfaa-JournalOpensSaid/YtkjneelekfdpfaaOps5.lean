/- Slices whose block may be longer than they are; room made by append; structs of five int compared. -/
import Derived.Test.YtkjneelekfdpfaaOps4
import Derived.Test.YtkjneelekfdpfaaRecV
import Derived.Test.YtkjneelekfdpfaaSub
import Derived.Test.YtkjneelekfdpfaaRegion2
namespace Go.Proofs.Ytkjneelekfdpfaa
open Go
set_option linter.unusedVariables false
set_option linter.unusedSimpArgs false

/-- A pointer to bytes of a stripe: five numbers. -/
structure P5 where
  c : Int
  l : Int
  n : Int
  a : Int
  k : Int
  deriving DecidableEq
abbrev P5.cells (x : P5) : List Value := [I64 x.c, I64 x.l, I64 x.n, I64 x.a, I64 x.k]
abbrev P5.V (x : P5) : Value := .agg #[I64 x.c, I64 x.l, I64 x.n, I64 x.a, I64 x.k]
def p0 : P5 := ⟨0, 0, 0, 0, 0⟩
/-- A struct of a struct of three int, and two int. -/
def st5B (P : Program) (t : TypeId) : Bool := match P.underlying t with
  | some (.struct fs) => match fs.toList with
    | [f, g, h] => st3B P f.type && (szB P f.type == some 3) && (aggB P f.type == some true) && i64B P g.type && i64B P h.type && f.offset == 0 && g.offset == 3 && h.offset == 4 && f.name != "_" && g.name != "_" && h.name != "_" && !P.stoodInHeld t && !P.eqGuardType P.depth t
    | _ => false
  | _ => false
section
variable {w0 w : World} {G G' : Im} {H H1 : Hp} {n : Nat} {ds : List Deferred} {env : Env} {P : Program} {R : Act → World → Prop} {ops : Array Oper} {Q : Exit → Act → World → Prop} {K : Act → World → Prop}
variable {dst : Option Tmp} {d : Nat} {ty : TypeId} {pos : String} {aft : Array Edge} {g : Option (Nat × Bool)}

theorem run_part_agg {t : TypeId} {xs : Array Value} {off s : Nat} (ha : aggB P t = some true) (hz : szB P t = some s) : (part t xs off).run P w = .ok (.agg (xs.extract off (off + s))) w := by
  simp [part, run_isAgg' ha, run_sizeOf' hz]
theorem run_eq5 {t : TypeId} (x y : P5) (h : st5B P t = true) (dp : Nat) : (Op.equalIn (dp + 3) t x.V y.V).run P w = .ok (decide (x = y)) w ∧ P.eqGuardType P.depth t = false := by
  unfold st5B at h
  split at h
  · rename_i fs hu
    split at h
    · rename_i f1 f2 f3 hfs
      simp only [Bool.and_eq_true, beq_iff_eq, bne_iff_ne, Bool.not_eq_true'] at h
      obtain ⟨⟨⟨⟨⟨⟨⟨⟨⟨⟨⟨⟨h1, hz⟩, ha⟩, h2⟩, h3⟩, o1⟩, o2⟩, o3⟩, n1⟩, n2⟩, n3⟩, hst⟩, heg⟩ := h
      refine ⟨?_, heg⟩
      have hf : P.fieldsOf t = fs := by unfold Program.fieldsOf; rw [hu]
      have hu' : P.underlying t = some (.struct (P.fieldsOf t)) := by rw [hf]; exact hu
      rw [run_equalIn_struct w (dp + 2) t _ _ hu' hst, hf, hfs]
      have p1 : ∀ (v1 v2 v3 v4 v5 : Value), (part f1.type #[v1, v2, v3, v4, v5] f1.offset).run P w = .ok (.agg #[v1, v2, v3]) w := fun v1 v2 v3 v4 v5 => by rw [o1, run_part_agg ha hz]; rfl
      have p2 : ∀ (v1 v2 v3 v4 v5 : Value), (part f2.type #[v1, v2, v3, v4, v5] f2.offset).run P w = .ok v4 w := fun v1 v2 v3 v4 v5 => run_part_i64 h2 (by rw [o2]; rfl)
      have p3 : ∀ (v1 v2 v3 v4 v5 : Value), (part f3.type #[v1, v2, v3, v4, v5] f3.offset).run P w = .ok v5 w := fun v1 v2 v3 v4 v5 => run_part_i64 h3 (by rw [o3]; rfl)
      have e1 := (run_eq3 (w := w) (a := x.c) (b := x.l) (c := x.n) (a' := y.c) (b' := y.l) (c' := y.n) h1 dp).1
      have e2 := fun p q => run_equalIn_int (P := P) w (dp + 1) f2.type .i64 .i64 p q (i64B_spec h2)
      have e3 := fun p q => run_equalIn_int (P := P) w (dp + 1) f3.type .i64 .i64 p q (i64B_spec h3)
      have hd : decide (x = y) = (((decide (x.c = y.c) && decide (x.l = y.l) && decide (x.n = y.n)) && decide (x.a = y.a)) && decide (x.k = y.k)) := by
        cases x; cases y; simp [Bool.and_assoc]
      rw [hd]
      generalize (decide (x.c = y.c) && decide (x.l = y.l) && decide (x.n = y.n)) = β at e1 ⊢
      cases β
      · simp [Op.eqFields, n1, n2, n3, p1, p2, p3, e1]
      · by_cases hb : x.a = y.a <;> by_cases hk : x.k = y.k <;> simp [Op.eqFields, n1, n2, n3, p1, p2, p3, e1, e2, e3, hb, hk]
    · cases h
  · cases h
theorem v_eqP (p q : P5) {x y : Operand} {t t' : TypeId} (hx : ev env x = some p.V) (hy : ev env y = some q.V) (h : st5B P t = true) :
    Val P env G H ⟨dst, .binOp .eql t x y t', ty, pos, aft, g⟩ (.bool (decide (p = q))) := fun ac n ds w0 w ht hs => by
  obtain ⟨h1, h2⟩ := run_eq5 (w := w) p q h 9997
  have h3 := run_eqGuard_agg (P := P) w .eql t x y #[I64 p.c, I64 p.l, I64 p.n, I64 p.a, I64 p.k] #[I64 q.c, I64 q.l, I64 q.n, I64 q.a, I64 q.k] h2
  simp only [execOp, ht.eval hx, ht.eval hy, Sem.run_bind, h3, Result.andThen_ok, run_eql_struct, h1, Sem.run_pure]
theorem v_neP (p q : P5) {x y : Operand} {t t' : TypeId} (hx : ev env x = some p.V) (hy : ev env y = some q.V) (h : st5B P t = true) :
    Val P env G H ⟨dst, .binOp .neq t x y t', ty, pos, aft, g⟩ (.bool (!decide (p = q))) := fun ac n ds w0 w ht hs => by
  obtain ⟨h1, h2⟩ := run_eq5 (w := w) p q h 9997
  have h3 := run_eqGuard_agg (P := P) w .neq t x y #[I64 p.c, I64 p.l, I64 p.n, I64 p.a, I64 p.k] #[I64 q.c, I64 q.l, I64 q.n, I64 q.a, I64 q.k] h2
  simp only [execOp, ht.eval hx, ht.eval hy, Sem.run_bind, h3, Result.andThen_ok, run_neq_struct, h1, Sem.run_pure]

theorem s_storeAt {t t' : TypeId} {x y : Operand} {b o : Nat} {vs L : List Value} (hg : gOn ops env ⟨none, .store t x y, ty, pos, aft, g⟩ = some true)
    (hx : ev env x = some (Pt b o)) (hy : ev env y = some (.agg vs.toArray)) (hp : Pick b (Cs L t') H H1) (hz : szB P t = some vs.length) (h1 : ∀ u ∈ vs, u.oneCell' = true) (hl : o + vs.length ≤ L.length)
    (k : Holds n ds w0 env G ((b, Cs (L.take o ++ vs ++ L.drop (o + vs.length)) t') :: H1) K) :
    Holds n ds w0 env G H (stepK P ops Q ⟨none, .store t x y, ty, pos, aft, g⟩ K) := by
  refine s_store hg hx hy hp (by simpa [Value.cells] using hz) (by simpa [Value.cells] using h1) (by simpa [Value.cells] using hl) ?_
  simpa [Value.cells] using k
theorem Recs.set {α V : Type} {s : Nat} {R : List V → α → Prop} {L : List V} {xs : List α} (h : Recs s R L xs) {j : Nat} (hj : j < xs.length) {c : List V} {x : α} (hc : c.length = s) (hR : R c x) : Recs s R (L.take (j * s) ++ c ++ L.drop (j * s + s)) (xs.set j x) := by
  have h1 := ((h.take j).append (Recs.one hc hR)).append (h.drop (j + 1))
  rw [Nat.add_mul, Nat.one_mul] at h1
  have : xs.take j ++ [x] ++ xs.drop (j + 1) = xs.set j x := (by rw [List.set_eq_take_append_cons_drop, if_pos hj]; simp)
  rwa [this] at h1

/-- An own slice of the records xs; its block may be longer. -/
def LOwn {α : Type} (s : Nat) (R : List Value → α → Prop) (e : TypeId) (v : Value) (xs : List α) (B : Hp) : Prop :=
  (∃ ad, v = .slice ad 0 0 ∧ xs = [] ∧ B = []) ∨ ∃ b c L sl, v = Sl b 0 xs.length c ∧ xs.length ≤ c ∧ c ≤ maxLen ∧ B = [(b, Cs (L ++ sl) e)] ∧ Recs s R L xs
section
variable {α : Type} {s : Nat} {Rc : List Value → α → Prop} {e : TypeId} {v : Value} {xs : List α} {B : Hp}
theorem LOwn.zero (ad : Option Addr) : LOwn s Rc e (.slice ad 0 0) [] [] := .inl ⟨ad, rfl, rfl, rfl⟩
theorem LOwn.form (h : LOwn s Rc e v xs B) : ∃ ad c, v = .slice ad xs.length c ∧ xs.length ≤ c ∧ c ≤ maxLen := by
  rcases h with ⟨ad, rfl, rfl, _⟩ | ⟨b, c, L, sl, rfl, h1, h2, _⟩
  · exact ⟨ad, 0, rfl, Nat.le_refl _, by simp [maxLen]⟩
  · exact ⟨_, c, rfl, h1, h2⟩
theorem LOwn.here (h : LOwn s Rc e v xs B) (hB : ∀ p, p ∈ B → p ∈ H) : RecH s (fun _ => Rc) G H v xs := by
  rcases h with ⟨ad, rfl, rfl, _⟩ | ⟨b, c, L, sl, rfl, h1, h2, rfl, h3⟩
  · exact ⟨[], ⟨ad, 0, rfl, Nat.le_refl _, by simp [maxLen], .inl ⟨rfl, fun _ => rfl⟩⟩, Recs.nil⟩
  · refine ⟨L, ⟨_, c, rfl, h1, h2, .inr ⟨b, 0, rfl, fun j u hj => ⟨_, _, _, .inr (hB _ (List.mem_singleton.2 rfl)), ?_⟩⟩⟩, h3⟩
    simp only [List.getElem?_toArray, Nat.zero_add]
    rw [List.getElem?_append_left (List.getElem?_eq_some_iff.1 hj).1]; exact hj
/-- s[:k:k] -/
theorem LOwn.cut {ad : Option Addr} {c : Nat} (h : LOwn s Rc e (.slice ad xs.length c) xs B) (k : Nat) (hk : k ≤ xs.length) : ∃ B', (∀ f : Nat × Obj → Nat, (B'.map f).sum ≤ (B.map f).sum) ∧ LOwn s Rc e (.slice ad k k) (xs.take k) B' := by
  by_cases h0 : k = 0
  · subst h0; exact ⟨[], by simp, .inl ⟨ad, rfl, by simp, rfl⟩⟩
  · rcases h with ⟨ad', hv, rfl, _⟩ | ⟨b, c', L, sl, hv, h1, h2, rfl, h3⟩
    · simp at hk; omega
    · cases hv
      have hl : (xs.take k).length = k := by rw [List.length_take]; omega
      refine ⟨_, fun f => Nat.le_refl _, .inr ⟨b, k, L.take (k * s), L.drop (k * s) ++ sl, by rw [hl], by rw [hl]; exact Nat.le_refl _, by omega, ?_, h3.take k⟩⟩
      rw [← List.append_assoc, List.take_append_drop]
/-- A record is put into it. -/
theorem LOwn.put (h : LOwn s Rc e v xs B) (j : Nat) (hj : j < xs.length) : ∃ b c L, v = Sl b 0 xs.length c ∧ B = [(b, Cs L e)] ∧ j * s + s ≤ L.length ∧
    ∀ (cs : List Value) (x : α), cs.length = s → Rc cs x → LOwn s Rc e v (xs.set j x) [(b, Cs (L.take (j * s) ++ cs ++ L.drop (j * s + s)) e)] := by
  rcases h with ⟨ad', hv, rfl, _⟩ | ⟨b, c, L, sl, rfl, h1, h2, rfl, h3⟩
  · simp at hj
  · have h4 : (j + 1) * s ≤ xs.length * s := Nat.mul_le_mul_right _ hj
    rw [Nat.add_mul, Nat.one_mul] at h4
    have hL : L.length = xs.length * s := h3.1
    refine ⟨b, c, L ++ sl, rfl, rfl, by rw [List.length_append]; omega, fun cs x hc hx => ?_⟩
    refine .inr ⟨b, c, L.take (j * s) ++ cs ++ L.drop (j * s + s), sl, by rw [List.length_set], by rw [List.length_set]; exact h1, h2, ?_, h3.set hj hc hx⟩
    have hle : j * s + s ≤ L.length := by omega
    rw [List.take_append_of_le_length (by omega), List.drop_append_of_le_length hle, List.append_assoc, List.append_assoc, List.append_assoc]
theorem LOwn.of_own {k : Nat} {L : List Value} (h : Own v k L e s B) (hR : Recs s Rc L xs) (hk : k = xs.length) : LOwn s Rc e v xs B := by
  subst hk
  obtain ⟨hl, ⟨ad, rfl, h0, rfl⟩ | ⟨b, c, sl, rfl, hc, hkc, _, rfl⟩⟩ := h
  · have : xs = [] := List.eq_nil_of_length_eq_zero h0
    subst this; exact .inl ⟨ad, rfl, rfl, rfl⟩
  · exact .inr ⟨b, c, L, sl, rfl, hkc, hc, rfl, hR⟩

theorem run_append_zgrow {t ti ty e : TypeId} {i : TypeInfo} {z : Value} (ht : P.underlying t = some (.slice e)) (hti : P.underlying ti = some (.int .i64)) (hi : P.info? e = some i) (hz : i.zero = some z)
    (ad : Option Addr) (k : Nat) (olds : List Value) (hf : (Builtin.firstCells i.size k (.slice ad k k)).run P w.drew = .ok olds.toArray w.drew) (m : Nat)
    (h0 : 0 < m) (hs0 : 0 < i.size) (hm : (m : Int) * i.bytes ≤ 281474976710656) (hmm : (m : Int) ≤ 9223372036854775807) (h63 : ((k + m : Nat) : Int) ≤ 9223372036854775807) (hfit : Builtin.nextslicecap (k + m) k * i.bytes ≤ 281474976710656) :
    (Builtin.append_ #[t, ti] ty #[.slice ad k k, .int .i64 (m : Int)]).run P w =
      .ok (.slice (some ⟨w.heap.size, 0, none⟩) (k + m) (grownCap w (k + m) k e))
        (w.drew.alloc (.cells (olds.toArray ++ Builtin.zeroCells z.cells m ++ Builtin.zeroCells z.cells (grownCap w (k + m) k e - (k + m))) e)) := by
  have hn : ¬ (k + m ≤ k) := by omega
  have hwrap : IntKind.i64.wrap (m : Int) = m := IntWalk.i64_in _ ⟨by omega, hmm⟩
  have hneg : ¬ ((m : Int) < 0) := by omega
  have hbig : ¬ (281474976710656 < (m : Int) * i.bytes) := by omega
  have h63' : ¬ (9223372036854775807 < ((k : Int) + (m : Int))) := by omega
  have h48' : ¬ (281474976710656 < Builtin.nextslicecap (k + m) k * i.bytes) := by omega
  have hm0 : ¬ (m * i.size = 0) := by intro h; rcases Nat.mul_eq_zero.1 h with h | h <;> omega
  have hm1 : ¬ m = 0 := by omega
  have hs1 : ¬ i.size = 0 := by omega
  have hmx : ¬ (9223372036854775807 < (k : Int) + max (m : Int) 0) := by omega
  simp [Builtin.append_, run_underlying ht, run_underlying hti, sizeOf, typeInfo, zeroValue, hi, hz, asInt, asIntOf, hwrap, hmx, hneg, hbig, hn, h63', h48', Question.forced, hf, newRow, grownCap, hm0, hm1, hs1]

theorem recs_zeros {α : Type} {Rc : List Value → α → Prop} {z : Value} {x0 : α} (m : Nat) (hz : 0 < z.cells.size) (hx : Rc z.cells.toList x0) : Recs z.cells.size Rc (Builtin.zeroCells z.cells m).toList (List.replicate m x0) := by
  refine ⟨by rw [Array.length_toList, size_zeroCells, List.length_replicate], fun j x hj => ?_⟩
  have hjm : j < m := by have := (List.getElem?_eq_some_iff.1 hj).1; simpa using this
  have hxe : x = x0 := by have := List.mem_of_getElem? hj; exact List.eq_of_mem_replicate this
  subst hxe
  have hmul : (j + 1) * z.cells.size ≤ m * z.cells.size := Nat.mul_le_mul_right _ hjm
  rw [Nat.add_mul, Nat.one_mul] at hmul
  have : ((Builtin.zeroCells z.cells m).toList.drop (j * z.cells.size)).take z.cells.size = z.cells.toList := by
    apply List.ext_getElem
    · simp [Builtin.zeroCells]; omega
    · intro f h1 h2
      have hf : f < z.cells.size := by simpa using h2
      have hmod : (j * z.cells.size + f) % z.cells.size = f := by rw [Nat.mul_comm, Nat.mul_add_mod, Nat.mod_eq_of_lt hf]
      simp [Builtin.zeroCells, hmod, hf]
  rw [this]; exact hx
theorem s_appendZ {α : Type} {Rc : List Value → α → Prop} {s x : Operand} {t ti e : TypeId} {z : Value} {sz bs : Nat} {ad : Option Addr} {k m : Nat} {xs : List α} {L : List Value} (x0 : α)
    (hm : mkB P t = some (e, z, sz, bs)) (hti : i64B P ti = true) (hs : ev env s = some (.slice ad k k)) (hx : ev env x = some (I64 (m : Int)))
    (hg : gOn ops env ⟨some d, .call { callee := .builtin .append, args := #[s, x], argTypes := #[t, ti] }, ty, pos, aft, g⟩ = some true) (hd : Nat.blt d n = true)
    (hsl : SV G H (.slice ad k k) k L) (hR : Recs sz Rc L xs) (hk : k = xs.length) (hz : z.cells.size = sz) (hsz : 0 < sz) (hx0 : Rc z.cells.toList x0) (h0 : 0 < m) (h63 : k + m ≤ 1000000) (hb : bs ≤ 10000)
    (hK : ∀ v' B', LOwn sz Rc e v' (xs ++ List.replicate m x0) B' → Holds n ds w0 ((d, v') :: env) G (B' ++ H) K) :
    Holds n ds w0 env G H (stepK P ops Q ⟨some d, .call { callee := .builtin .append, args := #[s, x], argTypes := #[t, ti] }, ty, pos, aft, g⟩ K) := by
  refine s_eff (Φ := fun v' w' => ∃ B', LOwn sz Rc e v' (xs ++ List.replicate m x0) B' ∧ Sat w0 w' G (B' ++ H)) hg rfl hd (fun a n ds w ht hsat => ?_) (fun v' w' ⟨B', ho, hs⟩ => (hK v' B' ho).atw hs)
  obtain ⟨i, hu, hi, hzero, hsz', hbs'⟩ := mkB_spec hm
  have hLk : L.length = k * sz := by rw [hR.1, hk]
  have hfc : (Builtin.firstCells i.size k (.slice ad k k)).run P w.drew = .ok L.toArray w.drew := by
    obtain ⟨ad', c', he, _, _, h3⟩ := hsl
    cases he
    rcases h3 with ⟨hL0, hn⟩ | ⟨b, o, rfl, hc⟩
    · have hk0 : k = 0 := by
        rw [hL0] at hLk
        rcases Nat.mul_eq_zero.1 hLk.symm with h | h <;> omega
      rw [hL0, hk0]
      cases ad <;> simp [Builtin.firstCells, loadCells, loadCellsFrom]
    · exact run_firstCells_some (P := P) w.drew i.size k ⟨b, o, none⟩ k k L (by rw [hLk, hsz']) (fun j v hj => by rw [addr_add]; exact (hc j v hj).cell hsat.drew)
  have hbb : (k + m) * bs ≤ 1000000 * 10000 := Nat.mul_le_mul h63 hb
  have hbm : m * bs ≤ 1000000 * 10000 := Nat.mul_le_mul (by omega) hb
  have h5 : (m : Int) * (bs : Int) ≤ 281474976710656 := by
    have h6 : ((m * bs : Nat) : Int) ≤ 281474976710656 := by omega
    rwa [Int.natCast_mul] at h6
  have hr := run_append_zgrow (P := P) (w := w) (ty := ty) hu (i64B_spec hti) hi hzero ad k L hfc m h0 (by omega) (by rw [hbs']; exact h5) (by omega) (by omega) (by rw [hbs']; exact growslice_fits (by omega) (by omega))
  have hge := grownCap_ge w (k + m) k e
  have hcm := grownCap_le_maxLen w (k + m) k e (by unfold maxLen; omega)
  have h2 := (hsat.drew).alloc (.cells (L.toArray ++ Builtin.zeroCells z.cells m ++ Builtin.zeroCells z.cells (grownCap w (k + m) k e - (k + m))) e)
  have h3 : L.toArray ++ Builtin.zeroCells z.cells m = (L ++ (Builtin.zeroCells z.cells m).toList).toArray := by apply Array.ext'; simp
  rw [h3] at hr h2
  rw [cs_app] at hr h2
  have hlen : (xs ++ List.replicate m x0).length = k + m := by simp [hk]
  have hzs : Recs sz Rc (Builtin.zeroCells z.cells m).toList (List.replicate m x0) := by rw [← hz]; exact recs_zeros m (by omega) hx0
  refine ⟨_, _, ?_, [(w.heap.size, Cs (L ++ (Builtin.zeroCells z.cells m).toList ++ (Builtin.zeroCells z.cells (grownCap w (k + m) k e - (k + m))).toList) e)], .inr ⟨w.heap.size, _, _, _, by rw [hlen], by rw [hlen]; exact hge, hcm, rfl, hR.append hzs⟩, h2⟩
  simp [execOp, resolve, invoke, builtin, ht.eval hs, ht.eval hx, hr]
end
end
end Go.Proofs.Ytkjneelekfdpfaa
