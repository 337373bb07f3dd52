/- Arrays in structs: built, compared, sliced; one slice copied into another. -/
import Derived.Test.YtkjneelekfdpfaaOps8
import Derived.Test.YtkjneelekfdpfaaOps7
import Derived.ChangeKeysEq
import Derived.Great.FillDense
import Derived.Laws.CopyRow
namespace Go.Proofs.Ytkjneelekfdpfaa
open Go
set_option linter.unusedVariables false
set_option linter.unusedSimpArgs false

theorem fill_cons (place : Nat → Option (Nat × Nat)) (L : List Value) (i off : Nat) (v : Value) (rest : List (Nat × Value)) (hp : place i = some (off, v.cells.size)) (hle : off + v.cells.size ≤ L.length) :
    Instr.fill place L.toArray ((i, v) :: rest) = Instr.fill place (L.take off ++ v.cells.toList ++ L.drop (off + v.cells.size)).toArray rest := by
  conv => lhs; unfold Instr.fill
  simp only [hp]
  rw [if_neg (by simp; omega)]
  congr 1
  obtain ⟨h1, h2⟩ := Go.Great.foldl_set off v.cells.toList 0 L.toArray
  apply Array.ext_getElem?
  intro k
  rw [← Array.foldl_toList]
  have e2 : v.cells.zipIdx.toList = v.cells.toList.zipIdx 0 := by simp
  rw [e2]
  rw [h2 k]
  simp only [List.getElem?_toArray, List.getElem?_append, List.length_append, List.length_take, Array.length_toList, Nat.add_zero]
  have hm : min off L.length = off := by omega
  rw [hm]
  by_cases c1 : k < off
  · rw [if_neg (by omega), if_pos (by omega), if_pos c1, List.getElem?_take, if_pos c1]
  · by_cases c2 : k < off + v.cells.size
    · rw [if_pos ⟨by omega, by simpa using c2, by simp; omega⟩, if_pos c2, if_neg c1]
    · rw [if_neg (by simp; omega), if_neg c2, List.getElem?_drop]
      congr 1; omega

/-- A struct's cells of noughts, and where its fields lie. -/
def plB (P : Program) (t : TypeId) : Option (List Value × List (Nat × Nat)) := match P.info? t, P.underlying t with
  | some it, some (.struct fs) => match it.zero, fs.toList.mapM (fun f => (P.info? f.type).map fun i => (f.offset, i.size)) with
    | some z, some pl => some (z.cells.toList, pl)
    | _, _ => none
  | _, _ => none
theorem built_of {P : Program} {t : TypeId} {Z : List Value} {pl : List (Nat × Nat)} (h : plB P t = some (Z, pl)) (ps : List (Nat × Value)) : P.built t ps = Instr.fill (pl.toArray[·]?) Z.toArray ps := by
  unfold plB at h
  unfold Program.built
  cases hi : P.info? t with
  | none => simp [hi] at h
  | some it =>
    cases hu : P.underlying t with
    | none => simp [hi, hu] at h
    | some d =>
      cases d <;> try (simp [hi, hu] at h; done)
      rename_i fs
      simp only [hi, hu] at h ⊢
      split at h
      · rename_i z pl' hz hp
        cases h
        simp [hz, hp]
      · cases h

/-- A struct of one field, an array of u8. -/
def arS (P : Program) (t : TypeId) : Option Nat := match P.underlying t with
  | some (.struct fs) => match fs.toList with
    | [f] => match P.underlying f.type with
      | some (.array m e) => if u8B P e && szB P e == some 1 && szB P f.type == some m && f.offset == 0 && f.name != "_" && !P.stoodInHeld t && !P.eqGuardType P.depth t then some m else none
      | _ => none
    | _ => none
  | _ => none

section
variable {w0 w : World} {G G' : Im} {H H1 : Hp} {n : Nat} {ds : List Deferred} {env : Env} {P : Program} {R : Act → World → Prop} {ops : Array Oper} {Q : Exit → Act → World → Prop} {K : Act → World → Prop}
variable {dst : Option Tmp} {d : Nat} {ty : TypeId} {pos : String} {aft : Array Edge} {g : Option (Nat × Bool)}

theorem v_build1 (m : Nat) (Z A : List Value) {t : TypeId} {x : Operand} (hx : ev env x = some (.agg A.toArray)) (h : plB P t = some (Z, [(0, m)])) (hz : Z.length = m) (hA : A.length = m) :
    Val P env G H ⟨dst, .build t #[(0, x)], ty, pos, aft, g⟩ (.agg A.toArray) := by
  refine v_build (ps := [(0, x)]) (vs := [(0, .agg A.toArray)]) _ (by simp [evp, hx]) ?_
  rw [built_of h, fill_cons _ _ 0 0 _ _ (by simp [Value.cells, hA]) (by simp [Value.cells]; omega)]
  simp [Instr.fill, Value.cells, hz, hA]
theorem v_build2 (m : Nat) (Z A : List Value) {t : TypeId} {x y : Operand} {u : Value} (hx : ev env x = some u) (hy : ev env y = some (.agg A.toArray)) (hu : u.oneCell' = true) (h : plB P t = some (Z, [(0, 1), (1, m)])) (hz : Z.length = m + 1) (hA : A.length = m) :
    Val P env G H ⟨dst, .build t #[(0, x), (1, y)], ty, pos, aft, g⟩ (.agg (u :: A).toArray) := by
  have hc := cells_one hu
  have hcA : (Value.agg A.toArray).cells = A.toArray := rfl
  refine v_build (ps := [(0, x), (1, y)]) (vs := [(0, u), (1, .agg A.toArray)]) _ (by simp [evp, hx, hy]) ?_
  have h1 : (Z.take 0 ++ u.cells.toList ++ Z.drop (0 + u.cells.toList.length)).drop (1 + A.length) = [] := List.drop_of_length_le (by rw [hc]; simp; omega)
  rw [built_of h, fill_cons _ _ 0 0 _ _ (by rw [hc]; simp) (by rw [hc]; simp; omega), fill_cons _ _ 1 1 _ _ (by rw [hcA]; simp [hA]) (by rw [hc, hcA]; simp; omega)]
  simp only [hcA, List.size_toArray, h1]
  rw [hc]
  simp [Instr.fill]
  omega

theorem v_arrPtr (m s : Nat) {x : Operand} {t : TypeId} {ad : Option Addr} {k c : Nat} (hx : ev env x = some (.slice ad k c)) (hu : arB P t = some (m, s)) (hk : m ≤ k) :
    Val P env G H ⟨dst, .sliceToArrayPointer t x, ty, pos, aft, g⟩ (.pointer ad) := fun a n ds w0 w ht hs => by
  obtain ⟨e, hu1, hz⟩ := arB_spec hu
  have : ¬ k < m := by omega
  simp [execOp, Instr.arrayAt, ht.eval hx, run_underlying hu1, this]
/-- a[:] of an array in memory. -/
theorem v_slArr (m s : Nat) {x : Operand} {t : TypeId} {b o : Nat} (hx : ev env x = some (Pt b o)) (hu : arB P t = some (m, s)) :
    Val P env G H ⟨dst, .slice t x none none none, ty, pos, aft, g⟩ (Sl b o m m) := fun a n ds w0 w ht hs => by
  obtain ⟨e, hu1, hz⟩ := arB_spec hu
  have h0 : (if m = 0 then (⟨b, o, none⟩ : Addr) else ⟨b, o, none⟩) = ⟨b, o, none⟩ := by split <;> rfl
  simp [execOp, Instr.sliceAt, Instr.sliceBounds, Instr.sureAddr, ht.eval hx, run_underlying hu1, run_sizeOf' hz, addr_add, h0]
/-- a[:h] of an array in memory. -/
theorem v_slArrHi (m s h : Nat) {x hi : Operand} {t : TypeId} {b o : Nat} (hx : ev env x = some (Pt b o)) (hh : ev env hi = some (I64 (h : Int))) (hu : arB P t = some (m, s)) (hl : h ≤ m) :
    Val P env G H ⟨dst, .slice t x none (some hi) none, ty, pos, aft, g⟩ (Sl b o h m) := fun a n ds w0 w ht hs => by
  obtain ⟨e, hu1, hz⟩ := arB_spec hu
  have h0 : (if m = 0 then (⟨b, o, none⟩ : Addr) else ⟨b, o, none⟩) = ⟨b, o, none⟩ := by split <;> rfl
  simp [execOp, Instr.sliceAt, Instr.sliceBounds, Instr.sureAddr, ht.eval hx, ht.eval hh, run_underlying hu1, run_sizeOf' hz, addr_add, h0, run_sliceBound rfl hl]

theorem run_eqItems_u8 {e : TypeId} (hu : u8B P e = true) (dp : Nat) (xs ys : List UInt8) (hl : xs.length = ys.length) : ∀ (is : List Nat), (∀ i ∈ is, i < xs.length) →
    (Op.eqItems (dp + 1) e 1 ((xs.map B8).toArray) ((ys.map B8).toArray) is).run P w = .ok (decide (∀ i ∈ is, xs[i]? = ys[i]?)) w
  | [], _ => by simp [Op.eqItems]
  | i :: is, h => by
    have ha : aggB P e = some false := by unfold aggB; rw [u8B_spec hu]; rfl
    have hi : i < xs.length := h i (by simp)
    have hi2 : i < ys.length := by omega
    have hp : ∀ (zs : List UInt8) (hz : i < zs.length), (part e (zs.map B8).toArray i).run P w = .ok (B8 zs[i]) w := fun zs hz => by
      simp [part, run_isAgg' ha, hz]
    simp only [Op.eqItems, Nat.mul_one, Sem.run_bind, hp xs hi, hp ys hi2, Result.andThen_ok, run_equalIn_int w dp e .u8 .u8 _ _ (u8B_spec hu)]
    by_cases he : xs[i] = ys[i]
    · rw [show ((xs[i].toNat : Int) == (ys[i].toNat : Int)) = true by simp [he]]
      simp only [Bool.not_true, Bool.false_eq_true, if_false]
      rw [run_eqItems_u8 hu dp xs ys hl is (fun j hj => h j (by simp [hj]))]
      congr 1
      simp [hi, hi2, he]
    · have hne : ¬ (xs[i].toNat : Int) = (ys[i].toNat : Int) := fun e => he (UInt8.toNat_inj.1 (by exact_mod_cast e))
      rw [show ((xs[i].toNat : Int) == (ys[i].toNat : Int)) = false by simpa using hne]
      simp [hi, hi2, he]
theorem run_eqS (m : Nat) {t : TypeId} (xs ys : List UInt8) (h : arS P t = some m) (hx : xs.length = m) (hy : ys.length = m) (dp : Nat) :
    (Op.equalIn (dp + 3) t (.agg (xs.map B8).toArray) (.agg (ys.map B8).toArray)).run P w = .ok (decide (xs = ys)) w ∧ P.eqGuardType P.depth t = false := by
  unfold arS at h
  split at h
  · rename_i fs hu
    split at h
    · rename_i f hfs
      split at h
      · rename_i m' e hua
        split at h
        · rename_i hb
          cases h
          simp only [Bool.and_eq_true, beq_iff_eq, bne_iff_ne, Bool.not_eq_true'] at hb
          obtain ⟨⟨⟨⟨⟨⟨h1, h2⟩, h3⟩, h4⟩, h5⟩, h6⟩, h7⟩ := hb
          refine ⟨?_, h7⟩
          have hf : P.fieldsOf t = fs := by unfold Program.fieldsOf; rw [hu]
          have hu' : P.underlying t = some (.struct (P.fieldsOf t)) := by rw [hf]; exact hu
          have ha : aggB P f.type = some true := by unfold aggB; rw [hua]; rfl
          have p1 : ∀ (zs : List UInt8), zs.length = m → (part f.type (zs.map B8).toArray f.offset).run P w = .ok (.agg (zs.map B8).toArray) w := fun zs hz => by
            rw [h4, run_part_agg ha h3, Nat.zero_add, Array.extract_eq_self_of_le (by simp [hz])]
          obtain ⟨ie, hie⟩ : ∃ i, P.info? e = some i := by
            cases hq : P.info? e with
            | none => unfold szB at h2; rw [hq] at h2; cases h2
            | some i => exact ⟨i, rfl⟩
          have hc : P.cellsOf e = 1 := by
            unfold szB at h2; unfold Program.cellsOf; rw [hie] at h2 ⊢; simpa using h2
          have he := run_equalIn_array (P := P) w (dp + 1) (xs.map B8).toArray (ys.map B8).toArray hua hie
          rw [hc, run_eqItems_u8 h1 dp xs ys (by omega) _ (fun i hi => by rw [hx]; simpa using hi)] at he
          rw [run_equalIn_struct w (dp + 2) t _ _ hu' h6, hf, hfs]
          have hd : decide (∀ i ∈ List.range m, xs[i]? = ys[i]?) = decide (xs = ys) := by
            apply decide_eq_decide.2
            refine ⟨fun h => List.ext_getElem? fun i => ?_, fun h => by subst h; simp⟩
            by_cases hi : i < m
            · exact h i (by simpa using hi)
            · rw [List.getElem?_eq_none (by omega), List.getElem?_eq_none (by omega)]
          rw [hd] at he
          simp only [Op.eqFields, h5, ne_eq, not_false_eq_true, if_true, Sem.run_bind, p1 xs hx, p1 ys hy, Result.andThen_ok, he]
          cases decide (xs = ys) <;> simp
        · cases h
      · cases h
    · cases h
  · cases h
theorem v_neS (m : Nat) (xs ys : List UInt8) {x y : Operand} {t t' : TypeId} (hx : ev env x = some (.agg (xs.map B8).toArray)) (hy : ev env y = some (.agg (ys.map B8).toArray)) (h : arS P t = some m) (hlx : xs.length = m) (hly : ys.length = m) :
    Val P env G H ⟨dst, .binOp .neq t x y t', ty, pos, aft, g⟩ (.bool (!decide (xs = ys))) := fun ac n ds w0 w ht hs => by
  obtain ⟨h1, h2⟩ := run_eqS (w := w) m xs ys h hlx hly 9997
  have h3 := run_eqGuard_agg (P := P) w .neq t x y (xs.map B8).toArray (ys.map B8).toArray h2
  simp only [execOp, ht.eval hx, ht.eval hy, Sem.run_bind, h3, Result.andThen_ok, run_neq_struct, h1, Sem.run_pure]

/-- copy(dst, src), dst's block owned. -/
theorem e_copy {x y : Operand} {t t2 t' e : TypeId} {z : Value} {sz bs b o kd cd ks : Nat} {vs : Value} {L cs : List Value}
    (hx : ev env x = some (Sl b o kd cd)) (hy : ev env y = some vs) (hm : mkB P t = some (e, z, sz, bs)) (hp : Pick b (Cs L t') H H1) (hv : SV G H vs ks cs) (hks : ks ≤ kd) (hcs : cs.length = ks * sz) (hl : o + ks * sz ≤ L.length) (h1 : ∀ u ∈ cs, u.oneCell' = true) :
    Eff P w0 env G H ⟨dst, .call { callee := .builtin .copy, args := #[x, y], argTypes := #[t, t2] }, ty, pos, aft, g⟩ (fun u w' => u = I64 ks ∧ Sat w0 w' G ((b, Cs (L.take o ++ cs ++ L.drop (o + cs.length)) t') :: H1)) := fun a n ds w ht hs => by
  have hs' := hs.perm hp.perm
  have hb : w.heap[b]? = some (.cells L.toArray t' (0, 0)) := hs'.own _ (List.mem_cons_self ..)
  obtain ⟨i, hu, hi, _, hsz, _⟩ := mkB_spec hm
  have hst := run_storeCells_at (P := P) b o t' cs 0 L.toArray w hb (by simp; omega) h1
  simp only [Nat.add_zero] at hst
  have hmin : Nat.min ks kd = ks := Nat.min_eq_left hks
  obtain ⟨ad, cap, rfl, h2, h3, h4⟩ := hv
  refine ⟨I64 ks, w.setRow b (L.take o ++ cs ++ L.drop (o + cs.length)).toArray, ?_, rfl, hs'.upd rfl rfl rfl (by simp) (setRow_heap w b _ _ t' (0, 0) hb) (fun j _ hj => setRow_other w b j _ hj)⟩
  have hrun : (Builtin.copy_ #[t, t2] ty #[Sl b o kd cd, .slice ad ks cap]).run P w = .ok (I64 ks) (w.setRow b (L.take o ++ cs ++ L.drop (o + cs.length)).toArray) := by
    rcases h4 with ⟨rfl, hnil⟩ | ⟨bb, oo, rfl, hc⟩
    · have hk0 : ks * sz = 0 := by simpa using hcs.symm
      cases ad with
      | none => simp [Builtin.copy_, run_underlying hu, Builtin.lenOf, sizeOf, typeInfo, hi, hmin, Builtin.firstCells, hst, goInt]
      | some a0 =>
        have hf := run_firstCells_some (P := P) w i.size ks a0 ks cap [] (by rw [hsz, hk0]; rfl) (by simp)
        simp [Builtin.copy_, run_underlying hu, Builtin.lenOf, sizeOf, typeInfo, hi, hmin, hf, hst, goInt]
    · have hf := run_firstCells_some (P := P) w i.size ks ⟨bb, oo, none⟩ ks cap cs (by rw [hsz, hcs]) (fun j v hj => by rw [addr_add]; exact (hc j v hj).cell hs)
      simp [Builtin.copy_, run_underlying hu, Builtin.lenOf, sizeOf, typeInfo, hi, hmin, hf, hst, goInt]
  have hop : (execOp a.eval ⟨dst, .call { callee := .builtin .copy, args := #[x, y], argTypes := #[t, t2] }, ty, pos, aft, g⟩).run P w = ((Builtin.copy_ #[t, t2] ty #[Sl b o kd cd, .slice ad ks cap]).run P w).andThen fun u w' => .ok (.value u) w' := by
    simp [execOp, ht.eval hx, ht.eval hy, builtin, resolve, invoke, Deferred.ofValue]
  rw [hop, hrun]; rfl
theorem s_copy {x y : Operand} {t t2 t' e : TypeId} {z : Value} {sz bs b o kd cd ks : Nat} {vs : Value} {L cs : List Value} (hm : mkB P t = some (e, z, sz, bs))
    (hx : ev env x = some (Sl b o kd cd)) (hy : ev env y = some vs) (hg : gOn ops env ⟨some d, .call { callee := .builtin .copy, args := #[x, y], argTypes := #[t, t2] }, ty, pos, aft, g⟩ = some true) (hd : Nat.blt d n = true)
    (hp : Pick b (Cs L t') H H1) (hv : SV G H vs ks cs) (hks : ks ≤ kd) (hcs : cs.length = ks * sz) (hl : o + ks * sz ≤ L.length) (h1 : ∀ u ∈ cs, u.oneCell' = true)
    (hK : Holds n ds w0 ((d, I64 ks) :: env) G ((b, Cs (L.take o ++ cs ++ L.drop (o + cs.length)) t') :: H1) K) :
    Holds n ds w0 env G H (stepK P ops Q ⟨some d, .call { callee := .builtin .copy, args := #[x, y], argTypes := #[t, t2] }, ty, pos, aft, g⟩ K) :=
  s_eff hg rfl hd (e_copy hx hy hm hp hv hks hcs hl h1) (fun v' w' ⟨hu, hs⟩ => by subst hu; exact hK.atw hs)
/-- As e_copy, where src is longer. -/
theorem e_copyD {x y : Operand} {t t2 t' e : TypeId} {z : Value} {sz bs b o kd cd ks : Nat} {vs : Value} {L cs : List Value}
    (hx : ev env x = some (Sl b o kd cd)) (hy : ev env y = some vs) (hm : mkB P t = some (e, z, sz, bs)) (hp : Pick b (Cs L t') H H1) (hv : SV G H vs ks cs) (hks : kd ≤ ks) (hcs : cs.length = ks * sz) (hl : o + kd * sz ≤ L.length) (h1 : ∀ u ∈ cs, u.oneCell' = true) :
    Eff P w0 env G H ⟨dst, .call { callee := .builtin .copy, args := #[x, y], argTypes := #[t, t2] }, ty, pos, aft, g⟩ (fun u w' => u = I64 kd ∧ Sat w0 w' G ((b, Cs (L.take o ++ cs.take (kd * sz) ++ L.drop (o + kd * sz)) t') :: H1)) := fun a n ds w ht hs => by
  have hs' := hs.perm hp.perm
  have hb : w.heap[b]? = some (.cells L.toArray t' (0, 0)) := hs'.own _ (List.mem_cons_self ..)
  obtain ⟨i, hu, hi, _, hsz, _⟩ := mkB_spec hm
  have htl : (cs.take (kd * sz)).length = kd * sz := by rw [List.length_take, hcs]; exact Nat.min_eq_left (Nat.mul_le_mul_right _ hks)
  have hst := run_storeCells_at (P := P) b o t' (cs.take (kd * sz)) 0 L.toArray w hb (by simp; rw [hcs, Nat.min_eq_left (Nat.mul_le_mul_right _ hks)]; omega) (fun u hu => h1 u (List.mem_of_mem_take hu))
  simp only [Nat.add_zero, htl] at hst
  have hmin : Nat.min ks kd = kd := Nat.min_eq_right hks
  obtain ⟨ad, cap, rfl, h2, h3, h4⟩ := hv
  refine ⟨I64 kd, w.setRow b (L.take o ++ cs.take (kd * sz) ++ L.drop (o + kd * sz)).toArray, ?_, rfl, hs'.upd rfl rfl rfl (by simp) (setRow_heap w b _ _ t' (0, 0) hb) (fun j _ hj => setRow_other w b j _ hj)⟩
  have hrun : (Builtin.copy_ #[t, t2] ty #[Sl b o kd cd, .slice ad ks cap]).run P w = .ok (I64 kd) (w.setRow b (L.take o ++ cs.take (kd * sz) ++ L.drop (o + kd * sz)).toArray) := by
    rcases h4 with ⟨rfl, hnil⟩ | ⟨bb, oo, rfl, hc⟩
    · have hk0 : kd * sz = 0 := by
        have : ks * sz = 0 := by simpa using hcs.symm
        have := Nat.mul_le_mul_right sz hks
        omega
      cases ad with
      | none => simp [Builtin.copy_, run_underlying hu, Builtin.lenOf, sizeOf, typeInfo, hi, hmin, Builtin.firstCells, hst, goInt] at hst ⊢; rw [hst]; rfl
      | some a0 =>
        have hf := run_firstCells_some (P := P) w i.size kd a0 ks cap [] (by rw [hsz, hk0]; rfl) (by simp)
        simp [Builtin.copy_, run_underlying hu, Builtin.lenOf, sizeOf, typeInfo, hi, hmin, hf, hst, goInt] at hst ⊢; rw [hst]; rfl
    · have hf := run_firstCells_some (P := P) w i.size kd ⟨bb, oo, none⟩ ks cap (cs.take (kd * sz)) (by rw [hsz, htl]) (fun j v hj => by
        rw [addr_add]
        have hlt : j < (cs.take (kd * sz)).length := (List.getElem?_eq_some_iff.1 hj).1
        rw [List.getElem?_take, if_pos (by omega)] at hj
        exact (hc j v hj).cell hs)
      simp [Builtin.copy_, run_underlying hu, Builtin.lenOf, sizeOf, typeInfo, hi, hmin, hf, hst, goInt]
  have hop : (execOp a.eval ⟨dst, .call { callee := .builtin .copy, args := #[x, y], argTypes := #[t, t2] }, ty, pos, aft, g⟩).run P w = ((Builtin.copy_ #[t, t2] ty #[Sl b o kd cd, .slice ad ks cap]).run P w).andThen fun u w' => .ok (.value u) w' := by
    simp [execOp, ht.eval hx, ht.eval hy, builtin, resolve, invoke, Deferred.ofValue]
  rw [hop, hrun]; rfl
theorem s_copyD {x y : Operand} {t t2 t' e : TypeId} {z : Value} {sz bs b o kd cd ks : Nat} {vs : Value} {L cs : List Value} (hm : mkB P t = some (e, z, sz, bs))
    (hx : ev env x = some (Sl b o kd cd)) (hy : ev env y = some vs) (hg : gOn ops env ⟨some d, .call { callee := .builtin .copy, args := #[x, y], argTypes := #[t, t2] }, ty, pos, aft, g⟩ = some true) (hd : Nat.blt d n = true)
    (hp : Pick b (Cs L t') H H1) (hv : SV G H vs ks cs) (hks : kd ≤ ks) (hcs : cs.length = ks * sz) (hl : o + kd * sz ≤ L.length) (h1 : ∀ u ∈ cs, u.oneCell' = true)
    (hK : Holds n ds w0 ((d, I64 kd) :: env) G ((b, Cs (L.take o ++ cs.take (kd * sz) ++ L.drop (o + kd * sz)) t') :: H1) K) :
    Holds n ds w0 env G H (stepK P ops Q ⟨some d, .call { callee := .builtin .copy, args := #[x, y], argTypes := #[t, t2] }, ty, pos, aft, g⟩ K) :=
  s_eff hg rfl hd (e_copyD hx hy hm hp hv hks hcs hl h1) (fun v' w' ⟨hu, hs⟩ => by subst hu; exact hK.atw hs)
/-- []T{x}, x a struct. -/
theorem s_litA1 (A : List Value) {t e : TypeId} {z : Value} {sz bs : Nat} {x : Operand} (hm : mkB P t = some (e, z, sz, bs)) (hx : ev env x = some (.agg A.toArray)) (hg : gOn ops env ⟨some d, .buildSlice t 1 #[(0, x)], ty, pos, aft, g⟩ = some true) (hd : Nat.blt d n = true)
    (hz : z.cells.size = sz) (hA : A.length = sz) (hsz : 0 < sz) (hb : sz ≤ 10000)
    (hK : ∀ b, Holds n ds w0 ((d, Sl b 0 1 1) :: env) G ((b, Cs A e) :: H) K) :
    Holds n ds w0 env G H (stepK P ops Q ⟨some d, .buildSlice t 1 #[(0, x)], ty, pos, aft, g⟩ K) := by
  refine s_litN [x] (vs := [.agg A.toArray]) hm (by simp [evl, hx]) hg hd hz (by simp [Value.cells, hA]) hsz (by simp) (by simp; omega) fun b => ?_
  have := hK b
  simpa [Value.cells] using this
end
/-- An owned slice, one element of it written. -/
theorem Own.put {v : Value} {k : Nat} {L : List Value} {e : TypeId} {sz : Nat} {B : Hp} (h : Own v k L e sz B) (hk : 0 < k) :
    ∃ b c sl, v = Sl b 0 k c ∧ k ≤ c ∧ c ≤ maxLen ∧ B = [(b, Cs (L ++ sl) e)] ∧ L.length + sl.length = c * sz ∧
      ∀ (j : Nat) (cs : List Value), j < k → cs.length = sz → Own v k (L.take (j * sz) ++ cs ++ L.drop (j * sz + sz)) e sz [(b, Cs ((L ++ sl).take (j * sz) ++ cs ++ (L ++ sl).drop (j * sz + cs.length)) e)] := by
  obtain ⟨hl, ⟨_, _, h0, _⟩ | ⟨b, c, sl, rfl, hc, hkc, hs, rfl⟩⟩ := h
  · omega
  refine ⟨b, c, sl, rfl, hkc, hc, rfl, hs, fun j cs hj hcs => ?_⟩
  have hle : j * sz + sz ≤ L.length := by
    rw [hl, ← Nat.succ_mul]; exact Nat.mul_le_mul_right _ hj
  have h1 : (L ++ sl).take (j * sz) = L.take (j * sz) := by rw [List.take_append_of_le_length (by omega)]
  have h2 : (L ++ sl).drop (j * sz + cs.length) = L.drop (j * sz + sz) ++ sl := by rw [hcs, List.drop_append_of_le_length hle]
  refine ⟨by simp only [List.length_append, List.length_take, List.length_drop, hcs]; omega, .inr ⟨b, c, sl, rfl, hc, hkc, ?_, ?_⟩⟩
  · simp only [List.length_append, List.length_take, List.length_drop, hcs]; omega
  · rw [h1, h2]; simp
end Go.Proofs.Ytkjneelekfdpfaa
