/- Arrays in structs: built, compared, sliced; one slice copied into another. Panics, deferred calls, recover. Panics that leave a function; numbers put together. bytes.Clone. Package wire's eye: what reads. A step of reading, and what catches it. The eye's readings. The eye's readings: bytes; yes or no; how much is left. bytes.Clone of bytes that may be owned. Strings: from bytes, to bytes, compared, how long. Package wire's pen, whatever is written. pinstriperef1.Copy. -/
import Derived.Test.YtobhlbhklblncaaK2
import Derived.ChangeKeysEq
import Derived.Great.FillDense
import Derived.Laws.CopyRow
import Derived.Recover
import Derived.Laws.BitsAllLaws
import Derived.Test.YtobhlbhklblncaaProg
import Derived.Laws.IdiomStrings
import Derived.Laws.Strings
namespace Go.Proofs.Ytobhlbhklblncaa
section
open Go
set_option linter.unusedVariables false
set_option linter.unusedSimpArgs false

theorem fill_cons (place : Nat → Option (Nat × Nat)) (L : List Value) (i off : Nat) (v : Value) (rest : List (Nat × Value)) (hp : place i = some (off, v.cells.size)) (hle : off + v.cells.size ≤ L.length) :
    Instr.fill place L.toArray ((i, v) :: rest) = Instr.fill place (L.take off ++ v.cells.toList ++ L.drop (off + v.cells.size)).toArray rest := by
  conv => lhs; unfold Instr.fill
  simp only [hp]
  rw [if_neg (by simp; omega)]
  congr 1
  obtain ⟨h1, h2⟩ := Go.Great.foldl_set off v.cells.toList 0 L.toArray
  apply Array.ext_getElem?
  intro k
  rw [← Array.foldl_toList]
  have e2 : v.cells.zipIdx.toList = v.cells.toList.zipIdx 0 := by simp
  rw [e2]
  rw [h2 k]
  simp only [List.getElem?_toArray, List.getElem?_append, List.length_append, List.length_take, Array.length_toList, Nat.add_zero]
  have hm : min off L.length = off := by omega
  rw [hm]
  by_cases c1 : k < off
  · rw [if_neg (by omega), if_pos (by omega), if_pos c1, List.getElem?_take, if_pos c1]
  · by_cases c2 : k < off + v.cells.size
    · rw [if_pos ⟨by omega, by simpa using c2, by simp; omega⟩, if_pos c2, if_neg c1]
    · rw [if_neg (by simp; omega), if_neg c2, List.getElem?_drop]
      congr 1; omega

/-- A struct's cells of noughts, and where its fields lie. -/
def plB (P : Program) (t : TypeId) : Option (List Value × List (Nat × Nat)) := match P.info? t, P.underlying t with
  | some it, some (.struct fs) => match it.zero, fs.toList.mapM (fun f => (P.info? f.type).map fun i => (f.offset, i.size)) with
    | some z, some pl => some (z.cells.toList, pl)
    | _, _ => none
  | _, _ => none
theorem built_of {P : Program} {t : TypeId} {Z : List Value} {pl : List (Nat × Nat)} (h : plB P t = some (Z, pl)) (ps : List (Nat × Value)) : P.built t ps = Instr.fill (pl.toArray[·]?) Z.toArray ps := by
  unfold plB at h
  unfold Program.built
  cases hi : P.info? t with
  | none => simp [hi] at h
  | some it =>
    cases hu : P.underlying t with
    | none => simp [hi, hu] at h
    | some d =>
      cases d <;> try (simp [hi, hu] at h; done)
      rename_i fs
      simp only [hi, hu] at h ⊢
      split at h
      · rename_i z pl' hz hp
        cases h
        simp [hz, hp]
      · cases h

/-- A struct of one field, an array of u8. -/
def arS (P : Program) (t : TypeId) : Option Nat := match P.underlying t with
  | some (.struct fs) => match fs.toList with
    | [f] => match P.underlying f.type with
      | some (.array m e) => if u8B P e && szB P e == some 1 && szB P f.type == some m && f.offset == 0 && f.name != "_" && !P.stoodInHeld t && !P.eqGuardType P.depth t then some m else none
      | _ => none
    | _ => none
  | _ => none

section
variable {w0 w : World} {G G' : Im} {H H1 : Hp} {n : Nat} {ds : List Deferred} {env : Env} {P : Program} {R : Act → World → Prop} {ops : Array Oper} {Q : Exit → Act → World → Prop} {K : Act → World → Prop}
variable {dst : Option Tmp} {d : Nat} {ty : TypeId} {pos : String} {aft : Array Edge} {g : Option (Nat × Bool)}

theorem v_build1 (m : Nat) (Z A : List Value) {t : TypeId} {x : Operand} (hx : ev env x = some (.agg A.toArray)) (h : plB P t = some (Z, [(0, m)])) (hz : Z.length = m) (hA : A.length = m) :
    Val P env G H ⟨dst, .build t #[(0, x)], ty, pos, aft, g⟩ (.agg A.toArray) := by
  refine v_build (ps := [(0, x)]) (vs := [(0, .agg A.toArray)]) _ (by simp [evp, hx]) ?_
  rw [built_of h, fill_cons _ _ 0 0 _ _ (by simp [Value.cells, hA]) (by simp [Value.cells]; omega)]
  simp [Instr.fill, Value.cells, hz, hA]
theorem v_build2 (m : Nat) (Z A : List Value) {t : TypeId} {x y : Operand} {u : Value} (hx : ev env x = some u) (hy : ev env y = some (.agg A.toArray)) (hu : u.oneCell' = true) (h : plB P t = some (Z, [(0, 1), (1, m)])) (hz : Z.length = m + 1) (hA : A.length = m) :
    Val P env G H ⟨dst, .build t #[(0, x), (1, y)], ty, pos, aft, g⟩ (.agg (u :: A).toArray) := by
  have hc := cells_one hu
  have hcA : (Value.agg A.toArray).cells = A.toArray := rfl
  refine v_build (ps := [(0, x), (1, y)]) (vs := [(0, u), (1, .agg A.toArray)]) _ (by simp [evp, hx, hy]) ?_
  have h1 : (Z.take 0 ++ u.cells.toList ++ Z.drop (0 + u.cells.toList.length)).drop (1 + A.length) = [] := List.drop_of_length_le (by rw [hc]; simp; omega)
  rw [built_of h, fill_cons _ _ 0 0 _ _ (by rw [hc]; simp) (by rw [hc]; simp; omega), fill_cons _ _ 1 1 _ _ (by rw [hcA]; simp [hA]) (by rw [hc, hcA]; simp; omega)]
  simp only [hcA, List.size_toArray, h1]
  rw [hc]
  simp [Instr.fill]
  omega

theorem v_arrPtr (m s : Nat) {x : Operand} {t : TypeId} {ad : Option Addr} {k c : Nat} (hx : ev env x = some (.slice ad k c)) (hu : arB P t = some (m, s)) (hk : m ≤ k) :
    Val P env G H ⟨dst, .sliceToArrayPointer t x, ty, pos, aft, g⟩ (.pointer ad) := fun a n ds w0 w ht hs => by
  obtain ⟨e, hu1, hz⟩ := arB_spec hu
  have : ¬ k < m := by omega
  simp [execOp, Instr.arrayAt, ht.eval hx, run_underlying hu1, this]
/-- a[:] of an array in memory. -/
theorem v_slArr (m s : Nat) {x : Operand} {t : TypeId} {b o : Nat} (hx : ev env x = some (Pt b o)) (hu : arB P t = some (m, s)) :
    Val P env G H ⟨dst, .slice t x none none none, ty, pos, aft, g⟩ (Sl b o m m) := fun a n ds w0 w ht hs => by
  obtain ⟨e, hu1, hz⟩ := arB_spec hu
  have h0 : (if m = 0 then (⟨b, o, none⟩ : Addr) else ⟨b, o, none⟩) = ⟨b, o, none⟩ := by split <;> rfl
  simp [execOp, Instr.sliceAt, Instr.sliceBounds, Instr.sureAddr, ht.eval hx, run_underlying hu1, run_sizeOf' hz, addr_add, h0]
/-- a[:h] of an array in memory. -/
theorem v_slArrHi (m s h : Nat) {x hi : Operand} {t : TypeId} {b o : Nat} (hx : ev env x = some (Pt b o)) (hh : ev env hi = some (I64 (h : Int))) (hu : arB P t = some (m, s)) (hl : h ≤ m) :
    Val P env G H ⟨dst, .slice t x none (some hi) none, ty, pos, aft, g⟩ (Sl b o h m) := fun a n ds w0 w ht hs => by
  obtain ⟨e, hu1, hz⟩ := arB_spec hu
  have h0 : (if m = 0 then (⟨b, o, none⟩ : Addr) else ⟨b, o, none⟩) = ⟨b, o, none⟩ := by split <;> rfl
  simp [execOp, Instr.sliceAt, Instr.sliceBounds, Instr.sureAddr, ht.eval hx, ht.eval hh, run_underlying hu1, run_sizeOf' hz, addr_add, h0, run_sliceBound rfl hl]

theorem run_eqItems_u8 {e : TypeId} (hu : u8B P e = true) (dp : Nat) (xs ys : List UInt8) (hl : xs.length = ys.length) : ∀ (is : List Nat), (∀ i ∈ is, i < xs.length) →
    (Op.eqItems (dp + 1) e 1 ((xs.map B8).toArray) ((ys.map B8).toArray) is).run P w = .ok (decide (∀ i ∈ is, xs[i]? = ys[i]?)) w
  | [], _ => by simp [Op.eqItems]
  | i :: is, h => by
    have ha : aggB P e = some false := by unfold aggB; rw [u8B_spec hu]; rfl
    have hi : i < xs.length := h i (by simp)
    have hi2 : i < ys.length := by omega
    have hp : ∀ (zs : List UInt8) (hz : i < zs.length), (part e (zs.map B8).toArray i).run P w = .ok (B8 zs[i]) w := fun zs hz => by
      simp [part, run_isAgg' ha, hz]
    simp only [Op.eqItems, Nat.mul_one, Sem.run_bind, hp xs hi, hp ys hi2, Result.andThen_ok, run_equalIn_int w dp e .u8 .u8 _ _ (u8B_spec hu)]
    by_cases he : xs[i] = ys[i]
    · rw [show ((xs[i].toNat : Int) == (ys[i].toNat : Int)) = true by simp [he]]
      simp only [Bool.not_true, Bool.false_eq_true, if_false]
      rw [run_eqItems_u8 hu dp xs ys hl is (fun j hj => h j (by simp [hj]))]
      congr 1
      simp [hi, hi2, he]
    · have hne : ¬ (xs[i].toNat : Int) = (ys[i].toNat : Int) := fun e => he (UInt8.toNat_inj.1 (by exact_mod_cast e))
      rw [show ((xs[i].toNat : Int) == (ys[i].toNat : Int)) = false by simpa using hne]
      simp [hi, hi2, he]
theorem run_eqS (m : Nat) {t : TypeId} (xs ys : List UInt8) (h : arS P t = some m) (hx : xs.length = m) (hy : ys.length = m) (dp : Nat) :
    (Op.equalIn (dp + 3) t (.agg (xs.map B8).toArray) (.agg (ys.map B8).toArray)).run P w = .ok (decide (xs = ys)) w ∧ P.eqGuardType P.depth t = false := by
  unfold arS at h
  split at h
  · rename_i fs hu
    split at h
    · rename_i f hfs
      split at h
      · rename_i m' e hua
        split at h
        · rename_i hb
          cases h
          simp only [Bool.and_eq_true, beq_iff_eq, bne_iff_ne, Bool.not_eq_true'] at hb
          obtain ⟨⟨⟨⟨⟨⟨h1, h2⟩, h3⟩, h4⟩, h5⟩, h6⟩, h7⟩ := hb
          refine ⟨?_, h7⟩
          have hf : P.fieldsOf t = fs := by unfold Program.fieldsOf; rw [hu]
          have hu' : P.underlying t = some (.struct (P.fieldsOf t)) := by rw [hf]; exact hu
          have ha : aggB P f.type = some true := by unfold aggB; rw [hua]; rfl
          have p1 : ∀ (zs : List UInt8), zs.length = m → (part f.type (zs.map B8).toArray f.offset).run P w = .ok (.agg (zs.map B8).toArray) w := fun zs hz => by
            rw [h4, run_part_agg ha h3, Nat.zero_add, Array.extract_eq_self_of_le (by simp [hz])]
          obtain ⟨ie, hie⟩ : ∃ i, P.info? e = some i := by
            cases hq : P.info? e with
            | none => unfold szB at h2; rw [hq] at h2; cases h2
            | some i => exact ⟨i, rfl⟩
          have hc : P.cellsOf e = 1 := by
            unfold szB at h2; unfold Program.cellsOf; rw [hie] at h2 ⊢; simpa using h2
          have he := run_equalIn_array (P := P) w (dp + 1) (xs.map B8).toArray (ys.map B8).toArray hua hie
          rw [hc, run_eqItems_u8 h1 dp xs ys (by omega) _ (fun i hi => by rw [hx]; simpa using hi)] at he
          rw [run_equalIn_struct w (dp + 2) t _ _ hu' h6, hf, hfs]
          have hd : decide (∀ i ∈ List.range m, xs[i]? = ys[i]?) = decide (xs = ys) := by
            apply decide_eq_decide.2
            refine ⟨fun h => List.ext_getElem? fun i => ?_, fun h => by subst h; simp⟩
            by_cases hi : i < m
            · exact h i (by simpa using hi)
            · rw [List.getElem?_eq_none (by omega), List.getElem?_eq_none (by omega)]
          rw [hd] at he
          simp only [Op.eqFields, h5, ne_eq, not_false_eq_true, if_true, Sem.run_bind, p1 xs hx, p1 ys hy, Result.andThen_ok, he]
          cases decide (xs = ys) <;> simp
        · cases h
      · cases h
    · cases h
  · cases h
theorem v_neS (m : Nat) (xs ys : List UInt8) {x y : Operand} {t t' : TypeId} (hx : ev env x = some (.agg (xs.map B8).toArray)) (hy : ev env y = some (.agg (ys.map B8).toArray)) (h : arS P t = some m) (hlx : xs.length = m) (hly : ys.length = m) :
    Val P env G H ⟨dst, .binOp .neq t x y t', ty, pos, aft, g⟩ (.bool (!decide (xs = ys))) := fun ac n ds w0 w ht hs => by
  obtain ⟨h1, h2⟩ := run_eqS (w := w) m xs ys h hlx hly 9997
  have h3 := run_eqGuard_agg (P := P) w .neq t x y (xs.map B8).toArray (ys.map B8).toArray h2
  simp only [execOp, ht.eval hx, ht.eval hy, Sem.run_bind, h3, Result.andThen_ok, run_neq_struct, h1, Sem.run_pure]

/-- copy(dst, src), dst's block owned. -/
theorem e_copy {x y : Operand} {t t2 t' e : TypeId} {z : Value} {sz bs b o kd cd ks : Nat} {vs : Value} {L cs : List Value}
    (hx : ev env x = some (Sl b o kd cd)) (hy : ev env y = some vs) (hm : mkB P t = some (e, z, sz, bs)) (hp : Pick b (Cs L t') H H1) (hv : SV G H vs ks cs) (hks : ks ≤ kd) (hcs : cs.length = ks * sz) (hl : o + ks * sz ≤ L.length) (h1 : ∀ u ∈ cs, u.oneCell' = true) :
    Eff P w0 env G H ⟨dst, .call { callee := .builtin .copy, args := #[x, y], argTypes := #[t, t2] }, ty, pos, aft, g⟩ (fun u w' => u = I64 ks ∧ Sat w0 w' G ((b, Cs (L.take o ++ cs ++ L.drop (o + cs.length)) t') :: H1)) := fun a n ds w ht hs => by
  have hs' := hs.perm hp.perm
  have hb : w.heap[b]? = some (.cells L.toArray t' (0, 0)) := hs'.own _ (List.mem_cons_self ..)
  obtain ⟨i, hu, hi, _, hsz, _⟩ := mkB_spec hm
  have hst := run_storeCells_at (P := P) b o t' cs 0 L.toArray w hb (by simp; omega) h1
  simp only [Nat.add_zero] at hst
  have hmin : Nat.min ks kd = ks := Nat.min_eq_left hks
  obtain ⟨ad, cap, rfl, h2, h3, h4⟩ := hv
  refine ⟨I64 ks, w.setRow b (L.take o ++ cs ++ L.drop (o + cs.length)).toArray, ?_, rfl, hs'.upd rfl rfl rfl (by simp) (setRow_heap w b _ _ t' (0, 0) hb) (fun j _ hj => setRow_other w b j _ hj)⟩
  have hrun : (Builtin.copy_ #[t, t2] ty #[Sl b o kd cd, .slice ad ks cap]).run P w = .ok (I64 ks) (w.setRow b (L.take o ++ cs ++ L.drop (o + cs.length)).toArray) := by
    rcases h4 with ⟨rfl, hnil⟩ | ⟨bb, oo, rfl, hc⟩
    · have hk0 : ks * sz = 0 := by simpa using hcs.symm
      cases ad with
      | none => simp [Builtin.copy_, run_underlying hu, Builtin.lenOf, sizeOf, typeInfo, hi, hmin, Builtin.firstCells, hst, goInt]
      | some a0 =>
        have hf := run_firstCells_some (P := P) w i.size ks a0 ks cap [] (by rw [hsz, hk0]; rfl) (by simp)
        simp [Builtin.copy_, run_underlying hu, Builtin.lenOf, sizeOf, typeInfo, hi, hmin, hf, hst, goInt]
    · have hf := run_firstCells_some (P := P) w i.size ks ⟨bb, oo, none⟩ ks cap cs (by rw [hsz, hcs]) (fun j v hj => by rw [addr_add]; exact (hc j v hj).cell hs)
      simp [Builtin.copy_, run_underlying hu, Builtin.lenOf, sizeOf, typeInfo, hi, hmin, hf, hst, goInt]
  have hop : (execOp a.eval ⟨dst, .call { callee := .builtin .copy, args := #[x, y], argTypes := #[t, t2] }, ty, pos, aft, g⟩).run P w = ((Builtin.copy_ #[t, t2] ty #[Sl b o kd cd, .slice ad ks cap]).run P w).andThen fun u w' => .ok (.value u) w' := by
    simp [execOp, ht.eval hx, ht.eval hy, builtin, resolve, invoke, Deferred.ofValue]
  rw [hop, hrun]; rfl
theorem s_copy {x y : Operand} {t t2 t' e : TypeId} {z : Value} {sz bs b o kd cd ks : Nat} {vs : Value} {L cs : List Value} (hm : mkB P t = some (e, z, sz, bs))
    (hx : ev env x = some (Sl b o kd cd)) (hy : ev env y = some vs) (hg : gOn ops env ⟨some d, .call { callee := .builtin .copy, args := #[x, y], argTypes := #[t, t2] }, ty, pos, aft, g⟩ = some true) (hd : Nat.blt d n = true)
    (hp : Pick b (Cs L t') H H1) (hv : SV G H vs ks cs) (hks : ks ≤ kd) (hcs : cs.length = ks * sz) (hl : o + ks * sz ≤ L.length) (h1 : ∀ u ∈ cs, u.oneCell' = true)
    (hK : Holds n ds w0 ((d, I64 ks) :: env) G ((b, Cs (L.take o ++ cs ++ L.drop (o + cs.length)) t') :: H1) K) :
    Holds n ds w0 env G H (stepK P ops Q ⟨some d, .call { callee := .builtin .copy, args := #[x, y], argTypes := #[t, t2] }, ty, pos, aft, g⟩ K) :=
  s_eff hg rfl hd (e_copy hx hy hm hp hv hks hcs hl h1) (fun v' w' ⟨hu, hs⟩ => by subst hu; exact hK.atw hs)
/-- As e_copy, where src is longer. -/
theorem e_copyD {x y : Operand} {t t2 t' e : TypeId} {z : Value} {sz bs b o kd cd ks : Nat} {vs : Value} {L cs : List Value}
    (hx : ev env x = some (Sl b o kd cd)) (hy : ev env y = some vs) (hm : mkB P t = some (e, z, sz, bs)) (hp : Pick b (Cs L t') H H1) (hv : SV G H vs ks cs) (hks : kd ≤ ks) (hcs : cs.length = ks * sz) (hl : o + kd * sz ≤ L.length) (h1 : ∀ u ∈ cs, u.oneCell' = true) :
    Eff P w0 env G H ⟨dst, .call { callee := .builtin .copy, args := #[x, y], argTypes := #[t, t2] }, ty, pos, aft, g⟩ (fun u w' => u = I64 kd ∧ Sat w0 w' G ((b, Cs (L.take o ++ cs.take (kd * sz) ++ L.drop (o + kd * sz)) t') :: H1)) := fun a n ds w ht hs => by
  have hs' := hs.perm hp.perm
  have hb : w.heap[b]? = some (.cells L.toArray t' (0, 0)) := hs'.own _ (List.mem_cons_self ..)
  obtain ⟨i, hu, hi, _, hsz, _⟩ := mkB_spec hm
  have htl : (cs.take (kd * sz)).length = kd * sz := by rw [List.length_take, hcs]; exact Nat.min_eq_left (Nat.mul_le_mul_right _ hks)
  have hst := run_storeCells_at (P := P) b o t' (cs.take (kd * sz)) 0 L.toArray w hb (by simp; rw [hcs, Nat.min_eq_left (Nat.mul_le_mul_right _ hks)]; omega) (fun u hu => h1 u (List.mem_of_mem_take hu))
  simp only [Nat.add_zero, htl] at hst
  have hmin : Nat.min ks kd = kd := Nat.min_eq_right hks
  obtain ⟨ad, cap, rfl, h2, h3, h4⟩ := hv
  refine ⟨I64 kd, w.setRow b (L.take o ++ cs.take (kd * sz) ++ L.drop (o + kd * sz)).toArray, ?_, rfl, hs'.upd rfl rfl rfl (by simp) (setRow_heap w b _ _ t' (0, 0) hb) (fun j _ hj => setRow_other w b j _ hj)⟩
  have hrun : (Builtin.copy_ #[t, t2] ty #[Sl b o kd cd, .slice ad ks cap]).run P w = .ok (I64 kd) (w.setRow b (L.take o ++ cs.take (kd * sz) ++ L.drop (o + kd * sz)).toArray) := by
    rcases h4 with ⟨rfl, hnil⟩ | ⟨bb, oo, rfl, hc⟩
    · have hk0 : kd * sz = 0 := by
        have : ks * sz = 0 := by simpa using hcs.symm
        have := Nat.mul_le_mul_right sz hks
        omega
      cases ad with
      | none => simp [Builtin.copy_, run_underlying hu, Builtin.lenOf, sizeOf, typeInfo, hi, hmin, Builtin.firstCells, hst, goInt] at hst ⊢; rw [hst]; rfl
      | some a0 =>
        have hf := run_firstCells_some (P := P) w i.size kd a0 ks cap [] (by rw [hsz, hk0]; rfl) (by simp)
        simp [Builtin.copy_, run_underlying hu, Builtin.lenOf, sizeOf, typeInfo, hi, hmin, hf, hst, goInt] at hst ⊢; rw [hst]; rfl
    · have hf := run_firstCells_some (P := P) w i.size kd ⟨bb, oo, none⟩ ks cap (cs.take (kd * sz)) (by rw [hsz, htl]) (fun j v hj => by
        rw [addr_add]
        have hlt : j < (cs.take (kd * sz)).length := (List.getElem?_eq_some_iff.1 hj).1
        rw [List.getElem?_take, if_pos (by omega)] at hj
        exact (hc j v hj).cell hs)
      simp [Builtin.copy_, run_underlying hu, Builtin.lenOf, sizeOf, typeInfo, hi, hmin, hf, hst, goInt]
  have hop : (execOp a.eval ⟨dst, .call { callee := .builtin .copy, args := #[x, y], argTypes := #[t, t2] }, ty, pos, aft, g⟩).run P w = ((Builtin.copy_ #[t, t2] ty #[Sl b o kd cd, .slice ad ks cap]).run P w).andThen fun u w' => .ok (.value u) w' := by
    simp [execOp, ht.eval hx, ht.eval hy, builtin, resolve, invoke, Deferred.ofValue]
  rw [hop, hrun]; rfl
theorem s_copyD {x y : Operand} {t t2 t' e : TypeId} {z : Value} {sz bs b o kd cd ks : Nat} {vs : Value} {L cs : List Value} (hm : mkB P t = some (e, z, sz, bs))
    (hx : ev env x = some (Sl b o kd cd)) (hy : ev env y = some vs) (hg : gOn ops env ⟨some d, .call { callee := .builtin .copy, args := #[x, y], argTypes := #[t, t2] }, ty, pos, aft, g⟩ = some true) (hd : Nat.blt d n = true)
    (hp : Pick b (Cs L t') H H1) (hv : SV G H vs ks cs) (hks : kd ≤ ks) (hcs : cs.length = ks * sz) (hl : o + kd * sz ≤ L.length) (h1 : ∀ u ∈ cs, u.oneCell' = true)
    (hK : Holds n ds w0 ((d, I64 kd) :: env) G ((b, Cs (L.take o ++ cs.take (kd * sz) ++ L.drop (o + kd * sz)) t') :: H1) K) :
    Holds n ds w0 env G H (stepK P ops Q ⟨some d, .call { callee := .builtin .copy, args := #[x, y], argTypes := #[t, t2] }, ty, pos, aft, g⟩ K) :=
  s_eff hg rfl hd (e_copyD hx hy hm hp hv hks hcs hl h1) (fun v' w' ⟨hu, hs⟩ => by subst hu; exact hK.atw hs)
/-- []T{x}, x a struct. -/
theorem s_litA1 (A : List Value) {t e : TypeId} {z : Value} {sz bs : Nat} {x : Operand} (hm : mkB P t = some (e, z, sz, bs)) (hx : ev env x = some (.agg A.toArray)) (hg : gOn ops env ⟨some d, .buildSlice t 1 #[(0, x)], ty, pos, aft, g⟩ = some true) (hd : Nat.blt d n = true)
    (hz : z.cells.size = sz) (hA : A.length = sz) (hsz : 0 < sz) (hb : sz ≤ 10000)
    (hK : ∀ b, Holds n ds w0 ((d, Sl b 0 1 1) :: env) G ((b, Cs A e) :: H) K) :
    Holds n ds w0 env G H (stepK P ops Q ⟨some d, .buildSlice t 1 #[(0, x)], ty, pos, aft, g⟩ K) := by
  refine s_litN [x] (vs := [.agg A.toArray]) hm (by simp [evl, hx]) hg hd hz (by simp [Value.cells, hA]) hsz (by simp) (by simp; omega) fun b => ?_
  have := hK b
  simpa [Value.cells] using this
end
/-- An owned slice, one element of it written. -/
theorem Own.put {v : Value} {k : Nat} {L : List Value} {e : TypeId} {sz : Nat} {B : Hp} (h : Own v k L e sz B) (hk : 0 < k) :
    ∃ b c sl, v = Sl b 0 k c ∧ k ≤ c ∧ c ≤ maxLen ∧ B = [(b, Cs (L ++ sl) e)] ∧ L.length + sl.length = c * sz ∧
      ∀ (j : Nat) (cs : List Value), j < k → cs.length = sz → Own v k (L.take (j * sz) ++ cs ++ L.drop (j * sz + sz)) e sz [(b, Cs ((L ++ sl).take (j * sz) ++ cs ++ (L ++ sl).drop (j * sz + cs.length)) e)] := by
  obtain ⟨hl, ⟨_, _, h0, _⟩ | ⟨b, c, sl, rfl, hc, hkc, hs, rfl⟩⟩ := h
  · omega
  refine ⟨b, c, sl, rfl, hkc, hc, rfl, hs, fun j cs hj hcs => ?_⟩
  have hle : j * sz + sz ≤ L.length := by
    rw [hl, ← Nat.succ_mul]; exact Nat.mul_le_mul_right _ hj
  have h1 : (L ++ sl).take (j * sz) = L.take (j * sz) := by rw [List.take_append_of_le_length (by omega)]
  have h2 : (L ++ sl).drop (j * sz + cs.length) = L.drop (j * sz + sz) ++ sl := by rw [hcs, List.drop_append_of_le_length hle]
  refine ⟨by simp only [List.length_append, List.length_take, List.length_drop, hcs]; omega, .inr ⟨b, c, sl, rfl, hc, hkc, ?_, ?_⟩⟩
  · simp only [List.length_append, List.length_take, List.length_drop, hcs]; omega
  · rw [h1, h2]; simp
end

section
open Go
set_option linter.unusedVariables false
set_option linter.unusedSimpArgs false

variable {w0 w : World} {G G' : Im} {H H' H1 : Hp} {m d : Nat}
variable {n : Nat} {ds : List Deferred} {env : Env} {P : Program} {Q : Exit → Act → World → Prop} {ops : Array Oper} {K : Act → World → Prop}
variable {dst : Option Tmp} {ty : TypeId} {pos : String} {aft : Array Edge} {g : Option (Nat × Bool)}

/-- A type that is no interface. -/
def concB (P : Program) (t : TypeId) : Bool := match P.underlying t with
  | some (.interface _) => false
  | some _ => true
  | none => false
theorem v_iface {x : Operand} {t : TypeId} {v : Value} (hx : ev env x = some v) (hc : concB P t = true) : Val P env G H ⟨dst, .makeInterface t x, ty, pos, aft, g⟩ (.iface t v) := fun a n ds w0 w ht hs => by
  unfold concB at hc
  cases hu : P.underlying t with
  | none => rw [hu] at hc; cases hc
  | some k =>
    rw [hu] at hc
    cases k <;> first | (simp at hc; done) | simp [execOp, Instr.makeInterface, ht.eval hx, run_underlying hu]
theorem v_assert_t {x : Operand} {t xt : TypeId} {v : Value} (hx : ev env x = some (.iface t v)) (hc : concB P t = true) : Val P env G H ⟨dst, .typeAssert x xt t true, ty, pos, aft, g⟩ (.tuple #[v, .bool true]) := fun a n ds w0 w ht hs => by
  unfold concB at hc
  cases hu : P.underlying t with
  | none => rw [hu] at hc; cases hc
  | some k =>
    rw [hu] at hc
    cases k <;> first | (simp at hc; done) | simp [execOp, Instr.typeAssert, ht.eval hx, run_underlying hu]
theorem v_assert_n {x : Operand} {t xt : TypeId} {z : Value} (hx : ev env x = some .nilIface) (hc : concB P t = true) (hz : zeroB P t = some z) : Val P env G H ⟨dst, .typeAssert x xt t true, ty, pos, aft, g⟩ (.tuple #[z, .bool false]) := fun a n ds w0 w ht hs => by
  unfold concB at hc
  obtain ⟨i, hi, hz⟩ := zeroB_spec hz
  cases hu : P.underlying t with
  | none => rw [hu] at hc; cases hc
  | some k =>
    rw [hu] at hc
    cases k <;> first | (simp at hc; done) | simp [execOp, Instr.typeAssert, ht.eval hx, run_underlying hu, zeroValue, typeInfo, hi, hz]

/-- panic(x). -/
theorem s_panic {x : Operand} {t : TypeId} {v : Value} (hg : gOn ops env ⟨none, .panic x, ty, pos, aft, g⟩ = some true) (hx : ev env x = some (.iface t v)) (k : Holds n ds w0 env G H (Q (.panic [{ v := .iface t v, recovered := false }]))) :
    Holds n ds w0 env G H (stepK P ops Q ⟨none, .panic x, ty, pos, aft, g⟩ K) := fun a w ht hs => by
  unfold stepK
  rw [gOn_spec ht hg, if_pos rfl]
  refine .inl ?_
  unfold Oper.wp
  have hrun : (execOp a.eval ⟨none, .panic x, ty, pos, aft, g⟩).run P w = .halt (.panic (.iface t v)) w := by
    simp [execOp, Instr.panic, ht.eval hx, goPanic]
  rw [hrun]
  exact k a w ht hs
theorem TT.defer {a : Act} (h : TT a n ds env) (d : Deferred) : TT { a with defers := d :: a.defers } n (d :: ds) env := ⟨h.size, by simp [h.defers], h.get⟩
theorem s_defer {o : Oper} {fo : Operand} {ts : Array TypeId} {f : FuncId} {cap : Array Value} (hop : o.op = .defer { callee := .value fo, args := #[], argTypes := ts })
    (hg : gOn ops env o = some true) (hd : o.dst = none) (hf : ev env fo = some (.func (.func f) #[] cap))
    (k : Holds n ({ target := .fn (.func f) cap, args := #[] } :: ds) w0 env G H K) : Holds n ds w0 env G H (stepK P ops Q o K) := fun a w ht hs => by
  unfold stepK
  rw [gOn_spec ht hg, if_pos rfl]
  refine .inl ?_
  unfold Oper.wp
  have hrun : (execOp a.eval o).run P w = .ok (.defer { target := .fn (.func f) cap, args := #[] }) w := by
    simp [execOp, hop, resolve, ht.eval hf, Deferred.ofValue]
  rw [hrun, Oper.upon_defer, hd]
  exact k _ w (ht.defer _) hs

/-! ### Functions that defer -/
theorem f_enterD {f : FuncId} {fn : Func} {c : Code} {vs : List Value} {R : Ending → World → Prop} (hf : P.funcs[f]? = some fn) (hb : fn.body = some c) (hn : fn.ntmps = n) (hl : vs.length ≤ n) (hs : Sat w0 w G H)
    (h : Holds n [] w0 (envOf 0 vs) G H (c.wp P (bodyPostD P fn R))) : Calls P f vs.toArray w R := by
  refine calls_of_wp_defers hf hb (h _ w ⟨?_, rfl, fun i v hv => ?_⟩ hs)
  · simp [hn]; omega
  · obtain ⟨_, h2⟩ := envOf_spec vs 0 i v hv
    have hlt : i < vs.length := by simpa using (List.getElem?_eq_some_iff.1 h2).1
    rw [Array.getElem?_append_left (by simpa using hlt)]
    simpa using h2
/-- Out by a return, nothing deferred. -/
theorem d_ret0 {fn : Func} {R : Ending → World → Prop} (hr : fn.results = #[]) (hR : ∀ w, Sat w0 w G H → R (.returned (.tuple #[])) w) : Holds n [] w0 env G H (bodyPostD P fn R .ret) := fun a w ht hs => by
  show Leaves _ _ _ _ _ _ _
  rw [ht.defers]
  exact ⟨_, results_none hr _ _ _, hR w hs⟩
/-- The one deferred call, behind the body's end. -/
theorem d_end1 {fn : Func} {f : FuncId} {cap : Array Value} {R : Ending → World → Prop} {R' : Ending → FrameMode → World → Prop} (hr : fn.results = #[]) (hen : entersB P f = true)
    (hC : ∀ w, Sat w0 w G H → CallsD P f cap .returning w R') (hR : ∀ e u w, R' e u w → (∃ v, e = .returned v) ∧ settle u = .returning ∧ R (.returned (.tuple #[])) w) :
    Holds n [{ target := .fn (.func f) cap, args := #[] }] w0 env G H (bodyPostD P fn R .normal) := fun a w ht hs => by
  show Leaves _ _ _ _ _ _ _
  rw [ht.defers]
  refine leaves_cons (by simp) (f := f) (args := cap) (by simp [invoke, enters_run hen]) ((hC w hs).mono fun e u w' h => ?_)
  obtain ⟨⟨v, rfl⟩, hu, hR'⟩ := hR e u w' h
  show Leaves _ _ _ _ _ _ _
  rw [hu]
  exact ⟨_, results_none hr _ _ _, hR'⟩
/-- The one deferred call, behind a panic. -/
theorem d_panic1 {fn : Func} {f : FuncId} {cap : Array Value} {ch : List PanicEntry} {R : Ending → World → Prop} {R' : Ending → FrameMode → World → Prop} (hr : fn.results = #[]) (hen : entersB P f = true)
    (hC : ∀ w, Sat w0 w G H → CallsD P f cap (.panicking ch) w R') (hR : ∀ e u w, R' e u w → (∃ v, e = .returned v) ∧ settle u = .returning ∧ R (.returned (.tuple #[])) w) :
    Holds n [{ target := .fn (.func f) cap, args := #[] }] w0 env G H (bodyPostD P fn R (.panic ch)) := fun a w ht hs => by
  show Leaves _ _ _ _ _ _ _
  rw [ht.defers]
  refine leaves_cons (by simp) (f := f) (args := cap) (by simp [invoke, enters_run hen]) ((hC w hs).mono fun e u w' h => ?_)
  obtain ⟨⟨v, rfl⟩, hu, hR'⟩ := hR e u w' h
  show Leaves _ _ _ _ _ _ _
  rw [hu]
  exact ⟨_, results_none hr _ _ _, hR'⟩

/-! ### A deferred call's own walk -/
variable {QS : Exit → Act → List Frame → World → Prop} {cs cs' : List Frame} {rest : List Nat}
theorem q_val {i : Nat} {o : Oper} {v : Value} (hi : ops[i]? = some o) (hg : gOn ops env o = some true) (hdst : o.dst = some d) (hd : Nat.blt d n = true) (hv : Val P env G H o v)
    (k : Holds n ds w0 ((d, v) :: env) G H (fun a w => wpOpsS P ops QS rest a cs w)) : Holds n ds w0 env G H (fun a w => wpOpsS P ops QS (i :: rest) a cs w) := fun a w ht hs => by
  show wpOpsS P ops QS (i :: rest) a cs w
  simp only [wpOpsS, hi, gOn_spec ht hg, if_true, hv a n ds w0 w ht hs]
  rw [Oper.upon_value, hdst]
  exact k _ w (ht.put (of_blt hd) v) hs
theorem q_eff {i : Nat} {o : Oper} {Φ : Value → World → Prop} (hi : ops[i]? = some o) (hg : gOn ops env o = some true) (hdst : o.dst = some d) (hd : Nat.blt d n = true) (he : Eff P w0 env G H o Φ)
    (k : ∀ v w', Φ v w' → HoldsW n ds ((d, v) :: env) w' (fun a w => wpOpsS P ops QS rest a cs w)) : Holds n ds w0 env G H (fun a w => wpOpsS P ops QS (i :: rest) a cs w) := fun a w ht hs => by
  show wpOpsS P ops QS (i :: rest) a cs w
  obtain ⟨v, w', hr, hΦ⟩ := he a n ds w ht hs
  simp only [wpOpsS, hi, gOn_spec ht hg, if_true, hr]
  rw [Oper.upon_value, hdst]
  exact k v w' hΦ _ (ht.put (of_blt hd) v)
theorem q_eff0 {i : Nat} {o : Oper} {Φ : World → Prop} (hi : ops[i]? = some o) (hg : gOn ops env o = some true) (hdst : o.dst = none) (he : Eff0 P w0 env G H o Φ)
    (k : ∀ w', Φ w' → HoldsW n ds env w' (fun a w => wpOpsS P ops QS rest a cs w)) : Holds n ds w0 env G H (fun a w => wpOpsS P ops QS (i :: rest) a cs w) := fun a w ht hs => by
  show wpOpsS P ops QS (i :: rest) a cs w
  obtain ⟨w', hr, hΦ⟩ := he a n ds w ht hs
  simp only [wpOpsS, hi, gOn_spec ht hg, if_true, hr]
  rw [Oper.upon_skip, hdst]
  exact k w' hΦ a ht
theorem q_rec_n {i : Nat} {t : Array TypeId} (hi : ops[i]? = some ⟨some d, .call { callee := .builtin .recover, args := #[], argTypes := t }, ty, pos, aft, g⟩) (hg : gOn ops env ⟨some d, .call { callee := .builtin .recover, args := #[], argTypes := t }, ty, pos, aft, g⟩ = some true) (hd : Nat.blt d n = true) (hr : recoverD cs = none)
    (k : Holds n ds w0 ((d, .nilIface) :: env) G H (fun a w => wpOpsS P ops QS rest a cs w)) : Holds n ds w0 env G H (fun a w => wpOpsS P ops QS (i :: rest) a cs w) := fun a w ht hs => by
  show wpOpsS P ops QS (i :: rest) a cs w
  have hrun : (execOp a.eval ⟨some d, .call { callee := .builtin .recover, args := #[], argTypes := t }, ty, pos, aft, g⟩).run P w = .ok .recover w := by
    simp [execOp, resolve, invoke, builtin]
  simp only [wpOpsS, hi, gOn_spec ht hg, if_true, hrun, hr]
  exact k _ w (ht.put (of_blt hd) _) hs
theorem q_rec_s {i : Nat} {t : Array TypeId} {v : Value} (hi : ops[i]? = some ⟨some d, .call { callee := .builtin .recover, args := #[], argTypes := t }, ty, pos, aft, g⟩) (hg : gOn ops env ⟨some d, .call { callee := .builtin .recover, args := #[], argTypes := t }, ty, pos, aft, g⟩ = some true) (hd : Nat.blt d n = true) (hr : recoverD cs = some (v, cs'))
    (k : Holds n ds w0 ((d, v) :: env) G H (fun a w => wpOpsS P ops QS rest a cs' w)) : Holds n ds w0 env G H (fun a w => wpOpsS P ops QS (i :: rest) a cs w) := fun a w ht hs => by
  show wpOpsS P ops QS (i :: rest) a cs w
  have hrun : (execOp a.eval ⟨some d, .call { callee := .builtin .recover, args := #[], argTypes := t }, ty, pos, aft, g⟩).run P w = .ok .recover w := by
    simp [execOp, resolve, invoke, builtin]
  simp only [wpOpsS, hi, gOn_spec ht hg, if_true, hrun, hr]
  exact k _ w (ht.put (of_blt hd) _) hs
theorem q_nil (k : Holds n ds w0 env G H (fun a w => QS .normal a cs w)) : Holds n ds w0 env G H (fun a w => wpOpsS P ops QS [] a cs w) := k
theorem q_region {id : Nat} (k : Holds n ds w0 env G H (fun a w => wpOpsS P ops QS (List.range ops.size) a cs w)) : Holds n ds w0 env G H (fun a w => (Code.region id ops false).wpS P QS a cs w) := fun a w ht hs => wpS_region (k a w ht hs)
theorem q_seq {x y : Code} (k : Holds n ds w0 env G H (fun a w => x.wpS P (Exit.thenS (y.wpS P QS) QS) a cs w)) : Holds n ds w0 env G H (fun a w => (Code.seq x y).wpS P QS a cs w) := fun a w ht hs => wpS_seq (k a w ht hs)
theorem q_plain {c : Code} (k : Holds n ds w0 env G H (c.wp P (fun e a w => QS e a cs w))) : Holds n ds w0 env G H (fun a w => c.wpS P QS a cs w) := fun a w ht hs => wpS_of_wp (k a w ht hs)
theorem q_enter {f : FuncId} {fn : Func} {c : Code} {vs : List Value} {u : FrameMode} {R : Ending → FrameMode → World → Prop} (hf : P.funcs[f]? = some fn) (hb : fn.body = some c) (hn : fn.ntmps = n) (hl : vs.length ≤ n) (hs : Sat w0 w G H)
    (h : ∀ (c₀ : Frame) (cs : List Frame), c₀.mode = u → Holds n [] w0 (envOf 0 vs) G H (fun a w => c.wpS P (bodyPostS P fn c₀ cs R) a (c₀ :: cs) w)) : CallsD P f vs.toArray u w R := by
  refine callsD_of_wpS hf hb fun c₀ cs hu => h c₀ cs hu _ w ⟨?_, rfl, fun i v hv => ?_⟩ hs
  · simp [hn]; omega
  · obtain ⟨_, h2⟩ := envOf_spec vs 0 i v hv
    have hlt : i < vs.length := by simpa using (List.getElem?_eq_some_iff.1 h2).1
    rw [Array.getElem?_append_left (by simpa using hlt)]
    simpa using h2
theorem q_end {fn : Func} {c₀ : Frame} {u' : FrameMode} {R : Ending → FrameMode → World → Prop} (hr : fn.results = #[]) (hcs : cs = { c₀ with mode := u' } :: cs') (hR : ∀ w, Sat w0 w G H → R (.returned (.tuple #[])) u' w) :
    Holds n [] w0 env G H (fun a w => bodyPostS P fn c₀ cs' R .normal a cs w) := fun a w ht hs =>
  ⟨ht.defers, u', hcs, _, results_none hr _ _ _, hR w hs⟩
end

section
open Go
set_option linter.unusedVariables false
set_option linter.unusedSimpArgs false

variable {w0 w : World} {G G' : Im} {H H' H1 : Hp} {m d : Nat}
variable {n : Nat} {ds : List Deferred} {env : Env} {P : Program} {Q : Exit → Act → World → Prop} {ops : Array Oper} {K : Act → World → Prop}
variable {dst : Option Tmp} {ty : TypeId} {pos : String} {aft : Array Edge} {g : Option (Nat × Bool)} {ch : List PanicEntry}

theorem f_panic {fn : Func} {R : Ending → World → Prop} (hR : ∀ w, Sat w0 w G H → R (.panicked ch) w) : Holds n [] w0 env G H (bodyPost P fn R (.panic ch)) := fun a w ht hs => ⟨ht.defers, hR w hs⟩
theorem a_panic {nx : Act → World → Prop} (h : Holds n ds w0 env G H (Q (.panic ch))) (hs : Sat w0 w G H) : AfterD n ds env d Q nx (.panicked ch) w := h.atw hs
theorem a_panic0 {nx : Act → World → Prop} (h : Holds n ds w0 env G H (Q (.panic ch))) (hs : Sat w0 w G H) : After n ds env none Q nx (.panicked ch) w := h.atw hs

theorem i64_or256 (a b : Nat) (ha : a < 36028797018963968) (hb : b < 256) : bits .or .i64 ((a * 256 : Nat) : Int) (b : Int) = ((a * 256 + b : Nat) : Int) := by
  have h1 : b ||| a * 256 = a * 256 + b := by
    rw [Nat.or_comm, show (256 : Nat) = 2 ^ 8 from rfl, ← Nat.shiftLeft_eq, Nat.shiftLeft_add_eq_or_of_lt (by simpa using hb)]
  have h2 : a * 256 ||| b = a * 256 + b := by rw [Nat.or_comm, h1]
  show IntKind.i64.wrap ((BitVec.ofInt 64 ((a * 256 : Nat) : Int) ||| BitVec.ofInt 64 (b : Int)).toNat : Int) = _
  rw [BitVec.toNat_or, ofInt_u64 _ (by omega), ofInt_u64 b (by omega), h2]
  exact IntWalk.i64_in _ ⟨by omega, by omega⟩
theorem v_or256 (a b : Nat) {x y : Operand} {t t' : TypeId} {p q : Int} (hx : ev env x = some (I64 p)) (hy : ev env y = some (I64 q)) (hp : p = (a : Int) * 256) (hq : q = b) (ha : a < 36028797018963968) (hb : b < 256) :
    Val P env G H ⟨dst, .binOp .or t x y t', ty, pos, aft, g⟩ (I64 ((a * 256 + b : Nat) : Int)) := fun a' n ds w0 w ht hs => by
  subst hp hq
  have h2 : (binOp .or t (I64 ((a : Int) * 256)) (I64 (b : Int))).run P w = .ok (.int .i64 (bits .or .i64 ((a : Int) * 256) (b : Int))) w := by
    simp [binOp, Op.intBits, bits]
  have h1 := i64_or256 a b ha hb
  rw [show ((a * 256 : Nat) : Int) = (a : Int) * 256 by omega] at h1
  simp only [execOp, eqGuard, ht.eval hx, ht.eval hy, h2, h1]
  simp [eqGuard, h2, h1]
end

section
open Go
set_option linter.unusedVariables false
set_option maxHeartbeats 400000
attribute [local irreducible] Code.wp wpList stepK Holds Val wpR Eff Eff0 Code.wpIn wpListIn stepI Exit.then Exit.inBlock bodyPost bodyPostM

theorem clone_c (v : Value) (xs : List UInt8) (w0 w : World) (G : Im) (F : Hp) (hv : SV G [] v xs.length (xs.map B8)) (hm : xs.length ≤ 1000000) (hs : Sat w0 w G F) :
    Calls Try.prog 86 #[v] w fun e w' => ∃ G' u, e = .returned u ∧ Im.le G G' ∧ SV G' [] u xs.length (xs.map B8) ∧ Sat w0 w' G' F := by
  obtain ⟨ad, cap, rfl⟩ := hv.form
  refine f_enter (vs := [_]) Try.func86 rfl Try.ntmps86 (by simp) hs ?_
  refine ww ?_
  cases ad with
  | none =>
    refine c_cond_t rfl ?_
    refine ww ?_
    obtain ⟨_, _, he, h1, h2, h3⟩ := hv
    cases he
    have hx : xs = [] := by
      rcases h3 with ⟨h, _⟩ | ⟨_, _, h, _⟩
      · simpa using h
      · cases h
    subst hx
    exact f_ret1 rfl rfl (fun w hs => ⟨G, _, rfl, Im.le_refl G, SV.nil _ _, hs⟩)
  | some b =>
    refine c_cond_f rfl ?_
    refine ww ?_
    refine c_cons (s_lit (z := B8 0) (bs := 1) (e := 5) [] (by kernel_rfl) rfl rfl rfl rfl (by simp) rfl (by decide) fun b0 => ?_)
    refine ww ?_
    refine c_cons (s_append (e := 5) (z := B8 0) (sz := 1) (bs := 1) (by kernel_rfl) rfl rfl rfl rfl (Own.full (by simp) (by decide)) Chunk.one (hv.mono (Im.le_refl _) (by simp)) rfl (by decide) (by simp) (by simp [Value.oneCell']) (by simp; omega) (by simp; omega) fun u1 B1 hown1 => ?_)
    simp only [List.length_nil, List.nil_append, Nat.zero_add] at hown1
    refine c_freezeO hown1 Chunk.head fun G1 hG1 hsv1 => ?_
    refine ww ?_
    exact f_ret1 rfl rfl (fun w hs => ⟨G1, _, rfl, hG1, hsv1, hs⟩)
end

section
open Go
set_option linter.unusedVariables false
set_option linter.unusedSimpArgs false
set_option maxHeartbeats 3200000
attribute [local irreducible] Code.wp wpList stepK Holds Val wpR Eff Eff0 Code.wpIn wpListIn stepI Exit.then Exit.inBlock bodyPost bodyPostM

/-- An eye: its bytes, why it failed. -/
abbrev EyO (ep : Nat) (v : Value) (bad : Int) : Nat × Obj := (ep, Cs [.bool true, v, I64 bad] 137)
abbrev EB (G : Im) (v : Value) (xs : List UInt8) : Prop := SV G [] v xs.length (xs.map B8)
/-- It gives up. -/
def gone (c : Int) : List PanicEntry := [{ v := .iface 131 (.agg #[I64 c]), recovered := false }]
/-- A number, the great byte first. -/
def num (xs : List UInt8) : Nat := xs.foldl (fun x c => x * 256 + c.toNat) 0
theorem num_snoc (xs : List UInt8) (c : UInt8) : num (xs ++ [c]) = num xs * 256 + c.toNat := by simp [num]
theorem num_lt_go (xs : List UInt8) : ∀ a : Nat, xs.foldl (fun x c => x * 256 + c.toNat) a < (a + 1) * 256 ^ xs.length := by
  induction xs with
  | nil => intro a; simp
  | cons c xs ih =>
    intro a
    have h1 := ih (a * 256 + c.toNat)
    have h2 := c.toNat_lt
    have h3 : (a * 256 + c.toNat + 1) * 256 ^ xs.length ≤ (a + 1) * 256 * 256 ^ xs.length := Nat.mul_le_mul_right _ (by omega)
    rw [List.foldl_cons, List.length_cons, Nat.pow_succ, Nat.mul_comm (256 ^ xs.length) 256, ← Nat.mul_assoc]
    omega
theorem num_lt (xs : List UInt8) : num xs < 256 ^ xs.length := by
  have := num_lt_go xs 0
  simpa [num] using this
theorem num_le (xs : List UInt8) (h : xs.length ≤ 7) : num xs < 72057594037927936 := by
  have h1 := num_lt xs
  have h2 : 256 ^ xs.length ≤ 256 ^ 7 := Nat.pow_le_pow_right (by decide) h
  have h3 : (256 : Nat) ^ 7 = 72057594037927936 := by decide
  omega
theorem EB.take {G : Im} {xs : List UInt8} {ad : Option Addr} {k c i : Nat} (h : EB G (.slice ad k c) xs) (hi : i ≤ xs.length) : EB G (.slice ad i i) (xs.take i) := by
  have hk : k = xs.length := by obtain ⟨_, _, e, _⟩ := h; cases e; rfl
  subst hk
  have h1 := SV.hi (h := i) 1 h hi
  have h2 : SV G [] (.slice ad i i) i (((xs.map B8)).take (i * 1)) := SV.full h1 (fun h0 => by subst h0; simp)
  have h3 : (xs.take i).length = i := by simp; omega
  show SV G [] _ (xs.take i).length _
  rw [h3, List.map_take]
  simpa using h2
theorem EB.drop {G : Im} {xs : List UInt8} {ad : Option Addr} {k c i : Nat} (h : EB G (.slice ad k c) xs) (hi : i ≤ xs.length) : EB G (slMid ad c i k 1) (xs.drop i) := by
  have hk : k = xs.length := by obtain ⟨_, _, e, _⟩ := h; cases e; rfl
  subst hk
  have h1 := SV.lo (l := i) (s := 1) h hi (by simp)
  show SV G [] _ (xs.drop i).length _
  rw [List.length_drop, List.map_drop]
  simpa using h1

-- pinstripe/wire.may
theorem emay_c (x : Int) (w0 w : World) (G : Im) (F : Hp) (hs : Sat w0 w G F) :
    Calls Try.prog 68 #[I64 x] w fun e w' => e = .returned (.bool (decide (1 ≤ x ∧ x ≤ 7))) ∧ Sat w0 w' G F := by
  refine f_enter (vs := [_]) Try.func68 rfl Try.ntmps68 (by simp) hs ?_
  refine ww ?_
  refine c_part_d 5 _ rfl (fun c1 => ?_) (fun c1 => ?_)
  · -- t5 = True
    refine ww ?_
    exact f_ret1 rfl rfl (fun w hs => ⟨by rw [decide_eq_decide.2 (show x ≤ 7 ↔ 1 ≤ x ∧ x ≤ 7 by omega)], hs⟩)
  refine ww ?_
  exact f_ret1 rfl rfl (fun w hs => ⟨by rw [decide_eq_false (show ¬ (1 ≤ x ∧ x ≤ 7) by omega)], hs⟩)

-- (*pinstripe/wire.Eye).take
theorem take_c (ep : Nat) (v : Value) (bad : Int) (xs : List UInt8) (i : Nat) (w0 w : World) (G : Im) (F : Hp) (hv : EB G v xs) (hs : Sat w0 w G (EyO ep v bad :: F)) :
    Calls Try.prog 83 #[Pt ep 0, I64 i] w fun e w' =>
      (i ≤ xs.length ∧ ∃ u v', e = .returned u ∧ EB G u (xs.take i) ∧ EB G v' (xs.drop i) ∧ Sat w0 w' G (EyO ep v' bad :: F)) ∨ (xs.length < i ∧ e = .panicked (gone 2) ∧ Sat w0 w' G (EyO ep v bad :: F)) := by
  obtain ⟨ad, c, rfl, hc1, hc2, hc3⟩ := id hv
  refine f_enter (vs := [_, _]) Try.func83 rfl Try.ntmps83 (by simp) hs ?_
  refine ww ?_
  refine c_cons (s_val (v_field 1 rfl (by kernel_rfl)) rfl rfl rfl ?_)
  refine c_cons (s_val (v_load rfl (Cel.head rfl) (by kernel_rfl)) rfl rfl rfl ?_)
  refine ww ?_
  refine c_cond_d rfl (fun c1 => ?_) (fun c1 => ?_)
  · -- then
    refine ww ?_
    refine c_cons (s_val (v_build (ps := [_]) #[I64 2] rfl (by kernel_rfl)) rfl rfl rfl ?_)
    refine c_cons (s_val (v_iface rfl (by kernel_rfl)) rfl rfl rfl ?_)
    refine c_cons (s_panic rfl rfl ?_)
    repeat (first | refine x_then_panic ?_ | refine x_block_panic ?_)
    exact f_panic (fun w hs => .inr ⟨by omega, rfl, hs⟩)
  refine ww ?_
  refine c_cons (s_val (v_field 1 rfl (by kernel_rfl)) rfl rfl rfl ?_)
  refine c_cons (s_val (v_load rfl (Cel.head rfl) (by kernel_rfl)) rfl rfl rfl ?_)
  refine ww ?_
  refine c_cons (s_val (v_sl3 i rfl rfl rfl (by kernel_rfl) (by omega)) rfl rfl rfl ?_)
  refine ww ?_
  refine c_cons (s_val (v_field 1 rfl (by kernel_rfl)) rfl rfl rfl ?_)
  refine c_cons (s_val (v_load rfl (Cel.head rfl) (by kernel_rfl)) rfl rfl rfl ?_)
  refine ww ?_
  refine c_cons (s_val (v_slLo i 1 rfl rfl (by kernel_rfl) (by omega)) rfl rfl rfl ?_)
  refine ww ?_
  refine c_cons (s_val (v_field 1 rfl (by kernel_rfl)) rfl rfl rfl ?_)
  refine c_cons (s_store1 rfl rfl rfl .head (by kernel_rfl) rfl (by simp) ?_)
  refine ww ?_
  exact f_ret1 rfl rfl (fun w hs => .inl ⟨by omega, _, _, rfl, hv.take (by omega), hv.drop (by omega), hs⟩)

-- (*pinstripe/wire.Eye).number
theorem number_c (ep : Nat) (v : Value) (bad : Int) (xs : List UInt8) (i : Nat) (hi : i ≤ 7) (w0 w : World) (G : Im) (F : Hp) (hv : EB G v xs) (hs : Sat w0 w G (EyO ep v bad :: F)) :
    Calls Try.prog 80 #[Pt ep 0, I64 i] w fun e w' =>
      (i ≤ xs.length ∧ ∃ v', e = .returned (I64 (num (xs.take i))) ∧ EB G v' (xs.drop i) ∧ Sat w0 w' G (EyO ep v' bad :: F)) ∨ (xs.length < i ∧ e = .panicked (gone 2) ∧ Sat w0 w' G (EyO ep v bad :: F)) := by
  refine f_enter (vs := [_, _]) Try.func80 rfl Try.ntmps80 (by simp) hs ?_
  refine ww ?_
  refine c_cons (s_call (xs := [_, _]) rfl rfl rfl rfl rfl rfl (by kernel_rfl) (fun w hs => take_c ep v bad xs i _ w _ _ hv hs) ?_)
  rintro e w' (⟨hle, u, v', rfl, hu, hv', hs'⟩ | ⟨hlt, rfl, hs'⟩)
  rotate_left
  · refine a_panic ?_ hs'; clear hs'
    repeat (first | refine x_then_panic ?_ | refine x_block_panic ?_)
    exact f_panic (fun w hs => .inr ⟨hlt, rfl, hs⟩)
  refine a_ret ?_ hs'; clear hs'
  have hlen : (xs.take i).length = i := by simp; omega
  obtain ⟨ad, c, rfl, hc1, hc2, hc3⟩ := id hu
  refine ww ?_
  refine c_loop (α := Nat) (fun x => [(5, I64 (num ((xs.take i).take x))), (10, .slice ad (xs.take i).length c), (11, I64 ((xs.take i).length : Int)), (12, I64 x)]) (fun _ => G) (fun x => EyO ep v' bad :: F) (fun x => x ≤ (xs.take i).length) (fun x => (xs.take i).length - x) 0 (Nat.zero_le _) ?_ ?_
  · exact n_at ⟨rfl, rfl, rfl, rfl, trivial⟩ sbx
  rintro j hj
  generalize hys : xs.take i = ys at *
  refine ww ?_
  refine c_cond_d rfl (fun c1 => ?_) (fun c1 => ?_)
  · have hj' : j < ys.length := by omega
    rcases hc3 with ⟨h0, _⟩ | ⟨b, o, rfl, hcel⟩
    · simp only [List.map_eq_nil_iff] at h0; subst h0; simp at hj'
    have hcj : ∀ (H : Hp), Cel G H b (o + j) (B8 ys[j]) := fun H => (hcel j _ (by simp [hj'])).mono (Im.le_refl _) (by simp)
    have hsn : ys.take (j + 1) = ys.take j ++ [ys[j]] := by rw [List.take_succ_eq_append_getElem hj']
    generalize hgc : ys[j] = cj at hcj hsn
    have hlt := num_le (ys.take j) (by simp; omega)
    have hlt2 : num (ys.take j) < 281474976710656 := by
      have h1 := num_lt (ys.take j)
      have h2 : 256 ^ (ys.take j).length ≤ 256 ^ 6 := Nat.pow_le_pow_right (by decide) (by simp; omega)
      have h3 : (256 : Nat) ^ 6 = 281474976710656 := by decide
      omega
    have hcb := cj.toNat_lt
    refine ww ?_
    refine c_cons (s_val (v_index1 rfl rfl (by kernel_rfl) (by omega)) rfl rfl rfl ?_)
    refine c_cons (s_val (v_load rfl (by rw [show ((j : Int)).toNat = j by omega]; exact hcj _) (by kernel_rfl)) rfl rfl rfl ?_)
    refine ww ?_
    refine c_cons (s_val (v_shl rfl rfl (by omega) (by have h : (2 : Int) ^ (8 : Int).toNat = 256 := (by decide); rw [h]; omega)) rfl rfl rfl ?_)
    refine ww ?_
    refine c_cons (s_val (v_or256 (num (ys.take j)) cj.toNat rfl rfl (by rfl) rfl (by omega) (by omega)) rfl rfl rfl ?_)
    refine ww ?_
    exact n_next (x := j) (j + 1) (by omega) (by omega) ⟨by rw [hsn, num_snoc]; rfl, rfl, rfl, by rw [show (((j + 1 : Nat)) : Int) = (j : Int) + 1 by omega]; rfl, trivial⟩ rfl sbx
  have hje : j = ys.length := by omega
  subst hje
  refine ww ?_
  exact f_ret1 rfl rfl (fun w hs => .inl ⟨hle, _, by rw [List.take_length], hv', hs⟩)

-- pinstripe/wire.NewEye
theorem newEye_c (vb : Value) (xs : List UInt8) (hlen : xs.length ≤ 1000000) (w0 w : World) (G : Im) (F : Hp) (hv : EB G vb xs) (hs : Sat w0 w G F) :
    Calls Try.prog 76 #[vb] w fun e w' => ∃ G' ep v, e = .returned (Pt ep 0) ∧ Im.le G G' ∧ EB G' v xs ∧ Sat w0 w' G' (EyO ep v 0 :: F) := by
  refine f_enter (vs := [_]) Try.func76 rfl Try.ntmps76 (by simp) hs ?_
  refine ww ?_
  refine c_cons (s_call (xs := [_]) rfl rfl rfl rfl rfl rfl (by kernel_rfl) (fun w hs => clone_c _ xs _ w _ _ hv hlen hs) ?_)
  rintro e w' ⟨G1, u1, rfl, hG1, hu1, hs'⟩; refine a_ret ?_ hs'; clear hs'
  obtain ⟨ad, c, rfl, hc1, hc2, hc3⟩ := id hu1
  refine c_cons (s_val (v_build (ps := [_, _]) #[.bool true, .slice ad xs.length c, I64 0] rfl (by kernel_rfl)) rfl rfl rfl ?_)
  refine c_cons (s_boxA [_, _, _] rfl rfl rfl fun b1 => ?_)
  refine ww ?_
  exact f_ret1 rfl rfl (fun w hs => ⟨G1, _, _, rfl, hG1, hu1, hs⟩)

-- (*pinstripe/wire.Eye).Fail
theorem fail_c (ep : Nat) (v : Value) (bad : Int) (w0 w : World) (G : Im) (F : Hp) (hs : Sat w0 w G (EyO ep v bad :: F)) :
    Calls Try.prog 81 #[Pt ep 0] w fun e w' => e = .returned (I64 bad) ∧ Sat w0 w' G (EyO ep v bad :: F) := by
  refine f_enter (vs := [_]) Try.func81 rfl Try.ntmps81 (by simp) hs ?_
  refine ww ?_
  refine c_cons (s_val (v_field 0 rfl (by kernel_rfl)) rfl rfl rfl ?_)
  refine c_cons (s_val (v_load rfl (Cel.head rfl) (by kernel_rfl)) rfl rfl rfl ?_)
  refine ww ?_
  refine c_cond_f rfl ?_
  refine ww ?_
  refine c_cons (s_val (v_field 2 rfl (by kernel_rfl)) rfl rfl rfl ?_)
  refine c_cons (s_val (v_load rfl (Cel.head rfl) (by kernel_rfl)) rfl rfl rfl ?_)
  refine ww ?_
  exact f_ret1 rfl rfl (fun w hs => ⟨rfl, hs⟩)

-- (*pinstripe/wire.Eye).End
theorem eend_c (ep : Nat) (v : Value) (bad : Int) (xs : List UInt8) (w0 w : World) (G : Im) (F : Hp) (hv : EB G v xs) (hs : Sat w0 w G (EyO ep v bad :: F)) :
    Calls Try.prog 77 #[Pt ep 0] w fun e w' => e = .returned (I64 (if bad ≠ 0 then bad else if 0 < xs.length then 3 else 0)) ∧ Sat w0 w' G (EyO ep v bad :: F) := by
  obtain ⟨ad, c, rfl, hc1, hc2, hc3⟩ := id hv
  refine f_enter (vs := [_]) Try.func77 rfl Try.ntmps77 (by simp) hs ?_
  refine ww ?_
  refine c_cons (s_call (xs := [_]) rfl rfl rfl rfl rfl rfl (by kernel_rfl) (fun w hs => fail_c ep _ bad _ w _ _ hs) ?_)
  rintro e w' ⟨rfl, hs'⟩; refine a_ret ?_ hs'; clear hs'
  refine ww ?_
  refine c_cond_d rfl (fun c1 => ?_) (fun c1 => ?_)
  · refine ww ?_
    exact f_ret1 rfl rfl (fun w hs => ⟨by rw [if_pos (by omega)], hs⟩)
  refine ww ?_
  refine c_cons (s_val (v_field 1 rfl (by kernel_rfl)) rfl rfl rfl ?_)
  refine c_cons (s_val (v_load rfl (Cel.head rfl) (by kernel_rfl)) rfl rfl rfl ?_)
  refine ww ?_
  refine c_cond_d rfl (fun c2 => ?_) (fun c2 => ?_)
  · refine ww ?_
    exact f_ret1 rfl rfl (fun w hs => ⟨by rw [if_neg (by omega), if_pos (by omega)], hs⟩)
  refine ww ?_
  exact f_ret1 rfl rfl (fun w hs => ⟨by rw [if_neg (by omega), if_neg (by omega)], hs⟩)
end

section
open Go
set_option linter.unusedVariables false
set_option linter.unusedSimpArgs false
set_option maxHeartbeats 3200000
section
variable {w0 w : World} {G G' : Im} {H H' H1 : Hp} {m d : Nat}
variable {n : Nat} {ds : List Deferred} {env : Env} {P : Program} {Q : Exit → Act → World → Prop} {ops : Array Oper} {K : Act → World → Prop}
variable {dst : Option Tmp} {ty : TypeId} {pos : String} {aft : Array Edge} {g : Option (Nat × Bool)} {ch : List PanicEntry}
variable {QS : Exit → Act → List Frame → World → Prop} {cs cs' : List Frame} {rest : List Nat}
theorem e_allocA (vs : List Value) {t : TypeId} (hz : zeroB P t = some (.agg vs.toArray)) : Eff P w0 env G H ⟨some d, .alloc t, ty, pos, aft, g⟩ (fun u w' => ∃ b, u = Pt b 0 ∧ Sat w0 w' G ((b, Cs vs t) :: H)) := fun a n ds w ht hs => by
  obtain ⟨i, hi, hz⟩ := zeroB_spec hz
  exact ⟨Pt w.heap.size 0, w.alloc (Cs vs t), by simp [execOp, Instr.alloc, zeroValue, typeInfo, hi, hz, newVar, newRow, Value.cells], _, rfl, hs.alloc (Cs vs t)⟩
theorem q_allocA (vs : List Value) {i : Nat} {t : TypeId} (hi : ops[i]? = some ⟨some d, .alloc t, ty, pos, aft, g⟩) (hg : gOn ops env ⟨some d, .alloc t, ty, pos, aft, g⟩ = some true) (hd : Nat.blt d n = true) (hz : zeroB P t = some (.agg vs.toArray))
    (k : ∀ b, Holds n ds w0 ((d, Pt b 0) :: env) G ((b, Cs vs t) :: H) (fun a w => wpOpsS P ops QS rest a cs w)) : Holds n ds w0 env G H (fun a w => wpOpsS P ops QS (i :: rest) a cs w) :=
  q_eff hi hg rfl hd (e_allocA vs hz) (fun u w' ⟨b, hu, hs⟩ => by subst hu; exact (k b).atw hs)
theorem q_storeA {i : Nat} {t t' : TypeId} {x y : Operand} {b : Nat} {vs L : List Value} (hi : ops[i]? = some ⟨none, .store t x y, ty, pos, aft, g⟩) (hg : gOn ops env ⟨none, .store t x y, ty, pos, aft, g⟩ = some true)
    (hx : ev env x = some (Pt b 0)) (hy : ev env y = some (.agg vs.toArray)) (hp : Pick b (Cs L t') H H1) (hz : szB P t = some vs.length) (h1 : ∀ u ∈ vs, u.oneCell' = true) (hl : vs.length = L.length)
    (k : Holds n ds w0 env G ((b, Cs vs t') :: H1) (fun a w => wpOpsS P ops QS rest a cs w)) : Holds n ds w0 env G H (fun a w => wpOpsS P ops QS (i :: rest) a cs w) :=
  q_eff0 hi hg rfl (e_store hx hy hp (by simpa [Value.cells] using hz) (by simpa [Value.cells] using h1) (by simp [Value.cells]; omega)) (fun w' hs => k.atw (by
    have e : L.drop vs.length = [] := List.drop_of_length_le (by omega)
    simpa [Value.cells, e] using hs))
theorem q_regionL {id : Nat} (l : List Nat) (hl : List.range ops.size = l) (k : Holds n ds w0 env G H (fun a w => wpOpsS P ops QS l a cs w)) : Holds n ds w0 env G H (fun a w => (Code.region id ops false).wpS P QS a cs w) := q_region (by rw [hl]; exact k)
theorem q_then {y : Code} (k : Holds n ds w0 env G H (fun a w => y.wpS P QS a cs w)) : Holds n ds w0 env G H (fun a w => Exit.thenS (y.wpS P QS) QS .normal a cs w) := k
theorem pk_S {fn : Func} {c₀ : Frame} {R : Ending → FrameMode → World → Prop} : PanicOk (fun e a w => bodyPostS P fn c₀ cs R e a cs' w) := fun _ _ _ _ _ h => h
end
attribute [local irreducible] Code.wp wpList stepK Holds Val wpR Eff Eff0 Code.wpIn wpListIn stepI Exit.then Exit.inBlock bodyPost bodyPostM

abbrev PB (b : Nat) (ep : Nat) : Nat × Obj := (b, Cs [Pt ep 0] 94)
abbrev WB (b : Nat) (v : Value) : Nat × Obj := (b, Cs [v] 28)

/-- The catch, when nothing was thrown. -/
theorem catch_n (wb eb ep : Nat) (v0 : Value) (w0 w : World) (G : Im) (F : Hp) (hs : Sat w0 w G (WB wb v0 :: PB eb ep :: F)) :
    CallsD Try.prog 96 #[Pt wb 0, Pt eb 0] .returning w fun e u w' => (∃ r, e = .returned r) ∧ settle u = .returning ∧ Sat w0 w' G F := by
  refine q_enter (vs := [_, _]) Try.func96 rfl Try.ntmps96 (by simp) hs fun c₀ cs hm => ?_
  refine q_seq (q_regionL [0, 1, 2, 3, 4, 5, 6, 7] rfl ?_)
  refine q_rec_n rfl rfl rfl (by simp [recoverD, hm]) ?_
  refine q_val rfl rfl rfl rfl (v_assert_n rfl (by kernel_rfl) (z := .agg #[I64 0]) (by kernel_rfl)) ?_
  refine q_val rfl rfl rfl rfl (v_move rfl) ?_
  refine q_val rfl rfl rfl rfl (v_extract rfl rfl) ?_
  refine q_val rfl rfl rfl rfl (v_extract rfl rfl) ?_
  refine q_allocA [I64 0] rfl rfl rfl (by kernel_rfl) fun b1 => ?_
  refine q_storeA (vs := [I64 0]) rfl rfl rfl rfl .head (by kernel_rfl) (by simp [Value.oneCell']) rfl ?_
  refine q_val rfl rfl rfl rfl (v_assign rfl) ?_
  refine q_nil (q_then (q_plain ?_))
  refine ww ?_
  refine c_cond_f rfl ?_
  refine ww ?_
  exact q_end (u' := c₀.mode) rfl rfl (fun w hs => ⟨⟨_, rfl⟩, by rw [hm]; rfl, hs.sb⟩)

/-- The catch, when the step gave up. -/
theorem catch_s (wb eb ep : Nat) (v0 v : Value) (bad c : Int) (w0 w : World) (G : Im) (F : Hp) (hs : Sat w0 w G (WB wb v0 :: PB eb ep :: EyO ep v bad :: F)) (hv0 : v0.oneCell' = true) :
    CallsD Try.prog 96 #[Pt wb 0, Pt eb 0] (.panicking (gone c)) w fun e u w' => (∃ r, e = .returned r) ∧ settle u = .returning ∧ Sat w0 w' G (EyO ep v0 c :: F) := by
  refine q_enter (vs := [_, _]) Try.func96 rfl Try.ntmps96 (by simp) hs fun c₀ cs hm => ?_
  refine q_seq (q_regionL [0, 1, 2, 3, 4, 5, 6, 7] rfl ?_)
  refine q_rec_s (v := .iface 131 (.agg #[I64 c])) (cs' := { c₀ with mode := .panicking [{ v := .iface 131 (.agg #[I64 c]), recovered := true }] } :: cs) rfl rfl rfl (by simp [recoverD, hm, gone]) ?_
  refine q_val rfl rfl rfl rfl (v_assert_t rfl (by kernel_rfl)) ?_
  refine q_val rfl rfl rfl rfl (v_move rfl) ?_
  refine q_val rfl rfl rfl rfl (v_extract rfl rfl) ?_
  refine q_val rfl rfl rfl rfl (v_extract rfl rfl) ?_
  refine q_allocA [I64 0] rfl rfl rfl (by kernel_rfl) fun b1 => ?_
  refine q_storeA (vs := [I64 c]) rfl rfl rfl rfl .head (by kernel_rfl) (by simp [Value.oneCell']) rfl ?_
  refine q_val rfl rfl rfl rfl (v_assign rfl) ?_
  refine q_nil (q_then (q_plain ?_))
  refine ww ?_
  refine c_cond_t rfl ?_
  refine ww ?_
  refine c_sub (EyO ep v bad :: PB eb ep :: WB wb v0 :: (b1, Cs [I64 c] 131) :: F) sbx ?_
  refine r_startS [PB eb ep, WB wb v0, (b1, Cs [I64 c] 131)] [] (by kernel_rfl) (fun w h => h.sb) ?_
  refine r_tk 0 rfl rfl (v_load rfl (Cel.head rfl) (by kernel_rfl)) (fun _ h => (h.sb)) ?_
  refine r_tk 1 rfl rfl (v_load rfl (Cel.head rfl) (by kernel_rfl)) (fun _ h => (h.sb)) ?_
  refine r_tk 2 rfl rfl (v_load rfl (Cel.tail (Cel.head rfl)) (by kernel_rfl)) (fun _ h => (h.sb)) ?_
  refine r_tk 3 rfl rfl (v_field 0 rfl (by kernel_rfl)) (fun _ h => (h.sb)) ?_
  refine r_tk 4 rfl rfl (v_load rfl (Cel.tail (Cel.tail (Cel.head rfl))) (by kernel_rfl)) (fun _ h => (h.sb)) ?_
  refine r_tk 5 rfl rfl (v_nilCheck rfl) (fun _ h => (h.sb)) ?_
  refine r_tk 6 rfl rfl (v_field 1 rfl (by kernel_rfl)) (fun _ h => (h.sb)) ?_
  refine r_one 7 (by kernel_rfl) rfl ?_
  refine s_store1 rfl rfl rfl .head (by kernel_rfl) hv0 (by simp) ?_
  refine r_next (fun w h => h.sb) ?_
  refine r_tk 8 rfl rfl (v_nilCheck rfl) (fun _ h => (h.sb)) ?_
  refine r_tk 9 rfl rfl (v_field 2 rfl (by kernel_rfl)) (fun _ h => (h.sb)) ?_
  refine r_one 10 (by kernel_rfl) rfl ?_
  refine s_store1 rfl rfl rfl .head (by kernel_rfl) rfl (by simp) ?_
  refine r_next (fun w h => h.sb) ?_
  refine r_done (by kernel_rfl) ?_
  refine ww ?_
  exact q_end (u' := .panicking [{ v := .iface 131 (.agg #[I64 c]), recovered := true }]) rfl rfl (fun w hs => ⟨⟨_, rfl⟩, rfl, (show Sat w0 w G (EyO ep v0 c :: PB eb ep :: WB wb v0 :: (b1, Cs [I64 c] 131) :: F) from hs).sb⟩)
/-- A step: it returns, or it gives up and leaves what it had to write as it was. -/
def Step (w0 : World) (G : Im) (F : Hp) (ep : Nat) (v : Value) (sf : FuncId) (cap : Array Value) (Φ : Im → Value → Hp → Prop) (Ψ : Int → Prop) : Prop :=
  ∀ w C, Sat w0 w G (EyO ep v 0 :: (C ++ F)) → Calls Try.prog sf cap w fun e w' =>
    (∃ G' v' F' r, Im.le G G' ∧ e = .returned r ∧ Φ G' v' F' ∧ Sat w0 w' G' (EyO ep v' 0 :: (C ++ F'))) ∨ (∃ v' c, e = .panicked (gone c) ∧ Ψ c ∧ Sat w0 w' G (EyO ep v' 0 :: (C ++ F)))

-- (*pinstripe/wire.Eye).read
theorem read_c (ep : Nat) (v : Value) (sf : FuncId) (cap : Array Value) (Φ : Im → Value → Hp → Prop) (Ψ : Int → Prop) (w0 w : World) (G : Im) (F : Hp) (hv : v.oneCell' = true) (hen : entersB Try.prog sf = true) (hst : Step w0 G F ep v sf cap Φ Ψ) (hs : Sat w0 w G (EyO ep v 0 :: F)) :
    Calls Try.prog 78 #[Pt ep 0, .func (.func sf) #[] cap] w fun e w' => e = .returned (.tuple #[]) ∧
      ((∃ G' v' F', Im.le G G' ∧ Φ G' v' F' ∧ Sat w0 w' G' (EyO ep v' 0 :: F')) ∨ (∃ c, Ψ c ∧ Sat w0 w' G (EyO ep v c :: F))) := by
  refine f_enterD (vs := [_, _]) Try.func78 rfl Try.ntmps78 (by simp) hs ?_
  refine ww ?_
  refine c_cons (s_box rfl rfl rfl fun b1 => ?_)
  refine ww ?_
  refine c_cons (s_val (v_load rfl (Cel.head rfl) (by kernel_rfl)) rfl rfl rfl ?_)
  refine ww ?_
  refine c_cons (s_val (v_load rfl (Cel.head rfl) (by kernel_rfl)) rfl rfl rfl ?_)
  refine ww ?_
  refine c_cons (s_val (v_field 0 rfl (by kernel_rfl)) rfl rfl rfl ?_)
  refine c_cons (s_val (v_load rfl (Cel.tail (Cel.head rfl)) (by kernel_rfl)) rfl rfl rfl ?_)
  refine ww ?_
  refine c_cons (s_val (v_load rfl (Cel.head rfl) (by kernel_rfl)) rfl rfl rfl ?_)
  refine ww ?_
  refine c_cons (s_val (v_field 2 rfl (by kernel_rfl)) rfl rfl rfl ?_)
  refine c_cons (s_val (v_load rfl (Cel.tail (Cel.head rfl)) (by kernel_rfl)) rfl rfl rfl ?_)
  refine ww ?_
  refine c_cond_f rfl ?_
  refine ww ?_
  refine c_cons (s_val (v_load rfl (Cel.head rfl) (by kernel_rfl)) rfl rfl rfl ?_)
  refine ww ?_
  refine c_cons (s_val (v_field 1 rfl (by kernel_rfl)) rfl rfl rfl ?_)
  refine c_cons (s_val (v_load rfl (Cel.tail (Cel.head rfl)) (by kernel_rfl)) rfl rfl rfl ?_)
  refine c_cons (s_alloc (.slice none 0 0) (by kernel_rfl) rfl rfl fun b2 => ?_)
  refine c_cons (s_store1 rfl rfl rfl .head (by kernel_rfl) hv (by simp [Value.cells]) ?_)
  refine ww ?_
  refine c_cons (s_defer rfl rfl rfl rfl ?_)
  refine ww ?_
  change Holds _ _ _ _ _ (WB b2 v :: PB b1 ep :: EyO ep v 0 :: F) _
  refine c_sub (EyO ep v 0 :: ([WB b2 v, PB b1 ep] ++ F)) sbx ?_
  have e0 : ([] : List Value).toArray ++ cap = cap := by simp
  refine c_cons (s_call (xs := []) rfl rfl rfl rfl rfl rfl hen (fun w hs => by rw [e0]; exact hst w _ hs) ?_)
  rintro e w' (⟨G1, v1, F1, r, hG1, rfl, hΦ, hs'⟩ | ⟨v1, c, rfl, hΨ, hs'⟩)
  · refine a_ret ?_ hs'; clear hs'
    refine ww ?_
    exact d_end1 rfl (by kernel_rfl) (fun w hs => catch_n b2 b1 ep v _ w _ _ (hs.sub (K := WB b2 v :: PB b1 ep :: EyO ep v1 0 :: F1) sbx)) (fun e u w' ⟨h1, h2, h3⟩ => ⟨h1, h2, rfl, .inl ⟨G1, v1, F1, hG1, hΦ, h3⟩⟩)
  · refine a_panic ?_ hs'; clear hs'
    repeat (first | refine x_then_panic ?_ | refine x_block_panic ?_)
    exact d_panic1 rfl (by kernel_rfl) (fun w hs => catch_s b2 b1 ep v v1 0 c _ w _ _ (hs.sub (K := WB b2 v :: PB b1 ep :: EyO ep v1 0 :: F) sbx) hv) (fun e u w' ⟨h1, h2, h3⟩ => ⟨h1, h2, rfl, .inr ⟨c, hΨ, h3⟩⟩)

theorem readB_c (ep : Nat) (v : Value) (bad : Int) (hb : bad ≠ 0) (sf : FuncId) (cap : Array Value) (w0 w : World) (G : Im) (F : Hp) (hs : Sat w0 w G (EyO ep v bad :: F)) :
    Calls Try.prog 78 #[Pt ep 0, .func (.func sf) #[] cap] w fun e w' => e = .returned (.tuple #[]) ∧ Sat w0 w' G (EyO ep v bad :: F) := by
  refine f_enterD (vs := [_, _]) Try.func78 rfl Try.ntmps78 (by simp) hs ?_
  refine ww ?_
  refine c_cons (s_box rfl rfl rfl fun b1 => ?_)
  refine ww ?_
  refine c_cons (s_val (v_load rfl (Cel.head rfl) (by kernel_rfl)) rfl rfl rfl ?_)
  refine ww ?_
  refine c_cons (s_val (v_load rfl (Cel.head rfl) (by kernel_rfl)) rfl rfl rfl ?_)
  refine ww ?_
  refine c_cons (s_val (v_field 0 rfl (by kernel_rfl)) rfl rfl rfl ?_)
  refine c_cons (s_val (v_load rfl (Cel.tail (Cel.head rfl)) (by kernel_rfl)) rfl rfl rfl ?_)
  refine ww ?_
  refine c_cons (s_val (v_load rfl (Cel.head rfl) (by kernel_rfl)) rfl rfl rfl ?_)
  refine ww ?_
  refine c_cons (s_val (v_field 2 rfl (by kernel_rfl)) rfl rfl rfl ?_)
  refine c_cons (s_val (v_load rfl (Cel.tail (Cel.head rfl)) (by kernel_rfl)) rfl rfl rfl ?_)
  refine ww ?_
  refine c_cond_d rfl (fun c1 => ?_) (fun c1 => absurd hb (by omega))
  refine ww ?_
  exact d_ret0 rfl (fun w hs => ⟨rfl, hs.sub (K := EyO ep v bad :: F) sbx⟩)
end

section
open Go
set_option linter.unusedVariables false
set_option linter.unusedSimpArgs false
set_option maxHeartbeats 3200000
section
variable {w0 w : World} {G G' : Im} {H H' H1 : Hp} {n d : Nat} {ds : List Deferred} {env : Env} {P : Program} {dst : Option Tmp} {ty : TypeId} {pos : String} {aft : Array Edge} {g : Option (Nat × Bool)}
end
attribute [local irreducible] Code.wp wpList stepK Holds Val wpR Eff Eff0 Code.wpIn wpListIn stepI Exit.then Exit.inBlock bodyPost bodyPostM

/-- A number is read: the answer, what is left, why not. -/
def rNum (xs : List UInt8) (i : Int) : Int × List UInt8 × Int :=
  if ¬ (1 ≤ i ∧ i ≤ 7) then (0, xs, 1) else if xs.length < i.toNat then (0, xs, 2) else ((num (xs.take i.toNat) : Nat), xs.drop i.toNat, 0)
def rRaw (xs : List UInt8) (most : Int) : List UInt8 × List UInt8 × Int :=
  if most < 0 then ([], xs, 1) else if xs.length < 2 then ([], xs, 2) else if most < (num (xs.take 2) : Nat) then ([], xs, 3)
  else if (xs.drop 2).length < num (xs.take 2) then ([], xs, 2) else ((xs.drop 2).take (num (xs.take 2)), (xs.drop 2).drop (num (xs.take 2)), 0)
def rBool (xs : List UInt8) : Bool × List UInt8 × Int := match xs with
  | [] => (false, [], 2)
  | c :: r => if 1 < c.toNat then (false, c :: r, 4) else (decide (c.toNat = 1), r, 0)
def eNum (xs : List UInt8) (bad i : Int) : Int × List UInt8 × Int := if bad ≠ 0 then (0, xs, bad) else rNum xs i
def eRaw (xs : List UInt8) (bad most : Int) : List UInt8 × List UInt8 × Int := if bad ≠ 0 then ([], xs, bad) else rRaw xs most
def eBool (xs : List UInt8) (bad : Int) : Bool × List UInt8 × Int := if bad ≠ 0 then (false, xs, bad) else rBool xs

theorem EB.one {G : Im} {v : Value} {xs : List UInt8} (h : EB G v xs) : v.oneCell' = true := by
  obtain ⟨ad, c, rfl, _⟩ := h
  rfl

abbrev IB (b : Nat) (i : Int) : Nat × Obj := (b, Cs [I64 i] 3)
abbrev BB (b : Nat) (i : Bool) : Nat × Obj := (b, Cs [.bool i] 4)

theorem numStep (ep xb wb eb : Nat) (v : Value) (xs : List UInt8) (i : Int) (w0 : World) (G : Im) (F : Hp) (hv : EB G v xs) :
    Step w0 G (IB xb 0 :: IB wb i :: PB eb ep :: F) ep v 79 #[Pt wb 0, Pt eb 0, Pt xb 0]
      (fun G' v' F' => G' = G ∧ (1 ≤ i ∧ i ≤ 7) ∧ i.toNat ≤ xs.length ∧ EB G v' (xs.drop i.toNat) ∧ F' = IB xb (num (xs.take i.toNat) : Nat) :: IB wb i :: PB eb ep :: F)
      (fun c => ¬ (1 ≤ i ∧ i ≤ 7) ∧ c = 1 ∨ (1 ≤ i ∧ i ≤ 7) ∧ xs.length < i.toNat ∧ c = 2) := by
  intro w C hs
  refine f_enter (vs := [_, _, _]) Try.func79 rfl Try.ntmps79 (by simp) (hs.sub (K := EyO ep v 0 :: IB xb 0 :: IB wb i :: PB eb ep :: (C ++ F)) sbx) ?_
  clear hs
  refine ww ?_
  refine c_cons (s_val (v_load rfl (Cel.tail (Cel.tail (Cel.head rfl))) (by kernel_rfl)) rfl rfl rfl ?_)
  refine c_cons (s_call (xs := [_]) rfl rfl rfl rfl rfl rfl (by kernel_rfl) (fun w hs => emay_c _ _ w _ _ hs) ?_)
  rintro e w' ⟨rfl, hs'⟩; refine a_ret ?_ hs'; clear hs'
  refine ww ?_
  refine c_cond_nd rfl (fun c1 => ?_) (fun c1 => ?_)
  · refine ww ?_
    refine c_cons (s_val (v_build (ps := [_]) #[I64 1] rfl (by kernel_rfl)) rfl rfl rfl ?_)
    refine c_cons (s_val (v_iface rfl (by kernel_rfl)) rfl rfl rfl ?_)
    refine c_cons (s_panic rfl rfl ?_)
    repeat (first | refine x_then_panic ?_ | refine x_block_panic ?_)
    exact f_panic (fun w hs => .inr ⟨v, 1, rfl, .inl ⟨by omega, rfl⟩, hs.sb⟩)
  obtain ⟨i, rfl⟩ : ∃ k : Nat, i = (k : Int) := ⟨i.toNat, by omega⟩
  rw [Int.toNat_natCast] at *
  refine ww ?_
  refine c_cons (s_val (v_load rfl (Cel.tail (Cel.tail (Cel.tail (Cel.head rfl)))) (by kernel_rfl)) rfl rfl rfl ?_)
  refine c_cons (s_val (v_load rfl (Cel.tail (Cel.tail (Cel.head rfl))) (by kernel_rfl)) rfl rfl rfl ?_)
  refine c_cons (s_call (xs := [_, _]) rfl rfl rfl rfl rfl rfl (by kernel_rfl) (fun w hs => number_c ep v 0 xs i (by omega) _ w _ _ hv hs) ?_)
  rintro e w' (⟨hle, v', rfl, hv', hs'⟩ | ⟨hlt, rfl, hs'⟩)
  rotate_left
  · refine a_panic ?_ hs'; clear hs'
    repeat (first | refine x_then_panic ?_ | refine x_block_panic ?_)
    exact f_panic (fun w hs => .inr ⟨v, 2, rfl, .inr ⟨c1, hlt, rfl⟩, hs.sb⟩)
  refine a_ret ?_ hs'; clear hs'
  refine c_cons (s_store1 rfl rfl rfl (.tail .head) (by kernel_rfl) rfl (by simp) ?_)
  refine ww ?_
  exact f_end0 rfl (fun w hs => .inl ⟨G, v', _, _, Im.le_refl _, rfl, ⟨rfl, c1, hle, hv', rfl⟩, (show Sat w0 w G (IB xb _ :: EyO ep v' 0 :: IB wb i :: PB eb ep :: (C ++ F)) from hs).sb⟩)
-- (*pinstripe/wire.Eye).Num
theorem enum_c (ep : Nat) (v : Value) (bad : Int) (xs : List UInt8) (i : Int) (w0 w : World) (G : Im) (F : Hp) (hv : EB G v xs) (hs : Sat w0 w G (EyO ep v bad :: F)) :
    Calls Try.prog 42 #[Pt ep 0, I64 i] w fun e w' => ∃ v', e = .returned (I64 (eNum xs bad i).1) ∧ EB G v' (eNum xs bad i).2.1 ∧ Sat w0 w' G (EyO ep v' (eNum xs bad i).2.2 :: F) := by
  refine f_enter (vs := [_, _]) Try.func42 rfl Try.ntmps42 (by simp) hs ?_
  refine ww ?_
  refine c_cons (s_box rfl rfl rfl fun b1 => ?_)
  refine c_cons (s_box rfl rfl rfl fun b2 => ?_)
  refine ww ?_
  refine c_cons (s_alloc (I64 0) (by kernel_rfl) rfl rfl fun b3 => ?_)
  refine c_cons (s_store1 rfl rfl rfl .head (by kernel_rfl) rfl (by simp [Value.cells]) ?_)
  refine ww ?_
  refine c_cons (s_val (v_load rfl (Cel.tail (Cel.tail (Cel.head rfl))) (by kernel_rfl)) rfl rfl rfl ?_)
  refine ww ?_
  change Holds _ _ _ _ _ (IB b3 0 :: IB b2 i :: PB b1 ep :: EyO ep v bad :: F) _
  refine c_sub (EyO ep v bad :: IB b3 0 :: IB b2 i :: PB b1 ep :: F) sbx ?_
  by_cases hb : bad = 0
  · subst hb
    have he : eNum xs 0 i = rNum xs i := if_neg (by omega)
    rw [he]
    refine c_cons (s_call (xs := [_, _]) rfl rfl rfl rfl rfl rfl (by kernel_rfl) (fun w hs => read_c ep v _ _ _ _ _ w _ _ hv.one (by kernel_rfl) (numStep ep b3 b2 b1 v xs i _ _ F hv) hs) ?_)
    rintro e w' ⟨rfl, (⟨G', v', F', hG', ⟨rfl, h1, h2, h3, rfl⟩, hs'⟩ | ⟨c, hc, hs'⟩)⟩
    · refine a_ret ?_ hs'; clear hs'
      have e1 : rNum xs i = (((num (xs.take i.toNat) : Nat) : Int), xs.drop i.toNat, 0) := by unfold rNum; rw [if_neg (by omega), if_neg (by omega)]
      rw [e1]
      refine ww ?_
      refine c_cons (s_val (v_load rfl (Cel.tail (Cel.head rfl)) (by kernel_rfl)) rfl rfl rfl ?_)
      refine ww ?_
      exact f_ret1 rfl rfl (fun w hs => ⟨v', rfl, h3, hs.sb⟩)
    · refine a_ret ?_ hs'; clear hs'
      have e1 : rNum xs i = (0, xs, c) := by
        unfold rNum
        rcases hc with ⟨h1, rfl⟩ | ⟨h1, h2, rfl⟩
        · rw [if_pos h1]
        · rw [if_neg (by omega), if_pos h2]
      rw [e1]
      refine ww ?_
      refine c_cons (s_val (v_load rfl (Cel.tail (Cel.head rfl)) (by kernel_rfl)) rfl rfl rfl ?_)
      refine ww ?_
      exact f_ret1 rfl rfl (fun w hs => ⟨v, rfl, hv, hs.sb⟩)
  · have he : eNum xs bad i = (0, xs, bad) := if_pos hb
    rw [he]
    refine c_cons (s_call (xs := [_, _]) rfl rfl rfl rfl rfl rfl (by kernel_rfl) (fun w hs => readB_c ep v bad hb _ _ _ w _ _ hs) ?_)
    rintro e w' ⟨rfl, hs'⟩; refine a_ret ?_ hs'; clear hs'
    refine ww ?_
    refine c_cons (s_val (v_load rfl (Cel.tail (Cel.head rfl)) (by kernel_rfl)) rfl rfl rfl ?_)
    refine ww ?_
    exact f_ret1 rfl rfl (fun w hs => ⟨v, rfl, hv, hs.sb⟩)
end

section
open Go
set_option linter.unusedVariables false
set_option linter.unusedSimpArgs false
set_option maxHeartbeats 3200000
attribute [local irreducible] Code.wp wpList stepK Holds Val wpR Eff Eff0 Code.wpIn wpListIn stepI Exit.then Exit.inBlock bodyPost bodyPostM

theorem rawStep (ep xb wb eb : Nat) (v : Value) (xs : List UInt8) (i : Int) (w0 : World) (G : Im) (F : Hp) (hv : EB G v xs) :
    Step w0 G (WB xb (.slice none 0 0) :: IB wb i :: PB eb ep :: F) ep v 85 #[Pt wb 0, Pt eb 0, Pt xb 0]
      (fun G' v' F' => rRaw xs i = ((xs.drop 2).take (num (xs.take 2)), (xs.drop 2).drop (num (xs.take 2)), 0) ∧ ∃ u, EB G' u ((xs.drop 2).take (num (xs.take 2))) ∧ EB G' v' ((xs.drop 2).drop (num (xs.take 2))) ∧ F' = WB xb u :: IB wb i :: PB eb ep :: F)
      (fun c => rRaw xs i = ([], xs, c)) := by
  intro w C hs
  refine f_enter (vs := [_, _, _]) Try.func85 rfl Try.ntmps85 (by simp) (hs.sub (K := EyO ep v 0 :: WB xb (.slice none 0 0) :: IB wb i :: PB eb ep :: (C ++ F)) sbx) ?_
  clear hs
  refine ww ?_
  refine c_cons (s_val (v_load rfl (Cel.tail (Cel.tail (Cel.head rfl))) (by kernel_rfl)) rfl rfl rfl ?_)
  refine ww ?_
  refine c_cond_d rfl (fun c1 => ?_) (fun c1 => ?_)
  · refine ww ?_
    refine c_cons (s_val (v_build (ps := [_]) #[I64 1] rfl (by kernel_rfl)) rfl rfl rfl ?_)
    refine c_cons (s_val (v_iface rfl (by kernel_rfl)) rfl rfl rfl ?_)
    refine c_cons (s_panic rfl rfl ?_)
    repeat (first | refine x_then_panic ?_ | refine x_block_panic ?_)
    exact f_panic (fun w hs => .inr ⟨v, 1, rfl, if_pos c1, hs.sb⟩)
  refine ww ?_
  refine c_cons (s_val (v_load rfl (Cel.tail (Cel.tail (Cel.tail (Cel.head rfl)))) (by kernel_rfl)) rfl rfl rfl ?_)
  refine c_cons (s_call (xs := [_, _]) rfl rfl rfl rfl rfl rfl (by kernel_rfl) (fun w hs => number_c ep v 0 xs 2 (by omega) _ w _ _ hv hs) ?_)
  rintro e w' (⟨hle, v', rfl, hv', hs'⟩ | ⟨hlt, rfl, hs'⟩)
  rotate_left
  · refine a_panic ?_ hs'; clear hs'
    repeat (first | refine x_then_panic ?_ | refine x_block_panic ?_)
    exact f_panic (fun w hs => .inr ⟨v, 2, rfl, by unfold rRaw; rw [if_neg c1, if_pos hlt], hs.sb⟩)
  refine a_ret ?_ hs'; clear hs'
  have hn : num (xs.take 2) < 65536 := by
    have h1 := num_lt (xs.take 2)
    have h2 : (xs.take 2).length = 2 := by simp; omega
    rw [h2] at h1
    simpa using h1
  refine ww ?_
  refine c_cons (s_val (v_load rfl (Cel.tail (Cel.tail (Cel.head rfl))) (by kernel_rfl)) rfl rfl rfl ?_)
  refine ww ?_
  refine c_cond_d rfl (fun c2 => ?_) (fun c2 => ?_)
  · refine ww ?_
    refine c_cons (s_val (v_build (ps := [_]) #[I64 3] rfl (by kernel_rfl)) rfl rfl rfl ?_)
    refine c_cons (s_val (v_iface rfl (by kernel_rfl)) rfl rfl rfl ?_)
    refine c_cons (s_panic rfl rfl ?_)
    repeat (first | refine x_then_panic ?_ | refine x_block_panic ?_)
    exact f_panic (fun w hs => .inr ⟨v', 3, rfl, by unfold rRaw; rw [if_neg c1, if_neg (by omega), if_pos (by omega)], hs.sb⟩)
  refine ww ?_
  refine c_cons (s_val (v_load rfl (Cel.tail (Cel.tail (Cel.tail (Cel.head rfl)))) (by kernel_rfl)) rfl rfl rfl ?_)
  refine ww ?_
  refine c_cons (s_call (xs := [_, _]) rfl rfl rfl rfl rfl rfl (by kernel_rfl) (fun w hs => take_c ep v' 0 (xs.drop 2) (num (xs.take 2)) _ w _ _ hv' hs) ?_)
  rintro e w' (⟨hle2, u, v2, rfl, hu, hv2, hs'⟩ | ⟨hlt2, rfl, hs'⟩)
  rotate_left
  · refine a_panic ?_ hs'; clear hs'
    repeat (first | refine x_then_panic ?_ | refine x_block_panic ?_)
    exact f_panic (fun w hs => .inr ⟨v', 2, rfl, by unfold rRaw; rw [if_neg c1, if_neg (by omega), if_neg (by omega), if_pos hlt2], hs.sb⟩)
  refine a_ret ?_ hs'; clear hs'
  have hul : ((xs.drop 2).take (num (xs.take 2))).length = num (xs.take 2) := by rw [List.length_take]; omega
  have hrr : rRaw xs i = ((xs.drop 2).take (num (xs.take 2)), (xs.drop 2).drop (num (xs.take 2)), 0) := by
    unfold rRaw; rw [if_neg c1, if_neg (by omega), if_neg (by omega), if_neg (by omega)]
  refine c_cons (s_call (xs := [_]) rfl rfl rfl rfl rfl rfl (by kernel_rfl) (fun w hs => clone_c _ ((xs.drop 2).take (num (xs.take 2))) _ w _ _ hu (by omega) hs) ?_)
  rintro e w' ⟨G2, u2, rfl, hG2, hu2, hs'⟩; refine a_ret ?_ hs'; clear hs'
  have hu21 := EB.one hu2
  refine c_cons (s_store1 rfl rfl rfl (.tail .head) (by kernel_rfl) hu21 (by simp) ?_)
  refine ww ?_
  exact f_end0 rfl (fun w hs => .inl ⟨G2, v2, _, _, hG2, rfl, ⟨hrr, u2, hu2, hv2.up hG2, rfl⟩, (show Sat w0 w G2 (WB xb u2 :: EyO ep v2 0 :: IB wb i :: PB eb ep :: (C ++ F)) from hs).sb⟩)
-- (*pinstripe/wire.Eye).Raw
theorem eraw_c (ep : Nat) (v : Value) (bad : Int) (xs : List UInt8) (i : Int) (w0 w : World) (G : Im) (F : Hp) (hv : EB G v xs) (hs : Sat w0 w G (EyO ep v bad :: F)) :
    Calls Try.prog 61 #[Pt ep 0, I64 i] w fun e w' => ∃ G' u v', e = .returned u ∧ Im.le G G' ∧ EB G' u (eRaw xs bad i).1 ∧ EB G' v' (eRaw xs bad i).2.1 ∧ Sat w0 w' G' (EyO ep v' (eRaw xs bad i).2.2 :: F) := by
  refine f_enter (vs := [_, _]) Try.func61 rfl Try.ntmps61 (by simp) hs ?_
  refine ww ?_
  refine c_cons (s_box rfl rfl rfl fun b1 => ?_)
  refine c_cons (s_box rfl rfl rfl fun b2 => ?_)
  refine ww ?_
  refine c_cons (s_alloc (.slice none 0 0) (by kernel_rfl) rfl rfl fun b3 => ?_)
  refine ww ?_
  refine c_cons (s_val (v_load rfl (Cel.tail (Cel.tail (Cel.head rfl))) (by kernel_rfl)) rfl rfl rfl ?_)
  refine ww ?_
  change Holds _ _ _ _ _ (WB b3 (.slice none 0 0) :: IB b2 i :: PB b1 ep :: EyO ep v bad :: F) _
  refine c_sub (EyO ep v bad :: WB b3 (.slice none 0 0) :: IB b2 i :: PB b1 ep :: F) sbx ?_
  by_cases hb : bad = 0
  · subst hb
    have he : eRaw xs 0 i = rRaw xs i := if_neg (by omega)
    rw [he]
    refine c_cons (s_call (xs := [_, _]) rfl rfl rfl rfl rfl rfl (by kernel_rfl) (fun w hs => read_c ep v _ _ _ _ _ w _ _ hv.one (by kernel_rfl) (rawStep ep b3 b2 b1 v xs i _ _ F hv) hs) ?_)
    rintro e w' ⟨rfl, (⟨G', v', F', hG', ⟨h1, u, h2, h3, rfl⟩, hs'⟩ | ⟨c, hc, hs'⟩)⟩
    · refine a_ret ?_ hs'; clear hs'
      rw [h1]
      refine ww ?_
      refine c_cons (s_val (v_load rfl (Cel.tail (Cel.head rfl)) (by kernel_rfl)) rfl rfl rfl ?_)
      refine ww ?_
      exact f_ret1 rfl rfl (fun w hs => ⟨G', u, v', rfl, hG', h2, h3, hs.sb⟩)
    · refine a_ret ?_ hs'; clear hs'
      rw [hc]
      refine ww ?_
      refine c_cons (s_val (v_load rfl (Cel.tail (Cel.head rfl)) (by kernel_rfl)) rfl rfl rfl ?_)
      refine ww ?_
      exact f_ret1 rfl rfl (fun w hs => ⟨G, _, v, rfl, Im.le_refl _, SV.nil _ _, hv, hs.sb⟩)
  · have he : eRaw xs bad i = ([], xs, bad) := if_pos hb
    rw [he]
    refine c_cons (s_call (xs := [_, _]) rfl rfl rfl rfl rfl rfl (by kernel_rfl) (fun w hs => readB_c ep v bad hb _ _ _ w _ _ hs) ?_)
    rintro e w' ⟨rfl, hs'⟩; refine a_ret ?_ hs'; clear hs'
    refine ww ?_
    refine c_cons (s_val (v_load rfl (Cel.tail (Cel.head rfl)) (by kernel_rfl)) rfl rfl rfl ?_)
    refine ww ?_
    exact f_ret1 rfl rfl (fun w hs => ⟨G, _, v, rfl, Im.le_refl _, SV.nil _ _, hv, hs.sb⟩)
theorem boolStep (ep xb eb : Nat) (v : Value) (xs : List UInt8) (w0 : World) (G : Im) (F : Hp) (hv : EB G v xs) :
    Step w0 G (BB xb false :: PB eb ep :: F) ep v 82 #[Pt eb 0, Pt xb 0]
      (fun G' v' F' => G' = G ∧ (rBool xs).2.2 = 0 ∧ EB G v' (rBool xs).2.1 ∧ F' = BB xb (rBool xs).1 :: PB eb ep :: F)
      (fun c => rBool xs = (false, xs, c)) := by
  intro w C hs
  refine f_enter (vs := [_, _]) Try.func82 rfl Try.ntmps82 (by simp) (hs.sub (K := EyO ep v 0 :: BB xb false :: PB eb ep :: (C ++ F)) sbx) ?_
  clear hs
  refine ww ?_
  refine c_cons (s_val (v_load rfl (Cel.tail (Cel.tail (Cel.head rfl))) (by kernel_rfl)) rfl rfl rfl ?_)
  refine c_cons (s_call (xs := [_, _]) rfl rfl rfl rfl rfl rfl (by kernel_rfl) (fun w hs => take_c ep v 0 xs 1 _ w _ _ hv hs) ?_)
  rintro e w' (⟨hle, u, v', rfl, hu, hv', hs'⟩ | ⟨hlt, rfl, hs'⟩)
  rotate_left
  · refine a_panic ?_ hs'; clear hs'
    repeat (first | refine x_then_panic ?_ | refine x_block_panic ?_)
    have hx : xs = [] := List.eq_nil_of_length_eq_zero (by omega)
    exact f_panic (fun w hs => .inr ⟨v, 2, rfl, by rw [hx]; rfl, hs.sb⟩)
  refine a_ret ?_ hs'; clear hs'
  obtain ⟨c, r, rfl⟩ : ∃ c r, xs = c :: r := by
    cases xs with
    | nil => simp at hle
    | cons c r => exact ⟨c, r, rfl⟩
  simp only [List.take_succ_cons, List.take_zero, List.drop_succ_cons, List.drop_zero] at hu hv'
  obtain ⟨ad, cc, rfl, hc1, hc2, hc3⟩ := hu
  rcases hc3 with ⟨h0, _⟩ | ⟨b, o, rfl, hcel⟩
  · cases h0
  have hcj : ∀ (H : Hp), Cel G H b (o + 0) (B8 c) := fun H => (hcel 0 _ rfl).mono (Im.le_refl _) (by simp)
  have hcb := c.toNat_lt
  refine c_cons (s_val (v_index1 rfl rfl (by kernel_rfl) (by simp)) rfl rfl rfl ?_)
  refine c_cons (s_val (v_load rfl (hcj _) (by kernel_rfl)) rfl rfl rfl ?_)
  refine ww ?_
  refine c_cond_d rfl (fun c1 => ?_) (fun c1 => ?_)
  · refine ww ?_
    refine c_cons (s_val (v_build (ps := [_]) #[I64 4] rfl (by kernel_rfl)) rfl rfl rfl ?_)
    refine c_cons (s_val (v_iface rfl (by kernel_rfl)) rfl rfl rfl ?_)
    refine c_cons (s_panic rfl rfl ?_)
    repeat (first | refine x_then_panic ?_ | refine x_block_panic ?_)
    exact f_panic (fun w hs => .inr ⟨v', 4, rfl, if_pos (by omega), hs.sb⟩)
  have hr : rBool (c :: r) = (decide (c.toNat = 1), r, 0) := if_neg (by omega)
  rw [hr]
  refine ww ?_
  refine c_cons (s_store1 rfl rfl rfl (.tail .head) (by kernel_rfl) rfl (by simp) ?_)
  refine ww ?_
  have hd : decide ((c.toNat : Int) = 1) = decide (c.toNat = 1) := decide_eq_decide.2 (by omega)
  exact f_end0 rfl (fun w hs => .inl ⟨G, v', _, _, Im.le_refl _, rfl, ⟨rfl, rfl, hv', rfl⟩, by
    rw [← hd]
    exact (show Sat w0 w G (BB xb (decide ((c.toNat : Int) = 1)) :: EyO ep v' 0 :: PB eb ep :: (C ++ F)) from hs).sb⟩)
-- (*pinstripe/wire.Eye).Bool
theorem ebool_c (ep : Nat) (v : Value) (bad : Int) (xs : List UInt8) (w0 w : World) (G : Im) (F : Hp) (hv : EB G v xs) (hs : Sat w0 w G (EyO ep v bad :: F)) :
    Calls Try.prog 45 #[Pt ep 0] w fun e w' => ∃ v', e = .returned (.bool (eBool xs bad).1) ∧ EB G v' (eBool xs bad).2.1 ∧ Sat w0 w' G (EyO ep v' (eBool xs bad).2.2 :: F) := by
  refine f_enter (vs := [_]) Try.func45 rfl Try.ntmps45 (by simp) hs ?_
  refine ww ?_
  refine c_cons (s_box rfl rfl rfl fun b1 => ?_)
  refine ww ?_
  refine c_cons (s_alloc (.bool false) (by kernel_rfl) rfl rfl fun b2 => ?_)
  refine c_cons (s_store1 rfl rfl rfl .head (by kernel_rfl) rfl (by simp [Value.cells]) ?_)
  refine ww ?_
  refine c_cons (s_val (v_load rfl (Cel.tail (Cel.head rfl)) (by kernel_rfl)) rfl rfl rfl ?_)
  refine ww ?_
  change Holds _ _ _ _ _ (BB b2 false :: PB b1 ep :: EyO ep v bad :: F) _
  refine c_sub (EyO ep v bad :: BB b2 false :: PB b1 ep :: F) sbx ?_
  by_cases hb : bad = 0
  · subst hb
    have he : eBool xs 0 = rBool xs := if_neg (by omega)
    rw [he]
    refine c_cons (s_call (xs := [_, _]) rfl rfl rfl rfl rfl rfl (by kernel_rfl) (fun w hs => read_c ep v _ _ _ _ _ w _ _ hv.one (by kernel_rfl) (boolStep ep b2 b1 v xs _ _ F hv) hs) ?_)
    rintro e w' ⟨rfl, (⟨G', v', F', hG', ⟨rfl, h1, h3, rfl⟩, hs'⟩ | ⟨c, hc, hs'⟩)⟩
    · refine a_ret ?_ hs'; clear hs'
      rw [h1]
      refine ww ?_
      refine c_cons (s_val (v_load rfl (Cel.tail (Cel.head rfl)) (by kernel_rfl)) rfl rfl rfl ?_)
      refine ww ?_
      exact f_ret1 rfl rfl (fun w hs => ⟨v', rfl, h3, hs.sb⟩)
    · refine a_ret ?_ hs'; clear hs'
      rw [hc]
      refine ww ?_
      refine c_cons (s_val (v_load rfl (Cel.tail (Cel.head rfl)) (by kernel_rfl)) rfl rfl rfl ?_)
      refine ww ?_
      exact f_ret1 rfl rfl (fun w hs => ⟨v, rfl, hv, hs.sb⟩)
  · have he : eBool xs bad = (false, xs, bad) := if_pos hb
    rw [he]
    refine c_cons (s_call (xs := [_, _]) rfl rfl rfl rfl rfl rfl (by kernel_rfl) (fun w hs => readB_c ep v bad hb _ _ _ w _ _ hs) ?_)
    rintro e w' ⟨rfl, hs'⟩; refine a_ret ?_ hs'; clear hs'
    refine ww ?_
    refine c_cons (s_val (v_load rfl (Cel.tail (Cel.head rfl)) (by kernel_rfl)) rfl rfl rfl ?_)
    refine ww ?_
    exact f_ret1 rfl rfl (fun w hs => ⟨v, rfl, hv, hs.sb⟩)
end

section
open Go
set_option linter.unusedVariables false
set_option maxHeartbeats 400000
attribute [local irreducible] Code.wp wpList stepK Holds Val wpR Eff Eff0 Code.wpIn wpListIn stepI Exit.then Exit.inBlock bodyPost bodyPostM

theorem cloneH_c (v : Value) (xs : List UInt8) (w0 w : World) (G : Im) (F : Hp) (hv : SV G F v xs.length (xs.map B8)) (hm : xs.length ≤ 1000000) (hs : Sat w0 w G F) :
    Calls Try.prog 86 #[v] w fun e w' => ∃ G' u, e = .returned u ∧ Im.le G G' ∧ SV G' [] u xs.length (xs.map B8) ∧ Sat w0 w' G' F := by
  obtain ⟨ad, cap, rfl⟩ := hv.form
  refine f_enter (vs := [_]) Try.func86 rfl Try.ntmps86 (by simp) hs ?_
  refine ww ?_
  cases ad with
  | none =>
    refine c_cond_t rfl ?_
    refine ww ?_
    obtain ⟨_, _, he, h1, h2, h3⟩ := hv
    cases he
    have hx : xs = [] := by
      rcases h3 with ⟨h, _⟩ | ⟨_, _, h, _⟩
      · simpa using h
      · cases h
    subst hx
    exact f_ret1 rfl rfl (fun w hs => ⟨G, _, rfl, Im.le_refl G, SV.nil _ _, hs⟩)
  | some b =>
    refine c_cond_f rfl ?_
    refine ww ?_
    refine c_cons (s_lit (z := B8 0) (bs := 1) (e := 5) [] (by kernel_rfl) rfl rfl rfl rfl (by simp) rfl (by decide) fun b0 => ?_)
    refine ww ?_
    refine c_cons (s_append (e := 5) (z := B8 0) (sz := 1) (bs := 1) (by kernel_rfl) rfl rfl rfl rfl (Own.full (by simp) (by decide)) Chunk.one (hv.mono (Im.le_refl _) mem_cons_of) rfl (by decide) (by simp) (by simp [Value.oneCell']) (by simp; omega) (by simp; omega) fun u1 B1 hown1 => ?_)
    simp only [List.length_nil, List.nil_append, Nat.zero_add] at hown1
    refine c_freezeO hown1 Chunk.head fun G1 hG1 hsv1 => ?_
    refine ww ?_
    exact f_ret1 rfl rfl (fun w hs => ⟨G1, _, rfl, hG1, hsv1, hs⟩)
end

section
open Go
set_option linter.unusedVariables false
set_option linter.unusedSimpArgs false

variable {w0 w : World} {G G' : Im} {H H' H1 : Hp} {m d : Nat}
variable {n : Nat} {ds : List Deferred} {env : Env} {P : Program} {Q : Exit → Act → World → Prop} {ops : Array Oper} {K : Act → World → Prop}
variable {dst : Option Tmp} {ty : TypeId} {pos : String} {aft : Array Edge} {g : Option (Nat × Bool)}

/-- A text. -/
abbrev St (xs : List UInt8) : Value := .string ⟨xs.toArray⟩
def strB (P : Program) (t : TypeId) : Bool := match P.underlying t with
  | some .string => true
  | _ => false
theorem strB_spec {t : TypeId} (h : strB P t = true) : P.underlying t = some .string := by
  unfold strB at h; split at h
  · assumption
  · cases h
def bysB (P : Program) (t : TypeId) : Option TypeId := match P.underlying t with
  | some (.slice e) => if u8B P e then some e else none
  | _ => none
theorem bysB_spec {t e : TypeId} (h : bysB P t = some e) : P.underlying t = some (.slice e) ∧ P.underlying e = some (.int .u8) := by
  unfold bysB at h
  split at h
  · rename_i e' hu
    split at h
    · rename_i h8; cases h; exact ⟨hu, u8B_spec h8⟩
    · cases h
  · cases h
theorem v_bstr (e : TypeId) {x : Operand} {s t : TypeId} {v : Value} {xs : List UInt8} (hx : ev env x = some v) (hv : SV G H v xs.length (xs.map B8)) (hs : bysB P s = some e) (ht' : strB P t = true) :
    Val P env G H ⟨dst, .convert s t x, ty, pos, aft, g⟩ (St xs) := fun a n ds w0 w ht hsat => by
  obtain ⟨h1, h2⟩ := bysB_spec hs
  have h3 := strB_spec ht'
  obtain ⟨ad, c, rfl, hc1, hc2, hc3⟩ := hv
  simp only [execOp, ht.eval hx]
  cases ad with
  | none =>
    have hx0 : xs = [] := by
      rcases hc3 with ⟨h, _⟩ | ⟨_, _, h, _⟩
      · simpa using h
      · cases h
    subst hx0
    rw [Sem.run_bind, run_convert_bytes_string w s t e _ _ _ h1 h2 h3]
    rfl
  | some a' =>
    rw [Sem.run_bind, run_convert_bytes_back w s t e a' c xs h1 h2 h3 (fun j hj => ?_)]
    · rfl
    · rcases hc3 with ⟨h, _⟩ | ⟨b, o, h, hcel⟩
      · have : xs = [] := by simpa using h
        subst this; simp at hj
      · cases h
        have := (hcel j (B8 xs[j]) (by simp [hj])).cell hsat
        have e1 : (⟨b, o, none⟩ : Addr).add j = ⟨b, o + j, none⟩ := by (by_cases h0 : j = 0 <;> simp [Addr.add, h0])
        rw [e1]; exact this
theorem v_strlen {x : Operand} {t : TypeId} {xs : List UInt8} (hx : ev env x = some (St xs)) (hu : strB P t = true) :
    Val P env G H ⟨dst, .call { callee := .builtin .len, args := #[x], argTypes := #[t] }, ty, pos, aft, g⟩ (I64 (xs.length : Int)) := fun a n ds w0 w ht hs => by
  have h1 := run_len_string w t ty ⟨xs.toArray⟩ (strB_spec hu)
  have h2 : (⟨xs.toArray⟩ : ByteArray).size = xs.length := by simp [ByteArray.size]
  rw [h2] at h1
  simp only [execOp, resolve, invoke, builtin]
  simp [builtin, invoke, ht.eval hx, h1, goInt]
theorem v_streql {x y : Operand} {t t' : TypeId} {xs ys : List UInt8} (hx : ev env x = some (St xs)) (hy : ev env y = some (St ys)) :
    Val P env G H ⟨dst, .binOp .eql t x y t', ty, pos, aft, g⟩ (.bool (decide (xs = ys))) := fun a n ds w0 w ht hs => by
  have e : (xs == ys) = decide (xs = ys) := by
    by_cases h : xs = ys <;> simp [h]
  simp [execOp, eqGuard, binOp, Op.stringOp, ht.eval hx, ht.eval hy, e]
theorem v_strneq {x y : Operand} {t t' : TypeId} {xs ys : List UInt8} (hx : ev env x = some (St xs)) (hy : ev env y = some (St ys)) :
    Val P env G H ⟨dst, .binOp .neq t x y t', ty, pos, aft, g⟩ (.bool (decide (¬ xs = ys))) := fun a n ds w0 w ht hs => by
  have e : (xs == ys) = decide (xs = ys) := by
    by_cases h : xs = ys <;> simp [h]
  simp [execOp, eqGuard, binOp, Op.stringOp, ht.eval hx, ht.eval hy, bne, e]
theorem s_strb (e : TypeId) {x : Operand} {s t : TypeId} {xs : List UInt8} (hx : ev env x = some (St xs)) (hs : strB P s = true) (ht' : bysB P t = some e) (hm : xs.length ≤ maxLen) (hg : gOn ops env ⟨some d, .convert s t x, ty, pos, aft, g⟩ = some true) (hd : Nat.blt d n = true)
    (k : ∀ G' v, Im.le G G' → EB G' v xs → Holds n ds w0 ((d, v) :: env) G' H K) :
    Holds n ds w0 env G H (stepK P ops Q ⟨some d, .convert s t x, ty, pos, aft, g⟩ K) := by
  obtain ⟨h1, h2⟩ := bysB_spec ht'
  have h3 := strB_spec hs
  refine s_eff (Φ := fun u w' => ∃ G', Im.le G G' ∧ EB G' u xs ∧ Sat w0 w' G' H) hg rfl hd (fun a n ds w ht hsat => ?_) (fun u w' ⟨G', hG', hu, hs⟩ => (k G' u hG' hu).atw hs)
  have hrun := run_bytes_of_string (P := P) w s t e ⟨xs.toArray⟩ h3 h1 h2
  have h2 : (⟨xs.toArray⟩ : ByteArray).size = xs.length := by simp [ByteArray.size]
  rw [h2] at hrun
  have hge := grownCap_ge w xs.length 0 e
  have hcm := grownCap_le_maxLen w xs.length 0 e hm
  have ha := (hsat.drew).alloc (.cells (bytesRow ⟨xs.toArray⟩ (grownCap w xs.length 0 e)) e ((bytesRow ⟨xs.toArray⟩ (grownCap w xs.length 0 e)).size, (bytesRow ⟨xs.toArray⟩ (grownCap w xs.length 0 e)).size + 1))
  have hsz : w.drew.heap.size = w.heap.size := rfl
  rw [hsz] at ha
  refine ⟨_, _, by simp only [execOp, ht.eval hx]; rw [Sem.run_bind, hrun]; rfl, _, Im.le_add (ha.sep _ (List.mem_cons_self ..)), ⟨some ⟨w.heap.size, 0, none⟩, grownCap w xs.length 0 e, rfl, hge, hcm, .inr ⟨_, _, rfl, fun j u hj => ⟨_, _, _, .inl (Im.add_self _ _ _), ?_⟩⟩⟩, ha.freeze⟩
  have hj' : j < xs.length := by
    have := (List.getElem?_eq_some_iff.1 hj).1
    simpa using this
  simp only [List.getElem?_map] at hj
  simp only [bytesRow, Nat.zero_add]
  rw [Array.getElem?_append_left (by simpa using hj')]
  simpa using hj
end

section
open Go
set_option linter.unusedVariables false
set_option linter.unusedSimpArgs false
set_option maxHeartbeats 3200000
attribute [local irreducible] Code.wp wpList stepK Holds Val wpR Eff Eff0 Code.wpIn wpListIn stepI Exit.then Exit.inBlock bodyPost bodyPostM

abbrev PnO (pn : Nat) (v : Value) (bad : Int) : Nat × Obj := (pn, Cs [v, I64 bad] 113)
/-- What a pen holds: bytes, why it failed. -/
abbrev Pn := List UInt8 × Int
def pput (s : Pn) (e : Int) (ys : List UInt8) : Pn := if s.2 ≠ 0 then s else if e ≠ 0 then (s.1, e) else if 65536 < s.1.length + ys.length then (s.1, 3) else (s.1 ++ ys, 0)
/-- May a number be written so? -/
def goodN (x i : Int) : Prop := (1 ≤ i ∧ i ≤ 7) ∧ 0 ≤ x ∧ x < 2 ^ (8 * i.toNat)
instance (x i : Int) : Decidable (goodN x i) := by unfold goodN; infer_instance
def pnum (s : Pn) (x i : Int) : Pn := if goodN x i then pput s 0 (be x i.toNat) else pput s 1 []
def praw (s : Pn) (ys : List UInt8) : Pn := if 65535 < ys.length then pput s 3 [] else pput s 0 (lowB ((ys.length : Int) / 256) :: lowB (ys.length : Int) :: ys)
def pbool (s : Pn) (b : Bool) : Pn := pput s 0 [if b then 1 else 0]
theorem pput_len {s : Pn} (h : s.1.length ≤ 65536) (e : Int) (ys : List UInt8) : (pput s e ys).1.length ≤ 65536 := by
  unfold pput
  split
  · exact h
  · split
    · exact h
    · split
      · exact h
      · simp; omega
theorem pnum_len {s : Pn} (h : s.1.length ≤ 65536) (x i : Int) : (pnum s x i).1.length ≤ 65536 := by
  unfold pnum; split <;> exact pput_len h _ _
theorem praw_len {s : Pn} (h : s.1.length ≤ 65536) (ys : List UInt8) : (praw s ys).1.length ≤ 65536 := by
  unfold praw; split <;> exact pput_len h _ _
theorem pbool_len {s : Pn} (h : s.1.length ≤ 65536) (b : Bool) : (pbool s b).1.length ≤ 65536 := pput_len h _ _

-- (*pinstripe/wire.Pen).put
theorem pput_c (pn : Nat) (v : Value) (s : Pn) (B : Hp) (e : Int) (vb : Value) (ys : List UInt8) (hlen : s.1.length ≤ 65536) (hys : ys.length ≤ 1000000) (w0 w : World) (G : Im) (F : Hp) (hown : OB v s.1 B) (hb : SV G (PnO pn v s.2 :: (B ++ F)) vb ys.length (ys.map B8)) (hs : Sat w0 w G (PnO pn v s.2 :: (B ++ F))) :
    Calls Try.prog 69 #[Pt pn 0, I64 e, vb] w fun r w' => ∃ v' B', r = .returned (.tuple #[]) ∧ OB v' (pput s e ys).1 B' ∧ Sat w0 w' G (PnO pn v' (pput s e ys).2 :: (B' ++ F)) := by
  obtain ⟨xs, bad⟩ := s
  dsimp only at hlen hown hb hs
  obtain ⟨ad, c, rfl⟩ := hown.form
  obtain ⟨adb, cb, rfl, hcb1, hcb2, hb3⟩ := id hb
  refine f_enter (vs := [_, _, _]) Try.func69 rfl Try.ntmps69 (by simp) hs ?_
  refine ww ?_
  refine c_cons (s_val (v_field 1 rfl (by kernel_rfl)) rfl rfl rfl ?_)
  refine c_cons (s_val (v_load rfl (Cel.head rfl) (by kernel_rfl)) rfl rfl rfl ?_)
  refine ww ?_
  refine c_cond_d rfl (fun c1 => ?_) (fun c1 => ?_)
  · have e1 : pput (xs, bad) e ys = (xs, bad) := if_pos c1
    rw [e1]
    refine ww ?_
    exact f_end0 rfl (fun w hs => ⟨_, B, rfl, hown, hs⟩)
  have hb0 : bad = 0 := by omega
  subst hb0
  refine ww ?_
  refine c_cond_d rfl (fun c2 => ?_) (fun c2 => ?_)
  · have e1 : pput (xs, 0) e ys = (xs, e) := by unfold pput; rw [if_neg (by simp), if_pos c2]
    rw [e1]
    refine ww ?_
    refine c_cons (s_val (v_field 1 rfl (by kernel_rfl)) rfl rfl rfl ?_)
    refine c_cons (s_store1 rfl rfl rfl .head (by kernel_rfl) rfl (by simp) ?_)
    refine ww ?_
    exact f_end0 rfl (fun w hs => ⟨_, B, rfl, hown, hs⟩)
  refine ww ?_
  refine c_cons (s_val (v_field 0 rfl (by kernel_rfl)) rfl rfl rfl ?_)
  refine c_cons (s_val (v_load rfl (Cel.head rfl) (by kernel_rfl)) rfl rfl rfl ?_)
  refine ww ?_
  refine c_cond_d rfl (fun c3 => ?_) (fun c3 => ?_)
  · have e1 : pput (xs, 0) e ys = (xs, 3) := by unfold pput; rw [if_neg (by simp), if_neg c2, if_pos (by dsimp only; omega)]
    rw [e1]
    refine ww ?_
    refine c_cons (s_val (v_field 1 rfl (by kernel_rfl)) rfl rfl rfl ?_)
    refine c_cons (s_store1 rfl rfl rfl .head (by kernel_rfl) rfl (by simp) ?_)
    refine ww ?_
    exact f_end0 rfl (fun w hs => ⟨_, B, rfl, hown, hs⟩)
  have e1 : pput (xs, 0) e ys = (xs ++ ys, 0) := by unfold pput; rw [if_neg (by simp), if_neg c2, if_neg (by dsimp only; omega)]
  rw [e1]
  refine ww ?_
  refine c_cons (s_val (v_field 0 rfl (by kernel_rfl)) rfl rfl rfl ?_)
  refine c_cons (s_val (v_load rfl (Cel.head rfl) (by kernel_rfl)) rfl rfl rfl ?_)
  refine ww ?_
  refine c_cons (s_append (e := 5) (z := B8 0) (sz := 1) (bs := 1) (by kernel_rfl) rfl rfl rfl rfl hown (Chunk.tail Chunk.head) hb rfl (by decide) (by simp) (B8_one ys) (by omega) (by omega) fun u1 B1 hown1 => ?_)
  rw [← List.length_append, ← List.map_append] at hown1
  obtain ⟨ad1, c1', rfl⟩ := hown1.form
  refine c_sub (PnO pn (.slice ad xs.length c) 0 :: (B1 ++ F)) sbx ?_
  refine ww ?_
  refine c_cons (s_val (v_field 0 rfl (by kernel_rfl)) rfl rfl rfl ?_)
  refine c_cons (s_store1 rfl rfl rfl .head (by kernel_rfl) rfl (by simp) ?_)
  refine ww ?_
  exact f_end0 rfl (fun w hs => ⟨_, B1, rfl, hown1, hs⟩)

-- (*pinstripe/wire.Pen).Num
theorem pnum_c (pn : Nat) (v : Value) (s : Pn) (B : Hp) (x i : Int) (hlen : s.1.length ≤ 65536) (w0 w : World) (G : Im) (F : Hp) (hown : OB v s.1 B) (hs : Sat w0 w G (PnO pn v s.2 :: (B ++ F))) :
    Calls Try.prog 28 #[Pt pn 0, I64 x, I64 i] w fun r w' => ∃ v' B', r = .returned (.tuple #[]) ∧ OB v' (pnum s x i).1 B' ∧ Sat w0 w' G (PnO pn v' (pnum s x i).2 :: (B' ++ F)) := by
  refine f_enter (vs := [_, _, _]) Try.func28 rfl Try.ntmps28 (by simp) hs ?_
  refine ww ?_
  refine c_cons (s_call (xs := [_]) rfl rfl rfl rfl rfl rfl (by kernel_rfl) (fun w hs => emay_c _ _ w _ _ hs) ?_)
  rintro e w' ⟨rfl, hs'⟩; refine a_ret ?_ hs'; clear hs'
  by_cases hm : ¬ (1 ≤ i ∧ i ≤ 7)
  · rw [decide_eq_false hm]
    have e1 : pnum s x i = pput s 1 [] := if_neg (fun h => hm h.1)
    rw [e1]
    refine ww ?_
    refine c_cond_t rfl ?_
    refine ww ?_
    refine c_cons (s_call (xs := [_, _, _]) rfl rfl rfl rfl rfl rfl (by kernel_rfl) (fun w hs => pput_c pn _ s B 1 _ [] hlen (by simp) _ w _ _ hown (SV.nil _ _) hs) ?_)
    rintro e w' ⟨v1, B1, rfl, hown1, hs'⟩; refine a_ret ?_ hs'; clear hs'
    refine ww ?_
    exact f_ret0 rfl (fun w hs => ⟨_, _, rfl, hown1, hs⟩)
  obtain ⟨n, rfl⟩ : ∃ k : Nat, i = (k : Int) := ⟨i.toNat, by omega⟩
  have hm : 1 ≤ (n : Int) ∧ (n : Int) ≤ 7 := by omega
  have hn : 1 ≤ n ∧ n ≤ 7 := by omega
  have hpw := pow8 hn
  have h8 : ∀ i : Nat, ((8 : Int) * (i : Int)).toNat = 8 * i := fun i => by omega
  rw [decide_eq_true hm]
  refine ww ?_
  refine c_part_d 15 _ rfl (fun c1 => ?_) (fun c1 => ?_)
  · have e1 : pnum s x n = pput s 1 [] := if_neg (fun h => by have := h.2.1; omega)
    rw [e1]
    refine ww ?_
    refine c_cond_t rfl ?_
    refine ww ?_
    refine c_cons (s_call (xs := [_, _, _]) rfl rfl rfl rfl rfl rfl (by kernel_rfl) (fun w hs => pput_c pn _ s B 1 _ [] hlen (by simp) _ w _ _ hown (SV.nil _ _) hs) ?_)
    rintro e w' ⟨v1, B1, rfl, hown1, hs'⟩; refine a_ret ?_ hs'; clear hs'
    refine ww ?_
    exact f_ret0 rfl (fun w hs => ⟨_, _, rfl, hown1, hs⟩)
  refine ww ?_
  refine c_cons (s_val (v_mul rfl rfl (by omega)) rfl rfl rfl ?_)
  refine c_cons (s_val (v_shr rfl rfl (by omega)) rfl rfl rfl ?_)
  rw [h8]
  refine ww ?_
  refine c_cond_d rfl (fun c2 => ?_) (fun c2 => ?_)
  · have e1 : pnum s x n = pput s 1 [] := if_neg (fun h => c2 (Int.ediv_eq_zero_of_lt h.2.1 (by have := h.2.2; rwa [Int.toNat_natCast] at this)))
    rw [e1]
    refine ww ?_
    refine c_cons (s_call (xs := [_, _, _]) rfl rfl rfl rfl rfl rfl (by kernel_rfl) (fun w hs => pput_c pn _ s B 1 _ [] hlen (by simp) _ w _ _ hown (SV.nil _ _) hs) ?_)
    rintro e w' ⟨v1, B1, rfl, hown1, hs'⟩; refine a_ret ?_ hs'; clear hs'
    refine ww ?_
    exact f_ret0 rfl (fun w hs => ⟨_, _, rfl, hown1, hs⟩)
  have hxl : x < 2 ^ (8 * n) := by
    refine Int.lt_of_not_ge fun h => c2 fun h0 => ?_
    have := (Int.le_ediv_iff_mul_le (a := 1) (b := x) (c := (2 : Int) ^ (8 * n)) (by omega)).2 (by omega)
    omega
  have e1 : pnum s x n = pput s 0 (be x n) := by
    unfold pnum
    rw [Int.toNat_natCast]
    exact if_pos ⟨hm, by omega, by rwa [Int.toNat_natCast]⟩
  rw [e1]
  refine ww ?_
  refine c_loop (α := Nat × Value × Hp) (fun z => [(0, Pt pn 0), (1, I64 x), (6, z.2.1), (7, I64 ((n : Int) - 1 - z.1))]) (fun _ => G) (fun z => PnO pn v s.2 :: (B ++ (z.2.2 ++ F))) (fun z => z.1 ≤ n ∧ Own z.2.1 z.1 (((be x n).take z.1).map B8) 5 1 z.2.2) (fun z => n - z.1) (0, .slice none 0 0, []) ⟨Nat.zero_le _, Own.zero none _ _⟩ ?_ ?_
  · exact n_at ⟨rfl, rfl, rfl, by simp [List.lookup], trivial⟩ sbx
  rintro ⟨i, u, Bo⟩ ⟨hi, ho⟩
  dsimp only at hi ho ⊢
  refine ww ?_
  refine c_cond_d rfl (fun c1 => ?_) (fun c1 => ?_)
  · -- then
    have hil : i < n := by omega
    have hi2 : ((n : Int) - 1 - i) = ((n - 1 - i : Nat) : Int) := by omega
    rw [hi2]
    refine ww ?_
    refine c_cons (s_val (v_mul rfl rfl (by omega)) rfl rfl rfl ?_)
    refine c_cons (s_val (v_shr rfl rfl (by omega)) rfl rfl rfl ?_)
    rw [h8]
    refine c_cons (s_val (v_byte rfl (by kernel_rfl) (by kernel_rfl)) rfl rfl rfl ?_)
    refine c_cons (s_lit (z := B8 0) (bs := 1) (e := 5) [_] (by kernel_rfl) rfl rfl rfl rfl (by simp [Value.oneCell']) rfl (by decide) fun b1 => ?_)
    refine c_cons (s_append (e := 5) (z := B8 0) (sz := 1) (bs := 1) (by kernel_rfl) rfl rfl rfl rfl ho (Chunk.tail (Chunk.tail (Chunk.app Chunk.head))) (news := [B8 (lowB (x / 2 ^ (8 * (n - 1 - i))))]) (SV.block .head (by simp [maxLen])) rfl (by decide) rfl (by simp [Value.oneCell']) (by simp; omega) (by simp; omega) fun u2 B2 hown2 => ?_)
    refine ww ?_
    exact n_next (x := (i, u, Bo)) (i + 1, u2, B2) ⟨by omega, by dsimp only; rw [be_snoc x n i hil, List.map_append]; exact hown2⟩ (by dsimp only; omega) ⟨rfl, rfl, rfl, by simp [List.lookup]; omega, trivial⟩ rfl sbx
  have e : i = n := by omega
  subst e
  rw [List.take_of_length_le (by rw [be_len]; exact Nat.le_refl _)] at ho
  refine ww ?_
  refine c_cons (s_call (xs := [_, _, _]) rfl rfl rfl rfl rfl rfl (by kernel_rfl) (fun w hs => pput_c pn _ s B 0 _ (be x i) hlen (by rw [be_len]; omega) _ w _ _ hown (by have := ho.sv (G := G) (H := PnO pn v s.2 :: (B ++ (Bo ++ F))) (fun p hp => by simp [hp]); rw [be_len]; exact this) hs) ?_)
  rintro e w' ⟨v2, B2, rfl, hown2, hs'⟩; refine a_ret ?_ hs'; clear hs'
  refine ww ?_
  exact f_end0 rfl (fun w hs => ⟨v2, B2, rfl, hown2, hs.sb⟩)

-- (*pinstripe/wire.Pen).Raw
theorem praw_c (pn : Nat) (v : Value) (s : Pn) (B : Hp) (vb : Value) (ys : List UInt8) (hlen : s.1.length ≤ 65536) (hys : ys.length ≤ 1000000) (w0 w : World) (G : Im) (F : Hp) (hown : OB v s.1 B) (hb : EB G vb ys) (hs : Sat w0 w G (PnO pn v s.2 :: (B ++ F))) :
    Calls Try.prog 59 #[Pt pn 0, vb] w fun r w' => ∃ v' B', r = .returned (.tuple #[]) ∧ OB v' (praw s ys).1 B' ∧ Sat w0 w' G (PnO pn v' (praw s ys).2 :: (B' ++ F)) := by
  obtain ⟨ad, c, rfl, hc1, hc2, hc3⟩ := id hb
  refine f_enter (vs := [_, _]) Try.func59 rfl Try.ntmps59 (by simp) hs ?_
  refine ww ?_
  refine c_cond_d rfl (fun c1 => ?_) (fun c1 => ?_)
  · have e1 : praw s ys = pput s 3 [] := if_pos (by omega)
    rw [e1]
    refine ww ?_
    refine c_cons (s_call (xs := [_, _, _]) rfl rfl rfl rfl rfl rfl (by kernel_rfl) (fun w hs => pput_c pn _ s B 3 _ [] hlen (by simp) _ w _ _ hown (SV.nil _ _) hs) ?_)
    rintro e w' ⟨v1, B1, rfl, hown1, hs'⟩; refine a_ret ?_ hs'; clear hs'
    refine ww ?_
    exact f_ret0 rfl (fun w hs => ⟨_, _, rfl, hown1, hs⟩)
  have e1 : praw s ys = pput s 0 (lowB ((ys.length : Int) / 256) :: lowB (ys.length : Int) :: ys) := if_neg (by omega)
  rw [e1]
  have e2 : (ys.length : Int) / 2 ^ (8 : Int).toNat = (ys.length : Int) / 256 := rfl
  refine ww ?_
  refine c_cons (s_val (v_shr rfl rfl (by omega)) rfl rfl rfl ?_)
  rw [e2]
  refine c_cons (s_val (v_byte rfl (by kernel_rfl) (by kernel_rfl)) rfl rfl rfl ?_)
  refine ww ?_
  refine c_cons (s_val (v_byte rfl (by kernel_rfl) (by kernel_rfl)) rfl rfl rfl ?_)
  refine c_cons (s_lit (z := B8 0) (bs := 1) (e := 5) [_, _] (by kernel_rfl) rfl rfl rfl rfl (by simp [Value.oneCell']) rfl (by decide) fun b1 => ?_)
  refine ww ?_
  refine c_cons (s_append (e := 5) (z := B8 0) (sz := 1) (bs := 1) (by kernel_rfl) rfl rfl rfl rfl (k := 2) (L := [lowB ((ys.length : Int) / 256), lowB (ys.length : Int)].map B8) (Own.full (by simp) (by simp [maxLen])) Chunk.one (hb.mono (Im.le_refl _) (by simp)) rfl (by decide) (by simp) (B8_one ys) (by omega) (by omega) fun u2 B2 hown2 => ?_)
  rw [← List.map_append] at hown2
  refine c_sub (PnO pn v s.2 :: (B ++ (B2 ++ F))) sbx ?_
  have hsv := hown2.sv (G := G) (H := PnO pn v s.2 :: (B ++ (B2 ++ F))) (fun p hp => by simp [hp])
  have hl2 : 2 + ys.length = (lowB ((ys.length : Int) / 256) :: lowB (ys.length : Int) :: ys).length := by simp; omega
  rw [hl2] at hsv
  refine c_cons (s_call (xs := [_, _, _]) rfl rfl rfl rfl rfl rfl (by kernel_rfl) (fun w hs => pput_c pn _ s B 0 _ (lowB ((ys.length : Int) / 256) :: lowB (ys.length : Int) :: ys) hlen (by simp; omega) _ w _ _ hown hsv hs) ?_)
  rintro e w' ⟨v3, B3, rfl, hown3, hs'⟩; refine a_ret ?_ hs'; clear hs'
  refine ww ?_
  exact f_end0 rfl (fun w hs => ⟨v3, B3, rfl, hown3, hs.sb⟩)

-- (*pinstripe/wire.Pen).Text
theorem ptext_c (pn : Nat) (v : Value) (s : Pn) (B : Hp) (ys : List UInt8) (hlen : s.1.length ≤ 65536) (hys : ys.length ≤ 1000000) (w0 w : World) (G : Im) (F : Hp) (hown : OB v s.1 B) (hs : Sat w0 w G (PnO pn v s.2 :: (B ++ F))) :
    Calls Try.prog 29 #[Pt pn 0, St ys] w fun r w' => ∃ G' v' B', r = .returned (.tuple #[]) ∧ Im.le G G' ∧ OB v' (praw s ys).1 B' ∧ Sat w0 w' G' (PnO pn v' (praw s ys).2 :: (B' ++ F)) := by
  refine f_enter (vs := [_, _]) Try.func29 rfl Try.ntmps29 (by simp) hs ?_
  refine ww ?_
  refine c_cons (s_strb 5 rfl (by kernel_rfl) (by kernel_rfl) (by simp [maxLen]; omega) rfl rfl fun G1 u1 hG1 hu1 => ?_)
  refine c_cons (s_call (xs := [_, _]) rfl rfl rfl rfl rfl rfl (by kernel_rfl) (fun w hs => praw_c pn _ s B _ ys hlen hys _ w _ _ hown hu1 hs) ?_)
  rintro e w' ⟨v1, B1, rfl, hown1, hs'⟩; refine a_ret ?_ hs'; clear hs'
  refine ww ?_
  exact f_end0 rfl (fun w hs => ⟨_, _, _, rfl, hG1, hown1, hs⟩)

-- (*pinstripe/wire.Pen).Bool
theorem pbool_c (pn : Nat) (v : Value) (s : Pn) (B : Hp) (b : Bool) (hlen : s.1.length ≤ 65536) (w0 w : World) (G : Im) (F : Hp) (hown : OB v s.1 B) (hs : Sat w0 w G (PnO pn v s.2 :: (B ++ F))) :
    Calls Try.prog 30 #[Pt pn 0, .bool b] w fun r w' => ∃ v' B', r = .returned (.tuple #[]) ∧ OB v' (pbool s b).1 B' ∧ Sat w0 w' G (PnO pn v' (pbool s b).2 :: (B' ++ F)) := by
  refine f_enter (vs := [_, _]) Try.func30 rfl Try.ntmps30 (by simp) hs ?_
  cases b with
  | true =>
    have e1 : pbool s true = pput s 0 [1] := rfl
    rw [e1]
    refine ww ?_
    refine c_cond_t rfl ?_
    refine ww ?_
    refine c_cons (s_lit (z := B8 0) (bs := 1) (e := 5) [_] (by kernel_rfl) rfl rfl rfl rfl (by simp [Value.oneCell']) rfl (by decide) fun b1 => ?_)
    change Holds _ _ _ _ _ ((b1, Cs [B8 1] 5) :: PnO pn v s.2 :: (B ++ F)) _
    refine c_sub (PnO pn v s.2 :: (B ++ ((b1, Cs [B8 1] 5) :: F))) sbx ?_
    refine c_cons (s_call (xs := [_, _, _]) rfl rfl rfl rfl rfl rfl (by kernel_rfl) (fun w hs => pput_c pn _ s B 0 _ [1] hlen (by simp) _ w _ _ hown (SV.block (b := b1) (t := 5) (L := [B8 1]) (.inr (by simp)) (by simp [maxLen])) hs) ?_)
    rintro e w' ⟨v1, B1, rfl, hown1, hs'⟩; refine a_ret ?_ hs'; clear hs'
    refine ww ?_
    exact f_ret0 rfl (fun w hs => ⟨_, _, rfl, hown1, hs.sb⟩)
  | false =>
    have e1 : pbool s false = pput s 0 [0] := rfl
    rw [e1]
    refine ww ?_
    refine c_cond_f rfl ?_
    refine ww ?_
    refine c_cons (s_lit (z := B8 0) (bs := 1) (e := 5) [_] (by kernel_rfl) rfl rfl rfl rfl (by simp [Value.oneCell']) rfl (by decide) fun b1 => ?_)
    change Holds _ _ _ _ _ ((b1, Cs [B8 0] 5) :: PnO pn v s.2 :: (B ++ F)) _
    refine c_sub (PnO pn v s.2 :: (B ++ ((b1, Cs [B8 0] 5) :: F))) sbx ?_
    refine c_cons (s_call (xs := [_, _, _]) rfl rfl rfl rfl rfl rfl (by kernel_rfl) (fun w hs => pput_c pn _ s B 0 _ [0] hlen (by simp) _ w _ _ hown (SV.block (b := b1) (t := 5) (L := [B8 0]) (.inr (by simp)) (by simp [maxLen])) hs) ?_)
    rintro e w' ⟨v1, B1, rfl, hown1, hs'⟩; refine a_ret ?_ hs'; clear hs'
    refine ww ?_
    exact f_end0 rfl (fun w hs => ⟨_, _, rfl, hown1, hs.sb⟩)

-- (*pinstripe/wire.Pen).Bytes
theorem pbytes_c (pn : Nat) (v : Value) (s : Pn) (B : Hp) (hlen : s.1.length ≤ 65536) (w0 w : World) (G : Im) (F : Hp) (hown : OB v s.1 B) (hs : Sat w0 w G (PnO pn v s.2 :: (B ++ F))) :
    Calls Try.prog 65 #[Pt pn 0] w fun r w' => ∃ G' u, r = .returned (.tuple #[u, I64 s.2]) ∧ Im.le G G' ∧ EB G' u (if s.2 ≠ 0 then [] else s.1) ∧ Sat w0 w' G' (PnO pn v s.2 :: (B ++ F)) := by
  obtain ⟨xs, bad⟩ := s
  dsimp only at hlen hown hs ⊢
  refine f_enter (vs := [_]) Try.func65 rfl Try.ntmps65 (by simp) hs ?_
  refine ww ?_
  refine c_cond_f rfl ?_
  refine ww ?_
  refine c_cons (s_val (v_field 1 rfl (by kernel_rfl)) rfl rfl rfl ?_)
  refine c_cons (s_val (v_load rfl (Cel.head rfl) (by kernel_rfl)) rfl rfl rfl ?_)
  refine ww ?_
  refine c_cond_d rfl (fun c2 => ?_) (fun c2 => ?_)
  · rw [if_pos c2]
    refine ww ?_
    refine r_startS [PnO pn v bad] [] (by kernel_rfl) (fun w h => h.sb) ?_
    refine r_tk 0 rfl rfl (v_move rfl) (fun _ h => h.sb) ?_
    refine r_tk 1 rfl rfl (v_nilCheck rfl) (fun _ h => h.sb) ?_
    refine r_tk 2 rfl rfl (v_field 1 rfl (by kernel_rfl)) (fun _ h => h.sb) ?_
    refine r_tk 3 rfl rfl (v_load rfl (Cel.head rfl) (by kernel_rfl)) (fun _ h => h.sb) ?_
    refine r_tk 4 rfl rfl (v_assign rfl) (fun _ h => h.sb) ?_
    refine r_tk 5 rfl rfl (v_assign rfl) (fun _ h => h.sb) ?_
    refine r_done (by kernel_rfl) ?_
    refine ww ?_
    exact f_ret2 rfl rfl rfl (fun w hs => ⟨G, _, rfl, Im.le_refl _, SV.nil _ _, hs⟩)
  have hb0 : bad = 0 := by omega
  subst hb0
  rw [if_neg c2]
  refine ww ?_
  refine c_cons (s_val (v_field 0 rfl (by kernel_rfl)) rfl rfl rfl ?_)
  refine c_cons (s_val (v_load rfl (Cel.head rfl) (by kernel_rfl)) rfl rfl rfl ?_)
  refine c_cons (s_call (xs := [_]) rfl rfl rfl rfl rfl rfl (by kernel_rfl) (fun w hs => cloneH_c _ xs _ w _ _ (hown.sv (fun p hp => by simp [hp])) (by omega) hs) ?_)
  rintro e w' ⟨G1, u1, rfl, hG1, hu1, hs'⟩; refine a_ret ?_ hs'; clear hs'
  refine ww ?_
  exact f_ret2 rfl rfl rfl (fun w hs => ⟨G1, u1, rfl, hG1, hu1, hs⟩)
end

section
open Go
set_option linter.unusedVariables false
set_option maxHeartbeats 400000
attribute [local irreducible] Code.wp wpList stepK Holds Val wpR Eff Eff0 Code.wpIn wpListIn stepI Exit.then Exit.inBlock bodyPost bodyPostM

theorem copy_c (v : Value) (xs : List UInt8) (w0 w : World) (G : Im) (F : Hp) (hv : SV G [] v xs.length (xs.map B8)) (hm : xs.length ≤ 1000000) (hs : Sat w0 w G F) :
    Calls Try.prog 74 #[v] w fun e w' => ∃ G' u, e = .returned u ∧ Im.le G G' ∧ SV G' [] u xs.length (xs.map B8) ∧ Sat w0 w' G' F := by
  obtain ⟨ad, cap, rfl, h1, h2, h3⟩ := hv
  unfold maxLen at h2
  refine f_enter (vs := [_]) Try.func74 rfl Try.ntmps74 (by simp) hs ?_
  refine ww ?_
  refine c_loop (α := Nat × Value × Hp) (fun x => [(4, I64 x.1), (3, x.2.1), (0, .slice ad xs.length cap)]) (fun _ => G) (fun x => x.2.2 ++ F) (fun x => x.1 ≤ xs.length ∧ Own x.2.1 x.1 ((xs.take x.1).map B8) 5 1 x.2.2) (fun x => xs.length - x.1) (0, .slice none 0 0, []) ⟨Nat.zero_le _, Own.nil _ _⟩ ?_ ?_
  · exact l_at ⟨rfl, rfl, rfl, trivial⟩ (Split.refl _)
  · rintro ⟨i, u, B⟩ ⟨hi, hown⟩
    dsimp only at hi hown ⊢
    refine ww ?_
    refine c_cond_d rfl (fun hlt => ?_) (fun hge => ?_)
    · have hix : i < xs.length := by omega
      rcases h3 with ⟨hx0, _⟩ | ⟨b, o, rfl, hc⟩
      · simp at hx0; rw [hx0] at hix; simp at hix
      have e1 := fun H' => (hc i (B8 xs[i]) (by simp [hix])).mono (H' := H') (Im.le_refl G) (by simp)
      refine ww ?_
      refine c_cons (s_val (v_index1 rfl rfl (by kernel_rfl) (by omega)) rfl rfl rfl ?_)
      refine c_cons (s_val (v_load rfl (by simpa using e1 _) (by kernel_rfl)) rfl rfl rfl ?_)
      refine c_cons (s_lit (z := B8 0) (bs := 1) (e := 5) [_] (by kernel_rfl) rfl rfl rfl rfl (by simp [Value.oneCell']) rfl (by decide) fun bz => ?_)
      refine c_cons (s_append (e := 5) (z := B8 0) (sz := 1) (bs := 1) (by kernel_rfl) rfl rfl rfl rfl hown (Chunk.tail Chunk.head) (SV.block .head (by simp [maxLen])) rfl (by decide) rfl (by simp [Value.oneCell']) (by simp; omega) (by simp; omega) fun u2 B2 hown2 => ?_)
      obtain ⟨Rz, hsp⟩ := Split.mid1 B2 F (bz, Cs [B8 xs[i]] 5)
      refine ww ?_
      refine l_next (x := (i, u, B)) (i + 1, u2, B2) ⟨by omega, ?_⟩ (by dsimp only; omega) ⟨rfl, rfl, rfl, trivial⟩ rfl hsp
      rw [List.take_succ_eq_append_getElem hix, List.map_append]
      exact hown2
    · have e : i = xs.length := by omega
      subst e
      rw [List.take_length] at hown
      refine ww ?_
      refine c_freezeO hown Chunk.head fun G1 hG1 hsv1 => ?_
      exact f_ret1 rfl rfl (fun w hs => ⟨G1, u, rfl, hG1, hsv1, hs⟩)
end
end Go.Proofs.Ytobhlbhklblncaa
