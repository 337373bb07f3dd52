/- Structs that are built, new variables, literals of structs, slices of three bounds, appending to what is full, nil, results that lie in cells. -/
import Derived.Test.YtkjneelekfdpfaaOps2
import Derived.Laws.Tables
import Derived.Laws.Pointers
import Derived.Laws.Cover3
import Derived.Great.BuildSlice
namespace Go.Proofs.Ytkjneelekfdpfaa
open Go
set_option linter.unusedVariables false
set_option linter.unusedSimpArgs false

def evp (env : Env) : List (Nat × Operand) → Option (List (Nat × Value))
  | [] => some []
  | (i, x) :: xs => match ev env x, evp env xs with
    | some v, some vs => some ((i, v) :: vs)
    | _, _ => none
theorem TT.evalp {a : Act} {n : Nat} {ds : List Deferred} {env : Env} (h : TT a n ds env) : ∀ {l : List (Nat × Operand)} {vs : List (Nat × Value)}, evp env l = some vs → l.map (fun p => (p.1, a.eval p.2)) = vs
  | [], vs, hx => by simpa [evp] using hx
  | (i, x) :: xs, vs, hx => by
    simp only [evp] at hx
    split at hx
    · rename_i v ws h1 h2
      cases hx
      simp [h.eval h1, h.evalp h2]
    · cases hx

def zeroB (P : Program) (t : TypeId) : Option Value := match P.info? t with
  | some i => i.zero
  | none => none
theorem zeroB_spec {P : Program} {t : TypeId} {z : Value} (h : zeroB P t = some z) : ∃ i, P.info? t = some i ∧ i.zero = some z := by
  unfold zeroB at h; split at h
  · exact ⟨_, by assumption, h⟩
  · cases h
def ptrB (P : Program) (t : TypeId) : Bool := match P.underlying t with
  | some (.pointer _) => true
  | _ => false
theorem ptrB_spec {P : Program} {t : TypeId} (h : ptrB P t = true) : P.underlying t = some (.pointer (P.pointee t)) := by
  unfold ptrB at h; split at h
  · rename_i e he; rw [he]; simp [Program.pointee, he]
  · cases h

section
variable {w0 w : World} {G G' : Im} {H H1 : Hp} {n : Nat} {ds : List Deferred} {env : Env} {P : Program} {R : Act → World → Prop} {ops : Array Oper} {Q : Exit → Act → World → Prop} {K : Act → World → Prop}
variable {dst : Option Tmp} {d : Nat} {ty : TypeId} {pos : String} {aft : Array Edge} {g : Option (Nat × Bool)}

theorem v_build (cells : Array Value) {t : TypeId} {ps : List (Nat × Operand)} {vs : List (Nat × Value)} (hx : evp env ps = some vs) (hb : P.built t vs = some cells) :
    Val P env G H ⟨dst, .build t ps.toArray, ty, pos, aft, g⟩ (.agg cells) := fun a n ds w0 w ht hs => by
  have h1 := ht.evalp hx
  have h2 : (ps.toArray.map fun (i, x) => (i, a.eval x)) = vs.toArray := by rw [← h1]; simp
  simp only [execOp]
  rw [h2]
  simp [run_build w t vs.toArray cells (by simpa using hb)]
theorem v_eqnilP {x y : Operand} {t t' : TypeId} {p : Option Addr} (hx : ev env x = some (.pointer p)) (hy : ev env y = some (.pointer none)) (hu : ptrB P t = true) :
    Val P env G H ⟨dst, .binOp .eql t x y t', ty, pos, aft, g⟩ (.bool p.isNone) := fun a n ds w0 w ht hs => by
  simp [execOp, eqGuard, ht.eval hx, ht.eval hy, run_eql_pointer_nil w t p (ptrB_spec hu)]
theorem v_neqnilP {x y : Operand} {t t' : TypeId} {p : Option Addr} (hx : ev env x = some (.pointer p)) (hy : ev env y = some (.pointer none)) (hu : ptrB P t = true) :
    Val P env G H ⟨dst, .binOp .neq t x y t', ty, pos, aft, g⟩ (.bool (!p.isNone)) := fun a n ds w0 w ht hs => by
  simp [execOp, eqGuard, ht.eval hx, ht.eval hy, run_neq_pointer_nil w t p (ptrB_spec hu)]
theorem v_eqnilS {x y : Operand} {t t' : TypeId} {ad : Option Addr} {k c : Nat} (hx : ev env x = some (.slice ad k c)) (hy : ev env y = some (.slice none 0 0)) (hu : slB P t = true) :
    Val P env G H ⟨dst, .binOp .eql t x y t', ty, pos, aft, g⟩ (.bool ad.isNone) := fun a n ds w0 w ht hs => by
  obtain ⟨e, hu⟩ := slB_spec hu
  have h2 : (binOp .eql t (.slice ad k c) (.slice none 0 0)).run P w = .ok (.bool ad.isNone) w := by
    simp only [binOp]; simp [run_equal_slice_nil w t e ad k c hu]
  simp [execOp, eqGuard, ht.eval hx, ht.eval hy, h2]
theorem v_remT {x y : Operand} {t t' : TypeId} {p q : Int} (hx : ev env x = some (I64 p)) (hy : ev env y = some (I64 q)) (hq : 0 < q ∧ q ≤ 9223372036854775807) :
    Val P env G H ⟨dst, .binOp .rem t x y t', ty, pos, aft, g⟩ (I64 (p.tmod q)) := fun a n ds w0 w ht hs => by
  have h0 : ¬ q = 0 := by omega
  simp [execOp, eqGuard, binOp, Op.intDiv, ht.eval hx, ht.eval hy, h0]
/-- s[:i:i] -/
theorem v_sl3 (i : Nat) {x hi mx : Operand} {t : TypeId} {ad : Option Addr} {k c : Nat} (hx : ev env x = some (.slice ad k c)) (hh : ev env hi = some (I64 (i : Int))) (hm : ev env mx = some (I64 (i : Int))) (hu : (elB P t).isSome = true) (hl : i ≤ c) :
    Val P env G H ⟨dst, .slice t x none (some hi) (some mx), ty, pos, aft, g⟩ (.slice ad i i) := fun a n ds w0 w ht hs => by
  obtain ⟨sz, hu⟩ := Option.isSome_iff_exists.1 hu
  obtain ⟨e, hu, hz⟩ := elB_spec hu
  have h0 : (if i = 0 then ad else ad.map (·.add 0)) = ad := by cases ad <;> simp [Addr.add]
  simp [execOp, Instr.sliceAt, Instr.slice, Instr.sliceBounds, ht.eval hx, ht.eval hh, ht.eval hm, run_underlying hu, run_sliceBound rfl hl, run_sliceBound rfl (Nat.le_refl i), run_sizeOf' hz, h0]

theorem s_alloc (z : Value) {t : TypeId} (hz : zeroB P t = some z) (hg : gOn ops env ⟨some d, .alloc t, ty, pos, aft, g⟩ = some true) (hd : Nat.blt d n = true)
    (k : ∀ b, Holds n ds w0 ((d, Pt b 0) :: env) G ((b, Cs z.cells.toList t) :: H) K) :
    Holds n ds w0 env G H (stepK P ops Q ⟨some d, .alloc t, ty, pos, aft, g⟩ K) := by
  obtain ⟨i, hi, hz⟩ := zeroB_spec hz
  refine s_eff (Φ := fun u w' => ∃ b, u = Pt b 0 ∧ Sat w0 w' G ((b, Cs z.cells.toList t) :: H)) hg rfl hd (fun a n ds w ht hs => ?_) (fun u w' ⟨b, hu, hs⟩ => by subst hu; exact (k b).atw hs)
  exact ⟨Pt w.heap.size 0, w.alloc (Cs z.cells.toList t), by simp [execOp, Instr.alloc, zeroValue, typeInfo, hi, hz, newVar, newRow], _, rfl, hs.alloc (Cs z.cells.toList t)⟩

theorem enumP_zip {α : Type} : ∀ (i : Nat) (l : List α), enumP i l = (l.zipIdx i).map fun x => (x.2, x.1)
  | _, [] => rfl
  | i, x :: r => by simp [enumP, enumP_zip (i + 1) r]
/-- []T{x0, x1, ..}, each of sz cells. -/
theorem e_litN (xs : List Operand) {t e : TypeId} {z : Value} {sz bs : Nat} {vs : List Value} (hxs : evl env xs = some vs) (hm : mkB P t = some (e, z, sz, bs)) (hz : z.cells.size = sz) (h1 : ∀ v ∈ vs, v.cells.size = sz) (hsz : 0 < sz) (h0 : 0 < xs.length) (hb : xs.length * sz ≤ 10000) :
    Eff P w0 env G H ⟨dst, .buildSlice t xs.length (enumP 0 xs).toArray, ty, pos, aft, g⟩ (fun u w' => ∃ b, u = Sl b 0 xs.length xs.length ∧ Sat w0 w' G ((b, Cs (vs.flatMap fun v => v.cells.toList) e) :: H)) := fun a n ds w ht hs => by
  obtain ⟨i, hu, hi, hzero, hs', _⟩ := mkB_spec hm
  have hev := ht.evall hxs
  have hlen : vs.length = xs.length := by rw [← hev]; simp
  have hf := Great.fill_whole hsz vs ((Array.range (xs.length * sz)).map (z.cells[· % z.cells.size]!)) h1 (by simp [hlen])
  refine ⟨Sl w.heap.size 0 xs.length xs.length, w.alloc (Cs (vs.flatMap fun v => v.cells.toList) e), ?_, w.heap.size, rfl, hs.alloc _⟩
  have hp : 0 < xs.length * sz := Nat.mul_pos h0 hsz
  have e1 : (enumP 0 xs).toArray.map (fun (i, x) => (i, a.eval x)) = ((vs.zipIdx 0).map fun x => (x.2, x.1)).toArray := by
    rw [← enumP_zip, ← hev, ← enumP_map]; simp
  simp only [execOp]
  have hr := run_buildSlice (P := P) w t e xs.length ((vs.zipIdx 0).map fun x => (x.2, x.1)).toArray (vs.flatMap fun v => v.cells.toList).toArray i z hu hi hzero (by rw [hs']; omega) (by rw [hs']; omega) (by rw [hs']; exact hf)
  rw [e1]
  simp only [Sem.run_bind, hr, Result.andThen_ok, Sem.run_pure]
theorem s_litN (xs : List Operand) {t e : TypeId} {z : Value} {sz bs : Nat} {vs : List Value} (hm : mkB P t = some (e, z, sz, bs)) (hxs : evl env xs = some vs) (hg : gOn ops env ⟨some d, .buildSlice t xs.length (enumP 0 xs).toArray, ty, pos, aft, g⟩ = some true) (hd : Nat.blt d n = true)
    (hz : z.cells.size = sz) (h1 : ∀ v ∈ vs, v.cells.size = sz) (hsz : 0 < sz) (h0 : 0 < xs.length) (hb : xs.length * sz ≤ 10000)
    (hK : ∀ b, Holds n ds w0 ((d, Sl b 0 xs.length xs.length) :: env) G ((b, Cs (vs.flatMap fun v => v.cells.toList) e) :: H) K) :
    Holds n ds w0 env G H (stepK P ops Q ⟨some d, .buildSlice t xs.length (enumP 0 xs).toArray, ty, pos, aft, g⟩ K) :=
  s_eff hg rfl hd (e_litN xs hxs hm hz h1 hsz h0 hb) (fun v' w' ⟨b, hu, hs⟩ => by subst hu; exact (hK b).atw hs)

/-- Appending to a slice that has no room: new memory. -/
theorem e_appendF {s x : Operand} {t e : TypeId} {z : Value} {sz bs : Nat} {vx : Value} {ad : Option Addr} {k m : Nat} {L news : List Value}
    (hs : ev env s = some (.slice ad k k)) (hx : ev env x = some vx) (hsl : SV G H (.slice ad k k) k L) (hL : L.length = k * sz) (hsv : SV G H vx m news) (hm : mkB P t = some (e, z, sz, bs)) (hz : z.cells.size = sz) (hsz : 0 < sz)
    (hl : news.length = m * sz) (h1 : ∀ u ∈ news, u.oneCell' = true) (h63 : k + m ≤ 140737488355328) (hb : (k + m) * bs ≤ 140737488355328) (hm0 : 0 < m) :
    Eff P w0 env G H ⟨dst, .call { callee := .builtin .append, args := #[s, x], argTypes := #[t, t] }, ty, pos, aft, g⟩
      (fun v' w' => ∃ B', Own v' (k + m) (L ++ news) e sz B' ∧ Sat w0 w' G (B' ++ H)) := fun a n ds w ht hsat => by
  obtain ⟨i, hu, hi, hzero, hsz', hbs'⟩ := mkB_spec hm
  have hop : ∀ v' w', (Builtin.append_ #[t, t] ty #[.slice ad k k, vx]).run P w = .ok v' w' → (execOp a.eval ⟨dst, .call { callee := .builtin .append, args := #[s, x], argTypes := #[t, t] }, ty, pos, aft, g⟩).run P w = .ok (.value v') w' := fun v' w' hr => by
    simp [execOp, resolve, invoke, builtin, ht.eval hs, ht.eval hx, hr]
  have hmax : k + m ≤ maxLen := by unfold maxLen; omega
  obtain ⟨adx, c, rfl, hmc, hcm, hcells⟩ := hsv
  have hms : m * sz ≠ 0 := by intro h; rcases Nat.mul_eq_zero.1 h with h | h <;> omega
  rcases hcells with ⟨rfl, _⟩ | ⟨bx, ox, rfl, hcel⟩
  · exact absurd (by simpa using hl.symm) hms
  have hnews : ∀ j u, news[j]? = some u → w.cell? ((⟨bx, ox, none⟩ : Addr).add j) = some u := fun j u hj => by rw [addr_add]; exact (hcel j u hj).cell hsat
  have hlL : L.length = k * i.size := by rw [hL, hsz']
  have hlN : news.length = m * i.size := by rw [hl, hsz']
  have fresh : ∀ (b c' : Nat) (A : Array Value), k + m ≤ c' → c' ≤ maxLen → A.size = (c' - (k + m)) * sz → Own (Sl b 0 (k + m) c') (k + m) (L ++ news) e sz [(b, Cs (L ++ news ++ A.toList) e)] := fun b c' A h1 h2 h3 =>
    ⟨by rw [List.length_append, hL, hl, Nat.add_mul], .inr ⟨b, c', A.toList, rfl, h2, h1, by rw [List.length_append, hL, hl, ← Nat.add_mul, Array.length_toList, h3, ← Nat.add_mul]; congr 1; omega, rfl⟩⟩
  have hzc : ∀ q, (Builtin.zeroCells z.cells q).size = q * sz := fun q => by rw [← hz]; exact size_zeroCells z.cells q
  cases ad with
  | none =>
    obtain ⟨_, _, he, _, _, h3⟩ := hsl
    cases he
    have hk0 : k = 0 := by
      rcases h3 with ⟨_, h⟩ | ⟨_, _, h, _⟩
      · exact h rfl
      · cases h
    subst hk0
    have hL0 : L = [] := List.eq_nil_of_length_eq_zero (by simpa using hL)
    subst hL0
    have hr := run_append_nil (P := P) w t ty e i z hu hi hzero ⟨bx, ox, none⟩ m c news hlN hnews hm0 (by omega) (by rw [hbs']; have := hb; rw [Nat.zero_add] at this; omega)
    have hge := grownCap_ge w m 0 e
    have hcm := grownCap_le_maxLen w m 0 e (by unfold maxLen; omega)
    have h2 := (hsat.drew).alloc (.cells (news.toArray ++ Builtin.zeroCells z.cells (grownCap w m 0 e - m)) e)
    rw [cs_app] at hr h2
    have h4 := fresh w.heap.size (grownCap w m 0 e) (Builtin.zeroCells z.cells (grownCap w m 0 e - m)) (by omega) hcm (by rw [hzc, Nat.zero_add])
    rw [Nat.zero_add] at h4 ⊢
    exact ⟨_, _, hop _ _ hr, _, h4, h2⟩
  | some b =>
    have holds : ∀ j u, L[j]? = some u → w.cell? (b.add j) = some u := fun j u hj => by
      obtain ⟨_, _, he, _, _, h3⟩ := hsl
      cases he
      rcases h3 with ⟨rfl, _⟩ | ⟨b', o', h, hc⟩
      · simp at hj
      · cases h; rw [addr_add]; exact (hc j u hj).cell hsat
    have hr := run_append_grow (P := P) w t ty e i z hu hi hzero b k k L hlL holds ⟨bx, ox, none⟩ m c news hlN hnews (by omega) (by omega) (by rw [hbs']; exact growslice_fits (by omega) hb)
    have hge := grownCap_ge w (k + m) k e
    have hcm := grownCap_le_maxLen w (k + m) k e hmax
    have h2 := (hsat.drew).alloc (.cells (L.toArray ++ news.toArray ++ Builtin.zeroCells z.cells (grownCap w (k + m) k e - (k + m))) e)
    have h3 : L.toArray ++ news.toArray = (L ++ news).toArray := by simp
    rw [h3] at hr h2
    rw [cs_app] at hr h2
    exact ⟨_, _, hop _ _ hr, _, fresh w.heap.size _ _ hge hcm (hzc _), h2⟩
theorem s_appendF {s x : Operand} {t e : TypeId} {z : Value} {sz bs : Nat} {vx : Value} {ad : Option Addr} {k m : Nat} {L news : List Value}
    (hm : mkB P t = some (e, z, sz, bs)) (hs : ev env s = some (.slice ad k k)) (hx : ev env x = some vx) (hg : gOn ops env ⟨some d, .call { callee := .builtin .append, args := #[s, x], argTypes := #[t, t] }, ty, pos, aft, g⟩ = some true) (hd : Nat.blt d n = true)
    (hsl : SV G H (.slice ad k k) k L) (hL : L.length = k * sz) (hsv : SV G H vx m news) (hz : z.cells.size = sz) (hsz : 0 < sz)
    (hl : news.length = m * sz) (h1 : ∀ u ∈ news, u.oneCell' = true) (h63 : k + m ≤ 140737488355328) (hb : (k + m) * bs ≤ 140737488355328) (hm0 : 0 < m)
    (hK : ∀ v' B', Own v' (k + m) (L ++ news) e sz B' → Holds n ds w0 ((d, v') :: env) G (B' ++ H) K) :
    Holds n ds w0 env G H (stepK P ops Q ⟨some d, .call { callee := .builtin .append, args := #[s, x], argTypes := #[t, t] }, ty, pos, aft, g⟩ K) :=
  s_eff hg rfl hd (e_appendF hs hx hsl hL hsv hm hz hsz hl h1 h63 hb hm0) (fun v' w' ⟨B', ho, hs⟩ => (hK v' B' ho).atw hs)
/-- Nothing is appended: the slice itself. -/
theorem v_append0 {s x : Operand} {t : TypeId} {ad adx : Option Addr} {k c cx : Nat} (hs : ev env s = some (.slice ad k c)) (hx : ev env x = some (.slice adx 0 cx)) (hu : (elB P t).isSome = true) (hk : k ≤ c) (hk2 : c ≤ maxLen) :
    Val P env G H ⟨dst, .call { callee := .builtin .append, args := #[s, x], argTypes := #[t, t] }, ty, pos, aft, g⟩ (.slice ad k c) := fun a n ds w0 w ht hsat => by
  obtain ⟨sz, hu⟩ := Option.isSome_iff_exists.1 hu
  obtain ⟨e, hu, hz⟩ := elB_spec hu
  have hfc : (Builtin.firstCells sz 0 (.slice adx 0 cx)).run P w = .ok #[] w := by cases adx <;> simp [Builtin.firstCells, loadCells, loadCellsFrom]
  unfold maxLen at hk2
  cases ad <;> simp [execOp, resolve, invoke, builtin, ht.eval hs, ht.eval hx, Builtin.append_, run_underlying hu, run_sizeOf' hz, Builtin.lenOf, hfc, hk, storeCells]

theorem Cel.all {b : Nat} {L : List Value} {t : TypeId} {j : Nat} {u : Value} (hj : L[j]? = some u) : Cel G ((b, Cs L t) :: H) b (0 + j) u := by rw [Nat.zero_add]; exact Cel.head hj
theorem run_loadAgg {ty : TypeId} {b o sz : Nat} {vs : List Value} (ha : aggB P ty = some true) (hz : szB P ty = some sz) (hl : vs.length = sz) (hc : ∀ (j : Nat) u, vs[j]? = some u → Cel G H b (o + j) u) (hs : Sat w0 w G H) :
    (loadVar ty ⟨b, o, none⟩).run P w = .ok (.agg vs.toArray) w := by
  have hcs : (loadCells ⟨b, o, none⟩ vs.length).run P w = .ok vs.toArray w := run_loadCells_list (P := P) w ⟨b, o, none⟩ vs (fun j v hj => by
    rw [addr_add]; exact (hc j v hj).cell hs)
  simp [loadVar, run_isAgg' ha, run_sizeOf' hz, ← hl, hcs]
/-- Results that lie in cells: a struct, and what else there is. -/
theorem f_retA {fn : Func} {R : Ending → World → Prop} {t : Tmp} {ty : TypeId} {b sz : Nat} {vs : List Value} (hr : fn.results = #[.cell t ty]) (hp : env.lookup t = some (Pt b 0)) (ha : aggB P ty = some true) (hz : szB P ty = some sz) (hl : vs.length = sz)
    (hc : ∀ (j : Nat) u, vs[j]? = some u → Cel G H b (0 + j) u) (hR : ∀ w, Sat w0 w G H → R (.returned (.agg vs.toArray)) w) : Holds n [] w0 env G H (bodyPost P fn R .ret) := fun a w ht hs => by
  have hg := ht.get t _ hp
  exact ⟨ht.defers, .agg vs.toArray, by simp [results, hr, hg, asAddr, run_loadAgg ha hz hl hc hs], hR w hs⟩
theorem f_retA1 {fn : Func} {R : Ending → World → Prop} {t t2 : Tmp} {ty : TypeId} {b sz : Nat} {vs : List Value} {v2 : Value} (hr : fn.results = #[.cell t ty, .tmp t2]) (hp : env.lookup t = some (Pt b 0)) (h2 : env.lookup t2 = some v2) (ha : aggB P ty = some true) (hz : szB P ty = some sz) (hl : vs.length = sz)
    (hc : ∀ (j : Nat) u, vs[j]? = some u → Cel G H b (0 + j) u) (hR : ∀ w, Sat w0 w G H → R (.returned (.tuple #[.agg vs.toArray, v2])) w) : Holds n [] w0 env G H (bodyPost P fn R .ret) := fun a w ht hs => by
  have hg := ht.get t _ hp
  have hg2 := ht.get t2 _ h2
  exact ⟨ht.defers, .tuple #[.agg vs.toArray, v2], by simp [results, hr, hg, hg2, asAddr, run_loadAgg ha hz hl hc hs], hR w hs⟩

/-! ### Structs in memory -/
theorem s_boxA (vs : List Value) {t : TypeId} {x : Operand} (hg : gOn ops env ⟨some d, .box t x, ty, pos, aft, g⟩ = some true) (hd : Nat.blt d n = true) (hx : ev env x = some (.agg vs.toArray))
    (k : ∀ b, Holds n ds w0 ((d, Pt b 0) :: env) G ((b, Cs vs t) :: H) K) :
    Holds n ds w0 env G H (stepK P ops Q ⟨some d, .box t x, ty, pos, aft, g⟩ K) := s_box hg hd hx k
theorem s_allocA (vs : List Value) {t : TypeId} (hz : zeroB P t = some (.agg vs.toArray)) (hg : gOn ops env ⟨some d, .alloc t, ty, pos, aft, g⟩ = some true) (hd : Nat.blt d n = true)
    (k : ∀ b, Holds n ds w0 ((d, Pt b 0) :: env) G ((b, Cs vs t) :: H) K) :
    Holds n ds w0 env G H (stepK P ops Q ⟨some d, .alloc t, ty, pos, aft, g⟩ K) := s_alloc _ hz hg hd k
theorem s_storeA {t t' : TypeId} {x y : Operand} {b : Nat} {vs L : List Value} {H1 : Hp} (hg : gOn ops env ⟨none, .store t x y, ty, pos, aft, g⟩ = some true)
    (hx : ev env x = some (Pt b 0)) (hy : ev env y = some (.agg vs.toArray)) (hp : Pick b (Cs L t') H H1) (hz : szB P t = some vs.length) (h1 : ∀ u ∈ vs, u.oneCell' = true) (hl : vs.length = L.length)
    (k : Holds n ds w0 env G ((b, Cs vs t') :: H1) K) :
    Holds n ds w0 env G H (stepK P ops Q ⟨none, .store t x y, ty, pos, aft, g⟩ K) := by
  refine s_store hg hx hy hp (by simpa [Value.cells] using hz) (by simpa [Value.cells] using h1) (by simp [Value.cells]; omega) ?_
  have : L.take 0 ++ (Value.agg vs.toArray).cells.toList ++ L.drop (0 + (Value.agg vs.toArray).cells.size) = vs := by simp [Value.cells, hl]
  rw [this]; exact k
end
end Go.Proofs.Ytkjneelekfdpfaa
