/- The law's walks of package note: what is compared, and what is copied. The laws of package note: awake, and what is known. From a contract to what a law says. -/
import Derived.Test.YtobhlbhklblncaaK7
import Derived.Test.YtobhlbhklblncaaK8
import Derived.Test.YtobhlbhklblncaaK5
import Derived.Test.YtobhlbhklblncaaK4
namespace Go.Proofs.Ytobhlbhklblncaa
section
open Go
set_option linter.unusedVariables false
set_option linter.unusedSimpArgs false
set_option maxHeartbeats 1600000
set_option maxRecDepth 4000
theorem take_eq_next {l k : List Dl} (i : Nat) (hl : i < l.length) (hk : i < k.length) (h : l.take i = k.take i) (hx : l[i] = k[i]) : l.take (i + 1) = k.take (i + 1) := by
  rw [List.take_add_one, List.take_add_one, h, List.getElem?_eq_getElem hl, List.getElem?_eq_getElem hk, hx]

def boB (P : Program) (t : TypeId) : Bool := match P.underlying t with
  | some .bool => true
  | _ => false
theorem boB_spec {P : Program} {t : TypeId} (h : boB P t = true) : P.underlying t = some .bool := by
  unfold boB at h; split at h
  · assumption
  · cases h
/-- A struct of a stripe's name and a number. -/
def stZB (P : Program) (t : TypeId) : Bool := match P.underlying t with
  | some (.struct fs) => match fs.toList with
    | [f, g] => (st3B P f.type && (szB P f.type == some 3) && (aggB P f.type == some true)) && i64B P g.type && (f.offset == 0 && g.offset == 3) && (f.name != "_" && g.name != "_") && (!P.stoodInHeld t && !P.eqGuardType P.depth t)
    | _ => false
  | _ => false
/-- A struct of a text, a number, a yes or no. -/
def stEB (P : Program) (t : TypeId) : Bool := match P.underlying t with
  | some (.struct fs) => match fs.toList with
    | [f, g, h] => (strB P f.type && (aggB P f.type == some false)) && i64B P g.type && (boB P h.type && (aggB P h.type == some false)) && (f.offset == 0 && g.offset == 1 && h.offset == 2) && (f.name != "_" && g.name != "_" && h.name != "_") && (!P.stoodInHeld t && !P.eqGuardType P.depth t)
    | _ => false
  | _ => false
section
variable {w0 w : World} {G G' : Im} {H H1 : Hp} {n : Nat} {ds : List Deferred} {env : Env} {P : Program} {R : Act → World → Prop} {ops : Array Oper} {Q : Exit → Act → World → Prop} {K : Act → World → Prop}
variable {dst : Option Tmp} {d : Nat} {ty : TypeId} {pos : String} {aft : Array Edge} {g : Option (Nat × Bool)}
theorem run_part_one {t : TypeId} {xs : Array Value} {off : Nat} {v : Value} (h : aggB P t = some false) (hx : xs[off]? = some v) : (part t xs off).run P w = .ok v w := by
  simp [part, run_isAgg' h, hx]
theorem run_eqZ {t : TypeId} (x : Sz) (h : stZB P t = true) (dp : Nat) : (Op.equalIn (dp + 3) t (.agg x.cells.toArray) (.agg x.cells.toArray)).run P w = .ok true w ∧ P.eqGuardType P.depth t = false := by
  unfold stZB at h
  split at h
  · rename_i fs hu
    split at h
    · rename_i f1 f2 hfs
      simp only [Bool.and_eq_true, beq_iff_eq, bne_iff_ne, Bool.not_eq_true'] at h
      obtain ⟨⟨⟨⟨⟨⟨h1, z1⟩, a1⟩, h2⟩, ⟨o1, o2⟩⟩, ⟨n1, n2⟩⟩, hst, heg⟩ := h
      refine ⟨?_, heg⟩
      have hf : P.fieldsOf t = fs := by unfold Program.fieldsOf; rw [hu]
      have hu' : P.underlying t = some (.struct (P.fieldsOf t)) := by rw [hf]; exact hu
      rw [run_equalIn_struct w (dp + 2) t _ _ hu' hst, hf, hfs]
      have p1 : ∀ (v1 v2 v3 v4 : Value), (part f1.type #[v1, v2, v3, v4] f1.offset).run P w = .ok (.agg #[v1, v2, v3]) w := fun v1 v2 v3 v4 => by rw [o1, run_part_agg a1 z1]; rfl
      have p2 : ∀ (v1 v2 v3 v4 : Value), (part f2.type #[v1, v2, v3, v4] f2.offset).run P w = .ok v4 w := fun v1 v2 v3 v4 => run_part_i64 h2 (by rw [o2]; rfl)
      have e1 := (run_eq3 (w := w) (a := x.c) (b := x.l) (c := x.n) (a' := x.c) (b' := x.l) (c' := x.n) h1 dp).1
      have e2 : (Op.equalIn (dp + 2) f2.type (I64 x.z) (I64 x.z)).run P w = .ok (decide (x.z = x.z)) w := run_equalIn_int (P := P) w (dp + 1) f2.type .i64 .i64 x.z x.z (i64B_spec h2)
      simp only [decide_true, Bool.and_self] at e1 e2
      simp [Op.eqFields, n1, n2, p1, p2, e1, e2]
    · cases h
  · cases h
theorem v_neZ (x : Sz) {p q : Operand} {t t' : TypeId} (hx : ev env p = some (.agg x.cells.toArray)) (hy : ev env q = some (.agg x.cells.toArray)) (h : stZB P t = true) :
    Val P env G H ⟨dst, .binOp .neq t p q t', ty, pos, aft, g⟩ (.bool false) := fun ac n ds w0 w ht hs => by
  obtain ⟨h1, h2⟩ := run_eqZ (w := w) x h 9997
  have h3 := run_eqGuard_agg (P := P) w .neq t p q x.cells.toArray x.cells.toArray h2
  simp only [execOp, ht.eval hx, ht.eval hy, Sem.run_bind, h3, Result.andThen_ok, run_neq_struct, h1, Sem.run_pure]; rfl
theorem run_eqE {t : TypeId} (x : Ey) (h : stEB P t = true) (dp : Nat) : (Op.equalIn (dp + 2) t (.agg x.cells.toArray) (.agg x.cells.toArray)).run P w = .ok true w ∧ P.eqGuardType P.depth t = false := by
  unfold stEB at h
  split at h
  · rename_i fs hu
    split at h
    · rename_i f1 f2 f3 hfs
      simp only [Bool.and_eq_true, beq_iff_eq, bne_iff_ne, Bool.not_eq_true'] at h
      obtain ⟨⟨⟨⟨⟨⟨h1, a1⟩, h2⟩, ⟨h3, a3⟩⟩, ⟨⟨o1, o2⟩, o3⟩⟩, ⟨⟨n1, n2⟩, n3⟩⟩, hst, heg⟩ := h
      refine ⟨?_, heg⟩
      have hf : P.fieldsOf t = fs := by unfold Program.fieldsOf; rw [hu]
      have hu' : P.underlying t = some (.struct (P.fieldsOf t)) := by rw [hf]; exact hu
      rw [run_equalIn_struct w (dp + 1) t _ _ hu' hst, hf, hfs]
      have p1 : ∀ (v1 v2 v3 : Value), (part f1.type #[v1, v2, v3] f1.offset).run P w = .ok v1 w := fun v1 v2 v3 => run_part_one a1 (by rw [o1]; rfl)
      have p2 : ∀ (v1 v2 v3 : Value), (part f2.type #[v1, v2, v3] f2.offset).run P w = .ok v2 w := fun v1 v2 v3 => run_part_i64 h2 (by rw [o2]; rfl)
      have p3 : ∀ (v1 v2 v3 : Value), (part f3.type #[v1, v2, v3] f3.offset).run P w = .ok v3 w := fun v1 v2 v3 => run_part_one a3 (by rw [o3]; rfl)
      have e1 : (Op.equalIn (dp + 1) f1.type (St x.s) (St x.s)).run P w = .ok true w := by
        rw [run_equalIn_string (P := P) w dp f1.type _ _ (strB_spec h1)]; simp
      have e2 : (Op.equalIn (dp + 1) f2.type (I64 x.i) (I64 x.i)).run P w = .ok true w := by
        rw [run_equalIn_int (P := P) w dp f2.type .i64 .i64 x.i x.i (i64B_spec h2)]; simp
      have e3 : (Op.equalIn (dp + 1) f3.type (.bool x.d) (.bool x.d)).run P w = .ok true w := by
        rw [run_equalIn_bool (P := P) w dp f3.type _ _ (boB_spec h3)]; simp
      simp [Op.eqFields, n1, n2, n3, p1, p2, p3, e1, e2, e3]
    · cases h
  · cases h
theorem v_neE (x : Ey) {p q : Operand} {t t' : TypeId} (hx : ev env p = some (.agg x.cells.toArray)) (hy : ev env q = some (.agg x.cells.toArray)) (h : stEB P t = true) :
    Val P env G H ⟨dst, .binOp .neq t p q t', ty, pos, aft, g⟩ (.bool false) := fun ac n ds w0 w ht hs => by
  obtain ⟨h1, h2⟩ := run_eqE (w := w) x h 9998
  have h3 := run_eqGuard_agg (P := P) w .neq t p q x.cells.toArray x.cells.toArray h2
  simp only [execOp, ht.eval hx, ht.eval hy, Sem.run_bind, h3, Result.andThen_ok, run_neq_struct, h1, Sem.run_pure]; rfl
end
theorem st_at (q : Nq) (vs vd : Value) (j : Nat) (u : Value) (hj : [I64 q.c, I64 q.l, I64 q.s][j]? = some u) : (q.cells vs vd)[0 + 0 + j]? = some u := by
  match j, hj with
  | 0, k => exact k
  | 1, k => exact k
  | 2, k => exact k
  | n + 3, k => simp at k
attribute [local irreducible] Code.wp wpList stepK Holds Val wpR Eff Eff0 Code.wpIn wpListIn stepI Exit.then Exit.inBlock bodyPost bodyPostM

theorem rdsame_c (vl vk : Value) (l k : List Dl) (w0 w : World) (G : Im) (F : Hp) (hl : RecV 14 DlR G vl l) (hk : RecV 14 DlR G vk k) (hs : Sat w0 w G F) :
    Calls Try.prog 57 #[vl, vk] w fun e w' => e = .returned (.bool (decide (l = k))) ∧ Sat w0 w' G F := by
  obtain ⟨adl, cpl, rfl, hl1, hl2⟩ := hl.form
  obtain ⟨adk, cpk, rfl, hk1, hk2⟩ := hk.form
  unfold maxLen at hl2 hk2
  refine f_enter (vs := [_, _]) Try.func57 rfl Try.ntmps57 (by simp) hs ?_
  refine ww ?_
  refine c_cond_d rfl (fun c1 => ?_) (fun c1 => ?_)
  · -- then
    refine ww ?_
    exact f_ret1 rfl rfl (fun w hs => ⟨by rw [decide_eq_false (show ¬ l = k from fun h => c1 (by rw [h]))], hs⟩)
  have hlk : l.length = k.length := by omega
  refine ww ?_
  refine c_loop (α := Nat) (fun i => [(0, .slice adl l.length cpl), (1, .slice adk k.length cpk), (5, I64 i)]) (fun _ => G) (fun x => F) (fun i => i ≤ l.length ∧ l.take i = k.take i) (fun x => l.length - x) 0 ⟨Nat.zero_le _, rfl⟩ ?_ ?_
  · exact n_at ⟨rfl, rfl, rfl, trivial⟩ sbx
  rintro i ⟨hi, heq⟩
  refine ww ?_
  refine c_cond_d rfl (fun c2 => ?_) (fun c2 => ?_)
  · -- then
    have hil : i < l.length := by omega
    have hik : i < k.length := by omega
    obtain ⟨blx, olx, clx, cellsx, hvex, hcex, _, hcelx⟩ := hl.at (by decide) i (by omega)
    cases hvex
    obtain ⟨x, hxx⟩ : ∃ x, x = l[i] := ⟨_, rfl⟩
    rw [← hxx] at hcex
    unfold DlR at hcex
    subst hcex
    have hcx : ∀ (H : Hp) (f : Nat) u, x.cells[f]? = some u → Cel G H blx (olx + (i : Int).toNat * 14 + f) u := fun H f u h => by rw [Int.toNat_natCast]; exact hcelx H f u h
    obtain ⟨bly, oly, cly, cellsy, hvey, hcey, _, hcely⟩ := hk.at (by decide) i (by omega)
    cases hvey
    obtain ⟨y, hxy⟩ : ∃ x, x = k[i] := ⟨_, rfl⟩
    rw [← hxy] at hcey
    unfold DlR at hcey
    subst hcey
    have hcy : ∀ (H : Hp) (f : Nat) u, y.cells[f]? = some u → Cel G H bly (oly + (i : Int).toNat * 14 + f) u := fun H f u h => by rw [Int.toNat_natCast]; exact hcely H f u h
    refine ww ?_
    refine r_start [] (by kernel_rfl) ?_
    refine r_tk 0 rfl rfl (v_move rfl) (fun _ h => h) ?_
    refine r_tk 1 rfl rfl (v_move rfl) (fun _ h => h) ?_
    refine r_tk 2 rfl rfl (v_index 14 rfl rfl (by kernel_rfl) (by omega)) (fun _ h => h) ?_
    refine r_tk 3 rfl rfl (v_loadAgg (vs := x.cells) rfl (by kernel_rfl) (by kernel_rfl) rfl (fun j u hj => hcx _ j u hj)) (fun _ h => h) ?_
    refine r_tk 4 rfl rfl (v_move rfl) (fun _ h => h) ?_
    refine r_tk 5 rfl rfl (v_move rfl) (fun _ h => h) ?_
    refine r_tk 6 rfl rfl (v_index 14 rfl rfl (by kernel_rfl) (by omega)) (fun _ h => h) ?_
    refine r_tk 7 rfl rfl (v_loadAgg (vs := y.cells) rfl (by kernel_rfl) (by kernel_rfl) rfl (fun j u hj => hcy _ j u hj)) (fun _ h => h) ?_
    refine r_tk 8 rfl rfl (v_neD x y rfl rfl (by kernel_rfl)) (fun _ h => h) ?_
    refine r_done (by kernel_rfl) ?_
    refine ww ?_
    refine c_cond_nd rfl (fun c3 => ?_) (fun c3 => ?_)
    · -- then
      refine ww ?_
      exact f_ret1 rfl rfl (fun w hs => ⟨by rw [decide_eq_false (show ¬ l = k from fun h => c3 (by rw [hxx, hxy]; subst h; rfl))], hs⟩)
    refine ww ?_
    exact n_next (x := i) (i + 1) ⟨by omega, take_eq_next i hil hik heq (by rw [← hxx, ← hxy]; exact c3)⟩ (by omega) ⟨rfl, rfl, rfl, trivial⟩ rfl sbx
  have e : i = l.length := by omega
  refine ww ?_
  exact f_ret1 rfl rfl (fun w hs => ⟨by rw [decide_eq_true (show l = k from by rw [e, List.take_length, hlk, List.take_length] at heq; exact heq)], hs⟩)

theorem rsameq_c (q : Nq) (vs vd us ud : Value) (w0 w : World) (G : Im) (F : Hp) (h1 : RecV 4 SzR G vs q.ss) (h2 : RecV 14 DlR G vd q.ds) (h3 : RecV 4 SzR G us q.ss) (h4 : RecV 14 DlR G ud q.ds) (hs : Sat w0 w G F) :
    Calls Try.prog 14 #[.agg (q.cells vs vd).toArray, .agg (q.cells us ud).toArray] w fun e w' => e = .returned (.bool true) ∧ Sat w0 w' G F := by
  obtain ⟨ads, cps, rfl, hs1, hs2⟩ := h1.form
  obtain ⟨adt, cpt, rfl, ht1, ht2⟩ := h3.form
  unfold maxLen at hs2 ht2
  refine f_enter (vs := [_, _]) Try.func14 rfl Try.ntmps14 (by simp) hs ?_
  refine ww ?_
  refine c_cons (s_boxA [_, _, _, _, _, _, _, _, _, _, _, _, _, _] rfl rfl rfl fun b1 => ?_)
  refine c_freeze .head fun G1 hG1 k1 => ?_
  refine c_cons (s_boxA [_, _, _, _, _, _, _, _, _, _, _, _, _, _] rfl rfl rfl fun b2 => ?_)
  refine c_freeze .head fun G2 hG2 k2 => ?_
  replace k1 := hG2 _ _ k1
  replace h1 := h1.up SzR.up (hG1.trans hG2)
  replace h2 := h2.up DlR.up (hG1.trans hG2)
  replace h3 := h3.up SzR.up (hG1.trans hG2)
  replace h4 := h4.up DlR.up (hG1.trans hG2)
  refine ww ?_
  refine c_cons (s_val (v_field 0 rfl (by kernel_rfl)) rfl rfl rfl ?_)
  refine c_cons (s_val (v_loadAgg (vs := [I64 q.c, I64 q.l, I64 q.s]) rfl (by kernel_rfl) (by kernel_rfl) rfl (fun j u hj => Cel.imm k1 (st_at q _ _ j u hj))) rfl rfl rfl ?_)
  refine c_cons (s_val (v_field 0 rfl (by kernel_rfl)) rfl rfl rfl ?_)
  refine c_cons (s_val (v_loadAgg (vs := [I64 q.c, I64 q.l, I64 q.s]) rfl (by kernel_rfl) (by kernel_rfl) rfl (fun j u hj => Cel.imm k2 (st_at q _ _ j u hj))) rfl rfl rfl ?_)
  refine c_cons (s_val (v_is (v_ne3 rfl rfl (by kernel_rfl)) (by simp : _ = Value.bool false)) rfl rfl rfl ?_)
  refine ww ?_
  refine c_cons (s_val (v_field 3 rfl (by kernel_rfl)) rfl rfl rfl ?_)
  refine c_cons (s_val (v_load rfl (Cel.imm k1 rfl) (by kernel_rfl)) rfl rfl rfl ?_)
  refine c_cons (s_val (v_field 3 rfl (by kernel_rfl)) rfl rfl rfl ?_)
  refine c_cons (s_val (v_load rfl (Cel.imm k2 rfl) (by kernel_rfl)) rfl rfl rfl ?_)
  refine c_cons (s_val (v_neq_same rfl rfl) rfl rfl rfl ?_)
  refine ww ?_
  refine c_cons (s_val (v_field 4 rfl (by kernel_rfl)) rfl rfl rfl ?_)
  refine c_cons (s_val (v_load rfl (Cel.imm k1 rfl) (by kernel_rfl)) rfl rfl rfl ?_)
  refine c_cons (s_val (v_field 4 rfl (by kernel_rfl)) rfl rfl rfl ?_)
  refine c_cons (s_val (v_load rfl (Cel.imm k2 rfl) (by kernel_rfl)) rfl rfl rfl ?_)
  refine c_cons (s_val (v_f (v_strneq rfl rfl) (fun h => h rfl)) rfl rfl rfl ?_)
  refine ww ?_
  refine c_cons (s_val (v_field 5 rfl (by kernel_rfl)) rfl rfl rfl ?_)
  refine c_cons (s_val (v_load rfl (Cel.imm k1 rfl) (by kernel_rfl)) rfl rfl rfl ?_)
  refine c_cons (s_val (v_field 5 rfl (by kernel_rfl)) rfl rfl rfl ?_)
  refine c_cons (s_val (v_load rfl (Cel.imm k2 rfl) (by kernel_rfl)) rfl rfl rfl ?_)
  refine c_cons (s_val (v_f (v_strneq rfl rfl) (fun h => h rfl)) rfl rfl rfl ?_)
  refine ww ?_
  refine c_cons (s_val (v_field 6 rfl (by kernel_rfl)) rfl rfl rfl ?_)
  refine c_cons (s_val (v_load rfl (Cel.imm k1 rfl) (by kernel_rfl)) rfl rfl rfl ?_)
  refine c_cons (s_val (v_field 6 rfl (by kernel_rfl)) rfl rfl rfl ?_)
  refine c_cons (s_val (v_load rfl (Cel.imm k2 rfl) (by kernel_rfl)) rfl rfl rfl ?_)
  refine c_cons (s_val (v_is (v_neb rfl rfl (by kernel_rfl)) (by simp : _ = Value.bool false)) rfl rfl rfl ?_)
  refine ww ?_
  refine c_cons (s_val (v_field 7 rfl (by kernel_rfl)) rfl rfl rfl ?_)
  refine c_cons (s_val (v_load rfl (Cel.imm k1 rfl) (by kernel_rfl)) rfl rfl rfl ?_)
  refine c_cons (s_val (v_field 7 rfl (by kernel_rfl)) rfl rfl rfl ?_)
  refine c_cons (s_val (v_load rfl (Cel.imm k2 rfl) (by kernel_rfl)) rfl rfl rfl ?_)
  refine c_cons (s_val (v_is (v_neb rfl rfl (by kernel_rfl)) (by simp : _ = Value.bool false)) rfl rfl rfl ?_)
  refine ww ?_
  refine c_cons (s_val (v_field 8 rfl (by kernel_rfl)) rfl rfl rfl ?_)
  refine c_cons (s_val (v_load rfl (Cel.imm k1 rfl) (by kernel_rfl)) rfl rfl rfl ?_)
  refine c_cons (s_val (v_field 8 rfl (by kernel_rfl)) rfl rfl rfl ?_)
  refine c_cons (s_val (v_load rfl (Cel.imm k2 rfl) (by kernel_rfl)) rfl rfl rfl ?_)
  refine c_cons (s_val (v_is (v_neb rfl rfl (by kernel_rfl)) (by simp : _ = Value.bool false)) rfl rfl rfl ?_)
  refine ww ?_
  refine c_cons (s_val (v_field 9 rfl (by kernel_rfl)) rfl rfl rfl ?_)
  refine c_cons (s_val (v_load rfl (Cel.imm k1 rfl) (by kernel_rfl)) rfl rfl rfl ?_)
  refine c_cons (s_val (v_field 9 rfl (by kernel_rfl)) rfl rfl rfl ?_)
  refine c_cons (s_val (v_load rfl (Cel.imm k2 rfl) (by kernel_rfl)) rfl rfl rfl ?_)
  refine c_cons (s_val (v_neq_same rfl rfl) rfl rfl rfl ?_)
  refine ww ?_
  refine c_cons (s_val (v_field 10 rfl (by kernel_rfl)) rfl rfl rfl ?_)
  refine c_cons (s_val (v_load rfl (Cel.imm k1 rfl) (by kernel_rfl)) rfl rfl rfl ?_)
  refine c_cons (s_val (v_field 10 rfl (by kernel_rfl)) rfl rfl rfl ?_)
  refine c_cons (s_val (v_load rfl (Cel.imm k2 rfl) (by kernel_rfl)) rfl rfl rfl ?_)
  refine c_cons (s_val (v_neq_same rfl rfl) rfl rfl rfl ?_)
  refine ww ?_
  refine c_cons (s_val (v_field 11 rfl (by kernel_rfl)) rfl rfl rfl ?_)
  refine c_cons (s_val (v_load rfl (Cel.imm k1 rfl) (by kernel_rfl)) rfl rfl rfl ?_)
  refine c_cons (s_val (v_field 11 rfl (by kernel_rfl)) rfl rfl rfl ?_)
  refine c_cons (s_val (v_load rfl (Cel.imm k2 rfl) (by kernel_rfl)) rfl rfl rfl ?_)
  refine c_cons (s_val (v_neq_same rfl rfl) rfl rfl rfl ?_)
  refine ww ?_
  refine c_cons (s_val (v_field 12 rfl (by kernel_rfl)) rfl rfl rfl ?_)
  refine c_cons (s_val (v_load rfl (Cel.imm k1 rfl) (by kernel_rfl)) rfl rfl rfl ?_)
  refine c_cons (s_val (v_len rfl (by kernel_rfl)) rfl rfl rfl ?_)
  refine c_cons (s_val (v_field 12 rfl (by kernel_rfl)) rfl rfl rfl ?_)
  refine c_cons (s_val (v_load rfl (Cel.imm k2 rfl) (by kernel_rfl)) rfl rfl rfl ?_)
  refine c_cons (s_val (v_len rfl (by kernel_rfl)) rfl rfl rfl ?_)
  refine c_cons (s_val (v_neq_same rfl rfl) rfl rfl rfl ?_)
  refine ww ?_
  refine c_cons (s_val (v_field 13 rfl (by kernel_rfl)) rfl rfl rfl ?_)
  refine c_cons (s_val (v_load rfl (Cel.imm k1 rfl) (by kernel_rfl)) rfl rfl rfl ?_)
  refine c_cons (s_val (v_field 13 rfl (by kernel_rfl)) rfl rfl rfl ?_)
  refine c_cons (s_val (v_load rfl (Cel.imm k2 rfl) (by kernel_rfl)) rfl rfl rfl ?_)
  refine c_cons (s_call (xs := [_, _]) rfl rfl rfl rfl rfl rfl (by kernel_rfl) (fun w hs => rdsame_c _ _ q.ds q.ds _ w _ _ h2 h4 hs) ?_)
  rintro e w' ⟨rfl, hs'⟩; refine a_ret ?_ hs'; clear hs'
  rw [decide_eq_true (show q.ds = q.ds from rfl)]
  refine ww ?_
  refine c_cond_f rfl ?_
  refine ww ?_
  refine c_loop (α := Nat) (fun x => [(2, Pt b1 0), (3, Pt b2 0), (5, I64 x)]) (fun _ => G2) (fun x => F) (fun x => x ≤ q.ss.length) (fun x => q.ss.length - x) 0 (Nat.zero_le _) ?_ ?_
  · exact n_at ⟨rfl, rfl, rfl, trivial⟩ sbx
  rintro i hi
  refine ww ?_
  refine c_cons (s_val (v_field 12 rfl (by kernel_rfl)) rfl rfl rfl ?_)
  refine c_cons (s_val (v_load rfl (Cel.imm k1 rfl) (by kernel_rfl)) rfl rfl rfl ?_)
  refine ww ?_
  refine c_cond_d rfl (fun c1 => ?_) (fun c1 => ?_)
  · -- then
    have hil : i < q.ss.length := by omega
    obtain ⟨blx, olx, clx, cellsx, hvex, hcex, _, hcelx⟩ := h1.at (by decide) i (by omega)
    cases hvex
    obtain ⟨bly, oly, cly, cellsy, hvey, hcey, _, hcely⟩ := h3.at (by decide) i (by omega)
    cases hvey
    obtain ⟨x, hxx⟩ : ∃ x, x = q.ss[i] := ⟨_, rfl⟩
    rw [← hxx] at hcex hcey
    unfold SzR at hcex hcey
    subst hcex
    subst hcey
    have hcx : ∀ (H : Hp) (f : Nat) u, x.cells[f]? = some u → Cel G2 H blx (olx + (i : Int).toNat * 4 + f) u := fun H f u h => by rw [Int.toNat_natCast]; exact hcelx H f u h
    have hcy : ∀ (H : Hp) (f : Nat) u, x.cells[f]? = some u → Cel G2 H bly (oly + (i : Int).toNat * 4 + f) u := fun H f u h => by rw [Int.toNat_natCast]; exact hcely H f u h
    refine ww ?_
    refine r_startS [] [] (by kernel_rfl) (fun w h => h.none) ?_
    refine r_tk 0 rfl rfl (v_field 12 rfl (by kernel_rfl)) (fun _ h => h.none) ?_
    refine r_tk 1 rfl rfl (v_load rfl (Cel.imm k1 rfl) (by kernel_rfl)) (fun _ h => h.none) ?_
    refine r_tk 2 rfl rfl (v_move rfl) (fun _ h => h.none) ?_
    refine r_tk 3 rfl rfl (v_index 4 rfl rfl (by kernel_rfl) (by omega)) (fun _ h => h.none) ?_
    refine r_tk 4 rfl rfl (v_loadAgg (vs := x.cells) rfl (by kernel_rfl) (by kernel_rfl) rfl (fun j u hj => hcx _ j u hj)) (fun _ h => h.none) ?_
    refine r_tk 5 rfl rfl (v_field 12 rfl (by kernel_rfl)) (fun _ h => h.none) ?_
    refine r_tk 6 rfl rfl (v_load rfl (Cel.imm k2 rfl) (by kernel_rfl)) (fun _ h => h.none) ?_
    refine r_tk 7 rfl rfl (v_move rfl) (fun _ h => h.none) ?_
    refine r_tk 8 rfl rfl (v_index 4 rfl rfl (by kernel_rfl) (by omega)) (fun _ h => h.none) ?_
    refine r_tk 9 rfl rfl (v_loadAgg (vs := x.cells) rfl (by kernel_rfl) (by kernel_rfl) rfl (fun j u hj => hcy _ j u hj)) (fun _ h => h.none) ?_
    refine r_tk 10 rfl rfl (v_neZ x rfl rfl (by kernel_rfl)) (fun _ h => h.none) ?_
    refine r_done (by kernel_rfl) ?_
    refine ww ?_
    refine c_cond_f rfl ?_
    refine ww ?_
    exact n_next (x := i) (i + 1) (by omega) (by omega) ⟨rfl, rfl, rfl, trivial⟩ rfl sbx
  refine ww ?_
  exact f_ret1 rfl rfl (fun w hs => ⟨rfl, hs.weaken (hG1.trans hG2)⟩)

theorem rsamee_c (l : List Ey) (vl vk : Value) (w0 w : World) (G : Im) (F : Hp) (h1 : RecV 3 EyC G vl l) (h3 : RecV 3 EyC G vk l) (hs : Sat w0 w G F) :
    Calls Try.prog 62 #[vl, vk] w fun e w' => e = .returned (.bool true) ∧ Sat w0 w' G F := by
  obtain ⟨adl, cpl, rfl, hl1, hl2⟩ := h1.form
  obtain ⟨adk, cpk, rfl, hk1, hk2⟩ := h3.form
  unfold maxLen at hl2 hk2
  refine f_enter (vs := [_, _]) Try.func62 rfl Try.ntmps62 (by simp) hs ?_
  refine ww ?_
  refine c_cond_d rfl (fun c1 => absurd rfl c1) (fun c1 => ?_)
  refine ww ?_
  refine c_loop (α := Nat) (fun i => [(0, .slice adl l.length cpl), (1, .slice adk l.length cpk), (5, I64 i)]) (fun _ => G) (fun x => F) (fun i => i ≤ l.length) (fun x => l.length - x) 0 (Nat.zero_le _) ?_ ?_
  · exact n_at ⟨rfl, rfl, rfl, trivial⟩ sbx
  rintro i hi
  refine ww ?_
  refine c_cond_d rfl (fun c2 => ?_) (fun c2 => ?_)
  · -- then
    have hil : i < l.length := by omega
    obtain ⟨blx, olx, clx, cellsx, hvex, hcex, _, hcelx⟩ := h1.at (by decide) i (by omega)
    cases hvex
    obtain ⟨bly, oly, cly, cellsy, hvey, hcey, _, hcely⟩ := h3.at (by decide) i (by omega)
    cases hvey
    obtain ⟨x, hxx⟩ : ∃ x, x = l[i] := ⟨_, rfl⟩
    rw [← hxx] at hcex hcey
    unfold EyC at hcex hcey
    subst hcex
    subst hcey
    have hcx : ∀ (H : Hp) (f : Nat) u, x.cells[f]? = some u → Cel G H blx (olx + (i : Int).toNat * 3 + f) u := fun H f u h => by rw [Int.toNat_natCast]; exact hcelx H f u h
    have hcy : ∀ (H : Hp) (f : Nat) u, x.cells[f]? = some u → Cel G H bly (oly + (i : Int).toNat * 3 + f) u := fun H f u h => by rw [Int.toNat_natCast]; exact hcely H f u h
    refine ww ?_
    refine r_start [] (by kernel_rfl) ?_
    refine r_tk 0 rfl rfl (v_move rfl) (fun _ h => h) ?_
    refine r_tk 1 rfl rfl (v_move rfl) (fun _ h => h) ?_
    refine r_tk 2 rfl rfl (v_index 3 rfl rfl (by kernel_rfl) (by omega)) (fun _ h => h) ?_
    refine r_tk 3 rfl rfl (v_loadAgg (vs := x.cells) rfl (by kernel_rfl) (by kernel_rfl) rfl (fun j u hj => hcx _ j u hj)) (fun _ h => h) ?_
    refine r_tk 4 rfl rfl (v_move rfl) (fun _ h => h) ?_
    refine r_tk 5 rfl rfl (v_move rfl) (fun _ h => h) ?_
    refine r_tk 6 rfl rfl (v_index 3 rfl rfl (by kernel_rfl) (by omega)) (fun _ h => h) ?_
    refine r_tk 7 rfl rfl (v_loadAgg (vs := x.cells) rfl (by kernel_rfl) (by kernel_rfl) rfl (fun j u hj => hcy _ j u hj)) (fun _ h => h) ?_
    refine r_tk 8 rfl rfl (v_neE x rfl rfl (by kernel_rfl)) (fun _ h => h) ?_
    refine r_done (by kernel_rfl) ?_
    refine ww ?_
    refine c_cond_f rfl ?_
    refine ww ?_
    exact n_next (x := i) (i + 1) (by omega) (by omega) ⟨rfl, rfl, rfl, trivial⟩ rfl sbx
  refine ww ?_
  exact f_ret1 rfl rfl (fun w hs => ⟨rfl, hs⟩)

theorem rsamep_c (q : Np) (ve vm ue um : Value) (w0 w : World) (G : Im) (F : Hp) (h1 : RecV 3 EyC G ve q.es) (h2 : EB G vm q.m) (h3 : RecV 3 EyC G ue q.es) (h4 : EB G um q.m) (hs : Sat w0 w G F) :
    Calls Try.prog 21 #[.agg (q.cells ve vm).toArray, .agg (q.cells ue um).toArray] w fun e w' => e = .returned (.bool true) ∧ Sat w0 w' G F := by
  obtain ⟨ads, cps, rfl, hs1, hs2⟩ := h1.form
  obtain ⟨adt, cpt, rfl, ht1, ht2⟩ := h3.form
  obtain ⟨adm, cpm, hve⟩ := h2.form
  subst hve
  obtain ⟨adn, cpn, hve⟩ := h4.form
  subst hve
  refine f_enter (vs := [_, _]) Try.func21 rfl Try.ntmps21 (by simp) hs ?_
  refine ww ?_
  refine c_cons (s_boxA [_, _, _, _, _, _, _, _] rfl rfl rfl fun b1 => ?_)
  refine c_freeze .head fun G1 hG1 k1 => ?_
  refine c_cons (s_boxA [_, _, _, _, _, _, _, _] rfl rfl rfl fun b2 => ?_)
  refine c_freeze .head fun G2 hG2 k2 => ?_
  replace k1 := hG2 _ _ k1
  replace h1 := h1.up EyC.up (hG1.trans hG2)
  replace h2 := h2.up (H := []) (hG1.trans hG2)
  replace h3 := h3.up EyC.up (hG1.trans hG2)
  replace h4 := h4.up (H := []) (hG1.trans hG2)
  refine ww ?_
  refine c_cons (s_val (v_field 0 rfl (by kernel_rfl)) rfl rfl rfl ?_)
  refine c_cons (s_val (v_load rfl (Cel.imm k1 rfl) (by kernel_rfl)) rfl rfl rfl ?_)
  refine c_cons (s_val (v_field 0 rfl (by kernel_rfl)) rfl rfl rfl ?_)
  refine c_cons (s_val (v_load rfl (Cel.imm k2 rfl) (by kernel_rfl)) rfl rfl rfl ?_)
  refine c_cons (s_val (v_eql_same rfl rfl) rfl rfl rfl ?_)
  refine ww ?_
  refine c_cons (s_val (v_field 1 rfl (by kernel_rfl)) rfl rfl rfl ?_)
  refine c_cons (s_val (v_load rfl (Cel.imm k1 rfl) (by kernel_rfl)) rfl rfl rfl ?_)
  refine c_cons (s_val (v_field 1 rfl (by kernel_rfl)) rfl rfl rfl ?_)
  refine c_cons (s_val (v_load rfl (Cel.imm k2 rfl) (by kernel_rfl)) rfl rfl rfl ?_)
  refine c_cons (s_val (v_eql_same rfl rfl) rfl rfl rfl ?_)
  refine ww ?_
  refine c_cons (s_val (v_field 2 rfl (by kernel_rfl)) rfl rfl rfl ?_)
  refine c_cons (s_val (v_load rfl (Cel.imm k1 rfl) (by kernel_rfl)) rfl rfl rfl ?_)
  refine c_cons (s_val (v_field 2 rfl (by kernel_rfl)) rfl rfl rfl ?_)
  refine c_cons (s_val (v_load rfl (Cel.imm k2 rfl) (by kernel_rfl)) rfl rfl rfl ?_)
  refine c_cons (s_val (v_eql_same rfl rfl) rfl rfl rfl ?_)
  refine ww ?_
  refine c_cons (s_val (v_field 3 rfl (by kernel_rfl)) rfl rfl rfl ?_)
  refine c_cons (s_val (v_load rfl (Cel.imm k1 rfl) (by kernel_rfl)) rfl rfl rfl ?_)
  refine c_cons (s_val (v_field 3 rfl (by kernel_rfl)) rfl rfl rfl ?_)
  refine c_cons (s_val (v_load rfl (Cel.imm k2 rfl) (by kernel_rfl)) rfl rfl rfl ?_)
  refine c_cons (s_val (v_eql_same rfl rfl) rfl rfl rfl ?_)
  refine ww ?_
  refine c_cons (s_val (v_field 4 rfl (by kernel_rfl)) rfl rfl rfl ?_)
  refine c_cons (s_val (v_load rfl (Cel.imm k1 rfl) (by kernel_rfl)) rfl rfl rfl ?_)
  refine c_cons (s_val (v_field 4 rfl (by kernel_rfl)) rfl rfl rfl ?_)
  refine c_cons (s_val (v_load rfl (Cel.imm k2 rfl) (by kernel_rfl)) rfl rfl rfl ?_)
  refine c_cons (s_val (v_eql_same rfl rfl) rfl rfl rfl ?_)
  refine ww ?_
  refine c_cons (s_val (v_field 5 rfl (by kernel_rfl)) rfl rfl rfl ?_)
  refine c_cons (s_val (v_load rfl (Cel.imm k1 rfl) (by kernel_rfl)) rfl rfl rfl ?_)
  refine c_cons (s_val (v_field 5 rfl (by kernel_rfl)) rfl rfl rfl ?_)
  refine c_cons (s_val (v_load rfl (Cel.imm k2 rfl) (by kernel_rfl)) rfl rfl rfl ?_)
  refine c_cons (s_val (v_eqb_same rfl rfl (by kernel_rfl)) rfl rfl rfl ?_)
  refine ww ?_
  refine c_cons (s_val (v_field 6 rfl (by kernel_rfl)) rfl rfl rfl ?_)
  refine c_cons (s_val (v_load rfl (Cel.imm k1 rfl) (by kernel_rfl)) rfl rfl rfl ?_)
  refine c_cons (s_val (v_field 6 rfl (by kernel_rfl)) rfl rfl rfl ?_)
  refine c_cons (s_val (v_load rfl (Cel.imm k2 rfl) (by kernel_rfl)) rfl rfl rfl ?_)
  refine c_cons (s_call (xs := [_, _]) rfl rfl rfl rfl rfl rfl (by kernel_rfl) (fun w hs => rsamee_c q.es _ _ _ w _ _ h1 h3 hs) ?_)
  rintro e w' ⟨rfl, hs'⟩; refine a_ret ?_ hs'; clear hs'
  refine ww ?_
  refine c_cons (s_val (v_field 7 rfl (by kernel_rfl)) rfl rfl rfl ?_)
  refine c_cons (s_val (v_load rfl (Cel.imm k1 rfl) (by kernel_rfl)) rfl rfl rfl ?_)
  refine c_cons (s_val (v_field 7 rfl (by kernel_rfl)) rfl rfl rfl ?_)
  refine c_cons (s_val (v_load rfl (Cel.imm k2 rfl) (by kernel_rfl)) rfl rfl rfl ?_)
  refine c_cons (s_call (xs := [_, _]) rfl rfl rfl rfl rfl rfl (by kernel_rfl) (fun w hs => same_c _ _ q.m q.m _ w _ _ (h2.up (Im.le_refl _)) (h4.up (Im.le_refl _)) hs) ?_)
  rintro e w' ⟨rfl, hs'⟩; refine a_ret ?_ hs'; clear hs'
  rw [decide_eq_true (show q.m = q.m from rfl)]
  refine ww ?_
  exact f_ret1 rfl rfl (fun w hs => ⟨rfl, hs.weaken (hG1.trans hG2)⟩)

theorem nrep_c (q : Np) (ve vm : Value) (w0 w : World) (G : Im) (F : Hp) (h1 : RecV 3 EyC G ve q.es) (h2 : EB G vm q.m) (hs : Sat w0 w G F) :
    Calls Try.prog 18 #[.agg (q.cells ve vm).toArray] w fun e w' => e = .returned (.agg (q.cells ve vm).toArray) ∧ Sat w0 w' G F := by
  obtain ⟨ads, cps, rfl, hs1, hs2⟩ := h1.form
  obtain ⟨adm, cpm, hve⟩ := h2.form
  subst hve
  refine f_enter (vs := [_]) Try.func18 rfl Try.ntmps18 (by simp) hs ?_
  refine ww ?_
  refine c_cons (s_boxA [_, _, _, _, _, _, _, _] rfl rfl rfl fun b1 => ?_)
  refine c_freeze .head fun G1 hG1 k1 => ?_
  refine c_cons (s_allocA (zNp.cells (.slice none 0 0) (.slice none 0 0)) (by kernel_rfl) rfl rfl fun b2 => ?_)
  refine ww ?_
  refine c_cons (s_val (v_field 0 rfl (by kernel_rfl)) rfl rfl rfl ?_)
  refine c_cons (s_val (v_load rfl (Cel.imm k1 rfl) (by kernel_rfl)) rfl rfl rfl ?_)
  refine c_cons (s_val (v_field 1 rfl (by kernel_rfl)) rfl rfl rfl ?_)
  refine c_cons (s_val (v_load rfl (Cel.imm k1 rfl) (by kernel_rfl)) rfl rfl rfl ?_)
  refine c_cons (s_val (v_field 2 rfl (by kernel_rfl)) rfl rfl rfl ?_)
  refine c_cons (s_val (v_load rfl (Cel.imm k1 rfl) (by kernel_rfl)) rfl rfl rfl ?_)
  refine c_cons (s_val (v_field 3 rfl (by kernel_rfl)) rfl rfl rfl ?_)
  refine c_cons (s_val (v_load rfl (Cel.imm k1 rfl) (by kernel_rfl)) rfl rfl rfl ?_)
  refine c_cons (s_val (v_field 4 rfl (by kernel_rfl)) rfl rfl rfl ?_)
  refine c_cons (s_val (v_load rfl (Cel.imm k1 rfl) (by kernel_rfl)) rfl rfl rfl ?_)
  refine c_cons (s_val (v_field 5 rfl (by kernel_rfl)) rfl rfl rfl ?_)
  refine c_cons (s_val (v_load rfl (Cel.imm k1 rfl) (by kernel_rfl)) rfl rfl rfl ?_)
  refine c_cons (s_val (v_field 6 rfl (by kernel_rfl)) rfl rfl rfl ?_)
  refine c_cons (s_val (v_load rfl (Cel.imm k1 rfl) (by kernel_rfl)) rfl rfl rfl ?_)
  refine c_cons (s_val (v_field 7 rfl (by kernel_rfl)) rfl rfl rfl ?_)
  refine c_cons (s_val (v_load rfl (Cel.imm k1 rfl) (by kernel_rfl)) rfl rfl rfl ?_)
  refine c_cons (s_val (v_build (ps := [_, _, _, _, _, _, _, _]) (q.cells (.slice ads q.es.length cps) (.slice adm q.m.length cpm)).toArray rfl (by kernel_rfl)) rfl rfl rfl ?_)
  refine c_cons (s_storeA (vs := q.cells (.slice ads q.es.length cps) (.slice adm q.m.length cpm)) rfl rfl rfl .head (by kernel_rfl) (by simp [Value.oneCell']) rfl ?_)
  refine ww ?_
  exact f_retA (vs := q.cells (.slice ads q.es.length cps) (.slice adm q.m.length cpm)) rfl rfl (by kernel_rfl) (by kernel_rfl) rfl (fun j u hj => (Cel.all hj)) (fun w hs => ⟨rfl, hs.tl.weaken hG1⟩)

theorem nsaid_c (q : Np) (ve vm : Value) (w0 w : World) (G : Im) (F : Hp) (h1 : RecV 3 EyC G ve q.es) (h2 : EB G vm q.m) (hs : Sat w0 w G F) :
    Calls Try.prog 22 #[.agg (q.cells ve vm).toArray] w fun e w' => e = .returned (.agg (q.cells ve vm).toArray) ∧ Sat w0 w' G F := by
  obtain ⟨ads, cps, rfl, hs1, hs2⟩ := h1.form
  obtain ⟨adm, cpm, hve⟩ := h2.form
  subst hve
  refine f_enter (vs := [_]) Try.func22 rfl Try.ntmps22 (by simp) hs ?_
  refine ww ?_
  refine c_cons (s_boxA [_, _, _, _, _, _, _, _] rfl rfl rfl fun b1 => ?_)
  refine c_freeze .head fun G1 hG1 k1 => ?_
  refine c_cons (s_allocA (zNp.cells (.slice none 0 0) (.slice none 0 0)) (by kernel_rfl) rfl rfl fun b2 => ?_)
  refine ww ?_
  refine c_cons (s_val (v_field 0 rfl (by kernel_rfl)) rfl rfl rfl ?_)
  refine c_cons (s_val (v_load rfl (Cel.imm k1 rfl) (by kernel_rfl)) rfl rfl rfl ?_)
  refine c_cons (s_val (v_field 1 rfl (by kernel_rfl)) rfl rfl rfl ?_)
  refine c_cons (s_val (v_load rfl (Cel.imm k1 rfl) (by kernel_rfl)) rfl rfl rfl ?_)
  refine c_cons (s_val (v_field 2 rfl (by kernel_rfl)) rfl rfl rfl ?_)
  refine c_cons (s_val (v_load rfl (Cel.imm k1 rfl) (by kernel_rfl)) rfl rfl rfl ?_)
  refine c_cons (s_val (v_field 3 rfl (by kernel_rfl)) rfl rfl rfl ?_)
  refine c_cons (s_val (v_load rfl (Cel.imm k1 rfl) (by kernel_rfl)) rfl rfl rfl ?_)
  refine c_cons (s_val (v_field 4 rfl (by kernel_rfl)) rfl rfl rfl ?_)
  refine c_cons (s_val (v_load rfl (Cel.imm k1 rfl) (by kernel_rfl)) rfl rfl rfl ?_)
  refine c_cons (s_val (v_field 5 rfl (by kernel_rfl)) rfl rfl rfl ?_)
  refine c_cons (s_val (v_load rfl (Cel.imm k1 rfl) (by kernel_rfl)) rfl rfl rfl ?_)
  refine c_cons (s_val (v_field 6 rfl (by kernel_rfl)) rfl rfl rfl ?_)
  refine c_cons (s_val (v_load rfl (Cel.imm k1 rfl) (by kernel_rfl)) rfl rfl rfl ?_)
  refine c_cons (s_val (v_field 7 rfl (by kernel_rfl)) rfl rfl rfl ?_)
  refine c_cons (s_val (v_load rfl (Cel.imm k1 rfl) (by kernel_rfl)) rfl rfl rfl ?_)
  refine c_cons (s_val (v_build (ps := [_, _, _, _, _, _, _, _]) (q.cells (.slice ads q.es.length cps) (.slice adm q.m.length cpm)).toArray rfl (by kernel_rfl)) rfl rfl rfl ?_)
  refine c_cons (s_storeA (vs := q.cells (.slice ads q.es.length cps) (.slice adm q.m.length cpm)) rfl rfl rfl .head (by kernel_rfl) (by simp [Value.oneCell']) rfl ?_)
  refine ww ?_
  exact f_retA (vs := q.cells (.slice ads q.es.length cps) (.slice adm q.m.length cpm)) rfl rfl (by kernel_rfl) (by kernel_rfl) rfl (fun j u hj => (Cel.all hj)) (fun w hs => ⟨rfl, hs.tl.weaken hG1⟩)

theorem nreq_c (q : Nq) (vs vd : Value) (w0 w : World) (G : Im) (F : Hp) (hl : q.ss.length ≤ 100000) (hss : RecV 4 SzR G vs q.ss) (hds : RecV 14 DlR G vd q.ds) (hs : Sat w0 w G F) :
    Calls Try.prog 9 #[.agg (q.cells vs vd).toArray] w fun e w' => ∃ G' us, e = .returned (.agg (q.cells us vd).toArray) ∧ Im.le G G' ∧ RecV 4 SzR G' us q.ss ∧ Sat w0 w' G' F := by
  obtain ⟨ads, cps, rfl, hs1, hs2⟩ := hss.form
  obtain ⟨add, cpd, rfl, hd1, hd2⟩ := hds.form
  unfold maxLen at hs2
  refine f_enter (vs := [_]) Try.func9 rfl Try.ntmps9 (by simp) hs ?_
  refine ww ?_
  refine c_cons (s_boxA [_, _, _, _, _, _, _, _, _, _, _, _, _, _] rfl rfl rfl fun b1 => ?_)
  refine c_freeze .head fun G1 hG1 k1 => ?_
  replace hss := hss.up SzR.up hG1
  refine c_cons (s_allocA (zNq.cells (.slice none 0 0) (.slice none 0 0)) (by kernel_rfl) rfl rfl fun b2 => ?_)
  change Holds _ _ _ _ _ (RqO b2 zNq (.slice none 0 0) (.slice none 0 0) :: F) _
  refine ww ?_
  refine c_cons (s_val (v_field 0 rfl (by kernel_rfl)) rfl rfl rfl ?_)
  refine c_cons (s_val (v_field 0 rfl (by kernel_rfl)) rfl rfl rfl ?_)
  refine c_cons (s_val (v_load rfl (Cel.imm k1 rfl) (by kernel_rfl)) rfl rfl rfl ?_)
  refine c_cons (s_val (v_field 0 rfl (by kernel_rfl)) rfl rfl rfl ?_)
  refine c_cons (s_val (v_field 1 rfl (by kernel_rfl)) rfl rfl rfl ?_)
  refine c_cons (s_val (v_load rfl (Cel.imm k1 rfl) (by kernel_rfl)) rfl rfl rfl ?_)
  refine c_cons (s_val (v_field 0 rfl (by kernel_rfl)) rfl rfl rfl ?_)
  refine c_cons (s_val (v_field 2 rfl (by kernel_rfl)) rfl rfl rfl ?_)
  refine c_cons (s_val (v_load rfl (Cel.imm k1 rfl) (by kernel_rfl)) rfl rfl rfl ?_)
  refine c_cons (s_val (v_build (ps := [_, _, _]) #[I64 q.c, I64 q.l, I64 q.s] rfl (by kernel_rfl)) rfl rfl rfl ?_)
  refine c_cons (s_val (v_field 3 rfl (by kernel_rfl)) rfl rfl rfl ?_)
  refine c_cons (s_val (v_load rfl (Cel.imm k1 rfl) (by kernel_rfl)) rfl rfl rfl ?_)
  refine c_cons (s_val (v_field 4 rfl (by kernel_rfl)) rfl rfl rfl ?_)
  refine c_cons (s_val (v_load rfl (Cel.imm k1 rfl) (by kernel_rfl)) rfl rfl rfl ?_)
  refine c_cons (s_val (v_field 5 rfl (by kernel_rfl)) rfl rfl rfl ?_)
  refine c_cons (s_val (v_load rfl (Cel.imm k1 rfl) (by kernel_rfl)) rfl rfl rfl ?_)
  refine c_cons (s_val (v_field 6 rfl (by kernel_rfl)) rfl rfl rfl ?_)
  refine c_cons (s_val (v_load rfl (Cel.imm k1 rfl) (by kernel_rfl)) rfl rfl rfl ?_)
  refine c_cons (s_val (v_field 7 rfl (by kernel_rfl)) rfl rfl rfl ?_)
  refine c_cons (s_val (v_load rfl (Cel.imm k1 rfl) (by kernel_rfl)) rfl rfl rfl ?_)
  refine c_cons (s_val (v_field 8 rfl (by kernel_rfl)) rfl rfl rfl ?_)
  refine c_cons (s_val (v_load rfl (Cel.imm k1 rfl) (by kernel_rfl)) rfl rfl rfl ?_)
  refine c_cons (s_val (v_field 9 rfl (by kernel_rfl)) rfl rfl rfl ?_)
  refine c_cons (s_val (v_load rfl (Cel.imm k1 rfl) (by kernel_rfl)) rfl rfl rfl ?_)
  refine c_cons (s_val (v_field 10 rfl (by kernel_rfl)) rfl rfl rfl ?_)
  refine c_cons (s_val (v_load rfl (Cel.imm k1 rfl) (by kernel_rfl)) rfl rfl rfl ?_)
  refine c_cons (s_val (v_field 11 rfl (by kernel_rfl)) rfl rfl rfl ?_)
  refine c_cons (s_val (v_load rfl (Cel.imm k1 rfl) (by kernel_rfl)) rfl rfl rfl ?_)
  refine c_cons (s_val (v_field 13 rfl (by kernel_rfl)) rfl rfl rfl ?_)
  refine c_cons (s_val (v_load rfl (Cel.imm k1 rfl) (by kernel_rfl)) rfl rfl rfl ?_)
  refine c_cons (s_val (v_build (ps := [_, _, _, _, _, _, _, _, _, _, _]) (q.cells (.slice none 0 0) (.slice add q.ds.length cpd)).toArray rfl (by kernel_rfl)) rfl rfl rfl ?_)
  refine c_cons (s_allocA (zNq.cells (.slice none 0 0) (.slice none 0 0)) (by kernel_rfl) rfl rfl fun b3 => ?_)
  refine c_cons (s_storeA (vs := q.cells (.slice none 0 0) (.slice add q.ds.length cpd)) rfl rfl rfl .head (by kernel_rfl) (by simp [Value.oneCell']) rfl ?_)
  change Holds _ _ _ _ _ (RqO b3 q (.slice none 0 0) (.slice add q.ds.length cpd) :: RqO b2 zNq (.slice none 0 0) (.slice none 0 0) :: F) _
  refine ww ?_
  refine c_loop (α := Nat × Value × Hp) (fun x => [(1, Pt b1 0), (2, Pt b2 0), (3, Pt b3 0), (4, I64 x.1)]) (fun _ => G1) (fun x => RqO b3 q x.2.1 (.slice add q.ds.length cpd) :: (x.2.2 ++ (RqO b2 zNq (.slice none 0 0) (.slice none 0 0) :: F))) (fun x => x.1 ≤ q.ss.length ∧ SzO G1 x.2.1 (q.ss.take x.1) x.2.2) (fun x => q.ss.length - x.1) (0, (.slice none 0 0), []) ⟨Nat.zero_le _, ROwn.zero _ _⟩ ?_ ?_
  · exact n_at ⟨rfl, rfl, rfl, rfl, trivial⟩ sbx
  rintro ⟨i, vl, B⟩ ⟨hi, ho⟩
  dsimp only at hi ho ⊢
  refine ww ?_
  refine c_cons (s_val (v_field 12 rfl (by kernel_rfl)) rfl rfl rfl ?_)
  refine c_cons (s_val (v_load rfl (Cel.imm k1 rfl) (by kernel_rfl)) rfl rfl rfl ?_)
  refine ww ?_
  refine c_cond_d rfl (fun c1 => ?_) (fun c1 => ?_)
  · -- then
    have hil : i < q.ss.length := by omega
    obtain ⟨blx, olx, clx, cellsx, hvex, hcex, _, hcelx⟩ := hss.at (by decide) i (by omega)
    cases hvex
    obtain ⟨x, hxx⟩ : ∃ x, x = q.ss[i] := ⟨_, rfl⟩
    rw [← hxx] at hcex
    unfold SzR at hcex
    subst hcex
    have hcx : ∀ (H : Hp) (f : Nat) u, x.cells[f]? = some u → Cel G1 H blx (olx + (i : Int).toNat * 4 + f) u := fun H f u h => by rw [Int.toNat_natCast]; exact hcelx H f u h
    have htk : q.ss.take (i + 1) = q.ss.take i ++ [x] := by
      rw [List.take_add_one, List.getElem?_eq_getElem hil, ← hxx]; rfl
    have htl : (q.ss.take i).length = i := by rw [List.length_take]; omega
    obtain ⟨L, hoL, hRL⟩ := ho
    refine ww ?_
    refine r_startS [RqO b3 q vl (.slice add q.ds.length cpd)] [18] (by kernel_rfl) (fun w h => h.sb) ?_
    refine r_tk 0 rfl rfl (v_field 12 rfl (by kernel_rfl)) (fun _ h => (h.sb)) ?_
    refine r_tk 1 rfl rfl (v_load rfl (Cel.head rfl) (by kernel_rfl)) (fun _ h => (h.sb)) ?_
    refine r_tk 2 rfl rfl (v_field 12 rfl (by kernel_rfl)) (fun _ h => (h.sb)) ?_
    refine r_tk 3 rfl rfl (v_load rfl (Cel.imm k1 rfl) (by kernel_rfl)) (fun _ h => (h.sb)) ?_
    refine r_tk 4 rfl rfl (v_move rfl) (fun _ h => (h.sb)) ?_
    refine r_tk 5 rfl rfl (v_index 4 rfl rfl (by kernel_rfl) (by omega)) (fun _ h => (h.sb)) ?_
    refine r_tk 6 rfl rfl (v_field 0 rfl (by kernel_rfl)) (fun _ h => (h.sb)) ?_
    refine r_tk 7 rfl rfl (v_loadAgg (vs := [I64 x.c, I64 x.l, I64 x.n]) rfl (by kernel_rfl) (by kernel_rfl) rfl (fun j u hj => by have h1 := hcx [RqO b3 q vl (.slice add q.ds.length cpd)] _ u (str_at x j u hj); simpa only [Nat.zero_add, Nat.add_zero] using h1)) (fun _ h => (h.sb)) ?_
    refine r_tk 8 rfl rfl (v_field 12 rfl (by kernel_rfl)) (fun _ h => (h.sb)) ?_
    refine r_tk 9 rfl rfl (v_load rfl (Cel.imm k1 rfl) (by kernel_rfl)) (fun _ h => (h.sb)) ?_
    refine r_tk 10 rfl rfl (v_move rfl) (fun _ h => (h.sb)) ?_
    refine r_tk 11 rfl rfl (v_index 4 rfl rfl (by kernel_rfl) (by omega)) (fun _ h => (h.sb)) ?_
    refine r_tk 12 rfl rfl (v_field 3 rfl (by kernel_rfl)) (fun _ h => (h.sb)) ?_
    refine r_tk 13 rfl rfl (v_load rfl (hcx _ 3 _ rfl) (by kernel_rfl)) (fun _ h => (h.sb)) ?_
    refine r_tk 14 rfl rfl (v_build (ps := [_, _]) x.cells.toArray rfl (by kernel_rfl)) (fun _ h => (h.sb)) ?_
    refine r_one 15 (by kernel_rfl) rfl ?_
    refine s_litN [_] (z := .agg #[I64 0, I64 0, I64 0, I64 0]) (bs := 32) (e := 81) (sz := 4) (by kernel_rfl) rfl rfl rfl rfl (by simp [Value.cells]) (by decide) (by decide) (by decide) fun b4 => ?_
    refine r_next (fun w h => (h.sb)) ?_
    refine r_one 16 (by kernel_rfl) rfl ?_
    refine s_append (e := 81) (z := .agg #[I64 0, I64 0, I64 0, I64 0]) (sz := 4) (bs := 32) (by kernel_rfl) rfl rfl rfl rfl hoL (Chunk.tail (Chunk.tail Chunk.head)) (news := x.cells) (SV.block .head (by simp [maxLen])) rfl (by decide) rfl (by simp [Value.oneCell']) (by rw [htl]; first | omega | (simp; omega)) (by rw [htl]; first | omega | (simp; omega)) fun u5 B5 hown5 => ?_
    refine c_sub (RqO b3 q vl (.slice add q.ds.length cpd) :: (B5 ++ (RqO b2 zNq (.slice none 0 0) (.slice none 0 0) :: F))) sbx ?_
    refine r_next (fun w h => (h.sb)) ?_
    refine r_tk 17 rfl rfl (v_field 12 rfl (by kernel_rfl)) (fun _ h => (h.sb)) ?_
    refine r_one 18 (by kernel_rfl) rfl ?_
    refine s_store1 rfl rfl rfl .head (by kernel_rfl) (own_one hown5) (by simp) ?_
    refine r_late rfl ?_
    refine r_done (by kernel_rfl) ?_
    change Holds _ _ _ _ _ (RqO b3 q u5 (.slice add q.ds.length cpd) :: (B5 ++ (RqO b2 zNq (.slice none 0 0) (.slice none 0 0) :: F))) _
    refine ww ?_
    exact n_next (x := (i, vl, B)) (i + 1, u5, B5) ⟨by omega, by dsimp only; rw [htk]; exact SzO.snoc hRL hown5⟩ (by dsimp only; omega) ⟨rfl, rfl, rfl, rfl, trivial⟩ rfl sbx
  have e : i = q.ss.length := by omega
  subst e
  rw [List.take_length] at ho
  obtain ⟨L, hoL, hRL⟩ := ho
  obtain ⟨ad1, cp1, rfl⟩ := hoL.form
  refine ww ?_
  refine c_cons (s_val (v_loadAgg (vs := q.cells (.slice ad1 q.ss.length cp1) (.slice add q.ds.length cpd)) rfl (by kernel_rfl) (by kernel_rfl) rfl (fun j u hj => (Cel.all hj))) rfl rfl rfl ?_)
  refine c_sub (RqO b2 zNq (.slice none 0 0) (.slice none 0 0) :: (B ++ F)) sbx ?_
  refine c_cons (s_storeA (vs := q.cells (.slice ad1 q.ss.length cp1) (.slice add q.ds.length cpd)) rfl rfl rfl .head (by kernel_rfl) (by simp [Value.oneCell']) rfl ?_)
  refine c_freezeO hoL (Chunk.tail Chunk.head) fun G4 hG4 hsv => ?_
  refine ww ?_
  exact f_retA (vs := q.cells (.slice ad1 q.ss.length cp1) (.slice add q.ds.length cpd)) rfl rfl (by kernel_rfl) (by kernel_rfl) rfl (fun j u hj => (Cel.all hj)) (fun w hs => ⟨G4, _, rfl, hG1.trans hG4, ⟨L, hsv, hRL.mono fun c x => SzR.up _ _ c x hG4⟩, hs.tl⟩)

theorem nasked_c (q : Nq) (vs vd : Value) (w0 w : World) (G : Im) (F : Hp) (hl : q.ss.length ≤ 100000) (hss : RecV 4 SzR G vs q.ss) (hds : RecV 14 DlR G vd q.ds) (hs : Sat w0 w G F) :
    Calls Try.prog 15 #[.agg (q.cells vs vd).toArray] w fun e w' => ∃ G' us, e = .returned (.agg (q.cells us vd).toArray) ∧ Im.le G G' ∧ RecV 4 SzR G' us q.ss ∧ Sat w0 w' G' F := by
  obtain ⟨ads, cps, rfl, hs1, hs2⟩ := hss.form
  obtain ⟨add, cpd, rfl, hd1, hd2⟩ := hds.form
  unfold maxLen at hs2
  refine f_enter (vs := [_]) Try.func15 rfl Try.ntmps15 (by simp) hs ?_
  refine ww ?_
  refine c_cons (s_boxA [_, _, _, _, _, _, _, _, _, _, _, _, _, _] rfl rfl rfl fun b1 => ?_)
  refine c_freeze .head fun G1 hG1 k1 => ?_
  replace hss := hss.up SzR.up hG1
  refine c_cons (s_allocA (zNq.cells (.slice none 0 0) (.slice none 0 0)) (by kernel_rfl) rfl rfl fun b2 => ?_)
  change Holds _ _ _ _ _ (RrO b2 zNq (.slice none 0 0) (.slice none 0 0) :: F) _
  refine ww ?_
  refine c_cons (s_val (v_field 3 rfl (by kernel_rfl)) rfl rfl rfl ?_)
  refine c_cons (s_val (v_load rfl (Cel.imm k1 rfl) (by kernel_rfl)) rfl rfl rfl ?_)
  refine c_cons (s_val (v_field 4 rfl (by kernel_rfl)) rfl rfl rfl ?_)
  refine c_cons (s_val (v_load rfl (Cel.imm k1 rfl) (by kernel_rfl)) rfl rfl rfl ?_)
  refine c_cons (s_val (v_field 5 rfl (by kernel_rfl)) rfl rfl rfl ?_)
  refine c_cons (s_val (v_load rfl (Cel.imm k1 rfl) (by kernel_rfl)) rfl rfl rfl ?_)
  refine c_cons (s_val (v_field 6 rfl (by kernel_rfl)) rfl rfl rfl ?_)
  refine c_cons (s_val (v_load rfl (Cel.imm k1 rfl) (by kernel_rfl)) rfl rfl rfl ?_)
  refine c_cons (s_val (v_field 7 rfl (by kernel_rfl)) rfl rfl rfl ?_)
  refine c_cons (s_val (v_load rfl (Cel.imm k1 rfl) (by kernel_rfl)) rfl rfl rfl ?_)
  refine c_cons (s_val (v_field 8 rfl (by kernel_rfl)) rfl rfl rfl ?_)
  refine c_cons (s_val (v_load rfl (Cel.imm k1 rfl) (by kernel_rfl)) rfl rfl rfl ?_)
  refine c_cons (s_val (v_field 9 rfl (by kernel_rfl)) rfl rfl rfl ?_)
  refine c_cons (s_val (v_load rfl (Cel.imm k1 rfl) (by kernel_rfl)) rfl rfl rfl ?_)
  refine c_cons (s_val (v_field 10 rfl (by kernel_rfl)) rfl rfl rfl ?_)
  refine c_cons (s_val (v_load rfl (Cel.imm k1 rfl) (by kernel_rfl)) rfl rfl rfl ?_)
  refine c_cons (s_val (v_field 11 rfl (by kernel_rfl)) rfl rfl rfl ?_)
  refine c_cons (s_val (v_load rfl (Cel.imm k1 rfl) (by kernel_rfl)) rfl rfl rfl ?_)
  refine c_cons (s_val (v_field 13 rfl (by kernel_rfl)) rfl rfl rfl ?_)
  refine c_cons (s_val (v_load rfl (Cel.imm k1 rfl) (by kernel_rfl)) rfl rfl rfl ?_)
  refine c_cons (s_val (v_build (ps := [_, _, _, _, _, _, _, _, _, _]) #[I64 0, I64 0, I64 0, I64 q.d, St q.p, St q.t, .bool q.a, .bool q.b, .bool q.e, I64 q.h, I64 q.x, I64 q.w, (.slice none 0 0), (.slice add q.ds.length cpd)] rfl (by kernel_rfl)) rfl rfl rfl ?_)
  refine c_cons (s_allocA (zNq.cells (.slice none 0 0) (.slice none 0 0)) (by kernel_rfl) rfl rfl fun b3 => ?_)
  refine c_cons (s_storeA (vs := [I64 0, I64 0, I64 0, I64 q.d, St q.p, St q.t, .bool q.a, .bool q.b, .bool q.e, I64 q.h, I64 q.x, I64 q.w, (.slice none 0 0), (.slice add q.ds.length cpd)]) rfl rfl rfl .head (by kernel_rfl) (by simp [Value.oneCell']) rfl ?_)
  refine ww ?_
  refine c_cons (s_val (v_field 0 rfl (by kernel_rfl)) rfl rfl rfl ?_)
  refine c_cons (s_val (v_field 0 rfl (by kernel_rfl)) rfl rfl rfl ?_)
  refine c_cons (s_val (v_load rfl (Cel.imm k1 rfl) (by kernel_rfl)) rfl rfl rfl ?_)
  refine c_cons (s_val (v_field 0 rfl (by kernel_rfl)) rfl rfl rfl ?_)
  refine c_cons (s_val (v_field 1 rfl (by kernel_rfl)) rfl rfl rfl ?_)
  refine c_cons (s_val (v_load rfl (Cel.imm k1 rfl) (by kernel_rfl)) rfl rfl rfl ?_)
  refine c_cons (s_val (v_field 0 rfl (by kernel_rfl)) rfl rfl rfl ?_)
  refine c_cons (s_val (v_field 2 rfl (by kernel_rfl)) rfl rfl rfl ?_)
  refine c_cons (s_val (v_load rfl (Cel.imm k1 rfl) (by kernel_rfl)) rfl rfl rfl ?_)
  refine c_cons (s_val (v_build (ps := [_, _, _]) #[I64 q.c, I64 q.l, I64 q.s] rfl (by kernel_rfl)) rfl rfl rfl ?_)
  refine c_cons (s_val (v_field 0 rfl (by kernel_rfl)) rfl rfl rfl ?_)
  refine c_cons (s_storeAt (vs := [I64 q.c, I64 q.l, I64 q.s]) rfl rfl rfl .head (by kernel_rfl) (by simp [Value.oneCell']) (by simp) ?_)
  change Holds _ _ _ _ _ (RrO b3 q (.slice none 0 0) (.slice add q.ds.length cpd) :: RrO b2 zNq (.slice none 0 0) (.slice none 0 0) :: F) _
  refine ww ?_
  refine c_loop (α := Nat × Value × Hp) (fun x => [(1, Pt b1 0), (2, Pt b2 0), (3, Pt b3 0), (4, I64 x.1)]) (fun _ => G1) (fun x => RrO b3 q x.2.1 (.slice add q.ds.length cpd) :: (x.2.2 ++ (RrO b2 zNq (.slice none 0 0) (.slice none 0 0) :: F))) (fun x => x.1 ≤ q.ss.length ∧ SrO G1 x.2.1 (q.ss.take x.1) x.2.2) (fun x => q.ss.length - x.1) (0, (.slice none 0 0), []) ⟨Nat.zero_le _, ROwn.zero _ _⟩ ?_ ?_
  · exact n_at ⟨rfl, rfl, rfl, rfl, trivial⟩ sbx
  rintro ⟨i, vl, B⟩ ⟨hi, ho⟩
  dsimp only at hi ho ⊢
  refine ww ?_
  refine c_cons (s_val (v_field 12 rfl (by kernel_rfl)) rfl rfl rfl ?_)
  refine c_cons (s_val (v_load rfl (Cel.imm k1 rfl) (by kernel_rfl)) rfl rfl rfl ?_)
  refine ww ?_
  refine c_cond_d rfl (fun c1 => ?_) (fun c1 => ?_)
  · -- then
    have hil : i < q.ss.length := by omega
    obtain ⟨blx, olx, clx, cellsx, hvex, hcex, _, hcelx⟩ := hss.at (by decide) i (by omega)
    cases hvex
    obtain ⟨x, hxx⟩ : ∃ x, x = q.ss[i] := ⟨_, rfl⟩
    rw [← hxx] at hcex
    unfold SzR at hcex
    subst hcex
    have hcx : ∀ (H : Hp) (f : Nat) u, x.cells[f]? = some u → Cel G1 H blx (olx + (i : Int).toNat * 4 + f) u := fun H f u h => by rw [Int.toNat_natCast]; exact hcelx H f u h
    have htk : q.ss.take (i + 1) = q.ss.take i ++ [x] := by
      rw [List.take_add_one, List.getElem?_eq_getElem hil, ← hxx]; rfl
    have htl : (q.ss.take i).length = i := by rw [List.length_take]; omega
    obtain ⟨L, hoL, hRL⟩ := ho
    refine ww ?_
    refine r_startS [RrO b3 q vl (.slice add q.ds.length cpd)] [18] (by kernel_rfl) (fun w h => h.sb) ?_
    refine r_tk 0 rfl rfl (v_field 12 rfl (by kernel_rfl)) (fun _ h => (h.sb)) ?_
    refine r_tk 1 rfl rfl (v_load rfl (Cel.head rfl) (by kernel_rfl)) (fun _ h => (h.sb)) ?_
    refine r_tk 2 rfl rfl (v_field 12 rfl (by kernel_rfl)) (fun _ h => (h.sb)) ?_
    refine r_tk 3 rfl rfl (v_load rfl (Cel.imm k1 rfl) (by kernel_rfl)) (fun _ h => (h.sb)) ?_
    refine r_tk 4 rfl rfl (v_move rfl) (fun _ h => (h.sb)) ?_
    refine r_tk 5 rfl rfl (v_index 4 rfl rfl (by kernel_rfl) (by omega)) (fun _ h => (h.sb)) ?_
    refine r_tk 6 rfl rfl (v_field 0 rfl (by kernel_rfl)) (fun _ h => (h.sb)) ?_
    refine r_tk 7 rfl rfl (v_loadAgg (vs := [I64 x.c, I64 x.l, I64 x.n]) rfl (by kernel_rfl) (by kernel_rfl) rfl (fun j u hj => by have h1 := hcx [RrO b3 q vl (.slice add q.ds.length cpd)] _ u (str_at x j u hj); simpa only [Nat.zero_add, Nat.add_zero] using h1)) (fun _ h => (h.sb)) ?_
    refine r_tk 8 rfl rfl (v_field 12 rfl (by kernel_rfl)) (fun _ h => (h.sb)) ?_
    refine r_tk 9 rfl rfl (v_load rfl (Cel.imm k1 rfl) (by kernel_rfl)) (fun _ h => (h.sb)) ?_
    refine r_tk 10 rfl rfl (v_move rfl) (fun _ h => (h.sb)) ?_
    refine r_tk 11 rfl rfl (v_index 4 rfl rfl (by kernel_rfl) (by omega)) (fun _ h => (h.sb)) ?_
    refine r_tk 12 rfl rfl (v_field 3 rfl (by kernel_rfl)) (fun _ h => (h.sb)) ?_
    refine r_tk 13 rfl rfl (v_load rfl (hcx _ 3 _ rfl) (by kernel_rfl)) (fun _ h => (h.sb)) ?_
    refine r_tk 14 rfl rfl (v_build (ps := [_, _]) x.cells.toArray rfl (by kernel_rfl)) (fun _ h => (h.sb)) ?_
    refine r_one 15 (by kernel_rfl) rfl ?_
    refine s_litN [_] (z := .agg #[I64 0, I64 0, I64 0, I64 0]) (bs := 32) (e := 85) (sz := 4) (by kernel_rfl) rfl rfl rfl rfl (by simp [Value.cells]) (by decide) (by decide) (by decide) fun b4 => ?_
    refine r_next (fun w h => (h.sb)) ?_
    refine r_one 16 (by kernel_rfl) rfl ?_
    refine s_append (e := 85) (z := .agg #[I64 0, I64 0, I64 0, I64 0]) (sz := 4) (bs := 32) (by kernel_rfl) rfl rfl rfl rfl hoL (Chunk.tail (Chunk.tail Chunk.head)) (news := x.cells) (SV.block .head (by simp [maxLen])) rfl (by decide) rfl (by simp [Value.oneCell']) (by rw [htl]; first | omega | (simp; omega)) (by rw [htl]; first | omega | (simp; omega)) fun u5 B5 hown5 => ?_
    refine c_sub (RrO b3 q vl (.slice add q.ds.length cpd) :: (B5 ++ (RrO b2 zNq (.slice none 0 0) (.slice none 0 0) :: F))) sbx ?_
    refine r_next (fun w h => (h.sb)) ?_
    refine r_tk 17 rfl rfl (v_field 12 rfl (by kernel_rfl)) (fun _ h => (h.sb)) ?_
    refine r_one 18 (by kernel_rfl) rfl ?_
    refine s_store1 rfl rfl rfl .head (by kernel_rfl) (own_one hown5) (by simp) ?_
    refine r_late rfl ?_
    refine r_done (by kernel_rfl) ?_
    change Holds _ _ _ _ _ (RrO b3 q u5 (.slice add q.ds.length cpd) :: (B5 ++ (RrO b2 zNq (.slice none 0 0) (.slice none 0 0) :: F))) _
    refine ww ?_
    exact n_next (x := (i, vl, B)) (i + 1, u5, B5) ⟨by omega, by dsimp only; rw [htk]; exact SrO.snoc hRL hown5⟩ (by dsimp only; omega) ⟨rfl, rfl, rfl, rfl, trivial⟩ rfl sbx
  have e : i = q.ss.length := by omega
  subst e
  rw [List.take_length] at ho
  obtain ⟨L, hoL, hRL⟩ := ho
  obtain ⟨ad1, cp1, rfl⟩ := hoL.form
  refine ww ?_
  refine c_cons (s_val (v_loadAgg (vs := q.cells (.slice ad1 q.ss.length cp1) (.slice add q.ds.length cpd)) rfl (by kernel_rfl) (by kernel_rfl) rfl (fun j u hj => (Cel.all hj))) rfl rfl rfl ?_)
  refine c_sub (RrO b2 zNq (.slice none 0 0) (.slice none 0 0) :: (B ++ F)) sbx ?_
  refine c_cons (s_storeA (vs := q.cells (.slice ad1 q.ss.length cp1) (.slice add q.ds.length cpd)) rfl rfl rfl .head (by kernel_rfl) (by simp [Value.oneCell']) rfl ?_)
  refine c_freezeO hoL (Chunk.tail Chunk.head) fun G4 hG4 hsv => ?_
  refine ww ?_
  exact f_retA (vs := q.cells (.slice ad1 q.ss.length cp1) (.slice add q.ds.length cpd)) rfl rfl (by kernel_rfl) (by kernel_rfl) rfl (fun j u hj => (Cel.all hj)) (fun w hs => ⟨G4, _, rfl, hG1.trans hG4, ⟨L, hsv, hRL.mono fun c x => SzR.up _ _ c x hG4⟩, hs.tl⟩)

theorem nsmall_c (q : Nq) (vs vd : Value) (w0 w : World) (G : Im) (F : Hp) (hss : RecV 4 SzR G vs q.ss) (hds : RecV 14 DlR G vd q.ds) (hs : Sat w0 w G F) :
    Calls Try.prog 7 #[.agg (q.cells vs vd).toArray] w fun e w' => ∃ b : Bool, e = .returned (.bool b) ∧ (b = true → q.p.length ≤ 300 ∧ q.t.length ≤ 300 ∧ q.ss.length ≤ 60 ∧ q.ds.length ≤ 100) ∧ Sat w0 w' G F := by
  obtain ⟨ads, cps, rfl, hs1, hs2⟩ := hss.form
  obtain ⟨add, cpd, rfl, hd1, hd2⟩ := hds.form
  refine f_enter (vs := [_]) Try.func7 rfl Try.ntmps7 (by simp) hs ?_
  refine ww ?_
  refine c_cons (s_boxA [_, _, _, _, _, _, _, _, _, _, _, _, _, _] rfl rfl rfl fun b1 => ?_)
  refine c_freeze .head fun G1 hG1 k1 => ?_
  refine ww ?_
  refine c_cons (s_val (v_field 4 rfl (by kernel_rfl)) rfl rfl rfl ?_)
  refine c_cons (s_val (v_load rfl (Cel.imm k1 rfl) (by kernel_rfl)) rfl rfl rfl ?_)
  refine c_cons (s_val (v_strlen rfl (by kernel_rfl)) rfl rfl rfl ?_)
  refine ww ?_
  refine c_part_d 7 _ rfl (fun c1 => ?_) (fun c1 => ?_)
  · refine ww ?_
    refine c_cons (s_val (v_field 5 rfl (by kernel_rfl)) rfl rfl rfl ?_)
    refine c_cons (s_val (v_load rfl (Cel.imm k1 rfl) (by kernel_rfl)) rfl rfl rfl ?_)
    refine c_cons (s_val (v_strlen rfl (by kernel_rfl)) rfl rfl rfl ?_)
    refine ww ?_
    refine c_part_d 13 _ rfl (fun c2 => ?_) (fun c2 => ?_)
    · refine ww ?_
      refine c_cons (s_val (v_field 12 rfl (by kernel_rfl)) rfl rfl rfl ?_)
      refine c_cons (s_val (v_load rfl (Cel.imm k1 rfl) (by kernel_rfl)) rfl rfl rfl ?_)
      refine ww ?_
      refine c_part_d 19 _ rfl (fun c3 => ?_) (fun c3 => ?_)
      · refine ww ?_
        refine c_cons (s_val (v_field 13 rfl (by kernel_rfl)) rfl rfl rfl ?_)
        refine c_cons (s_val (v_load rfl (Cel.imm k1 rfl) (by kernel_rfl)) rfl rfl rfl ?_)
        refine ww ?_
        exact f_ret1 rfl rfl (fun w hs => ⟨_, rfl, fun h => (by have := of_decide_eq_true h; omega), hs.weaken hG1⟩)
      refine ww ?_
      exact f_ret1 rfl rfl (fun w hs => ⟨_, rfl, fun h => (by cases h), hs.weaken hG1⟩)
    refine ww ?_
    exact f_ret1 rfl rfl (fun w hs => ⟨_, rfl, fun h => (by cases h), hs.weaken hG1⟩)
  refine ww ?_
  exact f_ret1 rfl rfl (fun w hs => ⟨_, rfl, fun h => (by cases h), hs.weaken hG1⟩)
end

section
open Go
set_option linter.unusedVariables false
set_option linter.unusedSimpArgs false
set_option maxHeartbeats 1600000
set_option maxRecDepth 4000
/-- A file is made. -/
def qA : Nq := ⟨0, 0, 0, 1, [47, 97], [], false, false, false, 0, 0, 0, [], []⟩
/-- It's busy. -/
def pB : Np := ⟨8, 0, 0, 0, 0, false, [], []⟩
theorem enc_qA : ∃ b, encQ qA = (b, 0) ∧ b.length ≤ 1000000 := ⟨(encQ qA).1, Prod.ext rfl (by decide +kernel), by decide +kernel⟩
theorem enc_pB : ∃ b, encP pB = (b, 0) ∧ b.length ≤ 1000000 := ⟨(encP pB).1, Prod.ext rfl (by decide +kernel), by decide +kernel⟩
theorem outS_ok (b : List UInt8) : outS (b, 0) = b := if_pos rfl
theorem enc_zero : encQ zNq = ([], 1) := if_pos (by decide)
theorem dec_short : (decQ [1, 2]).2 = 2 := by decide +kernel
theorem dec_form : (decP [99]).2 = 4 := by decide +kernel
attribute [local irreducible] Code.wp wpList stepK Holds Val wpR Eff Eff0 Code.wpIn wpListIn stepI Exit.then Exit.inBlock bodyPost bodyPostM

theorem awake_c (w0 w : World) (G : Im) (F : Hp) (hs : Sat w0 w G F) :
    Calls Try.prog 6 #[] w fun e w' => ∃ G', e = .returned (.bool true) ∧ Im.le G G' ∧ Sat w0 w' G' F := by
  obtain ⟨b, hb, hbl⟩ := enc_qA
  have hd := decQ_encQ hb
  refine f_enter (vs := []) Try.func6 rfl Try.ntmps6 (by simp) hs ?_
  refine ww ?_
  refine c_cons (s_val (v_build (ps := [_, _]) (qA.cells (.slice none 0 0) (.slice none 0 0)).toArray rfl (by kernel_rfl)) rfl rfl rfl ?_)
  refine c_cons (s_call (xs := [_]) rfl rfl rfl rfl rfl rfl (by kernel_rfl) (fun w hs => nenc_c qA (by decide) (by decide) _ _ _ w _ _ RecV.nil RecV.nil hs) ?_)
  rw [hb]
  dsimp only
  rw [outS_ok]
  rintro e w' ⟨G1, u1, rfl, hG1, hu1, hs'⟩; refine a_ret ?_ hs'; clear hs'
  obtain ⟨ad1, cp1, hue⟩ := hu1.form
  subst hue
  refine ww ?_
  refine c_cons (s_call (xs := [_]) rfl rfl rfl rfl rfl rfl (by kernel_rfl) (fun w hs => ndec_c _ b hbl _ w _ _ hu1 hs) ?_)
  rw [hd]
  dsimp only
  rintro e w' ⟨G2, vs, vd, rfl, hG2, hvs, hvd, hs'⟩; refine a_ret ?_ hs'; clear hs'
  obtain ⟨ads, cps, rfl, _, _⟩ := hvs.form
  obtain ⟨add, cpd, rfl, _, _⟩ := hvd.form
  refine ww ?_
  refine c_cons (s_allocA (zNq.cells (.slice none 0 0) (.slice none 0 0)) (by kernel_rfl) rfl rfl fun b1 => ?_)
  refine c_cons (s_storeA (vs := qA.cells (.slice ads qA.ss.length cps) (.slice add qA.ds.length cpd)) rfl rfl rfl .head (by kernel_rfl) (by simp [Value.oneCell']) rfl ?_)
  refine ww ?_
  refine c_cons (s_val (v_field 3 rfl (by kernel_rfl)) rfl rfl rfl ?_)
  refine c_cons (s_val (v_load rfl (Cel.head rfl) (by kernel_rfl)) rfl rfl rfl ?_)
  refine ww ?_
  refine c_cons (s_val (v_field 4 rfl (by kernel_rfl)) rfl rfl rfl ?_)
  refine c_cons (s_val (v_load rfl (Cel.head rfl) (by kernel_rfl)) rfl rfl rfl ?_)
  refine c_cons (s_val (v_t (v_streql rfl rfl) rfl) rfl rfl rfl ?_)
  refine ww ?_
  exact f_ret1 rfl rfl (fun w hs => ⟨G2, rfl, hG1.trans hG2, hs.tl⟩)

theorem known_c (w0 w : World) (G : Im) (F : Hp) (hs : Sat w0 w G F) :
    Calls Try.prog 4 #[] w fun e w' => ∃ G', e = .returned (.bool true) ∧ Im.le G G' ∧ Sat w0 w' G' F := by
  obtain ⟨b, hb, hbl⟩ := enc_pB
  have hd := decP_encP (show pB.e ≤ 18 by decide) hb
  have hz := enc_zero
  obtain ⟨d2, hd2⟩ : ∃ d, d = decQ [1, 2] := ⟨_, rfl⟩
  have k2 : d2.2 = 2 := by rw [hd2]; exact dec_short
  obtain ⟨d4, hd4⟩ : ∃ d, d = decP [99] := ⟨_, rfl⟩
  have k4 : d4.2 = 4 := by rw [hd4]; exact dec_form
  refine f_enter (vs := []) Try.func4 rfl Try.ntmps4 (by simp) hs ?_
  refine ww ?_
  refine c_cons (s_call (xs := []) rfl rfl rfl rfl rfl rfl (by kernel_rfl) (fun w hs => awake_c _ w _ _ hs) ?_)
  rintro e w' ⟨G0, rfl, hG0, hs'⟩; refine a_ret ?_ hs'; clear hs'
  refine ww ?_
  refine c_cond_f rfl ?_
  refine ww ?_
  refine c_cons (s_val (v_build (ps := [_]) (pB.cells (.slice none 0 0) (.slice none 0 0)).toArray rfl (by kernel_rfl)) rfl rfl rfl ?_)
  refine c_cons (s_call (xs := [_]) rfl rfl rfl rfl rfl rfl (by kernel_rfl) (fun w hs => nenp_c pB (by decide) (by decide) _ _ _ w _ _ RecV.nil (SV.nil _ _) hs) ?_)
  rw [hb]
  dsimp only
  rw [outS_ok]
  rintro e w' ⟨G1, u1, rfl, hG1, hu1, hs'⟩; refine a_ret ?_ hs'; clear hs'
  obtain ⟨ad1, cp1, hue⟩ := hu1.form
  subst hue
  refine ww ?_
  refine c_cons (s_call (xs := [_]) rfl rfl rfl rfl rfl rfl (by kernel_rfl) (fun w hs => ndep_c _ b hbl _ w _ _ hu1 hs) ?_)
  rw [hd]
  dsimp only
  rintro e w' ⟨G2, ve, vm, rfl, hG2, hve, hvm, hs'⟩; refine a_ret ?_ hs'; clear hs'
  obtain ⟨ade, cpe, rfl, _, _⟩ := hve.form
  obtain ⟨adm, cpm, hme⟩ := hvm.form
  subst hme
  refine ww ?_
  refine c_cons (s_allocA (zNp.cells (.slice none 0 0) (.slice none 0 0)) (by kernel_rfl) rfl rfl fun b1 => ?_)
  refine c_cons (s_storeA (vs := pB.cells (.slice ade pB.es.length cpe) (.slice adm pB.m.length cpm)) rfl rfl rfl .head (by kernel_rfl) (by simp [Value.oneCell']) rfl ?_)
  refine c_freeze .head fun G3 hG3 k1 => ?_
  refine ww ?_
  refine c_cons (s_val (v_build (ps := []) (zNq.cells (.slice none 0 0) (.slice none 0 0)).toArray rfl (by kernel_rfl)) rfl rfl rfl ?_)
  refine c_cons (s_call (xs := [_]) rfl rfl rfl rfl rfl rfl (by kernel_rfl) (fun w hs => nenc_c zNq (by decide) (by decide) _ _ _ w _ _ RecV.nil RecV.nil hs) ?_)
  rw [hz]
  dsimp only
  rintro e w' ⟨G4, u4, rfl, hG4, hu4, hs'⟩; refine a_ret ?_ hs'; clear hs'
  replace k1 := hG4 _ _ k1
  refine ww ?_
  refine c_cons (s_lit (z := B8 0) (bs := 1) (e := 5) [_, _] (by kernel_rfl) rfl rfl rfl rfl (by simp [Value.oneCell']) rfl (by decide) fun b2 => ?_)
  refine c_freeze .head fun G5 hG5 j5 => ?_
  replace k1 := hG5 _ _ k1
  refine c_cons (s_call (xs := [_]) rfl rfl rfl rfl rfl rfl (by kernel_rfl) (fun w hs => ndec_c _ [1, 2] (by decide) _ w _ _ (SV.block (.of_imm j5) (by simp [maxLen])) hs) ?_)
  rw [← hd2, k2]
  rintro e w' ⟨G6, vs, vd, rfl, hG6, hvs, hvd, hs'⟩; refine a_ret ?_ hs'; clear hs'
  replace k1 := hG6 _ _ k1
  obtain ⟨ads, cps, rfl, _, _⟩ := hvs.form
  obtain ⟨add, cpd, rfl, _, _⟩ := hvd.form
  refine ww ?_
  refine c_cons (s_allocA (zNq.cells (.slice none 0 0) (.slice none 0 0)) (by kernel_rfl) rfl rfl fun b3 => ?_)
  refine c_cons (s_storeA (vs := d2.1.cells (.slice ads d2.1.ss.length cps) (.slice add d2.1.ds.length cpd)) rfl rfl rfl .head (by kernel_rfl) (by simp [Value.oneCell']) rfl ?_)
  refine c_sub F sbx ?_
  refine ww ?_
  refine c_cons (s_lit (z := B8 0) (bs := 1) (e := 5) [_] (by kernel_rfl) rfl rfl rfl rfl (by simp [Value.oneCell']) rfl (by decide) fun b4 => ?_)
  refine c_freeze .head fun G7 hG7 j7 => ?_
  replace k1 := hG7 _ _ k1
  refine c_cons (s_call (xs := [_]) rfl rfl rfl rfl rfl rfl (by kernel_rfl) (fun w hs => ndep_c _ [99] (by decide) _ w _ _ (SV.block (.of_imm j7) (by simp [maxLen])) hs) ?_)
  rw [← hd4, k4]
  rintro e w' ⟨G8, we, wm, rfl, hG8, hwe, hwm, hs'⟩; refine a_ret ?_ hs'; clear hs'
  replace k1 := hG8 _ _ k1
  obtain ⟨adw, cpw, rfl, _, _⟩ := hwe.form
  obtain ⟨adx, cpx, hme⟩ := hwm.form
  subst hme
  refine ww ?_
  refine c_cons (s_allocA (zNp.cells (.slice none 0 0) (.slice none 0 0)) (by kernel_rfl) rfl rfl fun b5 => ?_)
  refine c_cons (s_storeA (vs := d4.1.cells (.slice adw d4.1.es.length cpw) (.slice adx d4.1.m.length cpx)) rfl rfl rfl .head (by kernel_rfl) (by simp [Value.oneCell']) rfl ?_)
  refine c_sub F sbx ?_
  refine ww ?_
  refine c_cons (s_val (v_field 0 rfl (by kernel_rfl)) rfl rfl rfl ?_)
  refine c_cons (s_val (v_load rfl (Cel.imm k1 rfl) (by kernel_rfl)) rfl rfl rfl ?_)
  refine ww ?_
  refine c_cons (s_val (v_field 1 rfl (by kernel_rfl)) rfl rfl rfl ?_)
  refine c_cons (s_val (v_load rfl (Cel.imm k1 rfl) (by kernel_rfl)) rfl rfl rfl ?_)
  refine ww ?_
  refine c_cons (s_val (v_field 7 rfl (by kernel_rfl)) rfl rfl rfl ?_)
  refine c_cons (s_val (v_load rfl (Cel.imm k1 rfl) (by kernel_rfl)) rfl rfl rfl ?_)
  refine ww ?_
  exact f_ret1 rfl rfl (fun w hs => ⟨G8, rfl, hG0.trans (hG1.trans (hG2.trans (hG3.trans (hG4.trans (hG5.trans (hG6.trans (hG7.trans hG8))))))), hs⟩)
end

section
set_option linter.unusedVariables false
open Go Go.ChangeShapes Go.WideShapes Go.ChangeAt Go.RowKit
theorem law_of {P : Program} {f : Nat} {args : Array Value} {W : World} (h : Calls P f args W fun e w' => ∃ G', e = .returned (.bool true) ∧ Im.le (atStart W) G' ∧ Sat W w' G' []) :
    Calls P f args W fun e w' => e = .returned (.bool true) ∧ Go.RowKit.Below W.heap.size W w' :=
  h.mono fun e w' ⟨G', he, hG, hs⟩ => ⟨he, hs.below hG⟩
end
end Go.Proofs.Ytobhlbhklblncaa
