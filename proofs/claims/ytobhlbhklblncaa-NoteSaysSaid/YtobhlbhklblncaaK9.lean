/- The law's walks of package note: what is compared, and what is copied. The laws of package note: awake, and what is known. The reference's walk of chapter 16: Encode. The law NoteAsks. The law NoteSays. -/
import Derived.Test.YtobhlbhklblncaaK7
import Derived.Test.YtobhlbhklblncaaK8
import Derived.Test.YtobhlbhklblncaaK5
import Derived.Test.YtobhlbhklblncaaK6
namespace Go.Proofs.Ytobhlbhklblncaa
section
open Go
set_option linter.unusedVariables false
set_option linter.unusedSimpArgs false
set_option maxHeartbeats 1600000
set_option maxRecDepth 4000
theorem take_eq_next {l k : List Dl} (i : Nat) (hl : i < l.length) (hk : i < k.length) (h : l.take i = k.take i) (hx : l[i] = k[i]) : l.take (i + 1) = k.take (i + 1) := by
  rw [List.take_add_one, List.take_add_one, h, List.getElem?_eq_getElem hl, List.getElem?_eq_getElem hk, hx]

def boB (P : Program) (t : TypeId) : Bool := match P.underlying t with
  | some .bool => true
  | _ => false
theorem boB_spec {P : Program} {t : TypeId} (h : boB P t = true) : P.underlying t = some .bool := by
  unfold boB at h; split at h
  · assumption
  · cases h
/-- A struct of a stripe's name and a number. -/
def stZB (P : Program) (t : TypeId) : Bool := match P.underlying t with
  | some (.struct fs) => match fs.toList with
    | [f, g] => (st3B P f.type && (szB P f.type == some 3) && (aggB P f.type == some true)) && i64B P g.type && (f.offset == 0 && g.offset == 3) && (f.name != "_" && g.name != "_") && (!P.stoodInHeld t && !P.eqGuardType P.depth t)
    | _ => false
  | _ => false
/-- A struct of a text, a number, a yes or no. -/
def stEB (P : Program) (t : TypeId) : Bool := match P.underlying t with
  | some (.struct fs) => match fs.toList with
    | [f, g, h] => (strB P f.type && (aggB P f.type == some false)) && i64B P g.type && (boB P h.type && (aggB P h.type == some false)) && (f.offset == 0 && g.offset == 1 && h.offset == 2) && (f.name != "_" && g.name != "_" && h.name != "_") && (!P.stoodInHeld t && !P.eqGuardType P.depth t)
    | _ => false
  | _ => false
section
variable {w0 w : World} {G G' : Im} {H H1 : Hp} {n : Nat} {ds : List Deferred} {env : Env} {P : Program} {R : Act → World → Prop} {ops : Array Oper} {Q : Exit → Act → World → Prop} {K : Act → World → Prop}
variable {dst : Option Tmp} {d : Nat} {ty : TypeId} {pos : String} {aft : Array Edge} {g : Option (Nat × Bool)}
theorem run_part_one {t : TypeId} {xs : Array Value} {off : Nat} {v : Value} (h : aggB P t = some false) (hx : xs[off]? = some v) : (part t xs off).run P w = .ok v w := by
  simp [part, run_isAgg' h, hx]
theorem run_eqZ {t : TypeId} (x : Sz) (h : stZB P t = true) (dp : Nat) : (Op.equalIn (dp + 3) t (.agg x.cells.toArray) (.agg x.cells.toArray)).run P w = .ok true w ∧ P.eqGuardType P.depth t = false := by
  unfold stZB at h
  split at h
  · rename_i fs hu
    split at h
    · rename_i f1 f2 hfs
      simp only [Bool.and_eq_true, beq_iff_eq, bne_iff_ne, Bool.not_eq_true'] at h
      obtain ⟨⟨⟨⟨⟨⟨h1, z1⟩, a1⟩, h2⟩, ⟨o1, o2⟩⟩, ⟨n1, n2⟩⟩, hst, heg⟩ := h
      refine ⟨?_, heg⟩
      have hf : P.fieldsOf t = fs := by unfold Program.fieldsOf; rw [hu]
      have hu' : P.underlying t = some (.struct (P.fieldsOf t)) := by rw [hf]; exact hu
      rw [run_equalIn_struct w (dp + 2) t _ _ hu' hst, hf, hfs]
      have p1 : ∀ (v1 v2 v3 v4 : Value), (part f1.type #[v1, v2, v3, v4] f1.offset).run P w = .ok (.agg #[v1, v2, v3]) w := fun v1 v2 v3 v4 => by rw [o1, run_part_agg a1 z1]; rfl
      have p2 : ∀ (v1 v2 v3 v4 : Value), (part f2.type #[v1, v2, v3, v4] f2.offset).run P w = .ok v4 w := fun v1 v2 v3 v4 => run_part_i64 h2 (by rw [o2]; rfl)
      have e1 := (run_eq3 (w := w) (a := x.c) (b := x.l) (c := x.n) (a' := x.c) (b' := x.l) (c' := x.n) h1 dp).1
      have e2 : (Op.equalIn (dp + 2) f2.type (I64 x.z) (I64 x.z)).run P w = .ok (decide (x.z = x.z)) w := run_equalIn_int (P := P) w (dp + 1) f2.type .i64 .i64 x.z x.z (i64B_spec h2)
      simp only [decide_true, Bool.and_self] at e1 e2
      simp [Op.eqFields, n1, n2, p1, p2, e1, e2]
    · cases h
  · cases h
theorem v_neZ (x : Sz) {p q : Operand} {t t' : TypeId} (hx : ev env p = some (.agg x.cells.toArray)) (hy : ev env q = some (.agg x.cells.toArray)) (h : stZB P t = true) :
    Val P env G H ⟨dst, .binOp .neq t p q t', ty, pos, aft, g⟩ (.bool false) := fun ac n ds w0 w ht hs => by
  obtain ⟨h1, h2⟩ := run_eqZ (w := w) x h 9997
  have h3 := run_eqGuard_agg (P := P) w .neq t p q x.cells.toArray x.cells.toArray h2
  simp only [execOp, ht.eval hx, ht.eval hy, Sem.run_bind, h3, Result.andThen_ok, run_neq_struct, h1, Sem.run_pure]; rfl
theorem run_eqE {t : TypeId} (x : Ey) (h : stEB P t = true) (dp : Nat) : (Op.equalIn (dp + 2) t (.agg x.cells.toArray) (.agg x.cells.toArray)).run P w = .ok true w ∧ P.eqGuardType P.depth t = false := by
  unfold stEB at h
  split at h
  · rename_i fs hu
    split at h
    · rename_i f1 f2 f3 hfs
      simp only [Bool.and_eq_true, beq_iff_eq, bne_iff_ne, Bool.not_eq_true'] at h
      obtain ⟨⟨⟨⟨⟨⟨h1, a1⟩, h2⟩, ⟨h3, a3⟩⟩, ⟨⟨o1, o2⟩, o3⟩⟩, ⟨⟨n1, n2⟩, n3⟩⟩, hst, heg⟩ := h
      refine ⟨?_, heg⟩
      have hf : P.fieldsOf t = fs := by unfold Program.fieldsOf; rw [hu]
      have hu' : P.underlying t = some (.struct (P.fieldsOf t)) := by rw [hf]; exact hu
      rw [run_equalIn_struct w (dp + 1) t _ _ hu' hst, hf, hfs]
      have p1 : ∀ (v1 v2 v3 : Value), (part f1.type #[v1, v2, v3] f1.offset).run P w = .ok v1 w := fun v1 v2 v3 => run_part_one a1 (by rw [o1]; rfl)
      have p2 : ∀ (v1 v2 v3 : Value), (part f2.type #[v1, v2, v3] f2.offset).run P w = .ok v2 w := fun v1 v2 v3 => run_part_i64 h2 (by rw [o2]; rfl)
      have p3 : ∀ (v1 v2 v3 : Value), (part f3.type #[v1, v2, v3] f3.offset).run P w = .ok v3 w := fun v1 v2 v3 => run_part_one a3 (by rw [o3]; rfl)
      have e1 : (Op.equalIn (dp + 1) f1.type (St x.s) (St x.s)).run P w = .ok true w := by
        rw [run_equalIn_string (P := P) w dp f1.type _ _ (strB_spec h1)]; simp
      have e2 : (Op.equalIn (dp + 1) f2.type (I64 x.i) (I64 x.i)).run P w = .ok true w := by
        rw [run_equalIn_int (P := P) w dp f2.type .i64 .i64 x.i x.i (i64B_spec h2)]; simp
      have e3 : (Op.equalIn (dp + 1) f3.type (.bool x.d) (.bool x.d)).run P w = .ok true w := by
        rw [run_equalIn_bool (P := P) w dp f3.type _ _ (boB_spec h3)]; simp
      simp [Op.eqFields, n1, n2, n3, p1, p2, p3, e1, e2, e3]
    · cases h
  · cases h
theorem v_neE (x : Ey) {p q : Operand} {t t' : TypeId} (hx : ev env p = some (.agg x.cells.toArray)) (hy : ev env q = some (.agg x.cells.toArray)) (h : stEB P t = true) :
    Val P env G H ⟨dst, .binOp .neq t p q t', ty, pos, aft, g⟩ (.bool false) := fun ac n ds w0 w ht hs => by
  obtain ⟨h1, h2⟩ := run_eqE (w := w) x h 9998
  have h3 := run_eqGuard_agg (P := P) w .neq t p q x.cells.toArray x.cells.toArray h2
  simp only [execOp, ht.eval hx, ht.eval hy, Sem.run_bind, h3, Result.andThen_ok, run_neq_struct, h1, Sem.run_pure]; rfl
end
theorem st_at (q : Nq) (vs vd : Value) (j : Nat) (u : Value) (hj : [I64 q.c, I64 q.l, I64 q.s][j]? = some u) : (q.cells vs vd)[0 + 0 + j]? = some u := by
  match j, hj with
  | 0, k => exact k
  | 1, k => exact k
  | 2, k => exact k
  | n + 3, k => simp at k
attribute [local irreducible] Code.wp wpList stepK Holds Val wpR Eff Eff0 Code.wpIn wpListIn stepI Exit.then Exit.inBlock bodyPost bodyPostM

theorem rdsame_c (vl vk : Value) (l k : List Dl) (w0 w : World) (G : Im) (F : Hp) (hl : RecV 14 DlR G vl l) (hk : RecV 14 DlR G vk k) (hs : Sat w0 w G F) :
    Calls Try.prog 57 #[vl, vk] w fun e w' => e = .returned (.bool (decide (l = k))) ∧ Sat w0 w' G F := by
  obtain ⟨adl, cpl, rfl, hl1, hl2⟩ := hl.form
  obtain ⟨adk, cpk, rfl, hk1, hk2⟩ := hk.form
  unfold maxLen at hl2 hk2
  refine f_enter (vs := [_, _]) Try.func57 rfl Try.ntmps57 (by simp) hs ?_
  refine ww ?_
  refine c_cond_d rfl (fun c1 => ?_) (fun c1 => ?_)
  · -- then
    refine ww ?_
    exact f_ret1 rfl rfl (fun w hs => ⟨by rw [decide_eq_false (show ¬ l = k from fun h => c1 (by rw [h]))], hs⟩)
  have hlk : l.length = k.length := by omega
  refine ww ?_
  refine c_loop (α := Nat) (fun i => [(0, .slice adl l.length cpl), (1, .slice adk k.length cpk), (5, I64 i)]) (fun _ => G) (fun x => F) (fun i => i ≤ l.length ∧ l.take i = k.take i) (fun x => l.length - x) 0 ⟨Nat.zero_le _, rfl⟩ ?_ ?_
  · exact n_at ⟨rfl, rfl, rfl, trivial⟩ sbx
  rintro i ⟨hi, heq⟩
  refine ww ?_
  refine c_cond_d rfl (fun c2 => ?_) (fun c2 => ?_)
  · -- then
    have hil : i < l.length := by omega
    have hik : i < k.length := by omega
    obtain ⟨blx, olx, clx, cellsx, hvex, hcex, _, hcelx⟩ := hl.at (by decide) i (by omega)
    cases hvex
    obtain ⟨x, hxx⟩ : ∃ x, x = l[i] := ⟨_, rfl⟩
    rw [← hxx] at hcex
    unfold DlR at hcex
    subst hcex
    have hcx : ∀ (H : Hp) (f : Nat) u, x.cells[f]? = some u → Cel G H blx (olx + (i : Int).toNat * 14 + f) u := fun H f u h => by rw [Int.toNat_natCast]; exact hcelx H f u h
    obtain ⟨bly, oly, cly, cellsy, hvey, hcey, _, hcely⟩ := hk.at (by decide) i (by omega)
    cases hvey
    obtain ⟨y, hxy⟩ : ∃ x, x = k[i] := ⟨_, rfl⟩
    rw [← hxy] at hcey
    unfold DlR at hcey
    subst hcey
    have hcy : ∀ (H : Hp) (f : Nat) u, y.cells[f]? = some u → Cel G H bly (oly + (i : Int).toNat * 14 + f) u := fun H f u h => by rw [Int.toNat_natCast]; exact hcely H f u h
    refine ww ?_
    refine r_start [] (by kernel_rfl) ?_
    refine r_tk 0 rfl rfl (v_move rfl) (fun _ h => h) ?_
    refine r_tk 1 rfl rfl (v_move rfl) (fun _ h => h) ?_
    refine r_tk 2 rfl rfl (v_index 14 rfl rfl (by kernel_rfl) (by omega)) (fun _ h => h) ?_
    refine r_tk 3 rfl rfl (v_loadAgg (vs := x.cells) rfl (by kernel_rfl) (by kernel_rfl) rfl (fun j u hj => hcx _ j u hj)) (fun _ h => h) ?_
    refine r_tk 4 rfl rfl (v_move rfl) (fun _ h => h) ?_
    refine r_tk 5 rfl rfl (v_move rfl) (fun _ h => h) ?_
    refine r_tk 6 rfl rfl (v_index 14 rfl rfl (by kernel_rfl) (by omega)) (fun _ h => h) ?_
    refine r_tk 7 rfl rfl (v_loadAgg (vs := y.cells) rfl (by kernel_rfl) (by kernel_rfl) rfl (fun j u hj => hcy _ j u hj)) (fun _ h => h) ?_
    refine r_tk 8 rfl rfl (v_neD x y rfl rfl (by kernel_rfl)) (fun _ h => h) ?_
    refine r_done (by kernel_rfl) ?_
    refine ww ?_
    refine c_cond_nd rfl (fun c3 => ?_) (fun c3 => ?_)
    · -- then
      refine ww ?_
      exact f_ret1 rfl rfl (fun w hs => ⟨by rw [decide_eq_false (show ¬ l = k from fun h => c3 (by rw [hxx, hxy]; subst h; rfl))], hs⟩)
    refine ww ?_
    exact n_next (x := i) (i + 1) ⟨by omega, take_eq_next i hil hik heq (by rw [← hxx, ← hxy]; exact c3)⟩ (by omega) ⟨rfl, rfl, rfl, trivial⟩ rfl sbx
  have e : i = l.length := by omega
  refine ww ?_
  exact f_ret1 rfl rfl (fun w hs => ⟨by rw [decide_eq_true (show l = k from by rw [e, List.take_length, hlk, List.take_length] at heq; exact heq)], hs⟩)

theorem rsameq_c (q : Nq) (vs vd us ud : Value) (w0 w : World) (G : Im) (F : Hp) (h1 : RecV 4 SzR G vs q.ss) (h2 : RecV 14 DlR G vd q.ds) (h3 : RecV 4 SzR G us q.ss) (h4 : RecV 14 DlR G ud q.ds) (hs : Sat w0 w G F) :
    Calls Try.prog 14 #[.agg (q.cells vs vd).toArray, .agg (q.cells us ud).toArray] w fun e w' => e = .returned (.bool true) ∧ Sat w0 w' G F := by
  obtain ⟨ads, cps, rfl, hs1, hs2⟩ := h1.form
  obtain ⟨adt, cpt, rfl, ht1, ht2⟩ := h3.form
  unfold maxLen at hs2 ht2
  refine f_enter (vs := [_, _]) Try.func14 rfl Try.ntmps14 (by simp) hs ?_
  refine ww ?_
  refine c_cons (s_boxA [_, _, _, _, _, _, _, _, _, _, _, _, _, _] rfl rfl rfl fun b1 => ?_)
  refine c_freeze .head fun G1 hG1 k1 => ?_
  refine c_cons (s_boxA [_, _, _, _, _, _, _, _, _, _, _, _, _, _] rfl rfl rfl fun b2 => ?_)
  refine c_freeze .head fun G2 hG2 k2 => ?_
  replace k1 := hG2 _ _ k1
  replace h1 := h1.up SzR.up (hG1.trans hG2)
  replace h2 := h2.up DlR.up (hG1.trans hG2)
  replace h3 := h3.up SzR.up (hG1.trans hG2)
  replace h4 := h4.up DlR.up (hG1.trans hG2)
  refine ww ?_
  refine c_cons (s_val (v_field 0 rfl (by kernel_rfl)) rfl rfl rfl ?_)
  refine c_cons (s_val (v_loadAgg (vs := [I64 q.c, I64 q.l, I64 q.s]) rfl (by kernel_rfl) (by kernel_rfl) rfl (fun j u hj => Cel.imm k1 (st_at q _ _ j u hj))) rfl rfl rfl ?_)
  refine c_cons (s_val (v_field 0 rfl (by kernel_rfl)) rfl rfl rfl ?_)
  refine c_cons (s_val (v_loadAgg (vs := [I64 q.c, I64 q.l, I64 q.s]) rfl (by kernel_rfl) (by kernel_rfl) rfl (fun j u hj => Cel.imm k2 (st_at q _ _ j u hj))) rfl rfl rfl ?_)
  refine c_cons (s_val (v_is (v_ne3 rfl rfl (by kernel_rfl)) (by simp : _ = Value.bool false)) rfl rfl rfl ?_)
  refine ww ?_
  refine c_cons (s_val (v_field 3 rfl (by kernel_rfl)) rfl rfl rfl ?_)
  refine c_cons (s_val (v_load rfl (Cel.imm k1 rfl) (by kernel_rfl)) rfl rfl rfl ?_)
  refine c_cons (s_val (v_field 3 rfl (by kernel_rfl)) rfl rfl rfl ?_)
  refine c_cons (s_val (v_load rfl (Cel.imm k2 rfl) (by kernel_rfl)) rfl rfl rfl ?_)
  refine c_cons (s_val (v_neq_same rfl rfl) rfl rfl rfl ?_)
  refine ww ?_
  refine c_cons (s_val (v_field 4 rfl (by kernel_rfl)) rfl rfl rfl ?_)
  refine c_cons (s_val (v_load rfl (Cel.imm k1 rfl) (by kernel_rfl)) rfl rfl rfl ?_)
  refine c_cons (s_val (v_field 4 rfl (by kernel_rfl)) rfl rfl rfl ?_)
  refine c_cons (s_val (v_load rfl (Cel.imm k2 rfl) (by kernel_rfl)) rfl rfl rfl ?_)
  refine c_cons (s_val (v_f (v_strneq rfl rfl) (fun h => h rfl)) rfl rfl rfl ?_)
  refine ww ?_
  refine c_cons (s_val (v_field 5 rfl (by kernel_rfl)) rfl rfl rfl ?_)
  refine c_cons (s_val (v_load rfl (Cel.imm k1 rfl) (by kernel_rfl)) rfl rfl rfl ?_)
  refine c_cons (s_val (v_field 5 rfl (by kernel_rfl)) rfl rfl rfl ?_)
  refine c_cons (s_val (v_load rfl (Cel.imm k2 rfl) (by kernel_rfl)) rfl rfl rfl ?_)
  refine c_cons (s_val (v_f (v_strneq rfl rfl) (fun h => h rfl)) rfl rfl rfl ?_)
  refine ww ?_
  refine c_cons (s_val (v_field 6 rfl (by kernel_rfl)) rfl rfl rfl ?_)
  refine c_cons (s_val (v_load rfl (Cel.imm k1 rfl) (by kernel_rfl)) rfl rfl rfl ?_)
  refine c_cons (s_val (v_field 6 rfl (by kernel_rfl)) rfl rfl rfl ?_)
  refine c_cons (s_val (v_load rfl (Cel.imm k2 rfl) (by kernel_rfl)) rfl rfl rfl ?_)
  refine c_cons (s_val (v_is (v_neb rfl rfl (by kernel_rfl)) (by simp : _ = Value.bool false)) rfl rfl rfl ?_)
  refine ww ?_
  refine c_cons (s_val (v_field 7 rfl (by kernel_rfl)) rfl rfl rfl ?_)
  refine c_cons (s_val (v_load rfl (Cel.imm k1 rfl) (by kernel_rfl)) rfl rfl rfl ?_)
  refine c_cons (s_val (v_field 7 rfl (by kernel_rfl)) rfl rfl rfl ?_)
  refine c_cons (s_val (v_load rfl (Cel.imm k2 rfl) (by kernel_rfl)) rfl rfl rfl ?_)
  refine c_cons (s_val (v_is (v_neb rfl rfl (by kernel_rfl)) (by simp : _ = Value.bool false)) rfl rfl rfl ?_)
  refine ww ?_
  refine c_cons (s_val (v_field 8 rfl (by kernel_rfl)) rfl rfl rfl ?_)
  refine c_cons (s_val (v_load rfl (Cel.imm k1 rfl) (by kernel_rfl)) rfl rfl rfl ?_)
  refine c_cons (s_val (v_field 8 rfl (by kernel_rfl)) rfl rfl rfl ?_)
  refine c_cons (s_val (v_load rfl (Cel.imm k2 rfl) (by kernel_rfl)) rfl rfl rfl ?_)
  refine c_cons (s_val (v_is (v_neb rfl rfl (by kernel_rfl)) (by simp : _ = Value.bool false)) rfl rfl rfl ?_)
  refine ww ?_
  refine c_cons (s_val (v_field 9 rfl (by kernel_rfl)) rfl rfl rfl ?_)
  refine c_cons (s_val (v_load rfl (Cel.imm k1 rfl) (by kernel_rfl)) rfl rfl rfl ?_)
  refine c_cons (s_val (v_field 9 rfl (by kernel_rfl)) rfl rfl rfl ?_)
  refine c_cons (s_val (v_load rfl (Cel.imm k2 rfl) (by kernel_rfl)) rfl rfl rfl ?_)
  refine c_cons (s_val (v_neq_same rfl rfl) rfl rfl rfl ?_)
  refine ww ?_
  refine c_cons (s_val (v_field 10 rfl (by kernel_rfl)) rfl rfl rfl ?_)
  refine c_cons (s_val (v_load rfl (Cel.imm k1 rfl) (by kernel_rfl)) rfl rfl rfl ?_)
  refine c_cons (s_val (v_field 10 rfl (by kernel_rfl)) rfl rfl rfl ?_)
  refine c_cons (s_val (v_load rfl (Cel.imm k2 rfl) (by kernel_rfl)) rfl rfl rfl ?_)
  refine c_cons (s_val (v_neq_same rfl rfl) rfl rfl rfl ?_)
  refine ww ?_
  refine c_cons (s_val (v_field 11 rfl (by kernel_rfl)) rfl rfl rfl ?_)
  refine c_cons (s_val (v_load rfl (Cel.imm k1 rfl) (by kernel_rfl)) rfl rfl rfl ?_)
  refine c_cons (s_val (v_field 11 rfl (by kernel_rfl)) rfl rfl rfl ?_)
  refine c_cons (s_val (v_load rfl (Cel.imm k2 rfl) (by kernel_rfl)) rfl rfl rfl ?_)
  refine c_cons (s_val (v_neq_same rfl rfl) rfl rfl rfl ?_)
  refine ww ?_
  refine c_cons (s_val (v_field 12 rfl (by kernel_rfl)) rfl rfl rfl ?_)
  refine c_cons (s_val (v_load rfl (Cel.imm k1 rfl) (by kernel_rfl)) rfl rfl rfl ?_)
  refine c_cons (s_val (v_len rfl (by kernel_rfl)) rfl rfl rfl ?_)
  refine c_cons (s_val (v_field 12 rfl (by kernel_rfl)) rfl rfl rfl ?_)
  refine c_cons (s_val (v_load rfl (Cel.imm k2 rfl) (by kernel_rfl)) rfl rfl rfl ?_)
  refine c_cons (s_val (v_len rfl (by kernel_rfl)) rfl rfl rfl ?_)
  refine c_cons (s_val (v_neq_same rfl rfl) rfl rfl rfl ?_)
  refine ww ?_
  refine c_cons (s_val (v_field 13 rfl (by kernel_rfl)) rfl rfl rfl ?_)
  refine c_cons (s_val (v_load rfl (Cel.imm k1 rfl) (by kernel_rfl)) rfl rfl rfl ?_)
  refine c_cons (s_val (v_field 13 rfl (by kernel_rfl)) rfl rfl rfl ?_)
  refine c_cons (s_val (v_load rfl (Cel.imm k2 rfl) (by kernel_rfl)) rfl rfl rfl ?_)
  refine c_cons (s_call (xs := [_, _]) rfl rfl rfl rfl rfl rfl (by kernel_rfl) (fun w hs => rdsame_c _ _ q.ds q.ds _ w _ _ h2 h4 hs) ?_)
  rintro e w' ⟨rfl, hs'⟩; refine a_ret ?_ hs'; clear hs'
  rw [decide_eq_true (show q.ds = q.ds from rfl)]
  refine ww ?_
  refine c_cond_f rfl ?_
  refine ww ?_
  refine c_loop (α := Nat) (fun x => [(2, Pt b1 0), (3, Pt b2 0), (5, I64 x)]) (fun _ => G2) (fun x => F) (fun x => x ≤ q.ss.length) (fun x => q.ss.length - x) 0 (Nat.zero_le _) ?_ ?_
  · exact n_at ⟨rfl, rfl, rfl, trivial⟩ sbx
  rintro i hi
  refine ww ?_
  refine c_cons (s_val (v_field 12 rfl (by kernel_rfl)) rfl rfl rfl ?_)
  refine c_cons (s_val (v_load rfl (Cel.imm k1 rfl) (by kernel_rfl)) rfl rfl rfl ?_)
  refine ww ?_
  refine c_cond_d rfl (fun c1 => ?_) (fun c1 => ?_)
  · -- then
    have hil : i < q.ss.length := by omega
    obtain ⟨blx, olx, clx, cellsx, hvex, hcex, _, hcelx⟩ := h1.at (by decide) i (by omega)
    cases hvex
    obtain ⟨bly, oly, cly, cellsy, hvey, hcey, _, hcely⟩ := h3.at (by decide) i (by omega)
    cases hvey
    obtain ⟨x, hxx⟩ : ∃ x, x = q.ss[i] := ⟨_, rfl⟩
    rw [← hxx] at hcex hcey
    unfold SzR at hcex hcey
    subst hcex
    subst hcey
    have hcx : ∀ (H : Hp) (f : Nat) u, x.cells[f]? = some u → Cel G2 H blx (olx + (i : Int).toNat * 4 + f) u := fun H f u h => by rw [Int.toNat_natCast]; exact hcelx H f u h
    have hcy : ∀ (H : Hp) (f : Nat) u, x.cells[f]? = some u → Cel G2 H bly (oly + (i : Int).toNat * 4 + f) u := fun H f u h => by rw [Int.toNat_natCast]; exact hcely H f u h
    refine ww ?_
    refine r_startS [] [] (by kernel_rfl) (fun w h => h.none) ?_
    refine r_tk 0 rfl rfl (v_field 12 rfl (by kernel_rfl)) (fun _ h => h.none) ?_
    refine r_tk 1 rfl rfl (v_load rfl (Cel.imm k1 rfl) (by kernel_rfl)) (fun _ h => h.none) ?_
    refine r_tk 2 rfl rfl (v_move rfl) (fun _ h => h.none) ?_
    refine r_tk 3 rfl rfl (v_index 4 rfl rfl (by kernel_rfl) (by omega)) (fun _ h => h.none) ?_
    refine r_tk 4 rfl rfl (v_loadAgg (vs := x.cells) rfl (by kernel_rfl) (by kernel_rfl) rfl (fun j u hj => hcx _ j u hj)) (fun _ h => h.none) ?_
    refine r_tk 5 rfl rfl (v_field 12 rfl (by kernel_rfl)) (fun _ h => h.none) ?_
    refine r_tk 6 rfl rfl (v_load rfl (Cel.imm k2 rfl) (by kernel_rfl)) (fun _ h => h.none) ?_
    refine r_tk 7 rfl rfl (v_move rfl) (fun _ h => h.none) ?_
    refine r_tk 8 rfl rfl (v_index 4 rfl rfl (by kernel_rfl) (by omega)) (fun _ h => h.none) ?_
    refine r_tk 9 rfl rfl (v_loadAgg (vs := x.cells) rfl (by kernel_rfl) (by kernel_rfl) rfl (fun j u hj => hcy _ j u hj)) (fun _ h => h.none) ?_
    refine r_tk 10 rfl rfl (v_neZ x rfl rfl (by kernel_rfl)) (fun _ h => h.none) ?_
    refine r_done (by kernel_rfl) ?_
    refine ww ?_
    refine c_cond_f rfl ?_
    refine ww ?_
    exact n_next (x := i) (i + 1) (by omega) (by omega) ⟨rfl, rfl, rfl, trivial⟩ rfl sbx
  refine ww ?_
  exact f_ret1 rfl rfl (fun w hs => ⟨rfl, hs.weaken (hG1.trans hG2)⟩)

theorem rsamee_c (l : List Ey) (vl vk : Value) (w0 w : World) (G : Im) (F : Hp) (h1 : RecV 3 EyC G vl l) (h3 : RecV 3 EyC G vk l) (hs : Sat w0 w G F) :
    Calls Try.prog 62 #[vl, vk] w fun e w' => e = .returned (.bool true) ∧ Sat w0 w' G F := by
  obtain ⟨adl, cpl, rfl, hl1, hl2⟩ := h1.form
  obtain ⟨adk, cpk, rfl, hk1, hk2⟩ := h3.form
  unfold maxLen at hl2 hk2
  refine f_enter (vs := [_, _]) Try.func62 rfl Try.ntmps62 (by simp) hs ?_
  refine ww ?_
  refine c_cond_d rfl (fun c1 => absurd rfl c1) (fun c1 => ?_)
  refine ww ?_
  refine c_loop (α := Nat) (fun i => [(0, .slice adl l.length cpl), (1, .slice adk l.length cpk), (5, I64 i)]) (fun _ => G) (fun x => F) (fun i => i ≤ l.length) (fun x => l.length - x) 0 (Nat.zero_le _) ?_ ?_
  · exact n_at ⟨rfl, rfl, rfl, trivial⟩ sbx
  rintro i hi
  refine ww ?_
  refine c_cond_d rfl (fun c2 => ?_) (fun c2 => ?_)
  · -- then
    have hil : i < l.length := by omega
    obtain ⟨blx, olx, clx, cellsx, hvex, hcex, _, hcelx⟩ := h1.at (by decide) i (by omega)
    cases hvex
    obtain ⟨bly, oly, cly, cellsy, hvey, hcey, _, hcely⟩ := h3.at (by decide) i (by omega)
    cases hvey
    obtain ⟨x, hxx⟩ : ∃ x, x = l[i] := ⟨_, rfl⟩
    rw [← hxx] at hcex hcey
    unfold EyC at hcex hcey
    subst hcex
    subst hcey
    have hcx : ∀ (H : Hp) (f : Nat) u, x.cells[f]? = some u → Cel G H blx (olx + (i : Int).toNat * 3 + f) u := fun H f u h => by rw [Int.toNat_natCast]; exact hcelx H f u h
    have hcy : ∀ (H : Hp) (f : Nat) u, x.cells[f]? = some u → Cel G H bly (oly + (i : Int).toNat * 3 + f) u := fun H f u h => by rw [Int.toNat_natCast]; exact hcely H f u h
    refine ww ?_
    refine r_start [] (by kernel_rfl) ?_
    refine r_tk 0 rfl rfl (v_move rfl) (fun _ h => h) ?_
    refine r_tk 1 rfl rfl (v_move rfl) (fun _ h => h) ?_
    refine r_tk 2 rfl rfl (v_index 3 rfl rfl (by kernel_rfl) (by omega)) (fun _ h => h) ?_
    refine r_tk 3 rfl rfl (v_loadAgg (vs := x.cells) rfl (by kernel_rfl) (by kernel_rfl) rfl (fun j u hj => hcx _ j u hj)) (fun _ h => h) ?_
    refine r_tk 4 rfl rfl (v_move rfl) (fun _ h => h) ?_
    refine r_tk 5 rfl rfl (v_move rfl) (fun _ h => h) ?_
    refine r_tk 6 rfl rfl (v_index 3 rfl rfl (by kernel_rfl) (by omega)) (fun _ h => h) ?_
    refine r_tk 7 rfl rfl (v_loadAgg (vs := x.cells) rfl (by kernel_rfl) (by kernel_rfl) rfl (fun j u hj => hcy _ j u hj)) (fun _ h => h) ?_
    refine r_tk 8 rfl rfl (v_neE x rfl rfl (by kernel_rfl)) (fun _ h => h) ?_
    refine r_done (by kernel_rfl) ?_
    refine ww ?_
    refine c_cond_f rfl ?_
    refine ww ?_
    exact n_next (x := i) (i + 1) (by omega) (by omega) ⟨rfl, rfl, rfl, trivial⟩ rfl sbx
  refine ww ?_
  exact f_ret1 rfl rfl (fun w hs => ⟨rfl, hs⟩)

theorem rsamep_c (q : Np) (ve vm ue um : Value) (w0 w : World) (G : Im) (F : Hp) (h1 : RecV 3 EyC G ve q.es) (h2 : EB G vm q.m) (h3 : RecV 3 EyC G ue q.es) (h4 : EB G um q.m) (hs : Sat w0 w G F) :
    Calls Try.prog 21 #[.agg (q.cells ve vm).toArray, .agg (q.cells ue um).toArray] w fun e w' => e = .returned (.bool true) ∧ Sat w0 w' G F := by
  obtain ⟨ads, cps, rfl, hs1, hs2⟩ := h1.form
  obtain ⟨adt, cpt, rfl, ht1, ht2⟩ := h3.form
  obtain ⟨adm, cpm, hve⟩ := h2.form
  subst hve
  obtain ⟨adn, cpn, hve⟩ := h4.form
  subst hve
  refine f_enter (vs := [_, _]) Try.func21 rfl Try.ntmps21 (by simp) hs ?_
  refine ww ?_
  refine c_cons (s_boxA [_, _, _, _, _, _, _, _] rfl rfl rfl fun b1 => ?_)
  refine c_freeze .head fun G1 hG1 k1 => ?_
  refine c_cons (s_boxA [_, _, _, _, _, _, _, _] rfl rfl rfl fun b2 => ?_)
  refine c_freeze .head fun G2 hG2 k2 => ?_
  replace k1 := hG2 _ _ k1
  replace h1 := h1.up EyC.up (hG1.trans hG2)
  replace h2 := h2.up (H := []) (hG1.trans hG2)
  replace h3 := h3.up EyC.up (hG1.trans hG2)
  replace h4 := h4.up (H := []) (hG1.trans hG2)
  refine ww ?_
  refine c_cons (s_val (v_field 0 rfl (by kernel_rfl)) rfl rfl rfl ?_)
  refine c_cons (s_val (v_load rfl (Cel.imm k1 rfl) (by kernel_rfl)) rfl rfl rfl ?_)
  refine c_cons (s_val (v_field 0 rfl (by kernel_rfl)) rfl rfl rfl ?_)
  refine c_cons (s_val (v_load rfl (Cel.imm k2 rfl) (by kernel_rfl)) rfl rfl rfl ?_)
  refine c_cons (s_val (v_eql_same rfl rfl) rfl rfl rfl ?_)
  refine ww ?_
  refine c_cons (s_val (v_field 1 rfl (by kernel_rfl)) rfl rfl rfl ?_)
  refine c_cons (s_val (v_load rfl (Cel.imm k1 rfl) (by kernel_rfl)) rfl rfl rfl ?_)
  refine c_cons (s_val (v_field 1 rfl (by kernel_rfl)) rfl rfl rfl ?_)
  refine c_cons (s_val (v_load rfl (Cel.imm k2 rfl) (by kernel_rfl)) rfl rfl rfl ?_)
  refine c_cons (s_val (v_eql_same rfl rfl) rfl rfl rfl ?_)
  refine ww ?_
  refine c_cons (s_val (v_field 2 rfl (by kernel_rfl)) rfl rfl rfl ?_)
  refine c_cons (s_val (v_load rfl (Cel.imm k1 rfl) (by kernel_rfl)) rfl rfl rfl ?_)
  refine c_cons (s_val (v_field 2 rfl (by kernel_rfl)) rfl rfl rfl ?_)
  refine c_cons (s_val (v_load rfl (Cel.imm k2 rfl) (by kernel_rfl)) rfl rfl rfl ?_)
  refine c_cons (s_val (v_eql_same rfl rfl) rfl rfl rfl ?_)
  refine ww ?_
  refine c_cons (s_val (v_field 3 rfl (by kernel_rfl)) rfl rfl rfl ?_)
  refine c_cons (s_val (v_load rfl (Cel.imm k1 rfl) (by kernel_rfl)) rfl rfl rfl ?_)
  refine c_cons (s_val (v_field 3 rfl (by kernel_rfl)) rfl rfl rfl ?_)
  refine c_cons (s_val (v_load rfl (Cel.imm k2 rfl) (by kernel_rfl)) rfl rfl rfl ?_)
  refine c_cons (s_val (v_eql_same rfl rfl) rfl rfl rfl ?_)
  refine ww ?_
  refine c_cons (s_val (v_field 4 rfl (by kernel_rfl)) rfl rfl rfl ?_)
  refine c_cons (s_val (v_load rfl (Cel.imm k1 rfl) (by kernel_rfl)) rfl rfl rfl ?_)
  refine c_cons (s_val (v_field 4 rfl (by kernel_rfl)) rfl rfl rfl ?_)
  refine c_cons (s_val (v_load rfl (Cel.imm k2 rfl) (by kernel_rfl)) rfl rfl rfl ?_)
  refine c_cons (s_val (v_eql_same rfl rfl) rfl rfl rfl ?_)
  refine ww ?_
  refine c_cons (s_val (v_field 5 rfl (by kernel_rfl)) rfl rfl rfl ?_)
  refine c_cons (s_val (v_load rfl (Cel.imm k1 rfl) (by kernel_rfl)) rfl rfl rfl ?_)
  refine c_cons (s_val (v_field 5 rfl (by kernel_rfl)) rfl rfl rfl ?_)
  refine c_cons (s_val (v_load rfl (Cel.imm k2 rfl) (by kernel_rfl)) rfl rfl rfl ?_)
  refine c_cons (s_val (v_eqb_same rfl rfl (by kernel_rfl)) rfl rfl rfl ?_)
  refine ww ?_
  refine c_cons (s_val (v_field 6 rfl (by kernel_rfl)) rfl rfl rfl ?_)
  refine c_cons (s_val (v_load rfl (Cel.imm k1 rfl) (by kernel_rfl)) rfl rfl rfl ?_)
  refine c_cons (s_val (v_field 6 rfl (by kernel_rfl)) rfl rfl rfl ?_)
  refine c_cons (s_val (v_load rfl (Cel.imm k2 rfl) (by kernel_rfl)) rfl rfl rfl ?_)
  refine c_cons (s_call (xs := [_, _]) rfl rfl rfl rfl rfl rfl (by kernel_rfl) (fun w hs => rsamee_c q.es _ _ _ w _ _ h1 h3 hs) ?_)
  rintro e w' ⟨rfl, hs'⟩; refine a_ret ?_ hs'; clear hs'
  refine ww ?_
  refine c_cons (s_val (v_field 7 rfl (by kernel_rfl)) rfl rfl rfl ?_)
  refine c_cons (s_val (v_load rfl (Cel.imm k1 rfl) (by kernel_rfl)) rfl rfl rfl ?_)
  refine c_cons (s_val (v_field 7 rfl (by kernel_rfl)) rfl rfl rfl ?_)
  refine c_cons (s_val (v_load rfl (Cel.imm k2 rfl) (by kernel_rfl)) rfl rfl rfl ?_)
  refine c_cons (s_call (xs := [_, _]) rfl rfl rfl rfl rfl rfl (by kernel_rfl) (fun w hs => same_c _ _ q.m q.m _ w _ _ (h2.up (Im.le_refl _)) (h4.up (Im.le_refl _)) hs) ?_)
  rintro e w' ⟨rfl, hs'⟩; refine a_ret ?_ hs'; clear hs'
  rw [decide_eq_true (show q.m = q.m from rfl)]
  refine ww ?_
  exact f_ret1 rfl rfl (fun w hs => ⟨rfl, hs.weaken (hG1.trans hG2)⟩)

theorem nrep_c (q : Np) (ve vm : Value) (w0 w : World) (G : Im) (F : Hp) (h1 : RecV 3 EyC G ve q.es) (h2 : EB G vm q.m) (hs : Sat w0 w G F) :
    Calls Try.prog 18 #[.agg (q.cells ve vm).toArray] w fun e w' => e = .returned (.agg (q.cells ve vm).toArray) ∧ Sat w0 w' G F := by
  obtain ⟨ads, cps, rfl, hs1, hs2⟩ := h1.form
  obtain ⟨adm, cpm, hve⟩ := h2.form
  subst hve
  refine f_enter (vs := [_]) Try.func18 rfl Try.ntmps18 (by simp) hs ?_
  refine ww ?_
  refine c_cons (s_boxA [_, _, _, _, _, _, _, _] rfl rfl rfl fun b1 => ?_)
  refine c_freeze .head fun G1 hG1 k1 => ?_
  refine c_cons (s_allocA (zNp.cells (.slice none 0 0) (.slice none 0 0)) (by kernel_rfl) rfl rfl fun b2 => ?_)
  refine ww ?_
  refine c_cons (s_val (v_field 0 rfl (by kernel_rfl)) rfl rfl rfl ?_)
  refine c_cons (s_val (v_load rfl (Cel.imm k1 rfl) (by kernel_rfl)) rfl rfl rfl ?_)
  refine c_cons (s_val (v_field 1 rfl (by kernel_rfl)) rfl rfl rfl ?_)
  refine c_cons (s_val (v_load rfl (Cel.imm k1 rfl) (by kernel_rfl)) rfl rfl rfl ?_)
  refine c_cons (s_val (v_field 2 rfl (by kernel_rfl)) rfl rfl rfl ?_)
  refine c_cons (s_val (v_load rfl (Cel.imm k1 rfl) (by kernel_rfl)) rfl rfl rfl ?_)
  refine c_cons (s_val (v_field 3 rfl (by kernel_rfl)) rfl rfl rfl ?_)
  refine c_cons (s_val (v_load rfl (Cel.imm k1 rfl) (by kernel_rfl)) rfl rfl rfl ?_)
  refine c_cons (s_val (v_field 4 rfl (by kernel_rfl)) rfl rfl rfl ?_)
  refine c_cons (s_val (v_load rfl (Cel.imm k1 rfl) (by kernel_rfl)) rfl rfl rfl ?_)
  refine c_cons (s_val (v_field 5 rfl (by kernel_rfl)) rfl rfl rfl ?_)
  refine c_cons (s_val (v_load rfl (Cel.imm k1 rfl) (by kernel_rfl)) rfl rfl rfl ?_)
  refine c_cons (s_val (v_field 6 rfl (by kernel_rfl)) rfl rfl rfl ?_)
  refine c_cons (s_val (v_load rfl (Cel.imm k1 rfl) (by kernel_rfl)) rfl rfl rfl ?_)
  refine c_cons (s_val (v_field 7 rfl (by kernel_rfl)) rfl rfl rfl ?_)
  refine c_cons (s_val (v_load rfl (Cel.imm k1 rfl) (by kernel_rfl)) rfl rfl rfl ?_)
  refine c_cons (s_val (v_build (ps := [_, _, _, _, _, _, _, _]) (q.cells (.slice ads q.es.length cps) (.slice adm q.m.length cpm)).toArray rfl (by kernel_rfl)) rfl rfl rfl ?_)
  refine c_cons (s_storeA (vs := q.cells (.slice ads q.es.length cps) (.slice adm q.m.length cpm)) rfl rfl rfl .head (by kernel_rfl) (by simp [Value.oneCell']) rfl ?_)
  refine ww ?_
  exact f_retA (vs := q.cells (.slice ads q.es.length cps) (.slice adm q.m.length cpm)) rfl rfl (by kernel_rfl) (by kernel_rfl) rfl (fun j u hj => (Cel.all hj)) (fun w hs => ⟨rfl, hs.tl.weaken hG1⟩)

theorem nsaid_c (q : Np) (ve vm : Value) (w0 w : World) (G : Im) (F : Hp) (h1 : RecV 3 EyC G ve q.es) (h2 : EB G vm q.m) (hs : Sat w0 w G F) :
    Calls Try.prog 22 #[.agg (q.cells ve vm).toArray] w fun e w' => e = .returned (.agg (q.cells ve vm).toArray) ∧ Sat w0 w' G F := by
  obtain ⟨ads, cps, rfl, hs1, hs2⟩ := h1.form
  obtain ⟨adm, cpm, hve⟩ := h2.form
  subst hve
  refine f_enter (vs := [_]) Try.func22 rfl Try.ntmps22 (by simp) hs ?_
  refine ww ?_
  refine c_cons (s_boxA [_, _, _, _, _, _, _, _] rfl rfl rfl fun b1 => ?_)
  refine c_freeze .head fun G1 hG1 k1 => ?_
  refine c_cons (s_allocA (zNp.cells (.slice none 0 0) (.slice none 0 0)) (by kernel_rfl) rfl rfl fun b2 => ?_)
  refine ww ?_
  refine c_cons (s_val (v_field 0 rfl (by kernel_rfl)) rfl rfl rfl ?_)
  refine c_cons (s_val (v_load rfl (Cel.imm k1 rfl) (by kernel_rfl)) rfl rfl rfl ?_)
  refine c_cons (s_val (v_field 1 rfl (by kernel_rfl)) rfl rfl rfl ?_)
  refine c_cons (s_val (v_load rfl (Cel.imm k1 rfl) (by kernel_rfl)) rfl rfl rfl ?_)
  refine c_cons (s_val (v_field 2 rfl (by kernel_rfl)) rfl rfl rfl ?_)
  refine c_cons (s_val (v_load rfl (Cel.imm k1 rfl) (by kernel_rfl)) rfl rfl rfl ?_)
  refine c_cons (s_val (v_field 3 rfl (by kernel_rfl)) rfl rfl rfl ?_)
  refine c_cons (s_val (v_load rfl (Cel.imm k1 rfl) (by kernel_rfl)) rfl rfl rfl ?_)
  refine c_cons (s_val (v_field 4 rfl (by kernel_rfl)) rfl rfl rfl ?_)
  refine c_cons (s_val (v_load rfl (Cel.imm k1 rfl) (by kernel_rfl)) rfl rfl rfl ?_)
  refine c_cons (s_val (v_field 5 rfl (by kernel_rfl)) rfl rfl rfl ?_)
  refine c_cons (s_val (v_load rfl (Cel.imm k1 rfl) (by kernel_rfl)) rfl rfl rfl ?_)
  refine c_cons (s_val (v_field 6 rfl (by kernel_rfl)) rfl rfl rfl ?_)
  refine c_cons (s_val (v_load rfl (Cel.imm k1 rfl) (by kernel_rfl)) rfl rfl rfl ?_)
  refine c_cons (s_val (v_field 7 rfl (by kernel_rfl)) rfl rfl rfl ?_)
  refine c_cons (s_val (v_load rfl (Cel.imm k1 rfl) (by kernel_rfl)) rfl rfl rfl ?_)
  refine c_cons (s_val (v_build (ps := [_, _, _, _, _, _, _, _]) (q.cells (.slice ads q.es.length cps) (.slice adm q.m.length cpm)).toArray rfl (by kernel_rfl)) rfl rfl rfl ?_)
  refine c_cons (s_storeA (vs := q.cells (.slice ads q.es.length cps) (.slice adm q.m.length cpm)) rfl rfl rfl .head (by kernel_rfl) (by simp [Value.oneCell']) rfl ?_)
  refine ww ?_
  exact f_retA (vs := q.cells (.slice ads q.es.length cps) (.slice adm q.m.length cpm)) rfl rfl (by kernel_rfl) (by kernel_rfl) rfl (fun j u hj => (Cel.all hj)) (fun w hs => ⟨rfl, hs.tl.weaken hG1⟩)

theorem nreq_c (q : Nq) (vs vd : Value) (w0 w : World) (G : Im) (F : Hp) (hl : q.ss.length ≤ 100000) (hss : RecV 4 SzR G vs q.ss) (hds : RecV 14 DlR G vd q.ds) (hs : Sat w0 w G F) :
    Calls Try.prog 9 #[.agg (q.cells vs vd).toArray] w fun e w' => ∃ G' us, e = .returned (.agg (q.cells us vd).toArray) ∧ Im.le G G' ∧ RecV 4 SzR G' us q.ss ∧ Sat w0 w' G' F := by
  obtain ⟨ads, cps, rfl, hs1, hs2⟩ := hss.form
  obtain ⟨add, cpd, rfl, hd1, hd2⟩ := hds.form
  unfold maxLen at hs2
  refine f_enter (vs := [_]) Try.func9 rfl Try.ntmps9 (by simp) hs ?_
  refine ww ?_
  refine c_cons (s_boxA [_, _, _, _, _, _, _, _, _, _, _, _, _, _] rfl rfl rfl fun b1 => ?_)
  refine c_freeze .head fun G1 hG1 k1 => ?_
  replace hss := hss.up SzR.up hG1
  refine c_cons (s_allocA (zNq.cells (.slice none 0 0) (.slice none 0 0)) (by kernel_rfl) rfl rfl fun b2 => ?_)
  change Holds _ _ _ _ _ (RqO b2 zNq (.slice none 0 0) (.slice none 0 0) :: F) _
  refine ww ?_
  refine c_cons (s_val (v_field 0 rfl (by kernel_rfl)) rfl rfl rfl ?_)
  refine c_cons (s_val (v_field 0 rfl (by kernel_rfl)) rfl rfl rfl ?_)
  refine c_cons (s_val (v_load rfl (Cel.imm k1 rfl) (by kernel_rfl)) rfl rfl rfl ?_)
  refine c_cons (s_val (v_field 0 rfl (by kernel_rfl)) rfl rfl rfl ?_)
  refine c_cons (s_val (v_field 1 rfl (by kernel_rfl)) rfl rfl rfl ?_)
  refine c_cons (s_val (v_load rfl (Cel.imm k1 rfl) (by kernel_rfl)) rfl rfl rfl ?_)
  refine c_cons (s_val (v_field 0 rfl (by kernel_rfl)) rfl rfl rfl ?_)
  refine c_cons (s_val (v_field 2 rfl (by kernel_rfl)) rfl rfl rfl ?_)
  refine c_cons (s_val (v_load rfl (Cel.imm k1 rfl) (by kernel_rfl)) rfl rfl rfl ?_)
  refine c_cons (s_val (v_build (ps := [_, _, _]) #[I64 q.c, I64 q.l, I64 q.s] rfl (by kernel_rfl)) rfl rfl rfl ?_)
  refine c_cons (s_val (v_field 3 rfl (by kernel_rfl)) rfl rfl rfl ?_)
  refine c_cons (s_val (v_load rfl (Cel.imm k1 rfl) (by kernel_rfl)) rfl rfl rfl ?_)
  refine c_cons (s_val (v_field 4 rfl (by kernel_rfl)) rfl rfl rfl ?_)
  refine c_cons (s_val (v_load rfl (Cel.imm k1 rfl) (by kernel_rfl)) rfl rfl rfl ?_)
  refine c_cons (s_val (v_field 5 rfl (by kernel_rfl)) rfl rfl rfl ?_)
  refine c_cons (s_val (v_load rfl (Cel.imm k1 rfl) (by kernel_rfl)) rfl rfl rfl ?_)
  refine c_cons (s_val (v_field 6 rfl (by kernel_rfl)) rfl rfl rfl ?_)
  refine c_cons (s_val (v_load rfl (Cel.imm k1 rfl) (by kernel_rfl)) rfl rfl rfl ?_)
  refine c_cons (s_val (v_field 7 rfl (by kernel_rfl)) rfl rfl rfl ?_)
  refine c_cons (s_val (v_load rfl (Cel.imm k1 rfl) (by kernel_rfl)) rfl rfl rfl ?_)
  refine c_cons (s_val (v_field 8 rfl (by kernel_rfl)) rfl rfl rfl ?_)
  refine c_cons (s_val (v_load rfl (Cel.imm k1 rfl) (by kernel_rfl)) rfl rfl rfl ?_)
  refine c_cons (s_val (v_field 9 rfl (by kernel_rfl)) rfl rfl rfl ?_)
  refine c_cons (s_val (v_load rfl (Cel.imm k1 rfl) (by kernel_rfl)) rfl rfl rfl ?_)
  refine c_cons (s_val (v_field 10 rfl (by kernel_rfl)) rfl rfl rfl ?_)
  refine c_cons (s_val (v_load rfl (Cel.imm k1 rfl) (by kernel_rfl)) rfl rfl rfl ?_)
  refine c_cons (s_val (v_field 11 rfl (by kernel_rfl)) rfl rfl rfl ?_)
  refine c_cons (s_val (v_load rfl (Cel.imm k1 rfl) (by kernel_rfl)) rfl rfl rfl ?_)
  refine c_cons (s_val (v_field 13 rfl (by kernel_rfl)) rfl rfl rfl ?_)
  refine c_cons (s_val (v_load rfl (Cel.imm k1 rfl) (by kernel_rfl)) rfl rfl rfl ?_)
  refine c_cons (s_val (v_build (ps := [_, _, _, _, _, _, _, _, _, _, _]) (q.cells (.slice none 0 0) (.slice add q.ds.length cpd)).toArray rfl (by kernel_rfl)) rfl rfl rfl ?_)
  refine c_cons (s_allocA (zNq.cells (.slice none 0 0) (.slice none 0 0)) (by kernel_rfl) rfl rfl fun b3 => ?_)
  refine c_cons (s_storeA (vs := q.cells (.slice none 0 0) (.slice add q.ds.length cpd)) rfl rfl rfl .head (by kernel_rfl) (by simp [Value.oneCell']) rfl ?_)
  change Holds _ _ _ _ _ (RqO b3 q (.slice none 0 0) (.slice add q.ds.length cpd) :: RqO b2 zNq (.slice none 0 0) (.slice none 0 0) :: F) _
  refine ww ?_
  refine c_loop (α := Nat × Value × Hp) (fun x => [(1, Pt b1 0), (2, Pt b2 0), (3, Pt b3 0), (4, I64 x.1)]) (fun _ => G1) (fun x => RqO b3 q x.2.1 (.slice add q.ds.length cpd) :: (x.2.2 ++ (RqO b2 zNq (.slice none 0 0) (.slice none 0 0) :: F))) (fun x => x.1 ≤ q.ss.length ∧ SzO G1 x.2.1 (q.ss.take x.1) x.2.2) (fun x => q.ss.length - x.1) (0, (.slice none 0 0), []) ⟨Nat.zero_le _, ROwn.zero _ _⟩ ?_ ?_
  · exact n_at ⟨rfl, rfl, rfl, rfl, trivial⟩ sbx
  rintro ⟨i, vl, B⟩ ⟨hi, ho⟩
  dsimp only at hi ho ⊢
  refine ww ?_
  refine c_cons (s_val (v_field 12 rfl (by kernel_rfl)) rfl rfl rfl ?_)
  refine c_cons (s_val (v_load rfl (Cel.imm k1 rfl) (by kernel_rfl)) rfl rfl rfl ?_)
  refine ww ?_
  refine c_cond_d rfl (fun c1 => ?_) (fun c1 => ?_)
  · -- then
    have hil : i < q.ss.length := by omega
    obtain ⟨blx, olx, clx, cellsx, hvex, hcex, _, hcelx⟩ := hss.at (by decide) i (by omega)
    cases hvex
    obtain ⟨x, hxx⟩ : ∃ x, x = q.ss[i] := ⟨_, rfl⟩
    rw [← hxx] at hcex
    unfold SzR at hcex
    subst hcex
    have hcx : ∀ (H : Hp) (f : Nat) u, x.cells[f]? = some u → Cel G1 H blx (olx + (i : Int).toNat * 4 + f) u := fun H f u h => by rw [Int.toNat_natCast]; exact hcelx H f u h
    have htk : q.ss.take (i + 1) = q.ss.take i ++ [x] := by
      rw [List.take_add_one, List.getElem?_eq_getElem hil, ← hxx]; rfl
    have htl : (q.ss.take i).length = i := by rw [List.length_take]; omega
    obtain ⟨L, hoL, hRL⟩ := ho
    refine ww ?_
    refine r_startS [RqO b3 q vl (.slice add q.ds.length cpd)] [18] (by kernel_rfl) (fun w h => h.sb) ?_
    refine r_tk 0 rfl rfl (v_field 12 rfl (by kernel_rfl)) (fun _ h => (h.sb)) ?_
    refine r_tk 1 rfl rfl (v_load rfl (Cel.head rfl) (by kernel_rfl)) (fun _ h => (h.sb)) ?_
    refine r_tk 2 rfl rfl (v_field 12 rfl (by kernel_rfl)) (fun _ h => (h.sb)) ?_
    refine r_tk 3 rfl rfl (v_load rfl (Cel.imm k1 rfl) (by kernel_rfl)) (fun _ h => (h.sb)) ?_
    refine r_tk 4 rfl rfl (v_move rfl) (fun _ h => (h.sb)) ?_
    refine r_tk 5 rfl rfl (v_index 4 rfl rfl (by kernel_rfl) (by omega)) (fun _ h => (h.sb)) ?_
    refine r_tk 6 rfl rfl (v_field 0 rfl (by kernel_rfl)) (fun _ h => (h.sb)) ?_
    refine r_tk 7 rfl rfl (v_loadAgg (vs := [I64 x.c, I64 x.l, I64 x.n]) rfl (by kernel_rfl) (by kernel_rfl) rfl (fun j u hj => by have h1 := hcx [RqO b3 q vl (.slice add q.ds.length cpd)] _ u (str_at x j u hj); simpa only [Nat.zero_add, Nat.add_zero] using h1)) (fun _ h => (h.sb)) ?_
    refine r_tk 8 rfl rfl (v_field 12 rfl (by kernel_rfl)) (fun _ h => (h.sb)) ?_
    refine r_tk 9 rfl rfl (v_load rfl (Cel.imm k1 rfl) (by kernel_rfl)) (fun _ h => (h.sb)) ?_
    refine r_tk 10 rfl rfl (v_move rfl) (fun _ h => (h.sb)) ?_
    refine r_tk 11 rfl rfl (v_index 4 rfl rfl (by kernel_rfl) (by omega)) (fun _ h => (h.sb)) ?_
    refine r_tk 12 rfl rfl (v_field 3 rfl (by kernel_rfl)) (fun _ h => (h.sb)) ?_
    refine r_tk 13 rfl rfl (v_load rfl (hcx _ 3 _ rfl) (by kernel_rfl)) (fun _ h => (h.sb)) ?_
    refine r_tk 14 rfl rfl (v_build (ps := [_, _]) x.cells.toArray rfl (by kernel_rfl)) (fun _ h => (h.sb)) ?_
    refine r_one 15 (by kernel_rfl) rfl ?_
    refine s_litN [_] (z := .agg #[I64 0, I64 0, I64 0, I64 0]) (bs := 32) (e := 81) (sz := 4) (by kernel_rfl) rfl rfl rfl rfl (by simp [Value.cells]) (by decide) (by decide) (by decide) fun b4 => ?_
    refine r_next (fun w h => (h.sb)) ?_
    refine r_one 16 (by kernel_rfl) rfl ?_
    refine s_append (e := 81) (z := .agg #[I64 0, I64 0, I64 0, I64 0]) (sz := 4) (bs := 32) (by kernel_rfl) rfl rfl rfl rfl hoL (Chunk.tail (Chunk.tail Chunk.head)) (news := x.cells) (SV.block .head (by simp [maxLen])) rfl (by decide) rfl (by simp [Value.oneCell']) (by rw [htl]; first | omega | (simp; omega)) (by rw [htl]; first | omega | (simp; omega)) fun u5 B5 hown5 => ?_
    refine c_sub (RqO b3 q vl (.slice add q.ds.length cpd) :: (B5 ++ (RqO b2 zNq (.slice none 0 0) (.slice none 0 0) :: F))) sbx ?_
    refine r_next (fun w h => (h.sb)) ?_
    refine r_tk 17 rfl rfl (v_field 12 rfl (by kernel_rfl)) (fun _ h => (h.sb)) ?_
    refine r_one 18 (by kernel_rfl) rfl ?_
    refine s_store1 rfl rfl rfl .head (by kernel_rfl) (own_one hown5) (by simp) ?_
    refine r_late rfl ?_
    refine r_done (by kernel_rfl) ?_
    change Holds _ _ _ _ _ (RqO b3 q u5 (.slice add q.ds.length cpd) :: (B5 ++ (RqO b2 zNq (.slice none 0 0) (.slice none 0 0) :: F))) _
    refine ww ?_
    exact n_next (x := (i, vl, B)) (i + 1, u5, B5) ⟨by omega, by dsimp only; rw [htk]; exact SzO.snoc hRL hown5⟩ (by dsimp only; omega) ⟨rfl, rfl, rfl, rfl, trivial⟩ rfl sbx
  have e : i = q.ss.length := by omega
  subst e
  rw [List.take_length] at ho
  obtain ⟨L, hoL, hRL⟩ := ho
  obtain ⟨ad1, cp1, rfl⟩ := hoL.form
  refine ww ?_
  refine c_cons (s_val (v_loadAgg (vs := q.cells (.slice ad1 q.ss.length cp1) (.slice add q.ds.length cpd)) rfl (by kernel_rfl) (by kernel_rfl) rfl (fun j u hj => (Cel.all hj))) rfl rfl rfl ?_)
  refine c_sub (RqO b2 zNq (.slice none 0 0) (.slice none 0 0) :: (B ++ F)) sbx ?_
  refine c_cons (s_storeA (vs := q.cells (.slice ad1 q.ss.length cp1) (.slice add q.ds.length cpd)) rfl rfl rfl .head (by kernel_rfl) (by simp [Value.oneCell']) rfl ?_)
  refine c_freezeO hoL (Chunk.tail Chunk.head) fun G4 hG4 hsv => ?_
  refine ww ?_
  exact f_retA (vs := q.cells (.slice ad1 q.ss.length cp1) (.slice add q.ds.length cpd)) rfl rfl (by kernel_rfl) (by kernel_rfl) rfl (fun j u hj => (Cel.all hj)) (fun w hs => ⟨G4, _, rfl, hG1.trans hG4, ⟨L, hsv, hRL.mono fun c x => SzR.up _ _ c x hG4⟩, hs.tl⟩)

theorem nasked_c (q : Nq) (vs vd : Value) (w0 w : World) (G : Im) (F : Hp) (hl : q.ss.length ≤ 100000) (hss : RecV 4 SzR G vs q.ss) (hds : RecV 14 DlR G vd q.ds) (hs : Sat w0 w G F) :
    Calls Try.prog 15 #[.agg (q.cells vs vd).toArray] w fun e w' => ∃ G' us, e = .returned (.agg (q.cells us vd).toArray) ∧ Im.le G G' ∧ RecV 4 SzR G' us q.ss ∧ Sat w0 w' G' F := by
  obtain ⟨ads, cps, rfl, hs1, hs2⟩ := hss.form
  obtain ⟨add, cpd, rfl, hd1, hd2⟩ := hds.form
  unfold maxLen at hs2
  refine f_enter (vs := [_]) Try.func15 rfl Try.ntmps15 (by simp) hs ?_
  refine ww ?_
  refine c_cons (s_boxA [_, _, _, _, _, _, _, _, _, _, _, _, _, _] rfl rfl rfl fun b1 => ?_)
  refine c_freeze .head fun G1 hG1 k1 => ?_
  replace hss := hss.up SzR.up hG1
  refine c_cons (s_allocA (zNq.cells (.slice none 0 0) (.slice none 0 0)) (by kernel_rfl) rfl rfl fun b2 => ?_)
  change Holds _ _ _ _ _ (RrO b2 zNq (.slice none 0 0) (.slice none 0 0) :: F) _
  refine ww ?_
  refine c_cons (s_val (v_field 3 rfl (by kernel_rfl)) rfl rfl rfl ?_)
  refine c_cons (s_val (v_load rfl (Cel.imm k1 rfl) (by kernel_rfl)) rfl rfl rfl ?_)
  refine c_cons (s_val (v_field 4 rfl (by kernel_rfl)) rfl rfl rfl ?_)
  refine c_cons (s_val (v_load rfl (Cel.imm k1 rfl) (by kernel_rfl)) rfl rfl rfl ?_)
  refine c_cons (s_val (v_field 5 rfl (by kernel_rfl)) rfl rfl rfl ?_)
  refine c_cons (s_val (v_load rfl (Cel.imm k1 rfl) (by kernel_rfl)) rfl rfl rfl ?_)
  refine c_cons (s_val (v_field 6 rfl (by kernel_rfl)) rfl rfl rfl ?_)
  refine c_cons (s_val (v_load rfl (Cel.imm k1 rfl) (by kernel_rfl)) rfl rfl rfl ?_)
  refine c_cons (s_val (v_field 7 rfl (by kernel_rfl)) rfl rfl rfl ?_)
  refine c_cons (s_val (v_load rfl (Cel.imm k1 rfl) (by kernel_rfl)) rfl rfl rfl ?_)
  refine c_cons (s_val (v_field 8 rfl (by kernel_rfl)) rfl rfl rfl ?_)
  refine c_cons (s_val (v_load rfl (Cel.imm k1 rfl) (by kernel_rfl)) rfl rfl rfl ?_)
  refine c_cons (s_val (v_field 9 rfl (by kernel_rfl)) rfl rfl rfl ?_)
  refine c_cons (s_val (v_load rfl (Cel.imm k1 rfl) (by kernel_rfl)) rfl rfl rfl ?_)
  refine c_cons (s_val (v_field 10 rfl (by kernel_rfl)) rfl rfl rfl ?_)
  refine c_cons (s_val (v_load rfl (Cel.imm k1 rfl) (by kernel_rfl)) rfl rfl rfl ?_)
  refine c_cons (s_val (v_field 11 rfl (by kernel_rfl)) rfl rfl rfl ?_)
  refine c_cons (s_val (v_load rfl (Cel.imm k1 rfl) (by kernel_rfl)) rfl rfl rfl ?_)
  refine c_cons (s_val (v_field 13 rfl (by kernel_rfl)) rfl rfl rfl ?_)
  refine c_cons (s_val (v_load rfl (Cel.imm k1 rfl) (by kernel_rfl)) rfl rfl rfl ?_)
  refine c_cons (s_val (v_build (ps := [_, _, _, _, _, _, _, _, _, _]) #[I64 0, I64 0, I64 0, I64 q.d, St q.p, St q.t, .bool q.a, .bool q.b, .bool q.e, I64 q.h, I64 q.x, I64 q.w, (.slice none 0 0), (.slice add q.ds.length cpd)] rfl (by kernel_rfl)) rfl rfl rfl ?_)
  refine c_cons (s_allocA (zNq.cells (.slice none 0 0) (.slice none 0 0)) (by kernel_rfl) rfl rfl fun b3 => ?_)
  refine c_cons (s_storeA (vs := [I64 0, I64 0, I64 0, I64 q.d, St q.p, St q.t, .bool q.a, .bool q.b, .bool q.e, I64 q.h, I64 q.x, I64 q.w, (.slice none 0 0), (.slice add q.ds.length cpd)]) rfl rfl rfl .head (by kernel_rfl) (by simp [Value.oneCell']) rfl ?_)
  refine ww ?_
  refine c_cons (s_val (v_field 0 rfl (by kernel_rfl)) rfl rfl rfl ?_)
  refine c_cons (s_val (v_field 0 rfl (by kernel_rfl)) rfl rfl rfl ?_)
  refine c_cons (s_val (v_load rfl (Cel.imm k1 rfl) (by kernel_rfl)) rfl rfl rfl ?_)
  refine c_cons (s_val (v_field 0 rfl (by kernel_rfl)) rfl rfl rfl ?_)
  refine c_cons (s_val (v_field 1 rfl (by kernel_rfl)) rfl rfl rfl ?_)
  refine c_cons (s_val (v_load rfl (Cel.imm k1 rfl) (by kernel_rfl)) rfl rfl rfl ?_)
  refine c_cons (s_val (v_field 0 rfl (by kernel_rfl)) rfl rfl rfl ?_)
  refine c_cons (s_val (v_field 2 rfl (by kernel_rfl)) rfl rfl rfl ?_)
  refine c_cons (s_val (v_load rfl (Cel.imm k1 rfl) (by kernel_rfl)) rfl rfl rfl ?_)
  refine c_cons (s_val (v_build (ps := [_, _, _]) #[I64 q.c, I64 q.l, I64 q.s] rfl (by kernel_rfl)) rfl rfl rfl ?_)
  refine c_cons (s_val (v_field 0 rfl (by kernel_rfl)) rfl rfl rfl ?_)
  refine c_cons (s_storeAt (vs := [I64 q.c, I64 q.l, I64 q.s]) rfl rfl rfl .head (by kernel_rfl) (by simp [Value.oneCell']) (by simp) ?_)
  change Holds _ _ _ _ _ (RrO b3 q (.slice none 0 0) (.slice add q.ds.length cpd) :: RrO b2 zNq (.slice none 0 0) (.slice none 0 0) :: F) _
  refine ww ?_
  refine c_loop (α := Nat × Value × Hp) (fun x => [(1, Pt b1 0), (2, Pt b2 0), (3, Pt b3 0), (4, I64 x.1)]) (fun _ => G1) (fun x => RrO b3 q x.2.1 (.slice add q.ds.length cpd) :: (x.2.2 ++ (RrO b2 zNq (.slice none 0 0) (.slice none 0 0) :: F))) (fun x => x.1 ≤ q.ss.length ∧ SrO G1 x.2.1 (q.ss.take x.1) x.2.2) (fun x => q.ss.length - x.1) (0, (.slice none 0 0), []) ⟨Nat.zero_le _, ROwn.zero _ _⟩ ?_ ?_
  · exact n_at ⟨rfl, rfl, rfl, rfl, trivial⟩ sbx
  rintro ⟨i, vl, B⟩ ⟨hi, ho⟩
  dsimp only at hi ho ⊢
  refine ww ?_
  refine c_cons (s_val (v_field 12 rfl (by kernel_rfl)) rfl rfl rfl ?_)
  refine c_cons (s_val (v_load rfl (Cel.imm k1 rfl) (by kernel_rfl)) rfl rfl rfl ?_)
  refine ww ?_
  refine c_cond_d rfl (fun c1 => ?_) (fun c1 => ?_)
  · -- then
    have hil : i < q.ss.length := by omega
    obtain ⟨blx, olx, clx, cellsx, hvex, hcex, _, hcelx⟩ := hss.at (by decide) i (by omega)
    cases hvex
    obtain ⟨x, hxx⟩ : ∃ x, x = q.ss[i] := ⟨_, rfl⟩
    rw [← hxx] at hcex
    unfold SzR at hcex
    subst hcex
    have hcx : ∀ (H : Hp) (f : Nat) u, x.cells[f]? = some u → Cel G1 H blx (olx + (i : Int).toNat * 4 + f) u := fun H f u h => by rw [Int.toNat_natCast]; exact hcelx H f u h
    have htk : q.ss.take (i + 1) = q.ss.take i ++ [x] := by
      rw [List.take_add_one, List.getElem?_eq_getElem hil, ← hxx]; rfl
    have htl : (q.ss.take i).length = i := by rw [List.length_take]; omega
    obtain ⟨L, hoL, hRL⟩ := ho
    refine ww ?_
    refine r_startS [RrO b3 q vl (.slice add q.ds.length cpd)] [18] (by kernel_rfl) (fun w h => h.sb) ?_
    refine r_tk 0 rfl rfl (v_field 12 rfl (by kernel_rfl)) (fun _ h => (h.sb)) ?_
    refine r_tk 1 rfl rfl (v_load rfl (Cel.head rfl) (by kernel_rfl)) (fun _ h => (h.sb)) ?_
    refine r_tk 2 rfl rfl (v_field 12 rfl (by kernel_rfl)) (fun _ h => (h.sb)) ?_
    refine r_tk 3 rfl rfl (v_load rfl (Cel.imm k1 rfl) (by kernel_rfl)) (fun _ h => (h.sb)) ?_
    refine r_tk 4 rfl rfl (v_move rfl) (fun _ h => (h.sb)) ?_
    refine r_tk 5 rfl rfl (v_index 4 rfl rfl (by kernel_rfl) (by omega)) (fun _ h => (h.sb)) ?_
    refine r_tk 6 rfl rfl (v_field 0 rfl (by kernel_rfl)) (fun _ h => (h.sb)) ?_
    refine r_tk 7 rfl rfl (v_loadAgg (vs := [I64 x.c, I64 x.l, I64 x.n]) rfl (by kernel_rfl) (by kernel_rfl) rfl (fun j u hj => by have h1 := hcx [RrO b3 q vl (.slice add q.ds.length cpd)] _ u (str_at x j u hj); simpa only [Nat.zero_add, Nat.add_zero] using h1)) (fun _ h => (h.sb)) ?_
    refine r_tk 8 rfl rfl (v_field 12 rfl (by kernel_rfl)) (fun _ h => (h.sb)) ?_
    refine r_tk 9 rfl rfl (v_load rfl (Cel.imm k1 rfl) (by kernel_rfl)) (fun _ h => (h.sb)) ?_
    refine r_tk 10 rfl rfl (v_move rfl) (fun _ h => (h.sb)) ?_
    refine r_tk 11 rfl rfl (v_index 4 rfl rfl (by kernel_rfl) (by omega)) (fun _ h => (h.sb)) ?_
    refine r_tk 12 rfl rfl (v_field 3 rfl (by kernel_rfl)) (fun _ h => (h.sb)) ?_
    refine r_tk 13 rfl rfl (v_load rfl (hcx _ 3 _ rfl) (by kernel_rfl)) (fun _ h => (h.sb)) ?_
    refine r_tk 14 rfl rfl (v_build (ps := [_, _]) x.cells.toArray rfl (by kernel_rfl)) (fun _ h => (h.sb)) ?_
    refine r_one 15 (by kernel_rfl) rfl ?_
    refine s_litN [_] (z := .agg #[I64 0, I64 0, I64 0, I64 0]) (bs := 32) (e := 85) (sz := 4) (by kernel_rfl) rfl rfl rfl rfl (by simp [Value.cells]) (by decide) (by decide) (by decide) fun b4 => ?_
    refine r_next (fun w h => (h.sb)) ?_
    refine r_one 16 (by kernel_rfl) rfl ?_
    refine s_append (e := 85) (z := .agg #[I64 0, I64 0, I64 0, I64 0]) (sz := 4) (bs := 32) (by kernel_rfl) rfl rfl rfl rfl hoL (Chunk.tail (Chunk.tail Chunk.head)) (news := x.cells) (SV.block .head (by simp [maxLen])) rfl (by decide) rfl (by simp [Value.oneCell']) (by rw [htl]; first | omega | (simp; omega)) (by rw [htl]; first | omega | (simp; omega)) fun u5 B5 hown5 => ?_
    refine c_sub (RrO b3 q vl (.slice add q.ds.length cpd) :: (B5 ++ (RrO b2 zNq (.slice none 0 0) (.slice none 0 0) :: F))) sbx ?_
    refine r_next (fun w h => (h.sb)) ?_
    refine r_tk 17 rfl rfl (v_field 12 rfl (by kernel_rfl)) (fun _ h => (h.sb)) ?_
    refine r_one 18 (by kernel_rfl) rfl ?_
    refine s_store1 rfl rfl rfl .head (by kernel_rfl) (own_one hown5) (by simp) ?_
    refine r_late rfl ?_
    refine r_done (by kernel_rfl) ?_
    change Holds _ _ _ _ _ (RrO b3 q u5 (.slice add q.ds.length cpd) :: (B5 ++ (RrO b2 zNq (.slice none 0 0) (.slice none 0 0) :: F))) _
    refine ww ?_
    exact n_next (x := (i, vl, B)) (i + 1, u5, B5) ⟨by omega, by dsimp only; rw [htk]; exact SrO.snoc hRL hown5⟩ (by dsimp only; omega) ⟨rfl, rfl, rfl, rfl, trivial⟩ rfl sbx
  have e : i = q.ss.length := by omega
  subst e
  rw [List.take_length] at ho
  obtain ⟨L, hoL, hRL⟩ := ho
  obtain ⟨ad1, cp1, rfl⟩ := hoL.form
  refine ww ?_
  refine c_cons (s_val (v_loadAgg (vs := q.cells (.slice ad1 q.ss.length cp1) (.slice add q.ds.length cpd)) rfl (by kernel_rfl) (by kernel_rfl) rfl (fun j u hj => (Cel.all hj))) rfl rfl rfl ?_)
  refine c_sub (RrO b2 zNq (.slice none 0 0) (.slice none 0 0) :: (B ++ F)) sbx ?_
  refine c_cons (s_storeA (vs := q.cells (.slice ad1 q.ss.length cp1) (.slice add q.ds.length cpd)) rfl rfl rfl .head (by kernel_rfl) (by simp [Value.oneCell']) rfl ?_)
  refine c_freezeO hoL (Chunk.tail Chunk.head) fun G4 hG4 hsv => ?_
  refine ww ?_
  exact f_retA (vs := q.cells (.slice ad1 q.ss.length cp1) (.slice add q.ds.length cpd)) rfl rfl (by kernel_rfl) (by kernel_rfl) rfl (fun j u hj => (Cel.all hj)) (fun w hs => ⟨G4, _, rfl, hG1.trans hG4, ⟨L, hsv, hRL.mono fun c x => SzR.up _ _ c x hG4⟩, hs.tl⟩)

theorem nsmall_c (q : Nq) (vs vd : Value) (w0 w : World) (G : Im) (F : Hp) (hss : RecV 4 SzR G vs q.ss) (hds : RecV 14 DlR G vd q.ds) (hs : Sat w0 w G F) :
    Calls Try.prog 7 #[.agg (q.cells vs vd).toArray] w fun e w' => ∃ b : Bool, e = .returned (.bool b) ∧ (b = true → q.p.length ≤ 300 ∧ q.t.length ≤ 300 ∧ q.ss.length ≤ 60 ∧ q.ds.length ≤ 100) ∧ Sat w0 w' G F := by
  obtain ⟨ads, cps, rfl, hs1, hs2⟩ := hss.form
  obtain ⟨add, cpd, rfl, hd1, hd2⟩ := hds.form
  refine f_enter (vs := [_]) Try.func7 rfl Try.ntmps7 (by simp) hs ?_
  refine ww ?_
  refine c_cons (s_boxA [_, _, _, _, _, _, _, _, _, _, _, _, _, _] rfl rfl rfl fun b1 => ?_)
  refine c_freeze .head fun G1 hG1 k1 => ?_
  refine ww ?_
  refine c_cons (s_val (v_field 4 rfl (by kernel_rfl)) rfl rfl rfl ?_)
  refine c_cons (s_val (v_load rfl (Cel.imm k1 rfl) (by kernel_rfl)) rfl rfl rfl ?_)
  refine c_cons (s_val (v_strlen rfl (by kernel_rfl)) rfl rfl rfl ?_)
  refine ww ?_
  refine c_part_d 7 _ rfl (fun c1 => ?_) (fun c1 => ?_)
  · refine ww ?_
    refine c_cons (s_val (v_field 5 rfl (by kernel_rfl)) rfl rfl rfl ?_)
    refine c_cons (s_val (v_load rfl (Cel.imm k1 rfl) (by kernel_rfl)) rfl rfl rfl ?_)
    refine c_cons (s_val (v_strlen rfl (by kernel_rfl)) rfl rfl rfl ?_)
    refine ww ?_
    refine c_part_d 13 _ rfl (fun c2 => ?_) (fun c2 => ?_)
    · refine ww ?_
      refine c_cons (s_val (v_field 12 rfl (by kernel_rfl)) rfl rfl rfl ?_)
      refine c_cons (s_val (v_load rfl (Cel.imm k1 rfl) (by kernel_rfl)) rfl rfl rfl ?_)
      refine ww ?_
      refine c_part_d 19 _ rfl (fun c3 => ?_) (fun c3 => ?_)
      · refine ww ?_
        refine c_cons (s_val (v_field 13 rfl (by kernel_rfl)) rfl rfl rfl ?_)
        refine c_cons (s_val (v_load rfl (Cel.imm k1 rfl) (by kernel_rfl)) rfl rfl rfl ?_)
        refine ww ?_
        exact f_ret1 rfl rfl (fun w hs => ⟨_, rfl, fun h => (by have := of_decide_eq_true h; omega), hs.weaken hG1⟩)
      refine ww ?_
      exact f_ret1 rfl rfl (fun w hs => ⟨_, rfl, fun h => (by cases h), hs.weaken hG1⟩)
    refine ww ?_
    exact f_ret1 rfl rfl (fun w hs => ⟨_, rfl, fun h => (by cases h), hs.weaken hG1⟩)
  refine ww ?_
  exact f_ret1 rfl rfl (fun w hs => ⟨_, rfl, fun h => (by cases h), hs.weaken hG1⟩)
end

section
open Go
set_option linter.unusedVariables false
set_option linter.unusedSimpArgs false
set_option maxHeartbeats 1600000
set_option maxRecDepth 4000
/-- A file is made. -/
def qA : Nq := ⟨0, 0, 0, 1, [47, 97], [], false, false, false, 0, 0, 0, [], []⟩
/-- It's busy. -/
def pB : Np := ⟨8, 0, 0, 0, 0, false, [], []⟩
theorem enc_qA : ∃ b, encQ qA = (b, 0) ∧ b.length ≤ 1000000 := ⟨(encQ qA).1, Prod.ext rfl (by decide +kernel), by decide +kernel⟩
theorem enc_pB : ∃ b, encP pB = (b, 0) ∧ b.length ≤ 1000000 := ⟨(encP pB).1, Prod.ext rfl (by decide +kernel), by decide +kernel⟩
theorem outS_ok (b : List UInt8) : outS (b, 0) = b := if_pos rfl
theorem enc_zero : encQ zNq = ([], 1) := if_pos (by decide)
theorem dec_short : (decQ [1, 2]).2 = 2 := by decide +kernel
theorem dec_form : (decP [99]).2 = 4 := by decide +kernel
attribute [local irreducible] Code.wp wpList stepK Holds Val wpR Eff Eff0 Code.wpIn wpListIn stepI Exit.then Exit.inBlock bodyPost bodyPostM

theorem awake_c (w0 w : World) (G : Im) (F : Hp) (hs : Sat w0 w G F) :
    Calls Try.prog 6 #[] w fun e w' => ∃ G', e = .returned (.bool true) ∧ Im.le G G' ∧ Sat w0 w' G' F := by
  obtain ⟨b, hb, hbl⟩ := enc_qA
  have hd := decQ_encQ hb
  refine f_enter (vs := []) Try.func6 rfl Try.ntmps6 (by simp) hs ?_
  refine ww ?_
  refine c_cons (s_val (v_build (ps := [_, _]) (qA.cells (.slice none 0 0) (.slice none 0 0)).toArray rfl (by kernel_rfl)) rfl rfl rfl ?_)
  refine c_cons (s_call (xs := [_]) rfl rfl rfl rfl rfl rfl (by kernel_rfl) (fun w hs => nenc_c qA (by decide) (by decide) _ _ _ w _ _ RecV.nil RecV.nil hs) ?_)
  rw [hb]
  dsimp only
  rw [outS_ok]
  rintro e w' ⟨G1, u1, rfl, hG1, hu1, hs'⟩; refine a_ret ?_ hs'; clear hs'
  obtain ⟨ad1, cp1, hue⟩ := hu1.form
  subst hue
  refine ww ?_
  refine c_cons (s_call (xs := [_]) rfl rfl rfl rfl rfl rfl (by kernel_rfl) (fun w hs => ndec_c _ b hbl _ w _ _ hu1 hs) ?_)
  rw [hd]
  dsimp only
  rintro e w' ⟨G2, vs, vd, rfl, hG2, hvs, hvd, hs'⟩; refine a_ret ?_ hs'; clear hs'
  obtain ⟨ads, cps, rfl, _, _⟩ := hvs.form
  obtain ⟨add, cpd, rfl, _, _⟩ := hvd.form
  refine ww ?_
  refine c_cons (s_allocA (zNq.cells (.slice none 0 0) (.slice none 0 0)) (by kernel_rfl) rfl rfl fun b1 => ?_)
  refine c_cons (s_storeA (vs := qA.cells (.slice ads qA.ss.length cps) (.slice add qA.ds.length cpd)) rfl rfl rfl .head (by kernel_rfl) (by simp [Value.oneCell']) rfl ?_)
  refine ww ?_
  refine c_cons (s_val (v_field 3 rfl (by kernel_rfl)) rfl rfl rfl ?_)
  refine c_cons (s_val (v_load rfl (Cel.head rfl) (by kernel_rfl)) rfl rfl rfl ?_)
  refine ww ?_
  refine c_cons (s_val (v_field 4 rfl (by kernel_rfl)) rfl rfl rfl ?_)
  refine c_cons (s_val (v_load rfl (Cel.head rfl) (by kernel_rfl)) rfl rfl rfl ?_)
  refine c_cons (s_val (v_t (v_streql rfl rfl) rfl) rfl rfl rfl ?_)
  refine ww ?_
  exact f_ret1 rfl rfl (fun w hs => ⟨G2, rfl, hG1.trans hG2, hs.tl⟩)

theorem known_c (w0 w : World) (G : Im) (F : Hp) (hs : Sat w0 w G F) :
    Calls Try.prog 4 #[] w fun e w' => ∃ G', e = .returned (.bool true) ∧ Im.le G G' ∧ Sat w0 w' G' F := by
  obtain ⟨b, hb, hbl⟩ := enc_pB
  have hd := decP_encP (show pB.e ≤ 18 by decide) hb
  have hz := enc_zero
  obtain ⟨d2, hd2⟩ : ∃ d, d = decQ [1, 2] := ⟨_, rfl⟩
  have k2 : d2.2 = 2 := by rw [hd2]; exact dec_short
  obtain ⟨d4, hd4⟩ : ∃ d, d = decP [99] := ⟨_, rfl⟩
  have k4 : d4.2 = 4 := by rw [hd4]; exact dec_form
  refine f_enter (vs := []) Try.func4 rfl Try.ntmps4 (by simp) hs ?_
  refine ww ?_
  refine c_cons (s_call (xs := []) rfl rfl rfl rfl rfl rfl (by kernel_rfl) (fun w hs => awake_c _ w _ _ hs) ?_)
  rintro e w' ⟨G0, rfl, hG0, hs'⟩; refine a_ret ?_ hs'; clear hs'
  refine ww ?_
  refine c_cond_f rfl ?_
  refine ww ?_
  refine c_cons (s_val (v_build (ps := [_]) (pB.cells (.slice none 0 0) (.slice none 0 0)).toArray rfl (by kernel_rfl)) rfl rfl rfl ?_)
  refine c_cons (s_call (xs := [_]) rfl rfl rfl rfl rfl rfl (by kernel_rfl) (fun w hs => nenp_c pB (by decide) (by decide) _ _ _ w _ _ RecV.nil (SV.nil _ _) hs) ?_)
  rw [hb]
  dsimp only
  rw [outS_ok]
  rintro e w' ⟨G1, u1, rfl, hG1, hu1, hs'⟩; refine a_ret ?_ hs'; clear hs'
  obtain ⟨ad1, cp1, hue⟩ := hu1.form
  subst hue
  refine ww ?_
  refine c_cons (s_call (xs := [_]) rfl rfl rfl rfl rfl rfl (by kernel_rfl) (fun w hs => ndep_c _ b hbl _ w _ _ hu1 hs) ?_)
  rw [hd]
  dsimp only
  rintro e w' ⟨G2, ve, vm, rfl, hG2, hve, hvm, hs'⟩; refine a_ret ?_ hs'; clear hs'
  obtain ⟨ade, cpe, rfl, _, _⟩ := hve.form
  obtain ⟨adm, cpm, hme⟩ := hvm.form
  subst hme
  refine ww ?_
  refine c_cons (s_allocA (zNp.cells (.slice none 0 0) (.slice none 0 0)) (by kernel_rfl) rfl rfl fun b1 => ?_)
  refine c_cons (s_storeA (vs := pB.cells (.slice ade pB.es.length cpe) (.slice adm pB.m.length cpm)) rfl rfl rfl .head (by kernel_rfl) (by simp [Value.oneCell']) rfl ?_)
  refine c_freeze .head fun G3 hG3 k1 => ?_
  refine ww ?_
  refine c_cons (s_val (v_build (ps := []) (zNq.cells (.slice none 0 0) (.slice none 0 0)).toArray rfl (by kernel_rfl)) rfl rfl rfl ?_)
  refine c_cons (s_call (xs := [_]) rfl rfl rfl rfl rfl rfl (by kernel_rfl) (fun w hs => nenc_c zNq (by decide) (by decide) _ _ _ w _ _ RecV.nil RecV.nil hs) ?_)
  rw [hz]
  dsimp only
  rintro e w' ⟨G4, u4, rfl, hG4, hu4, hs'⟩; refine a_ret ?_ hs'; clear hs'
  replace k1 := hG4 _ _ k1
  refine ww ?_
  refine c_cons (s_lit (z := B8 0) (bs := 1) (e := 5) [_, _] (by kernel_rfl) rfl rfl rfl rfl (by simp [Value.oneCell']) rfl (by decide) fun b2 => ?_)
  refine c_freeze .head fun G5 hG5 j5 => ?_
  replace k1 := hG5 _ _ k1
  refine c_cons (s_call (xs := [_]) rfl rfl rfl rfl rfl rfl (by kernel_rfl) (fun w hs => ndec_c _ [1, 2] (by decide) _ w _ _ (SV.block (.of_imm j5) (by simp [maxLen])) hs) ?_)
  rw [← hd2, k2]
  rintro e w' ⟨G6, vs, vd, rfl, hG6, hvs, hvd, hs'⟩; refine a_ret ?_ hs'; clear hs'
  replace k1 := hG6 _ _ k1
  obtain ⟨ads, cps, rfl, _, _⟩ := hvs.form
  obtain ⟨add, cpd, rfl, _, _⟩ := hvd.form
  refine ww ?_
  refine c_cons (s_allocA (zNq.cells (.slice none 0 0) (.slice none 0 0)) (by kernel_rfl) rfl rfl fun b3 => ?_)
  refine c_cons (s_storeA (vs := d2.1.cells (.slice ads d2.1.ss.length cps) (.slice add d2.1.ds.length cpd)) rfl rfl rfl .head (by kernel_rfl) (by simp [Value.oneCell']) rfl ?_)
  refine c_sub F sbx ?_
  refine ww ?_
  refine c_cons (s_lit (z := B8 0) (bs := 1) (e := 5) [_] (by kernel_rfl) rfl rfl rfl rfl (by simp [Value.oneCell']) rfl (by decide) fun b4 => ?_)
  refine c_freeze .head fun G7 hG7 j7 => ?_
  replace k1 := hG7 _ _ k1
  refine c_cons (s_call (xs := [_]) rfl rfl rfl rfl rfl rfl (by kernel_rfl) (fun w hs => ndep_c _ [99] (by decide) _ w _ _ (SV.block (.of_imm j7) (by simp [maxLen])) hs) ?_)
  rw [← hd4, k4]
  rintro e w' ⟨G8, we, wm, rfl, hG8, hwe, hwm, hs'⟩; refine a_ret ?_ hs'; clear hs'
  replace k1 := hG8 _ _ k1
  obtain ⟨adw, cpw, rfl, _, _⟩ := hwe.form
  obtain ⟨adx, cpx, hme⟩ := hwm.form
  subst hme
  refine ww ?_
  refine c_cons (s_allocA (zNp.cells (.slice none 0 0) (.slice none 0 0)) (by kernel_rfl) rfl rfl fun b5 => ?_)
  refine c_cons (s_storeA (vs := d4.1.cells (.slice adw d4.1.es.length cpw) (.slice adx d4.1.m.length cpx)) rfl rfl rfl .head (by kernel_rfl) (by simp [Value.oneCell']) rfl ?_)
  refine c_sub F sbx ?_
  refine ww ?_
  refine c_cons (s_val (v_field 0 rfl (by kernel_rfl)) rfl rfl rfl ?_)
  refine c_cons (s_val (v_load rfl (Cel.imm k1 rfl) (by kernel_rfl)) rfl rfl rfl ?_)
  refine ww ?_
  refine c_cons (s_val (v_field 1 rfl (by kernel_rfl)) rfl rfl rfl ?_)
  refine c_cons (s_val (v_load rfl (Cel.imm k1 rfl) (by kernel_rfl)) rfl rfl rfl ?_)
  refine ww ?_
  refine c_cons (s_val (v_field 7 rfl (by kernel_rfl)) rfl rfl rfl ?_)
  refine c_cons (s_val (v_load rfl (Cel.imm k1 rfl) (by kernel_rfl)) rfl rfl rfl ?_)
  refine ww ?_
  exact f_ret1 rfl rfl (fun w hs => ⟨G8, rfl, hG0.trans (hG1.trans (hG2.trans (hG3.trans (hG4.trans (hG5.trans (hG6.trans (hG7.trans hG8))))))), hs⟩)
end

section
open Go
set_option linter.unusedVariables false
set_option linter.unusedSimpArgs false
set_option maxHeartbeats 1600000
set_option maxRecDepth 4000
attribute [local irreducible] Code.wp wpList stepK Holds Val wpR Eff Eff0 Code.wpIn wpListIn stepI Exit.then Exit.inBlock bodyPost bodyPostM

theorem rnenc_c (q : Nq) (hpl : q.p.length ≤ 1000000) (htl : q.t.length ≤ 1000000) (vs vd : Value) (w0 w : World) (G : Im) (F : Hp) (hss : RecV 4 SzR G vs q.ss) (hds : RecV 14 DlR G vd q.ds) (hs : Sat w0 w G F) :
    Calls Try.prog 10 #[.agg (q.cells vs vd).toArray] w fun e w' => ∃ G' u, e = .returned (.tuple #[u, I64 (encQ q).2]) ∧ Im.le G G' ∧ SV G' [] u (outS (encQ q)).length ((outS (encQ q)).map B8) ∧ Sat w0 w' G' F := by
  obtain ⟨ads, cps, rfl, hs1, hs2⟩ := hss.form
  obtain ⟨add, cpd, rfl, hd1, hd2⟩ := hds.form
  unfold maxLen at hs2 hd2
  refine f_enter (vs := [_]) Try.func10 rfl Try.ntmps10 (by simp) hs ?_
  refine ww ?_
  refine c_cons (s_boxA [_, _, _, _, _, _, _, _, _, _, _, _, _, _] rfl rfl rfl fun b1 => ?_)
  refine c_freeze .head fun G1 hG1 k1 => ?_
  refine ww ?_
  refine c_cons (s_val (v_field 3 rfl (by kernel_rfl)) rfl rfl rfl ?_)
  refine c_cons (s_val (v_load rfl (Cel.imm k1 rfl) (by kernel_rfl)) rfl rfl rfl ?_)
  refine ww ?_
  refine c_part_d 11 _ rfl (fun c1 => ?_) (fun c1 => ?_)
  · have e1 : encQ q = ([], 1) := if_pos (by omega)
    rw [e1]
    refine ww ?_
    refine c_cond_t rfl ?_
    refine ww ?_
    exact f_ret2 rfl rfl rfl (fun w hs => ⟨G1, _, rfl, hG1, SV.nil _ _, hs⟩)
  refine ww ?_
  refine c_cons (s_val (v_field 3 rfl (by kernel_rfl)) rfl rfl rfl ?_)
  refine c_cons (s_val (v_load rfl (Cel.imm k1 rfl) (by kernel_rfl)) rfl rfl rfl ?_)
  refine ww ?_
  refine c_cond_d rfl (fun c2 => ?_) (fun c2 => ?_)
  · -- then
    have e1 : encQ q = ([], 1) := if_pos (by omega)
    rw [e1]
    refine ww ?_
    exact f_ret2 rfl rfl rfl (fun w hs => ⟨G1, _, rfl, hG1, SV.nil _ _, hs⟩)
  have hk : 1 ≤ q.d ∧ q.d ≤ 11 := by omega
  refine ww ?_
  refine c_loop (α := Nat) (fun x => [(1, Pt b1 0), (4, I64 x)]) (fun _ => G1) (fun x => F) (fun x => x ≤ q.ds.length ∧ ∀ y ∈ q.ds.take x, mayDl y) (fun x => q.ds.length - x) 0 ⟨Nat.zero_le _, by simp⟩ ?_ ?_
  · exact n_at ⟨rfl, rfl, trivial⟩ sbx
  rintro i ⟨hi, hall⟩
  refine ww ?_
  refine c_cons (s_val (v_field 13 rfl (by kernel_rfl)) rfl rfl rfl ?_)
  refine c_cons (s_val (v_load rfl (Cel.imm k1 rfl) (by kernel_rfl)) rfl rfl rfl ?_)
  refine ww ?_
  refine c_cond_d rfl (fun c3 => ?_) (fun c3 => ?_)
  · -- then
    have hil : i < q.ds.length := by omega
    obtain ⟨blx, olx, clx, cellsx, hvex, hcex, _, hcelx⟩ := (hds.up DlR.up hG1).at (by decide) i (by omega)
    cases hvex
    obtain ⟨x, hxx⟩ : ∃ x, x = q.ds[i] := ⟨_, rfl⟩
    rw [← hxx] at hcex
    unfold DlR at hcex
    subst hcex
    have hcx : ∀ (H : Hp) (f : Nat) u, x.cells[f]? = some u → Cel G1 H blx (olx + (i : Int).toNat * 14 + f) u := fun H f u h => by rw [Int.toNat_natCast]; exact hcelx H f u h
    refine ww ?_
    refine c_cons (s_val (v_field 13 rfl (by kernel_rfl)) rfl rfl rfl ?_)
    refine c_cons (s_val (v_load rfl (Cel.imm k1 rfl) (by kernel_rfl)) rfl rfl rfl ?_)
    refine ww ?_
    refine c_cons (s_val (v_index 14 rfl rfl (by kernel_rfl) (by omega)) rfl rfl rfl ?_)
    refine c_cons (s_val (v_loadAgg (vs := x.cells) rfl (by kernel_rfl) (by kernel_rfl) rfl (fun j u hj => hcx _ j u hj)) rfl rfl rfl ?_)
    refine c_cons (s_call (xs := [_]) rfl rfl rfl rfl rfl rfl (by kernel_rfl) (fun w hs => rdmay_c x _ w _ _ hs) ?_)
    rintro e w' ⟨rfl, hs'⟩; refine a_ret ?_ hs'; clear hs'
    refine ww ?_
    refine c_cond_nd rfl (fun c4 => ?_) (fun c4 => ?_)
    · have e1 : encQ q = ([], 1) := by
        unfold encQ
        rw [if_neg (fun h => h hk), if_pos (fun h => c4 (by rw [hxx]; exact h _ (List.getElem_mem hil)))]
      rw [e1]
      refine ww ?_
      exact f_ret2 rfl rfl rfl (fun w hs => ⟨G1, _, rfl, hG1, SV.nil _ _, hs⟩)
    refine ww ?_
    exact n_next (x := i) (i + 1) ⟨by omega, fun y hy => by
      rw [List.take_add_one, List.getElem?_eq_getElem hil] at hy
      rcases List.mem_append.1 hy with hy | hy
      · exact hall y hy
      · simp only [Option.toList, List.mem_singleton] at hy
        rw [hy, ← hxx]; exact c4⟩ (by omega) ⟨rfl, rfl, trivial⟩ rfl sbx
  have e : i = q.ds.length := by omega
  subst e
  rw [List.take_length] at hall
  refine ww ?_
  refine c_cons (s_val (v_field 12 rfl (by kernel_rfl)) rfl rfl rfl ?_)
  refine c_cons (s_val (v_load rfl (Cel.imm k1 rfl) (by kernel_rfl)) rfl rfl rfl ?_)
  refine ww ?_
  refine c_part_d 34 _ rfl (fun c5 => ?_) (fun c5 => ?_)
  · have e3 : encQ q = ([], 3) := by
      unfold encQ
      rw [if_neg (fun h => h hk), if_neg (fun h => h hall), if_pos (by omega)]
    rw [e3]
    refine ww ?_
    refine c_cond_t rfl ?_
    refine ww ?_
    exact f_ret2 rfl rfl rfl (fun w hs => ⟨G1, _, rfl, hG1, SV.nil _ _, hs⟩)
  refine ww ?_
  refine c_cons (s_val (v_field 13 rfl (by kernel_rfl)) rfl rfl rfl ?_)
  refine c_cons (s_val (v_load rfl (Cel.imm k1 rfl) (by kernel_rfl)) rfl rfl rfl ?_)
  refine ww ?_
  refine c_cond_d rfl (fun c6 => ?_) (fun c6 => ?_)
  · have e3 : encQ q = ([], 3) := by
      unfold encQ
      rw [if_neg (fun h => h hk), if_neg (fun h => h hall), if_pos (by omega)]
    rw [e3]
    refine ww ?_
    exact f_ret2 rfl rfl rfl (fun w hs => ⟨G1, _, rfl, hG1, SV.nil _ _, hs⟩)
  have e4 : encQ q = pnq q := by
    unfold encQ
    rw [if_neg (fun h => h hk), if_neg (fun h => h hall), if_neg (by omega)]
  rw [e4]
  clear e4
  refine ww ?_
  refine c_cons (s_val (v_build (ps := []) #[.slice none 0 0, I64 0] rfl (by kernel_rfl)) rfl rfl rfl ?_)
  refine c_cons (s_boxA [_, _] rfl rfl rfl fun pn => ?_)
  change Holds _ _ _ _ _ (RnO pn (.slice none 0 0) (([], 0) : Pn).2 :: ([] ++ F)) _
  have l0 : (([], 0) : Pn).1.length ≤ 65536 := by simp
  have hown0 : OB (.slice none 0 0) (([], 0) : Pn).1 [] := Own.nil _ _
  refine ww ?_
  refine c_cons (s_val (v_field 0 rfl (by kernel_rfl)) rfl rfl rfl ?_)
  refine c_cons (s_val (v_field 0 rfl (by kernel_rfl)) rfl rfl rfl ?_)
  refine c_cons (s_val (v_load rfl (Cel.imm k1 rfl) (by kernel_rfl)) rfl rfl rfl ?_)
  have l1 := pnum_len l0 q.c 1
  refine c_cons (s_call (xs := [_, _, _]) rfl rfl rfl rfl rfl rfl (by kernel_rfl) (fun w hs => rpnum_c pn _ _ _ q.c 1 l0 _ w _ _ hown0 hs) ?_)
  rintro e w' ⟨v1, B1, rfl, hown1, hs'⟩; refine a_ret ?_ hs'; clear hs'
  refine ww ?_
  refine c_cons (s_val (v_field 0 rfl (by kernel_rfl)) rfl rfl rfl ?_)
  refine c_cons (s_val (v_field 1 rfl (by kernel_rfl)) rfl rfl rfl ?_)
  refine c_cons (s_val (v_load rfl (Cel.imm k1 rfl) (by kernel_rfl)) rfl rfl rfl ?_)
  have l2 := pnum_len l1 q.l 3
  refine c_cons (s_call (xs := [_, _, _]) rfl rfl rfl rfl rfl rfl (by kernel_rfl) (fun w hs => rpnum_c pn _ _ _ q.l 3 l1 _ w _ _ hown1 hs) ?_)
  rintro e w' ⟨v2, B2, rfl, hown2, hs'⟩; refine a_ret ?_ hs'; clear hs'
  refine ww ?_
  refine c_cons (s_val (v_field 0 rfl (by kernel_rfl)) rfl rfl rfl ?_)
  refine c_cons (s_val (v_field 2 rfl (by kernel_rfl)) rfl rfl rfl ?_)
  refine c_cons (s_val (v_load rfl (Cel.imm k1 rfl) (by kernel_rfl)) rfl rfl rfl ?_)
  have l3 := pnum_len l2 q.s 4
  refine c_cons (s_call (xs := [_, _, _]) rfl rfl rfl rfl rfl rfl (by kernel_rfl) (fun w hs => rpnum_c pn _ _ _ q.s 4 l2 _ w _ _ hown2 hs) ?_)
  rintro e w' ⟨v3, B3, rfl, hown3, hs'⟩; refine a_ret ?_ hs'; clear hs'
  refine ww ?_
  refine c_cons (s_val (v_field 3 rfl (by kernel_rfl)) rfl rfl rfl ?_)
  refine c_cons (s_val (v_load rfl (Cel.imm k1 rfl) (by kernel_rfl)) rfl rfl rfl ?_)
  have l4 := pnum_len l3 q.d 1
  refine c_cons (s_call (xs := [_, _, _]) rfl rfl rfl rfl rfl rfl (by kernel_rfl) (fun w hs => rpnum_c pn _ _ _ q.d 1 l3 _ w _ _ hown3 hs) ?_)
  rintro e w' ⟨v4, B4, rfl, hown4, hs'⟩; refine a_ret ?_ hs'; clear hs'
  refine ww ?_
  refine c_cons (s_val (v_field 4 rfl (by kernel_rfl)) rfl rfl rfl ?_)
  refine c_cons (s_val (v_load rfl (Cel.imm k1 rfl) (by kernel_rfl)) rfl rfl rfl ?_)
  refine c_cons (s_strb 5 rfl (by kernel_rfl) (by kernel_rfl) (by unfold maxLen; omega) rfl rfl fun Gs5 us5 hGs5 hus5 => ?_)
  replace k1 := hGs5 _ _ k1
  have l5 := praw_len l4 q.p
  refine c_cons (s_call (xs := [_, _]) rfl rfl rfl rfl rfl rfl (by kernel_rfl) (fun w hs => rpraw_c pn _ _ _ _ q.p l4 hpl _ w _ _ hown4 hus5 hs) ?_)
  rintro e w' ⟨v5, B5, rfl, hown5, hs'⟩; refine a_ret ?_ hs'; clear hs'
  refine ww ?_
  refine c_cons (s_val (v_field 5 rfl (by kernel_rfl)) rfl rfl rfl ?_)
  refine c_cons (s_val (v_load rfl (Cel.imm k1 rfl) (by kernel_rfl)) rfl rfl rfl ?_)
  refine c_cons (s_strb 5 rfl (by kernel_rfl) (by kernel_rfl) (by unfold maxLen; omega) rfl rfl fun Gs6 us6 hGs6 hus6 => ?_)
  replace k1 := hGs6 _ _ k1
  have l6 := praw_len l5 q.t
  refine c_cons (s_call (xs := [_, _]) rfl rfl rfl rfl rfl rfl (by kernel_rfl) (fun w hs => rpraw_c pn _ _ _ _ q.t l5 htl _ w _ _ hown5 hus6 hs) ?_)
  rintro e w' ⟨v6, B6, rfl, hown6, hs'⟩; refine a_ret ?_ hs'; clear hs'
  refine ww ?_
  refine c_cons (s_val (v_field 6 rfl (by kernel_rfl)) rfl rfl rfl ?_)
  refine c_cons (s_val (v_load rfl (Cel.imm k1 rfl) (by kernel_rfl)) rfl rfl rfl ?_)
  have l7 := pbool_len l6 q.a
  refine c_cons (s_call (xs := [_, _]) rfl rfl rfl rfl rfl rfl (by kernel_rfl) (fun w hs => rpbool_c pn _ _ _ q.a l6 _ w _ _ hown6 hs) ?_)
  rintro e w' ⟨v7, B7, rfl, hown7, hs'⟩; refine a_ret ?_ hs'; clear hs'
  refine ww ?_
  refine c_cons (s_val (v_field 7 rfl (by kernel_rfl)) rfl rfl rfl ?_)
  refine c_cons (s_val (v_load rfl (Cel.imm k1 rfl) (by kernel_rfl)) rfl rfl rfl ?_)
  have l8 := pbool_len l7 q.b
  refine c_cons (s_call (xs := [_, _]) rfl rfl rfl rfl rfl rfl (by kernel_rfl) (fun w hs => rpbool_c pn _ _ _ q.b l7 _ w _ _ hown7 hs) ?_)
  rintro e w' ⟨v8, B8, rfl, hown8, hs'⟩; refine a_ret ?_ hs'; clear hs'
  refine ww ?_
  refine c_cons (s_val (v_field 8 rfl (by kernel_rfl)) rfl rfl rfl ?_)
  refine c_cons (s_val (v_load rfl (Cel.imm k1 rfl) (by kernel_rfl)) rfl rfl rfl ?_)
  have l9 := pbool_len l8 q.e
  refine c_cons (s_call (xs := [_, _]) rfl rfl rfl rfl rfl rfl (by kernel_rfl) (fun w hs => rpbool_c pn _ _ _ q.e l8 _ w _ _ hown8 hs) ?_)
  rintro e w' ⟨v9, B9, rfl, hown9, hs'⟩; refine a_ret ?_ hs'; clear hs'
  refine ww ?_
  refine c_cons (s_val (v_field 9 rfl (by kernel_rfl)) rfl rfl rfl ?_)
  refine c_cons (s_val (v_load rfl (Cel.imm k1 rfl) (by kernel_rfl)) rfl rfl rfl ?_)
  have l10 := pnum_len l9 q.h 1
  refine c_cons (s_call (xs := [_, _, _]) rfl rfl rfl rfl rfl rfl (by kernel_rfl) (fun w hs => rpnum_c pn _ _ _ q.h 1 l9 _ w _ _ hown9 hs) ?_)
  rintro e w' ⟨v10, B10, rfl, hown10, hs'⟩; refine a_ret ?_ hs'; clear hs'
  refine ww ?_
  refine c_cons (s_val (v_field 10 rfl (by kernel_rfl)) rfl rfl rfl ?_)
  refine c_cons (s_val (v_load rfl (Cel.imm k1 rfl) (by kernel_rfl)) rfl rfl rfl ?_)
  have l11 := pnum_len l10 q.x 4
  refine c_cons (s_call (xs := [_, _, _]) rfl rfl rfl rfl rfl rfl (by kernel_rfl) (fun w hs => rpnum_c pn _ _ _ q.x 4 l10 _ w _ _ hown10 hs) ?_)
  rintro e w' ⟨v11, B11, rfl, hown11, hs'⟩; refine a_ret ?_ hs'; clear hs'
  refine ww ?_
  refine c_cons (s_val (v_field 11 rfl (by kernel_rfl)) rfl rfl rfl ?_)
  refine c_cons (s_val (v_load rfl (Cel.imm k1 rfl) (by kernel_rfl)) rfl rfl rfl ?_)
  have l12 := pnum_len l11 q.w 3
  refine c_cons (s_call (xs := [_, _, _]) rfl rfl rfl rfl rfl rfl (by kernel_rfl) (fun w hs => rpnum_c pn _ _ _ q.w 3 l11 _ w _ _ hown11 hs) ?_)
  rintro e w' ⟨v12, B12, rfl, hown12, hs'⟩; refine a_ret ?_ hs'; clear hs'
  refine ww ?_
  obtain ⟨S, hS⟩ : ∃ S, S = pnqH ([], 0) q := ⟨_, rfl⟩
  change OB v12 (pnqH ([], 0) q).1 B12 at hown12
  change (pnqH ([], 0) q).1.length ≤ 65536 at l12
  have hGb : Im.le G Gs6 := hG1.trans (hGs5.trans hGs6)
  clear hown0 hown1 hown2 hown3 hown4 hown5 hown6 hown7 hown8 hown9 hown10 hown11
  refine c_cons (s_val (v_field 12 rfl (by kernel_rfl)) rfl rfl rfl ?_)
  refine c_cons (s_val (v_load rfl (Cel.imm k1 rfl) (by kernel_rfl)) rfl rfl rfl ?_)
  refine ww ?_
  change Holds _ _ _ _ _ (RnO pn v12 (pnqH ([], 0) q).2 :: (B12 ++ F)) _
  rw [← hS] at hown12 l12 ⊢
  have l13 := pnum_len l12 q.ss.length 2
  refine c_cons (s_call (xs := [_, _, _]) rfl rfl rfl rfl rfl rfl (by kernel_rfl) (fun w hs => rpnum_c pn _ _ _ q.ss.length 2 l12 _ w _ _ hown12 hs) ?_)
  rintro e w' ⟨v13, B13, rfl, hown13, hs'⟩; refine a_ret ?_ hs'; clear hs'
  refine ww ?_
  obtain ⟨P, hP⟩ : ∃ P, P = pnum S q.ss.length 2 := ⟨_, rfl⟩
  rw [← hP] at hown13 l13 ⊢
  refine c_loop (α := Nat × Im × Value × Hp) (fun x => [(1, Pt b1 0), (5, Pt pn 0), (6, I64 x.1)]) (fun x => x.2.1) (fun x => RnO pn x.2.2.1 ((q.ss.take x.1).foldl psz P).2 :: (x.2.2.2 ++ F)) (fun x => x.1 ≤ q.ss.length ∧ Im.le Gs6 x.2.1 ∧ OB x.2.2.1 ((q.ss.take x.1).foldl psz P).1 x.2.2.2) (fun x => q.ss.length - x.1) (0, Gs6, v13, B13) ⟨Nat.zero_le _, Im.le_refl _, hown13⟩ ?_ ?_
  · simp only [List.take_zero, List.foldl_nil]
    exact n_at ⟨rfl, rfl, rfl, trivial⟩ sbx
  rintro ⟨i, G2, v, B⟩ ⟨hi, hG2, hown⟩
  dsimp only at hi hG2 hown ⊢
  have k2 := hG2 _ _ k1
  refine ww ?_
  refine c_cons (s_val (v_field 12 rfl (by kernel_rfl)) rfl rfl rfl ?_)
  refine c_cons (s_val (v_load rfl (Cel.imm k2 rfl) (by kernel_rfl)) rfl rfl rfl ?_)
  refine ww ?_
  refine c_cond_d rfl (fun c7 => ?_) (fun c7 => ?_)
  · -- then
    have hil : i < q.ss.length := by omega
    have hfl := fold_len (f := psz) (fun s x h => psz_len h x) (q.ss.take i) _ l13
    obtain ⟨blx, olx, clx, cellsx, hvex, hcex, _, hcelx⟩ := (hss.up SzR.up (hGb.trans hG2)).at (by decide) i (by omega)
    cases hvex
    have htk : (q.ss.take (i + 1)).foldl psz P = psz ((q.ss.take i).foldl psz P) q.ss[i] := by
      rw [List.take_add_one, List.getElem?_eq_getElem hil, List.foldl_append]; rfl
    obtain ⟨x, hxx⟩ : ∃ x, x = q.ss[i] := ⟨_, rfl⟩
    rw [← hxx] at hcex htk
    unfold SzR at hcex
    subst hcex
    have hcx : ∀ (G3 : Im) (hG3 : Im.le G2 G3) (H : Hp) (f : Nat) u, x.cells[f]? = some u → Cel G3 H blx (olx + (i : Int).toNat * 4 + f) u := fun G3 hG3 H f u h => by rw [Int.toNat_natCast]; exact (hcelx H f u h).mono hG3 (fun _ h => h)
    refine ww ?_
    refine c_cons (s_val (v_field 12 rfl (by kernel_rfl)) rfl rfl rfl ?_)
    refine c_cons (s_val (v_load rfl (Cel.imm k2 rfl) (by kernel_rfl)) rfl rfl rfl ?_)
    refine ww ?_
    refine c_cons (s_val (v_index 4 rfl rfl (by kernel_rfl) (by omega)) rfl rfl rfl ?_)
    refine c_cons (s_val (v_field 0 rfl (by kernel_rfl)) rfl rfl rfl ?_)
    refine c_cons (s_val (v_loadAgg (vs := [I64 x.c, I64 x.l, I64 x.n]) rfl (by kernel_rfl) (by kernel_rfl) rfl (fun j u hj => by have h1 := hcx _ (Im.le_refl _) (RnO pn v ((q.ss.take i).foldl psz P).2 :: (B ++ F)) _ u (str_at x j u hj); simpa only [Nat.zero_add, Nat.add_zero] using h1)) rfl rfl rfl ?_)
    obtain ⟨S1, hS1⟩ : ∃ S1, S1 = (q.ss.take i).foldl psz P := ⟨_, rfl⟩
    rw [← hS1] at hown hfl htk ⊢
    refine c_cons (s_call (xs := [_, _]) rfl rfl rfl rfl rfl rfl (by kernel_rfl) (fun w hs => rnstripe_c pn _ S1 B x hfl _ w _ _ hown hs) ?_)
    rintro e w' ⟨G3, v3, B3, rfl, hG3, hown3, hs'⟩; refine a_ret ?_ hs'; clear hs'
    replace k2 := hG3 _ _ k2
    refine ww ?_
    refine c_cons (s_val (v_field 12 rfl (by kernel_rfl)) rfl rfl rfl ?_)
    refine c_cons (s_val (v_load rfl (Cel.imm k2 rfl) (by kernel_rfl)) rfl rfl rfl ?_)
    refine ww ?_
    refine c_cons (s_val (v_index 4 rfl rfl (by kernel_rfl) (by omega)) rfl rfl rfl ?_)
    refine c_cons (s_val (v_field 3 rfl (by kernel_rfl)) rfl rfl rfl ?_)
    refine c_cons (s_val (v_load rfl (hcx _ hG3 _ 3 _ rfl) (by kernel_rfl)) rfl rfl rfl ?_)
    refine c_cons (s_call (xs := [_, _, _]) rfl rfl rfl rfl rfl rfl (by kernel_rfl) (fun w hs => rpnum_c pn _ (pstr S1 x) _ x.z 2 (pnum_len (pnum_len (pnum_len hfl _ _) _ _) _ _) _ w _ _ hown3 hs) ?_)
    rintro e w' ⟨v4, B4, rfl, hown4, hs'⟩; refine a_ret ?_ hs'; clear hs'
    refine ww ?_
    have hown4' : OB v4 ((q.ss.take (i + 1)).foldl psz P).1 B4 := by rw [htk]; exact hown4
    have e2 : (pnum (pstr S1 x) x.z 2).2 = ((q.ss.take (i + 1)).foldl psz P).2 := by rw [htk]; rfl
    rw [e2]
    exact n_next (x := (i, G2, v, B)) (i + 1, G3, v4, B4) ⟨by omega, hG2.trans hG3, hown4'⟩ (by dsimp only; omega) ⟨rfl, rfl, rfl, trivial⟩ rfl sbx
  have e : i = q.ss.length := by omega
  subst e
  rw [List.take_length] at hown ⊢
  have l14 := fold_len (f := psz) (fun s x h => psz_len h x) q.ss _ l13
  obtain ⟨S1, hS1⟩ : ∃ S1, S1 = q.ss.foldl psz P := ⟨_, rfl⟩
  rw [← hS1] at hown l14 ⊢
  refine ww ?_
  refine c_cons (s_val (v_field 13 rfl (by kernel_rfl)) rfl rfl rfl ?_)
  refine c_cons (s_val (v_load rfl (Cel.imm k2 rfl) (by kernel_rfl)) rfl rfl rfl ?_)
  refine ww ?_
  have l15 := pnum_len l14 q.ds.length 2
  refine c_cons (s_call (xs := [_, _, _]) rfl rfl rfl rfl rfl rfl (by kernel_rfl) (fun w hs => rpnum_c pn _ _ _ q.ds.length 2 l14 _ w _ _ hown hs) ?_)
  rintro e w' ⟨v15, B15, rfl, hown15, hs'⟩; refine a_ret ?_ hs'; clear hs'
  refine ww ?_
  obtain ⟨P2, hP2⟩ : ∃ P2, P2 = pnum S1 q.ds.length 2 := ⟨_, rfl⟩
  rw [← hP2] at hown15 l15 ⊢
  refine c_loop (α := Nat × Im × Value × Hp) (fun x => [(1, Pt b1 0), (5, Pt pn 0), (7, I64 x.1)]) (fun x => x.2.1) (fun x => RnO pn x.2.2.1 ((q.ds.take x.1).foldl pdl P2).2 :: (x.2.2.2 ++ F)) (fun x => x.1 ≤ q.ds.length ∧ Im.le G2 x.2.1 ∧ OB x.2.2.1 ((q.ds.take x.1).foldl pdl P2).1 x.2.2.2) (fun x => q.ds.length - x.1) (0, G2, v15, B15) ⟨Nat.zero_le _, Im.le_refl _, hown15⟩ ?_ ?_
  · simp only [List.take_zero, List.foldl_nil]
    exact n_at ⟨rfl, rfl, rfl, trivial⟩ sbx
  rintro ⟨i, G4, v, B⟩ ⟨hi, hG4, hown⟩
  dsimp only at hi hG4 hown ⊢
  have k3 := hG4 _ _ k2
  refine ww ?_
  refine c_cons (s_val (v_field 13 rfl (by kernel_rfl)) rfl rfl rfl ?_)
  refine c_cons (s_val (v_load rfl (Cel.imm k3 rfl) (by kernel_rfl)) rfl rfl rfl ?_)
  refine ww ?_
  refine c_cond_d rfl (fun c8 => ?_) (fun c8 => ?_)
  · -- then
    have hil : i < q.ds.length := by omega
    have hfl := fold_len (f := pdl) (fun s x h => pdl_len h x) (q.ds.take i) _ l15
    obtain ⟨blx, olx, clx, cellsx, hvex, hcex, _, hcelx⟩ := (hds.up DlR.up (hGb.trans (hG2.trans hG4))).at (by decide) i (by omega)
    cases hvex
    have htk : (q.ds.take (i + 1)).foldl pdl P2 = pdl ((q.ds.take i).foldl pdl P2) q.ds[i] := by
      rw [List.take_add_one, List.getElem?_eq_getElem hil, List.foldl_append]; rfl
    obtain ⟨x, hxx⟩ : ∃ x, x = q.ds[i] := ⟨_, rfl⟩
    rw [← hxx] at hcex htk
    unfold DlR at hcex
    subst hcex
    have hcx : ∀ (H : Hp) (f : Nat) u, x.cells[f]? = some u → Cel G4 H blx (olx + (i : Int).toNat * 14 + f) u := fun H f u h => by rw [Int.toNat_natCast]; exact hcelx H f u h
    refine ww ?_
    refine c_cons (s_val (v_field 13 rfl (by kernel_rfl)) rfl rfl rfl ?_)
    refine c_cons (s_val (v_load rfl (Cel.imm k3 rfl) (by kernel_rfl)) rfl rfl rfl ?_)
    refine ww ?_
    refine c_cons (s_val (v_index 14 rfl rfl (by kernel_rfl) (by omega)) rfl rfl rfl ?_)
    refine c_cons (s_val (v_loadAgg (vs := x.cells) rfl (by kernel_rfl) (by kernel_rfl) rfl (fun j u hj => hcx _ j u hj)) rfl rfl rfl ?_)
    obtain ⟨S2, hS2⟩ : ∃ S2, S2 = (q.ds.take i).foldl pdl P2 := ⟨_, rfl⟩
    rw [← hS2] at hown hfl htk ⊢
    refine c_cons (s_call (xs := [_, _]) rfl rfl rfl rfl rfl rfl (by kernel_rfl) (fun w hs => rndput_c pn _ S2 B x hfl _ w _ _ hown hs) ?_)
    rintro e w' ⟨G3, v3, B3, rfl, hG3, hown3, hs'⟩; refine a_ret ?_ hs'; clear hs'
    refine ww ?_
    rw [← htk] at hown3 ⊢
    exact n_next (x := (i, G4, v, B)) (i + 1, G3, v3, B3) ⟨by omega, hG4.trans hG3, hown3⟩ (by dsimp only; omega) ⟨rfl, rfl, rfl, trivial⟩ rfl sbx
  have e : i = q.ds.length := by omega
  subst e
  rw [List.take_length] at hown ⊢
  have l16 := fold_len (f := pdl) (fun s x h => pdl_len h x) q.ds _ l15
  have e5 : q.ds.foldl pdl P2 = pnq q := by rw [hP2, hS1, hP, hS]; rfl
  rw [e5] at hown l16 ⊢
  generalize pnq q = s at hown l16 ⊢
  refine ww ?_
  refine c_freezeO hown (Chunk.tail Chunk.head) fun G5 hG5 hsv5 => ?_
  refine c_cons (s_call (xs := [_]) rfl rfl rfl rfl rfl rfl (by kernel_rfl) (fun w hs => rpbytes_c pn _ s l16 _ w _ _ hsv5 hs) ?_)
  rintro e w' ⟨G6, u6, rfl, hG6, hu6, hs'⟩; refine a_ret ?_ hs'; clear hs'
  refine ww ?_
  have e6 : (if s.2 ≠ 0 then [] else s.1) = outS s := by
    unfold outS
    by_cases h : s.2 = 0
    · rw [if_pos h, if_neg (fun k => k h)]
    · rw [if_neg h, if_pos h]
  rw [e6] at hu6
  exact f_ret2 rfl rfl rfl (fun w hs => ⟨G6, _, rfl, hGb.trans (hG2.trans (hG4.trans (hG5.trans hG6))), hu6, hs.tl⟩)
end

section
open Go
set_option linter.unusedVariables false
set_option linter.unusedSimpArgs false
set_option maxHeartbeats 1600000
set_option maxRecDepth 4000
theorem outS_bad {s : Pn} (h : s.2 ≠ 0) : outS s = [] := if_neg h
theorem outS_len (s : Pn) (h : s.1.length ≤ 65536) : (outS s).length ≤ 1000000 := by
  unfold outS; split
  · omega
  · simp
attribute [local irreducible] Code.wp wpList stepK Holds Val wpR Eff Eff0 Code.wpIn wpListIn stepI Exit.then Exit.inBlock bodyPost bodyPostM

theorem asks_c (q : Nq) (vs vd vb : Value) (b : List UInt8) (w0 w : World) (G : Im) (F : Hp) (hss : RecV 4 SzR G vs q.ss) (hds : RecV 14 DlR G vd q.ds) (hb : EB G vb b) (hs : Sat w0 w G F) :
    Calls Try.prog 3 #[.agg (q.cells vs vd).toArray, vb] w fun e w' => ∃ G', e = .returned (.bool true) ∧ Im.le G G' ∧ Sat w0 w' G' F := by
  obtain ⟨ads, cps, rfl, hs1, hs2⟩ := hss.form
  obtain ⟨add, cpd, rfl, hd1, hd2⟩ := hds.form
  obtain ⟨adb, cpb, hbe⟩ := hb.form
  subst hbe
  refine f_enter (vs := [_, _]) Try.func3 rfl Try.ntmps3 (by simp) hs ?_
  refine ww ?_
  refine c_cons (s_boxA [_, _, _, _, _, _, _, _, _, _, _, _, _, _] rfl rfl rfl fun b1 => ?_)
  refine c_freeze .head fun G1 hG1 k1 => ?_
  refine ww ?_
  refine c_cons (s_call (xs := []) rfl rfl rfl rfl rfl rfl (by kernel_rfl) (fun w hs => awake_c _ w _ _ hs) ?_)
  rintro e w' ⟨G2, rfl, hG2, hs'⟩; refine a_ret ?_ hs'; clear hs'
  replace k1 := hG2 _ _ k1
  have h2 := hG1.trans hG2
  refine ww ?_
  refine c_cond_f rfl ?_
  refine ww ?_
  refine c_cons (s_val (v_loadAgg (vs := q.cells (.slice ads q.ss.length cps) (.slice add q.ds.length cpd)) rfl (by kernel_rfl) (by kernel_rfl) rfl (fun j u hj => (Cel.allI k1 hj))) rfl rfl rfl ?_)
  refine c_cons (s_call (xs := [_]) rfl rfl rfl rfl rfl rfl (by kernel_rfl) (fun w hs => nsmall_c q _ _ _ w _ _ (hss.up SzR.up h2) (hds.up DlR.up h2) hs) ?_)
  rintro e w' ⟨β, rfl, hβ, hs'⟩; refine a_ret ?_ hs'; clear hs'
  cases β with
  | false =>
    refine ww ?_
    refine c_cond_t rfl ?_
    refine ww ?_
    exact f_ret1 rfl rfl (fun w hs => ⟨G2, rfl, h2, hs⟩)
  | true =>
  obtain ⟨hp3, ht3, hs6, hd6⟩ := hβ rfl
  refine ww ?_
  refine c_cond_d rfl (fun c3 => ?_) (fun c3 => ?_)
  · refine ww ?_
    exact f_ret1 rfl rfl (fun w hs => ⟨G2, rfl, h2, hs⟩)
  have hbl : b.length ≤ 4000 := by omega
  refine ww ?_
  refine c_cons (s_val (v_loadAgg (vs := q.cells (.slice ads q.ss.length cps) (.slice add q.ds.length cpd)) rfl (by kernel_rfl) (by kernel_rfl) rfl (fun j u hj => (Cel.allI k1 hj))) rfl rfl rfl ?_)
  refine c_cons (s_call (xs := [_]) rfl rfl rfl rfl rfl rfl (by kernel_rfl) (fun w hs => nreq_c q _ _ _ w _ _ (by omega) (hss.up SzR.up h2) (hds.up DlR.up h2) hs) ?_)
  rintro e w' ⟨G3, us, rfl, hG3, hus, hs'⟩; refine a_ret ?_ hs'; clear hs'
  replace k1 := hG3 _ _ k1
  have h3 := h2.trans hG3
  obtain ⟨adu, cpu, rfl, _, _⟩ := hus.form
  refine c_cons (s_call (xs := [_]) rfl rfl rfl rfl rfl rfl (by kernel_rfl) (fun w hs => nenc_c q (by omega) (by omega) _ _ _ w _ _ hus (hds.up DlR.up h3) hs) ?_)
  obtain ⟨E, hE⟩ : ∃ E, E = encQ q := ⟨_, rfl⟩
  rw [← hE]
  rintro e w' ⟨G4, x, rfl, hG4, hx, hs'⟩; refine a_ret ?_ hs'; clear hs'
  replace k1 := hG4 _ _ k1
  have h4 := h3.trans hG4
  refine ww ?_
  refine c_cons (s_val (v_loadAgg (vs := q.cells (.slice ads q.ss.length cps) (.slice add q.ds.length cpd)) rfl (by kernel_rfl) (by kernel_rfl) rfl (fun j u hj => (Cel.allI k1 hj))) rfl rfl rfl ?_)
  refine c_cons (s_call (xs := [_]) rfl rfl rfl rfl rfl rfl (by kernel_rfl) (fun w hs => rnenc_c q (by omega) (by omega) _ _ _ w _ _ (hss.up SzR.up h4) (hds.up DlR.up h4) hs) ?_)
  rw [← hE]
  rintro e w' ⟨G5, y, rfl, hG5, hy, hs'⟩; refine a_ret ?_ hs'; clear hs'
  replace k1 := hG5 _ _ k1
  have h5 := h4.trans hG5
  refine ww ?_
  refine c_cons (s_call (xs := [_]) rfl rfl rfl rfl rfl rfl (by kernel_rfl) (fun w hs => ndec_c _ b (by omega) _ w _ _ (hb.up (H := []) h5) hs) ?_)
  obtain ⟨D, hD⟩ : ∃ D, D = decQ b := ⟨_, rfl⟩
  rw [← hD]
  rintro e w' ⟨G6, ps, pd, rfl, hG6, hps, hpd, hs'⟩; refine a_ret ?_ hs'; clear hs'
  replace k1 := hG6 _ _ k1
  have h6 := h5.trans hG6
  obtain ⟨ad1, cp1, rfl, _, _⟩ := hps.form
  obtain ⟨ad2, cp2, rfl, _, _⟩ := hpd.form
  refine ww ?_
  refine c_cons (s_allocA (zNq.cells (.slice none 0 0) (.slice none 0 0)) (by kernel_rfl) rfl rfl fun b2 => ?_)
  refine c_cons (s_storeA (vs := D.1.cells (.slice ad1 D.1.ss.length cp1) (.slice ad2 D.1.ds.length cp2)) rfl rfl rfl .head (by kernel_rfl) (by simp [Value.oneCell']) rfl ?_)
  refine c_freeze .head fun G7 hG7 k2 => ?_
  replace k1 := hG7 _ _ k1
  have h7 := h6.trans hG7
  refine ww ?_
  refine c_cons (s_call (xs := [_]) rfl rfl rfl rfl rfl rfl (by kernel_rfl) (fun w hs => rndec_c _ b (by omega) _ w _ _ (hb.up (H := []) h7) hs) ?_)
  rw [← hD]
  rintro e w' ⟨G8, qs, qd, rfl, hG8, hqs, hqd, hs'⟩; refine a_ret ?_ hs'; clear hs'
  replace k1 := hG8 _ _ k1
  replace k2 := hG8 _ _ k2
  have h8 := h7.trans hG8
  obtain ⟨ad3, cp3, rfl, _, _⟩ := hqs.form
  obtain ⟨ad4, cp4, rfl, _, _⟩ := hqd.form
  refine ww ?_
  refine c_cons (s_allocA (zNq.cells (.slice none 0 0) (.slice none 0 0)) (by kernel_rfl) rfl rfl fun b3 => ?_)
  refine c_cons (s_storeA (vs := D.1.cells (.slice ad3 D.1.ss.length cp3) (.slice ad4 D.1.ds.length cp4)) rfl rfl rfl .head (by kernel_rfl) (by simp [Value.oneCell']) rfl ?_)
  refine c_freeze .head fun G9 hG9 k3 => ?_
  replace k1 := hG9 _ _ k1
  replace k2 := hG9 _ _ k2
  have h9 := h8.trans hG9
  replace hx := SV.up (H := []) hx (hG5.trans (hG6.trans (hG7.trans (hG8.trans hG9))))
  replace hy := SV.up (H := []) hy (hG6.trans (hG7.trans (hG8.trans hG9)))
  replace hps := hps.up SzR.up (hG7.trans (hG8.trans hG9))
  replace hpd := hpd.up DlR.up (hG7.trans (hG8.trans hG9))
  replace hqs := hqs.up SzR.up hG9
  replace hqd := hqd.up DlR.up hG9
  refine ww ?_
  refine r_startS [] [] (by kernel_rfl) (fun w h => h.none) ?_
  refine r_tk 0 rfl rfl (v_move rfl) (fun _ h => h.none) ?_
  refine r_tk 1 rfl rfl (v_move rfl) (fun _ h => h.none) ?_
  refine r_tk 2 rfl rfl (v_neq_same rfl rfl) (fun _ h => h.none) ?_
  refine r_tk 3 rfl rfl (v_move rfl) (fun _ h => h.none) ?_
  refine r_tk 4 rfl rfl (v_move rfl) (fun _ h => h.none) ?_
  refine r_tk 5 rfl rfl (v_move rfl) (fun _ h => h.none) ?_
  refine r_one 6 (by kernel_rfl) rfl ?_
  refine s_call (xs := [_, _]) rfl rfl rfl rfl rfl rfl (by kernel_rfl) (fun w hs => same_c _ _ (outS E) (outS E) _ w _ _ (hx.up (Im.le_refl _)) (hy.up (Im.le_refl _)) hs) ?_
  rintro e w' ⟨rfl, hs'⟩; refine a_ret ?_ hs'; clear hs'
  rw [decide_eq_true (show outS E = outS E from rfl)]
  refine r_next (fun w h => h.none) ?_
  refine r_tk 7 rfl rfl (v_not rfl) (fun _ h => h.none) ?_
  refine r_tk 8 rfl rfl (v_pick_f rfl rfl) (fun _ h => h.none) ?_
  refine r_tk 9 rfl rfl (v_move rfl) (fun _ h => h.none) ?_
  refine r_tk 10 rfl rfl (v_move rfl) (fun _ h => h.none) ?_
  refine r_tk 11 rfl rfl (v_move rfl) (fun _ h => h.none) ?_
  refine r_tk 12 rfl rfl (v_neq_same rfl rfl) (fun _ h => h.none) ?_
  refine r_tk 13 rfl rfl (v_pick_f rfl rfl) (fun _ h => h.none) ?_
  refine r_tk 14 rfl rfl (v_move rfl) (fun _ h => h.none) ?_
  refine r_tk 15 rfl rfl (v_loadAgg (vs := D.1.cells (.slice ad1 D.1.ss.length cp1) (.slice ad2 D.1.ds.length cp2)) rfl (by kernel_rfl) (by kernel_rfl) rfl (fun j u hj => (Cel.allI k2 hj))) (fun _ h => h.none) ?_
  refine r_tk 17 rfl rfl (v_loadAgg (vs := D.1.cells (.slice ad3 D.1.ss.length cp3) (.slice ad4 D.1.ds.length cp4)) rfl (by kernel_rfl) (by kernel_rfl) rfl (fun j u hj => (Cel.allI k3 hj))) (fun _ h => h.none) ?_
  refine r_one 16 (by kernel_rfl) rfl ?_
  have hdl : D.1.ss.length ≤ 100000 := by rw [hD]; exact decQ_few b (by omega)
  refine s_call (xs := [_]) rfl rfl rfl rfl rfl rfl (by kernel_rfl) (fun w hs => nasked_c D.1 _ _ _ w _ _ hdl hps hpd hs) ?_
  rintro e w' ⟨G10, ws, rfl, hG10, hws, hs'⟩; refine a_ret ?_ hs'; clear hs'
  replace k1 := hG10 _ _ k1
  replace k2 := hG10 _ _ k2
  have h10 := h9.trans hG10
  refine r_next (fun w h => (h.none).weaken hG10) ?_
  refine r_one 18 (by kernel_rfl) rfl ?_
  refine s_call (xs := [_, _]) rfl rfl rfl rfl rfl rfl (by kernel_rfl) (fun w hs => rsameq_c D.1 _ _ _ _ _ w _ _ hws (hpd.up DlR.up hG10) (hqs.up SzR.up hG10) (hqd.up DlR.up hG10) hs) ?_
  rintro e w' ⟨rfl, hs'⟩; refine a_ret ?_ hs'; clear hs'
  refine r_next (fun w h => (h.none).weaken hG10) ?_
  refine r_sub G10 [] (fun w h => h.weaken hG10) ?_
  refine r_tk 19 rfl rfl (v_not rfl) (fun _ h => h.none) ?_
  refine r_tk 20 rfl rfl (v_pick_f rfl rfl) (fun _ h => h.none) ?_
  refine r_done (by kernel_rfl) ?_
  refine ww ?_
  refine c_cond_f rfl ?_
  refine wn ?_
  refine c_cut (α := Im) (fun x => [(1, .slice adb b.length cpb), (9, Pt b2 0), (10, I64 D.2)]) (fun x => x) (fun x => F) (fun x => Im.le G10 x) ?_ ?_
  · refine ww ?_
    refine c_cond_d rfl (fun c8 => ?_) (fun c8 => ?_)
    · -- then
      have e1 : outS E = E.1 := if_pos c8
      have e2 : decQ E.1 = (q, 0) := decQ_encQ (by rw [← hE]; exact Prod.ext rfl c8)
      have e3 : E.1.length ≤ 1000000 := by rw [hE]; have := encQ_len q; omega
      rw [e1] at hx
      refine ww ?_
      refine c_cons (s_call (xs := [_]) rfl rfl rfl rfl rfl rfl (by kernel_rfl) (fun w hs => ndec_c _ E.1 e3 _ w _ _ (SV.up (H := []) hx hG10) hs) ?_)
      rw [e2]
      dsimp only
      rintro e w' ⟨G11, zs, zd, rfl, hG11, hzs, hzd, hs'⟩; refine a_ret ?_ hs'; clear hs'
      replace k1 := hG11 _ _ k1
      obtain ⟨ad5, cp5, rfl, _, _⟩ := hzs.form
      obtain ⟨ad6, cp6, rfl, _, _⟩ := hzd.form
      refine ww ?_
      refine c_cons (s_allocA (zNq.cells (.slice none 0 0) (.slice none 0 0)) (by kernel_rfl) rfl rfl fun b4 => ?_)
      refine c_cons (s_storeA (vs := q.cells (.slice ad5 q.ss.length cp5) (.slice ad6 q.ds.length cp6)) rfl rfl rfl .head (by kernel_rfl) (by simp [Value.oneCell']) rfl ?_)
      refine c_freeze .head fun G12 hG12 k4 => ?_
      replace k1 := hG12 _ _ k1
      replace hzs := hzs.up SzR.up hG12
      replace hzd := hzd.up DlR.up hG12
      have h12 := h10.trans (hG11.trans hG12)
      refine ww ?_
      refine r_startS [] [] (by kernel_rfl) (fun w h => h.none) ?_
      refine r_tk 0 rfl rfl (v_move rfl) (fun _ h => h.none) ?_
      refine r_tk 1 rfl rfl (v_neq_same rfl rfl) (fun _ h => h.none) ?_
      refine r_tk 2 rfl rfl (v_move rfl) (fun _ h => h.none) ?_
      refine r_tk 3 rfl rfl (v_loadAgg (vs := q.cells (.slice ad5 q.ss.length cp5) (.slice ad6 q.ds.length cp6)) rfl (by kernel_rfl) (by kernel_rfl) rfl (fun j u hj => (Cel.allI k4 hj))) (fun _ h => h.none) ?_
      refine r_tk 5 rfl rfl (v_loadAgg (vs := q.cells (.slice ads q.ss.length cps) (.slice add q.ds.length cpd)) rfl (by kernel_rfl) (by kernel_rfl) rfl (fun j u hj => (Cel.allI k1 hj))) (fun _ h => h.none) ?_
      refine r_one 4 (by kernel_rfl) rfl ?_
      refine s_call (xs := [_]) rfl rfl rfl rfl rfl rfl (by kernel_rfl) (fun w hs => nasked_c q _ _ _ w _ _ (by omega) hzs hzd hs) ?_
      rintro e w' ⟨G13, os, rfl, hG13, hos, hs'⟩; refine a_ret ?_ hs'; clear hs'
      refine r_next (fun w h => (h.none).weaken hG13) ?_
      refine r_one 6 (by kernel_rfl) rfl ?_
      refine s_call (xs := [_, _]) rfl rfl rfl rfl rfl rfl (by kernel_rfl) (fun w hs => rsameq_c q _ _ _ _ _ w _ _ hos (hzd.up DlR.up hG13) (hss.up SzR.up (h12.trans hG13)) (hds.up DlR.up (h12.trans hG13)) hs) ?_
      rintro e w' ⟨rfl, hs'⟩; refine a_ret ?_ hs'; clear hs'
      refine r_next (fun w h => (h.none).weaken hG13) ?_
      refine r_sub G13 [] (fun w h => h.weaken hG13) ?_
      refine r_tk 7 rfl rfl (v_not rfl) (fun _ h => h.none) ?_
      refine r_tk 8 rfl rfl (v_pick_f rfl rfl) (fun _ h => h.none) ?_
      refine r_done (by kernel_rfl) ?_
      refine ww ?_
      refine c_cond_f rfl ?_
      refine ww ?_
      exact n_mid G13 (hG11.trans (hG12.trans hG13)) ⟨rfl, rfl, rfl, trivial⟩ rfl sbx
    refine ww ?_
    exact n_mid G10 (Im.le_refl _) ⟨rfl, rfl, rfl, trivial⟩ rfl sbx
  rintro G14 hG14
  replace k2 := hG14 _ _ k2
  have h14 := h10.trans hG14
  refine ww ?_
  refine c_cond_d rfl (fun c13 => ?_) (fun c13 => ?_)
  · -- then
    have e1 : decQ b = (D.1, 0) := by rw [← hD]; exact Prod.ext rfl c13
    have e2 : encQ D.1 = (b, 0) := encQ_decQ (by omega) e1
    have e3 := encQ_texts e2
    refine ww ?_
    refine c_cons (s_val (v_loadAgg (vs := D.1.cells (.slice ad1 D.1.ss.length cp1) (.slice ad2 D.1.ds.length cp2)) rfl (by kernel_rfl) (by kernel_rfl) rfl (fun j u hj => (Cel.allI k2 hj))) rfl rfl rfl ?_)
    refine c_cons (s_call (xs := [_]) rfl rfl rfl rfl rfl rfl (by kernel_rfl) (fun w hs => nenc_c D.1 (by omega) (by omega) _ _ _ w _ _ (hps.up SzR.up (hG10.trans hG14)) (hpd.up DlR.up (hG10.trans hG14)) hs) ?_)
    rw [e2]
    dsimp only
    rw [outS_ok]
    rintro e w' ⟨G15, z, rfl, hG15, hz, hs'⟩; refine a_ret ?_ hs'; clear hs'
    refine ww ?_
    refine c_cons (s_call (xs := [_, _]) rfl rfl rfl rfl rfl rfl (by kernel_rfl) (fun w hs => same_c _ _ b b _ w _ _ (hz.up (Im.le_refl _)) (SV.up hb (h14.trans hG15)) hs) ?_)
    rintro e w' ⟨rfl, hs'⟩; refine a_ret ?_ hs'; clear hs'
    rw [decide_eq_true (show b = b from rfl)]
    refine ww ?_
    exact f_ret1 rfl rfl (fun w hs => ⟨G15, rfl, h14.trans hG15, hs⟩)
  refine ww ?_
  exact f_ret1 rfl rfl (fun w hs => ⟨G14, rfl, h14, hs⟩)
end

section
open Go
set_option linter.unusedVariables false
set_option linter.unusedSimpArgs false
set_option maxHeartbeats 1600000
set_option maxRecDepth 4000
attribute [local irreducible] Code.wp wpList stepK Holds Val wpR Eff Eff0 Code.wpIn wpListIn stepI Exit.then Exit.inBlock bodyPost bodyPostM

theorem says_c (q : Np) (ve vm vb : Value) (b : List UInt8) (w0 w : World) (G : Im) (F : Hp) (hes : RecV 3 EyC G ve q.es) (hm : EB G vm q.m) (hb : EB G vb b) (hs : Sat w0 w G F) :
    Calls Try.prog 5 #[.agg (q.cells ve vm).toArray, vb] w fun e w' => ∃ G', e = .returned (.bool true) ∧ Im.le G G' ∧ Sat w0 w' G' F := by
  obtain ⟨ade, cpe, rfl, hs1, hs2⟩ := hes.form
  obtain ⟨adm, cpm, hme⟩ := hm.form
  subst hme
  obtain ⟨adb, cpb, hbe⟩ := hb.form
  subst hbe
  refine f_enter (vs := [_, _]) Try.func5 rfl Try.ntmps5 (by simp) hs ?_
  refine ww ?_
  refine c_cons (s_boxA [_, _, _, _, _, _, _, _] rfl rfl rfl fun b1 => ?_)
  refine c_freeze .head fun G1 hG1 k1 => ?_
  refine ww ?_
  refine c_cons (s_call (xs := []) rfl rfl rfl rfl rfl rfl (by kernel_rfl) (fun w hs => awake_c _ w _ _ hs) ?_)
  rintro e w' ⟨G2, rfl, hG2, hs'⟩; refine a_ret ?_ hs'; clear hs'
  replace k1 := hG2 _ _ k1
  have h2 := hG1.trans hG2
  refine ww ?_
  refine c_cond_f rfl ?_
  refine ww ?_
  refine c_cons (s_val (v_field 6 rfl (by kernel_rfl)) rfl rfl rfl ?_)
  refine c_cons (s_val (v_load rfl (Cel.imm k1 rfl) (by kernel_rfl)) rfl rfl rfl ?_)
  refine ww ?_
  refine c_part_d 22 _ rfl (fun c2 => ?_) (fun c2 => ?_)
  · refine ww ?_
    refine c_cond_t rfl ?_
    refine ww ?_
    exact f_ret1 rfl rfl (fun w hs => ⟨G2, rfl, h2, hs⟩)
  refine ww ?_
  refine c_cons (s_val (v_field 7 rfl (by kernel_rfl)) rfl rfl rfl ?_)
  refine c_cons (s_val (v_load rfl (Cel.imm k1 rfl) (by kernel_rfl)) rfl rfl rfl ?_)
  refine ww ?_
  refine c_part_d 28 _ rfl (fun c3 => ?_) (fun c3 => ?_)
  · refine ww ?_
    refine c_cond_t rfl ?_
    refine ww ?_
    exact f_ret1 rfl rfl (fun w hs => ⟨G2, rfl, h2, hs⟩)
  refine ww ?_
  refine c_cond_d rfl (fun c4 => ?_) (fun c4 => ?_)
  · refine ww ?_
    exact f_ret1 rfl rfl (fun w hs => ⟨G2, rfl, h2, hs⟩)
  have hbl : b.length ≤ 4000 := by omega
  have hml : q.m.length ≤ 2000 := by omega
  have hel : q.es.length ≤ 100 := by omega
  refine ww ?_
  refine c_loop (α := Nat) (fun x => [(1, .slice adb b.length cpb), (2, Pt b1 0), (5, I64 x)]) (fun _ => G2) (fun x => F) (fun x => x ≤ q.es.length ∧ ∀ y ∈ q.es.take x, y.s.length ≤ 100) (fun x => q.es.length - x) 0 ⟨Nat.zero_le _, by simp⟩ ?_ ?_
  · exact n_at ⟨rfl, rfl, rfl, trivial⟩ sbx
  rintro i ⟨hi, hall⟩
  refine ww ?_
  refine c_cons (s_val (v_field 6 rfl (by kernel_rfl)) rfl rfl rfl ?_)
  refine c_cons (s_val (v_load rfl (Cel.imm k1 rfl) (by kernel_rfl)) rfl rfl rfl ?_)
  refine ww ?_
  refine c_cond_d rfl (fun c5 => ?_) (fun c5 => ?_)
  · -- then
    have hil : i < q.es.length := by omega
    obtain ⟨blx, olx, clx, cellsx, hvex, hcex, _, hcelx⟩ := (hes.up EyC.up h2).at (by decide) i (by omega)
    cases hvex
    obtain ⟨x, hxx⟩ : ∃ x, x = q.es[i] := ⟨_, rfl⟩
    rw [← hxx] at hcex
    unfold EyC at hcex
    subst hcex
    have hcx : ∀ (H : Hp) (f : Nat) u, x.cells[f]? = some u → Cel G2 H blx (olx + (i : Int).toNat * 3 + f) u := fun H f u h => by rw [Int.toNat_natCast]; exact hcelx H f u h
    refine ww ?_
    refine c_cons (s_val (v_field 6 rfl (by kernel_rfl)) rfl rfl rfl ?_)
    refine c_cons (s_val (v_load rfl (Cel.imm k1 rfl) (by kernel_rfl)) rfl rfl rfl ?_)
    refine ww ?_
    refine c_cons (s_val (v_index 3 rfl rfl (by kernel_rfl) (by omega)) rfl rfl rfl ?_)
    refine c_cons (s_val (v_field 0 rfl (by kernel_rfl)) rfl rfl rfl ?_)
    refine c_cons (s_val (v_load rfl (hcx _ 0 _ rfl) (by kernel_rfl)) rfl rfl rfl ?_)
    refine c_cons (s_val (v_strlen rfl (by kernel_rfl)) rfl rfl rfl ?_)
    refine ww ?_
    refine c_cond_d rfl (fun c6 => ?_) (fun c6 => ?_)
    · refine ww ?_
      exact f_ret1 rfl rfl (fun w hs => ⟨G2, rfl, h2, hs⟩)
    refine ww ?_
    exact n_next (x := i) (i + 1) ⟨by omega, fun y hy => by
      rw [List.take_add_one, List.getElem?_eq_getElem hil] at hy
      rcases List.mem_append.1 hy with hy | hy
      · exact hall y hy
      · simp only [Option.toList, List.mem_singleton] at hy
        rw [hy, ← hxx]; omega⟩ (by omega) ⟨rfl, rfl, rfl, trivial⟩ rfl sbx
  have e : i = q.es.length := by omega
  subst e
  rw [List.take_length] at hall
  have hnl : ∀ x ∈ q.es, x.s.length ≤ 1000000 := fun x hx => by have := hall x hx; omega
  refine ww ?_
  refine c_cons (s_val (v_loadAgg (vs := q.cells (.slice ade q.es.length cpe) (.slice adm q.m.length cpm)) rfl (by kernel_rfl) (by kernel_rfl) rfl (fun j u hj => (Cel.allI k1 hj))) rfl rfl rfl ?_)
  refine c_cons (s_call (xs := [_]) rfl rfl rfl rfl rfl rfl (by kernel_rfl) (fun w hs => nrep_c q _ _ _ w _ _ (hes.up EyC.up h2) (hm.up (H := []) h2) hs) ?_)
  rintro e w' ⟨rfl, hs'⟩; refine a_ret ?_ hs'; clear hs'
  refine c_cons (s_call (xs := [_]) rfl rfl rfl rfl rfl rfl (by kernel_rfl) (fun w hs => nenp_c q hnl (by omega) _ _ _ w _ _ (hes.up EyC.up h2) (hm.up (H := []) h2) hs) ?_)
  obtain ⟨E, hE⟩ : ∃ E, E = encP q := ⟨_, rfl⟩
  rw [← hE]
  rintro e w' ⟨G4, x, rfl, hG4, hx, hs'⟩; refine a_ret ?_ hs'; clear hs'
  replace k1 := hG4 _ _ k1
  have h4 := h2.trans hG4
  refine ww ?_
  refine c_cons (s_val (v_loadAgg (vs := q.cells (.slice ade q.es.length cpe) (.slice adm q.m.length cpm)) rfl (by kernel_rfl) (by kernel_rfl) rfl (fun j u hj => (Cel.allI k1 hj))) rfl rfl rfl ?_)
  refine c_cons (s_call (xs := [_]) rfl rfl rfl rfl rfl rfl (by kernel_rfl) (fun w hs => rnenp_c q hnl (by omega) _ _ _ w _ _ (hes.up EyC.up h4) (hm.up (H := []) h4) hs) ?_)
  rw [← hE]
  rintro e w' ⟨G5, y, rfl, hG5, hy, hs'⟩; refine a_ret ?_ hs'; clear hs'
  replace k1 := hG5 _ _ k1
  have h5 := h4.trans hG5
  refine ww ?_
  refine c_cons (s_call (xs := [_]) rfl rfl rfl rfl rfl rfl (by kernel_rfl) (fun w hs => ndep_c _ b (by omega) _ w _ _ (hb.up (H := []) h5) hs) ?_)
  obtain ⟨D, hD⟩ : ∃ D, D = decP b := ⟨_, rfl⟩
  rw [← hD]
  rintro e w' ⟨G6, pe, pm, rfl, hG6, hpe, hpm, hs'⟩; refine a_ret ?_ hs'; clear hs'
  replace k1 := hG6 _ _ k1
  have h6 := h5.trans hG6
  obtain ⟨ad1, cp1, rfl, _, _⟩ := hpe.form
  obtain ⟨ad2, cp2, hve⟩ := hpm.form
  subst hve
  refine ww ?_
  refine c_cons (s_allocA (zNp.cells (.slice none 0 0) (.slice none 0 0)) (by kernel_rfl) rfl rfl fun b2 => ?_)
  refine c_cons (s_storeA (vs := D.1.cells (.slice ad1 D.1.es.length cp1) (.slice ad2 D.1.m.length cp2)) rfl rfl rfl .head (by kernel_rfl) (by simp [Value.oneCell']) rfl ?_)
  refine c_freeze .head fun G7 hG7 k2 => ?_
  replace k1 := hG7 _ _ k1
  have h7 := h6.trans hG7
  refine ww ?_
  refine c_cons (s_call (xs := [_]) rfl rfl rfl rfl rfl rfl (by kernel_rfl) (fun w hs => rndep_c _ b (by omega) _ w _ _ (hb.up (H := []) h7) hs) ?_)
  rw [← hD]
  rintro e w' ⟨G8, qe, qm, rfl, hG8, hqe, hqm, hs'⟩; refine a_ret ?_ hs'; clear hs'
  replace k1 := hG8 _ _ k1
  replace k2 := hG8 _ _ k2
  have h8 := h7.trans hG8
  obtain ⟨ad3, cp3, rfl, _, _⟩ := hqe.form
  obtain ⟨ad4, cp4, hve⟩ := hqm.form
  subst hve
  refine ww ?_
  refine c_cons (s_allocA (zNp.cells (.slice none 0 0) (.slice none 0 0)) (by kernel_rfl) rfl rfl fun b3 => ?_)
  refine c_cons (s_storeA (vs := D.1.cells (.slice ad3 D.1.es.length cp3) (.slice ad4 D.1.m.length cp4)) rfl rfl rfl .head (by kernel_rfl) (by simp [Value.oneCell']) rfl ?_)
  refine c_freeze .head fun G9 hG9 k3 => ?_
  replace k1 := hG9 _ _ k1
  replace k2 := hG9 _ _ k2
  have h9 := h8.trans hG9
  replace hx := SV.up (H := []) hx (hG5.trans (hG6.trans (hG7.trans (hG8.trans hG9))))
  replace hy := SV.up (H := []) hy (hG6.trans (hG7.trans (hG8.trans hG9)))
  replace hpe := hpe.up EyC.up (hG7.trans (hG8.trans hG9))
  replace hpm := SV.up (H := []) hpm (hG7.trans (hG8.trans hG9))
  replace hqe := hqe.up EyC.up hG9
  replace hqm := SV.up (H := []) hqm hG9
  refine ww ?_
  refine r_startS [] [] (by kernel_rfl) (fun w h => h.none) ?_
  refine r_tk 0 rfl rfl (v_move rfl) (fun _ h => h.none) ?_
  refine r_tk 1 rfl rfl (v_move rfl) (fun _ h => h.none) ?_
  refine r_tk 2 rfl rfl (v_neq_same rfl rfl) (fun _ h => h.none) ?_
  refine r_tk 3 rfl rfl (v_move rfl) (fun _ h => h.none) ?_
  refine r_tk 4 rfl rfl (v_move rfl) (fun _ h => h.none) ?_
  refine r_tk 5 rfl rfl (v_move rfl) (fun _ h => h.none) ?_
  refine r_one 6 (by kernel_rfl) rfl ?_
  refine s_call (xs := [_, _]) rfl rfl rfl rfl rfl rfl (by kernel_rfl) (fun w hs => same_c _ _ (outS E) (outS E) _ w _ _ (hx.up (Im.le_refl _)) (hy.up (Im.le_refl _)) hs) ?_
  rintro e w' ⟨rfl, hs'⟩; refine a_ret ?_ hs'; clear hs'
  rw [decide_eq_true (show outS E = outS E from rfl)]
  refine r_next (fun w h => h.none) ?_
  refine r_tk 7 rfl rfl (v_not rfl) (fun _ h => h.none) ?_
  refine r_tk 8 rfl rfl (v_pick_f rfl rfl) (fun _ h => h.none) ?_
  refine r_tk 9 rfl rfl (v_move rfl) (fun _ h => h.none) ?_
  refine r_tk 10 rfl rfl (v_move rfl) (fun _ h => h.none) ?_
  refine r_tk 11 rfl rfl (v_move rfl) (fun _ h => h.none) ?_
  refine r_tk 12 rfl rfl (v_neq_same rfl rfl) (fun _ h => h.none) ?_
  refine r_tk 13 rfl rfl (v_pick_f rfl rfl) (fun _ h => h.none) ?_
  refine r_tk 14 rfl rfl (v_move rfl) (fun _ h => h.none) ?_
  refine r_tk 15 rfl rfl (v_loadAgg (vs := D.1.cells (.slice ad1 D.1.es.length cp1) (.slice ad2 D.1.m.length cp2)) rfl (by kernel_rfl) (by kernel_rfl) rfl (fun j u hj => (Cel.allI k2 hj))) (fun _ h => h.none) ?_
  refine r_tk 17 rfl rfl (v_loadAgg (vs := D.1.cells (.slice ad3 D.1.es.length cp3) (.slice ad4 D.1.m.length cp4)) rfl (by kernel_rfl) (by kernel_rfl) rfl (fun j u hj => (Cel.allI k3 hj))) (fun _ h => h.none) ?_
  refine r_one 16 (by kernel_rfl) rfl ?_
  refine s_call (xs := [_]) rfl rfl rfl rfl rfl rfl (by kernel_rfl) (fun w hs => nsaid_c D.1 _ _ _ w _ _ hpe hpm hs) ?_
  rintro e w' ⟨rfl, hs'⟩; refine a_ret ?_ hs'; clear hs'
  refine r_next (fun w h => h.none) ?_
  refine r_one 18 (by kernel_rfl) rfl ?_
  refine s_call (xs := [_, _]) rfl rfl rfl rfl rfl rfl (by kernel_rfl) (fun w hs => rsamep_c D.1 _ _ _ _ _ w _ _ hpe hpm hqe hqm hs) ?_
  rintro e w' ⟨rfl, hs'⟩; refine a_ret ?_ hs'; clear hs'
  refine r_next (fun w h => h.none) ?_
  refine r_tk 19 rfl rfl (v_not rfl) (fun _ h => h.none) ?_
  refine r_tk 20 rfl rfl (v_pick_f rfl rfl) (fun _ h => h.none) ?_
  refine r_done (by kernel_rfl) ?_
  refine ww ?_
  refine c_cond_f rfl ?_
  refine ww ?_
  refine c_part_d 92 _ rfl (fun c11 => ?_) (fun c11 => ?_)
  · refine ww ?_
    refine c_cons (s_val (v_field 0 rfl (by kernel_rfl)) rfl rfl rfl ?_)
    refine c_cons (s_val (v_load rfl (Cel.imm k1 rfl) (by kernel_rfl)) rfl rfl rfl ?_)
    refine ww ?_
    refine c_cond_d rfl (fun c12 => ?_) (fun c12 => ?_)
    · -- then
      have e1 : outS E = E.1 := if_pos c11
      have e2 : decP E.1 = (q, 0) := decP_encP c12 (by rw [← hE]; exact Prod.ext rfl c11)
      have e3 : E.1.length ≤ 1000000 := by rw [hE]; have := encP_len q; omega
      rw [e1] at hx
      refine ww ?_
      refine c_cons (s_call (xs := [_]) rfl rfl rfl rfl rfl rfl (by kernel_rfl) (fun w hs => ndep_c _ E.1 e3 _ w _ _ hx hs) ?_)
      rw [e2]
      dsimp only
      rintro e w' ⟨G11, ze, zm, rfl, hG11, hze, hzm, hs'⟩; refine a_ret ?_ hs'; clear hs'
      replace k1 := hG11 _ _ k1
      obtain ⟨ad5, cp5, rfl, _, _⟩ := hze.form
      obtain ⟨ad6, cp6, hve⟩ := hzm.form
      subst hve
      refine ww ?_
      refine c_cons (s_allocA (zNp.cells (.slice none 0 0) (.slice none 0 0)) (by kernel_rfl) rfl rfl fun b4 => ?_)
      refine c_cons (s_storeA (vs := q.cells (.slice ad5 q.es.length cp5) (.slice ad6 q.m.length cp6)) rfl rfl rfl .head (by kernel_rfl) (by simp [Value.oneCell']) rfl ?_)
      refine c_freeze .head fun G12 hG12 k4 => ?_
      replace k1 := hG12 _ _ k1
      replace hze := hze.up EyC.up hG12
      replace hzm := SV.up (H := []) hzm hG12
      have h12 := h9.trans (hG11.trans hG12)
      refine ww ?_
      refine r_startS [] [] (by kernel_rfl) (fun w h => h.none) ?_
      refine r_tk 0 rfl rfl (v_move rfl) (fun _ h => h.none) ?_
      refine r_tk 1 rfl rfl (v_eql_same rfl rfl) (fun _ h => h.none) ?_
      refine r_tk 2 rfl rfl (v_move rfl) (fun _ h => h.none) ?_
      refine r_tk 3 rfl rfl (v_loadAgg (vs := q.cells (.slice ad5 q.es.length cp5) (.slice ad6 q.m.length cp6)) rfl (by kernel_rfl) (by kernel_rfl) rfl (fun j u hj => (Cel.allI k4 hj))) (fun _ h => h.none) ?_
      refine r_tk 5 rfl rfl (v_loadAgg (vs := q.cells (.slice ade q.es.length cpe) (.slice adm q.m.length cpm)) rfl (by kernel_rfl) (by kernel_rfl) rfl (fun j u hj => (Cel.allI k1 hj))) (fun _ h => h.none) ?_
      refine r_one 4 (by kernel_rfl) rfl ?_
      refine s_call (xs := [_]) rfl rfl rfl rfl rfl rfl (by kernel_rfl) (fun w hs => nsaid_c q _ _ _ w _ _ hze hzm hs) ?_
      rintro e w' ⟨rfl, hs'⟩; refine a_ret ?_ hs'; clear hs'
      refine r_next (fun w h => h.none) ?_
      refine r_one 6 (by kernel_rfl) rfl ?_
      refine s_call (xs := [_, _]) rfl rfl rfl rfl rfl rfl (by kernel_rfl) (fun w hs => rsamep_c q _ _ _ _ _ w _ _ hze hzm (hes.up EyC.up h12) (SV.up (H := []) hm h12) hs) ?_
      rintro e w' ⟨rfl, hs'⟩; refine a_ret ?_ hs'; clear hs'
      refine r_next (fun w h => h.none) ?_
      refine r_tk 7 rfl rfl (v_pick_t rfl rfl) (fun _ h => h.none) ?_
      refine r_tk 8 rfl rfl (v_assign rfl) (fun _ h => h.none) ?_
      refine r_done (by kernel_rfl) ?_
      refine ww ?_
      exact f_ret1 rfl rfl (fun w hs => ⟨G12, rfl, h12, hs⟩)
    refine ww ?_
    exact f_ret1 rfl rfl (fun w hs => ⟨G9, rfl, h9, hs⟩)
  refine ww ?_
  refine c_cond_f rfl ?_
  refine ww ?_
  exact f_ret1 rfl rfl (fun w hs => ⟨G9, rfl, h9, hs⟩)
end
end Go.Proofs.Ytobhlbhklblncaa
