/- A step of reading, and what catches it. -/
import Derived.Test.YtkjneelekfdpfaaEye1
import Derived.Test.YtkjneelekfdpfaaRegion2
import Derived.Test.YtkjneelekfdpfaaOps5
import Derived.Test.YtkjneelekfdpfaaOps9
namespace Go.Proofs.Ytkjneelekfdpfaa
open Go
set_option linter.unusedVariables false
set_option linter.unusedSimpArgs false
set_option maxHeartbeats 3200000
section
variable {w0 w : World} {G G' : Im} {H H' H1 : Hp} {m d : Nat}
variable {n : Nat} {ds : List Deferred} {env : Env} {P : Program} {Q : Exit → Act → World → Prop} {ops : Array Oper} {K : Act → World → Prop}
variable {dst : Option Tmp} {ty : TypeId} {pos : String} {aft : Array Edge} {g : Option (Nat × Bool)} {ch : List PanicEntry}
variable {QS : Exit → Act → List Frame → World → Prop} {cs cs' : List Frame} {rest : List Nat}
theorem e_allocA (vs : List Value) {t : TypeId} (hz : zeroB P t = some (.agg vs.toArray)) : Eff P w0 env G H ⟨some d, .alloc t, ty, pos, aft, g⟩ (fun u w' => ∃ b, u = Pt b 0 ∧ Sat w0 w' G ((b, Cs vs t) :: H)) := fun a n ds w ht hs => by
  obtain ⟨i, hi, hz⟩ := zeroB_spec hz
  exact ⟨Pt w.heap.size 0, w.alloc (Cs vs t), by simp [execOp, Instr.alloc, zeroValue, typeInfo, hi, hz, newVar, newRow, Value.cells], _, rfl, hs.alloc (Cs vs t)⟩
theorem q_allocA (vs : List Value) {i : Nat} {t : TypeId} (hi : ops[i]? = some ⟨some d, .alloc t, ty, pos, aft, g⟩) (hg : gOn ops env ⟨some d, .alloc t, ty, pos, aft, g⟩ = some true) (hd : Nat.blt d n = true) (hz : zeroB P t = some (.agg vs.toArray))
    (k : ∀ b, Holds n ds w0 ((d, Pt b 0) :: env) G ((b, Cs vs t) :: H) (fun a w => wpOpsS P ops QS rest a cs w)) : Holds n ds w0 env G H (fun a w => wpOpsS P ops QS (i :: rest) a cs w) :=
  q_eff hi hg rfl hd (e_allocA vs hz) (fun u w' ⟨b, hu, hs⟩ => by subst hu; exact (k b).atw hs)
theorem q_storeA {i : Nat} {t t' : TypeId} {x y : Operand} {b : Nat} {vs L : List Value} (hi : ops[i]? = some ⟨none, .store t x y, ty, pos, aft, g⟩) (hg : gOn ops env ⟨none, .store t x y, ty, pos, aft, g⟩ = some true)
    (hx : ev env x = some (Pt b 0)) (hy : ev env y = some (.agg vs.toArray)) (hp : Pick b (Cs L t') H H1) (hz : szB P t = some vs.length) (h1 : ∀ u ∈ vs, u.oneCell' = true) (hl : vs.length = L.length)
    (k : Holds n ds w0 env G ((b, Cs vs t') :: H1) (fun a w => wpOpsS P ops QS rest a cs w)) : Holds n ds w0 env G H (fun a w => wpOpsS P ops QS (i :: rest) a cs w) :=
  q_eff0 hi hg rfl (e_store hx hy hp (by simpa [Value.cells] using hz) (by simpa [Value.cells] using h1) (by simp [Value.cells]; omega)) (fun w' hs => k.atw (by
    have e : L.drop vs.length = [] := List.drop_of_length_le (by omega)
    simpa [Value.cells, e] using hs))
theorem q_regionL {id : Nat} (l : List Nat) (hl : List.range ops.size = l) (k : Holds n ds w0 env G H (fun a w => wpOpsS P ops QS l a cs w)) : Holds n ds w0 env G H (fun a w => (Code.region id ops false).wpS P QS a cs w) := q_region (by rw [hl]; exact k)
theorem q_then {y : Code} (k : Holds n ds w0 env G H (fun a w => y.wpS P QS a cs w)) : Holds n ds w0 env G H (fun a w => Exit.thenS (y.wpS P QS) QS .normal a cs w) := k
theorem pk_S {fn : Func} {c₀ : Frame} {R : Ending → FrameMode → World → Prop} : PanicOk (fun e a w => bodyPostS P fn c₀ cs R e a cs' w) := fun _ _ _ _ _ h => h
end
attribute [local irreducible] Code.wp wpList stepK Holds Val wpR Eff Eff0 Code.wpIn wpListIn stepI Exit.then Exit.inBlock bodyPost bodyPostM

abbrev PB (b : Nat) (ep : Nat) : Nat × Obj := (b, Cs [Pt ep 0] 107)
abbrev WB (b : Nat) (v : Value) : Nat × Obj := (b, Cs [v] 31)

/-- The catch, when nothing was thrown. -/
theorem catch_n (wb eb ep : Nat) (v0 : Value) (w0 w : World) (G : Im) (F : Hp) (hs : Sat w0 w G (WB wb v0 :: PB eb ep :: F)) :
    CallsD Try.prog 79 #[Pt wb 0, Pt eb 0] .returning w fun e u w' => (∃ r, e = .returned r) ∧ settle u = .returning ∧ Sat w0 w' G F := by
  refine q_enter (vs := [_, _]) Try.func79 rfl Try.ntmps79 (by simp) hs fun c₀ cs hm => ?_
  refine q_seq (q_regionL [0, 1, 2, 3, 4, 5, 6, 7] rfl ?_)
  refine q_rec_n rfl rfl rfl (by simp [recoverD, hm]) ?_
  refine q_val rfl rfl rfl rfl (v_assert_n rfl (by kernel_rfl) (z := .agg #[I64 0]) (by kernel_rfl)) ?_
  refine q_val rfl rfl rfl rfl (v_move rfl) ?_
  refine q_val rfl rfl rfl rfl (v_extract rfl rfl) ?_
  refine q_val rfl rfl rfl rfl (v_extract rfl rfl) ?_
  refine q_allocA [I64 0] rfl rfl rfl (by kernel_rfl) fun b1 => ?_
  refine q_storeA (vs := [I64 0]) rfl rfl rfl rfl .head (by kernel_rfl) (by simp [Value.oneCell']) rfl ?_
  refine q_val rfl rfl rfl rfl (v_assign rfl) ?_
  refine q_nil (q_then (q_plain ?_))
  refine ww ?_
  refine c_cond_f rfl ?_
  refine ww ?_
  exact q_end (u' := c₀.mode) rfl rfl (fun w hs => ⟨⟨_, rfl⟩, by rw [hm]; rfl, hs.sb⟩)

/-- The catch, when the step gave up. -/
theorem catch_s (wb eb ep : Nat) (v0 v : Value) (bad c : Int) (w0 w : World) (G : Im) (F : Hp) (hs : Sat w0 w G (WB wb v0 :: PB eb ep :: EyO ep v bad :: F)) (hv0 : v0.oneCell' = true) :
    CallsD Try.prog 79 #[Pt wb 0, Pt eb 0] (.panicking (gone c)) w fun e u w' => (∃ r, e = .returned r) ∧ settle u = .returning ∧ Sat w0 w' G (EyO ep v0 c :: F) := by
  refine q_enter (vs := [_, _]) Try.func79 rfl Try.ntmps79 (by simp) hs fun c₀ cs hm => ?_
  refine q_seq (q_regionL [0, 1, 2, 3, 4, 5, 6, 7] rfl ?_)
  refine q_rec_s (v := .iface 126 (.agg #[I64 c])) (cs' := { c₀ with mode := .panicking [{ v := .iface 126 (.agg #[I64 c]), recovered := true }] } :: cs) rfl rfl rfl (by simp [recoverD, hm, gone]) ?_
  refine q_val rfl rfl rfl rfl (v_assert_t rfl (by kernel_rfl)) ?_
  refine q_val rfl rfl rfl rfl (v_move rfl) ?_
  refine q_val rfl rfl rfl rfl (v_extract rfl rfl) ?_
  refine q_val rfl rfl rfl rfl (v_extract rfl rfl) ?_
  refine q_allocA [I64 0] rfl rfl rfl (by kernel_rfl) fun b1 => ?_
  refine q_storeA (vs := [I64 c]) rfl rfl rfl rfl .head (by kernel_rfl) (by simp [Value.oneCell']) rfl ?_
  refine q_val rfl rfl rfl rfl (v_assign rfl) ?_
  refine q_nil (q_then (q_plain ?_))
  refine ww ?_
  refine c_cond_t rfl ?_
  refine ww ?_
  refine c_sub (EyO ep v bad :: PB eb ep :: WB wb v0 :: (b1, Cs [I64 c] 126) :: F) sbx ?_
  refine r_startS [PB eb ep, WB wb v0, (b1, Cs [I64 c] 126)] [] (by kernel_rfl) (fun w h => h.sb) ?_
  refine r_tk 0 rfl rfl (v_load rfl (Cel.head rfl) (by kernel_rfl)) (fun _ h => (h.sb)) ?_
  refine r_tk 1 rfl rfl (v_load rfl (Cel.head rfl) (by kernel_rfl)) (fun _ h => (h.sb)) ?_
  refine r_tk 2 rfl rfl (v_load rfl (Cel.tail (Cel.head rfl)) (by kernel_rfl)) (fun _ h => (h.sb)) ?_
  refine r_tk 3 rfl rfl (v_field 0 rfl (by kernel_rfl)) (fun _ h => (h.sb)) ?_
  refine r_tk 4 rfl rfl (v_load rfl (Cel.tail (Cel.tail (Cel.head rfl))) (by kernel_rfl)) (fun _ h => (h.sb)) ?_
  refine r_tk 5 rfl rfl (v_nilCheck rfl) (fun _ h => (h.sb)) ?_
  refine r_tk 6 rfl rfl (v_field 1 rfl (by kernel_rfl)) (fun _ h => (h.sb)) ?_
  refine r_one 7 (by kernel_rfl) rfl ?_
  refine s_store1 rfl rfl rfl .head (by kernel_rfl) hv0 (by simp) ?_
  refine r_next (fun w h => h.sb) ?_
  refine r_tk 8 rfl rfl (v_nilCheck rfl) (fun _ h => (h.sb)) ?_
  refine r_tk 9 rfl rfl (v_field 2 rfl (by kernel_rfl)) (fun _ h => (h.sb)) ?_
  refine r_one 10 (by kernel_rfl) rfl ?_
  refine s_store1 rfl rfl rfl .head (by kernel_rfl) rfl (by simp) ?_
  refine r_next (fun w h => h.sb) ?_
  refine r_done (by kernel_rfl) ?_
  refine ww ?_
  exact q_end (u' := .panicking [{ v := .iface 126 (.agg #[I64 c]), recovered := true }]) rfl rfl (fun w hs => ⟨⟨_, rfl⟩, rfl, (show Sat w0 w G (EyO ep v0 c :: PB eb ep :: WB wb v0 :: (b1, Cs [I64 c] 126) :: F) from hs).sb⟩)
/-- A step: it returns, or it gives up and leaves what it had to write as it was. -/
def Step (w0 : World) (G : Im) (F : Hp) (ep : Nat) (v : Value) (sf : FuncId) (cap : Array Value) (Φ : Im → Value → Hp → Prop) (Ψ : Int → Prop) : Prop :=
  ∀ w C, Sat w0 w G (EyO ep v 0 :: (C ++ F)) → Calls Try.prog sf cap w fun e w' =>
    (∃ G' v' F' r, Im.le G G' ∧ e = .returned r ∧ Φ G' v' F' ∧ Sat w0 w' G' (EyO ep v' 0 :: (C ++ F'))) ∨ (∃ v' c, e = .panicked (gone c) ∧ Ψ c ∧ Sat w0 w' G (EyO ep v' 0 :: (C ++ F)))

-- (*pinstripe/wire.Eye).read
theorem read_c (ep : Nat) (v : Value) (sf : FuncId) (cap : Array Value) (Φ : Im → Value → Hp → Prop) (Ψ : Int → Prop) (w0 w : World) (G : Im) (F : Hp) (hv : v.oneCell' = true) (hen : entersB Try.prog sf = true) (hst : Step w0 G F ep v sf cap Φ Ψ) (hs : Sat w0 w G (EyO ep v 0 :: F)) :
    Calls Try.prog 73 #[Pt ep 0, .func (.func sf) #[] cap] w fun e w' => e = .returned (.tuple #[]) ∧
      ((∃ G' v' F', Im.le G G' ∧ Φ G' v' F' ∧ Sat w0 w' G' (EyO ep v' 0 :: F')) ∨ (∃ c, Ψ c ∧ Sat w0 w' G (EyO ep v c :: F))) := by
  refine f_enterD (vs := [_, _]) Try.func73 rfl Try.ntmps73 (by simp) hs ?_
  refine ww ?_
  refine c_cons (s_box rfl rfl rfl fun b1 => ?_)
  refine ww ?_
  refine c_cons (s_val (v_load rfl (Cel.head rfl) (by kernel_rfl)) rfl rfl rfl ?_)
  refine ww ?_
  refine c_cons (s_val (v_load rfl (Cel.head rfl) (by kernel_rfl)) rfl rfl rfl ?_)
  refine ww ?_
  refine c_cons (s_val (v_field 0 rfl (by kernel_rfl)) rfl rfl rfl ?_)
  refine c_cons (s_val (v_load rfl (Cel.tail (Cel.head rfl)) (by kernel_rfl)) rfl rfl rfl ?_)
  refine ww ?_
  refine c_cons (s_val (v_load rfl (Cel.head rfl) (by kernel_rfl)) rfl rfl rfl ?_)
  refine ww ?_
  refine c_cons (s_val (v_field 2 rfl (by kernel_rfl)) rfl rfl rfl ?_)
  refine c_cons (s_val (v_load rfl (Cel.tail (Cel.head rfl)) (by kernel_rfl)) rfl rfl rfl ?_)
  refine ww ?_
  refine c_cond_f rfl ?_
  refine ww ?_
  refine c_cons (s_val (v_load rfl (Cel.head rfl) (by kernel_rfl)) rfl rfl rfl ?_)
  refine ww ?_
  refine c_cons (s_val (v_field 1 rfl (by kernel_rfl)) rfl rfl rfl ?_)
  refine c_cons (s_val (v_load rfl (Cel.tail (Cel.head rfl)) (by kernel_rfl)) rfl rfl rfl ?_)
  refine c_cons (s_alloc (.slice none 0 0) (by kernel_rfl) rfl rfl fun b2 => ?_)
  refine c_cons (s_store1 rfl rfl rfl .head (by kernel_rfl) hv (by simp [Value.cells]) ?_)
  refine ww ?_
  refine c_cons (s_defer rfl rfl rfl rfl ?_)
  refine ww ?_
  change Holds _ _ _ _ _ (WB b2 v :: PB b1 ep :: EyO ep v 0 :: F) _
  refine c_sub (EyO ep v 0 :: ([WB b2 v, PB b1 ep] ++ F)) sbx ?_
  have e0 : ([] : List Value).toArray ++ cap = cap := by simp
  refine c_cons (s_call (xs := []) rfl rfl rfl rfl rfl rfl hen (fun w hs => by rw [e0]; exact hst w _ hs) ?_)
  rintro e w' (⟨G1, v1, F1, r, hG1, rfl, hΦ, hs'⟩ | ⟨v1, c, rfl, hΨ, hs'⟩)
  · refine a_ret ?_ hs'; clear hs'
    refine ww ?_
    exact d_end1 rfl (by kernel_rfl) (fun w hs => catch_n b2 b1 ep v _ w _ _ (hs.sub (K := WB b2 v :: PB b1 ep :: EyO ep v1 0 :: F1) sbx)) (fun e u w' ⟨h1, h2, h3⟩ => ⟨h1, h2, rfl, .inl ⟨G1, v1, F1, hG1, hΦ, h3⟩⟩)
  · refine a_panic ?_ hs'; clear hs'
    repeat (first | refine x_then_panic ?_ | refine x_block_panic ?_)
    exact d_panic1 rfl (by kernel_rfl) (fun w hs => catch_s b2 b1 ep v v1 0 c _ w _ _ (hs.sub (K := WB b2 v :: PB b1 ep :: EyO ep v1 0 :: F) sbx) hv) (fun e u w' ⟨h1, h2, h3⟩ => ⟨h1, h2, rfl, .inr ⟨c, hΨ, h3⟩⟩)

theorem readB_c (ep : Nat) (v : Value) (bad : Int) (hb : bad ≠ 0) (sf : FuncId) (cap : Array Value) (w0 w : World) (G : Im) (F : Hp) (hs : Sat w0 w G (EyO ep v bad :: F)) :
    Calls Try.prog 73 #[Pt ep 0, .func (.func sf) #[] cap] w fun e w' => e = .returned (.tuple #[]) ∧ Sat w0 w' G (EyO ep v bad :: F) := by
  refine f_enterD (vs := [_, _]) Try.func73 rfl Try.ntmps73 (by simp) hs ?_
  refine ww ?_
  refine c_cons (s_box rfl rfl rfl fun b1 => ?_)
  refine ww ?_
  refine c_cons (s_val (v_load rfl (Cel.head rfl) (by kernel_rfl)) rfl rfl rfl ?_)
  refine ww ?_
  refine c_cons (s_val (v_load rfl (Cel.head rfl) (by kernel_rfl)) rfl rfl rfl ?_)
  refine ww ?_
  refine c_cons (s_val (v_field 0 rfl (by kernel_rfl)) rfl rfl rfl ?_)
  refine c_cons (s_val (v_load rfl (Cel.tail (Cel.head rfl)) (by kernel_rfl)) rfl rfl rfl ?_)
  refine ww ?_
  refine c_cons (s_val (v_load rfl (Cel.head rfl) (by kernel_rfl)) rfl rfl rfl ?_)
  refine ww ?_
  refine c_cons (s_val (v_field 2 rfl (by kernel_rfl)) rfl rfl rfl ?_)
  refine c_cons (s_val (v_load rfl (Cel.tail (Cel.head rfl)) (by kernel_rfl)) rfl rfl rfl ?_)
  refine ww ?_
  refine c_cond_d rfl (fun c1 => ?_) (fun c1 => absurd hb (by omega))
  refine ww ?_
  exact d_ret0 rfl (fun w hs => ⟨rfl, hs.sub (K := EyO ep v bad :: F) sbx⟩)
end Go.Proofs.Ytkjneelekfdpfaa
