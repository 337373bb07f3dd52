/- The walks of package layout: laid, Cut. -/
import Derived.Test.YtldkldmjcacopaaLayW1
import Derived.Test.YtldkldmjcacopaaRecs
import Derived.Test.YtldkldmjcacopaaRecV
namespace Go.Proofs.Ytldkldmjcacopaa
open Go
set_option linter.unusedVariables false
set_option linter.unusedSimpArgs false
set_option maxHeartbeats 1600000
def Im.del (G : Im) (b : Nat) : Im := fun k => if k = b then none else G k
theorem Im.le_del {G G' : Im} (h : Im.le G G') {b : Nat} (hb : G b = none) : Im.le G (Im.del G' b) := fun k o hk => by
  unfold Im.del
  by_cases e : k = b
  · subst e; rw [hb] at hk; cases hk
  · rw [if_neg e]; exact h k o hk
/-- What was given up for a while is owned again. -/
theorem Sat.thaw {w0 w : World} {G : Im} {H : Hp} {b : Nat} {o : Obj} (h : Sat w0 w G H) (hb : G b = some o) : Sat w0 w (Im.del G b) ((b, o) :: H) := by
  refine ⟨h.os, h.tape, h.output, h.size, fun k q hk => ?_, fun p hp => ?_, fun p hp => ?_, ?_⟩
  · unfold Im.del at hk
    by_cases e : k = b
    · rw [if_pos e] at hk; cases hk
    · rw [if_neg e] at hk; exact h.imm k q hk
  · rcases List.mem_cons.1 hp with rfl | hp
    · exact h.imm b o hb
    · exact h.own p hp
  · unfold Im.del
    rcases List.mem_cons.1 hp with rfl | hp
    · exact if_pos rfl
    · by_cases e : p.1 = b
      · exact if_pos e
      · rw [if_neg e]; exact h.sep p hp
  · simp only [List.map_cons, List.nodup_cons]
    refine ⟨fun hm => ?_, h.nodup⟩
    obtain ⟨p, hp, e⟩ := List.mem_map.1 hm
    have := h.sep p hp
    rw [e, hb] at this; cases this
/-- Rows in memory that is owned. -/
def RO (G : Im) (v : Value) (rs : List (List UInt8)) (B : Hp) : Prop := ∃ vs, Own v vs.length vs 22 1 B ∧ Items G vs rs
theorem RO.up {G G' : Im} {v : Value} {rs : List (List UInt8)} {B : Hp} (h : RO G v rs B) (hG : Im.le G G') : RO G' v rs B := let ⟨vs, h1, h2⟩ := h; ⟨vs, h1, h2.mono hG⟩
theorem RO.zero (G : Im) (ad : Option Addr) : RO G (.slice ad 0 0) [] [] := ⟨[], Own.zero ad _ _, rfl, fun j x r h => by simp at h⟩
theorem RO.form {G : Im} {v : Value} {rs : List (List UInt8)} {B : Hp} (h : RO G v rs B) : ∃ ad c, v = .slice ad rs.length c := by
  obtain ⟨vs, h1, h2⟩ := h
  rw [← h2.1]; exact h1.form
theorem Items.snoc {G : Im} {vs : List Value} {rs : List (List UInt8)} (h : Items G vs rs) {u : Value} {b : List UInt8} (hu : SV G [] u b.length (b.map B8)) : Items G (vs ++ [u]) (rs ++ [b]) := by
  refine ⟨by simp [h.1], fun j x r hx hr => ?_⟩
  by_cases hj : j < vs.length
  · rw [List.getElem?_append_left hj] at hx
    rw [List.getElem?_append_left (by rw [← h.1]; exact hj)] at hr
    exact h.2 j x r hx hr
  · have hjl : j < (vs ++ [u]).length := (List.getElem?_eq_some_iff.1 hx).1
    have hje : j = vs.length := by simp at hjl; omega
    subst hje
    rw [List.getElem?_append_right (Nat.le_refl _), Nat.sub_self] at hx
    rw [h.1, List.getElem?_append_right (Nat.le_refl _), Nat.sub_self] at hr
    cases hx
    cases hr
    exact hu
theorem RO.freeze {w0 : World} {n : Nat} {ds : List Deferred} {env : Env} {K : Act → World → Prop} {G : Im} {v : Value} {rs : List (List UInt8)} {B H H1 : Hp} (h : RO G v rs B) (hch : Chunk B H H1)
    (k : ∀ G', Im.le G G' → RowsV G' v rs → Holds n ds w0 env G' H1 K) : Holds n ds w0 env G H K := by
  obtain ⟨vs, h1, h2⟩ := h
  exact c_freezeO h1 hch fun G' hG hsv => k G' hG ⟨vs, hsv, h2.mono hG⟩
theorem SV.one {G : Im} {v : Value} {k : Nat} {L : List Value} (h : SV G [] v k L) : v.oneCell' = true := by
  obtain ⟨ad, c, rfl⟩ := h.form
  rfl
/-- A number is so long at most. -/
def gd (h : Hd) : Prop := (0 ≤ h.c ∧ h.c ≤ 255) ∧ (0 ≤ h.l ∧ h.l ≤ 16777215) ∧ (0 ≤ h.n ∧ h.n ≤ 4294967295) ∧ (0 ≤ h.i ∧ h.i ≤ 255) ∧ (0 ≤ h.s ∧ h.s ≤ 255) ∧ (0 ≤ h.z ∧ h.z ≤ 65535)
def partB (xs : List UInt8) (e i : Nat) : List UInt8 := (xs.drop (min (i * e) xs.length)).take (min (i * e + e) xs.length - min (i * e) xs.length)
theorem partB_len (xs : List UInt8) (e i : Nat) : (partB xs e i).length = min (i * e + e) xs.length - min (i * e) xs.length := by
  unfold partB; rw [List.length_take, List.length_drop]; omega
def partsL (xs : List UInt8) (e k : Nat) : List (List UInt8) := (List.range k).map (partB xs e)
theorem partsL_snoc (xs : List UInt8) (e k : Nat) : partsL xs e (k + 1) = partsL xs e k ++ [partB xs e k] := by simp [partsL, List.range_succ]
def fragsL (c l n s z : Int) (rs : List (List UInt8)) : List (List UInt8) := rs.mapIdx fun i b => headB ⟨c, l, n, i, s, z⟩ ++ b
theorem fragsL_snoc (c l n s z : Int) (rs : List (List UInt8)) (b : List UInt8) : fragsL c l n s z (rs ++ [b]) = fragsL c l n s z rs ++ [headB ⟨c, l, n, rs.length, s, z⟩ ++ b] := by
  unfold fragsL; rw [List.mapIdx_concat]
theorem fragsL_len (c l n s z : Int) (rs : List (List UInt8)) : (fragsL c l n s z rs).length = rs.length := by simp [fragsL]
def eN (xs : List UInt8) (n : Int) : Nat := (eachS xs.length n).toNat
def rowsL (xs : List UInt8) (n : Int) : List (List UInt8) := partsL xs (eN xs n) (n - 1).toNat ++ [pxor (partsL xs (eN xs n) (n - 1).toNat)]
theorem parts_mxl (xs : List UInt8) (e k : Nat) : mxl (partsL xs e k) ≤ xs.length := mxl_le.2 fun r hr => by
  obtain ⟨i, _, rfl⟩ := List.mem_map.1 hr
  rw [partB_len]; omega
/-- A stripe's fragments, or what may not be. -/
def cutS (c l num : Int) (xs : List UInt8) (n : Int) : List (List UInt8) × Int :=
  if (3 ≤ n ∧ n ≤ 16) ∧ mst c l num then
    if (xs.length : Int) ≤ 400 * (n - 1) then (fragsL c l num n xs.length (rowsL xs n), 0) else ([], 3)
  else ([], 1)
attribute [local irreducible] Code.wp wpList stepK Holds Val wpR Eff Eff0 Code.wpIn wpListIn stepI Exit.then Exit.inBlock bodyPost bodyPostM

theorem cloneO_c (v : Value) (xs : List UInt8) (w0 w : World) (G : Im) (F : Hp) (hv : SV G [] v xs.length (xs.map B8)) (hm : xs.length ≤ 1000000) (hs : Sat w0 w G F) :
    Calls Try.prog 59 #[v] w fun e w' => ∃ u B, e = .returned u ∧ OB u xs B ∧ Sat w0 w' G (B ++ F) := by
  obtain ⟨ad, cap, rfl⟩ := hv.form
  refine f_enter (vs := [_]) Try.func59 rfl Try.ntmps59 (by simp) hs ?_
  repeat (first | (refine c_cons ?_; first | refine s_val (by first | exact v_move rfl | exact v_assign rfl | exact v_len rfl (by kernel_rfl) | exact v_lss rfl rfl | exact v_neq rfl rfl | exact v_eql rfl rfl | exact v_gtr rfl rfl | exact v_leq rfl rfl | exact v_geq rfl rfl | exact v_add rfl rfl (by omega) | exact v_sub rfl rfl (by omega) | exact v_not rfl | exact v_pick_t rfl rfl | exact v_pick_f rfl rfl | exact v_xor8 rfl rfl | exact v_makeFunc rfl rfl | exact v_extract rfl rfl | exact v_nilCheck rfl | exact v_max rfl rfl | exact v_min rfl rfl | exact v_eqb_same rfl rfl (by kernel_rfl) | exact v_eqb rfl rfl (by kernel_rfl) | exact v_u8int rfl (by kernel_rfl) (by kernel_rfl) | exact v_eqnilP rfl rfl (by kernel_rfl) | exact v_neqnilP rfl rfl (by kernel_rfl) | exact v_eqnilS rfl rfl (by kernel_rfl)) rfl rfl rfl ?_ | refine s_skip rfl rfl rfl ?_ | refine s_skip0 rfl rfl ?_) | refine c_nil ?_ | refine c_seq ?_ | refine c_region ?_ | refine c_block ?_ | refine c_skip ?_ | refine c_exit ?_ | refine c_ret ?_ | refine x_then ?_ | refine x_block ?_ | refine x_then_exit ?_ | refine x_then_ret ?_ | refine x_block_ret ?_ | refine x_block_eq ?_ | refine x_block_ne rfl ?_)
  cases ad with
  | none =>
    refine c_cond_t rfl ?_
    repeat (first | (refine c_cons ?_; first | refine s_val (by first | exact v_move rfl | exact v_assign rfl | exact v_len rfl (by kernel_rfl) | exact v_lss rfl rfl | exact v_neq rfl rfl | exact v_eql rfl rfl | exact v_gtr rfl rfl | exact v_leq rfl rfl | exact v_geq rfl rfl | exact v_add rfl rfl (by omega) | exact v_sub rfl rfl (by omega) | exact v_not rfl | exact v_pick_t rfl rfl | exact v_pick_f rfl rfl | exact v_xor8 rfl rfl | exact v_makeFunc rfl rfl | exact v_extract rfl rfl | exact v_nilCheck rfl | exact v_max rfl rfl | exact v_min rfl rfl | exact v_eqb_same rfl rfl (by kernel_rfl) | exact v_eqb rfl rfl (by kernel_rfl) | exact v_u8int rfl (by kernel_rfl) (by kernel_rfl) | exact v_eqnilP rfl rfl (by kernel_rfl) | exact v_neqnilP rfl rfl (by kernel_rfl) | exact v_eqnilS rfl rfl (by kernel_rfl)) rfl rfl rfl ?_ | refine s_skip rfl rfl rfl ?_ | refine s_skip0 rfl rfl ?_) | refine c_nil ?_ | refine c_seq ?_ | refine c_region ?_ | refine c_block ?_ | refine c_skip ?_ | refine c_exit ?_ | refine c_ret ?_ | refine x_then ?_ | refine x_block ?_ | refine x_then_exit ?_ | refine x_then_ret ?_ | refine x_block_ret ?_ | refine x_block_eq ?_ | refine x_block_ne rfl ?_)
    obtain ⟨_, _, he, h1, h2, h3⟩ := hv
    cases he
    have hx : xs = [] := by
      rcases h3 with ⟨h, _⟩ | ⟨_, _, h, _⟩
      · simpa using h
      · cases h
    subst hx
    exact f_ret1 rfl rfl (fun w hs => ⟨_, [], rfl, Own.zero none _ _, hs⟩)
  | some b =>
    refine c_cond_f rfl ?_
    repeat (first | (refine c_cons ?_; first | refine s_val (by first | exact v_move rfl | exact v_assign rfl | exact v_len rfl (by kernel_rfl) | exact v_lss rfl rfl | exact v_neq rfl rfl | exact v_eql rfl rfl | exact v_gtr rfl rfl | exact v_leq rfl rfl | exact v_geq rfl rfl | exact v_add rfl rfl (by omega) | exact v_sub rfl rfl (by omega) | exact v_not rfl | exact v_pick_t rfl rfl | exact v_pick_f rfl rfl | exact v_xor8 rfl rfl | exact v_makeFunc rfl rfl | exact v_extract rfl rfl | exact v_nilCheck rfl | exact v_max rfl rfl | exact v_min rfl rfl | exact v_eqb_same rfl rfl (by kernel_rfl) | exact v_eqb rfl rfl (by kernel_rfl) | exact v_u8int rfl (by kernel_rfl) (by kernel_rfl) | exact v_eqnilP rfl rfl (by kernel_rfl) | exact v_neqnilP rfl rfl (by kernel_rfl) | exact v_eqnilS rfl rfl (by kernel_rfl)) rfl rfl rfl ?_ | refine s_skip rfl rfl rfl ?_ | refine s_skip0 rfl rfl ?_) | refine c_nil ?_ | refine c_seq ?_ | refine c_region ?_ | refine c_block ?_ | refine c_skip ?_ | refine c_exit ?_ | refine c_ret ?_ | refine x_then ?_ | refine x_block ?_ | refine x_then_exit ?_ | refine x_then_ret ?_ | refine x_block_ret ?_ | refine x_block_eq ?_ | refine x_block_ne rfl ?_)
    refine c_cons (s_lit (z := B8 0) (bs := 1) (e := 5) [] (by kernel_rfl) rfl rfl rfl rfl (by simp) rfl (by decide) fun b0 => ?_)
    repeat (first | (refine c_cons ?_; first | refine s_val (by first | exact v_move rfl | exact v_assign rfl | exact v_len rfl (by kernel_rfl) | exact v_lss rfl rfl | exact v_neq rfl rfl | exact v_eql rfl rfl | exact v_gtr rfl rfl | exact v_leq rfl rfl | exact v_geq rfl rfl | exact v_add rfl rfl (by omega) | exact v_sub rfl rfl (by omega) | exact v_not rfl | exact v_pick_t rfl rfl | exact v_pick_f rfl rfl | exact v_xor8 rfl rfl | exact v_makeFunc rfl rfl | exact v_extract rfl rfl | exact v_nilCheck rfl | exact v_max rfl rfl | exact v_min rfl rfl | exact v_eqb_same rfl rfl (by kernel_rfl) | exact v_eqb rfl rfl (by kernel_rfl) | exact v_u8int rfl (by kernel_rfl) (by kernel_rfl) | exact v_eqnilP rfl rfl (by kernel_rfl) | exact v_neqnilP rfl rfl (by kernel_rfl) | exact v_eqnilS rfl rfl (by kernel_rfl)) rfl rfl rfl ?_ | refine s_skip rfl rfl rfl ?_ | refine s_skip0 rfl rfl ?_) | refine c_nil ?_ | refine c_seq ?_ | refine c_region ?_ | refine c_block ?_ | refine c_skip ?_ | refine c_exit ?_ | refine c_ret ?_ | refine x_then ?_ | refine x_block ?_ | refine x_then_exit ?_ | refine x_then_ret ?_ | refine x_block_ret ?_ | refine x_block_eq ?_ | refine x_block_ne rfl ?_)
    refine c_cons (s_append (e := 5) (z := B8 0) (sz := 1) (bs := 1) (by kernel_rfl) rfl rfl rfl rfl (Own.full (by simp) (by decide)) Chunk.one (hv.mono (Im.le_refl _) (by simp)) rfl (by decide) (by simp) (by simp [Value.oneCell']) (by simp; omega) (by simp; omega) fun u1 B1 hown1 => ?_)
    simp only [List.length_nil, List.nil_append, Nat.zero_add] at hown1
    repeat (first | (refine c_cons ?_; first | refine s_val (by first | exact v_move rfl | exact v_assign rfl | exact v_len rfl (by kernel_rfl) | exact v_lss rfl rfl | exact v_neq rfl rfl | exact v_eql rfl rfl | exact v_gtr rfl rfl | exact v_leq rfl rfl | exact v_geq rfl rfl | exact v_add rfl rfl (by omega) | exact v_sub rfl rfl (by omega) | exact v_not rfl | exact v_pick_t rfl rfl | exact v_pick_f rfl rfl | exact v_xor8 rfl rfl | exact v_makeFunc rfl rfl | exact v_extract rfl rfl | exact v_nilCheck rfl | exact v_max rfl rfl | exact v_min rfl rfl | exact v_eqb_same rfl rfl (by kernel_rfl) | exact v_eqb rfl rfl (by kernel_rfl) | exact v_u8int rfl (by kernel_rfl) (by kernel_rfl) | exact v_eqnilP rfl rfl (by kernel_rfl) | exact v_neqnilP rfl rfl (by kernel_rfl) | exact v_eqnilS rfl rfl (by kernel_rfl)) rfl rfl rfl ?_ | refine s_skip rfl rfl rfl ?_ | refine s_skip0 rfl rfl ?_) | refine c_nil ?_ | refine c_seq ?_ | refine c_region ?_ | refine c_block ?_ | refine c_skip ?_ | refine c_exit ?_ | refine c_ret ?_ | refine x_then ?_ | refine x_block ?_ | refine x_then_exit ?_ | refine x_then_ret ?_ | refine x_block_ret ?_ | refine x_block_eq ?_ | refine x_block_ne rfl ?_)
    exact f_ret1 rfl rfl (fun w hs => ⟨_, B1, rfl, hown1, hs⟩)

theorem wbytesO_c (pn : Nat) (v : Value) (xs : List UInt8) (hm : xs.length ≤ 1000000) (w0 w : World) (G : Im) (F : Hp) (hv : SV G [] v xs.length (xs.map B8)) (hs : Sat w0 w G (WP pn v :: F)) :
    Calls Try.prog 62 #[Pt pn 0] w fun e w' => ∃ u B, e = .returned (.tuple #[u, I64 0]) ∧ OB u xs B ∧ Sat w0 w' G (B ++ (WP pn v :: F)) := by
  obtain ⟨ad, c, rfl, hc1, hc2, hc3⟩ := id hv
  refine f_enter (vs := [_]) Try.func62 rfl Try.ntmps62 (by simp) hs ?_
  repeat (first | (refine c_cons ?_; first | refine s_val (by first | exact v_move rfl | exact v_assign rfl | exact v_len rfl (by kernel_rfl) | exact v_lss rfl rfl | exact v_neq rfl rfl | exact v_eql rfl rfl | exact v_gtr rfl rfl | exact v_leq rfl rfl | exact v_geq rfl rfl | exact v_add rfl rfl (by omega) | exact v_sub rfl rfl (by omega) | exact v_not rfl | exact v_pick_t rfl rfl | exact v_pick_f rfl rfl | exact v_xor8 rfl rfl | exact v_makeFunc rfl rfl | exact v_extract rfl rfl | exact v_nilCheck rfl | exact v_max rfl rfl | exact v_min rfl rfl | exact v_eqb_same rfl rfl (by kernel_rfl) | exact v_eqb rfl rfl (by kernel_rfl) | exact v_u8int rfl (by kernel_rfl) (by kernel_rfl) | exact v_eqnilP rfl rfl (by kernel_rfl) | exact v_neqnilP rfl rfl (by kernel_rfl) | exact v_eqnilS rfl rfl (by kernel_rfl)) rfl rfl rfl ?_ | refine s_skip rfl rfl rfl ?_ | refine s_skip0 rfl rfl ?_) | refine c_nil ?_ | refine c_seq ?_ | refine c_region ?_ | refine c_block ?_ | refine c_skip ?_ | refine c_exit ?_ | refine c_ret ?_ | refine x_then ?_ | refine x_block ?_ | refine x_then_exit ?_ | refine x_then_ret ?_ | refine x_block_ret ?_ | refine x_block_eq ?_ | refine x_block_ne rfl ?_)
  refine c_cond_f rfl ?_
  repeat (first | (refine c_cons ?_; first | refine s_val (by first | exact v_move rfl | exact v_assign rfl | exact v_len rfl (by kernel_rfl) | exact v_lss rfl rfl | exact v_neq rfl rfl | exact v_eql rfl rfl | exact v_gtr rfl rfl | exact v_leq rfl rfl | exact v_geq rfl rfl | exact v_add rfl rfl (by omega) | exact v_sub rfl rfl (by omega) | exact v_not rfl | exact v_pick_t rfl rfl | exact v_pick_f rfl rfl | exact v_xor8 rfl rfl | exact v_makeFunc rfl rfl | exact v_extract rfl rfl | exact v_nilCheck rfl | exact v_max rfl rfl | exact v_min rfl rfl | exact v_eqb_same rfl rfl (by kernel_rfl) | exact v_eqb rfl rfl (by kernel_rfl) | exact v_u8int rfl (by kernel_rfl) (by kernel_rfl) | exact v_eqnilP rfl rfl (by kernel_rfl) | exact v_neqnilP rfl rfl (by kernel_rfl) | exact v_eqnilS rfl rfl (by kernel_rfl)) rfl rfl rfl ?_ | refine s_skip rfl rfl rfl ?_ | refine s_skip0 rfl rfl ?_) | refine c_nil ?_ | refine c_seq ?_ | refine c_region ?_ | refine c_block ?_ | refine c_skip ?_ | refine c_exit ?_ | refine c_ret ?_ | refine x_then ?_ | refine x_block ?_ | refine x_then_exit ?_ | refine x_then_ret ?_ | refine x_block_ret ?_ | refine x_block_eq ?_ | refine x_block_ne rfl ?_)
  refine c_cons (s_val (v_field 1 rfl (by kernel_rfl)) rfl rfl rfl ?_)
  refine c_cons (s_val (v_load rfl (Cel.head rfl) (by kernel_rfl)) rfl rfl rfl ?_)
  repeat (first | (refine c_cons ?_; first | refine s_val (by first | exact v_move rfl | exact v_assign rfl | exact v_len rfl (by kernel_rfl) | exact v_lss rfl rfl | exact v_neq rfl rfl | exact v_eql rfl rfl | exact v_gtr rfl rfl | exact v_leq rfl rfl | exact v_geq rfl rfl | exact v_add rfl rfl (by omega) | exact v_sub rfl rfl (by omega) | exact v_not rfl | exact v_pick_t rfl rfl | exact v_pick_f rfl rfl | exact v_xor8 rfl rfl | exact v_makeFunc rfl rfl | exact v_extract rfl rfl | exact v_nilCheck rfl | exact v_max rfl rfl | exact v_min rfl rfl | exact v_eqb_same rfl rfl (by kernel_rfl) | exact v_eqb rfl rfl (by kernel_rfl) | exact v_u8int rfl (by kernel_rfl) (by kernel_rfl) | exact v_eqnilP rfl rfl (by kernel_rfl) | exact v_neqnilP rfl rfl (by kernel_rfl) | exact v_eqnilS rfl rfl (by kernel_rfl)) rfl rfl rfl ?_ | refine s_skip rfl rfl rfl ?_ | refine s_skip0 rfl rfl ?_) | refine c_nil ?_ | refine c_seq ?_ | refine c_region ?_ | refine c_block ?_ | refine c_skip ?_ | refine c_exit ?_ | refine c_ret ?_ | refine x_then ?_ | refine x_block ?_ | refine x_then_exit ?_ | refine x_then_ret ?_ | refine x_block_ret ?_ | refine x_block_eq ?_ | refine x_block_ne rfl ?_)
  refine c_kf 7 rfl (by simp) ?_
  refine c_cond_f rfl ?_
  repeat (first | (refine c_cons ?_; first | refine s_val (by first | exact v_move rfl | exact v_assign rfl | exact v_len rfl (by kernel_rfl) | exact v_lss rfl rfl | exact v_neq rfl rfl | exact v_eql rfl rfl | exact v_gtr rfl rfl | exact v_leq rfl rfl | exact v_geq rfl rfl | exact v_add rfl rfl (by omega) | exact v_sub rfl rfl (by omega) | exact v_not rfl | exact v_pick_t rfl rfl | exact v_pick_f rfl rfl | exact v_xor8 rfl rfl | exact v_makeFunc rfl rfl | exact v_extract rfl rfl | exact v_nilCheck rfl | exact v_max rfl rfl | exact v_min rfl rfl | exact v_eqb_same rfl rfl (by kernel_rfl) | exact v_eqb rfl rfl (by kernel_rfl) | exact v_u8int rfl (by kernel_rfl) (by kernel_rfl) | exact v_eqnilP rfl rfl (by kernel_rfl) | exact v_neqnilP rfl rfl (by kernel_rfl) | exact v_eqnilS rfl rfl (by kernel_rfl)) rfl rfl rfl ?_ | refine s_skip rfl rfl rfl ?_ | refine s_skip0 rfl rfl ?_) | refine c_nil ?_ | refine c_seq ?_ | refine c_region ?_ | refine c_block ?_ | refine c_skip ?_ | refine c_exit ?_ | refine c_ret ?_ | refine x_then ?_ | refine x_block ?_ | refine x_then_exit ?_ | refine x_then_ret ?_ | refine x_block_ret ?_ | refine x_block_eq ?_ | refine x_block_ne rfl ?_)
  refine c_cons (s_val (v_field 0 rfl (by kernel_rfl)) rfl rfl rfl ?_)
  refine c_cons (s_val (v_load rfl (Cel.head rfl) (by kernel_rfl)) rfl rfl rfl ?_)
  refine c_cons (s_call (xs := [_]) rfl rfl rfl rfl rfl rfl (by kernel_rfl) (fun w hs => cloneO_c _ xs _ w _ _ hv hm hs) ?_)
  rintro e w' ⟨u1, B1, rfl, hu1, hs'⟩; refine a_ret ?_ hs'; clear hs'
  repeat (first | (refine c_cons ?_; first | refine s_val (by first | exact v_move rfl | exact v_assign rfl | exact v_len rfl (by kernel_rfl) | exact v_lss rfl rfl | exact v_neq rfl rfl | exact v_eql rfl rfl | exact v_gtr rfl rfl | exact v_leq rfl rfl | exact v_geq rfl rfl | exact v_add rfl rfl (by omega) | exact v_sub rfl rfl (by omega) | exact v_not rfl | exact v_pick_t rfl rfl | exact v_pick_f rfl rfl | exact v_xor8 rfl rfl | exact v_makeFunc rfl rfl | exact v_extract rfl rfl | exact v_nilCheck rfl | exact v_max rfl rfl | exact v_min rfl rfl | exact v_eqb_same rfl rfl (by kernel_rfl) | exact v_eqb rfl rfl (by kernel_rfl) | exact v_u8int rfl (by kernel_rfl) (by kernel_rfl) | exact v_eqnilP rfl rfl (by kernel_rfl) | exact v_neqnilP rfl rfl (by kernel_rfl) | exact v_eqnilS rfl rfl (by kernel_rfl)) rfl rfl rfl ?_ | refine s_skip rfl rfl rfl ?_ | refine s_skip0 rfl rfl ?_) | refine c_nil ?_ | refine c_seq ?_ | refine c_region ?_ | refine c_block ?_ | refine c_skip ?_ | refine c_exit ?_ | refine c_ret ?_ | refine x_then ?_ | refine x_block ?_ | refine x_then_exit ?_ | refine x_then_ret ?_ | refine x_block_ret ?_ | refine x_block_eq ?_ | refine x_block_ne rfl ?_)
  exact f_ret2 rfl rfl rfl (fun w hs => ⟨u1, B1, rfl, hu1, hs⟩)

theorem laid_c (h : Hd) (hg : gd h) (ub : Value) (b : List UInt8) (hb : b.length ≤ 100000) (w0 w : World) (G : Im) (F : Hp) (hub : SV G [] ub b.length (b.map B8)) (hs : Sat w0 w G F) :
    Calls Try.prog 44 #[h.V, ub] w fun e w' => ∃ G' u, e = .returned u ∧ Im.le G G' ∧ SV G' [] u (headB h ++ b).length ((headB h ++ b).map B8) ∧ Sat w0 w' G' F := by
  obtain ⟨hg1, hg2, hg3, hg4, hg5, hg6⟩ := hg
  refine f_enter (vs := [_, _]) Try.func44 rfl Try.ntmps44 (by simp) hs ?_
  repeat (first | (refine c_cons ?_; first | refine s_val (by first | exact v_move rfl | exact v_assign rfl | exact v_len rfl (by kernel_rfl) | exact v_lss rfl rfl | exact v_neq rfl rfl | exact v_eql rfl rfl | exact v_gtr rfl rfl | exact v_leq rfl rfl | exact v_geq rfl rfl | exact v_add rfl rfl (by omega) | exact v_sub rfl rfl (by omega) | exact v_not rfl | exact v_pick_t rfl rfl | exact v_pick_f rfl rfl | exact v_xor8 rfl rfl | exact v_makeFunc rfl rfl | exact v_extract rfl rfl | exact v_nilCheck rfl | exact v_max rfl rfl | exact v_min rfl rfl | exact v_eqb_same rfl rfl (by kernel_rfl) | exact v_eqb rfl rfl (by kernel_rfl) | exact v_u8int rfl (by kernel_rfl) (by kernel_rfl) | exact v_eqnilP rfl rfl (by kernel_rfl) | exact v_neqnilP rfl rfl (by kernel_rfl) | exact v_eqnilS rfl rfl (by kernel_rfl)) rfl rfl rfl ?_ | refine s_skip rfl rfl rfl ?_ | refine s_skip0 rfl rfl ?_) | refine c_nil ?_ | refine c_seq ?_ | refine c_region ?_ | refine c_block ?_ | refine c_skip ?_ | refine c_exit ?_ | refine c_ret ?_ | refine x_then ?_ | refine x_block ?_ | refine x_then_exit ?_ | refine x_then_ret ?_ | refine x_block_ret ?_ | refine x_block_eq ?_ | refine x_block_ne rfl ?_)
  refine c_cons (s_boxA [I64 h.c, I64 h.l, I64 h.n, I64 h.i, I64 h.s, I64 h.z] rfl rfl rfl fun b1 => ?_)
  refine c_freeze .head fun G1 hG1 k1 => ?_
  repeat (first | (refine c_cons ?_; first | refine s_val (by first | exact v_move rfl | exact v_assign rfl | exact v_len rfl (by kernel_rfl) | exact v_lss rfl rfl | exact v_neq rfl rfl | exact v_eql rfl rfl | exact v_gtr rfl rfl | exact v_leq rfl rfl | exact v_geq rfl rfl | exact v_add rfl rfl (by omega) | exact v_sub rfl rfl (by omega) | exact v_not rfl | exact v_pick_t rfl rfl | exact v_pick_f rfl rfl | exact v_xor8 rfl rfl | exact v_makeFunc rfl rfl | exact v_extract rfl rfl | exact v_nilCheck rfl | exact v_max rfl rfl | exact v_min rfl rfl | exact v_eqb_same rfl rfl (by kernel_rfl) | exact v_eqb rfl rfl (by kernel_rfl) | exact v_u8int rfl (by kernel_rfl) (by kernel_rfl) | exact v_eqnilP rfl rfl (by kernel_rfl) | exact v_neqnilP rfl rfl (by kernel_rfl) | exact v_eqnilS rfl rfl (by kernel_rfl)) rfl rfl rfl ?_ | refine s_skip rfl rfl rfl ?_ | refine s_skip0 rfl rfl ?_) | refine c_nil ?_ | refine c_seq ?_ | refine c_region ?_ | refine c_block ?_ | refine c_skip ?_ | refine c_exit ?_ | refine c_ret ?_ | refine x_then ?_ | refine x_block ?_ | refine x_then_exit ?_ | refine x_then_ret ?_ | refine x_block_ret ?_ | refine x_block_eq ?_ | refine x_block_ne rfl ?_)
  refine c_cons (s_val (v_build (ps := []) #[.slice none 0 0, I64 0] rfl (by kernel_rfl)) rfl rfl rfl ?_)
  refine c_cons (s_boxA [.slice none 0 0, I64 0] rfl rfl rfl fun b2 => ?_)
  change Holds _ _ _ _ _ (WP b2 (.slice none 0 0) :: ([] ++ F)) _
  repeat (first | (refine c_cons ?_; first | refine s_val (by first | exact v_move rfl | exact v_assign rfl | exact v_len rfl (by kernel_rfl) | exact v_lss rfl rfl | exact v_neq rfl rfl | exact v_eql rfl rfl | exact v_gtr rfl rfl | exact v_leq rfl rfl | exact v_geq rfl rfl | exact v_add rfl rfl (by omega) | exact v_sub rfl rfl (by omega) | exact v_not rfl | exact v_pick_t rfl rfl | exact v_pick_f rfl rfl | exact v_xor8 rfl rfl | exact v_makeFunc rfl rfl | exact v_extract rfl rfl | exact v_nilCheck rfl | exact v_max rfl rfl | exact v_min rfl rfl | exact v_eqb_same rfl rfl (by kernel_rfl) | exact v_eqb rfl rfl (by kernel_rfl) | exact v_u8int rfl (by kernel_rfl) (by kernel_rfl) | exact v_eqnilP rfl rfl (by kernel_rfl) | exact v_neqnilP rfl rfl (by kernel_rfl) | exact v_eqnilS rfl rfl (by kernel_rfl)) rfl rfl rfl ?_ | refine s_skip rfl rfl rfl ?_ | refine s_skip0 rfl rfl ?_) | refine c_nil ?_ | refine c_seq ?_ | refine c_region ?_ | refine c_block ?_ | refine c_skip ?_ | refine c_exit ?_ | refine c_ret ?_ | refine x_then ?_ | refine x_block ?_ | refine x_then_exit ?_ | refine x_then_ret ?_ | refine x_block_ret ?_ | refine x_block_eq ?_ | refine x_block_ne rfl ?_)
  refine c_cons (s_val (v_field 0 rfl (by kernel_rfl)) rfl rfl rfl ?_)
  refine c_cons (s_val (v_field 0 rfl (by kernel_rfl)) rfl rfl rfl ?_)
  refine c_cons (s_val (v_load rfl (Cel.imm k1 rfl) (by kernel_rfl)) rfl rfl rfl ?_)
  refine c_cons (s_call (xs := [_, _, _]) rfl rfl rfl rfl rfl rfl (by kernel_rfl) (fun w hs => wnum_c b2 _ [] [] h.c 1 (by omega) (by omega) (by simp) _ w _ _ (Own.zero none _ _) hs) ?_)
  rintro e w' ⟨v1, B1, rfl, hown1, hs'⟩; refine a_ret ?_ hs'; clear hs'
  repeat (first | (refine c_cons ?_; first | refine s_val (by first | exact v_move rfl | exact v_assign rfl | exact v_len rfl (by kernel_rfl) | exact v_lss rfl rfl | exact v_neq rfl rfl | exact v_eql rfl rfl | exact v_gtr rfl rfl | exact v_leq rfl rfl | exact v_geq rfl rfl | exact v_add rfl rfl (by omega) | exact v_sub rfl rfl (by omega) | exact v_not rfl | exact v_pick_t rfl rfl | exact v_pick_f rfl rfl | exact v_xor8 rfl rfl | exact v_makeFunc rfl rfl | exact v_extract rfl rfl | exact v_nilCheck rfl | exact v_max rfl rfl | exact v_min rfl rfl | exact v_eqb_same rfl rfl (by kernel_rfl) | exact v_eqb rfl rfl (by kernel_rfl) | exact v_u8int rfl (by kernel_rfl) (by kernel_rfl) | exact v_eqnilP rfl rfl (by kernel_rfl) | exact v_neqnilP rfl rfl (by kernel_rfl) | exact v_eqnilS rfl rfl (by kernel_rfl)) rfl rfl rfl ?_ | refine s_skip rfl rfl rfl ?_ | refine s_skip0 rfl rfl ?_) | refine c_nil ?_ | refine c_seq ?_ | refine c_region ?_ | refine c_block ?_ | refine c_skip ?_ | refine c_exit ?_ | refine c_ret ?_ | refine x_then ?_ | refine x_block ?_ | refine x_then_exit ?_ | refine x_then_ret ?_ | refine x_block_ret ?_ | refine x_block_eq ?_ | refine x_block_ne rfl ?_)
  refine c_cons (s_val (v_field 0 rfl (by kernel_rfl)) rfl rfl rfl ?_)
  refine c_cons (s_val (v_field 1 rfl (by kernel_rfl)) rfl rfl rfl ?_)
  refine c_cons (s_val (v_load rfl (Cel.imm k1 rfl) (by kernel_rfl)) rfl rfl rfl ?_)
  refine c_cons (s_call (xs := [_, _, _]) rfl rfl rfl rfl rfl rfl (by kernel_rfl) (fun w hs => wnum_c b2 _ _ B1 h.l 3 (by omega) (by omega) (by simp [be_len]) _ w _ _ hown1 hs) ?_)
  rintro e w' ⟨v2, B2, rfl, hown2, hs'⟩; refine a_ret ?_ hs'; clear hs'
  repeat (first | (refine c_cons ?_; first | refine s_val (by first | exact v_move rfl | exact v_assign rfl | exact v_len rfl (by kernel_rfl) | exact v_lss rfl rfl | exact v_neq rfl rfl | exact v_eql rfl rfl | exact v_gtr rfl rfl | exact v_leq rfl rfl | exact v_geq rfl rfl | exact v_add rfl rfl (by omega) | exact v_sub rfl rfl (by omega) | exact v_not rfl | exact v_pick_t rfl rfl | exact v_pick_f rfl rfl | exact v_xor8 rfl rfl | exact v_makeFunc rfl rfl | exact v_extract rfl rfl | exact v_nilCheck rfl | exact v_max rfl rfl | exact v_min rfl rfl | exact v_eqb_same rfl rfl (by kernel_rfl) | exact v_eqb rfl rfl (by kernel_rfl) | exact v_u8int rfl (by kernel_rfl) (by kernel_rfl) | exact v_eqnilP rfl rfl (by kernel_rfl) | exact v_neqnilP rfl rfl (by kernel_rfl) | exact v_eqnilS rfl rfl (by kernel_rfl)) rfl rfl rfl ?_ | refine s_skip rfl rfl rfl ?_ | refine s_skip0 rfl rfl ?_) | refine c_nil ?_ | refine c_seq ?_ | refine c_region ?_ | refine c_block ?_ | refine c_skip ?_ | refine c_exit ?_ | refine c_ret ?_ | refine x_then ?_ | refine x_block ?_ | refine x_then_exit ?_ | refine x_then_ret ?_ | refine x_block_ret ?_ | refine x_block_eq ?_ | refine x_block_ne rfl ?_)
  refine c_cons (s_val (v_field 0 rfl (by kernel_rfl)) rfl rfl rfl ?_)
  refine c_cons (s_val (v_field 2 rfl (by kernel_rfl)) rfl rfl rfl ?_)
  refine c_cons (s_val (v_load rfl (Cel.imm k1 rfl) (by kernel_rfl)) rfl rfl rfl ?_)
  refine c_cons (s_call (xs := [_, _, _]) rfl rfl rfl rfl rfl rfl (by kernel_rfl) (fun w hs => wnum_c b2 _ _ B2 h.n 4 (by omega) (by omega) (by simp [be_len]) _ w _ _ hown2 hs) ?_)
  rintro e w' ⟨v3, B3, rfl, hown3, hs'⟩; refine a_ret ?_ hs'; clear hs'
  repeat (first | (refine c_cons ?_; first | refine s_val (by first | exact v_move rfl | exact v_assign rfl | exact v_len rfl (by kernel_rfl) | exact v_lss rfl rfl | exact v_neq rfl rfl | exact v_eql rfl rfl | exact v_gtr rfl rfl | exact v_leq rfl rfl | exact v_geq rfl rfl | exact v_add rfl rfl (by omega) | exact v_sub rfl rfl (by omega) | exact v_not rfl | exact v_pick_t rfl rfl | exact v_pick_f rfl rfl | exact v_xor8 rfl rfl | exact v_makeFunc rfl rfl | exact v_extract rfl rfl | exact v_nilCheck rfl | exact v_max rfl rfl | exact v_min rfl rfl | exact v_eqb_same rfl rfl (by kernel_rfl) | exact v_eqb rfl rfl (by kernel_rfl) | exact v_u8int rfl (by kernel_rfl) (by kernel_rfl) | exact v_eqnilP rfl rfl (by kernel_rfl) | exact v_neqnilP rfl rfl (by kernel_rfl) | exact v_eqnilS rfl rfl (by kernel_rfl)) rfl rfl rfl ?_ | refine s_skip rfl rfl rfl ?_ | refine s_skip0 rfl rfl ?_) | refine c_nil ?_ | refine c_seq ?_ | refine c_region ?_ | refine c_block ?_ | refine c_skip ?_ | refine c_exit ?_ | refine c_ret ?_ | refine x_then ?_ | refine x_block ?_ | refine x_then_exit ?_ | refine x_then_ret ?_ | refine x_block_ret ?_ | refine x_block_eq ?_ | refine x_block_ne rfl ?_)
  refine c_cons (s_val (v_field 3 rfl (by kernel_rfl)) rfl rfl rfl ?_)
  refine c_cons (s_val (v_load rfl (Cel.imm k1 rfl) (by kernel_rfl)) rfl rfl rfl ?_)
  refine c_cons (s_call (xs := [_, _, _]) rfl rfl rfl rfl rfl rfl (by kernel_rfl) (fun w hs => wnum_c b2 _ _ B3 h.i 1 (by omega) (by omega) (by simp [be_len]) _ w _ _ hown3 hs) ?_)
  rintro e w' ⟨v4, B4, rfl, hown4, hs'⟩; refine a_ret ?_ hs'; clear hs'
  repeat (first | (refine c_cons ?_; first | refine s_val (by first | exact v_move rfl | exact v_assign rfl | exact v_len rfl (by kernel_rfl) | exact v_lss rfl rfl | exact v_neq rfl rfl | exact v_eql rfl rfl | exact v_gtr rfl rfl | exact v_leq rfl rfl | exact v_geq rfl rfl | exact v_add rfl rfl (by omega) | exact v_sub rfl rfl (by omega) | exact v_not rfl | exact v_pick_t rfl rfl | exact v_pick_f rfl rfl | exact v_xor8 rfl rfl | exact v_makeFunc rfl rfl | exact v_extract rfl rfl | exact v_nilCheck rfl | exact v_max rfl rfl | exact v_min rfl rfl | exact v_eqb_same rfl rfl (by kernel_rfl) | exact v_eqb rfl rfl (by kernel_rfl) | exact v_u8int rfl (by kernel_rfl) (by kernel_rfl) | exact v_eqnilP rfl rfl (by kernel_rfl) | exact v_neqnilP rfl rfl (by kernel_rfl) | exact v_eqnilS rfl rfl (by kernel_rfl)) rfl rfl rfl ?_ | refine s_skip rfl rfl rfl ?_ | refine s_skip0 rfl rfl ?_) | refine c_nil ?_ | refine c_seq ?_ | refine c_region ?_ | refine c_block ?_ | refine c_skip ?_ | refine c_exit ?_ | refine c_ret ?_ | refine x_then ?_ | refine x_block ?_ | refine x_then_exit ?_ | refine x_then_ret ?_ | refine x_block_ret ?_ | refine x_block_eq ?_ | refine x_block_ne rfl ?_)
  refine c_cons (s_val (v_field 4 rfl (by kernel_rfl)) rfl rfl rfl ?_)
  refine c_cons (s_val (v_load rfl (Cel.imm k1 rfl) (by kernel_rfl)) rfl rfl rfl ?_)
  refine c_cons (s_call (xs := [_, _, _]) rfl rfl rfl rfl rfl rfl (by kernel_rfl) (fun w hs => wnum_c b2 _ _ B4 h.s 1 (by omega) (by omega) (by simp [be_len]) _ w _ _ hown4 hs) ?_)
  rintro e w' ⟨v5, B5, rfl, hown5, hs'⟩; refine a_ret ?_ hs'; clear hs'
  repeat (first | (refine c_cons ?_; first | refine s_val (by first | exact v_move rfl | exact v_assign rfl | exact v_len rfl (by kernel_rfl) | exact v_lss rfl rfl | exact v_neq rfl rfl | exact v_eql rfl rfl | exact v_gtr rfl rfl | exact v_leq rfl rfl | exact v_geq rfl rfl | exact v_add rfl rfl (by omega) | exact v_sub rfl rfl (by omega) | exact v_not rfl | exact v_pick_t rfl rfl | exact v_pick_f rfl rfl | exact v_xor8 rfl rfl | exact v_makeFunc rfl rfl | exact v_extract rfl rfl | exact v_nilCheck rfl | exact v_max rfl rfl | exact v_min rfl rfl | exact v_eqb_same rfl rfl (by kernel_rfl) | exact v_eqb rfl rfl (by kernel_rfl) | exact v_u8int rfl (by kernel_rfl) (by kernel_rfl) | exact v_eqnilP rfl rfl (by kernel_rfl) | exact v_neqnilP rfl rfl (by kernel_rfl) | exact v_eqnilS rfl rfl (by kernel_rfl)) rfl rfl rfl ?_ | refine s_skip rfl rfl rfl ?_ | refine s_skip0 rfl rfl ?_) | refine c_nil ?_ | refine c_seq ?_ | refine c_region ?_ | refine c_block ?_ | refine c_skip ?_ | refine c_exit ?_ | refine c_ret ?_ | refine x_then ?_ | refine x_block ?_ | refine x_then_exit ?_ | refine x_then_ret ?_ | refine x_block_ret ?_ | refine x_block_eq ?_ | refine x_block_ne rfl ?_)
  refine c_cons (s_val (v_field 5 rfl (by kernel_rfl)) rfl rfl rfl ?_)
  refine c_cons (s_val (v_load rfl (Cel.imm k1 rfl) (by kernel_rfl)) rfl rfl rfl ?_)
  refine c_cons (s_call (xs := [_, _, _]) rfl rfl rfl rfl rfl rfl (by kernel_rfl) (fun w hs => wnum_c b2 _ _ B5 h.z 2 (by omega) (by omega) (by simp [be_len]) _ w _ _ hown5 hs) ?_)
  rintro e w' ⟨v6, B6, rfl, hown6, hs'⟩; refine a_ret ?_ hs'; clear hs'
  have e6 : [] ++ be h.c 1 ++ be h.l 3 ++ be h.n 4 ++ be h.i 1 ++ be h.s 1 ++ be h.z 2 = headB h := by rw [List.nil_append]; rfl
  rw [e6] at hown6
  have hl12 := headB_len h
  generalize headB h = hd at hown6 hl12 ⊢
  refine c_freezeO hown6 (Chunk.tail Chunk.head) fun G6 hG6 hsv6 => ?_
  repeat (first | (refine c_cons ?_; first | refine s_val (by first | exact v_move rfl | exact v_assign rfl | exact v_len rfl (by kernel_rfl) | exact v_lss rfl rfl | exact v_neq rfl rfl | exact v_eql rfl rfl | exact v_gtr rfl rfl | exact v_leq rfl rfl | exact v_geq rfl rfl | exact v_add rfl rfl (by omega) | exact v_sub rfl rfl (by omega) | exact v_not rfl | exact v_pick_t rfl rfl | exact v_pick_f rfl rfl | exact v_xor8 rfl rfl | exact v_makeFunc rfl rfl | exact v_extract rfl rfl | exact v_nilCheck rfl | exact v_max rfl rfl | exact v_min rfl rfl | exact v_eqb_same rfl rfl (by kernel_rfl) | exact v_eqb rfl rfl (by kernel_rfl) | exact v_u8int rfl (by kernel_rfl) (by kernel_rfl) | exact v_eqnilP rfl rfl (by kernel_rfl) | exact v_neqnilP rfl rfl (by kernel_rfl) | exact v_eqnilS rfl rfl (by kernel_rfl)) rfl rfl rfl ?_ | refine s_skip rfl rfl rfl ?_ | refine s_skip0 rfl rfl ?_) | refine c_nil ?_ | refine c_seq ?_ | refine c_region ?_ | refine c_block ?_ | refine c_skip ?_ | refine c_exit ?_ | refine c_ret ?_ | refine x_then ?_ | refine x_block ?_ | refine x_then_exit ?_ | refine x_then_ret ?_ | refine x_block_ret ?_ | refine x_block_eq ?_ | refine x_block_ne rfl ?_)
  refine c_cons (s_call (xs := [_]) rfl rfl rfl rfl rfl rfl (by kernel_rfl) (fun w hs => wbytesO_c b2 v6 hd (by omega) _ w _ _ hsv6 hs) ?_)
  rintro e w' ⟨u7, B7, rfl, hu7, hs'⟩; refine a_ret ?_ hs'; clear hs'
  repeat (first | (refine c_cons ?_; first | refine s_val (by first | exact v_move rfl | exact v_assign rfl | exact v_len rfl (by kernel_rfl) | exact v_lss rfl rfl | exact v_neq rfl rfl | exact v_eql rfl rfl | exact v_gtr rfl rfl | exact v_leq rfl rfl | exact v_geq rfl rfl | exact v_add rfl rfl (by omega) | exact v_sub rfl rfl (by omega) | exact v_not rfl | exact v_pick_t rfl rfl | exact v_pick_f rfl rfl | exact v_xor8 rfl rfl | exact v_makeFunc rfl rfl | exact v_extract rfl rfl | exact v_nilCheck rfl | exact v_max rfl rfl | exact v_min rfl rfl | exact v_eqb_same rfl rfl (by kernel_rfl) | exact v_eqb rfl rfl (by kernel_rfl) | exact v_u8int rfl (by kernel_rfl) (by kernel_rfl) | exact v_eqnilP rfl rfl (by kernel_rfl) | exact v_neqnilP rfl rfl (by kernel_rfl) | exact v_eqnilS rfl rfl (by kernel_rfl)) rfl rfl rfl ?_ | refine s_skip rfl rfl rfl ?_ | refine s_skip0 rfl rfl ?_) | refine c_nil ?_ | refine c_seq ?_ | refine c_region ?_ | refine c_block ?_ | refine c_skip ?_ | refine c_exit ?_ | refine c_ret ?_ | refine x_then ?_ | refine x_block ?_ | refine x_then_exit ?_ | refine x_then_ret ?_ | refine x_block_ret ?_ | refine x_block_eq ?_ | refine x_block_ne rfl ?_)
  refine c_cons (s_append (e := 5) (z := B8 0) (sz := 1) (bs := 1) (by kernel_rfl) rfl rfl rfl rfl hu7 Chunk.head (hub.mono (hG1.trans hG6) (by simp)) rfl (by decide) (by simp) (B8_one b) (by omega) (by omega) fun u8 B8' hown8 => ?_)
  refine c_freezeO hown8 Chunk.head fun G8 hG8 hsv8 => ?_
  rw [← List.map_append, ← List.length_append] at hsv8
  repeat (first | (refine c_cons ?_; first | refine s_val (by first | exact v_move rfl | exact v_assign rfl | exact v_len rfl (by kernel_rfl) | exact v_lss rfl rfl | exact v_neq rfl rfl | exact v_eql rfl rfl | exact v_gtr rfl rfl | exact v_leq rfl rfl | exact v_geq rfl rfl | exact v_add rfl rfl (by omega) | exact v_sub rfl rfl (by omega) | exact v_not rfl | exact v_pick_t rfl rfl | exact v_pick_f rfl rfl | exact v_xor8 rfl rfl | exact v_makeFunc rfl rfl | exact v_extract rfl rfl | exact v_nilCheck rfl | exact v_max rfl rfl | exact v_min rfl rfl | exact v_eqb_same rfl rfl (by kernel_rfl) | exact v_eqb rfl rfl (by kernel_rfl) | exact v_u8int rfl (by kernel_rfl) (by kernel_rfl) | exact v_eqnilP rfl rfl (by kernel_rfl) | exact v_neqnilP rfl rfl (by kernel_rfl) | exact v_eqnilS rfl rfl (by kernel_rfl)) rfl rfl rfl ?_ | refine s_skip rfl rfl rfl ?_ | refine s_skip0 rfl rfl ?_) | refine c_nil ?_ | refine c_seq ?_ | refine c_region ?_ | refine c_block ?_ | refine c_skip ?_ | refine c_exit ?_ | refine c_ret ?_ | refine x_then ?_ | refine x_block ?_ | refine x_then_exit ?_ | refine x_then_ret ?_ | refine x_block_ret ?_ | refine x_block_eq ?_ | refine x_block_ne rfl ?_)
  exact f_ret1 rfl rfl (fun w hs => ⟨G8, u8, rfl, hG1.trans (hG6.trans hG8), hsv8, hs.tl⟩)

theorem xorO_c (v : Value) (rs : List (List UInt8)) (B : Hp) (w0 w : World) (G : Im) (F : Hp) (hv : RO G v rs B) (hm : mxl rs ≤ 140737488355328) (hs : Sat w0 w G (B ++ F)) :
    Calls Try.prog 46 #[v] w fun e w' => ∃ b G', e = .returned (Sl b 0 (mxl rs) (mxl rs)) ∧ Im.le G G' ∧ Sat w0 w' G' ((b, Cs ((pxor rs).map B8) 5) :: (B ++ F)) := by
  obtain ⟨vs, ⟨hl, hown⟩, hit⟩ := hv
  rcases hown with ⟨ad, rfl, h0, rfl⟩ | ⟨bb, c, sl, rfl, hc1, hc2, hc3, rfl⟩
  · have hvs : vs = [] := List.eq_nil_of_length_eq_zero h0
    subst hvs
    have hrs : rs = [] := List.eq_nil_of_length_eq_zero hit.1.symm
    subst hrs
    exact xor_c _ [] w0 w G F ⟨[], (Own.zero ad 22 1).sv (by simp), hit⟩ hm hs
  · have hGb : G bb = none := hs.sep _ (List.mem_cons_self ..)
    have hG2 : Im.le G (G.add bb (Cs (vs ++ sl) 22)) := Im.le_add hGb
    have hsv : SV (G.add bb (Cs (vs ++ sl) 22)) [] (Sl bb 0 vs.length c) vs.length vs := ⟨_, c, rfl, hc2, hc1, .inr ⟨bb, 0, rfl, fun j u hj => ⟨_, _, _, .of_imm (Im.add_self G bb _), by simp only [List.getElem?_toArray, Nat.zero_add]; rw [List.getElem?_append_left (List.getElem?_eq_some_iff.1 hj).1]; exact hj⟩⟩⟩
    refine (xor_c _ rs w0 w _ F ⟨vs, hsv, hit.mono hG2⟩ hm hs.freeze).mono fun e w' ⟨b, G', he, hG', hs'⟩ => ?_
    have hk := hG' _ _ (Im.add_self G bb (Cs (vs ++ sl) 22))
    exact ⟨b, Im.del G' bb, he, Im.le_del (hG2.trans hG') hGb, (hs'.thaw hk).perm (List.Perm.swap _ _ _)⟩
abbrev RwO (p : Nat) (v : Value) : Nat × Obj := (p, Cs [v] 39)
theorem add_c (pr po ps pn pd : Nat) (c l num n : Int) (vd : Value) (len : Nat) (hg : (0 ≤ c ∧ c ≤ 255) ∧ (0 ≤ l ∧ l ≤ 16777215) ∧ (0 ≤ num ∧ num ≤ 4294967295) ∧ (0 ≤ n ∧ n ≤ 255) ∧ len ≤ 65535) (ub : Value) (b : List UInt8) (hb : b.length ≤ 100000) (vr : Value) (rs : List (List UInt8)) (Br : Hp) (vo : Value) (os : List (List UInt8)) (Bo : Hp)
    (hrl : rs.length ≤ 100) (hol : os.length ≤ 100) (w0 w : World) (G : Im) (F : Hp) (kS : G ps = some (Cs [I64 c, I64 l, I64 num] 25)) (kN : G pn = some (Cs [I64 n] 3)) (kD : G pd = some (Cs [vd] 22)) (hvd : ∃ ad cp, vd = .slice ad len cp)
    (hub : SV G [] ub b.length (b.map B8)) (hr : RO G vr rs Br) (ho : RO G vo os Bo) (hs : Sat w0 w G (RwO pr vr :: (Br ++ (RwO po vo :: (Bo ++ F))))) :
    Calls Try.prog 43 #[ub, Pt pr 0, Pt po 0, Pt ps 0, Pt pn 0, Pt pd 0] w fun e w' => ∃ G' vr' Br' vo' Bo', e = .returned (.tuple #[]) ∧ Im.le G G' ∧ RO G' vr' (rs ++ [b]) Br' ∧ RO G' vo' (os ++ [headB ⟨c, l, num, os.length, n, len⟩ ++ b]) Bo' ∧ Sat w0 w' G' (RwO pr vr' :: (Br' ++ (RwO po vo' :: (Bo' ++ F)))) := by
  obtain ⟨ad, cp, rfl⟩ := hvd
  obtain ⟨hg1, hg2, hg3, hg5, hg6⟩ := hg
  have h1u := hub.one
  obtain ⟨vsr, hor, hir⟩ := hr
  obtain ⟨vso, hoo, hio⟩ := ho
  have hlr := hir.1
  have hlo := hio.1
  refine f_enter (vs := [_, _, _, _, _, _]) Try.func43 rfl Try.ntmps43 (by simp) hs ?_
  repeat (first | (refine c_cons ?_; first | refine s_val (by first | exact v_move rfl | exact v_assign rfl | exact v_len rfl (by kernel_rfl) | exact v_lss rfl rfl | exact v_neq rfl rfl | exact v_eql rfl rfl | exact v_gtr rfl rfl | exact v_leq rfl rfl | exact v_geq rfl rfl | exact v_add rfl rfl (by omega) | exact v_sub rfl rfl (by omega) | exact v_not rfl | exact v_pick_t rfl rfl | exact v_pick_f rfl rfl | exact v_xor8 rfl rfl | exact v_makeFunc rfl rfl | exact v_extract rfl rfl | exact v_nilCheck rfl | exact v_max rfl rfl | exact v_min rfl rfl | exact v_eqb_same rfl rfl (by kernel_rfl) | exact v_eqb rfl rfl (by kernel_rfl) | exact v_u8int rfl (by kernel_rfl) (by kernel_rfl) | exact v_eqnilP rfl rfl (by kernel_rfl) | exact v_neqnilP rfl rfl (by kernel_rfl) | exact v_eqnilS rfl rfl (by kernel_rfl)) rfl rfl rfl ?_ | refine s_skip rfl rfl rfl ?_ | refine s_skip0 rfl rfl ?_) | refine c_nil ?_ | refine c_seq ?_ | refine c_region ?_ | refine c_block ?_ | refine c_skip ?_ | refine c_exit ?_ | refine c_ret ?_ | refine x_then ?_ | refine x_block ?_ | refine x_then_exit ?_ | refine x_then_ret ?_ | refine x_block_ret ?_ | refine x_block_eq ?_ | refine x_block_ne rfl ?_)
  refine c_cons (s_val (v_load rfl (Cel.head rfl) (by kernel_rfl)) rfl rfl rfl ?_)
  repeat (first | (refine c_cons ?_; first | refine s_val (by first | exact v_move rfl | exact v_assign rfl | exact v_len rfl (by kernel_rfl) | exact v_lss rfl rfl | exact v_neq rfl rfl | exact v_eql rfl rfl | exact v_gtr rfl rfl | exact v_leq rfl rfl | exact v_geq rfl rfl | exact v_add rfl rfl (by omega) | exact v_sub rfl rfl (by omega) | exact v_not rfl | exact v_pick_t rfl rfl | exact v_pick_f rfl rfl | exact v_xor8 rfl rfl | exact v_makeFunc rfl rfl | exact v_extract rfl rfl | exact v_nilCheck rfl | exact v_max rfl rfl | exact v_min rfl rfl | exact v_eqb_same rfl rfl (by kernel_rfl) | exact v_eqb rfl rfl (by kernel_rfl) | exact v_u8int rfl (by kernel_rfl) (by kernel_rfl) | exact v_eqnilP rfl rfl (by kernel_rfl) | exact v_neqnilP rfl rfl (by kernel_rfl) | exact v_eqnilS rfl rfl (by kernel_rfl)) rfl rfl rfl ?_ | refine s_skip rfl rfl rfl ?_ | refine s_skip0 rfl rfl ?_) | refine c_nil ?_ | refine c_seq ?_ | refine c_region ?_ | refine c_block ?_ | refine c_skip ?_ | refine c_exit ?_ | refine c_ret ?_ | refine x_then ?_ | refine x_block ?_ | refine x_then_exit ?_ | refine x_then_ret ?_ | refine x_block_ret ?_ | refine x_block_eq ?_ | refine x_block_ne rfl ?_)
  refine c_cons (s_lit (z := .slice none 0 0) (bs := 24) (e := 22) [_] (by kernel_rfl) rfl rfl rfl rfl (by simpa using h1u) rfl (by decide) fun b1 => ?_)
  refine c_cons (s_append (e := 22) (z := .slice none 0 0) (sz := 1) (bs := 24) (by kernel_rfl) rfl rfl rfl rfl hor (Chunk.tail (Chunk.tail Chunk.head)) (SV.block .head (by simp [maxLen])) rfl (by decide) rfl (by simpa using h1u) (by simp; omega) (by simp; omega) fun vr2 Br2 hor2 => ?_)
  have hor2' : Own vr2 (vsr ++ [ub]).length (vsr ++ [ub]) 22 1 Br2 := by rw [List.length_append]; exact hor2
  obtain ⟨adr, cr, rfl⟩ := hor2.form
  refine c_cons (s_store1 rfl rfl rfl (Pick.app (.tail .head)) (by kernel_rfl) rfl (by simp) ?_)
  change Holds _ _ _ _ _ (RwO pr (.slice adr (vsr.length + 1) cr) :: (Br2 ++ ((b1, _) :: (RwO po vo :: (Bo ++ F))))) _
  obtain ⟨ado, co, rfl⟩ := hoo.form
  repeat (first | (refine c_cons ?_; first | refine s_val (by first | exact v_move rfl | exact v_assign rfl | exact v_len rfl (by kernel_rfl) | exact v_lss rfl rfl | exact v_neq rfl rfl | exact v_eql rfl rfl | exact v_gtr rfl rfl | exact v_leq rfl rfl | exact v_geq rfl rfl | exact v_add rfl rfl (by omega) | exact v_sub rfl rfl (by omega) | exact v_not rfl | exact v_pick_t rfl rfl | exact v_pick_f rfl rfl | exact v_xor8 rfl rfl | exact v_makeFunc rfl rfl | exact v_extract rfl rfl | exact v_nilCheck rfl | exact v_max rfl rfl | exact v_min rfl rfl | exact v_eqb_same rfl rfl (by kernel_rfl) | exact v_eqb rfl rfl (by kernel_rfl) | exact v_u8int rfl (by kernel_rfl) (by kernel_rfl) | exact v_eqnilP rfl rfl (by kernel_rfl) | exact v_neqnilP rfl rfl (by kernel_rfl) | exact v_eqnilS rfl rfl (by kernel_rfl)) rfl rfl rfl ?_ | refine s_skip rfl rfl rfl ?_ | refine s_skip0 rfl rfl ?_) | refine c_nil ?_ | refine c_seq ?_ | refine c_region ?_ | refine c_block ?_ | refine c_skip ?_ | refine c_exit ?_ | refine c_ret ?_ | refine x_then ?_ | refine x_block ?_ | refine x_then_exit ?_ | refine x_then_ret ?_ | refine x_block_ret ?_ | refine x_block_eq ?_ | refine x_block_ne rfl ?_)
  refine r_startS [RwO po (.slice ado vso.length co)] [12] (by kernel_rfl) (fun w h => h.sb) ?_
  refine r_tk 0 rfl rfl (v_load rfl (Cel.head rfl) (by kernel_rfl)) (fun _ h => (h.sb)) ?_
  refine r_tk 1 rfl rfl (v_loadAgg (vs := [I64 c, I64 l, I64 num]) rfl (by kernel_rfl) (by kernel_rfl) rfl (fun j u hj => (Cel.allI kS hj))) (fun _ h => (h.sb)) ?_
  refine r_tk 2 rfl rfl (v_load rfl (Cel.head rfl) (by kernel_rfl)) (fun _ h => (h.sb)) ?_
  refine r_tk 3 rfl rfl (v_len rfl (by kernel_rfl)) (fun _ h => (h.sb)) ?_
  refine r_tk 4 rfl rfl (v_load rfl (Cel.imm kN rfl) (by kernel_rfl)) (fun _ h => (h.sb)) ?_
  refine r_tk 5 rfl rfl (v_load rfl (Cel.imm kD rfl) (by kernel_rfl)) (fun _ h => (h.sb)) ?_
  refine r_tk 6 rfl rfl (v_len rfl (by kernel_rfl)) (fun _ h => (h.sb)) ?_
  refine r_tk 7 rfl rfl (v_build (ps := [_, _, _, _]) #[I64 c, I64 l, I64 num, I64 (vso.length : Int), I64 n, I64 (len : Int)] rfl (by kernel_rfl)) (fun _ h => (h.sb)) ?_
  refine r_tk 8 rfl rfl (v_move rfl) (fun _ h => (h.sb)) ?_
  refine r_one 9 (by kernel_rfl) rfl ?_
  refine s_call (xs := [_, _]) rfl rfl rfl rfl rfl rfl (by kernel_rfl) (fun w hs => laid_c ⟨c, l, num, vso.length, n, len⟩ ⟨hg1, hg2, hg3, by dsimp only; omega, hg5, by dsimp only; omega⟩ _ b hb _ w _ _ hub hs) ?_
  rintro e w' ⟨G3, u3, rfl, hG3, hu3, hs'⟩; refine a_ret ?_ hs'; clear hs'
  have h1o := hu3.one
  refine r_next (fun w h => (h.sb).weaken hG3) ?_
  refine r_one 10 (by kernel_rfl) rfl ?_
  refine s_lit (z := .slice none 0 0) (bs := 24) (e := 22) [_] (by kernel_rfl) rfl rfl rfl rfl (by simpa using h1o) rfl (by decide) fun b3 => ?_
  refine r_next (fun w h => (h.sb).weaken hG3) ?_
  refine r_one 11 (by kernel_rfl) rfl ?_
  refine s_append (e := 22) (z := .slice none 0 0) (sz := 1) (bs := 24) (by kernel_rfl) rfl rfl rfl rfl hoo (Chunk.tail (Chunk.tail (Chunk.app (Chunk.tail (Chunk.tail Chunk.head))))) (SV.block .head (by simp [maxLen])) rfl (by decide) rfl (by simpa using h1o) (by simp; omega) (by simp; omega) fun vo2 Bo2 hoo2 => ?_
  refine r_next (fun w h => (h.sb).weaken hG3) ?_
  have hoo2' : Own vo2 (vso ++ [u3]).length (vso ++ [u3]) 22 1 Bo2 := by rw [List.length_append]; exact hoo2
  obtain ⟨ado2, co2, rfl⟩ := hoo2.form
  refine r_one 12 (by kernel_rfl) rfl ?_
  refine s_store1 rfl rfl rfl (Pick.app (.tail (.tail (Pick.app (.tail .head))))) (by kernel_rfl) rfl (by simp) ?_
  change Holds _ _ _ _ _ (RwO po (.slice ado2 (vso.length + 1) co2) :: _) _
  have hr9 : RO G3 (.slice adr (vsr.length + 1) cr) (rs ++ [b]) Br2 := ⟨_, hor2', (hir.mono hG3).snoc (hub.mono hG3 (by simp))⟩
  have ho9 : RO G3 (.slice ado2 (vso.length + 1) co2) (os ++ [headB ⟨c, l, num, os.length, n, len⟩ ++ b]) Bo2 := by rw [← hlo]; exact ⟨_, hoo2', (hio.mono hG3).snoc hu3⟩
  refine r_late rfl ?_
  refine r_done (by kernel_rfl) ?_
  repeat (first | (refine c_cons ?_; first | refine s_val (by first | exact v_move rfl | exact v_assign rfl | exact v_len rfl (by kernel_rfl) | exact v_lss rfl rfl | exact v_neq rfl rfl | exact v_eql rfl rfl | exact v_gtr rfl rfl | exact v_leq rfl rfl | exact v_geq rfl rfl | exact v_add rfl rfl (by omega) | exact v_sub rfl rfl (by omega) | exact v_not rfl | exact v_pick_t rfl rfl | exact v_pick_f rfl rfl | exact v_xor8 rfl rfl | exact v_makeFunc rfl rfl | exact v_extract rfl rfl | exact v_nilCheck rfl | exact v_max rfl rfl | exact v_min rfl rfl | exact v_eqb_same rfl rfl (by kernel_rfl) | exact v_eqb rfl rfl (by kernel_rfl) | exact v_u8int rfl (by kernel_rfl) (by kernel_rfl) | exact v_eqnilP rfl rfl (by kernel_rfl) | exact v_neqnilP rfl rfl (by kernel_rfl) | exact v_eqnilS rfl rfl (by kernel_rfl)) rfl rfl rfl ?_ | refine s_skip rfl rfl rfl ?_ | refine s_skip0 rfl rfl ?_) | refine c_nil ?_ | refine c_seq ?_ | refine c_region ?_ | refine c_block ?_ | refine c_skip ?_ | refine c_exit ?_ | refine c_ret ?_ | refine x_then ?_ | refine x_block ?_ | refine x_then_exit ?_ | refine x_then_ret ?_ | refine x_block_ret ?_ | refine x_block_eq ?_ | refine x_block_ne rfl ?_)
  exact f_end0 rfl (fun w hs => ⟨G3, .slice adr (vsr.length + 1) cr, Br2, .slice ado2 (vso.length + 1) co2, Bo2, rfl, hG3, hr9, ho9, hs.sb⟩)
end Go.Proofs.Ytldkldmjcacopaa
