/- The layer is awake; chapter 2's examples. -/
import Derived.Test.YtlhiemmbpbpedaaParW3
namespace Go.Proofs.Ytlhiemmbpbpedaa
open Go
set_option linter.unusedVariables false
set_option maxHeartbeats 400000
attribute [local irreducible] Code.wp wpList stepK Holds Val wpR Eff Eff0 Code.wpIn wpListIn stepI Exit.then Exit.inBlock bodyPost bodyPostM

theorem SV.imm {G : Im} {H : Hp} {b k : Nat} {L : List Value} {t : TypeId} (hb : G b = some (Cs L t)) (hk : k ≤ maxLen) : SV G H (Sl b 0 k k) k L := SV.block (.inl hb) hk
theorem Items.nil {G : Im} : Items G [] [] := ⟨rfl, fun j x r hx => by simp at hx⟩
theorem Items.cons {G : Im} {x : Value} {r : List UInt8} {xs : List Value} {rs : List (List UInt8)} (h : SV G [] x r.length (r.map B8)) (hs : Items G xs rs) : Items G (x :: xs) (r :: rs) := by
  refine ⟨by simp [hs.1], fun j y s hy hs' => ?_⟩
  cases j with
  | zero => simp at hy hs'; subst hy hs'; exact h
  | succ j => exact hs.2 j y s (by simpa using hy) (by simpa using hs')
theorem small_nat {k : Nat} (h : k ≤ 140737488355328) : k ≤ maxLen := by unfold maxLen; omega
/-- What a call owns reads as bytes. -/
theorem bytes_sv {G : Im} {H : Hp} {b k : Nat} {xs : List UInt8} {t : TypeId} (hb : Has G H b (Cs (xs.map B8) t)) (hk : k = xs.length) (hm : k ≤ 140737488355328) : SV G H (Sl b 0 k k) xs.length (xs.map B8) := by
  subst hk; exact SV.block hb (small_nat hm)

theorem awake_c (w0 w : World) (G : Im) (F : Hp) (hs : Sat w0 w G F) :
    Calls Try.prog 8 #[] w fun e w' => ∃ G', e = .returned (.bool true) ∧ Im.le G G' ∧ Sat w0 w' G' F := by
  refine f_enter (vs := []) Try.func8 rfl Try.ntmps8 (by simp) hs ?_
  repeat (first | (refine c_cons ?_; first | refine s_val (v_move rfl) rfl rfl rfl ?_ | refine s_val (v_assign rfl) rfl rfl rfl ?_ | refine s_val (v_len rfl (by kernel_rfl)) rfl rfl rfl ?_ | refine s_val (v_lss rfl rfl) rfl rfl rfl ?_ | refine s_val (v_neq rfl rfl) rfl rfl rfl ?_ | refine s_val (v_eql rfl rfl) rfl rfl rfl ?_ | refine s_val (v_gtr rfl rfl) rfl rfl rfl ?_ | refine s_val (v_leq rfl rfl) rfl rfl rfl ?_ | refine s_val (v_geq rfl rfl) rfl rfl rfl ?_ | refine s_val (v_add rfl rfl (by omega)) rfl rfl rfl ?_ | refine s_val (v_sub rfl rfl (by omega)) rfl rfl rfl ?_ | refine s_val (v_not rfl) rfl rfl rfl ?_ | refine s_val (v_pick_t rfl rfl) rfl rfl rfl ?_ | refine s_val (v_pick_f rfl rfl) rfl rfl rfl ?_ | refine s_val (v_xor8 rfl rfl) rfl rfl rfl ?_ | refine s_val (v_makeFunc rfl rfl) rfl rfl rfl ?_ | refine s_val (v_extract rfl rfl) rfl rfl rfl ?_ | refine s_val (v_nilCheck rfl) rfl rfl rfl ?_ | refine s_val (v_max rfl rfl) rfl rfl rfl ?_ | refine s_val (v_min rfl rfl) rfl rfl rfl ?_ | refine s_skip rfl rfl rfl ?_ | refine s_skip0 rfl rfl ?_) | refine c_nil ?_ | refine c_seq ?_ | refine c_region ?_ | refine c_block ?_ | refine c_skip ?_ | refine c_exit ?_ | refine c_ret ?_ | refine x_then ?_ | refine x_block ?_ | refine x_then_exit ?_ | refine x_then_ret ?_ | refine x_block_ret ?_ | refine x_block_eq ?_ | refine x_block_ne rfl ?_)
  refine c_cons (s_lit (z := B8 0) (bs := 1) (e := 5) [_, _] (by kernel_rfl) rfl rfl rfl rfl (by simp [Value.oneCell']) rfl (by decide) fun b1 => ?_)
  refine c_freeze .head fun G1 hG1 h1 => ?_
  refine c_cons (s_lit (z := B8 0) (bs := 1) (e := 5) [_] (by kernel_rfl) rfl rfl rfl rfl (by simp [Value.oneCell']) rfl (by decide) fun b2 => ?_)
  refine c_freeze .head fun G2 hG2 h2 => ?_
  refine c_cons (s_lit (z := .slice none 0 0) (bs := 24) (e := 23) [_, _] (by kernel_rfl) rfl rfl rfl rfl (by simp [Value.oneCell']) rfl (by decide) fun b3 => ?_)
  refine c_freeze .head fun G3 hG3 h3 => ?_
  have hrows : RowsV G3 (Sl b3 0 2 2) [[1, 2], [3]] := ⟨[Sl b1 0 2 2, Sl b2 0 1 1], SV.imm h3 (by decide), .cons (SV.imm (L := [B8 1, B8 2]) (hG3 _ _ (hG2 _ _ h1)) (by decide)) (.cons (SV.imm (L := [B8 3]) (hG3 _ _ h2) (by decide)) .nil)⟩
  refine c_cons (s_call (xs := [_]) rfl rfl (fun d h => by cases h; decide) rfl rfl (by kernel_rfl) (fun w hs => xor_c _ _ _ w _ _ hrows (by decide) hs) ?_)
  rintro e w' ⟨b4, G4, rfl, hG4, hs'⟩
  refine Holds.atw ?_ hs'
  have hpx : pxor [[1, 2], [3]] = [2, 2] := by decide
  rw [hpx]
  refine c_freeze .head fun G5 hG5 h4 => ?_
  repeat (first | (refine c_cons ?_; first | refine s_val (v_move rfl) rfl rfl rfl ?_ | refine s_val (v_assign rfl) rfl rfl rfl ?_ | refine s_val (v_len rfl (by kernel_rfl)) rfl rfl rfl ?_ | refine s_val (v_lss rfl rfl) rfl rfl rfl ?_ | refine s_val (v_neq rfl rfl) rfl rfl rfl ?_ | refine s_val (v_eql rfl rfl) rfl rfl rfl ?_ | refine s_val (v_gtr rfl rfl) rfl rfl rfl ?_ | refine s_val (v_leq rfl rfl) rfl rfl rfl ?_ | refine s_val (v_geq rfl rfl) rfl rfl rfl ?_ | refine s_val (v_add rfl rfl (by omega)) rfl rfl rfl ?_ | refine s_val (v_sub rfl rfl (by omega)) rfl rfl rfl ?_ | refine s_val (v_not rfl) rfl rfl rfl ?_ | refine s_val (v_pick_t rfl rfl) rfl rfl rfl ?_ | refine s_val (v_pick_f rfl rfl) rfl rfl rfl ?_ | refine s_val (v_xor8 rfl rfl) rfl rfl rfl ?_ | refine s_val (v_makeFunc rfl rfl) rfl rfl rfl ?_ | refine s_val (v_extract rfl rfl) rfl rfl rfl ?_ | refine s_val (v_nilCheck rfl) rfl rfl rfl ?_ | refine s_val (v_max rfl rfl) rfl rfl rfl ?_ | refine s_val (v_min rfl rfl) rfl rfl rfl ?_ | refine s_skip rfl rfl rfl ?_ | refine s_skip0 rfl rfl ?_) | refine c_nil ?_ | refine c_seq ?_ | refine c_region ?_ | refine c_block ?_ | refine c_skip ?_ | refine c_exit ?_ | refine c_ret ?_ | refine x_then ?_ | refine x_block ?_ | refine x_then_exit ?_ | refine x_then_ret ?_ | refine x_block_ret ?_ | refine x_block_eq ?_ | refine x_block_ne rfl ?_)
  refine c_cons (s_lit (z := B8 0) (bs := 1) (e := 5) [_, _] (by kernel_rfl) rfl rfl rfl rfl (by simp [Value.oneCell']) rfl (by decide) fun b5 => ?_)
  refine c_freeze .head fun G6 hG6 h5 => ?_
  refine c_cons (s_call (xs := [_, _]) rfl rfl (fun d h => by cases h; decide) rfl rfl (by kernel_rfl) (fun w hs => same_c _ _ [2, 2] [2, 2] _ w _ _ (SV.imm (k := 2) (hG6 _ _ h4) (by decide)) (SV.imm (k := 2) (L := [B8 2, B8 2]) h5 (by decide)) hs) ?_)
  rintro e w' ⟨rfl, hs'⟩
  refine Holds.atw ?_ hs'
  repeat (first | (refine c_cons ?_; first | refine s_val (v_move rfl) rfl rfl rfl ?_ | refine s_val (v_assign rfl) rfl rfl rfl ?_ | refine s_val (v_len rfl (by kernel_rfl)) rfl rfl rfl ?_ | refine s_val (v_lss rfl rfl) rfl rfl rfl ?_ | refine s_val (v_neq rfl rfl) rfl rfl rfl ?_ | refine s_val (v_eql rfl rfl) rfl rfl rfl ?_ | refine s_val (v_gtr rfl rfl) rfl rfl rfl ?_ | refine s_val (v_leq rfl rfl) rfl rfl rfl ?_ | refine s_val (v_geq rfl rfl) rfl rfl rfl ?_ | refine s_val (v_add rfl rfl (by omega)) rfl rfl rfl ?_ | refine s_val (v_sub rfl rfl (by omega)) rfl rfl rfl ?_ | refine s_val (v_not rfl) rfl rfl rfl ?_ | refine s_val (v_pick_t rfl rfl) rfl rfl rfl ?_ | refine s_val (v_pick_f rfl rfl) rfl rfl rfl ?_ | refine s_val (v_xor8 rfl rfl) rfl rfl rfl ?_ | refine s_val (v_makeFunc rfl rfl) rfl rfl rfl ?_ | refine s_val (v_extract rfl rfl) rfl rfl rfl ?_ | refine s_val (v_nilCheck rfl) rfl rfl rfl ?_ | refine s_val (v_max rfl rfl) rfl rfl rfl ?_ | refine s_val (v_min rfl rfl) rfl rfl rfl ?_ | refine s_skip rfl rfl rfl ?_ | refine s_skip0 rfl rfl ?_) | refine c_nil ?_ | refine c_seq ?_ | refine c_region ?_ | refine c_block ?_ | refine c_skip ?_ | refine c_exit ?_ | refine c_ret ?_ | refine x_then ?_ | refine x_block ?_ | refine x_then_exit ?_ | refine x_then_ret ?_ | refine x_block_ret ?_ | refine x_block_eq ?_ | refine x_block_ne rfl ?_)
  exact f_ret1 rfl rfl (fun w hs => ⟨G6, rfl, (((((hG1.trans hG2).trans hG3).trans hG4).trans hG5).trans hG6), hs⟩)

theorem known_c (w : World) : Calls Try.prog 3 #[] w fun e w' => e = .returned (.bool true) ∧ Go.RowKit.Below w.heap.size w w' := by
  refine f_enter (vs := []) Try.func3 rfl Try.ntmps3 (by simp) (Sat.start w) ?_
  generalize hGs : (fun (b : Nat) => w.heap[b]?) = G0
  repeat (first | (refine c_cons ?_; first | refine s_val (v_move rfl) rfl rfl rfl ?_ | refine s_val (v_assign rfl) rfl rfl rfl ?_ | refine s_val (v_len rfl (by kernel_rfl)) rfl rfl rfl ?_ | refine s_val (v_lss rfl rfl) rfl rfl rfl ?_ | refine s_val (v_neq rfl rfl) rfl rfl rfl ?_ | refine s_val (v_eql rfl rfl) rfl rfl rfl ?_ | refine s_val (v_gtr rfl rfl) rfl rfl rfl ?_ | refine s_val (v_leq rfl rfl) rfl rfl rfl ?_ | refine s_val (v_geq rfl rfl) rfl rfl rfl ?_ | refine s_val (v_add rfl rfl (by omega)) rfl rfl rfl ?_ | refine s_val (v_sub rfl rfl (by omega)) rfl rfl rfl ?_ | refine s_val (v_not rfl) rfl rfl rfl ?_ | refine s_val (v_pick_t rfl rfl) rfl rfl rfl ?_ | refine s_val (v_pick_f rfl rfl) rfl rfl rfl ?_ | refine s_val (v_xor8 rfl rfl) rfl rfl rfl ?_ | refine s_val (v_makeFunc rfl rfl) rfl rfl rfl ?_ | refine s_val (v_extract rfl rfl) rfl rfl rfl ?_ | refine s_val (v_nilCheck rfl) rfl rfl rfl ?_ | refine s_val (v_max rfl rfl) rfl rfl rfl ?_ | refine s_val (v_min rfl rfl) rfl rfl rfl ?_ | refine s_skip rfl rfl rfl ?_ | refine s_skip0 rfl rfl ?_) | refine c_nil ?_ | refine c_seq ?_ | refine c_region ?_ | refine c_block ?_ | refine c_skip ?_ | refine c_exit ?_ | refine c_ret ?_ | refine x_then ?_ | refine x_block ?_ | refine x_then_exit ?_ | refine x_then_ret ?_ | refine x_block_ret ?_ | refine x_block_eq ?_ | refine x_block_ne rfl ?_)
  refine c_cons (s_call (xs := []) rfl rfl (fun d h => by cases h; decide) rfl rfl (by kernel_rfl) (fun w hs => awake_c _ w _ _ hs) ?_)
  rintro e w' ⟨G1, rfl, hG1, hs'⟩
  refine Holds.atw ?_ hs'
  clear hs'
  repeat (first | (refine c_cons ?_; first | refine s_val (v_move rfl) rfl rfl rfl ?_ | refine s_val (v_assign rfl) rfl rfl rfl ?_ | refine s_val (v_len rfl (by kernel_rfl)) rfl rfl rfl ?_ | refine s_val (v_lss rfl rfl) rfl rfl rfl ?_ | refine s_val (v_neq rfl rfl) rfl rfl rfl ?_ | refine s_val (v_eql rfl rfl) rfl rfl rfl ?_ | refine s_val (v_gtr rfl rfl) rfl rfl rfl ?_ | refine s_val (v_leq rfl rfl) rfl rfl rfl ?_ | refine s_val (v_geq rfl rfl) rfl rfl rfl ?_ | refine s_val (v_add rfl rfl (by omega)) rfl rfl rfl ?_ | refine s_val (v_sub rfl rfl (by omega)) rfl rfl rfl ?_ | refine s_val (v_not rfl) rfl rfl rfl ?_ | refine s_val (v_pick_t rfl rfl) rfl rfl rfl ?_ | refine s_val (v_pick_f rfl rfl) rfl rfl rfl ?_ | refine s_val (v_xor8 rfl rfl) rfl rfl rfl ?_ | refine s_val (v_makeFunc rfl rfl) rfl rfl rfl ?_ | refine s_val (v_extract rfl rfl) rfl rfl rfl ?_ | refine s_val (v_nilCheck rfl) rfl rfl rfl ?_ | refine s_val (v_max rfl rfl) rfl rfl rfl ?_ | refine s_val (v_min rfl rfl) rfl rfl rfl ?_ | refine s_skip rfl rfl rfl ?_ | refine s_skip0 rfl rfl ?_) | refine c_nil ?_ | refine c_seq ?_ | refine c_region ?_ | refine c_block ?_ | refine c_skip ?_ | refine c_exit ?_ | refine c_ret ?_ | refine x_then ?_ | refine x_block ?_ | refine x_then_exit ?_ | refine x_then_ret ?_ | refine x_block_ret ?_ | refine x_block_eq ?_ | refine x_block_ne rfl ?_)
  refine c_cond_f rfl ?_
  repeat (first | (refine c_cons ?_; first | refine s_val (v_move rfl) rfl rfl rfl ?_ | refine s_val (v_assign rfl) rfl rfl rfl ?_ | refine s_val (v_len rfl (by kernel_rfl)) rfl rfl rfl ?_ | refine s_val (v_lss rfl rfl) rfl rfl rfl ?_ | refine s_val (v_neq rfl rfl) rfl rfl rfl ?_ | refine s_val (v_eql rfl rfl) rfl rfl rfl ?_ | refine s_val (v_gtr rfl rfl) rfl rfl rfl ?_ | refine s_val (v_leq rfl rfl) rfl rfl rfl ?_ | refine s_val (v_geq rfl rfl) rfl rfl rfl ?_ | refine s_val (v_add rfl rfl (by omega)) rfl rfl rfl ?_ | refine s_val (v_sub rfl rfl (by omega)) rfl rfl rfl ?_ | refine s_val (v_not rfl) rfl rfl rfl ?_ | refine s_val (v_pick_t rfl rfl) rfl rfl rfl ?_ | refine s_val (v_pick_f rfl rfl) rfl rfl rfl ?_ | refine s_val (v_xor8 rfl rfl) rfl rfl rfl ?_ | refine s_val (v_makeFunc rfl rfl) rfl rfl rfl ?_ | refine s_val (v_extract rfl rfl) rfl rfl rfl ?_ | refine s_val (v_nilCheck rfl) rfl rfl rfl ?_ | refine s_val (v_max rfl rfl) rfl rfl rfl ?_ | refine s_val (v_min rfl rfl) rfl rfl rfl ?_ | refine s_skip rfl rfl rfl ?_ | refine s_skip0 rfl rfl ?_) | refine c_nil ?_ | refine c_seq ?_ | refine c_region ?_ | refine c_block ?_ | refine c_skip ?_ | refine c_exit ?_ | refine c_ret ?_ | refine x_then ?_ | refine x_block ?_ | refine x_then_exit ?_ | refine x_then_ret ?_ | refine x_block_ret ?_ | refine x_block_eq ?_ | refine x_block_ne rfl ?_)
  refine c_cons (s_lit (z := B8 0) (bs := 1) (e := 5) [_, _] (by kernel_rfl) rfl rfl rfl rfl (by simp [Value.oneCell']) rfl (by decide) fun b1 => ?_)
  refine c_freeze .head fun G2 hG2 h1 => ?_
  refine c_cons (s_lit (z := B8 0) (bs := 1) (e := 5) [_, _] (by kernel_rfl) rfl rfl rfl rfl (by simp [Value.oneCell']) rfl (by decide) fun b2 => ?_)
  refine c_freeze .head fun G3 hG3 h2 => ?_
  refine c_cons (s_lit (z := .slice none 0 0) (bs := 24) (e := 23) [_, _, _] (by kernel_rfl) rfl rfl rfl rfl (by simp [Value.oneCell']) rfl (by decide) fun b3 => ?_)
  refine c_freeze .head fun G4 hG4 h3 => ?_
  have hrows : RowsV G4 (Sl b3 0 3 3) [[1, 2], [], [2, 2]] := ⟨[Sl b1 0 2 2, .slice none 0 0, Sl b2 0 2 2], SV.imm h3 (by decide),
    .cons (SV.imm (L := [B8 1, B8 2]) (hG4 _ _ (hG3 _ _ h1)) (by decide)) (.cons (SV.nil _ _) (.cons (SV.imm (L := [B8 2, B8 2]) (hG4 _ _ h2) (by decide)) .nil))⟩
  refine c_cons (s_call (xs := [_, _, _]) rfl rfl (fun d h => by cases h; decide) rfl rfl (by kernel_rfl) (fun w hs => fill_c _ _ 1 1 _ w _ _ hrows (by decide) (by decide) hs) ?_)
  rintro e w' ⟨G5, hG5, ⟨hno, _⟩ | ⟨_, b4, rfl, hs'⟩⟩
  · exact absurd (by decide) hno
  have hpx : pxor (oth [[1, 2], [], [2, 2]] 1) = [3, 0] := by decide
  rw [hpx] at hs'
  refine Holds.atw ?_ hs'
  refine c_freeze .head fun G6 hG6 h4 => ?_
  clear hs'
  repeat (first | (refine c_cons ?_; first | refine s_val (v_move rfl) rfl rfl rfl ?_ | refine s_val (v_assign rfl) rfl rfl rfl ?_ | refine s_val (v_len rfl (by kernel_rfl)) rfl rfl rfl ?_ | refine s_val (v_lss rfl rfl) rfl rfl rfl ?_ | refine s_val (v_neq rfl rfl) rfl rfl rfl ?_ | refine s_val (v_eql rfl rfl) rfl rfl rfl ?_ | refine s_val (v_gtr rfl rfl) rfl rfl rfl ?_ | refine s_val (v_leq rfl rfl) rfl rfl rfl ?_ | refine s_val (v_geq rfl rfl) rfl rfl rfl ?_ | refine s_val (v_add rfl rfl (by omega)) rfl rfl rfl ?_ | refine s_val (v_sub rfl rfl (by omega)) rfl rfl rfl ?_ | refine s_val (v_not rfl) rfl rfl rfl ?_ | refine s_val (v_pick_t rfl rfl) rfl rfl rfl ?_ | refine s_val (v_pick_f rfl rfl) rfl rfl rfl ?_ | refine s_val (v_xor8 rfl rfl) rfl rfl rfl ?_ | refine s_val (v_makeFunc rfl rfl) rfl rfl rfl ?_ | refine s_val (v_extract rfl rfl) rfl rfl rfl ?_ | refine s_val (v_nilCheck rfl) rfl rfl rfl ?_ | refine s_val (v_max rfl rfl) rfl rfl rfl ?_ | refine s_val (v_min rfl rfl) rfl rfl rfl ?_ | refine s_skip rfl rfl rfl ?_ | refine s_skip0 rfl rfl ?_) | refine c_nil ?_ | refine c_seq ?_ | refine c_region ?_ | refine c_block ?_ | refine c_skip ?_ | refine c_exit ?_ | refine c_ret ?_ | refine x_then ?_ | refine x_block ?_ | refine x_then_exit ?_ | refine x_then_ret ?_ | refine x_block_ret ?_ | refine x_block_eq ?_ | refine x_block_ne rfl ?_)
  refine c_cons (s_lit (z := B8 0) (bs := 1) (e := 5) [_] (by kernel_rfl) rfl rfl rfl rfl (by simp [Value.oneCell']) rfl (by decide) fun b5 => ?_)
  refine c_freeze .head fun G7 hG7 h5 => ?_
  refine c_cons (s_lit (z := .slice none 0 0) (bs := 24) (e := 23) [_] (by kernel_rfl) rfl rfl rfl rfl (by simp [Value.oneCell']) rfl (by decide) fun b6 => ?_)
  refine c_freeze .head fun G8 hG8 h6 => ?_
  have hrows2 : RowsV G8 (Sl b6 0 1 1) [[1]] := ⟨[Sl b5 0 1 1], SV.imm h6 (by decide), .cons (SV.imm (L := [B8 1]) (hG8 _ _ h5) (by decide)) .nil⟩
  refine c_cons (s_call (xs := [_, _, _]) rfl rfl (fun d h => by cases h; decide) rfl rfl (by kernel_rfl) (fun w hs => fill_c _ _ 1 0 _ w _ _ hrows2 (by decide) (by decide) hs) ?_)
  rintro e w' ⟨G9, hG9, ⟨_, rfl, hs'⟩ | ⟨hyes, _⟩⟩
  case inr => exact absurd hyes (by decide)
  refine Holds.atw ?_ hs'
  clear hs'
  repeat (first | (refine c_cons ?_; first | refine s_val (v_move rfl) rfl rfl rfl ?_ | refine s_val (v_assign rfl) rfl rfl rfl ?_ | refine s_val (v_len rfl (by kernel_rfl)) rfl rfl rfl ?_ | refine s_val (v_lss rfl rfl) rfl rfl rfl ?_ | refine s_val (v_neq rfl rfl) rfl rfl rfl ?_ | refine s_val (v_eql rfl rfl) rfl rfl rfl ?_ | refine s_val (v_gtr rfl rfl) rfl rfl rfl ?_ | refine s_val (v_leq rfl rfl) rfl rfl rfl ?_ | refine s_val (v_geq rfl rfl) rfl rfl rfl ?_ | refine s_val (v_add rfl rfl (by omega)) rfl rfl rfl ?_ | refine s_val (v_sub rfl rfl (by omega)) rfl rfl rfl ?_ | refine s_val (v_not rfl) rfl rfl rfl ?_ | refine s_val (v_pick_t rfl rfl) rfl rfl rfl ?_ | refine s_val (v_pick_f rfl rfl) rfl rfl rfl ?_ | refine s_val (v_xor8 rfl rfl) rfl rfl rfl ?_ | refine s_val (v_makeFunc rfl rfl) rfl rfl rfl ?_ | refine s_val (v_extract rfl rfl) rfl rfl rfl ?_ | refine s_val (v_nilCheck rfl) rfl rfl rfl ?_ | refine s_val (v_max rfl rfl) rfl rfl rfl ?_ | refine s_val (v_min rfl rfl) rfl rfl rfl ?_ | refine s_skip rfl rfl rfl ?_ | refine s_skip0 rfl rfl ?_) | refine c_nil ?_ | refine c_seq ?_ | refine c_region ?_ | refine c_block ?_ | refine c_skip ?_ | refine c_exit ?_ | refine c_ret ?_ | refine x_then ?_ | refine x_block ?_ | refine x_then_exit ?_ | refine x_then_ret ?_ | refine x_block_ret ?_ | refine x_block_eq ?_ | refine x_block_ne rfl ?_)
  refine c_cons (s_lit (z := B8 0) (bs := 1) (e := 5) [_] (by kernel_rfl) rfl rfl rfl rfl (by simp [Value.oneCell']) rfl (by decide) fun b7 => ?_)
  refine c_freeze .head fun G10 hG10 h7 => ?_
  have hG610 := ((hG7.trans hG8).trans hG9).trans hG10
  have hs4 : SV G10 [] (Sl b4 0 1 1) 1 [B8 3] := ⟨_, 1, rfl, Nat.le_refl _, by decide, .inr ⟨b4, 0, rfl, fun j u hj => by
    cases j with
    | zero => exact (Cel.imm (hG610 _ _ h4) (by simpa using hj))
    | succ j => simp at hj⟩⟩
  refine c_cons (s_call (xs := [_, _]) rfl rfl (fun d h => by cases h; decide) rfl rfl (by kernel_rfl) (fun w hs => same_c _ _ [3] [3] _ w _ _ (hs4.mono (Im.le_refl _) (by simp)) (SV.imm (k := 1) (L := [B8 3]) h7 (by decide)) hs) ?_)
  rintro e w' ⟨rfl, hs'⟩
  refine Holds.atw ?_ hs'
  clear hs'
  repeat (first | (refine c_cons ?_; first | refine s_val (v_move rfl) rfl rfl rfl ?_ | refine s_val (v_assign rfl) rfl rfl rfl ?_ | refine s_val (v_len rfl (by kernel_rfl)) rfl rfl rfl ?_ | refine s_val (v_lss rfl rfl) rfl rfl rfl ?_ | refine s_val (v_neq rfl rfl) rfl rfl rfl ?_ | refine s_val (v_eql rfl rfl) rfl rfl rfl ?_ | refine s_val (v_gtr rfl rfl) rfl rfl rfl ?_ | refine s_val (v_leq rfl rfl) rfl rfl rfl ?_ | refine s_val (v_geq rfl rfl) rfl rfl rfl ?_ | refine s_val (v_add rfl rfl (by omega)) rfl rfl rfl ?_ | refine s_val (v_sub rfl rfl (by omega)) rfl rfl rfl ?_ | refine s_val (v_not rfl) rfl rfl rfl ?_ | refine s_val (v_pick_t rfl rfl) rfl rfl rfl ?_ | refine s_val (v_pick_f rfl rfl) rfl rfl rfl ?_ | refine s_val (v_xor8 rfl rfl) rfl rfl rfl ?_ | refine s_val (v_makeFunc rfl rfl) rfl rfl rfl ?_ | refine s_val (v_extract rfl rfl) rfl rfl rfl ?_ | refine s_val (v_nilCheck rfl) rfl rfl rfl ?_ | refine s_val (v_max rfl rfl) rfl rfl rfl ?_ | refine s_val (v_min rfl rfl) rfl rfl rfl ?_ | refine s_skip rfl rfl rfl ?_ | refine s_skip0 rfl rfl ?_) | refine c_nil ?_ | refine c_seq ?_ | refine c_region ?_ | refine c_block ?_ | refine c_skip ?_ | refine c_exit ?_ | refine c_ret ?_ | refine x_then ?_ | refine x_block ?_ | refine x_then_exit ?_ | refine x_then_ret ?_ | refine x_block_ret ?_ | refine x_block_eq ?_ | refine x_block_ne rfl ?_)
  refine c_cons (s_call (xs := [_]) rfl rfl (fun d h => by cases h; decide) rfl rfl (by kernel_rfl) (fun w hs => xor_c _ [] _ w _ _ ⟨[], SV.nil _ _, .nil⟩ (by decide) hs) ?_)
  rintro e w' ⟨b8, G11, rfl, hG11, hs'⟩
  refine Holds.atw ?_ hs'
  clear hs'
  repeat (first | (refine c_cons ?_; first | refine s_val (v_move rfl) rfl rfl rfl ?_ | refine s_val (v_assign rfl) rfl rfl rfl ?_ | refine s_val (v_len rfl (by kernel_rfl)) rfl rfl rfl ?_ | refine s_val (v_lss rfl rfl) rfl rfl rfl ?_ | refine s_val (v_neq rfl rfl) rfl rfl rfl ?_ | refine s_val (v_eql rfl rfl) rfl rfl rfl ?_ | refine s_val (v_gtr rfl rfl) rfl rfl rfl ?_ | refine s_val (v_leq rfl rfl) rfl rfl rfl ?_ | refine s_val (v_geq rfl rfl) rfl rfl rfl ?_ | refine s_val (v_add rfl rfl (by omega)) rfl rfl rfl ?_ | refine s_val (v_sub rfl rfl (by omega)) rfl rfl rfl ?_ | refine s_val (v_not rfl) rfl rfl rfl ?_ | refine s_val (v_pick_t rfl rfl) rfl rfl rfl ?_ | refine s_val (v_pick_f rfl rfl) rfl rfl rfl ?_ | refine s_val (v_xor8 rfl rfl) rfl rfl rfl ?_ | refine s_val (v_makeFunc rfl rfl) rfl rfl rfl ?_ | refine s_val (v_extract rfl rfl) rfl rfl rfl ?_ | refine s_val (v_nilCheck rfl) rfl rfl rfl ?_ | refine s_val (v_max rfl rfl) rfl rfl rfl ?_ | refine s_val (v_min rfl rfl) rfl rfl rfl ?_ | refine s_skip rfl rfl rfl ?_ | refine s_skip0 rfl rfl ?_) | refine c_nil ?_ | refine c_seq ?_ | refine c_region ?_ | refine c_block ?_ | refine c_skip ?_ | refine c_exit ?_ | refine c_ret ?_ | refine x_then ?_ | refine x_block ?_ | refine x_then_exit ?_ | refine x_then_ret ?_ | refine x_block_ret ?_ | refine x_block_eq ?_ | refine x_block_ne rfl ?_)
  refine f_ret1 rfl rfl (fun w' hs => ⟨rfl, hs.below ?_⟩)
  rw [hGs]
  exact ((((((hG1.trans hG2).trans hG3).trans hG4).trans hG5).trans hG6).trans hG610).trans hG11
end Go.Proofs.Ytlhiemmbpbpedaa
