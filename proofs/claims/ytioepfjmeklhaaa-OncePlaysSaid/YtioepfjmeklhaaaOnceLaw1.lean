/- stamp, awake; OnceOnce's walk. -/
import Derived.Test.YtioepfjmeklhaaaOnceW2
import Derived.Test.YtioepfjmeklhaaaBytes
namespace Go.Proofs.Ytioepfjmeklhaaa
open Go
set_option linter.unusedVariables false
set_option maxHeartbeats 1600000
attribute [local irreducible] Code.wp wpList stepK Holds Val wpR Eff Eff0 Code.wpIn wpListIn stepI Exit.then Exit.inBlock bodyPost bodyPostM

/-- A row lies where its client says. -/
theorem SV.imm {G : Im} {H : Hp} {b k : Nat} {L : List Value} {t : TypeId} (hb : G b = some (Cs L t)) (hk : k ≤ maxLen) : SV G H (Sl b 0 k k) k L := SV.block (.inl hb) hk
def WinOk (rs : List (Option Rw)) : Prop := rs.length = 4 ∧ ∀ c r, rowS rs c = some r → r.st.c = c ∧ mayS r.st
abbrev ws0 : List (Option Rw) := [none, none, none, none]
abbrev ps0 : List Value := [.pointer none, .pointer none, .pointer none, .pointer none]
theorem win0 (G : Im) : Win G ps0 ws0 := by
  refine ⟨rfl, rfl, fun i v o hv ho => ?_⟩
  match i, hv, ho with
  | 0, h, k => cases h; cases k; rfl
  | 1, h, k => cases h; cases k; rfl
  | 2, h, k => cases h; cases k; rfl
  | 3, h, k => cases h; cases k; rfl
theorem row0 (c : Int) : rowS ws0 c = none := by
  unfold rowS
  split
  · match h : c.toNat with
    | 0 | 1 | 2 | 3 => rfl
    | n + 4 => rfl
  · rfl
theorem winOk0 : WinOk ws0 := ⟨rfl, fun c r h => by rw [row0] at h; cases h⟩
/-- What was done, and what that means. -/
theorem doneS_ok {rs : List (Option Rw)} {s : Stp} {b : List UInt8} (hw : WinOk rs) (h : (doneS rs s b).1 = 0) : mayS s ∧ (∀ r, rowS rs s.c = some r → r.st.l < s.l ∨ (r.st.l = s.l ∧ r.st.s < s.s)) ∧ (doneS rs s b).2 = rs.set s.c.toNat (some ⟨s, b⟩) := by
  unfold doneS at h ⊢
  split at h
  · cases h
  · rename_i hn
    rw [if_neg hn]
    have hm : mayS s := Decidable.byContradiction fun h => hn (.inl (by rw [askS, if_neg h]))
    refine ⟨hm, fun r hr => ?_, rfl⟩
    have hc := (hw.2 _ _ hr).1
    rw [askS, if_pos hm, hr] at hn
    dsimp only at hn
    by_cases h1 : elderS s r.st = true
    · exact absurd (.inl (by rw [if_neg (by rw [kindS, if_pos h1]; decide)]; rw [kindS, if_pos h1])) hn
    · by_cases h2 : youngerS s r.st = true
      · exact .inl (by simpa [youngerS] using h2)
      · by_cases h3 : sameS s r.st = true
        · exact absurd (.inr (by rw [if_pos (by rw [kindS, if_neg h1, if_neg h2, if_pos h3])])) hn
        · simp only [elderS, youngerS, sameS, decide_eq_true_eq, Bool.and_eq_true] at h1 h2 h3
          omega
theorem rowS_set {rs : List (Option Rw)} {s : Stp} {r : Rw} (hl : rs.length = 4) (hm : mayS s) (c : Int) : rowS (rs.set s.c.toNat (some r)) c = if c = s.c then some r else rowS rs c := by
  unfold mayS at hm
  unfold rowS
  by_cases h : c = s.c
  · subst h
    rw [if_pos rfl, if_pos (by omega)]
    have : s.c.toNat < rs.length := by omega
    simp [List.getD, this]
  · rw [if_neg h]
    split
    · have : s.c.toNat ≠ c.toNat := by omega
      simp [List.getD, this]
    · rfl
theorem WinOk.set {rs : List (Option Rw)} {s : Stp} {b : List UInt8} (hw : WinOk rs) (hm : mayS s) : WinOk (rs.set s.c.toNat (some ⟨s, b⟩)) := by
  refine ⟨by simpa using hw.1, fun c r hr => ?_⟩
  rw [rowS_set hw.1 hm] at hr
  split at hr
  · rename_i e; cases hr; exact ⟨e.symm, hm⟩
  · exact hw.2 c r hr
theorem WinOk.done {rs : List (Option Rw)} {s : Stp} {b : List UInt8} (hw : WinOk rs) : WinOk (doneS rs s b).2 := by
  by_cases h : (doneS rs s b).1 = 0
  · obtain ⟨hm, _, e⟩ := doneS_ok hw h
    rw [e]; exact hw.set hm
  · have : (doneS rs s b).2 = rs := by
      unfold doneS at h ⊢
      split
      · rfl
      · rename_i hn; rw [if_neg hn] at h; exact absurd rfl h
    rw [this]; exact hw

theorem stamp_c (s : Stp) (w0 w : World) (G : Im) (F : Hp) (hs : Sat w0 w G F) :
    Calls Try.prog 12 #[StV s] w fun e w' => e = .returned (StV s) ∧ Sat w0 w' G F := by
  refine f_enter (vs := [_]) Try.func12 rfl Try.ntmps12 (by simp) hs ?_
  repeat (first | (refine c_cons ?_; first | refine s_val (v_move rfl) rfl rfl rfl ?_ | refine s_val (v_assign rfl) rfl rfl rfl ?_ | refine s_val (v_len rfl (by kernel_rfl)) rfl rfl rfl ?_ | refine s_val (v_lss rfl rfl) rfl rfl rfl ?_ | refine s_val (v_neq rfl rfl) rfl rfl rfl ?_ | refine s_val (v_eql rfl rfl) rfl rfl rfl ?_ | refine s_val (v_gtr rfl rfl) rfl rfl rfl ?_ | refine s_val (v_leq rfl rfl) rfl rfl rfl ?_ | refine s_val (v_geq rfl rfl) rfl rfl rfl ?_ | refine s_val (v_add rfl rfl (by omega)) rfl rfl rfl ?_ | refine s_val (v_sub rfl rfl (by omega)) rfl rfl rfl ?_ | refine s_val (v_not rfl) rfl rfl rfl ?_ | refine s_val (v_pick_t rfl rfl) rfl rfl rfl ?_ | refine s_val (v_pick_f rfl rfl) rfl rfl rfl ?_ | refine s_val (v_xor8 rfl rfl) rfl rfl rfl ?_ | refine s_val (v_makeFunc rfl rfl) rfl rfl rfl ?_ | refine s_val (v_extract rfl rfl) rfl rfl rfl ?_ | refine s_val (v_nilCheck rfl) rfl rfl rfl ?_ | refine s_val (v_max rfl rfl) rfl rfl rfl ?_ | refine s_val (v_min rfl rfl) rfl rfl rfl ?_ | refine s_val (v_eqb_same rfl rfl (by kernel_rfl)) rfl rfl rfl ?_ | refine s_val (v_eqb rfl rfl (by kernel_rfl)) rfl rfl rfl ?_ | refine s_val (v_u8int rfl (by kernel_rfl) (by kernel_rfl)) rfl rfl rfl ?_ | refine s_val (v_eqnilP rfl rfl (by kernel_rfl)) rfl rfl rfl ?_ | refine s_val (v_neqnilP rfl rfl (by kernel_rfl)) rfl rfl rfl ?_ | refine s_val (v_eqnilS rfl rfl (by kernel_rfl)) rfl rfl rfl ?_ | refine s_skip rfl rfl rfl ?_ | refine s_skip0 rfl rfl ?_) | refine c_nil ?_ | refine c_seq ?_ | refine c_region ?_ | refine c_block ?_ | refine c_skip ?_ | refine c_exit ?_ | refine c_ret ?_ | refine x_then ?_ | refine x_block ?_ | refine x_then_exit ?_ | refine x_then_ret ?_ | refine x_block_ret ?_ | refine x_block_eq ?_ | refine x_block_ne rfl ?_)
  refine c_cons (s_boxA [_, _, _] rfl rfl rfl fun b1 => ?_)
  refine c_cons (s_allocA [I64 0, I64 0, I64 0] (by kernel_rfl) rfl rfl fun b2 => ?_)
  repeat (first | (refine c_cons ?_; first | refine s_val (v_move rfl) rfl rfl rfl ?_ | refine s_val (v_assign rfl) rfl rfl rfl ?_ | refine s_val (v_len rfl (by kernel_rfl)) rfl rfl rfl ?_ | refine s_val (v_lss rfl rfl) rfl rfl rfl ?_ | refine s_val (v_neq rfl rfl) rfl rfl rfl ?_ | refine s_val (v_eql rfl rfl) rfl rfl rfl ?_ | refine s_val (v_gtr rfl rfl) rfl rfl rfl ?_ | refine s_val (v_leq rfl rfl) rfl rfl rfl ?_ | refine s_val (v_geq rfl rfl) rfl rfl rfl ?_ | refine s_val (v_add rfl rfl (by omega)) rfl rfl rfl ?_ | refine s_val (v_sub rfl rfl (by omega)) rfl rfl rfl ?_ | refine s_val (v_not rfl) rfl rfl rfl ?_ | refine s_val (v_pick_t rfl rfl) rfl rfl rfl ?_ | refine s_val (v_pick_f rfl rfl) rfl rfl rfl ?_ | refine s_val (v_xor8 rfl rfl) rfl rfl rfl ?_ | refine s_val (v_makeFunc rfl rfl) rfl rfl rfl ?_ | refine s_val (v_extract rfl rfl) rfl rfl rfl ?_ | refine s_val (v_nilCheck rfl) rfl rfl rfl ?_ | refine s_val (v_max rfl rfl) rfl rfl rfl ?_ | refine s_val (v_min rfl rfl) rfl rfl rfl ?_ | refine s_val (v_eqb_same rfl rfl (by kernel_rfl)) rfl rfl rfl ?_ | refine s_val (v_eqb rfl rfl (by kernel_rfl)) rfl rfl rfl ?_ | refine s_val (v_u8int rfl (by kernel_rfl) (by kernel_rfl)) rfl rfl rfl ?_ | refine s_val (v_eqnilP rfl rfl (by kernel_rfl)) rfl rfl rfl ?_ | refine s_val (v_neqnilP rfl rfl (by kernel_rfl)) rfl rfl rfl ?_ | refine s_val (v_eqnilS rfl rfl (by kernel_rfl)) rfl rfl rfl ?_ | refine s_skip rfl rfl rfl ?_ | refine s_skip0 rfl rfl ?_) | refine c_nil ?_ | refine c_seq ?_ | refine c_region ?_ | refine c_block ?_ | refine c_skip ?_ | refine c_exit ?_ | refine c_ret ?_ | refine x_then ?_ | refine x_block ?_ | refine x_then_exit ?_ | refine x_then_ret ?_ | refine x_block_ret ?_ | refine x_block_eq ?_ | refine x_block_ne rfl ?_)
  refine c_cons (s_val (v_field 0 rfl (by kernel_rfl)) rfl rfl rfl ?_)
  refine c_cons (s_val (v_load rfl (Cel.tail (Cel.head rfl)) (by kernel_rfl)) rfl rfl rfl ?_)
  refine c_cons (s_val (v_field 1 rfl (by kernel_rfl)) rfl rfl rfl ?_)
  refine c_cons (s_val (v_load rfl (Cel.tail (Cel.head rfl)) (by kernel_rfl)) rfl rfl rfl ?_)
  refine c_cons (s_val (v_field 2 rfl (by kernel_rfl)) rfl rfl rfl ?_)
  refine c_cons (s_val (v_load rfl (Cel.tail (Cel.head rfl)) (by kernel_rfl)) rfl rfl rfl ?_)
  refine c_cons (s_val (v_build (ps := [_, _, _]) #[I64 s.c, I64 s.l, I64 s.s] rfl (by kernel_rfl)) rfl rfl rfl ?_)
  refine c_cons (s_storeA (vs := [_, _, _]) rfl rfl rfl .head (by kernel_rfl) (by simp [Value.oneCell']) rfl ?_)
  repeat (first | (refine c_cons ?_; first | refine s_val (v_move rfl) rfl rfl rfl ?_ | refine s_val (v_assign rfl) rfl rfl rfl ?_ | refine s_val (v_len rfl (by kernel_rfl)) rfl rfl rfl ?_ | refine s_val (v_lss rfl rfl) rfl rfl rfl ?_ | refine s_val (v_neq rfl rfl) rfl rfl rfl ?_ | refine s_val (v_eql rfl rfl) rfl rfl rfl ?_ | refine s_val (v_gtr rfl rfl) rfl rfl rfl ?_ | refine s_val (v_leq rfl rfl) rfl rfl rfl ?_ | refine s_val (v_geq rfl rfl) rfl rfl rfl ?_ | refine s_val (v_add rfl rfl (by omega)) rfl rfl rfl ?_ | refine s_val (v_sub rfl rfl (by omega)) rfl rfl rfl ?_ | refine s_val (v_not rfl) rfl rfl rfl ?_ | refine s_val (v_pick_t rfl rfl) rfl rfl rfl ?_ | refine s_val (v_pick_f rfl rfl) rfl rfl rfl ?_ | refine s_val (v_xor8 rfl rfl) rfl rfl rfl ?_ | refine s_val (v_makeFunc rfl rfl) rfl rfl rfl ?_ | refine s_val (v_extract rfl rfl) rfl rfl rfl ?_ | refine s_val (v_nilCheck rfl) rfl rfl rfl ?_ | refine s_val (v_max rfl rfl) rfl rfl rfl ?_ | refine s_val (v_min rfl rfl) rfl rfl rfl ?_ | refine s_val (v_eqb_same rfl rfl (by kernel_rfl)) rfl rfl rfl ?_ | refine s_val (v_eqb rfl rfl (by kernel_rfl)) rfl rfl rfl ?_ | refine s_val (v_u8int rfl (by kernel_rfl) (by kernel_rfl)) rfl rfl rfl ?_ | refine s_val (v_eqnilP rfl rfl (by kernel_rfl)) rfl rfl rfl ?_ | refine s_val (v_neqnilP rfl rfl (by kernel_rfl)) rfl rfl rfl ?_ | refine s_val (v_eqnilS rfl rfl (by kernel_rfl)) rfl rfl rfl ?_ | refine s_skip rfl rfl rfl ?_ | refine s_skip0 rfl rfl ?_) | refine c_nil ?_ | refine c_seq ?_ | refine c_region ?_ | refine c_block ?_ | refine c_skip ?_ | refine c_exit ?_ | refine c_ret ?_ | refine x_then ?_ | refine x_block ?_ | refine x_then_exit ?_ | refine x_then_ret ?_ | refine x_block_ret ?_ | refine x_block_eq ?_ | refine x_block_ne rfl ?_)
  exact f_retA (vs := [_, _, _]) rfl rfl (by kernel_rfl) (by kernel_rfl) rfl (fun j u hj => Cel.all hj) (fun w hs => ⟨rfl, hs.tl.tl⟩)

theorem awake_c (w0 w : World) (G : Im) (F : Hp) (hs : Sat w0 w G F) :
    Calls Try.prog 9 #[] w fun e w' => ∃ G', e = .returned (.bool true) ∧ Im.le G G' ∧ Sat w0 w' G' F := by
  refine f_enter (vs := []) Try.func9 rfl Try.ntmps9 (by simp) hs ?_
  repeat (first | (refine c_cons ?_; first | refine s_val (v_move rfl) rfl rfl rfl ?_ | refine s_val (v_assign rfl) rfl rfl rfl ?_ | refine s_val (v_len rfl (by kernel_rfl)) rfl rfl rfl ?_ | refine s_val (v_lss rfl rfl) rfl rfl rfl ?_ | refine s_val (v_neq rfl rfl) rfl rfl rfl ?_ | refine s_val (v_eql rfl rfl) rfl rfl rfl ?_ | refine s_val (v_gtr rfl rfl) rfl rfl rfl ?_ | refine s_val (v_leq rfl rfl) rfl rfl rfl ?_ | refine s_val (v_geq rfl rfl) rfl rfl rfl ?_ | refine s_val (v_add rfl rfl (by omega)) rfl rfl rfl ?_ | refine s_val (v_sub rfl rfl (by omega)) rfl rfl rfl ?_ | refine s_val (v_not rfl) rfl rfl rfl ?_ | refine s_val (v_pick_t rfl rfl) rfl rfl rfl ?_ | refine s_val (v_pick_f rfl rfl) rfl rfl rfl ?_ | refine s_val (v_xor8 rfl rfl) rfl rfl rfl ?_ | refine s_val (v_makeFunc rfl rfl) rfl rfl rfl ?_ | refine s_val (v_extract rfl rfl) rfl rfl rfl ?_ | refine s_val (v_nilCheck rfl) rfl rfl rfl ?_ | refine s_val (v_max rfl rfl) rfl rfl rfl ?_ | refine s_val (v_min rfl rfl) rfl rfl rfl ?_ | refine s_val (v_eqb_same rfl rfl (by kernel_rfl)) rfl rfl rfl ?_ | refine s_val (v_eqb rfl rfl (by kernel_rfl)) rfl rfl rfl ?_ | refine s_val (v_u8int rfl (by kernel_rfl) (by kernel_rfl)) rfl rfl rfl ?_ | refine s_val (v_eqnilP rfl rfl (by kernel_rfl)) rfl rfl rfl ?_ | refine s_val (v_neqnilP rfl rfl (by kernel_rfl)) rfl rfl rfl ?_ | refine s_val (v_eqnilS rfl rfl (by kernel_rfl)) rfl rfl rfl ?_ | refine s_skip rfl rfl rfl ?_ | refine s_skip0 rfl rfl ?_) | refine c_nil ?_ | refine c_seq ?_ | refine c_region ?_ | refine c_block ?_ | refine c_skip ?_ | refine c_exit ?_ | refine c_ret ?_ | refine x_then ?_ | refine x_block ?_ | refine x_then_exit ?_ | refine x_then_ret ?_ | refine x_block_ret ?_ | refine x_block_eq ?_ | refine x_block_ne rfl ?_)
  refine c_cons (s_call (xs := []) rfl rfl rfl rfl rfl rfl (by kernel_rfl) (fun w hs => new_c _ w _ _ hs) ?_)
  rintro e w' ⟨bp, rfl, hs'⟩; refine a_ret ?_ hs'; clear hs'
  repeat (first | (refine c_cons ?_; first | refine s_val (v_move rfl) rfl rfl rfl ?_ | refine s_val (v_assign rfl) rfl rfl rfl ?_ | refine s_val (v_len rfl (by kernel_rfl)) rfl rfl rfl ?_ | refine s_val (v_lss rfl rfl) rfl rfl rfl ?_ | refine s_val (v_neq rfl rfl) rfl rfl rfl ?_ | refine s_val (v_eql rfl rfl) rfl rfl rfl ?_ | refine s_val (v_gtr rfl rfl) rfl rfl rfl ?_ | refine s_val (v_leq rfl rfl) rfl rfl rfl ?_ | refine s_val (v_geq rfl rfl) rfl rfl rfl ?_ | refine s_val (v_add rfl rfl (by omega)) rfl rfl rfl ?_ | refine s_val (v_sub rfl rfl (by omega)) rfl rfl rfl ?_ | refine s_val (v_not rfl) rfl rfl rfl ?_ | refine s_val (v_pick_t rfl rfl) rfl rfl rfl ?_ | refine s_val (v_pick_f rfl rfl) rfl rfl rfl ?_ | refine s_val (v_xor8 rfl rfl) rfl rfl rfl ?_ | refine s_val (v_makeFunc rfl rfl) rfl rfl rfl ?_ | refine s_val (v_extract rfl rfl) rfl rfl rfl ?_ | refine s_val (v_nilCheck rfl) rfl rfl rfl ?_ | refine s_val (v_max rfl rfl) rfl rfl rfl ?_ | refine s_val (v_min rfl rfl) rfl rfl rfl ?_ | refine s_val (v_eqb_same rfl rfl (by kernel_rfl)) rfl rfl rfl ?_ | refine s_val (v_eqb rfl rfl (by kernel_rfl)) rfl rfl rfl ?_ | refine s_val (v_u8int rfl (by kernel_rfl) (by kernel_rfl)) rfl rfl rfl ?_ | refine s_val (v_eqnilP rfl rfl (by kernel_rfl)) rfl rfl rfl ?_ | refine s_val (v_neqnilP rfl rfl (by kernel_rfl)) rfl rfl rfl ?_ | refine s_val (v_eqnilS rfl rfl (by kernel_rfl)) rfl rfl rfl ?_ | refine s_skip rfl rfl rfl ?_ | refine s_skip0 rfl rfl ?_) | refine c_nil ?_ | refine c_seq ?_ | refine c_region ?_ | refine c_block ?_ | refine c_skip ?_ | refine c_exit ?_ | refine c_ret ?_ | refine x_then ?_ | refine x_block ?_ | refine x_then_exit ?_ | refine x_then_ret ?_ | refine x_block_ret ?_ | refine x_block_eq ?_ | refine x_block_ne rfl ?_)
  refine c_cons (s_val (v_build (ps := [_, _]) #[I64 1, I64 0, I64 1] rfl (by kernel_rfl)) rfl rfl rfl ?_)
  refine c_cons (s_lit (z := B8 0) (bs := 1) (e := 5) [_] (by kernel_rfl) rfl rfl rfl rfl (by simp [Value.oneCell']) rfl (by decide) fun b1 => ?_)
  refine c_freeze .head fun G1 hG1 h1 => ?_
  have hb : SV G1 [] (Sl b1 0 1 1) 1 ([5].map B8) := SV.imm h1 (by decide)
  refine c_cons (s_call (xs := [_, _, _]) rfl rfl rfl rfl rfl rfl (by kernel_rfl) (fun w hs => done_c bp ps0 ws0 ⟨1, 0, 1⟩ _ [5] _ w _ _ (win0 _) hb (by decide) hs) ?_)
  rintro e w' ⟨G2, ps2, rfl, hG2, hw2, hs'⟩; refine a_ret ?_ hs'; clear hs'
  have hd : doneS ws0 ⟨1, 0, 1⟩ [5] = (0, [none, some ⟨⟨1, 0, 1⟩, [5]⟩, none, none]) := by decide
  rw [hd] at hw2 ⊢
  dsimp only at hw2 ⊢
  repeat (first | (refine c_cons ?_; first | refine s_val (v_move rfl) rfl rfl rfl ?_ | refine s_val (v_assign rfl) rfl rfl rfl ?_ | refine s_val (v_len rfl (by kernel_rfl)) rfl rfl rfl ?_ | refine s_val (v_lss rfl rfl) rfl rfl rfl ?_ | refine s_val (v_neq rfl rfl) rfl rfl rfl ?_ | refine s_val (v_eql rfl rfl) rfl rfl rfl ?_ | refine s_val (v_gtr rfl rfl) rfl rfl rfl ?_ | refine s_val (v_leq rfl rfl) rfl rfl rfl ?_ | refine s_val (v_geq rfl rfl) rfl rfl rfl ?_ | refine s_val (v_add rfl rfl (by omega)) rfl rfl rfl ?_ | refine s_val (v_sub rfl rfl (by omega)) rfl rfl rfl ?_ | refine s_val (v_not rfl) rfl rfl rfl ?_ | refine s_val (v_pick_t rfl rfl) rfl rfl rfl ?_ | refine s_val (v_pick_f rfl rfl) rfl rfl rfl ?_ | refine s_val (v_xor8 rfl rfl) rfl rfl rfl ?_ | refine s_val (v_makeFunc rfl rfl) rfl rfl rfl ?_ | refine s_val (v_extract rfl rfl) rfl rfl rfl ?_ | refine s_val (v_nilCheck rfl) rfl rfl rfl ?_ | refine s_val (v_max rfl rfl) rfl rfl rfl ?_ | refine s_val (v_min rfl rfl) rfl rfl rfl ?_ | refine s_val (v_eqb_same rfl rfl (by kernel_rfl)) rfl rfl rfl ?_ | refine s_val (v_eqb rfl rfl (by kernel_rfl)) rfl rfl rfl ?_ | refine s_val (v_u8int rfl (by kernel_rfl) (by kernel_rfl)) rfl rfl rfl ?_ | refine s_val (v_eqnilP rfl rfl (by kernel_rfl)) rfl rfl rfl ?_ | refine s_val (v_neqnilP rfl rfl (by kernel_rfl)) rfl rfl rfl ?_ | refine s_val (v_eqnilS rfl rfl (by kernel_rfl)) rfl rfl rfl ?_ | refine s_skip rfl rfl rfl ?_ | refine s_skip0 rfl rfl ?_) | refine c_nil ?_ | refine c_seq ?_ | refine c_region ?_ | refine c_block ?_ | refine c_skip ?_ | refine c_exit ?_ | refine c_ret ?_ | refine x_then ?_ | refine x_block ?_ | refine x_then_exit ?_ | refine x_then_ret ?_ | refine x_block_ret ?_ | refine x_block_eq ?_ | refine x_block_ne rfl ?_)
  refine c_cond_f rfl ?_
  repeat (first | (refine c_cons ?_; first | refine s_val (v_move rfl) rfl rfl rfl ?_ | refine s_val (v_assign rfl) rfl rfl rfl ?_ | refine s_val (v_len rfl (by kernel_rfl)) rfl rfl rfl ?_ | refine s_val (v_lss rfl rfl) rfl rfl rfl ?_ | refine s_val (v_neq rfl rfl) rfl rfl rfl ?_ | refine s_val (v_eql rfl rfl) rfl rfl rfl ?_ | refine s_val (v_gtr rfl rfl) rfl rfl rfl ?_ | refine s_val (v_leq rfl rfl) rfl rfl rfl ?_ | refine s_val (v_geq rfl rfl) rfl rfl rfl ?_ | refine s_val (v_add rfl rfl (by omega)) rfl rfl rfl ?_ | refine s_val (v_sub rfl rfl (by omega)) rfl rfl rfl ?_ | refine s_val (v_not rfl) rfl rfl rfl ?_ | refine s_val (v_pick_t rfl rfl) rfl rfl rfl ?_ | refine s_val (v_pick_f rfl rfl) rfl rfl rfl ?_ | refine s_val (v_xor8 rfl rfl) rfl rfl rfl ?_ | refine s_val (v_makeFunc rfl rfl) rfl rfl rfl ?_ | refine s_val (v_extract rfl rfl) rfl rfl rfl ?_ | refine s_val (v_nilCheck rfl) rfl rfl rfl ?_ | refine s_val (v_max rfl rfl) rfl rfl rfl ?_ | refine s_val (v_min rfl rfl) rfl rfl rfl ?_ | refine s_val (v_eqb_same rfl rfl (by kernel_rfl)) rfl rfl rfl ?_ | refine s_val (v_eqb rfl rfl (by kernel_rfl)) rfl rfl rfl ?_ | refine s_val (v_u8int rfl (by kernel_rfl) (by kernel_rfl)) rfl rfl rfl ?_ | refine s_val (v_eqnilP rfl rfl (by kernel_rfl)) rfl rfl rfl ?_ | refine s_val (v_neqnilP rfl rfl (by kernel_rfl)) rfl rfl rfl ?_ | refine s_val (v_eqnilS rfl rfl (by kernel_rfl)) rfl rfl rfl ?_ | refine s_skip rfl rfl rfl ?_ | refine s_skip0 rfl rfl ?_) | refine c_nil ?_ | refine c_seq ?_ | refine c_region ?_ | refine c_block ?_ | refine c_skip ?_ | refine c_exit ?_ | refine c_ret ?_ | refine x_then ?_ | refine x_block ?_ | refine x_then_exit ?_ | refine x_then_ret ?_ | refine x_block_ret ?_ | refine x_block_eq ?_ | refine x_block_ne rfl ?_)
  refine c_cons (s_val (v_build (ps := [_, _]) #[I64 1, I64 0, I64 1] rfl (by kernel_rfl)) rfl rfl rfl ?_)
  refine c_cons (s_call (xs := [_, _]) rfl rfl rfl rfl rfl rfl (by kernel_rfl) (fun w hs => ask_c bp ps2 _ ⟨1, 0, 1⟩ _ w _ _ hw2 hs) ?_)
  rintro e w' ⟨G3, u3, rfl, hG3, hu3, hs'⟩; refine a_ret ?_ hs'; clear hs'
  have ha : askS [none, some ⟨⟨1, 0, 1⟩, [5]⟩, none, none] ⟨1, 0, 1⟩ = (1, [5]) := by decide
  rw [ha] at hu3 ⊢
  dsimp only at hu3 ⊢
  repeat (first | (refine c_cons ?_; first | refine s_val (v_move rfl) rfl rfl rfl ?_ | refine s_val (v_assign rfl) rfl rfl rfl ?_ | refine s_val (v_len rfl (by kernel_rfl)) rfl rfl rfl ?_ | refine s_val (v_lss rfl rfl) rfl rfl rfl ?_ | refine s_val (v_neq rfl rfl) rfl rfl rfl ?_ | refine s_val (v_eql rfl rfl) rfl rfl rfl ?_ | refine s_val (v_gtr rfl rfl) rfl rfl rfl ?_ | refine s_val (v_leq rfl rfl) rfl rfl rfl ?_ | refine s_val (v_geq rfl rfl) rfl rfl rfl ?_ | refine s_val (v_add rfl rfl (by omega)) rfl rfl rfl ?_ | refine s_val (v_sub rfl rfl (by omega)) rfl rfl rfl ?_ | refine s_val (v_not rfl) rfl rfl rfl ?_ | refine s_val (v_pick_t rfl rfl) rfl rfl rfl ?_ | refine s_val (v_pick_f rfl rfl) rfl rfl rfl ?_ | refine s_val (v_xor8 rfl rfl) rfl rfl rfl ?_ | refine s_val (v_makeFunc rfl rfl) rfl rfl rfl ?_ | refine s_val (v_extract rfl rfl) rfl rfl rfl ?_ | refine s_val (v_nilCheck rfl) rfl rfl rfl ?_ | refine s_val (v_max rfl rfl) rfl rfl rfl ?_ | refine s_val (v_min rfl rfl) rfl rfl rfl ?_ | refine s_val (v_eqb_same rfl rfl (by kernel_rfl)) rfl rfl rfl ?_ | refine s_val (v_eqb rfl rfl (by kernel_rfl)) rfl rfl rfl ?_ | refine s_val (v_u8int rfl (by kernel_rfl) (by kernel_rfl)) rfl rfl rfl ?_ | refine s_val (v_eqnilP rfl rfl (by kernel_rfl)) rfl rfl rfl ?_ | refine s_val (v_neqnilP rfl rfl (by kernel_rfl)) rfl rfl rfl ?_ | refine s_val (v_eqnilS rfl rfl (by kernel_rfl)) rfl rfl rfl ?_ | refine s_skip rfl rfl rfl ?_ | refine s_skip0 rfl rfl ?_) | refine c_nil ?_ | refine c_seq ?_ | refine c_region ?_ | refine c_block ?_ | refine c_skip ?_ | refine c_exit ?_ | refine c_ret ?_ | refine x_then ?_ | refine x_block ?_ | refine x_then_exit ?_ | refine x_then_ret ?_ | refine x_block_ret ?_ | refine x_block_eq ?_ | refine x_block_ne rfl ?_)
  refine c_cons (s_lit (z := B8 0) (bs := 1) (e := 5) [_] (by kernel_rfl) rfl rfl rfl rfl (by simp [Value.oneCell']) rfl (by decide) fun b2 => ?_)
  refine c_freeze .head fun G4 hG4 h4 => ?_
  refine c_cons (s_call (xs := [_, _]) rfl rfl rfl rfl rfl rfl (by kernel_rfl) (fun w hs => same_c _ _ [5] [5] _ w _ _ (hu3.up hG4) (SV.imm h4 (by decide)) hs) ?_)
  rw [decide_eq_true rfl]
  rintro e w' ⟨rfl, hs'⟩; refine a_ret ?_ hs'; clear hs'
  repeat (first | (refine c_cons ?_; first | refine s_val (v_move rfl) rfl rfl rfl ?_ | refine s_val (v_assign rfl) rfl rfl rfl ?_ | refine s_val (v_len rfl (by kernel_rfl)) rfl rfl rfl ?_ | refine s_val (v_lss rfl rfl) rfl rfl rfl ?_ | refine s_val (v_neq rfl rfl) rfl rfl rfl ?_ | refine s_val (v_eql rfl rfl) rfl rfl rfl ?_ | refine s_val (v_gtr rfl rfl) rfl rfl rfl ?_ | refine s_val (v_leq rfl rfl) rfl rfl rfl ?_ | refine s_val (v_geq rfl rfl) rfl rfl rfl ?_ | refine s_val (v_add rfl rfl (by omega)) rfl rfl rfl ?_ | refine s_val (v_sub rfl rfl (by omega)) rfl rfl rfl ?_ | refine s_val (v_not rfl) rfl rfl rfl ?_ | refine s_val (v_pick_t rfl rfl) rfl rfl rfl ?_ | refine s_val (v_pick_f rfl rfl) rfl rfl rfl ?_ | refine s_val (v_xor8 rfl rfl) rfl rfl rfl ?_ | refine s_val (v_makeFunc rfl rfl) rfl rfl rfl ?_ | refine s_val (v_extract rfl rfl) rfl rfl rfl ?_ | refine s_val (v_nilCheck rfl) rfl rfl rfl ?_ | refine s_val (v_max rfl rfl) rfl rfl rfl ?_ | refine s_val (v_min rfl rfl) rfl rfl rfl ?_ | refine s_val (v_eqb_same rfl rfl (by kernel_rfl)) rfl rfl rfl ?_ | refine s_val (v_eqb rfl rfl (by kernel_rfl)) rfl rfl rfl ?_ | refine s_val (v_u8int rfl (by kernel_rfl) (by kernel_rfl)) rfl rfl rfl ?_ | refine s_val (v_eqnilP rfl rfl (by kernel_rfl)) rfl rfl rfl ?_ | refine s_val (v_neqnilP rfl rfl (by kernel_rfl)) rfl rfl rfl ?_ | refine s_val (v_eqnilS rfl rfl (by kernel_rfl)) rfl rfl rfl ?_ | refine s_skip rfl rfl rfl ?_ | refine s_skip0 rfl rfl ?_) | refine c_nil ?_ | refine c_seq ?_ | refine c_region ?_ | refine c_block ?_ | refine c_skip ?_ | refine c_exit ?_ | refine c_ret ?_ | refine x_then ?_ | refine x_block ?_ | refine x_then_exit ?_ | refine x_then_ret ?_ | refine x_block_ret ?_ | refine x_block_eq ?_ | refine x_block_ne rfl ?_)
  exact f_ret1 rfl rfl (fun w hs => ⟨G4, rfl, ((hG1.trans hG2).trans hG3).trans hG4, hs.tl⟩)

end Go.Proofs.Ytioepfjmeklhaaa
