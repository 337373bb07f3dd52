/- The reference's pen, and the bytes of the reference's map. -/
import Derived.Test.YtkjneelekfdpfaaBlkP1
namespace Go.Proofs.Ytkjneelekfdpfaa
open Go
set_option linter.unusedVariables false
set_option linter.unusedSimpArgs false
set_option maxHeartbeats 3200000
attribute [local irreducible] Code.wp wpList stepK Holds Val wpR Eff Eff0 Code.wpIn wpListIn stepI Exit.then Exit.inBlock bodyPost bodyPostM

abbrev RP (pn : Nat) (v : Value) : Nat × Obj := (pn, Cs [v, I64 0] 119)

-- (*pinstripe/pinstriperef1.Pen).add params ['*pinstriperef1.Pen', '[]uint8'] results [] ntmps 37
theorem radd_c (pn : Nat) (v : Value) (xs : List UInt8) (B : Hp) (vb : Value) (ys : List UInt8) (hlen : xs.length + ys.length ≤ 65536) (w0 w : World) (G : Im) (F : Hp) (hown : OB v xs B) (hb : SV G (RP pn v :: (B ++ F)) vb ys.length (ys.map B8)) (hs : Sat w0 w G (RP pn v :: (B ++ F))) :
    Calls Try.prog 78 #[Pt pn 0, vb] w fun e w' => ∃ v' B', e = .returned (.tuple #[]) ∧ OB v' (xs ++ ys) B' ∧ Sat w0 w' G (RP pn v' :: (B' ++ F)) := by
  obtain ⟨ad, c, rfl⟩ := hown.form
  obtain ⟨adb, cb, rfl, hcb1, hcb2, hb3⟩ := id hb
  refine f_enter (vs := [_, _]) Try.func78 rfl Try.ntmps78 (by simp) hs ?_
  refine ww ?_
  refine c_cons (s_val (v_field 1 rfl (by kernel_rfl)) rfl rfl rfl ?_)
  refine c_cons (s_val (v_load rfl (Cel.head rfl) (by kernel_rfl)) rfl rfl rfl ?_)
  refine ww ?_
  refine c_kt 9 rfl rfl ?_
  refine ww ?_
  refine c_cons (s_val (v_field 0 rfl (by kernel_rfl)) rfl rfl rfl ?_)
  refine c_cons (s_val (v_load rfl (Cel.head rfl) (by kernel_rfl)) rfl rfl rfl ?_)
  refine ww ?_
  refine c_kf 19 rfl (by omega) ?_
  refine c_cond_f rfl ?_
  refine ww ?_
  refine c_cons (s_val (v_field 1 rfl (by kernel_rfl)) rfl rfl rfl ?_)
  refine c_cons (s_val (v_load rfl (Cel.head rfl) (by kernel_rfl)) rfl rfl rfl ?_)
  refine ww ?_
  refine c_kt 27 rfl rfl ?_
  refine c_cond_t rfl ?_
  refine ww ?_
  refine c_cons (s_val (v_field 0 rfl (by kernel_rfl)) rfl rfl rfl ?_)
  refine c_cons (s_val (v_load rfl (Cel.head rfl) (by kernel_rfl)) rfl rfl rfl ?_)
  refine ww ?_
  refine c_cons (s_append (e := 5) (z := B8 0) (sz := 1) (bs := 1) (by kernel_rfl) rfl rfl rfl rfl hown (Chunk.tail Chunk.head) hb rfl (by decide) (by simp) (B8_one ys) (by omega) (by omega) fun u1 B1 hown1 => ?_)
  rw [← List.length_append, ← List.map_append] at hown1
  obtain ⟨ad1, c1, rfl⟩ := hown1.form
  refine c_sub (RP pn (.slice ad xs.length c) :: (B1 ++ F)) sbx ?_
  refine ww ?_
  refine c_cons (s_val (v_field 0 rfl (by kernel_rfl)) rfl rfl rfl ?_)
  refine c_cons (s_store1 rfl rfl rfl .head (by kernel_rfl) rfl (by simp) ?_)
  refine ww ?_
  exact f_end0 rfl (fun w hs => ⟨_, B1, rfl, hown1, hs⟩)

-- (*pinstripe/pinstriperef1.Pen).Num params ['*pinstriperef1.Pen', 'int', 'int'] results [] ntmps 59
theorem rnum_c (pn : Nat) (v : Value) (xs : List UInt8) (B : Hp) (x : Int) (n : Nat) (hn : 1 ≤ n ∧ n ≤ 7) (hx : 0 ≤ x ∧ x < 2 ^ (8 * n)) (hlen : xs.length + n ≤ 65536) (w0 w : World) (G : Im) (F : Hp) (hown : OB v xs B) (hs : Sat w0 w G (RP pn v :: (B ++ F))) :
    Calls Try.prog 70 #[Pt pn 0, I64 x, I64 n] w fun e w' => ∃ v' B', e = .returned (.tuple #[]) ∧ OB v' (xs ++ be x n) B' ∧ Sat w0 w' G (RP pn v' :: (B' ++ F)) := by
  have hpw := pow8 hn
  have h8 : ∀ i : Nat, ((8 : Int) * (i : Int)).toNat = 8 * i := fun i => by omega
  refine f_enter (vs := [_, _, _]) Try.func70 rfl Try.ntmps70 (by simp) hs ?_
  refine ww ?_
  refine c_cons (s_val (v_field 1 rfl (by kernel_rfl)) rfl rfl rfl ?_)
  refine c_cons (s_val (v_load rfl (Cel.head rfl) (by kernel_rfl)) rfl rfl rfl ?_)
  refine ww ?_
  refine c_kt 13 rfl rfl ?_
  refine ww ?_
  refine c_kf 16 rfl (by omega) ?_
  refine ww ?_
  refine c_kf 20 rfl (by omega) ?_
  refine ww ?_
  refine c_kf 24 rfl (by omega) ?_
  refine ww ?_
  refine c_cons (s_val (v_mul rfl rfl (by omega)) rfl rfl rfl ?_)
  refine c_cons (s_val (v_tou rfl (by kernel_rfl) (by kernel_rfl) (by omega)) rfl rfl rfl ?_)
  refine c_cons (s_val (v_shl rfl rfl (by omega) (by rw [h8, Int.one_mul]; omega)) rfl rfl rfl ?_)
  rw [h8, Int.one_mul]
  refine ww ?_
  refine c_kf 32 rfl (by omega) ?_
  refine c_cond_f rfl ?_
  refine ww ?_
  refine c_cons (s_val (v_field 1 rfl (by kernel_rfl)) rfl rfl rfl ?_)
  refine c_cons (s_val (v_load rfl (Cel.head rfl) (by kernel_rfl)) rfl rfl rfl ?_)
  refine ww ?_
  refine c_kf 40 rfl (by simp) ?_
  refine c_cond_f rfl ?_
  refine ww ?_
  refine c_loop (α := Nat × Value × Hp) (fun z => [(0, Pt pn 0), (1, I64 x), (6, z.2.1), (7, I64 ((n : Int) - 1 - z.1))]) (fun _ => G) (fun z => RP pn v :: (B ++ (z.2.2 ++ F))) (fun z => z.1 ≤ n ∧ Own z.2.1 z.1 (((be x n).take z.1).map B8) 5 1 z.2.2) (fun z => n - z.1) (0, .slice none 0 0, []) ⟨Nat.zero_le _, Own.zero none _ _⟩ ?_ ?_
  · exact n_at ⟨rfl, rfl, rfl, by simp [List.lookup], trivial⟩ sbx
  rintro ⟨i, u, Bo⟩ ⟨hi, ho⟩
  dsimp only at hi ho ⊢
  refine ww ?_
  refine c_cond_d rfl (fun c1 => ?_) (fun c1 => ?_)
  · -- then
    have hil : i < n := by omega
    have hi2 : ((n : Int) - 1 - i) = ((n - 1 - i : Nat) : Int) := by omega
    rw [hi2]
    refine ww ?_
    refine c_cons (s_val (v_mul rfl rfl (by omega)) rfl rfl rfl ?_)
    refine c_cons (s_val (v_tou rfl (by kernel_rfl) (by kernel_rfl) (by omega)) rfl rfl rfl ?_)
    refine c_cons (s_val (v_shr rfl rfl (by omega)) rfl rfl rfl ?_)
    rw [h8]
    refine c_cons (s_val (v_byte rfl (by kernel_rfl) (by kernel_rfl)) rfl rfl rfl ?_)
    refine c_cons (s_lit (z := B8 0) (bs := 1) (e := 5) [_] (by kernel_rfl) rfl rfl rfl rfl (by simp [Value.oneCell']) rfl (by decide) fun b1 => ?_)
    refine c_cons (s_append (e := 5) (z := B8 0) (sz := 1) (bs := 1) (by kernel_rfl) rfl rfl rfl rfl ho (Chunk.tail (Chunk.tail (Chunk.app Chunk.head))) (news := [B8 (lowB (x / 2 ^ (8 * (n - 1 - i))))]) (SV.block .head (by simp [maxLen])) rfl (by decide) rfl (by simp [Value.oneCell']) (by simp; omega) (by simp; omega) fun u2 B2 hown2 => ?_)
    refine ww ?_
    exact n_next (x := (i, u, Bo)) (i + 1, u2, B2) ⟨by omega, by dsimp only; rw [be_snoc x n i hil, List.map_append]; exact hown2⟩ (by dsimp only; omega) ⟨rfl, rfl, rfl, by simp [List.lookup]; omega, trivial⟩ rfl sbx
  have e : i = n := by omega
  subst e
  rw [List.take_of_length_le (by rw [be_len]; exact Nat.le_refl _)] at ho
  refine ww ?_
  refine c_cons (s_call (xs := [_, _]) rfl rfl rfl rfl rfl rfl (by kernel_rfl) (fun w hs => radd_c pn _ xs B _ (be x i) (by rw [be_len]; exact hlen) _ w _ _ hown (by have := ho.sv (G := G) (H := RP pn v :: (B ++ (Bo ++ F))) (fun p hp => by simp [hp]); rw [be_len]; exact this) hs) ?_)
  rintro e w' ⟨v1, B1, rfl, hown1, hs'⟩; refine a_ret ?_ hs'; clear hs'
  refine ww ?_
  exact f_end0 rfl (fun w hs => ⟨v1, B1, rfl, hown1, hs.sb⟩)


end Go.Proofs.Ytkjneelekfdpfaa
