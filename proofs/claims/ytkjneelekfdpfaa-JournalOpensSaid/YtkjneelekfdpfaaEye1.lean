/- Package wire's eye: what reads. -/
import Derived.Test.YtkjneelekfdpfaaPan
import Derived.Test.YtkjneelekfdpfaaClone
import Derived.Test.YtkjneelekfdpfaaRecV
import Derived.Test.YtkjneelekfdpfaaSub
namespace Go.Proofs.Ytkjneelekfdpfaa
open Go
set_option linter.unusedVariables false
set_option linter.unusedSimpArgs false
set_option maxHeartbeats 3200000
attribute [local irreducible] Code.wp wpList stepK Holds Val wpR Eff Eff0 Code.wpIn wpListIn stepI Exit.then Exit.inBlock bodyPost bodyPostM

/-- An eye: its bytes, why it failed. -/
abbrev EyO (ep : Nat) (v : Value) (bad : Int) : Nat × Obj := (ep, Cs [.bool true, v, I64 bad] 123)
abbrev EB (G : Im) (v : Value) (xs : List UInt8) : Prop := SV G [] v xs.length (xs.map B8)
/-- It gives up. -/
def gone (c : Int) : List PanicEntry := [{ v := .iface 126 (.agg #[I64 c]), recovered := false }]
/-- A number, the great byte first. -/
def num (xs : List UInt8) : Nat := xs.foldl (fun x c => x * 256 + c.toNat) 0
theorem num_snoc (xs : List UInt8) (c : UInt8) : num (xs ++ [c]) = num xs * 256 + c.toNat := by simp [num]
theorem num_lt_go (xs : List UInt8) : ∀ a : Nat, xs.foldl (fun x c => x * 256 + c.toNat) a < (a + 1) * 256 ^ xs.length := by
  induction xs with
  | nil => intro a; simp
  | cons c xs ih =>
    intro a
    have h1 := ih (a * 256 + c.toNat)
    have h2 := c.toNat_lt
    have h3 : (a * 256 + c.toNat + 1) * 256 ^ xs.length ≤ (a + 1) * 256 * 256 ^ xs.length := Nat.mul_le_mul_right _ (by omega)
    rw [List.foldl_cons, List.length_cons, Nat.pow_succ, Nat.mul_comm (256 ^ xs.length) 256, ← Nat.mul_assoc]
    omega
theorem num_lt (xs : List UInt8) : num xs < 256 ^ xs.length := by
  have := num_lt_go xs 0
  simpa [num] using this
theorem num_le (xs : List UInt8) (h : xs.length ≤ 7) : num xs < 72057594037927936 := by
  have h1 := num_lt xs
  have h2 : 256 ^ xs.length ≤ 256 ^ 7 := Nat.pow_le_pow_right (by decide) h
  have h3 : (256 : Nat) ^ 7 = 72057594037927936 := by decide
  omega
theorem EB.take {G : Im} {xs : List UInt8} {ad : Option Addr} {k c i : Nat} (h : EB G (.slice ad k c) xs) (hi : i ≤ xs.length) : EB G (.slice ad i i) (xs.take i) := by
  have hk : k = xs.length := by obtain ⟨_, _, e, _⟩ := h; cases e; rfl
  subst hk
  have h1 := SV.hi (h := i) 1 h hi
  have h2 : SV G [] (.slice ad i i) i (((xs.map B8)).take (i * 1)) := SV.full h1 (fun h0 => by subst h0; simp)
  have h3 : (xs.take i).length = i := by simp; omega
  show SV G [] _ (xs.take i).length _
  rw [h3, List.map_take]
  simpa using h2
theorem EB.drop {G : Im} {xs : List UInt8} {ad : Option Addr} {k c i : Nat} (h : EB G (.slice ad k c) xs) (hi : i ≤ xs.length) : EB G (slMid ad c i k 1) (xs.drop i) := by
  have hk : k = xs.length := by obtain ⟨_, _, e, _⟩ := h; cases e; rfl
  subst hk
  have h1 := SV.lo (l := i) (s := 1) h hi (by simp)
  show SV G [] _ (xs.drop i).length _
  rw [List.length_drop, List.map_drop]
  simpa using h1

-- pinstripe/wire.may
theorem emay_c (x : Int) (w0 w : World) (G : Im) (F : Hp) (hs : Sat w0 w G F) :
    Calls Try.prog 75 #[I64 x] w fun e w' => e = .returned (.bool (decide (1 ≤ x ∧ x ≤ 7))) ∧ Sat w0 w' G F := by
  refine f_enter (vs := [_]) Try.func75 rfl Try.ntmps75 (by simp) hs ?_
  refine ww ?_
  refine c_part_d 5 _ rfl (fun c1 => ?_) (fun c1 => ?_)
  · -- t5 = True
    refine ww ?_
    exact f_ret1 rfl rfl (fun w hs => ⟨by rw [decide_eq_decide.2 (show x ≤ 7 ↔ 1 ≤ x ∧ x ≤ 7 by omega)], hs⟩)
  refine ww ?_
  exact f_ret1 rfl rfl (fun w hs => ⟨by rw [decide_eq_false (show ¬ (1 ≤ x ∧ x ≤ 7) by omega)], hs⟩)

-- (*pinstripe/wire.Eye).take
theorem take_c (ep : Nat) (v : Value) (bad : Int) (xs : List UInt8) (i : Nat) (w0 w : World) (G : Im) (F : Hp) (hv : EB G v xs) (hs : Sat w0 w G (EyO ep v bad :: F)) :
    Calls Try.prog 80 #[Pt ep 0, I64 i] w fun e w' =>
      (i ≤ xs.length ∧ ∃ u v', e = .returned u ∧ EB G u (xs.take i) ∧ EB G v' (xs.drop i) ∧ Sat w0 w' G (EyO ep v' bad :: F)) ∨ (xs.length < i ∧ e = .panicked (gone 2) ∧ Sat w0 w' G (EyO ep v bad :: F)) := by
  obtain ⟨ad, c, rfl, hc1, hc2, hc3⟩ := id hv
  refine f_enter (vs := [_, _]) Try.func80 rfl Try.ntmps80 (by simp) hs ?_
  refine ww ?_
  refine c_cons (s_val (v_field 1 rfl (by kernel_rfl)) rfl rfl rfl ?_)
  refine c_cons (s_val (v_load rfl (Cel.head rfl) (by kernel_rfl)) rfl rfl rfl ?_)
  refine ww ?_
  refine c_cond_d rfl (fun c1 => ?_) (fun c1 => ?_)
  · -- then
    refine ww ?_
    refine c_cons (s_val (v_build (ps := [_]) #[I64 2] rfl (by kernel_rfl)) rfl rfl rfl ?_)
    refine c_cons (s_val (v_iface rfl (by kernel_rfl)) rfl rfl rfl ?_)
    refine c_cons (s_panic rfl rfl ?_)
    repeat (first | refine x_then_panic ?_ | refine x_block_panic ?_)
    exact f_panic (fun w hs => .inr ⟨by omega, rfl, hs⟩)
  refine ww ?_
  refine c_cons (s_val (v_field 1 rfl (by kernel_rfl)) rfl rfl rfl ?_)
  refine c_cons (s_val (v_load rfl (Cel.head rfl) (by kernel_rfl)) rfl rfl rfl ?_)
  refine ww ?_
  refine c_cons (s_val (v_sl3 i rfl rfl rfl (by kernel_rfl) (by omega)) rfl rfl rfl ?_)
  refine ww ?_
  refine c_cons (s_val (v_field 1 rfl (by kernel_rfl)) rfl rfl rfl ?_)
  refine c_cons (s_val (v_load rfl (Cel.head rfl) (by kernel_rfl)) rfl rfl rfl ?_)
  refine ww ?_
  refine c_cons (s_val (v_slLo i 1 rfl rfl (by kernel_rfl) (by omega)) rfl rfl rfl ?_)
  refine ww ?_
  refine c_cons (s_val (v_field 1 rfl (by kernel_rfl)) rfl rfl rfl ?_)
  refine c_cons (s_store1 rfl rfl rfl .head (by kernel_rfl) rfl (by simp) ?_)
  refine ww ?_
  exact f_ret1 rfl rfl (fun w hs => .inl ⟨by omega, _, _, rfl, hv.take (by omega), hv.drop (by omega), hs⟩)

-- (*pinstripe/wire.Eye).number
theorem number_c (ep : Nat) (v : Value) (bad : Int) (xs : List UInt8) (i : Nat) (hi : i ≤ 7) (w0 w : World) (G : Im) (F : Hp) (hv : EB G v xs) (hs : Sat w0 w G (EyO ep v bad :: F)) :
    Calls Try.prog 76 #[Pt ep 0, I64 i] w fun e w' =>
      (i ≤ xs.length ∧ ∃ v', e = .returned (I64 (num (xs.take i))) ∧ EB G v' (xs.drop i) ∧ Sat w0 w' G (EyO ep v' bad :: F)) ∨ (xs.length < i ∧ e = .panicked (gone 2) ∧ Sat w0 w' G (EyO ep v bad :: F)) := by
  refine f_enter (vs := [_, _]) Try.func76 rfl Try.ntmps76 (by simp) hs ?_
  refine ww ?_
  refine c_cons (s_call (xs := [_, _]) rfl rfl rfl rfl rfl rfl (by kernel_rfl) (fun w hs => take_c ep v bad xs i _ w _ _ hv hs) ?_)
  rintro e w' (⟨hle, u, v', rfl, hu, hv', hs'⟩ | ⟨hlt, rfl, hs'⟩)
  rotate_left
  · refine a_panic ?_ hs'; clear hs'
    repeat (first | refine x_then_panic ?_ | refine x_block_panic ?_)
    exact f_panic (fun w hs => .inr ⟨hlt, rfl, hs⟩)
  refine a_ret ?_ hs'; clear hs'
  have hlen : (xs.take i).length = i := by simp; omega
  obtain ⟨ad, c, rfl, hc1, hc2, hc3⟩ := id hu
  refine ww ?_
  refine c_loop (α := Nat) (fun x => [(5, I64 (num ((xs.take i).take x))), (10, .slice ad (xs.take i).length c), (11, I64 ((xs.take i).length : Int)), (12, I64 x)]) (fun _ => G) (fun x => EyO ep v' bad :: F) (fun x => x ≤ (xs.take i).length) (fun x => (xs.take i).length - x) 0 (Nat.zero_le _) ?_ ?_
  · exact n_at ⟨rfl, rfl, rfl, rfl, trivial⟩ sbx
  rintro j hj
  generalize hys : xs.take i = ys at *
  refine ww ?_
  refine c_cond_d rfl (fun c1 => ?_) (fun c1 => ?_)
  · have hj' : j < ys.length := by omega
    rcases hc3 with ⟨h0, _⟩ | ⟨b, o, rfl, hcel⟩
    · simp only [List.map_eq_nil_iff] at h0; subst h0; simp at hj'
    have hcj : ∀ (H : Hp), Cel G H b (o + j) (B8 ys[j]) := fun H => (hcel j _ (by simp [hj'])).mono (Im.le_refl _) (by simp)
    have hsn : ys.take (j + 1) = ys.take j ++ [ys[j]] := by rw [List.take_succ_eq_append_getElem hj']
    generalize hgc : ys[j] = cj at hcj hsn
    have hlt := num_le (ys.take j) (by simp; omega)
    have hlt2 : num (ys.take j) < 281474976710656 := by
      have h1 := num_lt (ys.take j)
      have h2 : 256 ^ (ys.take j).length ≤ 256 ^ 6 := Nat.pow_le_pow_right (by decide) (by simp; omega)
      have h3 : (256 : Nat) ^ 6 = 281474976710656 := by decide
      omega
    have hcb := cj.toNat_lt
    refine ww ?_
    refine c_cons (s_val (v_index1 rfl rfl (by kernel_rfl) (by omega)) rfl rfl rfl ?_)
    refine c_cons (s_val (v_load rfl (by rw [show ((j : Int)).toNat = j by omega]; exact hcj _) (by kernel_rfl)) rfl rfl rfl ?_)
    refine ww ?_
    refine c_cons (s_val (v_shl rfl rfl (by omega) (by have h : (2 : Int) ^ (8 : Int).toNat = 256 := (by decide); rw [h]; omega)) rfl rfl rfl ?_)
    refine ww ?_
    refine c_cons (s_val (v_or256 (num (ys.take j)) cj.toNat rfl rfl (by rfl) rfl (by omega) (by omega)) rfl rfl rfl ?_)
    refine ww ?_
    exact n_next (x := j) (j + 1) (by omega) (by omega) ⟨by rw [hsn, num_snoc]; rfl, rfl, rfl, by rw [show (((j + 1 : Nat)) : Int) = (j : Int) + 1 by omega]; rfl, trivial⟩ rfl sbx
  have hje : j = ys.length := by omega
  subst hje
  refine ww ?_
  exact f_ret1 rfl rfl (fun w hs => .inl ⟨hle, _, by rw [List.take_length], hv', hs⟩)

-- pinstripe/wire.NewEye
theorem newEye_c (vb : Value) (xs : List UInt8) (hlen : xs.length ≤ 1000000) (w0 w : World) (G : Im) (F : Hp) (hv : EB G vb xs) (hs : Sat w0 w G F) :
    Calls Try.prog 57 #[vb] w fun e w' => ∃ G' ep v, e = .returned (Pt ep 0) ∧ Im.le G G' ∧ EB G' v xs ∧ Sat w0 w' G' (EyO ep v 0 :: F) := by
  refine f_enter (vs := [_]) Try.func57 rfl Try.ntmps57 (by simp) hs ?_
  refine ww ?_
  refine c_cons (s_call (xs := [_]) rfl rfl rfl rfl rfl rfl (by kernel_rfl) (fun w hs => clone_c _ xs _ w _ _ hv hlen hs) ?_)
  rintro e w' ⟨G1, u1, rfl, hG1, hu1, hs'⟩; refine a_ret ?_ hs'; clear hs'
  obtain ⟨ad, c, rfl, hc1, hc2, hc3⟩ := id hu1
  refine c_cons (s_val (v_build (ps := [_, _]) #[.bool true, .slice ad xs.length c, I64 0] rfl (by kernel_rfl)) rfl rfl rfl ?_)
  refine c_cons (s_boxA [_, _, _] rfl rfl rfl fun b1 => ?_)
  refine ww ?_
  exact f_ret1 rfl rfl (fun w hs => ⟨G1, _, _, rfl, hG1, hu1, hs⟩)

end Go.Proofs.Ytkjneelekfdpfaa
