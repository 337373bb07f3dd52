/- The walks of package journal: size, start, sectors, must, sector, laid, read. -/
import Derived.Test.YtkjneelekfdpfaaJrD
import Derived.Test.YtkjneelekfdpfaaDskL0
import Derived.Test.YtkjneelekfdpfaaWPen
import Derived.Test.YtkjneelekfdpfaaRowT
import Derived.Test.YtkjneelekfdpfaaStr
import Derived.Test.YtkjneelekfdpfaaEye3
import Derived.Test.YtkjneelekfdpfaaPan
namespace Go.Proofs.Ytkjneelekfdpfaa
open Go
set_option linter.unusedVariables false
set_option linter.unusedSimpArgs false
set_option maxHeartbeats 1600000
/-- It gives up. -/
def jgone (c : Int) : List PanicEntry := [{ v := .iface 72 (.agg #[I64 c]), recovered := false }]
theorem eNum_ok {xs : List UInt8} {k : Nat} (hk : 1 ≤ k ∧ k ≤ 7) (hl : k ≤ xs.length) (i : Int) (hi : i = (k : Int)) : eNum xs 0 i = (((num (xs.take k) : Nat) : Int), xs.drop k, 0) := by
  subst hi
  unfold eNum rNum
  rw [if_neg (by decide), if_neg (by omega), Int.toNat_natCast, if_neg (by omega)]
attribute [local irreducible] Code.wp wpList stepK Holds Val wpR Eff Eff0 Code.wpIn wpListIn stepI Exit.then Exit.inBlock bodyPost bodyPostM

theorem jmust_t (c : Int) (w0 w : World) (G : Im) (F : Hp) (hs : Sat w0 w G F) :
    Calls Try.prog 38 #[.bool true, I64 c] w fun e w' => e = .returned (.tuple #[]) ∧ Sat w0 w' G F := by
  refine f_enter (vs := [_, _]) Try.func38 rfl Try.ntmps38 (by simp) hs ?_
  refine ww ?_
  refine c_cond_f rfl ?_
  refine ww ?_
  exact f_end0 rfl (fun w hs => ⟨rfl, hs⟩)

theorem jmust_f (c : Int) (w0 w : World) (G : Im) (F : Hp) (hs : Sat w0 w G F) :
    Calls Try.prog 38 #[.bool false, I64 c] w fun e w' => e = .panicked (jgone c) ∧ Sat w0 w' G F := by
  refine f_enter (vs := [_, _]) Try.func38 rfl Try.ntmps38 (by simp) hs ?_
  refine ww ?_
  refine c_cond_t rfl ?_
  refine ww ?_
  refine c_cons (s_val (v_build (ps := [_]) #[I64 c] rfl (by kernel_rfl)) rfl rfl rfl ?_)
  refine c_cons (s_val (v_iface rfl (by kernel_rfl)) rfl rfl rfl ?_)
  refine c_cons (s_panic rfl rfl ?_)
  exact f_panic (fun w hs => ⟨rfl, hs⟩)

theorem jsize_c (dp : Nat) (B : Hp) (D : Dk) (hr : DH dp D B) (hl : 2 ≤ D.now.length ∧ D.now.length ≤ 4160) (w0 w : World) (G : Im) (F : Hp) (hs : Sat w0 w G (B ++ F)) :
    Calls Try.prog 46 #[Pt dp 0] w fun e w' => e = .returned (I64 (jz D.now.length)) ∧ Sat w0 w' G (B ++ F) := by
  refine f_enter (vs := [_]) Try.func46 rfl Try.ntmps46 (by simp) hs ?_
  refine ww ?_
  refine c_cons (s_call (xs := [_]) rfl rfl rfl rfl rfl rfl (by kernel_rfl) (fun w hs => sectorsH_c dp B D hr _ w _ _ hs) ?_)
  rintro e w' ⟨rfl, hs'⟩; refine a_ret ?_ hs'; clear hs'
  refine ww ?_
  refine c_cons (s_val (v_quo rfl rfl (by omega) (by omega)) rfl rfl rfl ?_)
  rw [show ((D.now.length : Int) - 2) / 2 = ((jz D.now.length : Nat) : Int) by unfold jz; omega]
  refine ww ?_
  exact f_ret1 rfl rfl (fun w hs => ⟨rfl, hs⟩)

theorem jstart_c (dp : Nat) (B : Hp) (D : Dk) (hr : DH dp D B) (hl : 2 ≤ D.now.length ∧ D.now.length ≤ 4160) (h : Nat) (hh : h ≤ 1) (w0 w : World) (G : Im) (F : Hp) (hs : Sat w0 w G (B ++ F)) :
    Calls Try.prog 60 #[Pt dp 0, I64 (h : Int)] w fun e w' => e = .returned (I64 ((2 + h * jz D.now.length : Nat) : Int)) ∧ Sat w0 w' G (B ++ F) := by
  refine f_enter (vs := [_, _]) Try.func60 rfl Try.ntmps60 (by simp) hs ?_
  have hj : jz D.now.length ≤ 2079 := by unfold jz; omega
  have hm : ((h * jz D.now.length : Nat) : Int) = (h : Int) * (jz D.now.length : Int) := Int.natCast_mul _ _
  have hm2 : h * jz D.now.length ≤ 2079 := by
    rcases (show h = 0 ∨ h = 1 by omega) with e | e <;> rw [e] <;> omega
  refine ww ?_
  refine c_cons (s_call (xs := [_]) rfl rfl rfl rfl rfl rfl (by kernel_rfl) (fun w hs => jsize_c dp B D hr hl _ w _ _ hs) ?_)
  rintro e w' ⟨rfl, hs'⟩; refine a_ret ?_ hs'; clear hs'
  generalize jz D.now.length = z at hj hm hm2 ⊢
  refine c_cons (s_val (v_mul rfl rfl (by omega)) rfl rfl rfl ?_)
  rw [← hm]
  refine ww ?_
  rw [show (2 : Int) + ((h * z : Nat) : Int) = ((2 + h * z : Nat) : Int) by omega]
  exact f_ret1 rfl rfl (fun w hs => ⟨rfl, hs⟩)

theorem jsectors_c (n : Nat) (hn : n ≤ 100000000) (w0 w : World) (G : Im) (F : Hp) (hs : Sat w0 w G F) :
    Calls Try.prog 61 #[I64 (n : Int)] w fun e w' => e = .returned (I64 (jk n)) ∧ Sat w0 w' G F := by
  refine f_enter (vs := [_]) Try.func61 rfl Try.ntmps61 (by simp) hs ?_
  refine ww ?_
  refine c_cons (s_val (v_quo rfl rfl (by omega) (by omega)) rfl rfl rfl ?_)
  refine ww ?_
  exact f_ret1 rfl rfl (fun w hs => ⟨by congr 2; unfold jk; omega, hs⟩)

theorem jsec_c (vb : Value) (b : List UInt8) (hb : b.length ≤ 64) (w0 w : World) (G : Im) (F : Hp) (hv : SV G [] vb b.length (b.map B8)) (hs : Sat w0 w G F) :
    Calls Try.prog 41 #[vb] w fun e w' => ∃ G' u, e = .returned u ∧ Im.le G G' ∧ SV G' [] u (pad64 b).length ((pad64 b).map B8) ∧ Sat w0 w' G' F := by
  obtain ⟨ad, cp, rfl⟩ := hv.form
  refine f_enter (vs := [_]) Try.func41 rfl Try.ntmps41 (by simp) hs ?_
  refine ww ?_
  refine c_cons (s_make 5 (B8 0) 1 1 64 rfl rfl rfl rfl (by kernel_rfl) (by omega) (by omega) fun b1 => ?_)
  rw [show (madeCells (B8 0).cells (64 * 1)).toList = (List.replicate 64 (0 : UInt8)).map B8 from (toList_madeCells_one _ _).trans (by rw [List.map_replicate])]
  refine ww ?_
  refine c_cons (s_copy (e := 5) (z := B8 0) (sz := 1) (bs := 1) (by kernel_rfl) rfl rfl rfl rfl .head (hv.mono (Im.le_refl _) (by simp)) (by omega) (by simp) (by simp; try omega) (B8_one b) ?_)
  have e : List.take 0 ((List.replicate 64 (0 : UInt8)).map B8) ++ b.map B8 ++ List.drop (0 + (b.map B8).length) ((List.replicate 64 (0 : UInt8)).map B8) = (pad64 b).map B8 := by
    unfold pad64
    rw [List.take_of_length_le hb, List.take_zero, List.nil_append, Nat.zero_add, List.length_map, ← List.map_drop, List.drop_replicate, ← List.map_append]
  rw [e]
  have hl := pad64_len b
  generalize pad64 b = x at hl ⊢
  refine c_freeze .head fun G2 hG2 k2 => ?_
  refine ww ?_
  exact f_ret1 rfl rfl (fun w hs => ⟨G2, _, rfl, hG2, by rw [hl]; exact SV.block (.of_imm k2) (by unfold maxLen; omega), hs⟩)

theorem jlaid_c (h : Jh) (hg : gdJ h) (w0 w : World) (G : Im) (F : Hp) (hs : Sat w0 w G F) :
    Calls Try.prog 42 #[.agg #[I64 h.g, I64 h.h, I64 h.e]] w fun e w' => ∃ G' u, e = .returned u ∧ Im.le G G' ∧ SV G' [] u (pad64 (hdB h)).length ((pad64 (hdB h)).map B8) ∧ Sat w0 w' G' F := by
  obtain ⟨hg1, hg2, hg3⟩ := hg
  refine f_enter (vs := [_]) Try.func42 rfl Try.ntmps42 (by simp) hs ?_
  refine ww ?_
  refine c_cons (s_boxA [I64 h.g, I64 h.h, I64 h.e] rfl rfl rfl fun b1 => ?_)
  refine c_freeze .head fun G1 hG1 k1 => ?_
  refine ww ?_
  refine c_cons (s_val (v_build (ps := []) #[.slice none 0 0, I64 0] rfl (by kernel_rfl)) rfl rfl rfl ?_)
  refine c_cons (s_boxA [.slice none 0 0, I64 0] rfl rfl rfl fun b2 => ?_)
  change Holds _ _ _ _ _ (WP b2 (.slice none 0 0) :: ([] ++ F)) _
  refine ww ?_
  refine c_cons (s_call (xs := [_, _, _]) rfl rfl rfl rfl rfl rfl (by kernel_rfl) (fun w hs => wnum_c b2 _ [] [] 1 1 (by omega) (by omega) (by simp) _ w _ _ (Own.zero none _ _) hs) ?_)
  rintro e w' ⟨v1, B1, rfl, hown1, hs'⟩; refine a_ret ?_ hs'; clear hs'
  refine ww ?_
  refine c_cons (s_val (v_field 0 rfl (by kernel_rfl)) rfl rfl rfl ?_)
  refine c_cons (s_val (v_load rfl (Cel.imm k1 rfl) (by kernel_rfl)) rfl rfl rfl ?_)
  refine c_cons (s_call (xs := [_, _, _]) rfl rfl rfl rfl rfl rfl (by kernel_rfl) (fun w hs => wnum_c b2 _ _ B1 h.g 5 (by omega) (by omega) (by simp [be_len]) _ w _ _ hown1 hs) ?_)
  rintro e w' ⟨v2, B2, rfl, hown2, hs'⟩; refine a_ret ?_ hs'; clear hs'
  refine ww ?_
  refine c_cons (s_val (v_field 1 rfl (by kernel_rfl)) rfl rfl rfl ?_)
  refine c_cons (s_val (v_load rfl (Cel.imm k1 rfl) (by kernel_rfl)) rfl rfl rfl ?_)
  refine c_cons (s_call (xs := [_, _, _]) rfl rfl rfl rfl rfl rfl (by kernel_rfl) (fun w hs => wnum_c b2 _ _ B2 h.h 1 (by omega) (by omega) (by simp [be_len]) _ w _ _ hown2 hs) ?_)
  rintro e w' ⟨v3, B3, rfl, hown3, hs'⟩; refine a_ret ?_ hs'; clear hs'
  refine ww ?_
  refine c_cons (s_val (v_field 2 rfl (by kernel_rfl)) rfl rfl rfl ?_)
  refine c_cons (s_val (v_load rfl (Cel.imm k1 rfl) (by kernel_rfl)) rfl rfl rfl ?_)
  refine c_cons (s_call (xs := [_, _, _]) rfl rfl rfl rfl rfl rfl (by kernel_rfl) (fun w hs => wnum_c b2 _ _ B3 h.e 3 (by omega) (by omega) (by simp [be_len]) _ w _ _ hown3 hs) ?_)
  rintro e w' ⟨v4, B4, rfl, hown4, hs'⟩; refine a_ret ?_ hs'; clear hs'
  have e4 : [] ++ be 1 1 ++ be h.g 5 ++ be h.h 1 ++ be h.e 3 = hdB h := by rw [List.nil_append]; rfl
  rw [e4] at hown4
  have hl10 := hdB_len h
  generalize hdB h = hd at hown4 hl10 ⊢
  refine c_freezeO hown4 (Chunk.tail Chunk.head) fun G6 hG6 hsv6 => ?_
  refine ww ?_
  refine c_cons (s_call (xs := [_]) rfl rfl rfl rfl rfl rfl (by kernel_rfl) (fun w hs => wbytesO_c b2 v4 hd (by omega) _ w _ _ hsv6 hs) ?_)
  rintro e w' ⟨u7, B7, rfl, hu7, hs'⟩; refine a_ret ?_ hs'; clear hs'
  refine c_freezeO hu7 Chunk.head fun G8 hG8 hsv8 => ?_
  refine ww ?_
  refine c_cons (s_call (xs := [_]) rfl rfl rfl rfl rfl rfl (by kernel_rfl) (fun w hs => jsec_c _ hd (by omega) _ w _ _ hsv8 hs) ?_)
  rintro e w' ⟨G9, u9, rfl, hG9, hu9, hs'⟩; refine a_ret ?_ hs'; clear hs'
  refine ww ?_
  exact f_ret1 rfl rfl (fun w hs => ⟨G9, u9, rfl, hG1.trans (hG6.trans (hG8.trans hG9)), hu9, hs.tl⟩)

theorem equal_c (va vb : Value) (xs ys : List UInt8) (w0 w : World) (G : Im) (F : Hp) (ha : SV G F va xs.length (xs.map B8)) (hb : SV G F vb ys.length (ys.map B8)) (hs : Sat w0 w G F) :
    Calls Try.prog 59 #[va, vb] w fun e w' => e = .returned (.bool (decide (xs = ys))) ∧ Sat w0 w' G F := by
  refine f_enter (vs := [_, _]) Try.func59 rfl Try.ntmps59 (by simp) hs ?_
  refine ww ?_
  refine c_cons (s_val (v_bstr 5 rfl ha (by kernel_rfl) (by kernel_rfl)) rfl rfl rfl ?_)
  refine ww ?_
  refine c_cons (s_val (v_bstr 5 rfl hb (by kernel_rfl) (by kernel_rfl)) rfl rfl rfl ?_)
  refine c_cons (s_val (v_streql rfl rfl) rfl rfl rfl ?_)
  refine ww ?_
  exact f_ret1 rfl rfl (fun w hs => ⟨rfl, hs⟩)

abbrev JhO (b : Nat) (h : Jh) : Nat × Obj := (b, Cs [I64 h.g, I64 h.h, I64 h.e] 75)
theorem jread_c (dp : Nat) (B : Hp) (D : Dk) (hr : DH dp D B) (hl : 6 ≤ D.now.length ∧ D.now.length ≤ 4160) (n : Nat) (hn : n < D.now.length) (b : List UInt8) (hb : D.now.getD n [] = b) (hb64 : b.length = 64) (w0 w : World) (G : Im) (F : Hp) (hs : Sat w0 w G (B ++ F)) :
    Calls Try.prog 37 #[Pt dp 0, I64 (n : Int)] w fun e w' => ∃ G', Im.le G G' ∧ Sat w0 w' G' (B ++ F) ∧ ((D.dead = true ∧ e = .panicked (jgone 14)) ∨ (D.dead = false ∧ e = .returned (.tuple #[.agg #[I64 (hdJ b).g, I64 (hdJ b).h, I64 (hdJ b).e], .bool (decide (hdOk D.now.length b))]))) := by
  refine f_enter (vs := [_, _]) Try.func37 rfl Try.ntmps37 (by simp) hs ?_
  refine ww ?_
  refine c_cons (s_allocA [I64 0, I64 0, I64 0] (by kernel_rfl) rfl rfl fun b1 => ?_)
  refine c_sub (B ++ ((b1, Cs [I64 0, I64 0, I64 0] 75) :: F)) sbx ?_
  refine ww ?_
  have hrd : readS D (n : Int) = if D.dead then (none, 14) else (some b, 0) := by
    unfold readS
    by_cases hd : D.dead = true
    · rw [if_pos hd, if_pos hd]
    · rw [if_neg hd, if_neg hd, if_pos (show hasS D n from ⟨by omega, by omega⟩), Int.toNat_natCast, hb]
  refine c_cons (s_call (xs := [_, _]) rfl rfl rfl rfl rfl rfl (by kernel_rfl) (fun w hs => readH_c dp B D hr n _ w _ _ hs) ?_)
  rw [hrd]
  rintro e w' ⟨G1, u1, rfl, hG1, hu1, hs'⟩; refine a_ret ?_ hs'; clear hs'
  by_cases hd : D.dead = true
  · rw [if_pos hd] at hu1 ⊢
    dsimp only
    refine ww ?_
    rw [decide_eq_false (by decide : ¬ (14 : Int) = 0)]
    refine c_cons (s_call (xs := [_, _]) rfl rfl rfl rfl rfl rfl (by kernel_rfl) (fun w hs => jmust_f 14 _ w _ _ hs) ?_)
    rintro e w' ⟨rfl, hs'⟩
    refine a_panic ?_ hs'; clear hs'
    repeat (first | refine x_then_panic ?_ | refine x_block_panic ?_)
    exact f_panic (fun w hs => ⟨G1, hG1, hs.sb, .inl ⟨hd, rfl⟩⟩)
  have hd' : D.dead = false := by simpa using hd
  rw [if_neg hd] at hu1 ⊢
  dsimp only at hu1 ⊢
  change SV G1 [] u1 b.length (b.map B8) at hu1
  refine ww ?_
  rw [decide_eq_true (by decide : (0 : Int) = 0)]
  refine c_cons (s_call (xs := [_, _]) rfl rfl rfl rfl rfl rfl (by kernel_rfl) (fun w hs => jmust_t 0 _ w _ _ hs) ?_)
  rintro e w' ⟨rfl, hs'⟩; refine a_ret ?_ hs'; clear hs'
  refine ww ?_
  refine c_cons (s_call (xs := [_]) rfl rfl rfl rfl rfl rfl (by kernel_rfl) (fun w hs => newEye_c _ b (by omega) _ w _ _ hu1 hs) ?_)
  rintro e w' ⟨G3, ep, v3, rfl, hG3, hv3, hs'⟩; refine a_ret ?_ hs'; clear hs'
  replace hu1 := hu1.mono (H' := []) hG3 (fun p hp => hp)
  refine ww ?_
  refine c_cons (s_call (xs := [_, _]) rfl rfl rfl rfl rfl rfl (by kernel_rfl) (fun w hs => enum_c ep _ 0 b 1 _ w _ _ hv3 hs) ?_)
  rw [eNum_ok (k := 1) (by omega) (by omega) 1 rfl]
  rintro e w' ⟨v4, rfl, hv4, hs'⟩; refine a_ret ?_ hs'; clear hs'
  dsimp only at hv4 ⊢
  refine ww ?_
  refine c_cons (s_allocA [I64 0, I64 0, I64 0] (by kernel_rfl) rfl rfl fun b2 => ?_)
  refine c_sub (EyO ep v4 0 :: (b2, Cs [I64 0, I64 0, I64 0] 75) :: (B ++ ((b1, Cs [I64 0, I64 0, I64 0] 75) :: F))) sbx ?_
  refine ww ?_
  refine c_cons (s_call (xs := [_, _]) rfl rfl rfl rfl rfl rfl (by kernel_rfl) (fun w hs => enum_c ep _ 0 _ 5 _ w _ _ hv4 hs) ?_)
  rw [eNum_ok (k := 5) (by omega) (by rw [List.length_drop]; omega) 5 rfl]
  rintro e w' ⟨v5, rfl, hv5, hs'⟩; refine a_ret ?_ hs'; clear hs'
  dsimp only at hv5 ⊢
  rw [List.drop_drop] at hv5
  refine c_cons (s_val (v_field 0 rfl (by kernel_rfl)) rfl rfl rfl ?_)
  refine c_cons (s_store1 rfl rfl rfl (.tail .head) (by kernel_rfl) rfl (by simp) ?_)
  change Holds _ _ _ _ _ ((b2, Cs [I64 (num ((b.drop 1).take 5) : Nat), I64 0, I64 0] 75) :: _) _
  refine c_sub (EyO ep v5 0 :: (b2, Cs [I64 (num ((b.drop 1).take 5) : Nat), I64 0, I64 0] 75) :: (B ++ ((b1, Cs [I64 0, I64 0, I64 0] 75) :: F))) sbx ?_
  refine ww ?_
  refine c_cons (s_call (xs := [_, _]) rfl rfl rfl rfl rfl rfl (by kernel_rfl) (fun w hs => enum_c ep _ 0 _ 1 _ w _ _ hv5 hs) ?_)
  rw [eNum_ok (k := 1) (by omega) (by rw [List.length_drop]; omega) 1 rfl]
  rintro e w' ⟨v6, rfl, hv6, hs'⟩; refine a_ret ?_ hs'; clear hs'
  dsimp only at hv6 ⊢
  rw [List.drop_drop] at hv6
  refine c_cons (s_val (v_field 1 rfl (by kernel_rfl)) rfl rfl rfl ?_)
  refine c_cons (s_store1 rfl rfl rfl (.tail .head) (by kernel_rfl) rfl (by simp) ?_)
  change Holds _ _ _ _ _ ((b2, Cs [I64 (num ((b.drop 1).take 5) : Nat), I64 (num ((b.drop 6).take 1) : Nat), I64 0] 75) :: _) _
  refine c_sub (EyO ep v6 0 :: (b2, Cs [I64 (num ((b.drop 1).take 5) : Nat), I64 (num ((b.drop 6).take 1) : Nat), I64 0] 75) :: (B ++ ((b1, Cs [I64 0, I64 0, I64 0] 75) :: F))) sbx ?_
  refine ww ?_
  refine c_cons (s_call (xs := [_, _]) rfl rfl rfl rfl rfl rfl (by kernel_rfl) (fun w hs => enum_c ep _ 0 _ 3 _ w _ _ hv6 hs) ?_)
  rw [eNum_ok (k := 3) (by omega) (by rw [List.length_drop]; omega) 3 rfl]
  rintro e w' ⟨v7, rfl, hv7, hs'⟩; refine a_ret ?_ hs'; clear hs'
  dsimp only at hv7 ⊢
  refine c_cons (s_val (v_field 2 rfl (by kernel_rfl)) rfl rfl rfl ?_)
  refine c_cons (s_store1 rfl rfl rfl (.tail .head) (by kernel_rfl) rfl (by simp) ?_)
  have hgd := hdJ_gd b
  have hlaid := fun h1 => laid_iff (b := b) hb64 h1
  have hokd : hdOk D.now.length b ↔ num (b.take 1) = 1 ∧ 1 ≤ (hdJ b).g ∧ (hdJ b).h ≤ 1 ∧ (hdJ b).e ≤ jz D.now.length ∧ ∀ c ∈ b.drop 10, c = 0 := Iff.rfl
  obtain ⟨h, hh⟩ : ∃ h, h = hdJ b := ⟨_, rfl⟩
  change Holds _ _ _ _ _ ((b2, Cs [I64 (hdJ b).g, I64 (hdJ b).h, I64 (hdJ b).e] 75) :: _) _
  rw [← hh] at hgd hlaid hokd ⊢
  refine c_freeze .head fun G8 hG8 k8 => ?_
  replace hu1 := hu1.mono (H' := []) hG8 (fun p hp => hp)
  have hGa := hG1.trans (hG3.trans hG8)
  refine c_sub (B ++ ((b1, Cs [I64 0, I64 0, I64 0] 75) :: F)) sbx ?_
  obtain ⟨hu0, hu⟩ : ∃ x, x = num (b.take 1) := ⟨_, rfl⟩
  rw [← hu] at hokd hlaid ⊢
  refine wn ?_
  refine c_cut (α := Im) (fun x => [(4, Pt b1 0), (10, Pt b2 0), (11, .bool (decide (hdOk D.now.length b)))]) (fun x => x) (fun x => B ++ ((b1, Cs [I64 0, I64 0, I64 0] 75) :: F)) (fun x => Im.le G8 x) ?_ ?_
  · have no : ¬ hdOk D.now.length b → Value.bool (decide (hdOk D.now.length b)) = .bool false := fun h => by rw [decide_eq_false h]
    refine ww ?_
    refine r_startS [] [] (by kernel_rfl) (fun w h => h.none) ?_
    refine r_tk 0 rfl rfl (v_move rfl) (fun _ h => h.none) ?_
    refine r_tk 1 rfl rfl (v_eql rfl rfl) (fun _ h => h.none) ?_
    refine r_tk 2 rfl rfl (v_move rfl) (fun _ h => h.none) ?_
    refine c_part_d 37 _ rfl (fun c1 => ?_) (fun c1 => ?_)
    rotate_left
    · rw [no (fun m => c1 (by have := (hokd.1 m).1; omega))]
      refine r_skip 3 rfl (by kernel_rfl) (by kernel_rfl) (by kernel_rfl) (by kernel_rfl) rfl rfl rfl (fun _ h => h.none) (by repeat (first | exact pk_body | exact pk_no | exact pk_S | apply pk_then | apply pk_block)) ?_; refine r_skip 4 rfl (by kernel_rfl) (by kernel_rfl) (by kernel_rfl) (by kernel_rfl) rfl rfl rfl (fun _ h => h.none) (by repeat (first | exact pk_body | exact pk_no | exact pk_S | apply pk_then | apply pk_block)) ?_; refine r_skip 5 rfl (by kernel_rfl) (by kernel_rfl) (by kernel_rfl) (by kernel_rfl) rfl rfl rfl (fun _ h => h.none) (by repeat (first | exact pk_body | exact pk_no | exact pk_S | apply pk_then | apply pk_block)) ?_
      refine r_tk 6 rfl rfl (v_pick_f rfl rfl) (fun _ h => h.none) ?_
      refine r_tk 7 rfl rfl (v_move rfl) (fun _ h => h.none) ?_
      refine r_skip 8 rfl (by kernel_rfl) (by kernel_rfl) (by kernel_rfl) (by kernel_rfl) rfl rfl rfl (fun _ h => h.none) (by repeat (first | exact pk_body | exact pk_no | exact pk_S | apply pk_then | apply pk_block)) ?_; refine r_skip 9 rfl (by kernel_rfl) (by kernel_rfl) (by kernel_rfl) (by kernel_rfl) rfl rfl rfl (fun _ h => h.none) (by repeat (first | exact pk_body | exact pk_no | exact pk_S | apply pk_then | apply pk_block)) ?_; refine r_skip 10 rfl (by kernel_rfl) (by kernel_rfl) (by kernel_rfl) (by kernel_rfl) rfl rfl rfl (fun _ h => h.none) (by repeat (first | exact pk_body | exact pk_no | exact pk_S | apply pk_then | apply pk_block)) ?_
      refine r_tk 11 rfl rfl (v_pick_f rfl rfl) (fun _ h => h.none) ?_
      refine r_tk 12 rfl rfl (v_move rfl) (fun _ h => h.none) ?_
      refine r_skip 13 rfl (by kernel_rfl) (by kernel_rfl) (by kernel_rfl) (by kernel_rfl) rfl rfl rfl (fun _ h => h.none) (by repeat (first | exact pk_body | exact pk_no | exact pk_S | apply pk_then | apply pk_block)) ?_; refine r_skip 14 rfl (by kernel_rfl) (by kernel_rfl) (by kernel_rfl) (by kernel_rfl) rfl rfl rfl (fun _ h => h.none) (by repeat (first | exact pk_body | exact pk_no | exact pk_S | apply pk_then | apply pk_block)) ?_; refine r_skip 15 rfl (by kernel_rfl) (by kernel_rfl) (by kernel_rfl) (by kernel_rfl) rfl rfl rfl (fun _ h => h.none) (by repeat (first | exact pk_body | exact pk_no | exact pk_S | apply pk_then | apply pk_block)) ?_; refine r_skip 16 rfl (by kernel_rfl) (by kernel_rfl) (by kernel_rfl) (by kernel_rfl) rfl rfl rfl (fun _ h => h.none) (by repeat (first | exact pk_body | exact pk_no | exact pk_S | apply pk_then | apply pk_block)) ?_; refine r_skip 17 rfl (by kernel_rfl) (by kernel_rfl) (by kernel_rfl) (by kernel_rfl) rfl rfl rfl (fun _ h => h.none) (by repeat (first | exact pk_body | exact pk_no | exact pk_S | apply pk_then | apply pk_block)) ?_
      refine r_tk 18 rfl rfl (v_pick_f rfl rfl) (fun _ h => h.none) ?_
      refine r_tk 19 rfl rfl (v_move rfl) (fun _ h => h.none) ?_
      refine r_skip 20 rfl (by kernel_rfl) (by kernel_rfl) (by kernel_rfl) (by kernel_rfl) rfl rfl rfl (fun _ h => h.none) (by repeat (first | exact pk_body | exact pk_no | exact pk_S | apply pk_then | apply pk_block)) ?_; refine r_skip 21 rfl (by kernel_rfl) (by kernel_rfl) (by kernel_rfl) (by kernel_rfl) rfl rfl rfl (fun _ h => h.none) (by repeat (first | exact pk_body | exact pk_no | exact pk_S | apply pk_then | apply pk_block)) ?_; refine r_skip 22 rfl (by kernel_rfl) (by kernel_rfl) (by kernel_rfl) (by kernel_rfl) rfl rfl rfl (fun _ h => h.none) (by repeat (first | exact pk_body | exact pk_no | exact pk_S | apply pk_then | apply pk_block)) ?_; refine r_skip 23 rfl (by kernel_rfl) (by kernel_rfl) (by kernel_rfl) (by kernel_rfl) rfl rfl rfl (fun _ h => h.none) (by repeat (first | exact pk_body | exact pk_no | exact pk_S | apply pk_then | apply pk_block)) ?_
      refine r_tk 24 rfl rfl (v_pick_f rfl rfl) (fun _ h => h.none) ?_
      refine r_tk 25 rfl rfl (v_assign rfl) (fun _ h => h.none) ?_
      refine r_done (by kernel_rfl) ?_
      refine ww ?_
      exact n_mid G8 (Im.le_refl _) ⟨rfl, rfl, rfl, trivial⟩ rfl sbx
    refine r_tk 3 rfl rfl (v_field 0 rfl (by kernel_rfl)) (fun _ h => h.none) ?_
    refine r_tk 4 rfl rfl (v_load rfl (Cel.imm k8 rfl) (by kernel_rfl)) (fun _ h => h.none) ?_
    refine r_tk 5 rfl rfl (v_geq rfl rfl) (fun _ h => h.none) ?_
    refine r_tk 6 rfl rfl (v_pick_t rfl rfl) (fun _ h => h.none) ?_
    refine r_tk 7 rfl rfl (v_move rfl) (fun _ h => h.none) ?_
    refine c_part_d 42 _ rfl (fun c2 => ?_) (fun c2 => ?_)
    rotate_left
    · rw [no (fun m => c2 (by have := (hokd.1 m).2.1; omega))]
      refine r_skip 8 rfl (by kernel_rfl) (by kernel_rfl) (by kernel_rfl) (by kernel_rfl) rfl rfl rfl (fun _ h => h.none) (by repeat (first | exact pk_body | exact pk_no | exact pk_S | apply pk_then | apply pk_block)) ?_; refine r_skip 9 rfl (by kernel_rfl) (by kernel_rfl) (by kernel_rfl) (by kernel_rfl) rfl rfl rfl (fun _ h => h.none) (by repeat (first | exact pk_body | exact pk_no | exact pk_S | apply pk_then | apply pk_block)) ?_; refine r_skip 10 rfl (by kernel_rfl) (by kernel_rfl) (by kernel_rfl) (by kernel_rfl) rfl rfl rfl (fun _ h => h.none) (by repeat (first | exact pk_body | exact pk_no | exact pk_S | apply pk_then | apply pk_block)) ?_
      refine r_tk 11 rfl rfl (v_pick_f rfl rfl) (fun _ h => h.none) ?_
      refine r_tk 12 rfl rfl (v_move rfl) (fun _ h => h.none) ?_
      refine r_skip 13 rfl (by kernel_rfl) (by kernel_rfl) (by kernel_rfl) (by kernel_rfl) rfl rfl rfl (fun _ h => h.none) (by repeat (first | exact pk_body | exact pk_no | exact pk_S | apply pk_then | apply pk_block)) ?_; refine r_skip 14 rfl (by kernel_rfl) (by kernel_rfl) (by kernel_rfl) (by kernel_rfl) rfl rfl rfl (fun _ h => h.none) (by repeat (first | exact pk_body | exact pk_no | exact pk_S | apply pk_then | apply pk_block)) ?_; refine r_skip 15 rfl (by kernel_rfl) (by kernel_rfl) (by kernel_rfl) (by kernel_rfl) rfl rfl rfl (fun _ h => h.none) (by repeat (first | exact pk_body | exact pk_no | exact pk_S | apply pk_then | apply pk_block)) ?_; refine r_skip 16 rfl (by kernel_rfl) (by kernel_rfl) (by kernel_rfl) (by kernel_rfl) rfl rfl rfl (fun _ h => h.none) (by repeat (first | exact pk_body | exact pk_no | exact pk_S | apply pk_then | apply pk_block)) ?_; refine r_skip 17 rfl (by kernel_rfl) (by kernel_rfl) (by kernel_rfl) (by kernel_rfl) rfl rfl rfl (fun _ h => h.none) (by repeat (first | exact pk_body | exact pk_no | exact pk_S | apply pk_then | apply pk_block)) ?_
      refine r_tk 18 rfl rfl (v_pick_f rfl rfl) (fun _ h => h.none) ?_
      refine r_tk 19 rfl rfl (v_move rfl) (fun _ h => h.none) ?_
      refine r_skip 20 rfl (by kernel_rfl) (by kernel_rfl) (by kernel_rfl) (by kernel_rfl) rfl rfl rfl (fun _ h => h.none) (by repeat (first | exact pk_body | exact pk_no | exact pk_S | apply pk_then | apply pk_block)) ?_; refine r_skip 21 rfl (by kernel_rfl) (by kernel_rfl) (by kernel_rfl) (by kernel_rfl) rfl rfl rfl (fun _ h => h.none) (by repeat (first | exact pk_body | exact pk_no | exact pk_S | apply pk_then | apply pk_block)) ?_; refine r_skip 22 rfl (by kernel_rfl) (by kernel_rfl) (by kernel_rfl) (by kernel_rfl) rfl rfl rfl (fun _ h => h.none) (by repeat (first | exact pk_body | exact pk_no | exact pk_S | apply pk_then | apply pk_block)) ?_; refine r_skip 23 rfl (by kernel_rfl) (by kernel_rfl) (by kernel_rfl) (by kernel_rfl) rfl rfl rfl (fun _ h => h.none) (by repeat (first | exact pk_body | exact pk_no | exact pk_S | apply pk_then | apply pk_block)) ?_
      refine r_tk 24 rfl rfl (v_pick_f rfl rfl) (fun _ h => h.none) ?_
      refine r_tk 25 rfl rfl (v_assign rfl) (fun _ h => h.none) ?_
      refine r_done (by kernel_rfl) ?_
      refine ww ?_
      exact n_mid G8 (Im.le_refl _) ⟨rfl, rfl, rfl, trivial⟩ rfl sbx
    refine r_tk 8 rfl rfl (v_field 1 rfl (by kernel_rfl)) (fun _ h => h.none) ?_
    refine r_tk 9 rfl rfl (v_load rfl (Cel.imm k8 rfl) (by kernel_rfl)) (fun _ h => h.none) ?_
    refine r_tk 10 rfl rfl (v_leq rfl rfl) (fun _ h => h.none) ?_
    refine r_tk 11 rfl rfl (v_pick_t rfl rfl) (fun _ h => h.none) ?_
    refine r_tk 12 rfl rfl (v_move rfl) (fun _ h => h.none) ?_
    refine c_part_d 47 _ rfl (fun c3 => ?_) (fun c3 => ?_)
    rotate_left
    · rw [no (fun m => c3 (by have := (hokd.1 m).2.2.1; omega))]
      refine r_skip 13 rfl (by kernel_rfl) (by kernel_rfl) (by kernel_rfl) (by kernel_rfl) rfl rfl rfl (fun _ h => h.none) (by repeat (first | exact pk_body | exact pk_no | exact pk_S | apply pk_then | apply pk_block)) ?_; refine r_skip 14 rfl (by kernel_rfl) (by kernel_rfl) (by kernel_rfl) (by kernel_rfl) rfl rfl rfl (fun _ h => h.none) (by repeat (first | exact pk_body | exact pk_no | exact pk_S | apply pk_then | apply pk_block)) ?_; refine r_skip 15 rfl (by kernel_rfl) (by kernel_rfl) (by kernel_rfl) (by kernel_rfl) rfl rfl rfl (fun _ h => h.none) (by repeat (first | exact pk_body | exact pk_no | exact pk_S | apply pk_then | apply pk_block)) ?_; refine r_skip 16 rfl (by kernel_rfl) (by kernel_rfl) (by kernel_rfl) (by kernel_rfl) rfl rfl rfl (fun _ h => h.none) (by repeat (first | exact pk_body | exact pk_no | exact pk_S | apply pk_then | apply pk_block)) ?_; refine r_skip 17 rfl (by kernel_rfl) (by kernel_rfl) (by kernel_rfl) (by kernel_rfl) rfl rfl rfl (fun _ h => h.none) (by repeat (first | exact pk_body | exact pk_no | exact pk_S | apply pk_then | apply pk_block)) ?_
      refine r_tk 18 rfl rfl (v_pick_f rfl rfl) (fun _ h => h.none) ?_
      refine r_tk 19 rfl rfl (v_move rfl) (fun _ h => h.none) ?_
      refine r_skip 20 rfl (by kernel_rfl) (by kernel_rfl) (by kernel_rfl) (by kernel_rfl) rfl rfl rfl (fun _ h => h.none) (by repeat (first | exact pk_body | exact pk_no | exact pk_S | apply pk_then | apply pk_block)) ?_; refine r_skip 21 rfl (by kernel_rfl) (by kernel_rfl) (by kernel_rfl) (by kernel_rfl) rfl rfl rfl (fun _ h => h.none) (by repeat (first | exact pk_body | exact pk_no | exact pk_S | apply pk_then | apply pk_block)) ?_; refine r_skip 22 rfl (by kernel_rfl) (by kernel_rfl) (by kernel_rfl) (by kernel_rfl) rfl rfl rfl (fun _ h => h.none) (by repeat (first | exact pk_body | exact pk_no | exact pk_S | apply pk_then | apply pk_block)) ?_; refine r_skip 23 rfl (by kernel_rfl) (by kernel_rfl) (by kernel_rfl) (by kernel_rfl) rfl rfl rfl (fun _ h => h.none) (by repeat (first | exact pk_body | exact pk_no | exact pk_S | apply pk_then | apply pk_block)) ?_
      refine r_tk 24 rfl rfl (v_pick_f rfl rfl) (fun _ h => h.none) ?_
      refine r_tk 25 rfl rfl (v_assign rfl) (fun _ h => h.none) ?_
      refine r_done (by kernel_rfl) ?_
      refine ww ?_
      exact n_mid G8 (Im.le_refl _) ⟨rfl, rfl, rfl, trivial⟩ rfl sbx
    refine r_tk 13 rfl rfl (v_field 2 rfl (by kernel_rfl)) (fun _ h => h.none) ?_
    refine r_tk 14 rfl rfl (v_load rfl (Cel.imm k8 rfl) (by kernel_rfl)) (fun _ h => h.none) ?_
    refine r_tk 15 rfl rfl (v_move rfl) (fun _ h => h.none) ?_
    refine r_one 16 (by kernel_rfl) rfl ?_
    refine s_call (xs := [_]) rfl rfl rfl rfl rfl rfl (by kernel_rfl) (fun w hs => jsize_c dp B D hr (by omega) _ w _ _ hs) ?_
    rintro e w' ⟨rfl, hs'⟩; refine a_ret ?_ hs'; clear hs'
    refine r_next (fun w h => h.none) ?_
    refine r_tk 17 rfl rfl (v_leq rfl rfl) (fun _ h => h.none) ?_
    refine r_tk 18 rfl rfl (v_pick_t rfl rfl) (fun _ h => h.none) ?_
    refine r_tk 19 rfl rfl (v_move rfl) (fun _ h => h.none) ?_
    refine c_part_d 54 _ rfl (fun c4 => ?_) (fun c4 => ?_)
    rotate_left
    · rw [no (fun m => c4 (by have := (hokd.1 m).2.2.2.1; omega))]
      refine r_skip 20 rfl (by kernel_rfl) (by kernel_rfl) (by kernel_rfl) (by kernel_rfl) rfl rfl rfl (fun _ h => h.none) (by repeat (first | exact pk_body | exact pk_no | exact pk_S | apply pk_then | apply pk_block)) ?_; refine r_skip 21 rfl (by kernel_rfl) (by kernel_rfl) (by kernel_rfl) (by kernel_rfl) rfl rfl rfl (fun _ h => h.none) (by repeat (first | exact pk_body | exact pk_no | exact pk_S | apply pk_then | apply pk_block)) ?_; refine r_skip 22 rfl (by kernel_rfl) (by kernel_rfl) (by kernel_rfl) (by kernel_rfl) rfl rfl rfl (fun _ h => h.none) (by repeat (first | exact pk_body | exact pk_no | exact pk_S | apply pk_then | apply pk_block)) ?_; refine r_skip 23 rfl (by kernel_rfl) (by kernel_rfl) (by kernel_rfl) (by kernel_rfl) rfl rfl rfl (fun _ h => h.none) (by repeat (first | exact pk_body | exact pk_no | exact pk_S | apply pk_then | apply pk_block)) ?_
      refine r_tk 24 rfl rfl (v_pick_f rfl rfl) (fun _ h => h.none) ?_
      refine r_tk 25 rfl rfl (v_assign rfl) (fun _ h => h.none) ?_
      refine r_done (by kernel_rfl) ?_
      refine ww ?_
      exact n_mid G8 (Im.le_refl _) ⟨rfl, rfl, rfl, trivial⟩ rfl sbx
    have hfin : decide (hdOk D.now.length b) = decide (b = pad64 (hdB h)) := by
      have h1 : hu0 = 1 := by omega
      have hl := hlaid h1
      refine decide_eq_decide.2 ?_
      rw [hokd, hl]
      exact ⟨fun m => m.2.2.2.2, fun m => ⟨h1, by omega, by omega, by omega, m⟩⟩
    rw [hfin]
    refine r_tk 20 rfl rfl (v_move rfl) (fun _ h => h.none) ?_
    refine r_tk 21 rfl rfl (v_loadAgg (vs := [I64 h.g, I64 h.h, I64 h.e]) rfl (by kernel_rfl) (by kernel_rfl) rfl (fun j u hj => (Cel.allI k8 hj))) (fun _ h => h.none) ?_
    refine r_one 22 (by kernel_rfl) rfl ?_
    refine s_call (xs := [_]) rfl rfl rfl rfl rfl rfl (by kernel_rfl) (fun w hs => jlaid_c h hgd _ w _ _ hs) ?_
    rintro e w' ⟨G9, u9, rfl, hG9, hu9, hs'⟩; refine a_ret ?_ hs'; clear hs'
    refine r_next (fun w h => h.none.weaken hG9) ?_
    refine r_one 23 (by kernel_rfl) rfl ?_
    refine s_call (xs := [_, _]) rfl rfl rfl rfl rfl rfl (by kernel_rfl) (fun w hs => equal_c _ _ b (pad64 (hdB h)) _ w _ _ (hu1.mono hG9 (by simp)) (hu9.mono (Im.le_refl _) (by simp)) hs) ?_
    rintro e w' ⟨rfl, hs'⟩; refine a_ret ?_ hs'; clear hs'
    refine r_next (fun w h => h.none.weaken hG9) ?_
    refine r_tk 24 rfl rfl (v_pick_t rfl rfl) (fun _ h => h.none.weaken hG9) ?_
    refine r_tk 25 rfl rfl (v_assign rfl) (fun _ h => h.none.weaken hG9) ?_
    refine r_done (by kernel_rfl) ?_
    refine ww ?_
    exact n_mid G9 hG9 ⟨rfl, rfl, rfl, trivial⟩ rfl sbx
  rintro G9 hG9
  replace k8 := hG9 _ _ k8
  refine ww ?_
  refine c_cons (s_val (v_loadAgg (vs := [I64 h.g, I64 h.h, I64 h.e]) rfl (by kernel_rfl) (by kernel_rfl) rfl (fun j u hj => (Cel.allI k8 hj))) rfl rfl rfl ?_)
  refine c_sub ((b1, Cs [I64 0, I64 0, I64 0] 75) :: (B ++ F)) sbx ?_
  refine ww ?_
  refine c_cons (s_storeA (vs := [I64 h.g, I64 h.h, I64 h.e]) rfl rfl rfl .head (by kernel_rfl) (by simp [Value.oneCell']) rfl ?_)
  refine ww ?_
  exact f_retA1 (vs := [I64 h.g, I64 h.h, I64 h.e]) rfl rfl rfl (by kernel_rfl) (by kernel_rfl) rfl (fun j u hj => Cel.all hj) (fun w hs => ⟨G9, hGa.trans hG9, hs.tl, .inr ⟨hd', rfl⟩⟩)
end Go.Proofs.Ytkjneelekfdpfaa
