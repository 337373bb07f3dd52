/- The walks of package journal: size, start, sectors, must, sector, laid, read. The walks of package journal: record. Drawn regions in functions that defer; the walk of package journal's Open. -/
import Derived.Test.YtkjneelekfdpfaaJrD
import Derived.Test.YtkjneelekfdpfaaDskL0
import Derived.Test.YtkjneelekfdpfaaWPen
import Derived.Test.YtkjneelekfdpfaaRowT
import Derived.Test.YtkjneelekfdpfaaStr
import Derived.Test.YtkjneelekfdpfaaEye3
import Derived.Test.YtkjneelekfdpfaaPan
import Derived.Test.YtkjneelekfdpfaaDskW5
import Derived.Test.YtkjneelekfdpfaaEye2
namespace Go.Proofs.Ytkjneelekfdpfaa
section
open Go
set_option linter.unusedVariables false
set_option linter.unusedSimpArgs false
set_option maxHeartbeats 1600000
/-- It gives up. -/
def jgone (c : Int) : List PanicEntry := [{ v := .iface 72 (.agg #[I64 c]), recovered := false }]
theorem eNum_ok {xs : List UInt8} {k : Nat} (hk : 1 ≤ k ∧ k ≤ 7) (hl : k ≤ xs.length) (i : Int) (hi : i = (k : Int)) : eNum xs 0 i = (((num (xs.take k) : Nat) : Int), xs.drop k, 0) := by
  subst hi
  unfold eNum rNum
  rw [if_neg (by decide), if_neg (by omega), Int.toNat_natCast, if_neg (by omega)]
attribute [local irreducible] Code.wp wpList stepK Holds Val wpR Eff Eff0 Code.wpIn wpListIn stepI Exit.then Exit.inBlock bodyPost bodyPostM

theorem jmust_t (c : Int) (w0 w : World) (G : Im) (F : Hp) (hs : Sat w0 w G F) :
    Calls Try.prog 38 #[.bool true, I64 c] w fun e w' => e = .returned (.tuple #[]) ∧ Sat w0 w' G F := by
  refine f_enter (vs := [_, _]) Try.func38 rfl Try.ntmps38 (by simp) hs ?_
  refine ww ?_
  refine c_cond_f rfl ?_
  refine ww ?_
  exact f_end0 rfl (fun w hs => ⟨rfl, hs⟩)

theorem jmust_f (c : Int) (w0 w : World) (G : Im) (F : Hp) (hs : Sat w0 w G F) :
    Calls Try.prog 38 #[.bool false, I64 c] w fun e w' => e = .panicked (jgone c) ∧ Sat w0 w' G F := by
  refine f_enter (vs := [_, _]) Try.func38 rfl Try.ntmps38 (by simp) hs ?_
  refine ww ?_
  refine c_cond_t rfl ?_
  refine ww ?_
  refine c_cons (s_val (v_build (ps := [_]) #[I64 c] rfl (by kernel_rfl)) rfl rfl rfl ?_)
  refine c_cons (s_val (v_iface rfl (by kernel_rfl)) rfl rfl rfl ?_)
  refine c_cons (s_panic rfl rfl ?_)
  exact f_panic (fun w hs => ⟨rfl, hs⟩)

theorem jsize_c (dp : Nat) (B : Hp) (D : Dk) (hr : DH dp D B) (hl : 2 ≤ D.now.length ∧ D.now.length ≤ 4160) (w0 w : World) (G : Im) (F : Hp) (hs : Sat w0 w G (B ++ F)) :
    Calls Try.prog 46 #[Pt dp 0] w fun e w' => e = .returned (I64 (jz D.now.length)) ∧ Sat w0 w' G (B ++ F) := by
  refine f_enter (vs := [_]) Try.func46 rfl Try.ntmps46 (by simp) hs ?_
  refine ww ?_
  refine c_cons (s_call (xs := [_]) rfl rfl rfl rfl rfl rfl (by kernel_rfl) (fun w hs => sectorsH_c dp B D hr _ w _ _ hs) ?_)
  rintro e w' ⟨rfl, hs'⟩; refine a_ret ?_ hs'; clear hs'
  refine ww ?_
  refine c_cons (s_val (v_quo rfl rfl (by omega) (by omega)) rfl rfl rfl ?_)
  rw [show ((D.now.length : Int) - 2) / 2 = ((jz D.now.length : Nat) : Int) by unfold jz; omega]
  refine ww ?_
  exact f_ret1 rfl rfl (fun w hs => ⟨rfl, hs⟩)

theorem jstart_c (dp : Nat) (B : Hp) (D : Dk) (hr : DH dp D B) (hl : 2 ≤ D.now.length ∧ D.now.length ≤ 4160) (h : Nat) (hh : h ≤ 1) (w0 w : World) (G : Im) (F : Hp) (hs : Sat w0 w G (B ++ F)) :
    Calls Try.prog 60 #[Pt dp 0, I64 (h : Int)] w fun e w' => e = .returned (I64 ((2 + h * jz D.now.length : Nat) : Int)) ∧ Sat w0 w' G (B ++ F) := by
  refine f_enter (vs := [_, _]) Try.func60 rfl Try.ntmps60 (by simp) hs ?_
  have hj : jz D.now.length ≤ 2079 := by unfold jz; omega
  have hm : ((h * jz D.now.length : Nat) : Int) = (h : Int) * (jz D.now.length : Int) := Int.natCast_mul _ _
  have hm2 : h * jz D.now.length ≤ 2079 := by
    rcases (show h = 0 ∨ h = 1 by omega) with e | e <;> rw [e] <;> omega
  refine ww ?_
  refine c_cons (s_call (xs := [_]) rfl rfl rfl rfl rfl rfl (by kernel_rfl) (fun w hs => jsize_c dp B D hr hl _ w _ _ hs) ?_)
  rintro e w' ⟨rfl, hs'⟩; refine a_ret ?_ hs'; clear hs'
  generalize jz D.now.length = z at hj hm hm2 ⊢
  refine c_cons (s_val (v_mul rfl rfl (by omega)) rfl rfl rfl ?_)
  rw [← hm]
  refine ww ?_
  rw [show (2 : Int) + ((h * z : Nat) : Int) = ((2 + h * z : Nat) : Int) by omega]
  exact f_ret1 rfl rfl (fun w hs => ⟨rfl, hs⟩)

theorem jsectors_c (n : Nat) (hn : n ≤ 100000000) (w0 w : World) (G : Im) (F : Hp) (hs : Sat w0 w G F) :
    Calls Try.prog 61 #[I64 (n : Int)] w fun e w' => e = .returned (I64 (jk n)) ∧ Sat w0 w' G F := by
  refine f_enter (vs := [_]) Try.func61 rfl Try.ntmps61 (by simp) hs ?_
  refine ww ?_
  refine c_cons (s_val (v_quo rfl rfl (by omega) (by omega)) rfl rfl rfl ?_)
  refine ww ?_
  exact f_ret1 rfl rfl (fun w hs => ⟨by congr 2; unfold jk; omega, hs⟩)

theorem jsec_c (vb : Value) (b : List UInt8) (hb : b.length ≤ 64) (w0 w : World) (G : Im) (F : Hp) (hv : SV G [] vb b.length (b.map B8)) (hs : Sat w0 w G F) :
    Calls Try.prog 41 #[vb] w fun e w' => ∃ G' u, e = .returned u ∧ Im.le G G' ∧ SV G' [] u (pad64 b).length ((pad64 b).map B8) ∧ Sat w0 w' G' F := by
  obtain ⟨ad, cp, rfl⟩ := hv.form
  refine f_enter (vs := [_]) Try.func41 rfl Try.ntmps41 (by simp) hs ?_
  refine ww ?_
  refine c_cons (s_make 5 (B8 0) 1 1 64 rfl rfl rfl rfl (by kernel_rfl) (by omega) (by omega) fun b1 => ?_)
  rw [show (madeCells (B8 0).cells (64 * 1)).toList = (List.replicate 64 (0 : UInt8)).map B8 from (toList_madeCells_one _ _).trans (by rw [List.map_replicate])]
  refine ww ?_
  refine c_cons (s_copy (e := 5) (z := B8 0) (sz := 1) (bs := 1) (by kernel_rfl) rfl rfl rfl rfl .head (hv.mono (Im.le_refl _) (by simp)) (by omega) (by simp) (by simp; try omega) (B8_one b) ?_)
  have e : List.take 0 ((List.replicate 64 (0 : UInt8)).map B8) ++ b.map B8 ++ List.drop (0 + (b.map B8).length) ((List.replicate 64 (0 : UInt8)).map B8) = (pad64 b).map B8 := by
    unfold pad64
    rw [List.take_of_length_le hb, List.take_zero, List.nil_append, Nat.zero_add, List.length_map, ← List.map_drop, List.drop_replicate, ← List.map_append]
  rw [e]
  have hl := pad64_len b
  generalize pad64 b = x at hl ⊢
  refine c_freeze .head fun G2 hG2 k2 => ?_
  refine ww ?_
  exact f_ret1 rfl rfl (fun w hs => ⟨G2, _, rfl, hG2, by rw [hl]; exact SV.block (.of_imm k2) (by unfold maxLen; omega), hs⟩)

theorem jlaid_c (h : Jh) (hg : gdJ h) (w0 w : World) (G : Im) (F : Hp) (hs : Sat w0 w G F) :
    Calls Try.prog 42 #[.agg #[I64 h.g, I64 h.h, I64 h.e]] w fun e w' => ∃ G' u, e = .returned u ∧ Im.le G G' ∧ SV G' [] u (pad64 (hdB h)).length ((pad64 (hdB h)).map B8) ∧ Sat w0 w' G' F := by
  obtain ⟨hg1, hg2, hg3⟩ := hg
  refine f_enter (vs := [_]) Try.func42 rfl Try.ntmps42 (by simp) hs ?_
  refine ww ?_
  refine c_cons (s_boxA [I64 h.g, I64 h.h, I64 h.e] rfl rfl rfl fun b1 => ?_)
  refine c_freeze .head fun G1 hG1 k1 => ?_
  refine ww ?_
  refine c_cons (s_val (v_build (ps := []) #[.slice none 0 0, I64 0] rfl (by kernel_rfl)) rfl rfl rfl ?_)
  refine c_cons (s_boxA [.slice none 0 0, I64 0] rfl rfl rfl fun b2 => ?_)
  change Holds _ _ _ _ _ (WP b2 (.slice none 0 0) :: ([] ++ F)) _
  refine ww ?_
  refine c_cons (s_call (xs := [_, _, _]) rfl rfl rfl rfl rfl rfl (by kernel_rfl) (fun w hs => wnum_c b2 _ [] [] 1 1 (by omega) (by omega) (by simp) _ w _ _ (Own.zero none _ _) hs) ?_)
  rintro e w' ⟨v1, B1, rfl, hown1, hs'⟩; refine a_ret ?_ hs'; clear hs'
  refine ww ?_
  refine c_cons (s_val (v_field 0 rfl (by kernel_rfl)) rfl rfl rfl ?_)
  refine c_cons (s_val (v_load rfl (Cel.imm k1 rfl) (by kernel_rfl)) rfl rfl rfl ?_)
  refine c_cons (s_call (xs := [_, _, _]) rfl rfl rfl rfl rfl rfl (by kernel_rfl) (fun w hs => wnum_c b2 _ _ B1 h.g 5 (by omega) (by omega) (by simp [be_len]) _ w _ _ hown1 hs) ?_)
  rintro e w' ⟨v2, B2, rfl, hown2, hs'⟩; refine a_ret ?_ hs'; clear hs'
  refine ww ?_
  refine c_cons (s_val (v_field 1 rfl (by kernel_rfl)) rfl rfl rfl ?_)
  refine c_cons (s_val (v_load rfl (Cel.imm k1 rfl) (by kernel_rfl)) rfl rfl rfl ?_)
  refine c_cons (s_call (xs := [_, _, _]) rfl rfl rfl rfl rfl rfl (by kernel_rfl) (fun w hs => wnum_c b2 _ _ B2 h.h 1 (by omega) (by omega) (by simp [be_len]) _ w _ _ hown2 hs) ?_)
  rintro e w' ⟨v3, B3, rfl, hown3, hs'⟩; refine a_ret ?_ hs'; clear hs'
  refine ww ?_
  refine c_cons (s_val (v_field 2 rfl (by kernel_rfl)) rfl rfl rfl ?_)
  refine c_cons (s_val (v_load rfl (Cel.imm k1 rfl) (by kernel_rfl)) rfl rfl rfl ?_)
  refine c_cons (s_call (xs := [_, _, _]) rfl rfl rfl rfl rfl rfl (by kernel_rfl) (fun w hs => wnum_c b2 _ _ B3 h.e 3 (by omega) (by omega) (by simp [be_len]) _ w _ _ hown3 hs) ?_)
  rintro e w' ⟨v4, B4, rfl, hown4, hs'⟩; refine a_ret ?_ hs'; clear hs'
  have e4 : [] ++ be 1 1 ++ be h.g 5 ++ be h.h 1 ++ be h.e 3 = hdB h := by rw [List.nil_append]; rfl
  rw [e4] at hown4
  have hl10 := hdB_len h
  generalize hdB h = hd at hown4 hl10 ⊢
  refine c_freezeO hown4 (Chunk.tail Chunk.head) fun G6 hG6 hsv6 => ?_
  refine ww ?_
  refine c_cons (s_call (xs := [_]) rfl rfl rfl rfl rfl rfl (by kernel_rfl) (fun w hs => wbytesO_c b2 v4 hd (by omega) _ w _ _ hsv6 hs) ?_)
  rintro e w' ⟨u7, B7, rfl, hu7, hs'⟩; refine a_ret ?_ hs'; clear hs'
  refine c_freezeO hu7 Chunk.head fun G8 hG8 hsv8 => ?_
  refine ww ?_
  refine c_cons (s_call (xs := [_]) rfl rfl rfl rfl rfl rfl (by kernel_rfl) (fun w hs => jsec_c _ hd (by omega) _ w _ _ hsv8 hs) ?_)
  rintro e w' ⟨G9, u9, rfl, hG9, hu9, hs'⟩; refine a_ret ?_ hs'; clear hs'
  refine ww ?_
  exact f_ret1 rfl rfl (fun w hs => ⟨G9, u9, rfl, hG1.trans (hG6.trans (hG8.trans hG9)), hu9, hs.tl⟩)

theorem equal_c (va vb : Value) (xs ys : List UInt8) (w0 w : World) (G : Im) (F : Hp) (ha : SV G F va xs.length (xs.map B8)) (hb : SV G F vb ys.length (ys.map B8)) (hs : Sat w0 w G F) :
    Calls Try.prog 59 #[va, vb] w fun e w' => e = .returned (.bool (decide (xs = ys))) ∧ Sat w0 w' G F := by
  refine f_enter (vs := [_, _]) Try.func59 rfl Try.ntmps59 (by simp) hs ?_
  refine ww ?_
  refine c_cons (s_val (v_bstr 5 rfl ha (by kernel_rfl) (by kernel_rfl)) rfl rfl rfl ?_)
  refine ww ?_
  refine c_cons (s_val (v_bstr 5 rfl hb (by kernel_rfl) (by kernel_rfl)) rfl rfl rfl ?_)
  refine c_cons (s_val (v_streql rfl rfl) rfl rfl rfl ?_)
  refine ww ?_
  exact f_ret1 rfl rfl (fun w hs => ⟨rfl, hs⟩)

abbrev JhO (b : Nat) (h : Jh) : Nat × Obj := (b, Cs [I64 h.g, I64 h.h, I64 h.e] 75)
theorem jread_c (dp : Nat) (B : Hp) (D : Dk) (hr : DH dp D B) (hl : 6 ≤ D.now.length ∧ D.now.length ≤ 4160) (n : Nat) (hn : n < D.now.length) (b : List UInt8) (hb : D.now.getD n [] = b) (hb64 : b.length = 64) (w0 w : World) (G : Im) (F : Hp) (hs : Sat w0 w G (B ++ F)) :
    Calls Try.prog 37 #[Pt dp 0, I64 (n : Int)] w fun e w' => ∃ G', Im.le G G' ∧ Sat w0 w' G' (B ++ F) ∧ ((D.dead = true ∧ e = .panicked (jgone 14)) ∨ (D.dead = false ∧ e = .returned (.tuple #[.agg #[I64 (hdJ b).g, I64 (hdJ b).h, I64 (hdJ b).e], .bool (decide (hdOk D.now.length b))]))) := by
  refine f_enter (vs := [_, _]) Try.func37 rfl Try.ntmps37 (by simp) hs ?_
  refine ww ?_
  refine c_cons (s_allocA [I64 0, I64 0, I64 0] (by kernel_rfl) rfl rfl fun b1 => ?_)
  refine c_sub (B ++ ((b1, Cs [I64 0, I64 0, I64 0] 75) :: F)) sbx ?_
  refine ww ?_
  have hrd : readS D (n : Int) = if D.dead then (none, 14) else (some b, 0) := by
    unfold readS
    by_cases hd : D.dead = true
    · rw [if_pos hd, if_pos hd]
    · rw [if_neg hd, if_neg hd, if_pos (show hasS D n from ⟨by omega, by omega⟩), Int.toNat_natCast, hb]
  refine c_cons (s_call (xs := [_, _]) rfl rfl rfl rfl rfl rfl (by kernel_rfl) (fun w hs => readH_c dp B D hr n _ w _ _ hs) ?_)
  rw [hrd]
  rintro e w' ⟨G1, u1, rfl, hG1, hu1, hs'⟩; refine a_ret ?_ hs'; clear hs'
  by_cases hd : D.dead = true
  · rw [if_pos hd] at hu1 ⊢
    dsimp only
    refine ww ?_
    rw [decide_eq_false (by decide : ¬ (14 : Int) = 0)]
    refine c_cons (s_call (xs := [_, _]) rfl rfl rfl rfl rfl rfl (by kernel_rfl) (fun w hs => jmust_f 14 _ w _ _ hs) ?_)
    rintro e w' ⟨rfl, hs'⟩
    refine a_panic ?_ hs'; clear hs'
    repeat (first | refine x_then_panic ?_ | refine x_block_panic ?_)
    exact f_panic (fun w hs => ⟨G1, hG1, hs.sb, .inl ⟨hd, rfl⟩⟩)
  have hd' : D.dead = false := by simpa using hd
  rw [if_neg hd] at hu1 ⊢
  dsimp only at hu1 ⊢
  change SV G1 [] u1 b.length (b.map B8) at hu1
  refine ww ?_
  rw [decide_eq_true (by decide : (0 : Int) = 0)]
  refine c_cons (s_call (xs := [_, _]) rfl rfl rfl rfl rfl rfl (by kernel_rfl) (fun w hs => jmust_t 0 _ w _ _ hs) ?_)
  rintro e w' ⟨rfl, hs'⟩; refine a_ret ?_ hs'; clear hs'
  refine ww ?_
  refine c_cons (s_call (xs := [_]) rfl rfl rfl rfl rfl rfl (by kernel_rfl) (fun w hs => newEye_c _ b (by omega) _ w _ _ hu1 hs) ?_)
  rintro e w' ⟨G3, ep, v3, rfl, hG3, hv3, hs'⟩; refine a_ret ?_ hs'; clear hs'
  replace hu1 := hu1.mono (H' := []) hG3 (fun p hp => hp)
  refine ww ?_
  refine c_cons (s_call (xs := [_, _]) rfl rfl rfl rfl rfl rfl (by kernel_rfl) (fun w hs => enum_c ep _ 0 b 1 _ w _ _ hv3 hs) ?_)
  rw [eNum_ok (k := 1) (by omega) (by omega) 1 rfl]
  rintro e w' ⟨v4, rfl, hv4, hs'⟩; refine a_ret ?_ hs'; clear hs'
  dsimp only at hv4 ⊢
  refine ww ?_
  refine c_cons (s_allocA [I64 0, I64 0, I64 0] (by kernel_rfl) rfl rfl fun b2 => ?_)
  refine c_sub (EyO ep v4 0 :: (b2, Cs [I64 0, I64 0, I64 0] 75) :: (B ++ ((b1, Cs [I64 0, I64 0, I64 0] 75) :: F))) sbx ?_
  refine ww ?_
  refine c_cons (s_call (xs := [_, _]) rfl rfl rfl rfl rfl rfl (by kernel_rfl) (fun w hs => enum_c ep _ 0 _ 5 _ w _ _ hv4 hs) ?_)
  rw [eNum_ok (k := 5) (by omega) (by rw [List.length_drop]; omega) 5 rfl]
  rintro e w' ⟨v5, rfl, hv5, hs'⟩; refine a_ret ?_ hs'; clear hs'
  dsimp only at hv5 ⊢
  rw [List.drop_drop] at hv5
  refine c_cons (s_val (v_field 0 rfl (by kernel_rfl)) rfl rfl rfl ?_)
  refine c_cons (s_store1 rfl rfl rfl (.tail .head) (by kernel_rfl) rfl (by simp) ?_)
  change Holds _ _ _ _ _ ((b2, Cs [I64 (num ((b.drop 1).take 5) : Nat), I64 0, I64 0] 75) :: _) _
  refine c_sub (EyO ep v5 0 :: (b2, Cs [I64 (num ((b.drop 1).take 5) : Nat), I64 0, I64 0] 75) :: (B ++ ((b1, Cs [I64 0, I64 0, I64 0] 75) :: F))) sbx ?_
  refine ww ?_
  refine c_cons (s_call (xs := [_, _]) rfl rfl rfl rfl rfl rfl (by kernel_rfl) (fun w hs => enum_c ep _ 0 _ 1 _ w _ _ hv5 hs) ?_)
  rw [eNum_ok (k := 1) (by omega) (by rw [List.length_drop]; omega) 1 rfl]
  rintro e w' ⟨v6, rfl, hv6, hs'⟩; refine a_ret ?_ hs'; clear hs'
  dsimp only at hv6 ⊢
  rw [List.drop_drop] at hv6
  refine c_cons (s_val (v_field 1 rfl (by kernel_rfl)) rfl rfl rfl ?_)
  refine c_cons (s_store1 rfl rfl rfl (.tail .head) (by kernel_rfl) rfl (by simp) ?_)
  change Holds _ _ _ _ _ ((b2, Cs [I64 (num ((b.drop 1).take 5) : Nat), I64 (num ((b.drop 6).take 1) : Nat), I64 0] 75) :: _) _
  refine c_sub (EyO ep v6 0 :: (b2, Cs [I64 (num ((b.drop 1).take 5) : Nat), I64 (num ((b.drop 6).take 1) : Nat), I64 0] 75) :: (B ++ ((b1, Cs [I64 0, I64 0, I64 0] 75) :: F))) sbx ?_
  refine ww ?_
  refine c_cons (s_call (xs := [_, _]) rfl rfl rfl rfl rfl rfl (by kernel_rfl) (fun w hs => enum_c ep _ 0 _ 3 _ w _ _ hv6 hs) ?_)
  rw [eNum_ok (k := 3) (by omega) (by rw [List.length_drop]; omega) 3 rfl]
  rintro e w' ⟨v7, rfl, hv7, hs'⟩; refine a_ret ?_ hs'; clear hs'
  dsimp only at hv7 ⊢
  refine c_cons (s_val (v_field 2 rfl (by kernel_rfl)) rfl rfl rfl ?_)
  refine c_cons (s_store1 rfl rfl rfl (.tail .head) (by kernel_rfl) rfl (by simp) ?_)
  have hgd := hdJ_gd b
  have hlaid := fun h1 => laid_iff (b := b) hb64 h1
  have hokd : hdOk D.now.length b ↔ num (b.take 1) = 1 ∧ 1 ≤ (hdJ b).g ∧ (hdJ b).h ≤ 1 ∧ (hdJ b).e ≤ jz D.now.length ∧ ∀ c ∈ b.drop 10, c = 0 := Iff.rfl
  obtain ⟨h, hh⟩ : ∃ h, h = hdJ b := ⟨_, rfl⟩
  change Holds _ _ _ _ _ ((b2, Cs [I64 (hdJ b).g, I64 (hdJ b).h, I64 (hdJ b).e] 75) :: _) _
  rw [← hh] at hgd hlaid hokd ⊢
  refine c_freeze .head fun G8 hG8 k8 => ?_
  replace hu1 := hu1.mono (H' := []) hG8 (fun p hp => hp)
  have hGa := hG1.trans (hG3.trans hG8)
  refine c_sub (B ++ ((b1, Cs [I64 0, I64 0, I64 0] 75) :: F)) sbx ?_
  obtain ⟨hu0, hu⟩ : ∃ x, x = num (b.take 1) := ⟨_, rfl⟩
  rw [← hu] at hokd hlaid ⊢
  refine wn ?_
  refine c_cut (α := Im) (fun x => [(4, Pt b1 0), (10, Pt b2 0), (11, .bool (decide (hdOk D.now.length b)))]) (fun x => x) (fun x => B ++ ((b1, Cs [I64 0, I64 0, I64 0] 75) :: F)) (fun x => Im.le G8 x) ?_ ?_
  · have no : ¬ hdOk D.now.length b → Value.bool (decide (hdOk D.now.length b)) = .bool false := fun h => by rw [decide_eq_false h]
    refine ww ?_
    refine r_startS [] [] (by kernel_rfl) (fun w h => h.none) ?_
    refine r_tk 0 rfl rfl (v_move rfl) (fun _ h => h.none) ?_
    refine r_tk 1 rfl rfl (v_eql rfl rfl) (fun _ h => h.none) ?_
    refine r_tk 2 rfl rfl (v_move rfl) (fun _ h => h.none) ?_
    refine c_part_d 37 _ rfl (fun c1 => ?_) (fun c1 => ?_)
    rotate_left
    · rw [no (fun m => c1 (by have := (hokd.1 m).1; omega))]
      refine r_skip 3 rfl (by kernel_rfl) (by kernel_rfl) (by kernel_rfl) (by kernel_rfl) rfl rfl rfl (fun _ h => h.none) (by repeat (first | exact pk_body | exact pk_no | exact pk_S | apply pk_then | apply pk_block)) ?_; refine r_skip 4 rfl (by kernel_rfl) (by kernel_rfl) (by kernel_rfl) (by kernel_rfl) rfl rfl rfl (fun _ h => h.none) (by repeat (first | exact pk_body | exact pk_no | exact pk_S | apply pk_then | apply pk_block)) ?_; refine r_skip 5 rfl (by kernel_rfl) (by kernel_rfl) (by kernel_rfl) (by kernel_rfl) rfl rfl rfl (fun _ h => h.none) (by repeat (first | exact pk_body | exact pk_no | exact pk_S | apply pk_then | apply pk_block)) ?_
      refine r_tk 6 rfl rfl (v_pick_f rfl rfl) (fun _ h => h.none) ?_
      refine r_tk 7 rfl rfl (v_move rfl) (fun _ h => h.none) ?_
      refine r_skip 8 rfl (by kernel_rfl) (by kernel_rfl) (by kernel_rfl) (by kernel_rfl) rfl rfl rfl (fun _ h => h.none) (by repeat (first | exact pk_body | exact pk_no | exact pk_S | apply pk_then | apply pk_block)) ?_; refine r_skip 9 rfl (by kernel_rfl) (by kernel_rfl) (by kernel_rfl) (by kernel_rfl) rfl rfl rfl (fun _ h => h.none) (by repeat (first | exact pk_body | exact pk_no | exact pk_S | apply pk_then | apply pk_block)) ?_; refine r_skip 10 rfl (by kernel_rfl) (by kernel_rfl) (by kernel_rfl) (by kernel_rfl) rfl rfl rfl (fun _ h => h.none) (by repeat (first | exact pk_body | exact pk_no | exact pk_S | apply pk_then | apply pk_block)) ?_
      refine r_tk 11 rfl rfl (v_pick_f rfl rfl) (fun _ h => h.none) ?_
      refine r_tk 12 rfl rfl (v_move rfl) (fun _ h => h.none) ?_
      refine r_skip 13 rfl (by kernel_rfl) (by kernel_rfl) (by kernel_rfl) (by kernel_rfl) rfl rfl rfl (fun _ h => h.none) (by repeat (first | exact pk_body | exact pk_no | exact pk_S | apply pk_then | apply pk_block)) ?_; refine r_skip 14 rfl (by kernel_rfl) (by kernel_rfl) (by kernel_rfl) (by kernel_rfl) rfl rfl rfl (fun _ h => h.none) (by repeat (first | exact pk_body | exact pk_no | exact pk_S | apply pk_then | apply pk_block)) ?_; refine r_skip 15 rfl (by kernel_rfl) (by kernel_rfl) (by kernel_rfl) (by kernel_rfl) rfl rfl rfl (fun _ h => h.none) (by repeat (first | exact pk_body | exact pk_no | exact pk_S | apply pk_then | apply pk_block)) ?_; refine r_skip 16 rfl (by kernel_rfl) (by kernel_rfl) (by kernel_rfl) (by kernel_rfl) rfl rfl rfl (fun _ h => h.none) (by repeat (first | exact pk_body | exact pk_no | exact pk_S | apply pk_then | apply pk_block)) ?_; refine r_skip 17 rfl (by kernel_rfl) (by kernel_rfl) (by kernel_rfl) (by kernel_rfl) rfl rfl rfl (fun _ h => h.none) (by repeat (first | exact pk_body | exact pk_no | exact pk_S | apply pk_then | apply pk_block)) ?_
      refine r_tk 18 rfl rfl (v_pick_f rfl rfl) (fun _ h => h.none) ?_
      refine r_tk 19 rfl rfl (v_move rfl) (fun _ h => h.none) ?_
      refine r_skip 20 rfl (by kernel_rfl) (by kernel_rfl) (by kernel_rfl) (by kernel_rfl) rfl rfl rfl (fun _ h => h.none) (by repeat (first | exact pk_body | exact pk_no | exact pk_S | apply pk_then | apply pk_block)) ?_; refine r_skip 21 rfl (by kernel_rfl) (by kernel_rfl) (by kernel_rfl) (by kernel_rfl) rfl rfl rfl (fun _ h => h.none) (by repeat (first | exact pk_body | exact pk_no | exact pk_S | apply pk_then | apply pk_block)) ?_; refine r_skip 22 rfl (by kernel_rfl) (by kernel_rfl) (by kernel_rfl) (by kernel_rfl) rfl rfl rfl (fun _ h => h.none) (by repeat (first | exact pk_body | exact pk_no | exact pk_S | apply pk_then | apply pk_block)) ?_; refine r_skip 23 rfl (by kernel_rfl) (by kernel_rfl) (by kernel_rfl) (by kernel_rfl) rfl rfl rfl (fun _ h => h.none) (by repeat (first | exact pk_body | exact pk_no | exact pk_S | apply pk_then | apply pk_block)) ?_
      refine r_tk 24 rfl rfl (v_pick_f rfl rfl) (fun _ h => h.none) ?_
      refine r_tk 25 rfl rfl (v_assign rfl) (fun _ h => h.none) ?_
      refine r_done (by kernel_rfl) ?_
      refine ww ?_
      exact n_mid G8 (Im.le_refl _) ⟨rfl, rfl, rfl, trivial⟩ rfl sbx
    refine r_tk 3 rfl rfl (v_field 0 rfl (by kernel_rfl)) (fun _ h => h.none) ?_
    refine r_tk 4 rfl rfl (v_load rfl (Cel.imm k8 rfl) (by kernel_rfl)) (fun _ h => h.none) ?_
    refine r_tk 5 rfl rfl (v_geq rfl rfl) (fun _ h => h.none) ?_
    refine r_tk 6 rfl rfl (v_pick_t rfl rfl) (fun _ h => h.none) ?_
    refine r_tk 7 rfl rfl (v_move rfl) (fun _ h => h.none) ?_
    refine c_part_d 42 _ rfl (fun c2 => ?_) (fun c2 => ?_)
    rotate_left
    · rw [no (fun m => c2 (by have := (hokd.1 m).2.1; omega))]
      refine r_skip 8 rfl (by kernel_rfl) (by kernel_rfl) (by kernel_rfl) (by kernel_rfl) rfl rfl rfl (fun _ h => h.none) (by repeat (first | exact pk_body | exact pk_no | exact pk_S | apply pk_then | apply pk_block)) ?_; refine r_skip 9 rfl (by kernel_rfl) (by kernel_rfl) (by kernel_rfl) (by kernel_rfl) rfl rfl rfl (fun _ h => h.none) (by repeat (first | exact pk_body | exact pk_no | exact pk_S | apply pk_then | apply pk_block)) ?_; refine r_skip 10 rfl (by kernel_rfl) (by kernel_rfl) (by kernel_rfl) (by kernel_rfl) rfl rfl rfl (fun _ h => h.none) (by repeat (first | exact pk_body | exact pk_no | exact pk_S | apply pk_then | apply pk_block)) ?_
      refine r_tk 11 rfl rfl (v_pick_f rfl rfl) (fun _ h => h.none) ?_
      refine r_tk 12 rfl rfl (v_move rfl) (fun _ h => h.none) ?_
      refine r_skip 13 rfl (by kernel_rfl) (by kernel_rfl) (by kernel_rfl) (by kernel_rfl) rfl rfl rfl (fun _ h => h.none) (by repeat (first | exact pk_body | exact pk_no | exact pk_S | apply pk_then | apply pk_block)) ?_; refine r_skip 14 rfl (by kernel_rfl) (by kernel_rfl) (by kernel_rfl) (by kernel_rfl) rfl rfl rfl (fun _ h => h.none) (by repeat (first | exact pk_body | exact pk_no | exact pk_S | apply pk_then | apply pk_block)) ?_; refine r_skip 15 rfl (by kernel_rfl) (by kernel_rfl) (by kernel_rfl) (by kernel_rfl) rfl rfl rfl (fun _ h => h.none) (by repeat (first | exact pk_body | exact pk_no | exact pk_S | apply pk_then | apply pk_block)) ?_; refine r_skip 16 rfl (by kernel_rfl) (by kernel_rfl) (by kernel_rfl) (by kernel_rfl) rfl rfl rfl (fun _ h => h.none) (by repeat (first | exact pk_body | exact pk_no | exact pk_S | apply pk_then | apply pk_block)) ?_; refine r_skip 17 rfl (by kernel_rfl) (by kernel_rfl) (by kernel_rfl) (by kernel_rfl) rfl rfl rfl (fun _ h => h.none) (by repeat (first | exact pk_body | exact pk_no | exact pk_S | apply pk_then | apply pk_block)) ?_
      refine r_tk 18 rfl rfl (v_pick_f rfl rfl) (fun _ h => h.none) ?_
      refine r_tk 19 rfl rfl (v_move rfl) (fun _ h => h.none) ?_
      refine r_skip 20 rfl (by kernel_rfl) (by kernel_rfl) (by kernel_rfl) (by kernel_rfl) rfl rfl rfl (fun _ h => h.none) (by repeat (first | exact pk_body | exact pk_no | exact pk_S | apply pk_then | apply pk_block)) ?_; refine r_skip 21 rfl (by kernel_rfl) (by kernel_rfl) (by kernel_rfl) (by kernel_rfl) rfl rfl rfl (fun _ h => h.none) (by repeat (first | exact pk_body | exact pk_no | exact pk_S | apply pk_then | apply pk_block)) ?_; refine r_skip 22 rfl (by kernel_rfl) (by kernel_rfl) (by kernel_rfl) (by kernel_rfl) rfl rfl rfl (fun _ h => h.none) (by repeat (first | exact pk_body | exact pk_no | exact pk_S | apply pk_then | apply pk_block)) ?_; refine r_skip 23 rfl (by kernel_rfl) (by kernel_rfl) (by kernel_rfl) (by kernel_rfl) rfl rfl rfl (fun _ h => h.none) (by repeat (first | exact pk_body | exact pk_no | exact pk_S | apply pk_then | apply pk_block)) ?_
      refine r_tk 24 rfl rfl (v_pick_f rfl rfl) (fun _ h => h.none) ?_
      refine r_tk 25 rfl rfl (v_assign rfl) (fun _ h => h.none) ?_
      refine r_done (by kernel_rfl) ?_
      refine ww ?_
      exact n_mid G8 (Im.le_refl _) ⟨rfl, rfl, rfl, trivial⟩ rfl sbx
    refine r_tk 8 rfl rfl (v_field 1 rfl (by kernel_rfl)) (fun _ h => h.none) ?_
    refine r_tk 9 rfl rfl (v_load rfl (Cel.imm k8 rfl) (by kernel_rfl)) (fun _ h => h.none) ?_
    refine r_tk 10 rfl rfl (v_leq rfl rfl) (fun _ h => h.none) ?_
    refine r_tk 11 rfl rfl (v_pick_t rfl rfl) (fun _ h => h.none) ?_
    refine r_tk 12 rfl rfl (v_move rfl) (fun _ h => h.none) ?_
    refine c_part_d 47 _ rfl (fun c3 => ?_) (fun c3 => ?_)
    rotate_left
    · rw [no (fun m => c3 (by have := (hokd.1 m).2.2.1; omega))]
      refine r_skip 13 rfl (by kernel_rfl) (by kernel_rfl) (by kernel_rfl) (by kernel_rfl) rfl rfl rfl (fun _ h => h.none) (by repeat (first | exact pk_body | exact pk_no | exact pk_S | apply pk_then | apply pk_block)) ?_; refine r_skip 14 rfl (by kernel_rfl) (by kernel_rfl) (by kernel_rfl) (by kernel_rfl) rfl rfl rfl (fun _ h => h.none) (by repeat (first | exact pk_body | exact pk_no | exact pk_S | apply pk_then | apply pk_block)) ?_; refine r_skip 15 rfl (by kernel_rfl) (by kernel_rfl) (by kernel_rfl) (by kernel_rfl) rfl rfl rfl (fun _ h => h.none) (by repeat (first | exact pk_body | exact pk_no | exact pk_S | apply pk_then | apply pk_block)) ?_; refine r_skip 16 rfl (by kernel_rfl) (by kernel_rfl) (by kernel_rfl) (by kernel_rfl) rfl rfl rfl (fun _ h => h.none) (by repeat (first | exact pk_body | exact pk_no | exact pk_S | apply pk_then | apply pk_block)) ?_; refine r_skip 17 rfl (by kernel_rfl) (by kernel_rfl) (by kernel_rfl) (by kernel_rfl) rfl rfl rfl (fun _ h => h.none) (by repeat (first | exact pk_body | exact pk_no | exact pk_S | apply pk_then | apply pk_block)) ?_
      refine r_tk 18 rfl rfl (v_pick_f rfl rfl) (fun _ h => h.none) ?_
      refine r_tk 19 rfl rfl (v_move rfl) (fun _ h => h.none) ?_
      refine r_skip 20 rfl (by kernel_rfl) (by kernel_rfl) (by kernel_rfl) (by kernel_rfl) rfl rfl rfl (fun _ h => h.none) (by repeat (first | exact pk_body | exact pk_no | exact pk_S | apply pk_then | apply pk_block)) ?_; refine r_skip 21 rfl (by kernel_rfl) (by kernel_rfl) (by kernel_rfl) (by kernel_rfl) rfl rfl rfl (fun _ h => h.none) (by repeat (first | exact pk_body | exact pk_no | exact pk_S | apply pk_then | apply pk_block)) ?_; refine r_skip 22 rfl (by kernel_rfl) (by kernel_rfl) (by kernel_rfl) (by kernel_rfl) rfl rfl rfl (fun _ h => h.none) (by repeat (first | exact pk_body | exact pk_no | exact pk_S | apply pk_then | apply pk_block)) ?_; refine r_skip 23 rfl (by kernel_rfl) (by kernel_rfl) (by kernel_rfl) (by kernel_rfl) rfl rfl rfl (fun _ h => h.none) (by repeat (first | exact pk_body | exact pk_no | exact pk_S | apply pk_then | apply pk_block)) ?_
      refine r_tk 24 rfl rfl (v_pick_f rfl rfl) (fun _ h => h.none) ?_
      refine r_tk 25 rfl rfl (v_assign rfl) (fun _ h => h.none) ?_
      refine r_done (by kernel_rfl) ?_
      refine ww ?_
      exact n_mid G8 (Im.le_refl _) ⟨rfl, rfl, rfl, trivial⟩ rfl sbx
    refine r_tk 13 rfl rfl (v_field 2 rfl (by kernel_rfl)) (fun _ h => h.none) ?_
    refine r_tk 14 rfl rfl (v_load rfl (Cel.imm k8 rfl) (by kernel_rfl)) (fun _ h => h.none) ?_
    refine r_tk 15 rfl rfl (v_move rfl) (fun _ h => h.none) ?_
    refine r_one 16 (by kernel_rfl) rfl ?_
    refine s_call (xs := [_]) rfl rfl rfl rfl rfl rfl (by kernel_rfl) (fun w hs => jsize_c dp B D hr (by omega) _ w _ _ hs) ?_
    rintro e w' ⟨rfl, hs'⟩; refine a_ret ?_ hs'; clear hs'
    refine r_next (fun w h => h.none) ?_
    refine r_tk 17 rfl rfl (v_leq rfl rfl) (fun _ h => h.none) ?_
    refine r_tk 18 rfl rfl (v_pick_t rfl rfl) (fun _ h => h.none) ?_
    refine r_tk 19 rfl rfl (v_move rfl) (fun _ h => h.none) ?_
    refine c_part_d 54 _ rfl (fun c4 => ?_) (fun c4 => ?_)
    rotate_left
    · rw [no (fun m => c4 (by have := (hokd.1 m).2.2.2.1; omega))]
      refine r_skip 20 rfl (by kernel_rfl) (by kernel_rfl) (by kernel_rfl) (by kernel_rfl) rfl rfl rfl (fun _ h => h.none) (by repeat (first | exact pk_body | exact pk_no | exact pk_S | apply pk_then | apply pk_block)) ?_; refine r_skip 21 rfl (by kernel_rfl) (by kernel_rfl) (by kernel_rfl) (by kernel_rfl) rfl rfl rfl (fun _ h => h.none) (by repeat (first | exact pk_body | exact pk_no | exact pk_S | apply pk_then | apply pk_block)) ?_; refine r_skip 22 rfl (by kernel_rfl) (by kernel_rfl) (by kernel_rfl) (by kernel_rfl) rfl rfl rfl (fun _ h => h.none) (by repeat (first | exact pk_body | exact pk_no | exact pk_S | apply pk_then | apply pk_block)) ?_; refine r_skip 23 rfl (by kernel_rfl) (by kernel_rfl) (by kernel_rfl) (by kernel_rfl) rfl rfl rfl (fun _ h => h.none) (by repeat (first | exact pk_body | exact pk_no | exact pk_S | apply pk_then | apply pk_block)) ?_
      refine r_tk 24 rfl rfl (v_pick_f rfl rfl) (fun _ h => h.none) ?_
      refine r_tk 25 rfl rfl (v_assign rfl) (fun _ h => h.none) ?_
      refine r_done (by kernel_rfl) ?_
      refine ww ?_
      exact n_mid G8 (Im.le_refl _) ⟨rfl, rfl, rfl, trivial⟩ rfl sbx
    have hfin : decide (hdOk D.now.length b) = decide (b = pad64 (hdB h)) := by
      have h1 : hu0 = 1 := by omega
      have hl := hlaid h1
      refine decide_eq_decide.2 ?_
      rw [hokd, hl]
      exact ⟨fun m => m.2.2.2.2, fun m => ⟨h1, by omega, by omega, by omega, m⟩⟩
    rw [hfin]
    refine r_tk 20 rfl rfl (v_move rfl) (fun _ h => h.none) ?_
    refine r_tk 21 rfl rfl (v_loadAgg (vs := [I64 h.g, I64 h.h, I64 h.e]) rfl (by kernel_rfl) (by kernel_rfl) rfl (fun j u hj => (Cel.allI k8 hj))) (fun _ h => h.none) ?_
    refine r_one 22 (by kernel_rfl) rfl ?_
    refine s_call (xs := [_]) rfl rfl rfl rfl rfl rfl (by kernel_rfl) (fun w hs => jlaid_c h hgd _ w _ _ hs) ?_
    rintro e w' ⟨G9, u9, rfl, hG9, hu9, hs'⟩; refine a_ret ?_ hs'; clear hs'
    refine r_next (fun w h => h.none.weaken hG9) ?_
    refine r_one 23 (by kernel_rfl) rfl ?_
    refine s_call (xs := [_, _]) rfl rfl rfl rfl rfl rfl (by kernel_rfl) (fun w hs => equal_c _ _ b (pad64 (hdB h)) _ w _ _ (hu1.mono hG9 (by simp)) (hu9.mono (Im.le_refl _) (by simp)) hs) ?_
    rintro e w' ⟨rfl, hs'⟩; refine a_ret ?_ hs'; clear hs'
    refine r_next (fun w h => h.none.weaken hG9) ?_
    refine r_tk 24 rfl rfl (v_pick_t rfl rfl) (fun _ h => h.none.weaken hG9) ?_
    refine r_tk 25 rfl rfl (v_assign rfl) (fun _ h => h.none.weaken hG9) ?_
    refine r_done (by kernel_rfl) ?_
    refine ww ?_
    exact n_mid G9 hG9 ⟨rfl, rfl, rfl, trivial⟩ rfl sbx
  rintro G9 hG9
  replace k8 := hG9 _ _ k8
  refine ww ?_
  refine c_cons (s_val (v_loadAgg (vs := [I64 h.g, I64 h.h, I64 h.e]) rfl (by kernel_rfl) (by kernel_rfl) rfl (fun j u hj => (Cel.allI k8 hj))) rfl rfl rfl ?_)
  refine c_sub ((b1, Cs [I64 0, I64 0, I64 0] 75) :: (B ++ F)) sbx ?_
  refine ww ?_
  refine c_cons (s_storeA (vs := [I64 h.g, I64 h.h, I64 h.e]) rfl rfl rfl .head (by kernel_rfl) (by simp [Value.oneCell']) rfl ?_)
  refine ww ?_
  exact f_retA1 (vs := [I64 h.g, I64 h.h, I64 h.e]) rfl rfl rfl (by kernel_rfl) (by kernel_rfl) rfl (fun j u hj => Cel.all hj) (fun w hs => ⟨G9, hGa.trans hG9, hs.tl, .inr ⟨hd', rfl⟩⟩)
end

section
open Go
set_option linter.unusedVariables false
set_option linter.unusedSimpArgs false
set_option maxHeartbeats 1600000
section
variable {w0 w : World} {G : Im} {H : Hp} {n : Nat} {ds : List Deferred} {env : Env} {P : Program}
variable {dst : Option Tmp} {ty : TypeId} {pos : String} {aft : Array Edge} {g : Option (Nat × Bool)}
theorem i64_or16 (a b : Nat) (ha : a < 140737488355328) (hb : b < 65536) : bits .or .i64 ((a * 65536 : Nat) : Int) (b : Int) = ((a * 65536 + b : Nat) : Int) := by
  have h1 : b ||| a * 65536 = a * 65536 + b := by
    rw [Nat.or_comm, show (65536 : Nat) = 2 ^ 16 from rfl, ← Nat.shiftLeft_eq, Nat.shiftLeft_add_eq_or_of_lt (by simpa using hb)]
  have h2 : a * 65536 ||| b = a * 65536 + b := by rw [Nat.or_comm, h1]
  show IntKind.i64.wrap ((BitVec.ofInt 64 ((a * 65536 : Nat) : Int) ||| BitVec.ofInt 64 (b : Int)).toNat : Int) = _
  rw [BitVec.toNat_or, ofInt_u64 _ (by omega), ofInt_u64 b (by omega), h2]
  exact IntWalk.i64_in _ ⟨by omega, by omega⟩
theorem v_or16 (a b : Nat) {x y : Operand} {t t' : TypeId} {p q : Int} (hx : ev env x = some (I64 p)) (hy : ev env y = some (I64 q)) (hp : p = (a : Int) * 65536) (hq : q = b) (ha : a < 140737488355328) (hb : b < 65536) :
    Val P env G H ⟨dst, .binOp .or t x y t', ty, pos, aft, g⟩ (I64 ((a * 65536 + b : Nat) : Int)) := fun a' n ds w0 w ht hs => by
  subst hp hq
  have h2 : (binOp .or t (I64 ((a : Int) * 65536)) (I64 (b : Int))).run P w = .ok (.int .i64 (bits .or .i64 ((a : Int) * 65536) (b : Int))) w := by
    simp [binOp, Op.intBits, bits]
  have h1 := i64_or16 a b ha hb
  rw [show ((a * 65536 : Nat) : Int) = (a : Int) * 65536 by omega] at h1
  simp only [execOp, eqGuard, ht.eval hx, ht.eval hy, h2, h1]
  simp [eqGuard, h2, h1]
end
theorem num3 {xs : List UInt8} {a b c : UInt8} (h0 : xs[0]? = some a) (h1 : xs[1]? = some b) (h2 : xs[2]? = some c) : num (xs.take 3) = (a.toNat * 256 + b.toNat) * 256 + c.toNat := by
  match xs, h0, h1, h2 with
  | x :: y :: z :: r, h0, h1, h2 =>
    cases h0; cases h1; cases h2
    simp [num]
theorem p16 : (2 : Int) ^ (16 : Int).toNat = 65536 := by decide
theorem p8 : (2 : Int) ^ (8 : Int).toNat = 256 := by decide
attribute [local irreducible] Code.wp wpList stepK Holds Val wpR Eff Eff0 Code.wpIn wpListIn stepI Exit.then Exit.inBlock bodyPost bodyPostM

theorem jrec_c (dp : Nat) (B : Hp) (D : Dk) (hr : DH dp D B) (hl : 6 ≤ D.now.length ∧ D.now.length ≤ 4160) (h64 : ∀ x ∈ D.now, x.length = 64) (hd : D.dead = false) (h : Nat) (hh : h ≤ 1) (at' en : Nat) (he : en ≤ jz D.now.length) (hat : at' < en) (w0 w : World) (G : Im) (F : Hp) (hs : Sat w0 w G (B ++ F)) :
    Calls Try.prog 39 #[Pt dp 0, I64 (h : Int), I64 (at' : Int), I64 (en : Int)] w fun e w' => ∃ G', Im.le G G' ∧ Sat w0 w' G' (B ++ F) ∧
      ((recS D.now (2 + h * jz D.now.length + at') (en - at') = none ∧ e = .panicked (jgone 4)) ∨ (∃ r k u, recS D.now (2 + h * jz D.now.length + at') (en - at') = some (r, k) ∧ e = .returned (.tuple #[u, I64 (k : Int)]) ∧ SV G' [] u r.length (r.map B8))) := by
  refine f_enter (vs := [_, _, _, _]) Try.func39 rfl Try.ntmps39 (by simp) hs ?_
  obtain ⟨z1, z2⟩ := jz_le hl.1
  obtain ⟨p, hp⟩ : ∃ p, p = 2 + h * jz D.now.length + at' := ⟨_, rfl⟩
  have hpe : p + (en - at') ≤ D.now.length := by
    rw [hp]
    rcases (show h = 0 ∨ h = 1 by omega) with e | e <;> rw [e] <;> omega
  have hpi : ∀ i : Nat, ((2 + h * jz D.now.length : Nat) : Int) + (at' : Int) + (i : Int) = ((p + i : Nat) : Int) := fun i => by rw [hp]; omega
  rw [← hp]
  obtain ⟨n, hn⟩ : ∃ n, n = num ((D.now.getD p []).take 3) := ⟨_, rfl⟩
  have hrec : recS D.now p (en - at') = if jk n ≤ en - at' then some ((((D.now.drop p).take (jk n)).flatten.drop 3).take n, jk n) else none := by unfold recS; rw [← hn]
  have hk1 := jk_pos n
  have h3n : 3 + n ≤ jk n * 64 := by unfold jk; omega
  have hfl : ∀ i, i ≤ en - at' → ((D.now.drop p).take i).flatten.length = i * 64 := fun i hi => by
    rw [flat_len _ (fun x hx => h64 x (List.mem_of_mem_drop (List.mem_of_mem_take hx))), List.length_take, List.length_drop]
    congr 1; omega
  refine ww ?_
  refine c_loop (α := Nat × Im × Value × Hp × Nat) (fun x => [(0, Pt dp 0), (1, I64 (h : Int)), (2, I64 (at' : Int)), (3, I64 (en : Int)), (10, x.2.2.1), (11, I64 (x.2.2.2.2 : Int)), (12, I64 (x.1 : Int))]) (fun x => x.2.1) (fun x => x.2.2.2.1 ++ (B ++ F)) (fun x => Im.le G x.2.1 ∧ x.1 ≤ x.2.2.2.2 ∧ x.2.2.2.2 ≤ en - at' ∧ OB x.2.2.1 (((D.now.drop p).take x.1).flatten) x.2.2.2.1 ∧ ((x.1 = 0 ∧ x.2.2.2.2 = 1) ∨ (1 ≤ x.1 ∧ x.2.2.2.2 = jk n))) (fun x => en - at' - x.1) (0, G, .slice none 0 0, [], 1) ⟨Im.le_refl _, by dsimp only; omega, by dsimp only; omega, by rw [List.take_zero]; exact Own.zero none _ _, .inl ⟨rfl, rfl⟩⟩ ?_ ?_
  · exact n_at ⟨rfl, rfl, rfl, rfl, rfl, rfl, rfl, trivial⟩ sbx
  rintro ⟨i, Gi, v, Bv, need⟩ ⟨hGi, hi, hne, hob, hcase⟩
  dsimp only at hGi hi hne hob hcase ⊢
  have hfi := hfl i (by omega)
  refine ww ?_
  refine c_cond_d rfl (fun c1 => ?_) (fun c1 => ?_)
  · -- then
    have hin : i < need := by omega
    have hpl : p + i < D.now.length := by omega
    obtain ⟨s, hs0⟩ : ∃ s, D.now[p + i]? = some s := ⟨_, List.getElem?_eq_getElem hpl⟩
    have hsl : s.length = 64 := h64 s (List.mem_of_getElem? hs0)
    have hsd : D.now.getD (p + i) [] = s := by rw [List.getD, hs0]; rfl
    have htk : (D.now.drop p).take (i + 1) = (D.now.drop p).take i ++ [s] := by rw [List.take_add_one, List.getElem?_drop, hs0]; rfl
    have hrd : readS D ((p + i : Nat) : Int) = (some s, 0) := by
      unfold readS
      rw [if_neg (by simp [hd]), if_pos (show hasS D ((p + i : Nat) : Int) from ⟨by omega, by omega⟩), Int.toNat_natCast, hsd]
    refine ww ?_
    rw [decide_eq_true (show (at' : Int) + (i : Int) < (en : Int) by omega)]
    refine c_cons (s_call (xs := [_, _]) rfl rfl rfl rfl rfl rfl (by kernel_rfl) (fun w hs => jmust_t 4 _ w _ _ hs) ?_)
    rintro e w' ⟨rfl, hs'⟩; refine a_ret ?_ hs'; clear hs'
    refine c_sub (B ++ (Bv ++ F)) sbx ?_
    refine ww ?_
    refine c_cons (s_call (xs := [_, _]) rfl rfl rfl rfl rfl rfl (by kernel_rfl) (fun w hs => jstart_c dp B D hr (by omega) h hh _ w _ _ hs) ?_)
    rintro e w' ⟨rfl, hs'⟩; refine a_ret ?_ hs'; clear hs'
    refine ww ?_
    rw [hpi i]
    refine c_cons (s_call (xs := [_, _]) rfl rfl rfl rfl rfl rfl (by kernel_rfl) (fun w hs => readH_c dp B D hr _ _ w _ _ hs) ?_)
    rw [hrd]
    rintro e w' ⟨G2, u2, rfl, hG2, hu2, hs'⟩; refine a_ret ?_ hs'; clear hs'
    change SV G2 [] u2 s.length (s.map B8) at hu2
    dsimp only
    refine ww ?_
    rw [decide_eq_true (by decide : (0 : Int) = 0)]
    refine c_cons (s_call (xs := [_, _]) rfl rfl rfl rfl rfl rfl (by kernel_rfl) (fun w hs => jmust_t 0 _ w _ _ hs) ?_)
    rintro e w' ⟨rfl, hs'⟩; refine a_ret ?_ hs'; clear hs'
    refine c_sub (Bv ++ (B ++ F)) sbx ?_
    refine ww ?_
    refine c_cons (s_append (e := 5) (z := B8 0) (sz := 1) (bs := 1) (by kernel_rfl) rfl rfl rfl rfl hob Chunk.head (hu2.mono (Im.le_refl _) (by simp)) rfl (by decide) (by simp) (B8_one s) (by omega) (by omega) fun v3 B3 hown3 => ?_)
    have e3 : ((D.now.drop p).take (i + 1)).flatten = ((D.now.drop p).take i).flatten ++ s := by rw [htk, List.flatten_append]; simp
    rw [← List.map_append, ← List.length_append, ← e3] at hown3
    refine ww ?_
    refine c_cond_d rfl (fun c2 => ?_) (fun c2 => ?_)
    · -- then
      have hi0 : i = 0 := by omega
      subst hi0
      have hneed : need = 1 := by omega
      subst hneed
      have hsn : n = num (s.take 3) := by rw [hn]; rw [Nat.add_zero] at hsd; rw [hsd]
      have e0 : ((D.now.drop p).take (0 + 1)).flatten = s := by rw [e3, List.take_zero]; rfl
      rw [e0] at hown3
      obtain ⟨a, ha⟩ : ∃ a, s[0]? = some a := ⟨_, List.getElem?_eq_getElem (by omega)⟩
      obtain ⟨b, hb⟩ : ∃ a, s[1]? = some a := ⟨_, List.getElem?_eq_getElem (by omega)⟩
      obtain ⟨c, hc⟩ : ∃ a, s[2]? = some a := ⟨_, List.getElem?_eq_getElem (by omega)⟩
      have hnum := num3 ha hb hc
      rw [← hsn] at hnum
      have hal := a.toNat_lt
      have hbl := b.toNat_lt
      have hcl := c.toNat_lt
      obtain ⟨hl3, hown3'⟩ := id hown3
      rcases hown3' with ⟨ad7, rfl, h0, rfl⟩ | ⟨bx, cx, sl, rfl, hb1, hb2, hb3, rfl⟩
      · omega
      have hcel : ∀ (j : Nat) (x : UInt8) (G : Im) (H : Hp), s[j]? = some x → Cel G ((bx, Cs (s.map B8 ++ sl) 5) :: H) bx (0 + (j : Int).toNat) (B8 x) := fun j x G H hj => Cel.head (by
        have hjl := (List.getElem?_eq_some_iff.1 hj).1
        rw [Nat.zero_add, Int.toNat_natCast, List.getElem?_append_left (by rw [List.length_map]; exact hjl), List.getElem?_map, hj]; rfl)
      refine ww ?_
      refine r_startS [(bx, Cs (s.map B8 ++ sl) 5)] [] (by kernel_rfl) (fun w h => h.sb) ?_
      refine r_tk 0 rfl rfl (v_move rfl) (fun _ h => (h.sb)) ?_
      refine r_tk 1 rfl rfl (v_index1 rfl rfl (by kernel_rfl) (by omega)) (fun _ h => (h.sb)) ?_
      refine r_tk 2 rfl rfl (v_load rfl (hcel 0 a _ _ ha) (by kernel_rfl)) (fun _ h => (h.sb)) ?_
      refine r_tk 3 rfl rfl (v_u8int rfl (by kernel_rfl) (by kernel_rfl)) (fun _ h => (h.sb)) ?_
      refine r_tk 4 rfl rfl (v_shl rfl rfl (by omega) (by rw [p16]; omega)) (fun _ h => (h.sb)) ?_
      refine r_tk 5 rfl rfl (v_move rfl) (fun _ h => (h.sb)) ?_
      refine r_tk 6 rfl rfl (v_index1 rfl rfl (by kernel_rfl) (by omega)) (fun _ h => (h.sb)) ?_
      refine r_tk 7 rfl rfl (v_load rfl (hcel 1 b _ _ hb) (by kernel_rfl)) (fun _ h => (h.sb)) ?_
      refine r_tk 8 rfl rfl (v_u8int rfl (by kernel_rfl) (by kernel_rfl)) (fun _ h => (h.sb)) ?_
      refine r_tk 9 rfl rfl (v_shl rfl rfl (by omega) (by rw [p8]; omega)) (fun _ h => (h.sb)) ?_
      refine r_tk 10 rfl rfl (v_or16 a.toNat (b.toNat * 256) rfl rfl (by rw [p16]) (by rw [p8]; omega) (by omega) (by omega)) (fun _ h => (h.sb)) ?_
      refine r_tk 11 rfl rfl (v_move rfl) (fun _ h => (h.sb)) ?_
      refine r_tk 12 rfl rfl (v_index1 rfl rfl (by kernel_rfl) (by omega)) (fun _ h => (h.sb)) ?_
      refine r_tk 13 rfl rfl (v_load rfl (hcel 2 c _ _ hc) (by kernel_rfl)) (fun _ h => (h.sb)) ?_
      refine r_tk 14 rfl rfl (v_u8int rfl (by kernel_rfl) (by kernel_rfl)) (fun _ h => (h.sb)) ?_
      refine r_tk 15 rfl rfl (v_or256 (a.toNat * 256 + b.toNat) c.toNat rfl rfl (by omega) rfl (by omega) (by omega)) (fun _ h => (h.sb)) ?_
      rw [← hnum]
      refine r_one 16 (by kernel_rfl) rfl ?_
      refine s_call (xs := [_]) rfl rfl rfl rfl rfl rfl (by kernel_rfl) (fun w hs => jsectors_c n (by omega) _ w _ _ hs) ?_
      rintro e w' ⟨rfl, hs'⟩; refine a_ret ?_ hs'; clear hs'
      refine r_next (fun w h => (h.sb)) ?_
      refine r_tk 17 rfl rfl (v_assign rfl) (fun _ h => (h.sb)) ?_
      refine r_done (by kernel_rfl) ?_
      refine ww ?_
      by_cases ck : jk n ≤ en - at'
      rotate_left
      · rw [decide_eq_false (show ¬ (jk n : Int) ≤ (en : Int) - (at' : Int) by omega)]
        refine c_cons (s_call (xs := [_, _]) rfl rfl rfl rfl rfl rfl (by kernel_rfl) (fun w hs => jmust_f 4 _ w _ _ hs) ?_)
        rintro e w' ⟨rfl, hs'⟩
        refine a_panic ?_ hs'; clear hs'
        repeat (first | refine x_then_panic ?_ | refine x_block_panic ?_)
        exact f_panic (fun w hs => ⟨G2, hGi.trans hG2, hs.sb, .inl ⟨by rw [hrec, if_neg ck], rfl⟩⟩)
      rw [decide_eq_true (show (jk n : Int) ≤ (en : Int) - (at' : Int) by omega)]
      refine c_cons (s_call (xs := [_, _]) rfl rfl rfl rfl rfl rfl (by kernel_rfl) (fun w hs => jmust_t 4 _ w _ _ hs) ?_)
      rintro e w' ⟨rfl, hs'⟩; refine a_ret ?_ hs'; clear hs'
      refine ww ?_
      exact n_next (x := (0, Gi, v, Bv, 1)) (0 + 1, G2, Sl bx 0 s.length cx, [(bx, Cs (s.map B8 ++ sl) 5)], jk n) ⟨hGi.trans hG2, by dsimp only; omega, ck, by dsimp only; rw [e0]; exact hown3, .inr ⟨by dsimp only; omega, rfl⟩⟩ (by dsimp only; omega) ⟨rfl, rfl, rfl, rfl, rfl, rfl, rfl, trivial⟩ rfl sbx
    refine ww ?_
    exact n_next (x := (i, Gi, v, Bv, need)) (i + 1, G2, v3, B3, need) ⟨hGi.trans hG2, by dsimp only; omega, hne, hown3, .inr ⟨by dsimp only; omega, by dsimp only; omega⟩⟩ (by dsimp only; omega) ⟨rfl, rfl, rfl, rfl, rfl, rfl, rfl, trivial⟩ rfl sbx
  have hneed : need = jk n ∧ i = jk n := by omega
  obtain ⟨rfl, rfl⟩ := hneed
  rw [if_pos hne] at hrec
  obtain ⟨xs, hxs⟩ : ∃ xs, xs = ((D.now.drop p).take (jk n)).flatten := ⟨_, rfl⟩
  rw [← hxs] at hob hfi hrec
  obtain ⟨s, hs0⟩ : ∃ s, D.now[p]? = some s := ⟨_, List.getElem?_eq_getElem (by omega)⟩
  have hsl : s.length = 64 := h64 s (List.mem_of_getElem? hs0)
  have hx3 : xs.take 3 = (D.now.getD p []).take 3 := by
    have e1 : (D.now.drop p).take (jk n) = s :: (D.now.drop (p + 1)).take (jk n - 1) := by
      rw [show jk n = (jk n - 1) + 1 by omega, List.drop_eq_getElem_cons (show p < D.now.length by omega), List.take_succ_cons]
      congr 1
      have := (List.getElem?_eq_some_iff.1 hs0).2
      exact this
    rw [hxs, e1, List.flatten_cons, List.take_append_of_le_length (by omega), List.getD, hs0]; rfl
  obtain ⟨a, ha⟩ : ∃ a, xs[0]? = some a := ⟨_, List.getElem?_eq_getElem (by omega)⟩
  obtain ⟨b, hb⟩ : ∃ a, xs[1]? = some a := ⟨_, List.getElem?_eq_getElem (by omega)⟩
  obtain ⟨c, hc⟩ : ∃ a, xs[2]? = some a := ⟨_, List.getElem?_eq_getElem (by omega)⟩
  have hnum := num3 ha hb hc
  rw [hx3, ← hn] at hnum
  have hal := a.toNat_lt
  have hbl := b.toNat_lt
  have hcl := c.toNat_lt
  refine c_freezeO hob Chunk.head fun G4 hG4 hsv4 => ?_
  obtain ⟨_, cx, e4, hq1, hq2, hq3⟩ := id hsv4
  subst e4
  rcases hq3 with ⟨h0, _⟩ | ⟨bx, ox, rfl, hcx⟩
  · have := congrArg List.length h0; simp at this; subst this; simp at hfi; omega
  have hcel : ∀ (j : Nat) (x : UInt8) (H : Hp), xs[j]? = some x → Cel G4 H bx (ox + (j : Int).toNat) (B8 x) := fun j x H hj => by
    rw [Int.toNat_natCast]
    exact (hcx j (B8 x) (by rw [List.getElem?_map, hj]; rfl)).mono (Im.le_refl _) (by simp)
  refine ww ?_
  refine r_startS [] [] (by kernel_rfl) (fun w h => h.none) ?_
  refine r_tk 0 rfl rfl (v_move rfl) (fun _ h => h.none) ?_
  refine r_tk 1 rfl rfl (v_index1 rfl rfl (by kernel_rfl) (by omega)) (fun _ h => h.none) ?_
  refine r_tk 2 rfl rfl (v_load rfl (hcel 0 a _ ha) (by kernel_rfl)) (fun _ h => h.none) ?_
  refine r_tk 3 rfl rfl (v_u8int rfl (by kernel_rfl) (by kernel_rfl)) (fun _ h => h.none) ?_
  refine r_tk 4 rfl rfl (v_shl rfl rfl (by omega) (by rw [p16]; omega)) (fun _ h => h.none) ?_
  refine r_tk 5 rfl rfl (v_move rfl) (fun _ h => h.none) ?_
  refine r_tk 6 rfl rfl (v_index1 rfl rfl (by kernel_rfl) (by omega)) (fun _ h => h.none) ?_
  refine r_tk 7 rfl rfl (v_load rfl (hcel 1 b _ hb) (by kernel_rfl)) (fun _ h => h.none) ?_
  refine r_tk 8 rfl rfl (v_u8int rfl (by kernel_rfl) (by kernel_rfl)) (fun _ h => h.none) ?_
  refine r_tk 9 rfl rfl (v_shl rfl rfl (by omega) (by rw [p8]; omega)) (fun _ h => h.none) ?_
  refine r_tk 10 rfl rfl (v_or16 a.toNat (b.toNat * 256) rfl rfl (by rw [p16]) (by rw [p8]; omega) (by omega) (by omega)) (fun _ h => h.none) ?_
  refine r_tk 11 rfl rfl (v_move rfl) (fun _ h => h.none) ?_
  refine r_tk 12 rfl rfl (v_index1 rfl rfl (by kernel_rfl) (by omega)) (fun _ h => h.none) ?_
  refine r_tk 13 rfl rfl (v_load rfl (hcel 2 c _ hc) (by kernel_rfl)) (fun _ h => h.none) ?_
  refine r_tk 14 rfl rfl (v_u8int rfl (by kernel_rfl) (by kernel_rfl)) (fun _ h => h.none) ?_
  refine r_tk 15 rfl rfl (v_or256 (a.toNat * 256 + b.toNat) c.toNat rfl rfl (by omega) rfl (by omega) (by omega)) (fun _ h => h.none) ?_
  rw [← hnum]
  refine r_tk 16 rfl rfl (v_assign rfl) (fun _ h => h.none) ?_
  refine r_done (by kernel_rfl) ?_
  have hcap : xs.length ≤ cx := hq1
  have hmid : SV G4 [] (slMid (some ⟨bx, ox, none⟩) cx 3 (3 + n) 1) ((xs.drop 3).take n).length (((xs.drop 3).take n).map B8) := by
    have h := hsv4.mid (s := 1) (show 3 ≤ 3 + n by omega) (show 3 + n ≤ xs.length by omega)
    simp only [Nat.mul_one] at h
    rw [show 3 + n - 3 = n by omega] at h
    rw [show ((xs.drop 3).take n).length = n by rw [List.length_take, List.length_drop]; omega, List.map_take, List.map_drop]
    exact h
  refine ww ?_
  refine c_cons (s_val (v_slMid 3 (3 + n) 1 rfl rfl (by rw [Int.natCast_add]; rfl) (by kernel_rfl) (by omega) (by omega)) rfl rfl rfl ?_)
  refine c_cons (s_call (xs := [_]) rfl rfl rfl rfl rfl rfl (by kernel_rfl) (fun w hs => clone_c _ ((xs.drop 3).take n) _ w _ _ hmid (by rw [List.length_take, List.length_drop]; omega) hs) ?_)
  rintro e w' ⟨G5, u5, rfl, hG5, hu5, hs'⟩; refine a_ret ?_ hs'; clear hs'
  refine ww ?_
  exact f_ret2 rfl rfl rfl (fun w hs => ⟨G5, hGi.trans (hG4.trans hG5), hs, .inr ⟨_, _, u5, hrec, rfl, hu5⟩⟩)
end

section
open Go
set_option linter.unusedVariables false
set_option linter.unusedSimpArgs false
set_option maxHeartbeats 3200000
section
variable {w0 w : World} {G G' : Im} {H H' H1 : Hp} {n d : Nat} {ds : List Deferred} {env env2 : Env} {P : Program} {Q : Exit → Act → World → Prop} {ops : Array Oper} {K : Act → World → Prop} {late : List Nat} {L : Array Bool} {fuel : Nat}
/-- As Q; behind a panic the slots of env2 are as they were, and nothing else of them counts. -/
def pqQ (n : Nat) (ds : List Deferred) (env2 : Env) (Q : Exit → Act → World → Prop) : Exit → Act → World → Prop
  | .panic c, a, w => TT a n ds env2 ∧ ∀ a', TT a' n ds env2 → Q (.panic c) a' w
  | e, a, w => Q e a w
theorem pqQ_le : ∀ e a w, pqQ n ds env2 Q e a w → Q e a w := fun e a w h => by
  cases e with
  | panic c => exact h.2 a h.1
  | _ => exact h
theorem c_pq (env2 : Env) {c : Code} (h : Holds n ds w0 env G H (c.wp P (pqQ n ds env2 Q))) : Holds n ds w0 env G H (c.wp P Q) := fun a w ht hs => wp_mono (h a w ht hs) pqQ_le
def PanicAt (d : Nat) (Q : Exit → Act → World → Prop) : Prop := ∀ c a v w, Q (.panic c) (Act.put a (some d) v) w → Q (.panic c) a w
theorem pd_then {nx : Act → World → Prop} (h : PanicAt d Q) : PanicAt d (Exit.then nx Q) := h
theorem pd_block {id : Nat} (h : PanicAt d Q) : PanicAt d (Exit.inBlock id Q) := h
theorem pd_q (h : env2.all (fun p => p.1 != d) = true) : PanicAt d (pqQ n ds env2 Q) := fun c a v w hp => by
  refine ⟨⟨?_, hp.1.defers, fun i u hi => ?_⟩, hp.2⟩
  · have := hp.1.size
    simpa [Act.put] using this
  · have hne : i ≠ d := fun e => by
      subst e
      have h2 : ∀ (l : Env), l.all (fun p => p.1 != i) = true → l.lookup i = none := by
        intro l
        induction l with
        | nil => intro _; rfl
        | cons p l ih =>
          intro hl
          rw [List.all_cons, Bool.and_eq_true] at hl
          obtain ⟨j, x⟩ := p
          have hji : ¬ i = j := by have := hl.1; simp at this; exact fun e => this e.symm
          rw [List.lookup, show (i == j) = false by simpa using hji]
          exact ih hl.2
      rw [h2 env2 h] at hi; cases hi
    have h3 := hp.1.get i u hi
    simp only [Act.put] at h3
    rwa [Array.getElem?_setIfInBounds_ne (fun e => hne e.symm)] at h3
theorem r_tkD (i : Nat) {oi : Oper} {d : Nat} {v : Value} {G1 : Im} {H1 : Hp} (hi : ops[i]? = some oi) (hdst : oi.dst = some d) (hv : Val P env G H oi v) (hS : ∀ w, Sat w0 w G1 H1 → Sat w0 w G H)
    (k : Holds n ds w0 ((d, v) :: env) G1 H1 (wpR P ops late Q (fun w => Sat w0 w G H) fuel (L.setIfInBounds i true)))
    (hs : Region.noSelect ops = true := by kernel_rfl) (hf : Region.free .any ops L i = true := by kernel_rfl) (hr : (Region.ready .any ops L).contains i = true := by kernel_rfl)
    (hl : lateOk ops late L i = true := by kernel_rfl) (hg : gOn ops env oi = some true := by exact rfl) (hd : Nat.blt d n = true := by exact rfl) (hQ : PanicAt d Q := by repeat (first | exact pd_q rfl | apply pd_then | apply pd_block)) :
    Holds n ds w0 env G1 H1 (wpR P ops late Q (fun w => Sat w0 w G H) (fuel + 1) L) := fun a w ht hw => by
  refine wpR_first hi (Region.noSelect_spec hs) (fun c a w h => hQ c a _ w (by rw [hdst] at h; exact h)) fuel L a w (Region.free_spec hi hf) hl (by simpa using hr) (.inl ⟨gOn_spec ht hg, fun w' hw' => hv a n ds w0 w' ht hw'⟩) (hS w hw) ?_
  rw [hdst]
  exact k _ w (ht.put (of_blt hd) v) hw
theorem pq_ret (h : Holds n ds w0 env G H (Q .ret)) : Holds n ds w0 env G H (pqQ n ds env2 Q .ret) := h
theorem pq_panic {ch : List PanicEntry} (he : Env.sub env env2) (h : Holds n ds w0 env2 G H (Q (.panic ch))) : Holds n ds w0 env G H (pqQ n ds env2 Q (.panic ch)) := fun a w ht hs =>
  ⟨ht.mono (Env.sub_spec he), fun a' ht' => h a' w ht' hs⟩
/-- Behind a return: the one deferred call, then the results. -/
theorem d_ret1 {fn : Func} {f : FuncId} {cap : Array Value} {R : Ending → World → Prop} {R' : Ending → FrameMode → World → Prop} (hen : entersB P f = true)
    (hC : ∀ w, Sat w0 w G H → CallsD P f cap .returning w R') (hR : ∀ (a : Act) e u w, TT a n [{ target := .fn (.func f) cap, args := #[] }] env → R' e u w → (∃ v, e = .returned v) ∧ settle u = .returning ∧ ∃ v, (results fn a.tmps).run P w = .ok v w ∧ R (.returned v) w) :
    Holds n [{ target := .fn (.func f) cap, args := #[] }] w0 env G H (bodyPostD P fn R .ret) := fun a w ht hs => by
  show Leaves _ _ _ _ _ _ _
  rw [ht.defers]
  refine leaves_cons (by simp) (f := f) (args := cap) (by simp [invoke, enters_run hen]) ((hC w hs).mono fun e u w' h => ?_)
  obtain ⟨⟨v, rfl⟩, hu, hR'⟩ := hR a e u w' ht h
  show Leaves _ _ _ _ _ _ _
  rw [hu]
  exact hR'
theorem d_pan1 {fn : Func} {f : FuncId} {cap : Array Value} {ch : List PanicEntry} {R : Ending → World → Prop} {R' : Ending → FrameMode → World → Prop} (hen : entersB P f = true)
    (hC : ∀ w, Sat w0 w G H → CallsD P f cap (.panicking ch) w R') (hR : ∀ (a : Act) e u w, TT a n [{ target := .fn (.func f) cap, args := #[] }] env → R' e u w → (∃ v, e = .returned v) ∧ settle u = .returning ∧ ∃ v, (results fn a.tmps).run P w = .ok v w ∧ R (.returned v) w) :
    Holds n [{ target := .fn (.func f) cap, args := #[] }] w0 env G H (bodyPostD P fn R (.panic ch)) := fun a w ht hs => by
  show Leaves _ _ _ _ _ _ _
  rw [ht.defers]
  refine leaves_cons (by simp) (f := f) (args := cap) (by simp [invoke, enters_run hen]) ((hC w hs).mono fun e u w' h => ?_)
  obtain ⟨⟨v, rfl⟩, hu, hR'⟩ := hR a e u w' ht h
  show Leaves _ _ _ _ _ _ _
  rw [hu]
  exact hR'
theorem res_c2 {fn : Func} {a : Act} {t t2 : Tmp} {ty ty2 : TypeId} {b b2 : Nat} {v v2 : Value} (ht : TT a n ds env) (hr : fn.results = #[.cell t ty, .cell t2 ty2]) (hp : env.lookup t = some (Pt b 0)) (hp2 : env.lookup t2 = some (Pt b2 0)) (ha : aggB P ty = some false) (ha2 : aggB P ty2 = some false)
    (hs : Sat w0 w G H) (hb : Cel G H b 0 v) (hb2 : Cel G H b2 0 v2) : (results fn a.tmps).run P w = .ok (.tuple #[v, v2]) w := by
  have hg := ht.get t _ hp
  have hg2 := ht.get t2 _ hp2
  have hc := hb.cell hs
  have hc2 := hb2.cell hs
  simp [results, hr, hg, hg2, asAddr, loadVar, run_isAgg' ha, run_isAgg' ha2, hc, hc2]
end
attribute [local irreducible] Code.wp wpList stepK Holds Val wpR Eff Eff0 Code.wpIn wpListIn stepI Exit.then Exit.inBlock bodyPost bodyPostM

abbrev ErO (b : Nat) (c : Int) : Nat × Obj := (b, Cs [I64 c] 24)
abbrev JcO (b : Nat) (v : Value) : Nat × Obj := (b, Cs [v] 27)
abbrev JO (jp dp : Nat) (h : Jh) (s : Int) (vr : Value) : Nat × Obj := (jp, Cs [Pt dp 0, I64 h.g, I64 h.h, I64 h.e, I64 s, vr] 80)
def JH (G : Im) (jp dp : Nat) (J : Jn) (B : Hp) : Prop := ∃ vr Br, B = JO jp dp J.hd J.s vr :: Br ∧ RO G vr J.rows Br
theorem JH.up {G G' : Im} {jp dp : Nat} {J : Jn} {B : Hp} (h : JH G jp dp J B) (hG : Im.le G G') : JH G' jp dp J B := let ⟨vr, Br, h1, h2⟩ := h; ⟨vr, Br, h1, h2.up hG⟩
/-- What it gave up with is known. -/
def jrec (c : Int) : List PanicEntry := [{ v := .iface 72 (.agg #[I64 c]), recovered := true }]

theorem catchO_n (jb eb : Nat) (w0 w : World) (G : Im) (F : Hp) (hs : Sat w0 w G F) :
    CallsD Try.prog 36 #[Pt jb 0, Pt eb 0] .returning w fun e u w' => (∃ r, e = .returned r) ∧ settle u = .returning ∧ Sat w0 w' G F := by
  refine q_enter (vs := [_, _]) Try.func36 rfl Try.ntmps36 (by simp) hs fun c₀ cs hm => ?_
  refine q_seq (q_regionL [0, 1, 2, 3, 4, 5, 6, 7] rfl ?_)
  refine q_rec_n rfl rfl rfl (by simp [recoverD, hm]) ?_
  refine q_val rfl rfl rfl rfl (v_assert_n rfl (by kernel_rfl) (z := .agg #[I64 0]) (by kernel_rfl)) ?_
  refine q_val rfl rfl rfl rfl (v_move rfl) ?_
  refine q_val rfl rfl rfl rfl (v_extract rfl rfl) ?_
  refine q_val rfl rfl rfl rfl (v_extract rfl rfl) ?_
  refine q_allocA [I64 0] rfl rfl rfl (by kernel_rfl) fun b1 => ?_
  refine q_storeA (vs := [I64 0]) rfl rfl rfl rfl .head (by kernel_rfl) (by simp [Value.oneCell']) rfl ?_
  refine q_val rfl rfl rfl rfl (v_assign rfl) ?_
  refine q_nil (q_then (q_plain ?_))
  refine ww ?_
  refine c_cond_f rfl ?_
  refine ww ?_
  exact q_end (u' := c₀.mode) rfl rfl (fun w hs => ⟨⟨_, rfl⟩, by rw [hm]; rfl, hs.sb⟩)

theorem catchO_s (jb eb : Nat) (c c0 : Int) (v : Value) (w0 w : World) (G : Im) (F : Hp) (hs : Sat w0 w G (JcO jb v :: ErO eb c0 :: F)) :
    CallsD Try.prog 36 #[Pt jb 0, Pt eb 0] (.panicking (jgone c)) w fun e u w' => (∃ r, e = .returned r) ∧ settle u = .returning ∧ Sat w0 w' G (JcO jb (.pointer none) :: ErO eb c :: F) := by
  refine q_enter (vs := [_, _]) Try.func36 rfl Try.ntmps36 (by simp) hs fun c₀ cs hm => ?_
  refine q_seq (q_regionL [0, 1, 2, 3, 4, 5, 6, 7] rfl ?_)
  refine q_rec_s (v := .iface 72 (.agg #[I64 c])) (cs' := { c₀ with mode := .panicking (jrec c) } :: cs) rfl rfl rfl (by simp [recoverD, hm, jgone, jrec]) ?_
  refine q_val rfl rfl rfl rfl (v_assert_t rfl (by kernel_rfl)) ?_
  refine q_val rfl rfl rfl rfl (v_move rfl) ?_
  refine q_val rfl rfl rfl rfl (v_extract rfl rfl) ?_
  refine q_val rfl rfl rfl rfl (v_extract rfl rfl) ?_
  refine q_allocA [I64 0] rfl rfl rfl (by kernel_rfl) fun b1 => ?_
  refine q_storeA (vs := [I64 c]) rfl rfl rfl rfl .head (by kernel_rfl) (by simp [Value.oneCell']) rfl ?_
  refine q_val rfl rfl rfl rfl (v_assign rfl) ?_
  refine q_nil (q_then (q_plain ?_))
  refine ww ?_
  refine c_cond_t rfl ?_
  refine ww ?_
  refine c_sub (JcO jb v :: ErO eb c0 :: (b1, Cs [I64 c] 72) :: F) sbx ?_
  refine r_startS [(b1, Cs [I64 c] 72)] [] (by kernel_rfl) (fun w h => h.sb) ?_
  refine r_tk 0 rfl rfl (v_field 0 rfl (by kernel_rfl)) (fun _ h => (h.sb)) ?_
  refine r_tk 1 rfl rfl (v_load rfl (Cel.head rfl) (by kernel_rfl)) (fun _ h => (h.sb)) ?_
  refine r_one 2 (by kernel_rfl) rfl ?_
  refine s_store1 rfl rfl rfl .head (by kernel_rfl) rfl (by simp) ?_
  refine r_next (fun w h => h.sb) ?_
  refine r_one 3 (by kernel_rfl) rfl ?_
  refine s_store1 rfl rfl rfl (.tail .head) (by kernel_rfl) rfl (by simp) ?_
  refine r_next (fun w h => h.sb) ?_
  refine r_done (by kernel_rfl) ?_
  refine ww ?_
  exact q_end (u' := .panicking (jrec c)) rfl rfl (fun w hs => ⟨⟨_, rfl⟩, rfl, (show Sat w0 w G (ErO eb c :: JcO jb (.pointer none) :: (b1, Cs [I64 c] 72) :: F) from hs).sb⟩)

/-- How Open ends where it gives up. -/
theorem open_pan (c c0 : Int) (jb eb : Nat) (v : Value) (w0 : World) (G0 G : Im) (K F : Hp) (hG : Im.le G0 G) (fn : Func) (hr : fn.results = #[.cell 2 27, .cell 3 24]) (R : Ending → World → Prop) (n : Nat) (hR : ∀ w, Sat w0 w G F → R (.returned (.tuple #[.pointer none, I64 c])) w) :
    Holds n [{ target := .fn (.func 36) #[Pt jb 0, Pt eb 0], args := #[] }] w0 [(2, Pt jb 0), (3, Pt eb 0)] G (JcO jb v :: ErO eb c0 :: (K ++ F)) (bodyPostD Try.prog fn R (.panic (jgone c))) :=
  d_pan1 (by kernel_rfl) (fun w hs => catchO_s jb eb c c0 v _ w _ _ hs) (fun a e y w' ht ⟨h1, h2, h3⟩ => ⟨h1, h2, _, res_c2 ht hr rfl rfl (by kernel_rfl) (by kernel_rfl) h3 (Cel.head rfl) (Cel.tail (Cel.head rfl)), hR w' (h3.sb)⟩)
end
end Go.Proofs.Ytkjneelekfdpfaa
