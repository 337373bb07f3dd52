/- The walks of package journal: size, start, sectors, must, sector, laid, read. The walks of package journal: record. Drawn regions in functions that defer; the walk of package journal's Open. The walk of package journal's Open. The walks of package journal: lay. The walks of package journal: Append, Reset, All, Room, Format. The walks of package journal: Format, Reset, All, Room. -/
import Derived.Test.YtkjneelekfdpfaaJrD
import Derived.Test.YtkjneelekfdpfaaDskL0
import Derived.Test.YtkjneelekfdpfaaRowT
import Derived.Test.YtkjneelekfdpfaaStr
import Derived.Test.YtkjneelekfdpfaaEye3
import Derived.Test.YtkjneelekfdpfaaPan
import Derived.Test.YtkjneelekfdpfaaDskW5
import Derived.Test.YtkjneelekfdpfaaEye2
namespace Go.Proofs.Ytkjneelekfdpfaa
section
section
open Go
set_option linter.unusedVariables false
set_option linter.unusedSimpArgs false
set_option maxHeartbeats 1600000
/-- It gives up. -/
def jgone (c : Int) : List PanicEntry := [{ v := .iface 72 (.agg #[I64 c]), recovered := false }]
theorem eNum_ok {xs : List UInt8} {k : Nat} (hk : 1 ≤ k ∧ k ≤ 7) (hl : k ≤ xs.length) (i : Int) (hi : i = (k : Int)) : eNum xs 0 i = (((num (xs.take k) : Nat) : Int), xs.drop k, 0) := by
  subst hi
  unfold eNum rNum
  rw [if_neg (by decide), if_neg (by omega), Int.toNat_natCast, if_neg (by omega)]
attribute [local irreducible] Code.wp wpList stepK Holds Val wpR Eff Eff0 Code.wpIn wpListIn stepI Exit.then Exit.inBlock bodyPost bodyPostM

theorem jmust_t (c : Int) (w0 w : World) (G : Im) (F : Hp) (hs : Sat w0 w G F) :
    Calls Try.prog 38 #[.bool true, I64 c] w fun e w' => e = .returned (.tuple #[]) ∧ Sat w0 w' G F := by
  refine f_enter (vs := [_, _]) Try.func38 rfl Try.ntmps38 (by simp) hs ?_
  refine ww ?_
  refine c_cond_f rfl ?_
  refine ww ?_
  exact f_end0 rfl (fun w hs => ⟨rfl, hs⟩)

theorem jmust_f (c : Int) (w0 w : World) (G : Im) (F : Hp) (hs : Sat w0 w G F) :
    Calls Try.prog 38 #[.bool false, I64 c] w fun e w' => e = .panicked (jgone c) ∧ Sat w0 w' G F := by
  refine f_enter (vs := [_, _]) Try.func38 rfl Try.ntmps38 (by simp) hs ?_
  refine ww ?_
  refine c_cond_t rfl ?_
  refine ww ?_
  refine c_cons (s_val (v_build (ps := [_]) #[I64 c] rfl (by kernel_rfl)) rfl rfl rfl ?_)
  refine c_cons (s_val (v_iface rfl (by kernel_rfl)) rfl rfl rfl ?_)
  refine c_cons (s_panic rfl rfl ?_)
  exact f_panic (fun w hs => ⟨rfl, hs⟩)

theorem jsize_c (dp : Nat) (B : Hp) (D : Dk) (hr : DH dp D B) (hl : 2 ≤ D.now.length ∧ D.now.length ≤ 4160) (w0 w : World) (G : Im) (F : Hp) (hs : Sat w0 w G (B ++ F)) :
    Calls Try.prog 46 #[Pt dp 0] w fun e w' => e = .returned (I64 (jz D.now.length)) ∧ Sat w0 w' G (B ++ F) := by
  refine f_enter (vs := [_]) Try.func46 rfl Try.ntmps46 (by simp) hs ?_
  refine ww ?_
  refine c_cons (s_call (xs := [_]) rfl rfl rfl rfl rfl rfl (by kernel_rfl) (fun w hs => sectorsH_c dp B D hr _ w _ _ hs) ?_)
  rintro e w' ⟨rfl, hs'⟩; refine a_ret ?_ hs'; clear hs'
  refine ww ?_
  refine c_cons (s_val (v_quo rfl rfl (by omega) (by omega)) rfl rfl rfl ?_)
  rw [show ((D.now.length : Int) - 2) / 2 = ((jz D.now.length : Nat) : Int) by unfold jz; omega]
  refine ww ?_
  exact f_ret1 rfl rfl (fun w hs => ⟨rfl, hs⟩)

theorem jstart_c (dp : Nat) (B : Hp) (D : Dk) (hr : DH dp D B) (hl : 2 ≤ D.now.length ∧ D.now.length ≤ 4160) (h : Nat) (hh : h ≤ 1) (w0 w : World) (G : Im) (F : Hp) (hs : Sat w0 w G (B ++ F)) :
    Calls Try.prog 60 #[Pt dp 0, I64 (h : Int)] w fun e w' => e = .returned (I64 ((2 + h * jz D.now.length : Nat) : Int)) ∧ Sat w0 w' G (B ++ F) := by
  refine f_enter (vs := [_, _]) Try.func60 rfl Try.ntmps60 (by simp) hs ?_
  have hj : jz D.now.length ≤ 2079 := by unfold jz; omega
  have hm : ((h * jz D.now.length : Nat) : Int) = (h : Int) * (jz D.now.length : Int) := Int.natCast_mul _ _
  have hm2 : h * jz D.now.length ≤ 2079 := by
    rcases (show h = 0 ∨ h = 1 by omega) with e | e <;> rw [e] <;> omega
  refine ww ?_
  refine c_cons (s_call (xs := [_]) rfl rfl rfl rfl rfl rfl (by kernel_rfl) (fun w hs => jsize_c dp B D hr hl _ w _ _ hs) ?_)
  rintro e w' ⟨rfl, hs'⟩; refine a_ret ?_ hs'; clear hs'
  generalize jz D.now.length = z at hj hm hm2 ⊢
  refine c_cons (s_val (v_mul rfl rfl (by omega)) rfl rfl rfl ?_)
  rw [← hm]
  refine ww ?_
  rw [show (2 : Int) + ((h * z : Nat) : Int) = ((2 + h * z : Nat) : Int) by omega]
  exact f_ret1 rfl rfl (fun w hs => ⟨rfl, hs⟩)

theorem jsectors_c (n : Nat) (hn : n ≤ 100000000) (w0 w : World) (G : Im) (F : Hp) (hs : Sat w0 w G F) :
    Calls Try.prog 61 #[I64 (n : Int)] w fun e w' => e = .returned (I64 (jk n)) ∧ Sat w0 w' G F := by
  refine f_enter (vs := [_]) Try.func61 rfl Try.ntmps61 (by simp) hs ?_
  refine ww ?_
  refine c_cons (s_val (v_quo rfl rfl (by omega) (by omega)) rfl rfl rfl ?_)
  refine ww ?_
  exact f_ret1 rfl rfl (fun w hs => ⟨by congr 2; unfold jk; omega, hs⟩)

theorem jsec_c (vb : Value) (b : List UInt8) (hb : b.length ≤ 64) (w0 w : World) (G : Im) (F : Hp) (hv : SV G [] vb b.length (b.map B8)) (hs : Sat w0 w G F) :
    Calls Try.prog 41 #[vb] w fun e w' => ∃ G' u, e = .returned u ∧ Im.le G G' ∧ SV G' [] u (pad64 b).length ((pad64 b).map B8) ∧ Sat w0 w' G' F := by
  obtain ⟨ad, cp, rfl⟩ := hv.form
  refine f_enter (vs := [_]) Try.func41 rfl Try.ntmps41 (by simp) hs ?_
  refine ww ?_
  refine c_cons (s_make 5 (B8 0) 1 1 64 rfl rfl rfl rfl (by kernel_rfl) (by omega) (by omega) fun b1 => ?_)
  rw [show (madeCells (B8 0).cells (64 * 1)).toList = (List.replicate 64 (0 : UInt8)).map B8 from (toList_madeCells_one _ _).trans (by rw [List.map_replicate])]
  refine ww ?_
  refine c_cons (s_copy (e := 5) (z := B8 0) (sz := 1) (bs := 1) (by kernel_rfl) rfl rfl rfl rfl .head (hv.mono (Im.le_refl _) (by simp)) (by omega) (by simp) (by simp; try omega) (B8_one b) ?_)
  have e : List.take 0 ((List.replicate 64 (0 : UInt8)).map B8) ++ b.map B8 ++ List.drop (0 + (b.map B8).length) ((List.replicate 64 (0 : UInt8)).map B8) = (pad64 b).map B8 := by
    unfold pad64
    rw [List.take_of_length_le hb, List.take_zero, List.nil_append, Nat.zero_add, List.length_map, ← List.map_drop, List.drop_replicate, ← List.map_append]
  rw [e]
  have hl := pad64_len b
  generalize pad64 b = x at hl ⊢
  refine c_freeze .head fun G2 hG2 k2 => ?_
  refine ww ?_
  exact f_ret1 rfl rfl (fun w hs => ⟨G2, _, rfl, hG2, by rw [hl]; exact SV.block (.of_imm k2) (by unfold maxLen; omega), hs⟩)

theorem jlaid_c (h : Jh) (hg : gdJ h) (w0 w : World) (G : Im) (F : Hp) (hs : Sat w0 w G F) :
    Calls Try.prog 42 #[.agg #[I64 h.g, I64 h.h, I64 h.e]] w fun e w' => ∃ G' u, e = .returned u ∧ Im.le G G' ∧ SV G' [] u (pad64 (hdB h)).length ((pad64 (hdB h)).map B8) ∧ Sat w0 w' G' F := by
  obtain ⟨hg1, hg2, hg3⟩ := hg
  refine f_enter (vs := [_]) Try.func42 rfl Try.ntmps42 (by simp) hs ?_
  refine ww ?_
  refine c_cons (s_boxA [I64 h.g, I64 h.h, I64 h.e] rfl rfl rfl fun b1 => ?_)
  refine c_freeze .head fun G1 hG1 k1 => ?_
  refine ww ?_
  refine c_cons (s_val (v_build (ps := []) #[.slice none 0 0, I64 0] rfl (by kernel_rfl)) rfl rfl rfl ?_)
  refine c_cons (s_boxA [.slice none 0 0, I64 0] rfl rfl rfl fun b2 => ?_)
  change Holds _ _ _ _ _ (WP b2 (.slice none 0 0) :: ([] ++ F)) _
  refine ww ?_
  refine c_cons (s_call (xs := [_, _, _]) rfl rfl rfl rfl rfl rfl (by kernel_rfl) (fun w hs => wnum_c b2 _ [] [] 1 1 (by omega) (by omega) (by simp) _ w _ _ (Own.zero none _ _) hs) ?_)
  rintro e w' ⟨v1, B1, rfl, hown1, hs'⟩; refine a_ret ?_ hs'; clear hs'
  refine ww ?_
  refine c_cons (s_val (v_field 0 rfl (by kernel_rfl)) rfl rfl rfl ?_)
  refine c_cons (s_val (v_load rfl (Cel.imm k1 rfl) (by kernel_rfl)) rfl rfl rfl ?_)
  refine c_cons (s_call (xs := [_, _, _]) rfl rfl rfl rfl rfl rfl (by kernel_rfl) (fun w hs => wnum_c b2 _ _ B1 h.g 5 (by omega) (by omega) (by simp [be_len]) _ w _ _ hown1 hs) ?_)
  rintro e w' ⟨v2, B2, rfl, hown2, hs'⟩; refine a_ret ?_ hs'; clear hs'
  refine ww ?_
  refine c_cons (s_val (v_field 1 rfl (by kernel_rfl)) rfl rfl rfl ?_)
  refine c_cons (s_val (v_load rfl (Cel.imm k1 rfl) (by kernel_rfl)) rfl rfl rfl ?_)
  refine c_cons (s_call (xs := [_, _, _]) rfl rfl rfl rfl rfl rfl (by kernel_rfl) (fun w hs => wnum_c b2 _ _ B2 h.h 1 (by omega) (by omega) (by simp [be_len]) _ w _ _ hown2 hs) ?_)
  rintro e w' ⟨v3, B3, rfl, hown3, hs'⟩; refine a_ret ?_ hs'; clear hs'
  refine ww ?_
  refine c_cons (s_val (v_field 2 rfl (by kernel_rfl)) rfl rfl rfl ?_)
  refine c_cons (s_val (v_load rfl (Cel.imm k1 rfl) (by kernel_rfl)) rfl rfl rfl ?_)
  refine c_cons (s_call (xs := [_, _, _]) rfl rfl rfl rfl rfl rfl (by kernel_rfl) (fun w hs => wnum_c b2 _ _ B3 h.e 3 (by omega) (by omega) (by simp [be_len]) _ w _ _ hown3 hs) ?_)
  rintro e w' ⟨v4, B4, rfl, hown4, hs'⟩; refine a_ret ?_ hs'; clear hs'
  have e4 : [] ++ be 1 1 ++ be h.g 5 ++ be h.h 1 ++ be h.e 3 = hdB h := by rw [List.nil_append]; rfl
  rw [e4] at hown4
  have hl10 := hdB_len h
  generalize hdB h = hd at hown4 hl10 ⊢
  refine c_freezeO hown4 (Chunk.tail Chunk.head) fun G6 hG6 hsv6 => ?_
  refine ww ?_
  refine c_cons (s_call (xs := [_]) rfl rfl rfl rfl rfl rfl (by kernel_rfl) (fun w hs => wbytesO_c b2 v4 hd (by omega) _ w _ _ hsv6 hs) ?_)
  rintro e w' ⟨u7, B7, rfl, hu7, hs'⟩; refine a_ret ?_ hs'; clear hs'
  refine c_freezeO hu7 Chunk.head fun G8 hG8 hsv8 => ?_
  refine ww ?_
  refine c_cons (s_call (xs := [_]) rfl rfl rfl rfl rfl rfl (by kernel_rfl) (fun w hs => jsec_c _ hd (by omega) _ w _ _ hsv8 hs) ?_)
  rintro e w' ⟨G9, u9, rfl, hG9, hu9, hs'⟩; refine a_ret ?_ hs'; clear hs'
  refine ww ?_
  exact f_ret1 rfl rfl (fun w hs => ⟨G9, u9, rfl, hG1.trans (hG6.trans (hG8.trans hG9)), hu9, hs.tl⟩)

theorem equal_c (va vb : Value) (xs ys : List UInt8) (w0 w : World) (G : Im) (F : Hp) (ha : SV G F va xs.length (xs.map B8)) (hb : SV G F vb ys.length (ys.map B8)) (hs : Sat w0 w G F) :
    Calls Try.prog 59 #[va, vb] w fun e w' => e = .returned (.bool (decide (xs = ys))) ∧ Sat w0 w' G F := by
  refine f_enter (vs := [_, _]) Try.func59 rfl Try.ntmps59 (by simp) hs ?_
  refine ww ?_
  refine c_cons (s_val (v_bstr 5 rfl ha (by kernel_rfl) (by kernel_rfl)) rfl rfl rfl ?_)
  refine ww ?_
  refine c_cons (s_val (v_bstr 5 rfl hb (by kernel_rfl) (by kernel_rfl)) rfl rfl rfl ?_)
  refine c_cons (s_val (v_streql rfl rfl) rfl rfl rfl ?_)
  refine ww ?_
  exact f_ret1 rfl rfl (fun w hs => ⟨rfl, hs⟩)

abbrev JhO (b : Nat) (h : Jh) : Nat × Obj := (b, Cs [I64 h.g, I64 h.h, I64 h.e] 75)
theorem jread_c (dp : Nat) (B : Hp) (D : Dk) (hr : DH dp D B) (hl : 6 ≤ D.now.length ∧ D.now.length ≤ 4160) (n : Nat) (hn : n < D.now.length) (b : List UInt8) (hb : D.now.getD n [] = b) (hb64 : b.length = 64) (w0 w : World) (G : Im) (F : Hp) (hs : Sat w0 w G (B ++ F)) :
    Calls Try.prog 37 #[Pt dp 0, I64 (n : Int)] w fun e w' => ∃ G', Im.le G G' ∧ Sat w0 w' G' (B ++ F) ∧ ((D.dead = true ∧ e = .panicked (jgone 14)) ∨ (D.dead = false ∧ e = .returned (.tuple #[.agg #[I64 (hdJ b).g, I64 (hdJ b).h, I64 (hdJ b).e], .bool (decide (hdOk D.now.length b))]))) := by
  refine f_enter (vs := [_, _]) Try.func37 rfl Try.ntmps37 (by simp) hs ?_
  refine ww ?_
  refine c_cons (s_allocA [I64 0, I64 0, I64 0] (by kernel_rfl) rfl rfl fun b1 => ?_)
  refine c_sub (B ++ ((b1, Cs [I64 0, I64 0, I64 0] 75) :: F)) sbx ?_
  refine ww ?_
  have hrd : readS D (n : Int) = if D.dead then (none, 14) else (some b, 0) := by
    unfold readS
    by_cases hd : D.dead = true
    · rw [if_pos hd, if_pos hd]
    · rw [if_neg hd, if_neg hd, if_pos (show hasS D n from ⟨by omega, by omega⟩), Int.toNat_natCast, hb]
  refine c_cons (s_call (xs := [_, _]) rfl rfl rfl rfl rfl rfl (by kernel_rfl) (fun w hs => readH_c dp B D hr n _ w _ _ hs) ?_)
  rw [hrd]
  rintro e w' ⟨G1, u1, rfl, hG1, hu1, hs'⟩; refine a_ret ?_ hs'; clear hs'
  by_cases hd : D.dead = true
  · rw [if_pos hd] at hu1 ⊢
    dsimp only
    refine ww ?_
    rw [decide_eq_false (by decide : ¬ (14 : Int) = 0)]
    refine c_cons (s_call (xs := [_, _]) rfl rfl rfl rfl rfl rfl (by kernel_rfl) (fun w hs => jmust_f 14 _ w _ _ hs) ?_)
    rintro e w' ⟨rfl, hs'⟩
    refine a_panic ?_ hs'; clear hs'
    repeat (first | refine x_then_panic ?_ | refine x_block_panic ?_)
    exact f_panic (fun w hs => ⟨G1, hG1, hs.sb, .inl ⟨hd, rfl⟩⟩)
  have hd' : D.dead = false := by simpa using hd
  rw [if_neg hd] at hu1 ⊢
  dsimp only at hu1 ⊢
  change SV G1 [] u1 b.length (b.map B8) at hu1
  refine ww ?_
  rw [decide_eq_true (by decide : (0 : Int) = 0)]
  refine c_cons (s_call (xs := [_, _]) rfl rfl rfl rfl rfl rfl (by kernel_rfl) (fun w hs => jmust_t 0 _ w _ _ hs) ?_)
  rintro e w' ⟨rfl, hs'⟩; refine a_ret ?_ hs'; clear hs'
  refine ww ?_
  refine c_cons (s_call (xs := [_]) rfl rfl rfl rfl rfl rfl (by kernel_rfl) (fun w hs => newEye_c _ b (by omega) _ w _ _ hu1 hs) ?_)
  rintro e w' ⟨G3, ep, v3, rfl, hG3, hv3, hs'⟩; refine a_ret ?_ hs'; clear hs'
  replace hu1 := hu1.mono (H' := []) hG3 (fun p hp => hp)
  refine ww ?_
  refine c_cons (s_call (xs := [_, _]) rfl rfl rfl rfl rfl rfl (by kernel_rfl) (fun w hs => enum_c ep _ 0 b 1 _ w _ _ hv3 hs) ?_)
  rw [eNum_ok (k := 1) (by omega) (by omega) 1 rfl]
  rintro e w' ⟨v4, rfl, hv4, hs'⟩; refine a_ret ?_ hs'; clear hs'
  dsimp only at hv4 ⊢
  refine ww ?_
  refine c_cons (s_allocA [I64 0, I64 0, I64 0] (by kernel_rfl) rfl rfl fun b2 => ?_)
  refine c_sub (EyO ep v4 0 :: (b2, Cs [I64 0, I64 0, I64 0] 75) :: (B ++ ((b1, Cs [I64 0, I64 0, I64 0] 75) :: F))) sbx ?_
  refine ww ?_
  refine c_cons (s_call (xs := [_, _]) rfl rfl rfl rfl rfl rfl (by kernel_rfl) (fun w hs => enum_c ep _ 0 _ 5 _ w _ _ hv4 hs) ?_)
  rw [eNum_ok (k := 5) (by omega) (by rw [List.length_drop]; omega) 5 rfl]
  rintro e w' ⟨v5, rfl, hv5, hs'⟩; refine a_ret ?_ hs'; clear hs'
  dsimp only at hv5 ⊢
  rw [List.drop_drop] at hv5
  refine c_cons (s_val (v_field 0 rfl (by kernel_rfl)) rfl rfl rfl ?_)
  refine c_cons (s_store1 rfl rfl rfl (.tail .head) (by kernel_rfl) rfl (by simp) ?_)
  change Holds _ _ _ _ _ ((b2, Cs [I64 (num ((b.drop 1).take 5) : Nat), I64 0, I64 0] 75) :: _) _
  refine c_sub (EyO ep v5 0 :: (b2, Cs [I64 (num ((b.drop 1).take 5) : Nat), I64 0, I64 0] 75) :: (B ++ ((b1, Cs [I64 0, I64 0, I64 0] 75) :: F))) sbx ?_
  refine ww ?_
  refine c_cons (s_call (xs := [_, _]) rfl rfl rfl rfl rfl rfl (by kernel_rfl) (fun w hs => enum_c ep _ 0 _ 1 _ w _ _ hv5 hs) ?_)
  rw [eNum_ok (k := 1) (by omega) (by rw [List.length_drop]; omega) 1 rfl]
  rintro e w' ⟨v6, rfl, hv6, hs'⟩; refine a_ret ?_ hs'; clear hs'
  dsimp only at hv6 ⊢
  rw [List.drop_drop] at hv6
  refine c_cons (s_val (v_field 1 rfl (by kernel_rfl)) rfl rfl rfl ?_)
  refine c_cons (s_store1 rfl rfl rfl (.tail .head) (by kernel_rfl) rfl (by simp) ?_)
  change Holds _ _ _ _ _ ((b2, Cs [I64 (num ((b.drop 1).take 5) : Nat), I64 (num ((b.drop 6).take 1) : Nat), I64 0] 75) :: _) _
  refine c_sub (EyO ep v6 0 :: (b2, Cs [I64 (num ((b.drop 1).take 5) : Nat), I64 (num ((b.drop 6).take 1) : Nat), I64 0] 75) :: (B ++ ((b1, Cs [I64 0, I64 0, I64 0] 75) :: F))) sbx ?_
  refine ww ?_
  refine c_cons (s_call (xs := [_, _]) rfl rfl rfl rfl rfl rfl (by kernel_rfl) (fun w hs => enum_c ep _ 0 _ 3 _ w _ _ hv6 hs) ?_)
  rw [eNum_ok (k := 3) (by omega) (by rw [List.length_drop]; omega) 3 rfl]
  rintro e w' ⟨v7, rfl, hv7, hs'⟩; refine a_ret ?_ hs'; clear hs'
  dsimp only at hv7 ⊢
  refine c_cons (s_val (v_field 2 rfl (by kernel_rfl)) rfl rfl rfl ?_)
  refine c_cons (s_store1 rfl rfl rfl (.tail .head) (by kernel_rfl) rfl (by simp) ?_)
  have hgd := hdJ_gd b
  have hlaid := fun h1 => laid_iff (b := b) hb64 h1
  have hokd : hdOk D.now.length b ↔ num (b.take 1) = 1 ∧ 1 ≤ (hdJ b).g ∧ (hdJ b).h ≤ 1 ∧ (hdJ b).e ≤ jz D.now.length ∧ ∀ c ∈ b.drop 10, c = 0 := Iff.rfl
  obtain ⟨h, hh⟩ : ∃ h, h = hdJ b := ⟨_, rfl⟩
  change Holds _ _ _ _ _ ((b2, Cs [I64 (hdJ b).g, I64 (hdJ b).h, I64 (hdJ b).e] 75) :: _) _
  rw [← hh] at hgd hlaid hokd ⊢
  refine c_freeze .head fun G8 hG8 k8 => ?_
  replace hu1 := hu1.mono (H' := []) hG8 (fun p hp => hp)
  have hGa := hG1.trans (hG3.trans hG8)
  refine c_sub (B ++ ((b1, Cs [I64 0, I64 0, I64 0] 75) :: F)) sbx ?_
  obtain ⟨hu0, hu⟩ : ∃ x, x = num (b.take 1) := ⟨_, rfl⟩
  rw [← hu] at hokd hlaid ⊢
  refine wn ?_
  refine c_cut (α := Im) (fun x => [(4, Pt b1 0), (10, Pt b2 0), (11, .bool (decide (hdOk D.now.length b)))]) (fun x => x) (fun x => B ++ ((b1, Cs [I64 0, I64 0, I64 0] 75) :: F)) (fun x => Im.le G8 x) ?_ ?_
  · have no : ¬ hdOk D.now.length b → Value.bool (decide (hdOk D.now.length b)) = .bool false := fun h => by rw [decide_eq_false h]
    refine ww ?_
    refine r_startS [] [] (by kernel_rfl) (fun w h => h.none) ?_
    refine r_tk 0 rfl rfl (v_move rfl) (fun _ h => h.none) ?_
    refine r_tk 1 rfl rfl (v_eql rfl rfl) (fun _ h => h.none) ?_
    refine r_tk 2 rfl rfl (v_move rfl) (fun _ h => h.none) ?_
    refine c_part_d 37 _ rfl (fun c1 => ?_) (fun c1 => ?_)
    rotate_left
    · rw [no (fun m => c1 (by have := (hokd.1 m).1; omega))]
      refine r_skip 3 rfl (by kernel_rfl) (by kernel_rfl) (by kernel_rfl) (by kernel_rfl) rfl rfl rfl (fun _ h => h.none) (by repeat (first | exact pk_body | exact pk_no | exact pk_S | apply pk_then | apply pk_block)) ?_; refine r_skip 4 rfl (by kernel_rfl) (by kernel_rfl) (by kernel_rfl) (by kernel_rfl) rfl rfl rfl (fun _ h => h.none) (by repeat (first | exact pk_body | exact pk_no | exact pk_S | apply pk_then | apply pk_block)) ?_; refine r_skip 5 rfl (by kernel_rfl) (by kernel_rfl) (by kernel_rfl) (by kernel_rfl) rfl rfl rfl (fun _ h => h.none) (by repeat (first | exact pk_body | exact pk_no | exact pk_S | apply pk_then | apply pk_block)) ?_
      refine r_tk 6 rfl rfl (v_pick_f rfl rfl) (fun _ h => h.none) ?_
      refine r_tk 7 rfl rfl (v_move rfl) (fun _ h => h.none) ?_
      refine r_skip 8 rfl (by kernel_rfl) (by kernel_rfl) (by kernel_rfl) (by kernel_rfl) rfl rfl rfl (fun _ h => h.none) (by repeat (first | exact pk_body | exact pk_no | exact pk_S | apply pk_then | apply pk_block)) ?_; refine r_skip 9 rfl (by kernel_rfl) (by kernel_rfl) (by kernel_rfl) (by kernel_rfl) rfl rfl rfl (fun _ h => h.none) (by repeat (first | exact pk_body | exact pk_no | exact pk_S | apply pk_then | apply pk_block)) ?_; refine r_skip 10 rfl (by kernel_rfl) (by kernel_rfl) (by kernel_rfl) (by kernel_rfl) rfl rfl rfl (fun _ h => h.none) (by repeat (first | exact pk_body | exact pk_no | exact pk_S | apply pk_then | apply pk_block)) ?_
      refine r_tk 11 rfl rfl (v_pick_f rfl rfl) (fun _ h => h.none) ?_
      refine r_tk 12 rfl rfl (v_move rfl) (fun _ h => h.none) ?_
      refine r_skip 13 rfl (by kernel_rfl) (by kernel_rfl) (by kernel_rfl) (by kernel_rfl) rfl rfl rfl (fun _ h => h.none) (by repeat (first | exact pk_body | exact pk_no | exact pk_S | apply pk_then | apply pk_block)) ?_; refine r_skip 14 rfl (by kernel_rfl) (by kernel_rfl) (by kernel_rfl) (by kernel_rfl) rfl rfl rfl (fun _ h => h.none) (by repeat (first | exact pk_body | exact pk_no | exact pk_S | apply pk_then | apply pk_block)) ?_; refine r_skip 15 rfl (by kernel_rfl) (by kernel_rfl) (by kernel_rfl) (by kernel_rfl) rfl rfl rfl (fun _ h => h.none) (by repeat (first | exact pk_body | exact pk_no | exact pk_S | apply pk_then | apply pk_block)) ?_; refine r_skip 16 rfl (by kernel_rfl) (by kernel_rfl) (by kernel_rfl) (by kernel_rfl) rfl rfl rfl (fun _ h => h.none) (by repeat (first | exact pk_body | exact pk_no | exact pk_S | apply pk_then | apply pk_block)) ?_; refine r_skip 17 rfl (by kernel_rfl) (by kernel_rfl) (by kernel_rfl) (by kernel_rfl) rfl rfl rfl (fun _ h => h.none) (by repeat (first | exact pk_body | exact pk_no | exact pk_S | apply pk_then | apply pk_block)) ?_
      refine r_tk 18 rfl rfl (v_pick_f rfl rfl) (fun _ h => h.none) ?_
      refine r_tk 19 rfl rfl (v_move rfl) (fun _ h => h.none) ?_
      refine r_skip 20 rfl (by kernel_rfl) (by kernel_rfl) (by kernel_rfl) (by kernel_rfl) rfl rfl rfl (fun _ h => h.none) (by repeat (first | exact pk_body | exact pk_no | exact pk_S | apply pk_then | apply pk_block)) ?_; refine r_skip 21 rfl (by kernel_rfl) (by kernel_rfl) (by kernel_rfl) (by kernel_rfl) rfl rfl rfl (fun _ h => h.none) (by repeat (first | exact pk_body | exact pk_no | exact pk_S | apply pk_then | apply pk_block)) ?_; refine r_skip 22 rfl (by kernel_rfl) (by kernel_rfl) (by kernel_rfl) (by kernel_rfl) rfl rfl rfl (fun _ h => h.none) (by repeat (first | exact pk_body | exact pk_no | exact pk_S | apply pk_then | apply pk_block)) ?_; refine r_skip 23 rfl (by kernel_rfl) (by kernel_rfl) (by kernel_rfl) (by kernel_rfl) rfl rfl rfl (fun _ h => h.none) (by repeat (first | exact pk_body | exact pk_no | exact pk_S | apply pk_then | apply pk_block)) ?_
      refine r_tk 24 rfl rfl (v_pick_f rfl rfl) (fun _ h => h.none) ?_
      refine r_tk 25 rfl rfl (v_assign rfl) (fun _ h => h.none) ?_
      refine r_done (by kernel_rfl) ?_
      refine ww ?_
      exact n_mid G8 (Im.le_refl _) ⟨rfl, rfl, rfl, trivial⟩ rfl sbx
    refine r_tk 3 rfl rfl (v_field 0 rfl (by kernel_rfl)) (fun _ h => h.none) ?_
    refine r_tk 4 rfl rfl (v_load rfl (Cel.imm k8 rfl) (by kernel_rfl)) (fun _ h => h.none) ?_
    refine r_tk 5 rfl rfl (v_geq rfl rfl) (fun _ h => h.none) ?_
    refine r_tk 6 rfl rfl (v_pick_t rfl rfl) (fun _ h => h.none) ?_
    refine r_tk 7 rfl rfl (v_move rfl) (fun _ h => h.none) ?_
    refine c_part_d 42 _ rfl (fun c2 => ?_) (fun c2 => ?_)
    rotate_left
    · rw [no (fun m => c2 (by have := (hokd.1 m).2.1; omega))]
      refine r_skip 8 rfl (by kernel_rfl) (by kernel_rfl) (by kernel_rfl) (by kernel_rfl) rfl rfl rfl (fun _ h => h.none) (by repeat (first | exact pk_body | exact pk_no | exact pk_S | apply pk_then | apply pk_block)) ?_; refine r_skip 9 rfl (by kernel_rfl) (by kernel_rfl) (by kernel_rfl) (by kernel_rfl) rfl rfl rfl (fun _ h => h.none) (by repeat (first | exact pk_body | exact pk_no | exact pk_S | apply pk_then | apply pk_block)) ?_; refine r_skip 10 rfl (by kernel_rfl) (by kernel_rfl) (by kernel_rfl) (by kernel_rfl) rfl rfl rfl (fun _ h => h.none) (by repeat (first | exact pk_body | exact pk_no | exact pk_S | apply pk_then | apply pk_block)) ?_
      refine r_tk 11 rfl rfl (v_pick_f rfl rfl) (fun _ h => h.none) ?_
      refine r_tk 12 rfl rfl (v_move rfl) (fun _ h => h.none) ?_
      refine r_skip 13 rfl (by kernel_rfl) (by kernel_rfl) (by kernel_rfl) (by kernel_rfl) rfl rfl rfl (fun _ h => h.none) (by repeat (first | exact pk_body | exact pk_no | exact pk_S | apply pk_then | apply pk_block)) ?_; refine r_skip 14 rfl (by kernel_rfl) (by kernel_rfl) (by kernel_rfl) (by kernel_rfl) rfl rfl rfl (fun _ h => h.none) (by repeat (first | exact pk_body | exact pk_no | exact pk_S | apply pk_then | apply pk_block)) ?_; refine r_skip 15 rfl (by kernel_rfl) (by kernel_rfl) (by kernel_rfl) (by kernel_rfl) rfl rfl rfl (fun _ h => h.none) (by repeat (first | exact pk_body | exact pk_no | exact pk_S | apply pk_then | apply pk_block)) ?_; refine r_skip 16 rfl (by kernel_rfl) (by kernel_rfl) (by kernel_rfl) (by kernel_rfl) rfl rfl rfl (fun _ h => h.none) (by repeat (first | exact pk_body | exact pk_no | exact pk_S | apply pk_then | apply pk_block)) ?_; refine r_skip 17 rfl (by kernel_rfl) (by kernel_rfl) (by kernel_rfl) (by kernel_rfl) rfl rfl rfl (fun _ h => h.none) (by repeat (first | exact pk_body | exact pk_no | exact pk_S | apply pk_then | apply pk_block)) ?_
      refine r_tk 18 rfl rfl (v_pick_f rfl rfl) (fun _ h => h.none) ?_
      refine r_tk 19 rfl rfl (v_move rfl) (fun _ h => h.none) ?_
      refine r_skip 20 rfl (by kernel_rfl) (by kernel_rfl) (by kernel_rfl) (by kernel_rfl) rfl rfl rfl (fun _ h => h.none) (by repeat (first | exact pk_body | exact pk_no | exact pk_S | apply pk_then | apply pk_block)) ?_; refine r_skip 21 rfl (by kernel_rfl) (by kernel_rfl) (by kernel_rfl) (by kernel_rfl) rfl rfl rfl (fun _ h => h.none) (by repeat (first | exact pk_body | exact pk_no | exact pk_S | apply pk_then | apply pk_block)) ?_; refine r_skip 22 rfl (by kernel_rfl) (by kernel_rfl) (by kernel_rfl) (by kernel_rfl) rfl rfl rfl (fun _ h => h.none) (by repeat (first | exact pk_body | exact pk_no | exact pk_S | apply pk_then | apply pk_block)) ?_; refine r_skip 23 rfl (by kernel_rfl) (by kernel_rfl) (by kernel_rfl) (by kernel_rfl) rfl rfl rfl (fun _ h => h.none) (by repeat (first | exact pk_body | exact pk_no | exact pk_S | apply pk_then | apply pk_block)) ?_
      refine r_tk 24 rfl rfl (v_pick_f rfl rfl) (fun _ h => h.none) ?_
      refine r_tk 25 rfl rfl (v_assign rfl) (fun _ h => h.none) ?_
      refine r_done (by kernel_rfl) ?_
      refine ww ?_
      exact n_mid G8 (Im.le_refl _) ⟨rfl, rfl, rfl, trivial⟩ rfl sbx
    refine r_tk 8 rfl rfl (v_field 1 rfl (by kernel_rfl)) (fun _ h => h.none) ?_
    refine r_tk 9 rfl rfl (v_load rfl (Cel.imm k8 rfl) (by kernel_rfl)) (fun _ h => h.none) ?_
    refine r_tk 10 rfl rfl (v_leq rfl rfl) (fun _ h => h.none) ?_
    refine r_tk 11 rfl rfl (v_pick_t rfl rfl) (fun _ h => h.none) ?_
    refine r_tk 12 rfl rfl (v_move rfl) (fun _ h => h.none) ?_
    refine c_part_d 47 _ rfl (fun c3 => ?_) (fun c3 => ?_)
    rotate_left
    · rw [no (fun m => c3 (by have := (hokd.1 m).2.2.1; omega))]
      refine r_skip 13 rfl (by kernel_rfl) (by kernel_rfl) (by kernel_rfl) (by kernel_rfl) rfl rfl rfl (fun _ h => h.none) (by repeat (first | exact pk_body | exact pk_no | exact pk_S | apply pk_then | apply pk_block)) ?_; refine r_skip 14 rfl (by kernel_rfl) (by kernel_rfl) (by kernel_rfl) (by kernel_rfl) rfl rfl rfl (fun _ h => h.none) (by repeat (first | exact pk_body | exact pk_no | exact pk_S | apply pk_then | apply pk_block)) ?_; refine r_skip 15 rfl (by kernel_rfl) (by kernel_rfl) (by kernel_rfl) (by kernel_rfl) rfl rfl rfl (fun _ h => h.none) (by repeat (first | exact pk_body | exact pk_no | exact pk_S | apply pk_then | apply pk_block)) ?_; refine r_skip 16 rfl (by kernel_rfl) (by kernel_rfl) (by kernel_rfl) (by kernel_rfl) rfl rfl rfl (fun _ h => h.none) (by repeat (first | exact pk_body | exact pk_no | exact pk_S | apply pk_then | apply pk_block)) ?_; refine r_skip 17 rfl (by kernel_rfl) (by kernel_rfl) (by kernel_rfl) (by kernel_rfl) rfl rfl rfl (fun _ h => h.none) (by repeat (first | exact pk_body | exact pk_no | exact pk_S | apply pk_then | apply pk_block)) ?_
      refine r_tk 18 rfl rfl (v_pick_f rfl rfl) (fun _ h => h.none) ?_
      refine r_tk 19 rfl rfl (v_move rfl) (fun _ h => h.none) ?_
      refine r_skip 20 rfl (by kernel_rfl) (by kernel_rfl) (by kernel_rfl) (by kernel_rfl) rfl rfl rfl (fun _ h => h.none) (by repeat (first | exact pk_body | exact pk_no | exact pk_S | apply pk_then | apply pk_block)) ?_; refine r_skip 21 rfl (by kernel_rfl) (by kernel_rfl) (by kernel_rfl) (by kernel_rfl) rfl rfl rfl (fun _ h => h.none) (by repeat (first | exact pk_body | exact pk_no | exact pk_S | apply pk_then | apply pk_block)) ?_; refine r_skip 22 rfl (by kernel_rfl) (by kernel_rfl) (by kernel_rfl) (by kernel_rfl) rfl rfl rfl (fun _ h => h.none) (by repeat (first | exact pk_body | exact pk_no | exact pk_S | apply pk_then | apply pk_block)) ?_; refine r_skip 23 rfl (by kernel_rfl) (by kernel_rfl) (by kernel_rfl) (by kernel_rfl) rfl rfl rfl (fun _ h => h.none) (by repeat (first | exact pk_body | exact pk_no | exact pk_S | apply pk_then | apply pk_block)) ?_
      refine r_tk 24 rfl rfl (v_pick_f rfl rfl) (fun _ h => h.none) ?_
      refine r_tk 25 rfl rfl (v_assign rfl) (fun _ h => h.none) ?_
      refine r_done (by kernel_rfl) ?_
      refine ww ?_
      exact n_mid G8 (Im.le_refl _) ⟨rfl, rfl, rfl, trivial⟩ rfl sbx
    refine r_tk 13 rfl rfl (v_field 2 rfl (by kernel_rfl)) (fun _ h => h.none) ?_
    refine r_tk 14 rfl rfl (v_load rfl (Cel.imm k8 rfl) (by kernel_rfl)) (fun _ h => h.none) ?_
    refine r_tk 15 rfl rfl (v_move rfl) (fun _ h => h.none) ?_
    refine r_one 16 (by kernel_rfl) rfl ?_
    refine s_call (xs := [_]) rfl rfl rfl rfl rfl rfl (by kernel_rfl) (fun w hs => jsize_c dp B D hr (by omega) _ w _ _ hs) ?_
    rintro e w' ⟨rfl, hs'⟩; refine a_ret ?_ hs'; clear hs'
    refine r_next (fun w h => h.none) ?_
    refine r_tk 17 rfl rfl (v_leq rfl rfl) (fun _ h => h.none) ?_
    refine r_tk 18 rfl rfl (v_pick_t rfl rfl) (fun _ h => h.none) ?_
    refine r_tk 19 rfl rfl (v_move rfl) (fun _ h => h.none) ?_
    refine c_part_d 54 _ rfl (fun c4 => ?_) (fun c4 => ?_)
    rotate_left
    · rw [no (fun m => c4 (by have := (hokd.1 m).2.2.2.1; omega))]
      refine r_skip 20 rfl (by kernel_rfl) (by kernel_rfl) (by kernel_rfl) (by kernel_rfl) rfl rfl rfl (fun _ h => h.none) (by repeat (first | exact pk_body | exact pk_no | exact pk_S | apply pk_then | apply pk_block)) ?_; refine r_skip 21 rfl (by kernel_rfl) (by kernel_rfl) (by kernel_rfl) (by kernel_rfl) rfl rfl rfl (fun _ h => h.none) (by repeat (first | exact pk_body | exact pk_no | exact pk_S | apply pk_then | apply pk_block)) ?_; refine r_skip 22 rfl (by kernel_rfl) (by kernel_rfl) (by kernel_rfl) (by kernel_rfl) rfl rfl rfl (fun _ h => h.none) (by repeat (first | exact pk_body | exact pk_no | exact pk_S | apply pk_then | apply pk_block)) ?_; refine r_skip 23 rfl (by kernel_rfl) (by kernel_rfl) (by kernel_rfl) (by kernel_rfl) rfl rfl rfl (fun _ h => h.none) (by repeat (first | exact pk_body | exact pk_no | exact pk_S | apply pk_then | apply pk_block)) ?_
      refine r_tk 24 rfl rfl (v_pick_f rfl rfl) (fun _ h => h.none) ?_
      refine r_tk 25 rfl rfl (v_assign rfl) (fun _ h => h.none) ?_
      refine r_done (by kernel_rfl) ?_
      refine ww ?_
      exact n_mid G8 (Im.le_refl _) ⟨rfl, rfl, rfl, trivial⟩ rfl sbx
    have hfin : decide (hdOk D.now.length b) = decide (b = pad64 (hdB h)) := by
      have h1 : hu0 = 1 := by omega
      have hl := hlaid h1
      refine decide_eq_decide.2 ?_
      rw [hokd, hl]
      exact ⟨fun m => m.2.2.2.2, fun m => ⟨h1, by omega, by omega, by omega, m⟩⟩
    rw [hfin]
    refine r_tk 20 rfl rfl (v_move rfl) (fun _ h => h.none) ?_
    refine r_tk 21 rfl rfl (v_loadAgg (vs := [I64 h.g, I64 h.h, I64 h.e]) rfl (by kernel_rfl) (by kernel_rfl) rfl (fun j u hj => (Cel.allI k8 hj))) (fun _ h => h.none) ?_
    refine r_one 22 (by kernel_rfl) rfl ?_
    refine s_call (xs := [_]) rfl rfl rfl rfl rfl rfl (by kernel_rfl) (fun w hs => jlaid_c h hgd _ w _ _ hs) ?_
    rintro e w' ⟨G9, u9, rfl, hG9, hu9, hs'⟩; refine a_ret ?_ hs'; clear hs'
    refine r_next (fun w h => h.none.weaken hG9) ?_
    refine r_one 23 (by kernel_rfl) rfl ?_
    refine s_call (xs := [_, _]) rfl rfl rfl rfl rfl rfl (by kernel_rfl) (fun w hs => equal_c _ _ b (pad64 (hdB h)) _ w _ _ (hu1.mono hG9 (by simp)) (hu9.mono (Im.le_refl _) (by simp)) hs) ?_
    rintro e w' ⟨rfl, hs'⟩; refine a_ret ?_ hs'; clear hs'
    refine r_next (fun w h => h.none.weaken hG9) ?_
    refine r_tk 24 rfl rfl (v_pick_t rfl rfl) (fun _ h => h.none.weaken hG9) ?_
    refine r_tk 25 rfl rfl (v_assign rfl) (fun _ h => h.none.weaken hG9) ?_
    refine r_done (by kernel_rfl) ?_
    refine ww ?_
    exact n_mid G9 hG9 ⟨rfl, rfl, rfl, trivial⟩ rfl sbx
  rintro G9 hG9
  replace k8 := hG9 _ _ k8
  refine ww ?_
  refine c_cons (s_val (v_loadAgg (vs := [I64 h.g, I64 h.h, I64 h.e]) rfl (by kernel_rfl) (by kernel_rfl) rfl (fun j u hj => (Cel.allI k8 hj))) rfl rfl rfl ?_)
  refine c_sub ((b1, Cs [I64 0, I64 0, I64 0] 75) :: (B ++ F)) sbx ?_
  refine ww ?_
  refine c_cons (s_storeA (vs := [I64 h.g, I64 h.h, I64 h.e]) rfl rfl rfl .head (by kernel_rfl) (by simp [Value.oneCell']) rfl ?_)
  refine ww ?_
  exact f_retA1 (vs := [I64 h.g, I64 h.h, I64 h.e]) rfl rfl rfl (by kernel_rfl) (by kernel_rfl) rfl (fun j u hj => Cel.all hj) (fun w hs => ⟨G9, hGa.trans hG9, hs.tl, .inr ⟨hd', rfl⟩⟩)
end

section
open Go
set_option linter.unusedVariables false
set_option linter.unusedSimpArgs false
set_option maxHeartbeats 1600000
section
variable {w0 w : World} {G : Im} {H : Hp} {n : Nat} {ds : List Deferred} {env : Env} {P : Program}
variable {dst : Option Tmp} {ty : TypeId} {pos : String} {aft : Array Edge} {g : Option (Nat × Bool)}
theorem i64_or16 (a b : Nat) (ha : a < 140737488355328) (hb : b < 65536) : bits .or .i64 ((a * 65536 : Nat) : Int) (b : Int) = ((a * 65536 + b : Nat) : Int) := by
  have h1 : b ||| a * 65536 = a * 65536 + b := by
    rw [Nat.or_comm, show (65536 : Nat) = 2 ^ 16 from rfl, ← Nat.shiftLeft_eq, Nat.shiftLeft_add_eq_or_of_lt (by simpa using hb)]
  have h2 : a * 65536 ||| b = a * 65536 + b := by rw [Nat.or_comm, h1]
  show IntKind.i64.wrap ((BitVec.ofInt 64 ((a * 65536 : Nat) : Int) ||| BitVec.ofInt 64 (b : Int)).toNat : Int) = _
  rw [BitVec.toNat_or, ofInt_u64 _ (by omega), ofInt_u64 b (by omega), h2]
  exact IntWalk.i64_in _ ⟨by omega, by omega⟩
theorem v_or16 (a b : Nat) {x y : Operand} {t t' : TypeId} {p q : Int} (hx : ev env x = some (I64 p)) (hy : ev env y = some (I64 q)) (hp : p = (a : Int) * 65536) (hq : q = b) (ha : a < 140737488355328) (hb : b < 65536) :
    Val P env G H ⟨dst, .binOp .or t x y t', ty, pos, aft, g⟩ (I64 ((a * 65536 + b : Nat) : Int)) := fun a' n ds w0 w ht hs => by
  subst hp hq
  have h2 : (binOp .or t (I64 ((a : Int) * 65536)) (I64 (b : Int))).run P w = .ok (.int .i64 (bits .or .i64 ((a : Int) * 65536) (b : Int))) w := by
    simp [binOp, Op.intBits, bits]
  have h1 := i64_or16 a b ha hb
  rw [show ((a * 65536 : Nat) : Int) = (a : Int) * 65536 by omega] at h1
  simp only [execOp, eqGuard, ht.eval hx, ht.eval hy, h2, h1]
  simp [eqGuard, h2, h1]
end
theorem num3 {xs : List UInt8} {a b c : UInt8} (h0 : xs[0]? = some a) (h1 : xs[1]? = some b) (h2 : xs[2]? = some c) : num (xs.take 3) = (a.toNat * 256 + b.toNat) * 256 + c.toNat := by
  match xs, h0, h1, h2 with
  | x :: y :: z :: r, h0, h1, h2 =>
    cases h0; cases h1; cases h2
    simp [num]
theorem p16 : (2 : Int) ^ (16 : Int).toNat = 65536 := by decide
theorem p8 : (2 : Int) ^ (8 : Int).toNat = 256 := by decide
attribute [local irreducible] Code.wp wpList stepK Holds Val wpR Eff Eff0 Code.wpIn wpListIn stepI Exit.then Exit.inBlock bodyPost bodyPostM

theorem jrec_c (dp : Nat) (B : Hp) (D : Dk) (hr : DH dp D B) (hl : 6 ≤ D.now.length ∧ D.now.length ≤ 4160) (h64 : ∀ x ∈ D.now, x.length = 64) (hd : D.dead = false) (h : Nat) (hh : h ≤ 1) (at' en : Nat) (he : en ≤ jz D.now.length) (hat : at' < en) (w0 w : World) (G : Im) (F : Hp) (hs : Sat w0 w G (B ++ F)) :
    Calls Try.prog 39 #[Pt dp 0, I64 (h : Int), I64 (at' : Int), I64 (en : Int)] w fun e w' => ∃ G', Im.le G G' ∧ Sat w0 w' G' (B ++ F) ∧
      ((recS D.now (2 + h * jz D.now.length + at') (en - at') = none ∧ e = .panicked (jgone 4)) ∨ (∃ r k u, recS D.now (2 + h * jz D.now.length + at') (en - at') = some (r, k) ∧ e = .returned (.tuple #[u, I64 (k : Int)]) ∧ SV G' [] u r.length (r.map B8))) := by
  refine f_enter (vs := [_, _, _, _]) Try.func39 rfl Try.ntmps39 (by simp) hs ?_
  obtain ⟨z1, z2⟩ := jz_le hl.1
  obtain ⟨p, hp⟩ : ∃ p, p = 2 + h * jz D.now.length + at' := ⟨_, rfl⟩
  have hpe : p + (en - at') ≤ D.now.length := by
    rw [hp]
    rcases (show h = 0 ∨ h = 1 by omega) with e | e <;> rw [e] <;> omega
  have hpi : ∀ i : Nat, ((2 + h * jz D.now.length : Nat) : Int) + (at' : Int) + (i : Int) = ((p + i : Nat) : Int) := fun i => by rw [hp]; omega
  rw [← hp]
  obtain ⟨n, hn⟩ : ∃ n, n = num ((D.now.getD p []).take 3) := ⟨_, rfl⟩
  have hrec : recS D.now p (en - at') = if jk n ≤ en - at' then some ((((D.now.drop p).take (jk n)).flatten.drop 3).take n, jk n) else none := by unfold recS; rw [← hn]
  have hk1 := jk_pos n
  have h3n : 3 + n ≤ jk n * 64 := by unfold jk; omega
  have hfl : ∀ i, i ≤ en - at' → ((D.now.drop p).take i).flatten.length = i * 64 := fun i hi => by
    rw [flat_len _ (fun x hx => h64 x (List.mem_of_mem_drop (List.mem_of_mem_take hx))), List.length_take, List.length_drop]
    congr 1; omega
  refine ww ?_
  refine c_loop (α := Nat × Im × Value × Hp × Nat) (fun x => [(0, Pt dp 0), (1, I64 (h : Int)), (2, I64 (at' : Int)), (3, I64 (en : Int)), (10, x.2.2.1), (11, I64 (x.2.2.2.2 : Int)), (12, I64 (x.1 : Int))]) (fun x => x.2.1) (fun x => x.2.2.2.1 ++ (B ++ F)) (fun x => Im.le G x.2.1 ∧ x.1 ≤ x.2.2.2.2 ∧ x.2.2.2.2 ≤ en - at' ∧ OB x.2.2.1 (((D.now.drop p).take x.1).flatten) x.2.2.2.1 ∧ ((x.1 = 0 ∧ x.2.2.2.2 = 1) ∨ (1 ≤ x.1 ∧ x.2.2.2.2 = jk n))) (fun x => en - at' - x.1) (0, G, .slice none 0 0, [], 1) ⟨Im.le_refl _, by dsimp only; omega, by dsimp only; omega, by rw [List.take_zero]; exact Own.zero none _ _, .inl ⟨rfl, rfl⟩⟩ ?_ ?_
  · exact n_at ⟨rfl, rfl, rfl, rfl, rfl, rfl, rfl, trivial⟩ sbx
  rintro ⟨i, Gi, v, Bv, need⟩ ⟨hGi, hi, hne, hob, hcase⟩
  dsimp only at hGi hi hne hob hcase ⊢
  have hfi := hfl i (by omega)
  refine ww ?_
  refine c_cond_d rfl (fun c1 => ?_) (fun c1 => ?_)
  · -- then
    have hin : i < need := by omega
    have hpl : p + i < D.now.length := by omega
    obtain ⟨s, hs0⟩ : ∃ s, D.now[p + i]? = some s := ⟨_, List.getElem?_eq_getElem hpl⟩
    have hsl : s.length = 64 := h64 s (List.mem_of_getElem? hs0)
    have hsd : D.now.getD (p + i) [] = s := by rw [List.getD, hs0]; rfl
    have htk : (D.now.drop p).take (i + 1) = (D.now.drop p).take i ++ [s] := by rw [List.take_add_one, List.getElem?_drop, hs0]; rfl
    have hrd : readS D ((p + i : Nat) : Int) = (some s, 0) := by
      unfold readS
      rw [if_neg (by simp [hd]), if_pos (show hasS D ((p + i : Nat) : Int) from ⟨by omega, by omega⟩), Int.toNat_natCast, hsd]
    refine ww ?_
    rw [decide_eq_true (show (at' : Int) + (i : Int) < (en : Int) by omega)]
    refine c_cons (s_call (xs := [_, _]) rfl rfl rfl rfl rfl rfl (by kernel_rfl) (fun w hs => jmust_t 4 _ w _ _ hs) ?_)
    rintro e w' ⟨rfl, hs'⟩; refine a_ret ?_ hs'; clear hs'
    refine c_sub (B ++ (Bv ++ F)) sbx ?_
    refine ww ?_
    refine c_cons (s_call (xs := [_, _]) rfl rfl rfl rfl rfl rfl (by kernel_rfl) (fun w hs => jstart_c dp B D hr (by omega) h hh _ w _ _ hs) ?_)
    rintro e w' ⟨rfl, hs'⟩; refine a_ret ?_ hs'; clear hs'
    refine ww ?_
    rw [hpi i]
    refine c_cons (s_call (xs := [_, _]) rfl rfl rfl rfl rfl rfl (by kernel_rfl) (fun w hs => readH_c dp B D hr _ _ w _ _ hs) ?_)
    rw [hrd]
    rintro e w' ⟨G2, u2, rfl, hG2, hu2, hs'⟩; refine a_ret ?_ hs'; clear hs'
    change SV G2 [] u2 s.length (s.map B8) at hu2
    dsimp only
    refine ww ?_
    rw [decide_eq_true (by decide : (0 : Int) = 0)]
    refine c_cons (s_call (xs := [_, _]) rfl rfl rfl rfl rfl rfl (by kernel_rfl) (fun w hs => jmust_t 0 _ w _ _ hs) ?_)
    rintro e w' ⟨rfl, hs'⟩; refine a_ret ?_ hs'; clear hs'
    refine c_sub (Bv ++ (B ++ F)) sbx ?_
    refine ww ?_
    refine c_cons (s_append (e := 5) (z := B8 0) (sz := 1) (bs := 1) (by kernel_rfl) rfl rfl rfl rfl hob Chunk.head (hu2.mono (Im.le_refl _) (by simp)) rfl (by decide) (by simp) (B8_one s) (by omega) (by omega) fun v3 B3 hown3 => ?_)
    have e3 : ((D.now.drop p).take (i + 1)).flatten = ((D.now.drop p).take i).flatten ++ s := by rw [htk, List.flatten_append]; simp
    rw [← List.map_append, ← List.length_append, ← e3] at hown3
    refine ww ?_
    refine c_cond_d rfl (fun c2 => ?_) (fun c2 => ?_)
    · -- then
      have hi0 : i = 0 := by omega
      subst hi0
      have hneed : need = 1 := by omega
      subst hneed
      have hsn : n = num (s.take 3) := by rw [hn]; rw [Nat.add_zero] at hsd; rw [hsd]
      have e0 : ((D.now.drop p).take (0 + 1)).flatten = s := by rw [e3, List.take_zero]; rfl
      rw [e0] at hown3
      obtain ⟨a, ha⟩ : ∃ a, s[0]? = some a := ⟨_, List.getElem?_eq_getElem (by omega)⟩
      obtain ⟨b, hb⟩ : ∃ a, s[1]? = some a := ⟨_, List.getElem?_eq_getElem (by omega)⟩
      obtain ⟨c, hc⟩ : ∃ a, s[2]? = some a := ⟨_, List.getElem?_eq_getElem (by omega)⟩
      have hnum := num3 ha hb hc
      rw [← hsn] at hnum
      have hal := a.toNat_lt
      have hbl := b.toNat_lt
      have hcl := c.toNat_lt
      obtain ⟨hl3, hown3'⟩ := id hown3
      rcases hown3' with ⟨ad7, rfl, h0, rfl⟩ | ⟨bx, cx, sl, rfl, hb1, hb2, hb3, rfl⟩
      · omega
      have hcel : ∀ (j : Nat) (x : UInt8) (G : Im) (H : Hp), s[j]? = some x → Cel G ((bx, Cs (s.map B8 ++ sl) 5) :: H) bx (0 + (j : Int).toNat) (B8 x) := fun j x G H hj => Cel.head (by
        have hjl := (List.getElem?_eq_some_iff.1 hj).1
        rw [Nat.zero_add, Int.toNat_natCast, List.getElem?_append_left (by rw [List.length_map]; exact hjl), List.getElem?_map, hj]; rfl)
      refine ww ?_
      refine r_startS [(bx, Cs (s.map B8 ++ sl) 5)] [] (by kernel_rfl) (fun w h => h.sb) ?_
      refine r_tk 0 rfl rfl (v_move rfl) (fun _ h => (h.sb)) ?_
      refine r_tk 1 rfl rfl (v_index1 rfl rfl (by kernel_rfl) (by omega)) (fun _ h => (h.sb)) ?_
      refine r_tk 2 rfl rfl (v_load rfl (hcel 0 a _ _ ha) (by kernel_rfl)) (fun _ h => (h.sb)) ?_
      refine r_tk 3 rfl rfl (v_u8int rfl (by kernel_rfl) (by kernel_rfl)) (fun _ h => (h.sb)) ?_
      refine r_tk 4 rfl rfl (v_shl rfl rfl (by omega) (by rw [p16]; omega)) (fun _ h => (h.sb)) ?_
      refine r_tk 5 rfl rfl (v_move rfl) (fun _ h => (h.sb)) ?_
      refine r_tk 6 rfl rfl (v_index1 rfl rfl (by kernel_rfl) (by omega)) (fun _ h => (h.sb)) ?_
      refine r_tk 7 rfl rfl (v_load rfl (hcel 1 b _ _ hb) (by kernel_rfl)) (fun _ h => (h.sb)) ?_
      refine r_tk 8 rfl rfl (v_u8int rfl (by kernel_rfl) (by kernel_rfl)) (fun _ h => (h.sb)) ?_
      refine r_tk 9 rfl rfl (v_shl rfl rfl (by omega) (by rw [p8]; omega)) (fun _ h => (h.sb)) ?_
      refine r_tk 10 rfl rfl (v_or16 a.toNat (b.toNat * 256) rfl rfl (by rw [p16]) (by rw [p8]; omega) (by omega) (by omega)) (fun _ h => (h.sb)) ?_
      refine r_tk 11 rfl rfl (v_move rfl) (fun _ h => (h.sb)) ?_
      refine r_tk 12 rfl rfl (v_index1 rfl rfl (by kernel_rfl) (by omega)) (fun _ h => (h.sb)) ?_
      refine r_tk 13 rfl rfl (v_load rfl (hcel 2 c _ _ hc) (by kernel_rfl)) (fun _ h => (h.sb)) ?_
      refine r_tk 14 rfl rfl (v_u8int rfl (by kernel_rfl) (by kernel_rfl)) (fun _ h => (h.sb)) ?_
      refine r_tk 15 rfl rfl (v_or256 (a.toNat * 256 + b.toNat) c.toNat rfl rfl (by omega) rfl (by omega) (by omega)) (fun _ h => (h.sb)) ?_
      rw [← hnum]
      refine r_one 16 (by kernel_rfl) rfl ?_
      refine s_call (xs := [_]) rfl rfl rfl rfl rfl rfl (by kernel_rfl) (fun w hs => jsectors_c n (by omega) _ w _ _ hs) ?_
      rintro e w' ⟨rfl, hs'⟩; refine a_ret ?_ hs'; clear hs'
      refine r_next (fun w h => (h.sb)) ?_
      refine r_tk 17 rfl rfl (v_assign rfl) (fun _ h => (h.sb)) ?_
      refine r_done (by kernel_rfl) ?_
      refine ww ?_
      by_cases ck : jk n ≤ en - at'
      rotate_left
      · rw [decide_eq_false (show ¬ (jk n : Int) ≤ (en : Int) - (at' : Int) by omega)]
        refine c_cons (s_call (xs := [_, _]) rfl rfl rfl rfl rfl rfl (by kernel_rfl) (fun w hs => jmust_f 4 _ w _ _ hs) ?_)
        rintro e w' ⟨rfl, hs'⟩
        refine a_panic ?_ hs'; clear hs'
        repeat (first | refine x_then_panic ?_ | refine x_block_panic ?_)
        exact f_panic (fun w hs => ⟨G2, hGi.trans hG2, hs.sb, .inl ⟨by rw [hrec, if_neg ck], rfl⟩⟩)
      rw [decide_eq_true (show (jk n : Int) ≤ (en : Int) - (at' : Int) by omega)]
      refine c_cons (s_call (xs := [_, _]) rfl rfl rfl rfl rfl rfl (by kernel_rfl) (fun w hs => jmust_t 4 _ w _ _ hs) ?_)
      rintro e w' ⟨rfl, hs'⟩; refine a_ret ?_ hs'; clear hs'
      refine ww ?_
      exact n_next (x := (0, Gi, v, Bv, 1)) (0 + 1, G2, Sl bx 0 s.length cx, [(bx, Cs (s.map B8 ++ sl) 5)], jk n) ⟨hGi.trans hG2, by dsimp only; omega, ck, by dsimp only; rw [e0]; exact hown3, .inr ⟨by dsimp only; omega, rfl⟩⟩ (by dsimp only; omega) ⟨rfl, rfl, rfl, rfl, rfl, rfl, rfl, trivial⟩ rfl sbx
    refine ww ?_
    exact n_next (x := (i, Gi, v, Bv, need)) (i + 1, G2, v3, B3, need) ⟨hGi.trans hG2, by dsimp only; omega, hne, hown3, .inr ⟨by dsimp only; omega, by dsimp only; omega⟩⟩ (by dsimp only; omega) ⟨rfl, rfl, rfl, rfl, rfl, rfl, rfl, trivial⟩ rfl sbx
  have hneed : need = jk n ∧ i = jk n := by omega
  obtain ⟨rfl, rfl⟩ := hneed
  rw [if_pos hne] at hrec
  obtain ⟨xs, hxs⟩ : ∃ xs, xs = ((D.now.drop p).take (jk n)).flatten := ⟨_, rfl⟩
  rw [← hxs] at hob hfi hrec
  obtain ⟨s, hs0⟩ : ∃ s, D.now[p]? = some s := ⟨_, List.getElem?_eq_getElem (by omega)⟩
  have hsl : s.length = 64 := h64 s (List.mem_of_getElem? hs0)
  have hx3 : xs.take 3 = (D.now.getD p []).take 3 := by
    have e1 : (D.now.drop p).take (jk n) = s :: (D.now.drop (p + 1)).take (jk n - 1) := by
      rw [show jk n = (jk n - 1) + 1 by omega, List.drop_eq_getElem_cons (show p < D.now.length by omega), List.take_succ_cons]
      congr 1
      have := (List.getElem?_eq_some_iff.1 hs0).2
      exact this
    rw [hxs, e1, List.flatten_cons, List.take_append_of_le_length (by omega), List.getD, hs0]; rfl
  obtain ⟨a, ha⟩ : ∃ a, xs[0]? = some a := ⟨_, List.getElem?_eq_getElem (by omega)⟩
  obtain ⟨b, hb⟩ : ∃ a, xs[1]? = some a := ⟨_, List.getElem?_eq_getElem (by omega)⟩
  obtain ⟨c, hc⟩ : ∃ a, xs[2]? = some a := ⟨_, List.getElem?_eq_getElem (by omega)⟩
  have hnum := num3 ha hb hc
  rw [hx3, ← hn] at hnum
  have hal := a.toNat_lt
  have hbl := b.toNat_lt
  have hcl := c.toNat_lt
  refine c_freezeO hob Chunk.head fun G4 hG4 hsv4 => ?_
  obtain ⟨_, cx, e4, hq1, hq2, hq3⟩ := id hsv4
  subst e4
  rcases hq3 with ⟨h0, _⟩ | ⟨bx, ox, rfl, hcx⟩
  · have := congrArg List.length h0; simp at this; subst this; simp at hfi; omega
  have hcel : ∀ (j : Nat) (x : UInt8) (H : Hp), xs[j]? = some x → Cel G4 H bx (ox + (j : Int).toNat) (B8 x) := fun j x H hj => by
    rw [Int.toNat_natCast]
    exact (hcx j (B8 x) (by rw [List.getElem?_map, hj]; rfl)).mono (Im.le_refl _) (by simp)
  refine ww ?_
  refine r_startS [] [] (by kernel_rfl) (fun w h => h.none) ?_
  refine r_tk 0 rfl rfl (v_move rfl) (fun _ h => h.none) ?_
  refine r_tk 1 rfl rfl (v_index1 rfl rfl (by kernel_rfl) (by omega)) (fun _ h => h.none) ?_
  refine r_tk 2 rfl rfl (v_load rfl (hcel 0 a _ ha) (by kernel_rfl)) (fun _ h => h.none) ?_
  refine r_tk 3 rfl rfl (v_u8int rfl (by kernel_rfl) (by kernel_rfl)) (fun _ h => h.none) ?_
  refine r_tk 4 rfl rfl (v_shl rfl rfl (by omega) (by rw [p16]; omega)) (fun _ h => h.none) ?_
  refine r_tk 5 rfl rfl (v_move rfl) (fun _ h => h.none) ?_
  refine r_tk 6 rfl rfl (v_index1 rfl rfl (by kernel_rfl) (by omega)) (fun _ h => h.none) ?_
  refine r_tk 7 rfl rfl (v_load rfl (hcel 1 b _ hb) (by kernel_rfl)) (fun _ h => h.none) ?_
  refine r_tk 8 rfl rfl (v_u8int rfl (by kernel_rfl) (by kernel_rfl)) (fun _ h => h.none) ?_
  refine r_tk 9 rfl rfl (v_shl rfl rfl (by omega) (by rw [p8]; omega)) (fun _ h => h.none) ?_
  refine r_tk 10 rfl rfl (v_or16 a.toNat (b.toNat * 256) rfl rfl (by rw [p16]) (by rw [p8]; omega) (by omega) (by omega)) (fun _ h => h.none) ?_
  refine r_tk 11 rfl rfl (v_move rfl) (fun _ h => h.none) ?_
  refine r_tk 12 rfl rfl (v_index1 rfl rfl (by kernel_rfl) (by omega)) (fun _ h => h.none) ?_
  refine r_tk 13 rfl rfl (v_load rfl (hcel 2 c _ hc) (by kernel_rfl)) (fun _ h => h.none) ?_
  refine r_tk 14 rfl rfl (v_u8int rfl (by kernel_rfl) (by kernel_rfl)) (fun _ h => h.none) ?_
  refine r_tk 15 rfl rfl (v_or256 (a.toNat * 256 + b.toNat) c.toNat rfl rfl (by omega) rfl (by omega) (by omega)) (fun _ h => h.none) ?_
  rw [← hnum]
  refine r_tk 16 rfl rfl (v_assign rfl) (fun _ h => h.none) ?_
  refine r_done (by kernel_rfl) ?_
  have hcap : xs.length ≤ cx := hq1
  have hmid : SV G4 [] (slMid (some ⟨bx, ox, none⟩) cx 3 (3 + n) 1) ((xs.drop 3).take n).length (((xs.drop 3).take n).map B8) := by
    have h := hsv4.mid (s := 1) (show 3 ≤ 3 + n by omega) (show 3 + n ≤ xs.length by omega)
    simp only [Nat.mul_one] at h
    rw [show 3 + n - 3 = n by omega] at h
    rw [show ((xs.drop 3).take n).length = n by rw [List.length_take, List.length_drop]; omega, List.map_take, List.map_drop]
    exact h
  refine ww ?_
  refine c_cons (s_val (v_slMid 3 (3 + n) 1 rfl rfl (by rw [Int.natCast_add]; rfl) (by kernel_rfl) (by omega) (by omega)) rfl rfl rfl ?_)
  refine c_cons (s_call (xs := [_]) rfl rfl rfl rfl rfl rfl (by kernel_rfl) (fun w hs => clone_c _ ((xs.drop 3).take n) _ w _ _ hmid (by rw [List.length_take, List.length_drop]; omega) hs) ?_)
  rintro e w' ⟨G5, u5, rfl, hG5, hu5, hs'⟩; refine a_ret ?_ hs'; clear hs'
  refine ww ?_
  exact f_ret2 rfl rfl rfl (fun w hs => ⟨G5, hGi.trans (hG4.trans hG5), hs, .inr ⟨_, _, u5, hrec, rfl, hu5⟩⟩)
end

section
open Go
set_option linter.unusedVariables false
set_option linter.unusedSimpArgs false
set_option maxHeartbeats 3200000
section
variable {w0 w : World} {G G' : Im} {H H' H1 : Hp} {n d : Nat} {ds : List Deferred} {env env2 : Env} {P : Program} {Q : Exit → Act → World → Prop} {ops : Array Oper} {K : Act → World → Prop} {late : List Nat} {L : Array Bool} {fuel : Nat}
/-- As Q; behind a panic the slots of env2 are as they were, and nothing else of them counts. -/
def pqQ (n : Nat) (ds : List Deferred) (env2 : Env) (Q : Exit → Act → World → Prop) : Exit → Act → World → Prop
  | .panic c, a, w => TT a n ds env2 ∧ ∀ a', TT a' n ds env2 → Q (.panic c) a' w
  | e, a, w => Q e a w
theorem pqQ_le : ∀ e a w, pqQ n ds env2 Q e a w → Q e a w := fun e a w h => by
  cases e with
  | panic c => exact h.2 a h.1
  | _ => exact h
theorem c_pq (env2 : Env) {c : Code} (h : Holds n ds w0 env G H (c.wp P (pqQ n ds env2 Q))) : Holds n ds w0 env G H (c.wp P Q) := fun a w ht hs => wp_mono (h a w ht hs) pqQ_le
def PanicAt (d : Nat) (Q : Exit → Act → World → Prop) : Prop := ∀ c a v w, Q (.panic c) (Act.put a (some d) v) w → Q (.panic c) a w
theorem pd_then {nx : Act → World → Prop} (h : PanicAt d Q) : PanicAt d (Exit.then nx Q) := h
theorem pd_block {id : Nat} (h : PanicAt d Q) : PanicAt d (Exit.inBlock id Q) := h
theorem pd_q (h : env2.all (fun p => p.1 != d) = true) : PanicAt d (pqQ n ds env2 Q) := fun c a v w hp => by
  refine ⟨⟨?_, hp.1.defers, fun i u hi => ?_⟩, hp.2⟩
  · have := hp.1.size
    simpa [Act.put] using this
  · have hne : i ≠ d := fun e => by
      subst e
      have h2 : ∀ (l : Env), l.all (fun p => p.1 != i) = true → l.lookup i = none := by
        intro l
        induction l with
        | nil => intro _; rfl
        | cons p l ih =>
          intro hl
          rw [List.all_cons, Bool.and_eq_true] at hl
          obtain ⟨j, x⟩ := p
          have hji : ¬ i = j := by have := hl.1; simp at this; exact fun e => this e.symm
          rw [List.lookup, show (i == j) = false by simpa using hji]
          exact ih hl.2
      rw [h2 env2 h] at hi; cases hi
    have h3 := hp.1.get i u hi
    simp only [Act.put] at h3
    rwa [Array.getElem?_setIfInBounds_ne (fun e => hne e.symm)] at h3
theorem r_tkD (i : Nat) {oi : Oper} {d : Nat} {v : Value} {G1 : Im} {H1 : Hp} (hi : ops[i]? = some oi) (hdst : oi.dst = some d) (hv : Val P env G H oi v) (hS : ∀ w, Sat w0 w G1 H1 → Sat w0 w G H)
    (k : Holds n ds w0 ((d, v) :: env) G1 H1 (wpR P ops late Q (fun w => Sat w0 w G H) fuel (L.setIfInBounds i true)))
    (hs : Region.noSelect ops = true := by kernel_rfl) (hf : Region.free .any ops L i = true := by kernel_rfl) (hr : (Region.ready .any ops L).contains i = true := by kernel_rfl)
    (hl : lateOk ops late L i = true := by kernel_rfl) (hg : gOn ops env oi = some true := by exact rfl) (hd : Nat.blt d n = true := by exact rfl) (hQ : PanicAt d Q := by repeat (first | exact pd_q rfl | apply pd_then | apply pd_block)) :
    Holds n ds w0 env G1 H1 (wpR P ops late Q (fun w => Sat w0 w G H) (fuel + 1) L) := fun a w ht hw => by
  refine wpR_first hi (Region.noSelect_spec hs) (fun c a w h => hQ c a _ w (by rw [hdst] at h; exact h)) fuel L a w (Region.free_spec hi hf) hl (by simpa using hr) (.inl ⟨gOn_spec ht hg, fun w' hw' => hv a n ds w0 w' ht hw'⟩) (hS w hw) ?_
  rw [hdst]
  exact k _ w (ht.put (of_blt hd) v) hw
theorem pq_ret (h : Holds n ds w0 env G H (Q .ret)) : Holds n ds w0 env G H (pqQ n ds env2 Q .ret) := h
theorem pq_panic {ch : List PanicEntry} (he : Env.sub env env2) (h : Holds n ds w0 env2 G H (Q (.panic ch))) : Holds n ds w0 env G H (pqQ n ds env2 Q (.panic ch)) := fun a w ht hs =>
  ⟨ht.mono (Env.sub_spec he), fun a' ht' => h a' w ht' hs⟩
/-- Behind a return: the one deferred call, then the results. -/
theorem d_ret1 {fn : Func} {f : FuncId} {cap : Array Value} {R : Ending → World → Prop} {R' : Ending → FrameMode → World → Prop} (hen : entersB P f = true)
    (hC : ∀ w, Sat w0 w G H → CallsD P f cap .returning w R') (hR : ∀ (a : Act) e u w, TT a n [{ target := .fn (.func f) cap, args := #[] }] env → R' e u w → (∃ v, e = .returned v) ∧ settle u = .returning ∧ ∃ v, (results fn a.tmps).run P w = .ok v w ∧ R (.returned v) w) :
    Holds n [{ target := .fn (.func f) cap, args := #[] }] w0 env G H (bodyPostD P fn R .ret) := fun a w ht hs => by
  show Leaves _ _ _ _ _ _ _
  rw [ht.defers]
  refine leaves_cons (by simp) (f := f) (args := cap) (by simp [invoke, enters_run hen]) ((hC w hs).mono fun e u w' h => ?_)
  obtain ⟨⟨v, rfl⟩, hu, hR'⟩ := hR a e u w' ht h
  show Leaves _ _ _ _ _ _ _
  rw [hu]
  exact hR'
theorem d_pan1 {fn : Func} {f : FuncId} {cap : Array Value} {ch : List PanicEntry} {R : Ending → World → Prop} {R' : Ending → FrameMode → World → Prop} (hen : entersB P f = true)
    (hC : ∀ w, Sat w0 w G H → CallsD P f cap (.panicking ch) w R') (hR : ∀ (a : Act) e u w, TT a n [{ target := .fn (.func f) cap, args := #[] }] env → R' e u w → (∃ v, e = .returned v) ∧ settle u = .returning ∧ ∃ v, (results fn a.tmps).run P w = .ok v w ∧ R (.returned v) w) :
    Holds n [{ target := .fn (.func f) cap, args := #[] }] w0 env G H (bodyPostD P fn R (.panic ch)) := fun a w ht hs => by
  show Leaves _ _ _ _ _ _ _
  rw [ht.defers]
  refine leaves_cons (by simp) (f := f) (args := cap) (by simp [invoke, enters_run hen]) ((hC w hs).mono fun e u w' h => ?_)
  obtain ⟨⟨v, rfl⟩, hu, hR'⟩ := hR a e u w' ht h
  show Leaves _ _ _ _ _ _ _
  rw [hu]
  exact hR'
theorem res_c2 {fn : Func} {a : Act} {t t2 : Tmp} {ty ty2 : TypeId} {b b2 : Nat} {v v2 : Value} (ht : TT a n ds env) (hr : fn.results = #[.cell t ty, .cell t2 ty2]) (hp : env.lookup t = some (Pt b 0)) (hp2 : env.lookup t2 = some (Pt b2 0)) (ha : aggB P ty = some false) (ha2 : aggB P ty2 = some false)
    (hs : Sat w0 w G H) (hb : Cel G H b 0 v) (hb2 : Cel G H b2 0 v2) : (results fn a.tmps).run P w = .ok (.tuple #[v, v2]) w := by
  have hg := ht.get t _ hp
  have hg2 := ht.get t2 _ hp2
  have hc := hb.cell hs
  have hc2 := hb2.cell hs
  simp [results, hr, hg, hg2, asAddr, loadVar, run_isAgg' ha, run_isAgg' ha2, hc, hc2]
end
attribute [local irreducible] Code.wp wpList stepK Holds Val wpR Eff Eff0 Code.wpIn wpListIn stepI Exit.then Exit.inBlock bodyPost bodyPostM

abbrev ErO (b : Nat) (c : Int) : Nat × Obj := (b, Cs [I64 c] 24)
abbrev JcO (b : Nat) (v : Value) : Nat × Obj := (b, Cs [v] 27)
abbrev JO (jp dp : Nat) (h : Jh) (s : Int) (vr : Value) : Nat × Obj := (jp, Cs [Pt dp 0, I64 h.g, I64 h.h, I64 h.e, I64 s, vr] 80)
def JH (G : Im) (jp dp : Nat) (J : Jn) (B : Hp) : Prop := ∃ vr Br, B = JO jp dp J.hd J.s vr :: Br ∧ RO G vr J.rows Br
theorem JH.up {G G' : Im} {jp dp : Nat} {J : Jn} {B : Hp} (h : JH G jp dp J B) (hG : Im.le G G') : JH G' jp dp J B := let ⟨vr, Br, h1, h2⟩ := h; ⟨vr, Br, h1, h2.up hG⟩
/-- What it gave up with is known. -/
def jrec (c : Int) : List PanicEntry := [{ v := .iface 72 (.agg #[I64 c]), recovered := true }]

theorem catchO_n (jb eb : Nat) (w0 w : World) (G : Im) (F : Hp) (hs : Sat w0 w G F) :
    CallsD Try.prog 36 #[Pt jb 0, Pt eb 0] .returning w fun e u w' => (∃ r, e = .returned r) ∧ settle u = .returning ∧ Sat w0 w' G F := by
  refine q_enter (vs := [_, _]) Try.func36 rfl Try.ntmps36 (by simp) hs fun c₀ cs hm => ?_
  refine q_seq (q_regionL [0, 1, 2, 3, 4, 5, 6, 7] rfl ?_)
  refine q_rec_n rfl rfl rfl (by simp [recoverD, hm]) ?_
  refine q_val rfl rfl rfl rfl (v_assert_n rfl (by kernel_rfl) (z := .agg #[I64 0]) (by kernel_rfl)) ?_
  refine q_val rfl rfl rfl rfl (v_move rfl) ?_
  refine q_val rfl rfl rfl rfl (v_extract rfl rfl) ?_
  refine q_val rfl rfl rfl rfl (v_extract rfl rfl) ?_
  refine q_allocA [I64 0] rfl rfl rfl (by kernel_rfl) fun b1 => ?_
  refine q_storeA (vs := [I64 0]) rfl rfl rfl rfl .head (by kernel_rfl) (by simp [Value.oneCell']) rfl ?_
  refine q_val rfl rfl rfl rfl (v_assign rfl) ?_
  refine q_nil (q_then (q_plain ?_))
  refine ww ?_
  refine c_cond_f rfl ?_
  refine ww ?_
  exact q_end (u' := c₀.mode) rfl rfl (fun w hs => ⟨⟨_, rfl⟩, by rw [hm]; rfl, hs.sb⟩)

theorem catchO_s (jb eb : Nat) (c c0 : Int) (v : Value) (w0 w : World) (G : Im) (F : Hp) (hs : Sat w0 w G (JcO jb v :: ErO eb c0 :: F)) :
    CallsD Try.prog 36 #[Pt jb 0, Pt eb 0] (.panicking (jgone c)) w fun e u w' => (∃ r, e = .returned r) ∧ settle u = .returning ∧ Sat w0 w' G (JcO jb (.pointer none) :: ErO eb c :: F) := by
  refine q_enter (vs := [_, _]) Try.func36 rfl Try.ntmps36 (by simp) hs fun c₀ cs hm => ?_
  refine q_seq (q_regionL [0, 1, 2, 3, 4, 5, 6, 7] rfl ?_)
  refine q_rec_s (v := .iface 72 (.agg #[I64 c])) (cs' := { c₀ with mode := .panicking (jrec c) } :: cs) rfl rfl rfl (by simp [recoverD, hm, jgone, jrec]) ?_
  refine q_val rfl rfl rfl rfl (v_assert_t rfl (by kernel_rfl)) ?_
  refine q_val rfl rfl rfl rfl (v_move rfl) ?_
  refine q_val rfl rfl rfl rfl (v_extract rfl rfl) ?_
  refine q_val rfl rfl rfl rfl (v_extract rfl rfl) ?_
  refine q_allocA [I64 0] rfl rfl rfl (by kernel_rfl) fun b1 => ?_
  refine q_storeA (vs := [I64 c]) rfl rfl rfl rfl .head (by kernel_rfl) (by simp [Value.oneCell']) rfl ?_
  refine q_val rfl rfl rfl rfl (v_assign rfl) ?_
  refine q_nil (q_then (q_plain ?_))
  refine ww ?_
  refine c_cond_t rfl ?_
  refine ww ?_
  refine c_sub (JcO jb v :: ErO eb c0 :: (b1, Cs [I64 c] 72) :: F) sbx ?_
  refine r_startS [(b1, Cs [I64 c] 72)] [] (by kernel_rfl) (fun w h => h.sb) ?_
  refine r_tk 0 rfl rfl (v_field 0 rfl (by kernel_rfl)) (fun _ h => (h.sb)) ?_
  refine r_tk 1 rfl rfl (v_load rfl (Cel.head rfl) (by kernel_rfl)) (fun _ h => (h.sb)) ?_
  refine r_one 2 (by kernel_rfl) rfl ?_
  refine s_store1 rfl rfl rfl .head (by kernel_rfl) rfl (by simp) ?_
  refine r_next (fun w h => h.sb) ?_
  refine r_one 3 (by kernel_rfl) rfl ?_
  refine s_store1 rfl rfl rfl (.tail .head) (by kernel_rfl) rfl (by simp) ?_
  refine r_next (fun w h => h.sb) ?_
  refine r_done (by kernel_rfl) ?_
  refine ww ?_
  exact q_end (u' := .panicking (jrec c)) rfl rfl (fun w hs => ⟨⟨_, rfl⟩, rfl, (show Sat w0 w G (ErO eb c :: JcO jb (.pointer none) :: (b1, Cs [I64 c] 72) :: F) from hs).sb⟩)

/-- How Open ends where it gives up. -/
theorem open_pan (c c0 : Int) (jb eb : Nat) (v : Value) (w0 : World) (G0 G : Im) (K F : Hp) (hG : Im.le G0 G) (fn : Func) (hr : fn.results = #[.cell 2 27, .cell 3 24]) (R : Ending → World → Prop) (n : Nat) (hR : ∀ w, Sat w0 w G F → R (.returned (.tuple #[.pointer none, I64 c])) w) :
    Holds n [{ target := .fn (.func 36) #[Pt jb 0, Pt eb 0], args := #[] }] w0 [(2, Pt jb 0), (3, Pt eb 0)] G (JcO jb v :: ErO eb c0 :: (K ++ F)) (bodyPostD Try.prog fn R (.panic (jgone c))) :=
  d_pan1 (by kernel_rfl) (fun w hs => catchO_s jb eb c c0 v _ w _ _ hs) (fun a e y w' ht ⟨h1, h2, h3⟩ => ⟨h1, h2, _, res_c2 ht hr rfl rfl (by kernel_rfl) (by kernel_rfl) h3 (Cel.head rfl) (Cel.tail (Cel.head rfl)), hR w' (h3.sb)⟩)
end
end

section
section
open Go
set_option linter.unusedVariables false
set_option linter.unusedSimpArgs false
set_option maxHeartbeats 3200000
/-- What a head finds. -/
theorem open_pick {L : List (List UInt8)} {x y : List UInt8} (h0 : L.getD 0 [] = x) (h1 : L.getD 1 [] = y) : openS L =
    if (hdOk L.length x ∨ hdOk L.length y) ∧ ¬ (hdOk L.length x ∧ hdOk L.length y ∧ (hdJ x).g = (hdJ y).g) then
      if ¬ hdOk L.length x ∨ (hdOk L.length y ∧ (hdJ x).g < (hdJ y).g) then (recsS L (hdJ y).e.toNat (2 + (hdJ y).h.toNat * jz L.length) (hdJ y).e.toNat).map fun rows => ⟨hdJ y, 1, rows⟩
      else (recsS L (hdJ x).e.toNat (2 + (hdJ x).h.toNat * jz L.length) (hdJ x).e.toNat).map fun rows => ⟨hdJ x, 0, rows⟩
    else none := by
  unfold openS
  rw [h0, h1]
  by_cases c1 : (hdOk L.length x ∨ hdOk L.length y) ∧ ¬ (hdOk L.length x ∧ hdOk L.length y ∧ (hdJ x).g = (hdJ y).g)
  · rw [if_pos c1, if_pos c1]
    by_cases c2 : ¬ hdOk L.length x ∨ (hdOk L.length y ∧ (hdJ x).g < (hdJ y).g)
    · rw [if_pos c2, if_pos c2]
      cases recsS L (hdJ y).e.toNat (2 + (hdJ y).h.toNat * jz L.length) (hdJ y).e.toNat <;> rfl
    · rw [if_neg c2, if_neg c2]
      cases recsS L (hdJ x).e.toNat (2 + (hdJ x).h.toNat * jz L.length) (hdJ x).e.toNat <;> rfl
  · rw [if_neg c1, if_neg c1]
attribute [local irreducible] Code.wp wpList stepK Holds Val wpR Eff Eff0 Code.wpIn wpListIn stepI Exit.then Exit.inBlock bodyPost bodyPostM

theorem jopen_c (dp : Nat) (B : Hp) (D : Dk) (hr : DH dp D B) (hl : 6 ≤ D.now.length ∧ D.now.length ≤ 4160) (h64 : ∀ x ∈ D.now, x.length = 64) (w0 w : World) (G : Im) (F : Hp) (hs : Sat w0 w G (B ++ F)) :
    Calls Try.prog 11 #[Pt dp 0] w fun e w' => ∃ G', Im.le G G' ∧
      ((D.dead = true ∧ e = .returned (.tuple #[.pointer none, I64 14]) ∧ Sat w0 w' G' (B ++ F)) ∨
       (D.dead = false ∧ openS D.now = none ∧ e = .returned (.tuple #[.pointer none, I64 4]) ∧ Sat w0 w' G' (B ++ F)) ∨
       (D.dead = false ∧ ∃ J jp Bj, openS D.now = some J ∧ e = .returned (.tuple #[Pt jp 0, I64 0]) ∧ JH G' jp dp J Bj ∧ Sat w0 w' G' (Bj ++ (B ++ F)))) := by
  refine f_enterD (vs := [_]) Try.func11 rfl Try.ntmps11 (by simp) hs ?_
  obtain ⟨z1, z2⟩ := jz_le hl.1
  refine ww ?_
  refine c_cons (s_alloc (.pointer none) (by kernel_rfl) rfl rfl fun b1 => ?_)
  refine c_cons (s_alloc (I64 0) (by kernel_rfl) rfl rfl fun b2 => ?_)
  change Holds _ _ _ _ _ (ErO b2 0 :: JcO b1 (.pointer none) :: (B ++ F)) _
  refine c_sub (B ++ (ErO b2 0 :: JcO b1 (.pointer none) :: F)) sbx ?_
  refine ww ?_
  refine c_cons (s_call (xs := [_]) rfl rfl rfl rfl rfl rfl (by kernel_rfl) (fun w hs => sectorsH_c dp B D hr _ w _ _ hs) ?_)
  rintro e w' ⟨rfl, hs'⟩; refine a_ret ?_ hs'; clear hs'
  refine ww ?_
  refine c_cond_d rfl (fun c2 => ?_) (fun c2 => ?_)
  · exfalso; omega
  refine ww ?_
  refine c_cons (s_defer rfl rfl rfl rfl ?_)
  refine wn ?_
  refine c_pq [(2, Pt b1 0), (3, Pt b2 0)] ?_
  -- the first head
  obtain ⟨x, hx⟩ : ∃ x, D.now[0]? = some x := ⟨_, List.getElem?_eq_getElem (by omega)⟩
  have hxd : D.now.getD 0 [] = x := by rw [List.getD, hx]; rfl
  have hx64 := h64 x (List.mem_of_getElem? hx)
  obtain ⟨y, hy⟩ : ∃ y, D.now[1]? = some y := ⟨_, List.getElem?_eq_getElem (by omega)⟩
  have hyd : D.now.getD 1 [] = y := by rw [List.getD, hy]; rfl
  have hy64 := h64 y (List.mem_of_getElem? hy)
  refine ww ?_
  refine c_cons (s_call (xs := [_, _]) rfl rfl rfl rfl rfl rfl (by kernel_rfl) (fun w hs => jread_c dp B D hr hl 0 (by omega) x hxd hx64 _ w _ _ hs) ?_)
  rintro e w' ⟨G1, hG1, hs', ⟨hdead, rfl⟩ | ⟨hdead, rfl⟩⟩
  · refine a_panic ?_ hs'; clear hs'
    repeat (first | refine x_then_panic ?_ | refine x_block_panic ?_)
    refine pq_panic ⟨rfl, rfl, trivial⟩ ?_
    refine c_sub (JcO b1 (.pointer none) :: ErO b2 0 :: ([] ++ (B ++ F))) sbx ?_
    exact open_pan 14 0 b1 b2 _ w0 G G1 [] (B ++ F) hG1 _ rfl _ _ (fun w hs => ⟨G1, hG1, .inl ⟨hdead, rfl, hs⟩⟩)
  refine a_ret ?_ hs'; clear hs'
  have hpick := open_pick hxd hyd
  have hgx := hdJ_gd x
  have hgy := hdJ_gd y
  have hokx : hdOk D.now.length x → (1 ≤ (hdJ x).g ∧ (hdJ x).h ≤ 1 ∧ (hdJ x).e ≤ jz D.now.length) := fun h => ⟨h.2.1, h.2.2.1, h.2.2.2.1⟩
  have hoky : hdOk D.now.length y → (1 ≤ (hdJ y).g ∧ (hdJ y).h ≤ 1 ∧ (hdJ y).e ≤ jz D.now.length) := fun h => ⟨h.2.1, h.2.2.1, h.2.2.2.1⟩
  obtain ⟨a, ha⟩ : ∃ a, a = hdJ x := ⟨_, rfl⟩
  obtain ⟨b, hb⟩ : ∃ b, b = hdJ y := ⟨_, rfl⟩
  rw [← ha] at hpick hgx hokx
  rw [← hb] at hpick hgy hoky
  rw [← ha]
  refine ww ?_
  refine c_cons (s_allocA [I64 0, I64 0, I64 0] (by kernel_rfl) rfl rfl fun b3 => ?_)
  refine c_cons (s_storeA (vs := [I64 a.g, I64 a.h, I64 a.e]) rfl rfl rfl .head (by kernel_rfl) (by simp [Value.oneCell']) rfl ?_)
  refine c_freeze .head fun G2 hG2 k3 => ?_
  refine ww ?_
  refine c_cons (s_call (xs := [_, _]) rfl rfl rfl rfl rfl rfl (by kernel_rfl) (fun w hs => jread_c dp B D hr hl 1 (by omega) y hyd hy64 _ w _ _ hs) ?_)
  rintro e w' ⟨G4, hG4, hs', ⟨hdead', rfl⟩ | ⟨_, rfl⟩⟩
  · rw [hdead] at hdead'; cases hdead'
  refine a_ret ?_ hs'; clear hs'
  replace k3 := hG4 _ _ k3
  rw [← hb]
  refine ww ?_
  refine c_cons (s_allocA [I64 0, I64 0, I64 0] (by kernel_rfl) rfl rfl fun b4 => ?_)
  refine c_cons (s_storeA (vs := [I64 b.g, I64 b.h, I64 b.e]) rfl rfl rfl .head (by kernel_rfl) (by simp [Value.oneCell']) rfl ?_)
  refine c_freeze .head fun G5 hG5 k4 => ?_
  replace k3 := hG5 _ _ k3
  have hGa := hG1.trans (hG2.trans (hG4.trans hG5))
  refine c_sub (JcO b1 (.pointer none) :: ErO b2 0 :: (B ++ F)) sbx ?_
  refine wn ?_
  refine c_env [(0, Pt dp 0), (2, Pt b1 0), (3, Pt b2 0), (4, Pt b3 0), (5, .bool (decide (hdOk D.now.length x))), (6, Pt b4 0), (7, .bool (decide (hdOk D.now.length y)))] ⟨rfl, rfl, rfl, rfl, rfl, rfl, rfl, trivial⟩ ?_
  have tobad : openS D.now = none → ∀ w, Sat w0 w G5 (B ++ F) → ∃ G', Im.le G G' ∧
      ((D.dead = true ∧ Ending.returned (.tuple #[.pointer none, I64 4]) = .returned (.tuple #[.pointer none, I64 14]) ∧ Sat w0 w G' (B ++ F)) ∨
       (D.dead = false ∧ openS D.now = none ∧ Ending.returned (.tuple #[.pointer none, I64 4]) = .returned (.tuple #[.pointer none, I64 4]) ∧ Sat w0 w G' (B ++ F)) ∨
       (D.dead = false ∧ ∃ J jp Bj, openS D.now = some J ∧ Ending.returned (.tuple #[.pointer none, I64 4]) = .returned (.tuple #[Pt jp 0, I64 0]) ∧ JH G' jp dp J Bj ∧ Sat w0 w G' (Bj ++ (B ++ F)))) := fun h w hs => ⟨G5, hGa, .inr (.inl ⟨hdead, h, rfl, hs⟩)⟩
  refine c_cut (α := Unit) (fun _ => [(0, Pt dp 0), (2, Pt b1 0), (3, Pt b2 0), (4, Pt b3 0), (5, .bool (decide (hdOk D.now.length x))), (6, Pt b4 0), (7, .bool (decide (hdOk D.now.length y)))]) (fun _ => G5) (fun _ => JcO b1 (.pointer none) :: ErO b2 0 :: (B ++ F)) (fun _ => hdOk D.now.length x ∨ hdOk D.now.length y) ?_ ?_
  · by_cases ox : hdOk D.now.length x
    · rw [decide_eq_true ox]
      refine ww ?_
      refine c_cons (s_call (xs := [_, _]) rfl rfl rfl rfl rfl rfl (by kernel_rfl) (fun w hs => jmust_t 4 _ w _ _ hs) ?_)
      rintro e w' ⟨rfl, hs'⟩; refine a_ret ?_ hs'; clear hs'
      refine ww ?_
      exact n_mid () (.inl ox) ⟨rfl, rfl, rfl, rfl, rfl, rfl, rfl, trivial⟩ rfl sbx
    rw [decide_eq_false ox]
    by_cases oy : hdOk D.now.length y
    · rw [decide_eq_true oy]
      refine ww ?_
      refine c_cons (s_call (xs := [_, _]) rfl rfl rfl rfl rfl rfl (by kernel_rfl) (fun w hs => jmust_t 4 _ w _ _ hs) ?_)
      rintro e w' ⟨rfl, hs'⟩; refine a_ret ?_ hs'; clear hs'
      refine ww ?_
      exact n_mid () (.inr oy) ⟨rfl, rfl, rfl, rfl, rfl, rfl, rfl, trivial⟩ rfl sbx
    rw [decide_eq_false oy]
    refine ww ?_
    refine c_cons (s_call (xs := [_, _]) rfl rfl rfl rfl rfl rfl (by kernel_rfl) (fun w hs => jmust_f 4 _ w _ _ hs) ?_)
    rintro e w' ⟨rfl, hs'⟩
    refine a_panic ?_ hs'; clear hs'
    repeat (first | refine x_then_panic ?_ | refine x_block_panic ?_)
    refine pq_panic ⟨rfl, rfl, trivial⟩ ?_
    refine c_sub (JcO b1 (.pointer none) :: ErO b2 0 :: ([] ++ (B ++ F))) sbx ?_
    exact open_pan 4 0 b1 b2 _ w0 G G5 [] (B ++ F) hGa _ rfl _ _ (tobad (by rw [hpick, if_neg (fun h => h.1.elim ox oy)]))
  rintro _ hor
  refine c_cut (α := Unit) (fun _ => [(0, Pt dp 0), (2, Pt b1 0), (3, Pt b2 0), (4, Pt b3 0), (5, .bool (decide (hdOk D.now.length x))), (6, Pt b4 0), (7, .bool (decide (hdOk D.now.length y)))]) (fun _ => G5) (fun _ => JcO b1 (.pointer none) :: ErO b2 0 :: (B ++ F)) (fun _ => ¬ (hdOk D.now.length x ∧ hdOk D.now.length y ∧ a.g = b.g)) ?_ ?_
  · by_cases ox : hdOk D.now.length x
    rotate_left
    · rw [decide_eq_false ox]
      refine ww ?_
      refine c_cons (s_call (xs := [_, _]) rfl rfl rfl rfl rfl rfl (by kernel_rfl) (fun w hs => jmust_t 4 _ w _ _ hs) ?_)
      rintro e w' ⟨rfl, hs'⟩; refine a_ret ?_ hs'; clear hs'
      refine ww ?_
      exact n_mid () (fun h => ox h.1) ⟨rfl, rfl, rfl, rfl, rfl, rfl, rfl, trivial⟩ rfl sbx
    rw [decide_eq_true ox]
    by_cases oy : hdOk D.now.length y
    rotate_left
    · rw [decide_eq_false oy]
      refine ww ?_
      refine c_cons (s_call (xs := [_, _]) rfl rfl rfl rfl rfl rfl (by kernel_rfl) (fun w hs => jmust_t 4 _ w _ _ hs) ?_)
      rintro e w' ⟨rfl, hs'⟩; refine a_ret ?_ hs'; clear hs'
      refine ww ?_
      exact n_mid () (fun h => oy h.2.1) ⟨rfl, rfl, rfl, rfl, rfl, rfl, rfl, trivial⟩ rfl sbx
    rw [decide_eq_true oy]
    refine ww ?_
    refine c_cons (s_val (v_field 0 rfl (by kernel_rfl)) rfl rfl rfl ?_)
    refine c_cons (s_val (v_load rfl (Cel.imm k3 rfl) (by kernel_rfl)) rfl rfl rfl ?_)
    refine c_cons (s_val (v_field 0 rfl (by kernel_rfl)) rfl rfl rfl ?_)
    refine c_cons (s_val (v_load rfl (Cel.imm k4 rfl) (by kernel_rfl)) rfl rfl rfl ?_)
    refine ww ?_
    by_cases og : a.g = b.g
    rotate_left
    · rw [decide_eq_true (show ¬ a.g = b.g from og)]
      refine c_cons (s_call (xs := [_, _]) rfl rfl rfl rfl rfl rfl (by kernel_rfl) (fun w hs => jmust_t 4 _ w _ _ hs) ?_)
      rintro e w' ⟨rfl, hs'⟩; refine a_ret ?_ hs'; clear hs'
      refine ww ?_
      exact n_mid () (fun h => og h.2.2) ⟨rfl, rfl, rfl, rfl, rfl, rfl, rfl, trivial⟩ rfl sbx
    rw [decide_eq_false (show ¬ ¬ a.g = b.g from fun h => h og)]
    refine c_cons (s_call (xs := [_, _]) rfl rfl rfl rfl rfl rfl (by kernel_rfl) (fun w hs => jmust_f 4 _ w _ _ hs) ?_)
    rintro e w' ⟨rfl, hs'⟩
    refine a_panic ?_ hs'; clear hs'
    repeat (first | refine x_then_panic ?_ | refine x_block_panic ?_)
    refine pq_panic ⟨rfl, rfl, trivial⟩ ?_
    refine c_sub (JcO b1 (.pointer none) :: ErO b2 0 :: ([] ++ (B ++ F))) sbx ?_
    exact open_pan 4 0 b1 b2 _ w0 G G5 [] (B ++ F) hGa _ rfl _ _ (tobad (by rw [hpick, if_neg (fun h => h.2 ⟨ox, oy, og⟩)]))
  rintro _ hne
  rw [if_pos ⟨hor, hne⟩] at hpick
  refine ww ?_
  refine c_cons (s_val (v_loadAgg (vs := [I64 a.g, I64 a.h, I64 a.e]) rfl (by kernel_rfl) (by kernel_rfl) rfl (fun j u hj => (Cel.allI k3 hj))) rfl rfl rfl ?_)
  refine c_cons (s_val (v_build (ps := [_, _]) #[Pt dp 0, I64 a.g, I64 a.h, I64 a.e, I64 0, .slice none 0 0] rfl (by kernel_rfl)) rfl rfl rfl ?_)
  refine c_cons (s_boxA [Pt dp 0, I64 a.g, I64 a.h, I64 a.e, I64 0, .slice none 0 0] rfl rfl rfl fun jp => ?_)
  refine c_cons (s_store1 rfl rfl rfl (.tail .head) (by kernel_rfl) rfl (by simp) ?_)
  change Holds _ _ _ _ _ (JcO b1 (Pt jp 0) :: JO jp dp a 0 (.slice none 0 0) :: ErO b2 0 :: (B ++ F)) _
  refine wn ?_
  -- which head counts
  refine c_cut (α := Jh × Int) (fun _ => [(0, Pt dp 0), (2, Pt b1 0), (3, Pt b2 0)]) (fun _ => G5) (fun z => JcO b1 (Pt jp 0) :: JO jp dp z.1 z.2 (.slice none 0 0) :: ErO b2 0 :: (B ++ F)) (fun z => openS D.now = (recsS D.now z.1.e.toNat (2 + z.1.h.toNat * jz D.now.length) z.1.e.toNat).map (fun rows => ⟨z.1, z.2, rows⟩) ∧ (0 ≤ z.1.h ∧ z.1.h ≤ 1) ∧ 0 ≤ z.1.e ∧ z.1.e ≤ jz D.now.length) ?_ ?_
  · by_cases ox : hdOk D.now.length x
    rotate_left
    · rw [decide_eq_false ox]
      rw [if_pos (.inl ox)] at hpick
      obtain ⟨g1, g2, g3⟩ := hoky (hor.resolve_left ox)
      refine ww ?_
      refine c_cond_t rfl ?_
      refine r_startS [JcO b1 (Pt jp 0)] [] (by kernel_rfl) (fun w h => h.sb) ?_
      refine r_tkD 0 rfl rfl (v_load rfl (Cel.head rfl) (by kernel_rfl)) (fun _ h => (h.sb)) ?_
      refine r_tkD 1 rfl rfl (v_load rfl (Cel.head rfl) (by kernel_rfl)) (fun _ h => (h.sb)) ?_
      refine r_tkD 2 rfl rfl (v_loadAgg (vs := [I64 b.g, I64 b.h, I64 b.e]) rfl (by kernel_rfl) (by kernel_rfl) rfl (fun j u hj => (Cel.allI k4 hj))) (fun _ h => (h.sb)) ?_
      refine r_tkD 3 rfl rfl (v_nilCheck rfl) (fun _ h => (h.sb)) ?_
      refine r_tkD 4 rfl rfl (v_field 1 rfl (by kernel_rfl)) (fun _ h => (h.sb)) ?_
      refine r_one 5 (by kernel_rfl) rfl ?_
      refine s_storeAt (vs := [I64 b.g, I64 b.h, I64 b.e]) rfl rfl rfl (.tail .head) (by kernel_rfl) (by simp [Value.oneCell']) (by simp) ?_
      change Holds _ _ _ _ _ (JO jp dp b 0 (.slice none 0 0) :: JcO b1 (Pt jp 0) :: ErO b2 0 :: (B ++ F)) _
      refine r_next (fun w h => (h.sb)) ?_
      refine r_tkD 6 rfl rfl (v_nilCheck rfl) (fun _ h => (h.sb)) ?_
      refine r_tkD 7 rfl rfl (v_field 4 rfl (by kernel_rfl)) (fun _ h => (h.sb)) ?_
      refine r_one 8 (by kernel_rfl) rfl ?_
      refine s_store1 rfl rfl rfl .head (by kernel_rfl) rfl (by simp) ?_
      change Holds _ _ _ _ _ (JO jp dp b 1 (.slice none 0 0) :: JcO b1 (Pt jp 0) :: ErO b2 0 :: (B ++ F)) _
      refine r_next (fun w h => (h.sb)) ?_
      refine r_done (by kernel_rfl) ?_
      refine ww ?_
      exact n_mid (b, 1) ⟨hpick, by dsimp only; have := hgy.2; omega, by dsimp only; have := hgy.2; omega, g3⟩ ⟨rfl, rfl, rfl, trivial⟩ rfl sbx
    rw [decide_eq_true ox]
    obtain ⟨f1, f2, f3⟩ := hokx ox
    by_cases oy : hdOk D.now.length y
    rotate_left
    · rw [decide_eq_false oy]
      rw [if_neg (fun h => h.elim (fun h => h ox) (fun h => oy h.1))] at hpick
      refine ww ?_
      refine c_cond_f rfl ?_
      refine ww ?_
      exact n_mid (a, 0) ⟨hpick, by dsimp only; have := hgx.2; omega, by dsimp only; have := hgx.2; omega, f3⟩ ⟨rfl, rfl, rfl, trivial⟩ rfl sbx
    rw [decide_eq_true oy]
    obtain ⟨g1, g2, g3⟩ := hoky oy
    refine ww ?_
    refine c_cons (s_val (v_field 0 rfl (by kernel_rfl)) rfl rfl rfl ?_)
    refine c_cons (s_val (v_load rfl (Cel.imm k4 rfl) (by kernel_rfl)) rfl rfl rfl ?_)
    refine c_cons (s_val (v_field 0 rfl (by kernel_rfl)) rfl rfl rfl ?_)
    refine c_cons (s_val (v_load rfl (Cel.imm k3 rfl) (by kernel_rfl)) rfl rfl rfl ?_)
    refine ww ?_
    refine c_cond_d rfl (fun og => ?_) (fun og => ?_)
    · rw [if_pos (.inr ⟨oy, og⟩)] at hpick
      refine r_startS [JcO b1 (Pt jp 0)] [] (by kernel_rfl) (fun w h => h.sb) ?_
      refine r_tkD 0 rfl rfl (v_load rfl (Cel.head rfl) (by kernel_rfl)) (fun _ h => (h.sb)) ?_
      refine r_tkD 1 rfl rfl (v_load rfl (Cel.head rfl) (by kernel_rfl)) (fun _ h => (h.sb)) ?_
      refine r_tkD 2 rfl rfl (v_loadAgg (vs := [I64 b.g, I64 b.h, I64 b.e]) rfl (by kernel_rfl) (by kernel_rfl) rfl (fun j u hj => (Cel.allI k4 hj))) (fun _ h => (h.sb)) ?_
      refine r_tkD 3 rfl rfl (v_nilCheck rfl) (fun _ h => (h.sb)) ?_
      refine r_tkD 4 rfl rfl (v_field 1 rfl (by kernel_rfl)) (fun _ h => (h.sb)) ?_
      refine r_one 5 (by kernel_rfl) rfl ?_
      refine s_storeAt (vs := [I64 b.g, I64 b.h, I64 b.e]) rfl rfl rfl (.tail .head) (by kernel_rfl) (by simp [Value.oneCell']) (by simp) ?_
      change Holds _ _ _ _ _ (JO jp dp b 0 (.slice none 0 0) :: JcO b1 (Pt jp 0) :: ErO b2 0 :: (B ++ F)) _
      refine r_next (fun w h => (h.sb)) ?_
      refine r_tkD 6 rfl rfl (v_nilCheck rfl) (fun _ h => (h.sb)) ?_
      refine r_tkD 7 rfl rfl (v_field 4 rfl (by kernel_rfl)) (fun _ h => (h.sb)) ?_
      refine r_one 8 (by kernel_rfl) rfl ?_
      refine s_store1 rfl rfl rfl .head (by kernel_rfl) rfl (by simp) ?_
      change Holds _ _ _ _ _ (JO jp dp b 1 (.slice none 0 0) :: JcO b1 (Pt jp 0) :: ErO b2 0 :: (B ++ F)) _
      refine r_next (fun w h => (h.sb)) ?_
      refine r_done (by kernel_rfl) ?_
      refine ww ?_
      exact n_mid (b, 1) ⟨hpick, by dsimp only; have := hgy.2; omega, by dsimp only; have := hgy.2; omega, g3⟩ ⟨rfl, rfl, rfl, trivial⟩ rfl sbx
    rw [if_neg (fun h => h.elim (fun h => h ox) (fun h => og h.2))] at hpick
    refine ww ?_
    exact n_mid (a, 0) ⟨hpick, by dsimp only; have := hgx.2; omega, by dsimp only; have := hgx.2; omega, f3⟩ ⟨rfl, rfl, rfl, trivial⟩ rfl sbx
  rintro ⟨hd, sl⟩ ⟨hop, hh, he0, he1⟩
  dsimp only at hop hh he0 he1 ⊢
  clear hpick
  obtain ⟨g, h, e⟩ := hd
  dsimp only at hop hh he0 he1 ⊢
  obtain ⟨hn, rfl⟩ : ∃ hn : Nat, h = hn := ⟨h.toNat, by omega⟩
  obtain ⟨en, rfl⟩ : ∃ en : Nat, e = en := ⟨e.toNat, by omega⟩
  rw [Int.toNat_natCast, Int.toNat_natCast] at hop
  have hz : jz D.now.length ≤ 2079 := by unfold jz; omega
  refine ww ?_
  refine c_loop (α := Nat × Im × Value × Hp × List (List UInt8)) (fun x => [(0, Pt dp 0), (2, Pt b1 0), (3, Pt b2 0), (8, I64 (x.1 : Int))]) (fun x => x.2.1) (fun x => JcO b1 (Pt jp 0) :: JO jp dp ⟨g, hn, en⟩ sl x.2.2.1 :: ErO b2 0 :: (x.2.2.2.1 ++ (B ++ F))) (fun x => x.1 ≤ en ∧ Im.le G5 x.2.1 ∧ RO x.2.1 x.2.2.1 x.2.2.2.2 x.2.2.2.1 ∧ x.2.2.2.2.length ≤ x.1 ∧ recsS D.now en (2 + hn * jz D.now.length) en = (recsS D.now (en - x.1) (2 + hn * jz D.now.length + x.1) (en - x.1)).map (fun rs => x.2.2.2.2 ++ rs)) (fun x => en - x.1) (0, G5, .slice none 0 0, [], []) ⟨Nat.zero_le _, Im.le_refl _, RO.zero _ _, by simp, by dsimp only; rw [Nat.sub_zero, Nat.add_zero]; simp⟩ ?_ ?_
  · exact n_at ⟨rfl, rfl, rfl, rfl, trivial⟩ sbx
  rintro ⟨i, Gi, vr, Br, rows⟩ ⟨hi, hGi, hro, hrl, hrr⟩
  dsimp only at hi hGi hro hrl hrr ⊢
  refine ww ?_
  refine c_cons (s_val (v_load rfl (Cel.head rfl) (by kernel_rfl)) rfl rfl rfl ?_)
  refine ww ?_
  refine c_cons (s_val (v_field 1 rfl (by kernel_rfl)) rfl rfl rfl ?_)
  refine c_cons (s_val (v_field 2 rfl (by kernel_rfl)) rfl rfl rfl ?_)
  refine c_cons (s_val (v_load rfl (Cel.tail (Cel.head rfl)) (by kernel_rfl)) rfl rfl rfl ?_)
  refine ww ?_
  refine c_cond_d rfl (fun c6 => ?_) (fun c6 => ?_)
  · -- then
    have hien : i < en := by change (i : Int) < (en : Int) at c6; omega
    rw [recs_step (show 0 < en - i by omega)] at hrr
    refine ww ?_
    refine r_startS [JcO b1 (Pt jp 0), JO jp dp ⟨g, hn, en⟩ sl vr] [] (by kernel_rfl) (fun w h => h.sb) ?_
    refine r_tkD 0 rfl rfl (v_move rfl) (fun _ h => (h.sb)) ?_
    refine r_tkD 1 rfl rfl (v_load rfl (Cel.head rfl) (by kernel_rfl)) (fun _ h => (h.sb)) ?_
    refine r_tkD 2 rfl rfl (v_nilCheck rfl) (fun _ h => (h.sb)) ?_
    refine r_tkD 3 rfl rfl (v_field 1 rfl (by kernel_rfl)) (fun _ h => (h.sb)) ?_
    refine r_tkD 4 rfl rfl (v_field 1 rfl (by kernel_rfl)) (fun _ h => (h.sb)) ?_
    refine r_tkD 5 rfl rfl (v_load rfl (Cel.tail (Cel.head rfl)) (by kernel_rfl)) (fun _ h => (h.sb)) ?_
    refine r_tkD 6 rfl rfl (v_move rfl) (fun _ h => (h.sb)) ?_
    refine r_tkD 7 rfl rfl (v_load rfl (Cel.head rfl) (by kernel_rfl)) (fun _ h => (h.sb)) ?_
    refine r_tkD 8 rfl rfl (v_nilCheck rfl) (fun _ h => (h.sb)) ?_
    refine r_tkD 9 rfl rfl (v_field 1 rfl (by kernel_rfl)) (fun _ h => (h.sb)) ?_
    refine r_tkD 10 rfl rfl (v_field 2 rfl (by kernel_rfl)) (fun _ h => (h.sb)) ?_
    refine r_tkD 11 rfl rfl (v_load rfl (Cel.tail (Cel.head rfl)) (by kernel_rfl)) (fun _ h => (h.sb)) ?_
    refine c_sub (B ++ (JcO b1 (Pt jp 0) :: JO jp dp ⟨g, hn, en⟩ sl vr :: ErO b2 0 :: (Br ++ F))) sbx ?_
    refine r_one 12 (by kernel_rfl) rfl ?_
    refine s_call (xs := [_, _, _, _]) rfl rfl rfl rfl rfl rfl (by kernel_rfl) (fun w hs => jrec_c dp B D hr hl h64 hdead hn (by omega) i en (by omega) hien _ w _ _ hs) ?_
    rintro e w' ⟨G6, hG6, hs', ⟨hno, rfl⟩ | ⟨r, k, u, hyes, rfl, hu⟩⟩
    · rw [hno] at hrr
      refine a_panic ?_ hs'; clear hs'
      repeat (first | refine x_then_panic ?_ | refine x_block_panic ?_)
      refine pq_panic ⟨rfl, rfl, trivial⟩ ?_
      refine c_sub (JcO b1 (Pt jp 0) :: ErO b2 0 :: ((JO jp dp ⟨g, hn, en⟩ sl vr :: Br) ++ (B ++ F))) sbx ?_
      exact open_pan 4 0 b1 b2 _ w0 G G6 _ (B ++ F) (hGa.trans (hGi.trans hG6)) _ rfl _ _ (fun w hs => ⟨G6, hGa.trans (hGi.trans hG6), .inr (.inl ⟨hdead, by rw [hop, hrr]; rfl, rfl, hs⟩)⟩)
    refine a_ret ?_ hs'; clear hs'
    rw [hyes] at hrr
    dsimp only at hrr
    have hkl := rec_le hyes
    refine r_next (fun w h => ((h.weaken hG6).sb)) ?_
    refine r_tkD 13 rfl rfl (v_move rfl) (fun _ h => ((h.weaken hG6).sb)) ?_
    refine r_tkD 14 rfl rfl (v_extract rfl rfl) (fun _ h => ((h.weaken hG6).sb)) ?_
    refine r_tkD 15 rfl rfl (v_extract rfl rfl) (fun _ h => ((h.weaken hG6).sb)) ?_
    refine r_tkD 16 rfl rfl (v_assign rfl) (fun _ h => ((h.weaken hG6).sb)) ?_
    refine r_tkD 17 rfl rfl (v_assign rfl) (fun _ h => ((h.weaken hG6).sb)) ?_
    refine r_done (by kernel_rfl) ?_
    replace hro := hro.up hG6
    obtain ⟨vs, ho, hit⟩ := hro
    have hvl := hit.1
    refine c_sub (JcO b1 (Pt jp 0) :: JO jp dp ⟨g, hn, en⟩ sl vr :: ErO b2 0 :: (Br ++ (B ++ F))) sbx ?_
    refine ww ?_
    refine r_startS [JcO b1 (Pt jp 0), JO jp dp ⟨g, hn, en⟩ sl vr] [10] (by kernel_rfl) (fun w h => h.sb) ?_
    refine r_tkD 0 rfl rfl (v_load rfl (Cel.head rfl) (by kernel_rfl)) (fun _ h => (h.sb)) ?_
    refine r_tkD 1 rfl rfl (v_load rfl (Cel.head rfl) (by kernel_rfl)) (fun _ h => (h.sb)) ?_
    refine r_tkD 2 rfl rfl (v_nilCheck rfl) (fun _ h => (h.sb)) ?_
    refine r_tkD 3 rfl rfl (v_field 5 rfl (by kernel_rfl)) (fun _ h => (h.sb)) ?_
    refine r_tkD 4 rfl rfl (v_load rfl (Cel.tail (Cel.head rfl)) (by kernel_rfl)) (fun _ h => (h.sb)) ?_
    refine r_tkD 5 rfl rfl (v_move rfl) (fun _ h => (h.sb)) ?_
    refine r_one 6 (by kernel_rfl) rfl ?_
    refine s_lit (z := .slice none 0 0) (bs := 24) (e := 31) [_] (by kernel_rfl) rfl rfl rfl rfl (by simpa using hu.one) rfl (by decide) fun b6 => ?_
    refine r_next (fun w h => (h.sb)) ?_
    refine r_one 7 (by kernel_rfl) rfl ?_
    refine s_append (e := 31) (z := .slice none 0 0) (sz := 1) (bs := 24) (by kernel_rfl) rfl rfl rfl rfl ho (Chunk.tail (Chunk.tail (Chunk.tail (Chunk.tail Chunk.head)))) (SV.block .head (by simp [maxLen])) rfl (by decide) rfl (by simpa using hu.one) (by simp; omega) (by simp; omega) fun u7 B7 ho7 => ?_
    have hro7 : RO G6 u7 (rows ++ [r]) B7 := ⟨vs ++ [u], by rw [List.length_append]; exact ho7, hit.snoc hu⟩
    have hu7 : u7.oneCell' = true := by obtain ⟨ad, c, e⟩ := ho7.form; rw [e]; rfl
    refine c_sub (JO jp dp ⟨g, hn, en⟩ sl vr :: JcO b1 (Pt jp 0) :: ErO b2 0 :: (B7 ++ (B ++ F))) sbx ?_
    refine r_next (fun w h => (h.sb)) ?_
    refine r_one 8 (by kernel_rfl) rfl ?_; refine s_val (v_nilCheck rfl) rfl rfl rfl ?_; refine r_next (fun w h => (h.sb)) ?_
    refine r_one 9 (by kernel_rfl) rfl ?_; refine s_val (v_field 5 rfl (by kernel_rfl)) rfl rfl rfl ?_; refine r_next (fun w h => (h.sb)) ?_
    refine r_one 10 (by kernel_rfl) rfl ?_
    refine s_store1 rfl rfl rfl .head (by kernel_rfl) hu7 (by simp) ?_
    change Holds _ _ _ _ _ (JO jp dp ⟨g, hn, en⟩ sl u7 :: JcO b1 (Pt jp 0) :: ErO b2 0 :: (B7 ++ (B ++ F))) _
    refine r_late rfl ?_
    refine r_done (by kernel_rfl) ?_
    refine ww ?_
    refine n_next (x := (i, Gi, vr, Br, rows)) (i + k, G6, u7, B7, rows ++ [r]) ⟨by dsimp only; omega, hGi.trans hG6, hro7, by dsimp only; rw [List.length_append]; simp; omega, ?_⟩ (by dsimp only; omega) ⟨rfl, rfl, rfl, rfl, trivial⟩ rfl sbx
    dsimp only
    rw [hrr, show en - i - k = en - (i + k) by omega, Nat.add_assoc]
    cases recsS D.now (en - (i + k)) (2 + hn * jz D.now.length + (i + k)) (en - (i + k)) with
    | none => rfl
    | some rs => simp
  have hie : i = en := by change ¬ (i : Int) < (en : Int) at c6; omega
  subst hie
  rw [Nat.sub_self] at hrr
  have hfin : openS D.now = some ⟨⟨g, hn, i⟩, sl, rows⟩ := by
    rw [hop, hrr]
    simp [recsS]
  refine ww ?_
  refine c_cons (s_val (v_load rfl (Cel.head rfl) (by kernel_rfl)) rfl rfl rfl ?_)
  refine c_cons (s_store1 rfl rfl rfl .head (by kernel_rfl) rfl (by simp) ?_)
  refine c_cons (s_store1 rfl rfl rfl (.tail (.tail .head)) (by kernel_rfl) rfl (by simp) ?_)
  change Holds _ _ _ _ _ (ErO b2 0 :: JcO b1 (Pt jp 0) :: JO jp dp ⟨g, hn, i⟩ sl vr :: (Br ++ (B ++ F))) _
  refine ww ?_
  refine pq_ret ?_
  exact d_ret1 (by kernel_rfl) (fun w hs => catchO_n b1 b2 _ w _ _ hs) (fun a e y w' ht ⟨h1, h2, h3⟩ => ⟨h1, h2, _, res_c2 ht rfl rfl rfl (by kernel_rfl) (by kernel_rfl) h3 (Cel.tail (Cel.head rfl)) (Cel.head rfl), Gi, hGa.trans hGi, .inr (.inr ⟨hdead, _, jp, _, hfin, rfl, ⟨vr, Br, rfl, hro⟩, h3.sb⟩)⟩)
end

section
open Go
set_option linter.unusedVariables false
set_option linter.unusedSimpArgs false
set_option maxHeartbeats 3200000
theorem be3 (x : Int) : be x 3 = [lowB (x / 2 ^ (16 : Int).toNat), lowB (x / 2 ^ (8 : Int).toNat), lowB x] := by
  unfold be
  rw [show List.range 3 = [0, 1, 2] by decide]
  simp
theorem take_cap {α : Type} (xs : List α) (a : Nat) : (xs.drop a).take (min (a + 64) xs.length - a) = (xs.drop a).take 64 := by
  by_cases h : a + 64 ≤ xs.length
  · rw [Nat.min_eq_left h]; congr 1; omega
  · rw [Nat.min_eq_right (by omega), List.take_of_length_le (by rw [List.length_drop]; omega), List.take_of_length_le (by rw [List.length_drop]; omega)]
theorem write_grow (D : Dk) (n : Int) (x : List UInt8) : (writeS D n x).1.ops ≤ D.ops + 1 ∧ (writeS D n x).1.since.length ≤ D.since.length + 1 ∧ (writeS D n x).1.now.length = D.now.length := by
  unfold writeS
  split
  · exact ⟨by dsimp only; omega, by dsimp only; omega, rfl⟩
  · split
    · unfold opS
      by_cases hf : (addS D n.toNat x).fuse = 0
      · rw [if_pos hf]; exact ⟨by simp only [wrt, addS]; omega, by simp [wrt, addS], rfl⟩
      · rw [if_neg hf]; exact ⟨by simp only [wrt, addS]; omega, by simp [wrt, addS], by simp [wrt, addS]⟩
    · exact ⟨by dsimp only; omega, by dsimp only; omega, rfl⟩
theorem sync_grow (D : Dk) : (syncS D).1.ops ≤ D.ops + 1 ∧ (syncS D).1.since.length ≤ D.since.length ∧ (syncS D).1.now.length = D.now.length := by
  unfold syncS
  split
  · exact ⟨by dsimp only; omega, Nat.le_refl _, rfl⟩
  · unfold opS
    by_cases hf : D.fuse = 0
    · rw [if_pos hf]; exact ⟨by simp only [synced]; omega, Nat.le_refl _, rfl⟩
    · rw [if_neg hf]; exact ⟨by simp only [synced]; omega, by simp [synced], rfl⟩
attribute [local irreducible] Code.wp wpList stepK Holds Val wpR Eff Eff0 Code.wpIn wpListIn stepI Exit.then Exit.inBlock bodyPost bodyPostM

theorem jput_c (jp dp : Nat) (B : Hp) (D : Dk) (hr : DH dp D B) (hl : 6 ≤ D.now.length ∧ D.now.length ≤ 4160) (hd : Jh) (s : Int) (vr : Value) (half at' : Nat) (hh : half ≤ 1) (hat : at' ≤ 4160) (b : List UInt8) (hb : b.length ≤ 65536) (i : Nat) (hi : i < jk b.length) (bj bh ba bl : Nat) (va : Value)
    (hsm : D.since.length < 1000000) (ho : D.ops < 1000000) (w0 w : World) (G : Im) (F : Hp) (kj : G bj = some (Cs [Pt jp 0] 27)) (kh : G bh = some (Cs [I64 (half : Int)] 3)) (ka : G ba = some (Cs [I64 (at' : Int)] 3)) (kl : G bl = some (Cs [va] 31)) (hva : SV G [] va (recB b).length ((recB b).map B8)) (hs : Sat w0 w G (B ++ (JO jp dp hd s vr :: F))) :
    Calls Try.prog 67 #[I64 (i : Int), Pt bj 0, Pt bh 0, Pt ba 0, Pt bl 0] w fun e w' => ∃ G' B', Im.le G G' ∧ e = .returned (I64 (writeS D ((2 + half * jz D.now.length + at' + i : Nat) : Int) (secAt b i)).2) ∧ DH dp (writeS D ((2 + half * jz D.now.length + at' + i : Nat) : Int) (secAt b i)).1 B' ∧ Sat w0 w' G' (B' ++ (JO jp dp hd s vr :: F)) := by
  obtain ⟨adl, cpl, rfl⟩ := hva.form
  have hcap : (recB b).length ≤ cpl := by
    obtain ⟨_, _, e, h1, _⟩ := hva
    cases e; exact h1
  refine f_enter (vs := [_, _, _, _, _]) Try.func67 rfl Try.ntmps67 (by simp) hs ?_
  have hrl : (recB b).length = b.length + 3 := by simp [recB, be_len]; omega
  have hik : i * 64 < b.length + 3 := by unfold jk at hi; omega
  refine ww ?_
  refine c_cons (s_val (v_mul rfl rfl (by omega)) rfl rfl rfl ?_)
  rw [show (i : Int) * 64 = ((i * 64 : Nat) : Int) by omega]
  have hsec : secAt b i = pad64 (((recB b).drop (i * 64)).take (min (i * 64 + 64) (recB b).length - i * 64)) := by unfold secAt; rw [take_cap]
  obtain ⟨h2, hh2⟩ : ∃ h2, h2 = min (i * 64 + 64) (recB b).length := ⟨_, rfl⟩
  have hmid : SV G [] (slMid adl cpl (i * 64) h2 1) (((recB b).drop (i * 64)).take (h2 - i * 64)).length ((((recB b).drop (i * 64)).take (h2 - i * 64)).map B8) := by
    have h := hva.mid (s := 1) (l := i * 64) (h := h2) (by omega) (by omega)
    simp only [Nat.mul_one] at h
    rw [show (((recB b).drop (i * 64)).take (h2 - i * 64)).length = h2 - i * 64 by rw [List.length_take, List.length_drop]; omega, List.map_take, List.map_drop]
    exact h
  have hml : (((recB b).drop (i * 64)).take (h2 - i * 64)).length ≤ 64 := by rw [List.length_take, List.length_drop]; omega
  have hz : jz D.now.length ≤ 2079 := by unfold jz; omega
  have hpos : ((2 + half * jz D.now.length : Nat) : Int) + (at' : Int) + (i : Int) = ((2 + half * jz D.now.length + at' + i : Nat) : Int) := by omega
  have hz2 : half * jz D.now.length ≤ 2079 := by rcases (show half = 0 ∨ half = 1 by omega) with e | e <;> rw [e] <;> omega
  rw [← hh2] at hsec
  refine ww ?_
  refine r_startS [JO jp dp hd s vr] [] (by kernel_rfl) (fun w h => h.sb) ?_
  refine r_tk 0 rfl rfl (v_load rfl (Cel.imm kj rfl) (by kernel_rfl)) (fun _ h => (h.sb)) ?_
  refine r_tk 1 rfl rfl (v_nilCheck rfl) (fun _ h => (h.sb)) ?_
  refine r_tk 2 rfl rfl (v_field 0 rfl (by kernel_rfl)) (fun _ h => (h.sb)) ?_
  refine r_tk 3 rfl rfl (v_load rfl (Cel.head rfl) (by kernel_rfl)) (fun _ h => (h.sb)) ?_
  refine r_tk 4 rfl rfl (v_load rfl (Cel.imm kj rfl) (by kernel_rfl)) (fun _ h => (h.sb)) ?_
  refine r_tk 5 rfl rfl (v_nilCheck rfl) (fun _ h => (h.sb)) ?_
  refine r_tk 6 rfl rfl (v_field 0 rfl (by kernel_rfl)) (fun _ h => (h.sb)) ?_
  refine r_tk 7 rfl rfl (v_load rfl (Cel.head rfl) (by kernel_rfl)) (fun _ h => (h.sb)) ?_
  refine r_tk 8 rfl rfl (v_load rfl (Cel.imm kh rfl) (by kernel_rfl)) (fun _ h => (h.sb)) ?_
  refine r_tk 10 rfl rfl (v_load rfl (Cel.imm ka rfl) (by kernel_rfl)) (fun _ h => (h.sb)) ?_
  refine r_tk 12 rfl rfl (v_move rfl) (fun _ h => (h.sb)) ?_
  refine r_tk 14 rfl rfl (v_load rfl (Cel.imm kl rfl) (by kernel_rfl)) (fun _ h => (h.sb)) ?_
  refine r_tk 15 rfl rfl (v_move rfl) (fun _ h => (h.sb)) ?_
  refine r_tk 16 rfl rfl (v_move rfl) (fun _ h => (h.sb)) ?_
  refine r_tk 17 rfl rfl (v_add rfl rfl (by omega)) (fun _ h => (h.sb)) ?_
  refine r_tk 18 rfl rfl (v_load rfl (Cel.imm kl rfl) (by kernel_rfl)) (fun _ h => (h.sb)) ?_
  refine r_tk 19 rfl rfl (v_len rfl (by kernel_rfl)) (fun _ h => (h.sb)) ?_
  refine r_tk 20 rfl rfl (v_min rfl rfl) (fun _ h => (h.sb)) ?_
  rw [show min (((i * 64 : Nat) : Int) + 64) ((recB b).length : Int) = ((h2 : Nat) : Int) by omega]
  refine r_tk 21 rfl rfl (v_slMid (i * 64) h2 1 rfl rfl rfl (by kernel_rfl) (by omega) (by omega)) (fun _ h => (h.sb)) ?_
  refine r_one 9 (by kernel_rfl) rfl ?_
  refine s_call (xs := [_, _]) rfl rfl rfl rfl rfl rfl (by kernel_rfl) (fun w hs => jstart_c dp B D hr (by omega) half hh _ w _ _ hs) ?_
  rintro e w' ⟨rfl, hs'⟩; refine a_ret ?_ hs'; clear hs'
  refine r_next (fun w h => (h.sb)) ?_
  refine r_tk 11 rfl rfl (v_add rfl rfl (by omega)) (fun _ h => (h.sb)) ?_
  refine r_tk 13 rfl rfl (v_add rfl rfl (by omega)) (fun _ h => (h.sb)) ?_
  rw [hpos]
  refine r_one 22 (by kernel_rfl) rfl ?_
  refine s_call (xs := [_]) rfl rfl rfl rfl rfl rfl (by kernel_rfl) (fun w hs => jsec_c _ _ hml _ w _ _ hmid hs) ?_
  rw [← hsec]
  rintro e w' ⟨G5, u5, rfl, hG5, hu5, hs'⟩; refine a_ret ?_ hs'; clear hs'
  refine r_next (fun w h => ((h.weaken hG5).sb)) ?_
  refine r_one 23 (by kernel_rfl) rfl ?_
  refine s_call (xs := [_, _, _]) rfl rfl rfl rfl rfl rfl (by kernel_rfl) (fun w hs => write_c dp B D hr _ _ _ hsm ho _ w _ _ (hu5.mono (Im.le_refl _) (by simp)) hs) ?_
  rintro e w' ⟨B6, rfl, hr6, hs'⟩; refine a_ret ?_ hs'; clear hs'
  refine r_next (fun w h => ((h.weaken hG5).sb)) ?_
  refine r_tk 24 rfl rfl (v_assign rfl) (fun _ h => ((h.weaken hG5).sb)) ?_
  refine r_done (by kernel_rfl) ?_
  refine ww ?_
  exact f_ret1 rfl rfl (fun w hs => ⟨G5, B6, hG5, rfl, hr6, hs⟩)

theorem thenSync_ne {R : Dk × Int} (h : ¬ R.2 = 0) (p : Int) (x : List UInt8) : headS (thenSync R) p x = R := by
  have e : thenSync R = R := by unfold thenSync; rw [if_neg h]
  rw [e]; unfold headS; rw [if_neg h]
theorem puts_cons (D : Dk) (p : Nat) (x : List UInt8) (r : List (List UInt8)) : putsS D p (x :: r) = if (writeS D p x).2 = 0 then putsS (writeS D p x).1 (p + 1) r else writeS D p x := rfl
/-- What a journal says of itself behind a record. -/
def okH (J : Jn) (half at' : Int) (b : List UInt8) (e : Int) : Jh := if e = 0 then newH J half at' b else J.hd
def okS (J : Jn) (e : Int) : Int := if e = 0 then 1 - J.s else J.s
theorem lay_run {D : Dk} {J : Jn} {half at' : Nat} {b : List UInt8} (h1 : b.length ≤ 65536) (h2 : ¬ ((jz D.now.length : Int) - at' < jk b.length ∨ 1099511627775 ≤ J.hd.g)) :
    layS D J half at' b = headS (thenSync (putsS D (2 + half * jz D.now.length + at') (secsL b))) (1 - J.s) (pad64 (hdB (newH J half at' b))) := by
  unfold layS
  rw [if_neg (by omega), if_neg h2, Int.toNat_natCast, Int.toNat_natCast]

theorem jlay_c (jp dp : Nat) (B : Hp) (D : Dk) (hr : DH dp D B) (hl : 6 ≤ D.now.length ∧ D.now.length ≤ 4160) (J : Jn) (hJ : gdJ J.hd) (hs01 : J.s = 0 ∨ J.s = 1) (vr : Value) (half at' : Nat) (hh : half ≤ 1) (hat : at' ≤ jz D.now.length) (vb : Value) (b : List UInt8) (hbl : b.length ≤ 1000000)
    (hsm : D.since.length < 990000) (ho : D.ops < 990000) (w0 w : World) (G : Im) (F : Hp) (hvb : SV G [] vb b.length (b.map B8)) (hs : Sat w0 w G (JO jp dp J.hd J.s vr :: (B ++ F))) :
    Calls Try.prog 44 #[Pt jp 0, I64 (half : Int), I64 (at' : Int), vb] w fun e w' => ∃ G' B', Im.le G G' ∧ e = .returned (I64 (layS D J half at' b).2) ∧ DH dp (layS D J half at' b).1 B' ∧ Sat w0 w' G' (JO jp dp (okH J half at' b (layS D J half at' b).2) (okS J (layS D J half at' b).2) vr :: (B' ++ F)) := by
  obtain ⟨adb, cpb, rfl⟩ := hvb.form
  obtain ⟨hg1, hg2, hg3⟩ := id hJ
  have hz : jz D.now.length ≤ 2079 := by unfold jz; omega
  refine f_enter (vs := [_, _, _, _]) Try.func44 rfl Try.ntmps44 (by simp) hs ?_
  refine ww ?_
  refine c_cons (s_box rfl rfl rfl fun bj => ?_)
  refine c_freeze .head fun G1 hG1 kj => ?_
  refine c_cons (s_box rfl rfl rfl fun bh => ?_)
  refine c_freeze .head fun G2 hG2 kh => ?_
  refine c_cons (s_box rfl rfl rfl fun ba => ?_)
  refine c_freeze .head fun G3 hG3 ka => ?_
  replace kh := hG3 _ _ kh
  replace kj := hG3 _ _ (hG2 _ _ kj)
  have hGa := hG1.trans (hG2.trans hG3)
  replace hvb := hvb.mono (H' := []) hGa (fun p hp => hp)
  refine wn ?_
  refine c_seq ?_
  refine ww ?_
  refine c_cons (s_val (v_load rfl (Cel.imm kj rfl) (by kernel_rfl)) rfl rfl rfl ?_)
  refine ww ?_
  refine c_cons (s_val (v_load rfl (Cel.imm kj rfl) (by kernel_rfl)) rfl rfl rfl ?_)
  refine ww ?_
  refine c_cons (s_val (v_field 0 rfl (by kernel_rfl)) rfl rfl rfl ?_)
  refine c_cons (s_val (v_load rfl (Cel.head rfl) (by kernel_rfl)) rfl rfl rfl ?_)
  refine ww ?_
  refine c_cond_f rfl ?_
  refine c_seq ?_
  refine c_region ?_
  refine c_cons (s_val (v_move rfl) rfl rfl rfl ?_)
  refine c_cons (s_val (v_len rfl (by kernel_rfl)) rfl rfl rfl ?_)
  refine c_cons (s_val (v_gtr rfl rfl) rfl rfl rfl ?_)
  refine c_cons (s_val (v_assign rfl) rfl rfl rfl ?_)
  refine c_nil ?_
  refine x_then ?_
  refine c_cond_d rfl (fun c3 => ?_) (fun c3 => ?_)
  · -- then
    have e : layS D J half at' b = (D, 3) := by unfold layS; rw [if_pos (by omega)]
    rw [e]
    refine ww ?_
    exact f_ret1 rfl rfl (fun w hs => ⟨G3, B, hGa, rfl, hr, hs⟩)
  have hb : b.length ≤ 65536 := by omega
  have hjk : jk b.length ≤ 1025 := by unfold jk; omega
  have hkp := jk_pos b.length
  have hrl : (recB b).length = b.length + 3 := by simp [recB, be_len]; omega
  refine ww ?_
  refine r_startS [JO jp dp J.hd J.s vr] [] (by kernel_rfl) (fun w h => h.sb) ?_
  refine r_tk 0 rfl rfl (v_move rfl) (fun _ h => (h.sb)) ?_
  refine r_tk 1 rfl rfl (v_len rfl (by kernel_rfl)) (fun _ h => (h.sb)) ?_
  refine r_tk 3 rfl rfl (v_load rfl (Cel.imm kj rfl) (by kernel_rfl)) (fun _ h => (h.sb)) ?_
  refine r_tk 4 rfl rfl (v_nilCheck rfl) (fun _ h => (h.sb)) ?_
  refine r_tk 5 rfl rfl (v_field 0 rfl (by kernel_rfl)) (fun _ h => (h.sb)) ?_
  refine r_tk 6 rfl rfl (v_load rfl (Cel.head rfl) (by kernel_rfl)) (fun _ h => (h.sb)) ?_
  refine r_tk 8 rfl rfl (v_load rfl (Cel.imm ka rfl) (by kernel_rfl)) (fun _ h => (h.sb)) ?_
  refine r_one 2 (by kernel_rfl) rfl ?_
  refine s_call (xs := [_]) rfl rfl rfl rfl rfl rfl (by kernel_rfl) (fun w hs => jsectors_c b.length (by omega) _ w _ _ hs) ?_
  rintro e w' ⟨rfl, hs'⟩; refine a_ret ?_ hs'; clear hs'
  refine r_next (fun w h => (h.sb)) ?_
  refine c_sub (B ++ (JO jp dp J.hd J.s vr :: F)) sbx ?_
  refine r_one 7 (by kernel_rfl) rfl ?_
  refine s_call (xs := [_]) rfl rfl rfl rfl rfl rfl (by kernel_rfl) (fun w hs => jsize_c dp B D hr (by omega) _ w _ _ hs) ?_
  rintro e w' ⟨rfl, hs'⟩; refine a_ret ?_ hs'; clear hs'
  refine r_next (fun w h => (h.sb)) ?_
  refine r_tk 9 rfl rfl (v_sub rfl rfl (by omega)) (fun _ h => (h.sb)) ?_
  refine r_tk 10 rfl rfl (v_gtr rfl rfl) (fun _ h => (h.sb)) ?_
  refine r_tk 11 rfl rfl (v_move rfl) (fun _ h => (h.sb)) ?_
  refine c_part_d 44 _ rfl (fun c4 => ?_) (fun c4 => ?_)
  · -- t44 = True
    have e : layS D J half at' b = (D, 5) := by unfold layS; rw [if_neg (by omega), if_pos (.inl (by omega))]
    rw [e]
    refine r_skip 12 rfl (by kernel_rfl) (by kernel_rfl) (by kernel_rfl) (by kernel_rfl) rfl rfl rfl (fun _ h => (h.sb)) (by repeat (first | exact pk_body | exact pk_no | exact pk_S | apply pk_then | apply pk_block)) ?_; refine r_skip 13 rfl (by kernel_rfl) (by kernel_rfl) (by kernel_rfl) (by kernel_rfl) rfl rfl rfl (fun _ h => (h.sb)) (by repeat (first | exact pk_body | exact pk_no | exact pk_S | apply pk_then | apply pk_block)) ?_; refine r_skip 14 rfl (by kernel_rfl) (by kernel_rfl) (by kernel_rfl) (by kernel_rfl) rfl rfl rfl (fun _ h => (h.sb)) (by repeat (first | exact pk_body | exact pk_no | exact pk_S | apply pk_then | apply pk_block)) ?_; refine r_skip 15 rfl (by kernel_rfl) (by kernel_rfl) (by kernel_rfl) (by kernel_rfl) rfl rfl rfl (fun _ h => (h.sb)) (by repeat (first | exact pk_body | exact pk_no | exact pk_S | apply pk_then | apply pk_block)) ?_; refine r_skip 16 rfl (by kernel_rfl) (by kernel_rfl) (by kernel_rfl) (by kernel_rfl) rfl rfl rfl (fun _ h => (h.sb)) (by repeat (first | exact pk_body | exact pk_no | exact pk_S | apply pk_then | apply pk_block)) ?_; refine r_skip 17 rfl (by kernel_rfl) (by kernel_rfl) (by kernel_rfl) (by kernel_rfl) rfl rfl rfl (fun _ h => (h.sb)) (by repeat (first | exact pk_body | exact pk_no | exact pk_S | apply pk_then | apply pk_block)) ?_
    refine r_tk 18 rfl rfl (v_pick_t rfl rfl) (fun _ h => (h.sb)) ?_
    refine r_tk 19 rfl rfl (v_assign rfl) (fun _ h => (h.sb)) ?_
    refine r_done (by kernel_rfl) ?_
    refine ww ?_
    refine c_cond_t rfl ?_
    refine ww ?_
    exact f_ret1 rfl rfl (fun w hs => ⟨G3, B, hGa, rfl, hr, (show Sat w0 w G3 (JO jp dp J.hd J.s vr :: (B ++ F)) from hs.sb)⟩)
  refine r_tk 12 rfl rfl (v_load rfl (Cel.imm kj rfl) (by kernel_rfl)) (fun _ h => (h.sb)) ?_
  refine r_tk 13 rfl rfl (v_nilCheck rfl) (fun _ h => (h.sb)) ?_
  refine r_tk 14 rfl rfl (v_field 1 rfl (by kernel_rfl)) (fun _ h => (h.sb)) ?_
  refine r_tk 15 rfl rfl (v_field 0 rfl (by kernel_rfl)) (fun _ h => (h.sb)) ?_
  refine r_tk 16 rfl rfl (v_load rfl (Cel.head rfl) (by kernel_rfl)) (fun _ h => (h.sb)) ?_
  refine r_tk 17 rfl rfl (v_geq rfl rfl) (fun _ h => (h.sb)) ?_
  refine r_tk 18 rfl rfl (v_pick_f rfl rfl) (fun _ h => (h.sb)) ?_
  refine r_tk 19 rfl rfl (v_assign rfl) (fun _ h => (h.sb)) ?_
  refine r_done (by kernel_rfl) ?_
  refine x_then ?_
  refine c_cond_d rfl (fun c5 => ?_) (fun c5 => ?_)
  · -- then
    have e : layS D J half at' b = (D, 5) := by unfold layS; rw [if_neg (by omega), if_pos (.inr (by omega))]
    rw [e]
    refine ww ?_
    exact f_ret1 rfl rfl (fun w hs => ⟨G3, B, hGa, rfl, hr, (show Sat w0 w G3 (JO jp dp J.hd J.s vr :: (B ++ F)) from hs.sb)⟩)
  have hrun := lay_run (D := D) (J := J) (half := half) (at' := at') (b := b) hb (by omega)
  rw [hrun]
  have hgn : gdJ (newH J half at' b) := by unfold gdJ newH; dsimp only; omega
  obtain ⟨p, hp⟩ : ∃ p, p = 2 + half * jz D.now.length + at' := ⟨_, rfl⟩
  rw [← hp]
  obtain ⟨R, hR⟩ : ∃ R, R = headS (thenSync (putsS D p (secsL b))) (1 - J.s) (pad64 (hdB (newH J half at' b))) := ⟨_, rfl⟩
  rw [← hR]
  refine ww ?_
  refine c_cons (s_val (v_shr rfl rfl (by omega)) rfl rfl rfl ?_)
  refine c_cons (s_val (v_byte rfl (by kernel_rfl) (by kernel_rfl)) rfl rfl rfl ?_)
  refine ww ?_
  refine c_cons (s_val (v_shr rfl rfl (by omega)) rfl rfl rfl ?_)
  refine c_cons (s_val (v_byte rfl (by kernel_rfl) (by kernel_rfl)) rfl rfl rfl ?_)
  refine ww ?_
  refine c_cons (s_val (v_byte rfl (by kernel_rfl) (by kernel_rfl)) rfl rfl rfl ?_)
  refine c_cons (s_lit (z := B8 0) (bs := 1) (e := 5) [_, _, _] (by kernel_rfl) rfl rfl rfl rfl (by simp [Value.oneCell']) rfl (by decide) fun b4 => ?_)
  refine ww ?_
  refine c_cons (s_append (e := 5) (z := B8 0) (sz := 1) (bs := 1) (by kernel_rfl) rfl rfl rfl rfl (Own.full (by simp) (by simp [maxLen])) Chunk.one (hvb.mono (Im.le_refl _) (by simp)) rfl (by decide) (by simp) (B8_one b) (by simp; omega) (by simp; omega) fun u5 B5 hown5 => ?_)
  have e5 : [B8 (lowB ((b.length : Int) / 2 ^ (16 : Int).toNat)), B8 (lowB ((b.length : Int) / 2 ^ (8 : Int).toNat)), B8 (lowB (b.length : Int))] ++ b.map B8 = (recB b).map B8 := by
    unfold recB
    rw [be3, List.map_append]; rfl
  have hown5' : OB u5 (recB b) B5 := by
    show Own u5 (recB b).length ((recB b).map B8) _ _ _
    rw [← e5, hrl, Nat.add_comm]; exact hown5
  clear hown5
  refine c_freezeO hown5' Chunk.head fun G6 hG6 hsv6 => ?_
  have h1u := hsv6.one
  refine c_cons (s_alloc (.slice none 0 0) (by kernel_rfl) rfl rfl fun bl => ?_)
  refine c_cons (s_store1 rfl rfl rfl .head (by kernel_rfl) h1u (by simp [Value.cells]) ?_)
  change Holds _ _ _ _ _ ((bl, Cs [u5] 31) :: _) _
  refine c_freeze .head fun G7 hG7 kl => ?_
  have hGb := hGa.trans (hG6.trans hG7)
  replace kj := hG7 _ _ (hG6 _ _ kj)
  replace kh := hG7 _ _ (hG6 _ _ kh)
  replace ka := hG7 _ _ (hG6 _ _ ka)
  replace hsv6 := hsv6.mono (H' := []) hG7 (fun p hp => hp)
  refine ww ?_
  refine c_cons (s_call (xs := [_]) rfl rfl rfl rfl rfl rfl (by kernel_rfl) (fun w hs => jsectors_c b.length (by omega) _ w _ _ hs) ?_)
  rintro e w' ⟨rfl, hs'⟩; refine a_ret ?_ hs'; clear hs'
  refine ww ?_
  refine c_loop (α := Nat × Im × Dk × Hp) (fun x => [(4, Pt bj 0), (5, Pt bh 0), (6, Pt ba 0), (9, I64 (b.length : Int)), (11, .func (.func 67) #[] #[Pt bj 0, Pt bh 0, Pt ba 0, Pt bl 0]), (67, I64 (jk b.length : Int)), (68, I64 (x.1 : Int))]) (fun x => x.2.1) (fun x => x.2.2.2 ++ (JO jp dp J.hd J.s vr :: F)) (fun x => x.1 ≤ jk b.length ∧ Im.le G7 x.2.1 ∧ DH dp x.2.2.1 x.2.2.2 ∧ putsS D p (secsL b) = putsS x.2.2.1 (p + x.1) ((secsL b).drop x.1) ∧ x.2.2.1.ops ≤ D.ops + x.1 ∧ x.2.2.1.since.length ≤ D.since.length + x.1 ∧ x.2.2.1.now.length = D.now.length) (fun x => jk b.length - x.1) (0, G7, D, B) ⟨Nat.zero_le _, Im.le_refl _, hr, by rw [List.drop_zero]; rfl, by dsimp only; omega, by dsimp only; omega, rfl⟩ ?_ ?_
  · exact n_at ⟨rfl, rfl, rfl, rfl, rfl, rfl, rfl, trivial⟩ sbx
  rintro ⟨i, Gi, Di, Bi⟩ ⟨hi, hGi, hri, hpu, hop, hsi, hnl⟩
  dsimp only at hi hGi hri hpu hop hsi hnl ⊢
  replace kj := hGi _ _ kj
  replace kh := hGi _ _ kh
  replace ka := hGi _ _ ka
  refine ww ?_
  refine c_cond_d rfl (fun c6 => ?_) (fun c6 => ?_)
  · -- then
    have hik : i < jk b.length := by omega
    have hcons : (secsL b).drop i = secAt b i :: (secsL b).drop (i + 1) := by
      rw [List.drop_eq_getElem_cons (by rw [secsL_len]; exact hik)]
      congr 1
      simp [secsL]
    rw [hcons, puts_cons] at hpu
    have hput := jput_c jp dp Bi Di hri (by omega) J.hd J.s vr half at' hh (by omega) b hb i hik bj bh ba bl u5 (by omega) (by omega)
    rw [hnl, ← hp] at hput
    refine ww ?_
    refine c_cons (s_call (xs := [_]) rfl rfl rfl rfl rfl rfl (by kernel_rfl) (fun w hs => hput _ w _ _ kj kh ka (hGi _ _ kl) (hsv6.mono (H' := []) hGi (fun p hp => hp)) hs) ?_)
    have hgr := write_grow Di ((p + i : Nat) : Int) (secAt b i)
    generalize writeS Di ((p + i : Nat) : Int) (secAt b i) = W at hpu hgr ⊢
    rintro e w' ⟨G8, B8', hG8, rfl, hr8, hs'⟩; refine a_ret ?_ hs'; clear hs'
    refine ww ?_
    refine c_cond_d rfl (fun c7 => ?_) (fun c7 => ?_)
    · -- then
      rw [if_neg c7] at hpu
      have e : R = W := by rw [hR, hpu]; exact thenSync_ne c7 _ _
      rw [e]
      unfold okH okS
      rw [if_neg c7, if_neg c7]
      refine ww ?_
      exact f_ret1 rfl rfl (fun w hs => ⟨G8, B8', hGb.trans (hGi.trans hG8), rfl, hr8, hs.sb⟩)
    rw [if_pos (by omega)] at hpu
    refine ww ?_
    exact n_next (x := (i, Gi, Di, Bi)) (i + 1, G8, W.1, B8') ⟨hik, hGi.trans hG8, hr8, by rw [hpu, Nat.add_assoc], by dsimp only; omega, by dsimp only; omega, by dsimp only; omega⟩ (by dsimp only; omega) ⟨rfl, rfl, rfl, rfl, rfl, rfl, rfl, trivial⟩ rfl sbx
  have hie : i = jk b.length := by omega
  rw [hie, List.drop_of_length_le (by rw [secsL_len]; exact Nat.le_refl _)] at hpu
  change putsS D p (secsL b) = (Di, 0) at hpu
  have e1 : R = headS (syncS Di) (1 - J.s) (pad64 (hdB (newH J half at' b))) := by
    rw [hR, hpu]; rfl
  refine c_sub (JO jp dp J.hd J.s vr :: (Bi ++ F)) sbx ?_
  refine ww ?_
  refine c_cons (s_val (v_load rfl (Cel.imm kj rfl) (by kernel_rfl)) rfl rfl rfl ?_)
  refine ww ?_
  refine c_cons (s_val (v_field 0 rfl (by kernel_rfl)) rfl rfl rfl ?_)
  refine c_cons (s_val (v_load rfl (Cel.head rfl) (by kernel_rfl)) rfl rfl rfl ?_)
  refine c_sub (Bi ++ (JO jp dp J.hd J.s vr :: F)) sbx ?_
  refine c_cons (s_call (xs := [_]) rfl rfl rfl rfl rfl rfl (by kernel_rfl) (fun w hs => sync_c dp Bi Di hri (by omega) _ w _ _ hs) ?_)
  have hgs := sync_grow Di
  generalize syncS Di = S at e1 hgs ⊢
  rintro e w' ⟨B9, rfl, hr9, hs'⟩; refine a_ret ?_ hs'; clear hs'
  refine ww ?_
  refine c_cond_d rfl (fun c8 => ?_) (fun c8 => ?_)
  · -- then
    have e : R = S := by rw [e1]; unfold headS; rw [if_neg c8]
    rw [e]
    unfold okH okS
    rw [if_neg c8, if_neg c8]
    refine ww ?_
    exact f_ret1 rfl rfl (fun w hs => ⟨Gi, B9, hGb.trans hGi, rfl, hr9, hs.sb⟩)
  have e2 : R = if (writeS S.1 (1 - J.s) (pad64 (hdB (newH J half at' b)))).2 = 0 then syncS (writeS S.1 (1 - J.s) (pad64 (hdB (newH J half at' b)))).1 else writeS S.1 (1 - J.s) (pad64 (hdB (newH J half at' b))) := by rw [e1]; unfold headS; rw [if_pos (by omega)]
  refine c_sub (JO jp dp J.hd J.s vr :: (B9 ++ F)) sbx ?_
  have hnh : newH J half at' b = ⟨J.hd.g + 1, half, at' + jk b.length⟩ := rfl
  refine wn ?_
  -- the new head
  refine c_cut (α := Im × Nat) (fun x => [(4, Pt bj 0), (15, Pt x.2 0)]) (fun x => x.1) (fun x => JO jp dp J.hd J.s vr :: (B9 ++ F)) (fun x => Im.le Gi x.1 ∧ x.1 x.2 = some (Cs [I64 (newH J half at' b).g, I64 (newH J half at' b).h, I64 (newH J half at' b).e] 75)) ?_ ?_
  · refine ww ?_
    refine r_startS [JO jp dp J.hd J.s vr] [] (by kernel_rfl) (fun w h => h.sb) ?_
    refine r_tk 0 rfl rfl (v_load rfl (Cel.imm kj rfl) (by kernel_rfl)) (fun _ h => (h.sb)) ?_
    refine r_tk 1 rfl rfl (v_nilCheck rfl) (fun _ h => (h.sb)) ?_
    refine r_tk 2 rfl rfl (v_field 1 rfl (by kernel_rfl)) (fun _ h => (h.sb)) ?_
    refine r_tk 3 rfl rfl (v_field 0 rfl (by kernel_rfl)) (fun _ h => (h.sb)) ?_
    refine r_tk 4 rfl rfl (v_load rfl (Cel.head rfl) (by kernel_rfl)) (fun _ h => (h.sb)) ?_
    refine r_tk 5 rfl rfl (v_add rfl rfl (by omega)) (fun _ h => (h.sb)) ?_
    refine r_tk 6 rfl rfl (v_load rfl (Cel.imm kh rfl) (by kernel_rfl)) (fun _ h => (h.sb)) ?_
    refine r_tk 7 rfl rfl (v_load rfl (Cel.imm ka rfl) (by kernel_rfl)) (fun _ h => (h.sb)) ?_
    refine r_tk 8 rfl rfl (v_move rfl) (fun _ h => (h.sb)) ?_
    refine r_two 9 12 (by kernel_rfl) rfl rfl ?_ ?_
    · refine s_call (xs := [_]) rfl rfl rfl rfl rfl rfl (by kernel_rfl) (fun w hs => jsectors_c b.length (by omega) _ w _ _ hs) ?_
      rintro e w' ⟨rfl, hs'⟩; refine a_ret ?_ hs'; clear hs'
      refine r_next (fun w h => (h.sb)) ?_
      refine r_tk 10 rfl rfl (v_add rfl rfl (by omega)) (fun _ h => (h.sb)) ?_
      refine r_tk 11 rfl rfl (v_build (ps := [_, _, _]) #[I64 (J.hd.g + 1), I64 half, I64 (at' + jk b.length)] rfl (by kernel_rfl)) (fun _ h => (h.sb)) ?_
      refine r_one 12 (by kernel_rfl) rfl ?_
      refine s_allocA [I64 0, I64 0, I64 0] (by kernel_rfl) rfl rfl fun b7 => ?_
      refine r_next (fun w h => (h.sb)) ?_
      refine r_one 13 (by kernel_rfl) rfl ?_
      refine s_storeA (vs := [I64 (J.hd.g + 1), I64 half, I64 (at' + jk b.length)]) rfl rfl rfl .head (by kernel_rfl) (by simp [Value.oneCell']) rfl ?_
      refine r_next (fun w h => (h.sb)) ?_
      refine r_done (by kernel_rfl) ?_
      refine c_freeze .head fun G9 hG9 k9 => ?_
      refine ww ?_
      exact n_mid (G9, b7) ⟨hG9, k9⟩ ⟨rfl, rfl, trivial⟩ rfl sbx
    · refine s_allocA [I64 0, I64 0, I64 0] (by kernel_rfl) rfl rfl fun b7 => ?_
      refine r_next (fun w h => (h.sb)) ?_
      refine r_one 9 (by kernel_rfl) rfl ?_
      refine s_call (xs := [_]) rfl rfl rfl rfl rfl rfl (by kernel_rfl) (fun w hs => jsectors_c b.length (by omega) _ w _ _ hs) ?_
      rintro e w' ⟨rfl, hs'⟩; refine a_ret ?_ hs'; clear hs'
      refine r_next (fun w h => (h.sb)) ?_
      refine r_tk 10 rfl rfl (v_add rfl rfl (by omega)) (fun _ h => (h.sb)) ?_
      refine r_tk 11 rfl rfl (v_build (ps := [_, _, _]) #[I64 (J.hd.g + 1), I64 half, I64 (at' + jk b.length)] rfl (by kernel_rfl)) (fun _ h => (h.sb)) ?_
      refine r_one 13 (by kernel_rfl) rfl ?_
      refine s_storeA (vs := [I64 (J.hd.g + 1), I64 half, I64 (at' + jk b.length)]) rfl rfl rfl .head (by kernel_rfl) (by simp [Value.oneCell']) rfl ?_
      refine r_next (fun w h => (h.sb)) ?_
      refine r_done (by kernel_rfl) ?_
      refine c_freeze .head fun G9 hG9 k9 => ?_
      refine ww ?_
      exact n_mid (G9, b7) ⟨hG9, k9⟩ ⟨rfl, rfl, trivial⟩ rfl sbx
  rintro ⟨G9, b7⟩ ⟨hG9, k9⟩
  dsimp only at hG9 k9 ⊢
  replace kj := hG9 _ _ kj
  obtain ⟨nh, hnh2⟩ : ∃ nh, nh = newH J half at' b := ⟨_, rfl⟩
  rw [← hnh2] at hgn e2 k9
  obtain ⟨x, hx⟩ : ∃ x, x = pad64 (hdB nh) := ⟨_, rfl⟩
  refine ww ?_
  refine r_startS [JO jp dp J.hd J.s vr] [] (by kernel_rfl) (fun w h => h.sb) ?_
  refine r_tk 0 rfl rfl (v_load rfl (Cel.imm kj rfl) (by kernel_rfl)) (fun _ h => (h.sb)) ?_
  refine r_tk 1 rfl rfl (v_nilCheck rfl) (fun _ h => (h.sb)) ?_
  refine r_tk 2 rfl rfl (v_field 0 rfl (by kernel_rfl)) (fun _ h => (h.sb)) ?_
  refine r_tk 3 rfl rfl (v_load rfl (Cel.head rfl) (by kernel_rfl)) (fun _ h => (h.sb)) ?_
  refine r_tk 4 rfl rfl (v_load rfl (Cel.imm kj rfl) (by kernel_rfl)) (fun _ h => (h.sb)) ?_
  refine r_tk 5 rfl rfl (v_nilCheck rfl) (fun _ h => (h.sb)) ?_
  refine r_tk 6 rfl rfl (v_field 4 rfl (by kernel_rfl)) (fun _ h => (h.sb)) ?_
  refine r_tk 7 rfl rfl (v_load rfl (Cel.head rfl) (by kernel_rfl)) (fun _ h => (h.sb)) ?_
  refine r_tk 8 rfl rfl (v_sub rfl rfl (by omega)) (fun _ h => (h.sb)) ?_
  refine r_tk 9 rfl rfl (v_loadAgg (vs := [I64 nh.g, I64 nh.h, I64 nh.e]) rfl (by kernel_rfl) (by kernel_rfl) rfl (fun j u hj => (Cel.allI k9 hj))) (fun _ h => (h.sb)) ?_
  refine r_one 10 (by kernel_rfl) rfl ?_
  refine s_call (xs := [_]) rfl rfl rfl rfl rfl rfl (by kernel_rfl) (fun w hs => jlaid_c nh hgn _ w _ _ hs) ?_
  rw [← hx]
  rintro e w' ⟨G10, u10, rfl, hG10, hu10, hs'⟩; refine a_ret ?_ hs'; clear hs'
  refine r_next (fun w h => ((h.weaken hG10).sb)) ?_
  refine c_sub (B9 ++ (JO jp dp J.hd J.s vr :: F)) sbx ?_
  refine r_one 11 (by kernel_rfl) rfl ?_
  refine s_call (xs := [_, _, _]) rfl rfl rfl rfl rfl rfl (by kernel_rfl) (fun w hs => write_c dp B9 S.1 hr9 _ _ _ (by omega) (by omega) _ w _ _ (hu10.mono (Im.le_refl _) (by simp)) hs) ?_
  have hgw := write_grow S.1 (1 - J.s) x
  rw [← hx] at e2
  generalize writeS S.1 (1 - J.s) x = W at e2 hgw ⊢
  rintro e w' ⟨B11, rfl, hr11, hs'⟩; refine a_ret ?_ hs'; clear hs'
  refine r_next (fun w h => ((h.weaken hG10).sb)) ?_
  refine r_tk 12 rfl rfl (v_assign rfl) (fun _ h => ((h.weaken hG10).sb)) ?_
  refine r_done (by kernel_rfl) ?_
  have hGc := hGb.trans (hGi.trans (hG9.trans hG10))
  replace kj := hG10 _ _ kj
  replace k9 := hG10 _ _ k9
  refine ww ?_
  refine c_cond_d rfl (fun c9 => ?_) (fun c9 => ?_)
  · -- then
    rw [if_neg c9] at e2
    rw [e2]
    unfold okH okS
    rw [if_neg c9, if_neg c9]
    refine ww ?_
    exact f_ret1 rfl rfl (fun w hs => ⟨G10, B11, hGc, rfl, hr11, hs.sb⟩)
  rw [if_pos (by omega)] at e2
  refine c_sub (JO jp dp J.hd J.s vr :: (B11 ++ F)) sbx ?_
  refine ww ?_
  refine c_cons (s_val (v_load rfl (Cel.imm kj rfl) (by kernel_rfl)) rfl rfl rfl ?_)
  refine ww ?_
  refine c_cons (s_val (v_field 0 rfl (by kernel_rfl)) rfl rfl rfl ?_)
  refine c_cons (s_val (v_load rfl (Cel.head rfl) (by kernel_rfl)) rfl rfl rfl ?_)
  refine c_sub (B11 ++ (JO jp dp J.hd J.s vr :: F)) sbx ?_
  refine c_cons (s_call (xs := [_]) rfl rfl rfl rfl rfl rfl (by kernel_rfl) (fun w hs => sync_c dp B11 W.1 hr11 (by omega) _ w _ _ hs) ?_)
  rw [← e2]
  rintro e w' ⟨B12, rfl, hr12, hs'⟩; refine a_ret ?_ hs'; clear hs'
  refine ww ?_
  refine c_cond_d rfl (fun c10 => ?_) (fun c10 => ?_)
  · -- then
    unfold okH okS
    rw [if_neg c10, if_neg c10]
    refine ww ?_
    exact f_ret1 rfl rfl (fun w hs => ⟨G10, B12, hGc, rfl, hr12, hs.sb⟩)
  have hR0 : R.2 = 0 := by omega
  unfold okH okS
  rw [if_pos hR0, if_pos hR0, hR0, ← hnh2]
  refine c_sub (JO jp dp J.hd J.s vr :: (B12 ++ F)) sbx ?_
  refine wn ?_
  refine c_cut (α := Unit) (fun _ => []) (fun _ => G10) (fun _ => JO jp dp nh (1 - J.s) vr :: (B12 ++ F)) (fun _ => True) ?_ ?_
  · refine ww ?_
    refine r_startS [] [] (by kernel_rfl) (fun w h => h.none) ?_
    refine r_tk 0 rfl rfl (v_load rfl (Cel.imm kj rfl) (by kernel_rfl)) (fun _ h => h.none) ?_
    refine r_tk 1 rfl rfl (v_load rfl (Cel.imm kj rfl) (by kernel_rfl)) (fun _ h => h.none) ?_
    refine r_tk 2 rfl rfl (v_loadAgg (vs := [I64 nh.g, I64 nh.h, I64 nh.e]) rfl (by kernel_rfl) (by kernel_rfl) rfl (fun j u hj => (Cel.allI k9 hj))) (fun _ h => h.none) ?_
    refine r_tk 3 rfl rfl (v_load rfl (Cel.imm kj rfl) (by kernel_rfl)) (fun _ h => h.none) ?_
    refine r_tk 4 rfl rfl (v_nilCheck rfl) (fun _ h => h.none) ?_
    refine r_tk 5 rfl rfl (v_field 4 rfl (by kernel_rfl)) (fun _ h => h.none) ?_
    refine r_one 6 (by kernel_rfl) rfl ?_; refine s_val (v_load rfl (Cel.head rfl) (by kernel_rfl)) rfl rfl rfl ?_; refine r_next (fun w h => h.none) ?_
    refine r_tk 7 rfl rfl (v_sub rfl rfl (by omega)) (fun _ h => h.none) ?_
    refine r_tk 8 rfl rfl (v_nilCheck rfl) (fun _ h => h.none) ?_
    refine r_tk 9 rfl rfl (v_field 1 rfl (by kernel_rfl)) (fun _ h => h.none) ?_
    refine r_one 10 (by kernel_rfl) rfl ?_
    refine s_storeAt (vs := [I64 nh.g, I64 nh.h, I64 nh.e]) rfl rfl rfl .head (by kernel_rfl) (by simp [Value.oneCell']) (by simp) ?_
    change Holds _ _ _ _ _ (JO jp dp nh J.s vr :: (B12 ++ F)) _
    refine r_next (fun w h => h.none) ?_
    refine r_one 11 (by kernel_rfl) rfl ?_; refine s_val (v_nilCheck rfl) rfl rfl rfl ?_; refine r_next (fun w h => h.none) ?_
    refine r_one 12 (by kernel_rfl) rfl ?_; refine s_val (v_field 4 rfl (by kernel_rfl)) rfl rfl rfl ?_; refine r_next (fun w h => h.none) ?_
    refine r_one 13 (by kernel_rfl) rfl ?_
    refine s_store1 rfl rfl rfl .head (by kernel_rfl) rfl (by simp) ?_
    change Holds _ _ _ _ _ (JO jp dp nh (1 - J.s) vr :: (B12 ++ F)) _
    refine r_next (fun w h => h.none) ?_
    refine r_done (by kernel_rfl) ?_
    refine ww ?_
    exact n_mid () trivial trivial rfl sbx
  rintro _ _
  refine ww ?_
  exact f_ret1 rfl rfl (fun w hs => ⟨G10, B12, hGc, rfl, hr12, hs⟩)
end
end

section
section
open Go
set_option linter.unusedVariables false
set_option linter.unusedSimpArgs false
set_option maxHeartbeats 3200000
/-- A journal's numbers are such as may be. -/
structure WJ (S : Nat) (J : Jn) : Prop where
  gd : gdJ J.hd
  h : J.hd.h ≤ 1
  e : J.hd.e ≤ jz S
  s : J.s = 0 ∨ J.s = 1
  n : J.rows.length ≤ 100000
  r : ∀ r ∈ J.rows, r.length ≤ 1000000
def appS (D : Dk) (J : Jn) (b : List UInt8) : Dk × Int := layS D J J.hd.h J.hd.e b
def appJ (D : Dk) (J : Jn) (b : List UInt8) : Jn := if (appS D J b).2 = 0 then newJ J J.hd.h J.hd.e b else J
def rstS (D : Dk) (J : Jn) (b : List UInt8) : Dk × Int := layS D J (1 - J.hd.h) 0 b
def rstJ (D : Dk) (J : Jn) (b : List UInt8) : Jn := if (rstS D J b).2 = 0 then newJ J (1 - J.hd.h) 0 b else J
def roomS (S : Nat) (e : Int) : Int := max 0 (min 65536 (((jz S : Int) - e) * 64 - 3))
def fmtS (D : Dk) : Dk × Int :=
  if (writeS D 1 z64).2 = 0 then (if (writeS (writeS D 1 z64).1 0 (pad64 (hdB ⟨1, 0, 0⟩))).2 = 0 then syncS (writeS (writeS D 1 z64).1 0 (pad64 (hdB ⟨1, 0, 0⟩))).1 else writeS (writeS D 1 z64).1 0 (pad64 (hdB ⟨1, 0, 0⟩))) else writeS D 1 z64
/-- A row of one's own rows. -/
theorem RO.cell {G : Im} {v : Value} {rs : List (List UInt8)} {B : Hp} (h : RO G v rs B) {k : Nat} {r : List UInt8} (hr : rs[k]? = some r) : ∃ bb c L u, v = Sl bb 0 rs.length c ∧ B = [(bb, Cs L 31)] ∧ L[k]? = some u ∧ SV G [] u r.length (r.map B8) := by
  obtain ⟨vs, ⟨hl, hown⟩, hit⟩ := h
  have hk := (List.getElem?_eq_some_iff.1 hr).1
  have hvl := hit.1
  rcases hown with ⟨ad, rfl, h0, rfl⟩ | ⟨bb, c, sl, rfl, hb1, hb2, hb3, rfl⟩
  · omega
  · refine ⟨bb, c, vs ++ sl, vs[k]'(by omega), by rw [hvl], rfl, ?_, hit.2 k _ r (List.getElem?_eq_getElem _) hr⟩
    rw [List.getElem?_append_left (by omega)]
    exact List.getElem?_eq_getElem _
attribute [local irreducible] Code.wp wpList stepK Holds Val wpR Eff Eff0 Code.wpIn wpListIn stepI Exit.then Exit.inBlock bodyPost bodyPostM

theorem jappend_c (jp dp : Nat) (B Bj : Hp) (D : Dk) (hr : DH dp D B) (hl : 6 ≤ D.now.length ∧ D.now.length ≤ 4160) (J : Jn) (hW : WJ D.now.length J) (vb : Value) (b : List UInt8) (hbl : b.length ≤ 1000000)
    (hsm : D.since.length < 990000) (ho : D.ops < 990000) (w0 w : World) (G : Im) (F : Hp) (hj : JH G jp dp J Bj) (hvb : SV G [] vb b.length (b.map B8)) (hs : Sat w0 w G (Bj ++ (B ++ F))) :
    Calls Try.prog 13 #[Pt jp 0, vb] w fun e w' => ∃ G' B' Bj', Im.le G G' ∧ e = .returned (I64 (appS D J b).2) ∧ DH dp (appS D J b).1 B' ∧ JH G' jp dp (appJ D J b) Bj' ∧ Sat w0 w' G' (Bj' ++ (B' ++ F)) := by
  obtain ⟨vr, Br, rfl, hro⟩ := hj
  obtain ⟨⟨⟨g, h, e⟩, s, rows⟩, rfl⟩ : ∃ J', J' = J := ⟨J, rfl⟩
  obtain ⟨hg, hh, he, hs01, hn, hrr⟩ := hW
  have hg0 := hg
  obtain ⟨hg1, hg2, hg3⟩ := hg0
  dsimp only at hh he hs01 hg1 hg2 hg3 hn hrr hro
  obtain ⟨hn', rfl⟩ : ∃ x : Nat, h = x := ⟨h.toNat, by omega⟩
  obtain ⟨en, rfl⟩ : ∃ x : Nat, e = x := ⟨e.toNat, by omega⟩
  obtain ⟨J, hJ⟩ : ∃ J : Jn, J = ⟨⟨g, hn', en⟩, s, rows⟩ := ⟨_, rfl⟩
  have hJh : J.hd.h = hn' := by rw [hJ]
  have hJe : J.hd.e = en := by rw [hJ]
  have hJs : J.s = s := by rw [hJ]
  have hJhd : J.hd = ⟨g, hn', en⟩ := by rw [hJ]
  have hJg : gdJ J.hd := by rw [hJ]; exact hg
  have hJs01 : J.s = 0 ∨ J.s = 1 := by rw [hJ]; exact hs01
  have hh1 : hn' ≤ 1 := by omega
  have hee : en ≤ jz D.now.length := by omega
  have hJr : J.rows = rows := by rw [hJ]
  rw [← hJ]
  have hap : appS D J b = layS D J hn' en b := by unfold appS; rw [hJh, hJe]
  have haj : appJ D J b = if (layS D J hn' en b).2 = 0 then newJ J hn' en b else J := by unfold appJ; rw [hap, hJh, hJe]
  rw [hap, haj]
  change Sat w0 w G ((JO jp dp ⟨g, hn', en⟩ s vr :: Br) ++ (B ++ F)) at hs
  refine f_enter (vs := [_, _]) Try.func13 rfl Try.ntmps13 (by simp) (hs.sb : Sat w0 w G (JO jp dp ⟨g, hn', en⟩ s vr :: (B ++ (Br ++ F)))) ?_
  refine ww ?_
  refine c_cons (s_val (v_field 0 rfl (by kernel_rfl)) rfl rfl rfl ?_)
  refine c_cons (s_val (v_load rfl (Cel.head rfl) (by kernel_rfl)) rfl rfl rfl ?_)
  refine ww ?_
  refine c_cond_f rfl ?_
  refine wn ?_
  have hb2 : layS D J hn' en b = layS D J (hn' : Int) (en : Int) b := rfl
  -- lay
  refine c_cut (α := Im × Hp) (fun x => [(0, Pt jp 0), (1, vb), (4, I64 0), (5, I64 (layS D J hn' en b).2)]) (fun x => x.1) (fun x => JO jp dp (okH J hn' en b (layS D J hn' en b).2) (okS J (layS D J hn' en b).2) vr :: (x.2 ++ (Br ++ F))) (fun x => Im.le G x.1 ∧ DH dp (layS D J hn' en b).1 x.2) ?_ ?_
  · refine ww ?_
    refine r_startS [] [] (by kernel_rfl) (fun w h => h.none) ?_
    refine r_tk 0 rfl rfl (v_move rfl) (fun _ h => h.none) ?_
    refine r_tk 1 rfl rfl (v_move rfl) (fun _ h => h.none) ?_
    refine r_tk 2 rfl rfl (v_nilCheck rfl) (fun _ h => h.none) ?_
    refine r_tk 3 rfl rfl (v_field 1 rfl (by kernel_rfl)) (fun _ h => h.none) ?_
    refine r_tk 4 rfl rfl (v_field 1 rfl (by kernel_rfl)) (fun _ h => h.none) ?_
    refine r_tk 6 rfl rfl (v_move rfl) (fun _ h => h.none) ?_
    refine r_tk 7 rfl rfl (v_nilCheck rfl) (fun _ h => h.none) ?_
    refine r_tk 8 rfl rfl (v_field 1 rfl (by kernel_rfl)) (fun _ h => h.none) ?_
    refine r_tk 9 rfl rfl (v_field 2 rfl (by kernel_rfl)) (fun _ h => h.none) ?_
    refine r_tk 11 rfl rfl (v_move rfl) (fun _ h => h.none) ?_
    refine r_two 5 10 (by kernel_rfl) rfl rfl ?_ ?_
    · refine s_val (v_load rfl (Cel.head rfl) (by kernel_rfl)) rfl rfl rfl ?_
      refine r_next (fun w h => h.none) ?_
      refine r_one 10 (by kernel_rfl) rfl ?_; refine s_val (v_load rfl (Cel.head rfl) (by kernel_rfl)) rfl rfl rfl ?_; refine r_next (fun w h => h.none) ?_
      refine r_one 12 (by kernel_rfl) rfl ?_
      refine s_call (xs := [_, _, _, _]) rfl rfl rfl rfl rfl rfl (by kernel_rfl) (fun w hs => jlay_c jp dp B D hr hl J hJg hJs01 vr hn' en hh1 hee vb b hbl hsm ho _ w _ _ hvb (by rw [hJhd, hJs]; exact hs)) ?_
      rintro e w' ⟨G5, B5, hG5, rfl, hr5, hs'⟩; refine a_ret ?_ hs'; clear hs'
      refine r_next (fun w h => (h.weaken hG5).none) ?_
      refine r_tk 13 rfl rfl (v_assign rfl) (fun _ h => (h.weaken hG5).none) ?_
      refine r_done (by kernel_rfl) ?_
      refine ww ?_
      exact n_mid (G5, B5) ⟨hG5, hr5⟩ ⟨rfl, rfl, rfl, rfl, trivial⟩ rfl sbx
    · refine s_val (v_load rfl (Cel.head rfl) (by kernel_rfl)) rfl rfl rfl ?_
      refine r_next (fun w h => h.none) ?_
      refine r_one 5 (by kernel_rfl) rfl ?_; refine s_val (v_load rfl (Cel.head rfl) (by kernel_rfl)) rfl rfl rfl ?_; refine r_next (fun w h => h.none) ?_
      refine r_one 12 (by kernel_rfl) rfl ?_
      refine s_call (xs := [_, _, _, _]) rfl rfl rfl rfl rfl rfl (by kernel_rfl) (fun w hs => jlay_c jp dp B D hr hl J hJg hJs01 vr hn' en hh1 hee vb b hbl hsm ho _ w _ _ hvb (by rw [hJhd, hJs]; exact hs)) ?_
      rintro e w' ⟨G5, B5, hG5, rfl, hr5, hs'⟩; refine a_ret ?_ hs'; clear hs'
      refine r_next (fun w h => (h.weaken hG5).none) ?_
      refine r_tk 13 rfl rfl (v_assign rfl) (fun _ h => (h.weaken hG5).none) ?_
      refine r_done (by kernel_rfl) ?_
      refine ww ?_
      exact n_mid (G5, B5) ⟨hG5, hr5⟩ ⟨rfl, rfl, rfl, rfl, trivial⟩ rfl sbx
  rintro ⟨G5, B5⟩ ⟨hG5, hr5⟩
  dsimp only at hG5 hr5 ⊢
  replace hro := hro.up hG5
  replace hvb := hvb.mono (H' := []) hG5 (fun p hp => hp)
  generalize hR : layS D J hn' en b = R at hr5 ⊢
  obtain ⟨D1, c⟩ := R
  dsimp only at hr5 ⊢
  refine ww ?_
  refine c_cond_d rfl (fun c3 => ?_) (fun c3 => ?_)
  · -- kept
    have c3' : c = 0 := by omega
    subst c3'
    have enj : (newJ J hn' en b).rows = rows ++ [b] := by unfold newJ; rw [hJh, if_pos rfl, hJr]
    rw [if_pos rfl]
    unfold okH okS
    rw [if_pos rfl, if_pos rfl]
    obtain ⟨nh, hnh⟩ : ∃ nh, nh = newH J hn' en b := ⟨_, rfl⟩
    have enh : (newJ J hn' en b).hd = nh := by rw [hnh]; rfl
    have ens : (newJ J hn' en b).s = 1 - J.s := rfl
    rw [← hnh]
    obtain ⟨vs, how, hit⟩ := hro
    have hvl := hit.1
    refine ww ?_
    refine r_startS [JO jp dp nh (1 - J.s) vr] [11] (by kernel_rfl) (fun w h => h.sb) ?_
    refine r_tk 0 rfl rfl (v_move rfl) (fun _ h => (h.sb)) ?_
    refine r_tk 1 rfl rfl (v_move rfl) (fun _ h => (h.sb)) ?_
    refine r_tk 2 rfl rfl (v_nilCheck rfl) (fun _ h => (h.sb)) ?_
    refine r_tk 3 rfl rfl (v_field 5 rfl (by kernel_rfl)) (fun _ h => (h.sb)) ?_
    refine r_tk 4 rfl rfl (v_load rfl (Cel.head rfl) (by kernel_rfl)) (fun _ h => (h.sb)) ?_
    refine r_tk 5 rfl rfl (v_move rfl) (fun _ h => (h.sb)) ?_
    refine r_one 6 (by kernel_rfl) rfl ?_
    refine s_call (xs := [_]) rfl rfl rfl rfl rfl rfl (by kernel_rfl) (fun w hs => clone_c vb b _ w _ _ hvb hbl hs) ?_
    rintro e w' ⟨G6, u, rfl, hG6, hu, hs'⟩; refine a_ret ?_ hs'; clear hs'
    refine r_next (fun w h => ((h.weaken hG6).sb)) ?_
    refine r_one 7 (by kernel_rfl) rfl ?_
    refine s_lit (z := .slice none 0 0) (bs := 24) (e := 31) [_] (by kernel_rfl) rfl rfl rfl rfl (by simpa using hu.one) rfl (by decide) fun b6 => ?_
    refine r_next (fun w h => ((h.weaken hG6).sb)) ?_
    refine r_one 8 (by kernel_rfl) rfl ?_
    refine c_sub ((b6, Cs [u] 31) :: (Br ++ (JO jp dp nh (1 - J.s) vr :: (B5 ++ F)))) sbx ?_
    refine s_append (e := 31) (z := .slice none 0 0) (sz := 1) (bs := 24) (by kernel_rfl) rfl rfl rfl rfl how (Chunk.tail Chunk.head) (SV.block .head (by simp [maxLen])) rfl (by decide) rfl (by simpa using hu.one) (by simp; omega) (by simp; omega) fun u7 B7 ho7 => ?_
    have hro7 : RO G6 u7 (rows ++ [b]) B7 := ⟨vs ++ [u], by rw [List.length_append]; exact ho7, (hit.mono hG6).snoc hu⟩
    have hu7 : u7.oneCell' = true := by obtain ⟨ad, c, e⟩ := ho7.form; rw [e]; rfl
    refine c_sub (JO jp dp nh (1 - J.s) vr :: (B7 ++ (B5 ++ F))) sbx ?_
    refine r_next (fun w h => ((h.weaken hG6).sb)) ?_
    refine r_one 9 (by kernel_rfl) rfl ?_; refine s_val (v_nilCheck rfl) rfl rfl rfl ?_; refine r_next (fun w h => ((h.weaken hG6).sb)) ?_
    refine r_one 10 (by kernel_rfl) rfl ?_; refine s_val (v_field 5 rfl (by kernel_rfl)) rfl rfl rfl ?_; refine r_next (fun w h => ((h.weaken hG6).sb)) ?_
    refine r_one 11 (by kernel_rfl) rfl ?_
    refine s_store1 rfl rfl rfl .head (by kernel_rfl) hu7 (by simp) ?_
    change Holds _ _ _ _ _ (JO jp dp nh (1 - J.s) u7 :: (B7 ++ (B5 ++ F))) _
    refine r_late rfl ?_
    refine r_done (by kernel_rfl) ?_
    refine ww ?_
    exact f_ret1 rfl rfl (fun w hs => ⟨G6, B5, JO jp dp nh (1 - J.s) u7 :: B7, hG5.trans hG6, rfl, hr5, ⟨u7, B7, by rw [enh, ens], by rw [enj]; exact hro7⟩, hs.sb⟩)
  rw [if_neg (by omega)]
  unfold okH okS
  rw [if_neg (by omega), if_neg (by omega), hJhd, hJs]
  refine ww ?_
  exact f_ret1 rfl rfl (fun w hs => ⟨G5, B5, JO jp dp ⟨g, hn', en⟩ s vr :: Br, hG5, rfl, hr5, ⟨vr, Br, by rw [hJhd, hJs], by rw [hJr]; exact hro⟩, hs.sb⟩)
end

section
open Go
set_option linter.unusedVariables false
set_option linter.unusedSimpArgs false
set_option maxHeartbeats 3200000
def J0 : Jn := ⟨⟨1, 0, 0⟩, 0, []⟩
theorem pad_nil : pad64 [] = z64 := rfl
theorem z64_len : z64.length = 64 := by unfold z64; simp
attribute [local irreducible] Code.wp wpList stepK Holds Val wpR Eff Eff0 Code.wpIn wpListIn stepI Exit.then Exit.inBlock bodyPost bodyPostM

theorem format_nil (w0 w : World) (G : Im) (F : Hp) (hs : Sat w0 w G F) :
    Calls Try.prog 12 #[.pointer none] w fun e w' => e = .returned (.tuple #[.pointer none, I64 1]) ∧ Sat w0 w' G F := by
  refine f_enter (vs := [_]) Try.func12 rfl Try.ntmps12 (by simp) hs ?_
  refine ww ?_
  refine c_cond_t rfl ?_
  refine ww ?_
  exact f_ret2 rfl rfl rfl (fun w hs => ⟨rfl, hs⟩)
theorem format_s (dp : Nat) (B : Hp) (D : Dk) (hr : DH dp D B) (hl : D.now.length < 6) (w0 w : World) (G : Im) (F : Hp) (hs : Sat w0 w G (B ++ F)) :
    Calls Try.prog 12 #[Pt dp 0] w fun e w' => e = .returned (.tuple #[.pointer none, I64 1]) ∧ Sat w0 w' G (B ++ F) := by
  refine f_enter (vs := [_]) Try.func12 rfl Try.ntmps12 (by simp) hs ?_
  refine ww ?_
  refine c_cons (s_call (xs := [_]) rfl rfl rfl rfl rfl rfl (by kernel_rfl) (fun w hs => sectorsH_c dp B D hr _ w _ _ hs) ?_)
  rintro e w' ⟨rfl, hs'⟩; refine a_ret ?_ hs'; clear hs'
  refine ww ?_
  refine c_cond_d rfl (fun c2 => ?_) (fun c2 => ?_)
  · refine ww ?_
    exact f_ret2 rfl rfl rfl (fun w hs => ⟨rfl, hs⟩)
  exfalso; omega
theorem format_c (dp : Nat) (B : Hp) (D : Dk) (hr : DH dp D B) (hl : 6 ≤ D.now.length ∧ D.now.length ≤ 4160) (hsm : D.since.length < 990000) (ho : D.ops < 990000) (w0 w : World) (G : Im) (F : Hp) (hs : Sat w0 w G (B ++ F)) :
    Calls Try.prog 12 #[Pt dp 0] w fun e w' => ∃ G' B' v, Im.le G G' ∧ e = .returned (.tuple #[v, I64 (fmtS D).2]) ∧ DH dp (fmtS D).1 B' ∧
      (((fmtS D).2 = 0 ∧ ∃ jp Bj, v = Pt jp 0 ∧ JH G' jp dp J0 Bj ∧ Sat w0 w' G' (Bj ++ (B' ++ F))) ∨ (¬ (fmtS D).2 = 0 ∧ v = .pointer none ∧ Sat w0 w' G' (B' ++ F))) := by
  refine f_enter (vs := [_]) Try.func12 rfl Try.ntmps12 (by simp) hs ?_
  refine ww ?_
  refine c_cons (s_call (xs := [_]) rfl rfl rfl rfl rfl rfl (by kernel_rfl) (fun w hs => sectorsH_c dp B D hr _ w _ _ hs) ?_)
  rintro e w' ⟨rfl, hs'⟩; refine a_ret ?_ hs'; clear hs'
  refine ww ?_
  refine c_cond_d rfl (fun c2 => ?_) (fun c2 => ?_)
  · exfalso; omega
  refine ww ?_
  refine c_cons (s_val (v_build (ps := [_]) #[I64 1, I64 0, I64 0] rfl (by kernel_rfl)) rfl rfl rfl ?_)
  refine c_cons (s_allocA [I64 0, I64 0, I64 0] (by kernel_rfl) rfl rfl fun b1 => ?_)
  refine c_cons (s_storeA (vs := [I64 1, I64 0, I64 0]) rfl rfl rfl .head (by kernel_rfl) (by simp [Value.oneCell']) rfl ?_)
  refine c_freeze .head fun G1 hG1 k1 => ?_
  refine ww ?_
  refine c_cons (s_call (xs := [_]) rfl rfl rfl rfl rfl rfl (by kernel_rfl) (fun w hs => jsec_c (.slice none 0 0) [] (by simp) _ w _ _ (SV.nil _ _) hs) ?_)
  rw [pad_nil]
  rintro e w' ⟨G2, u2, rfl, hG2, hu2, hs'⟩; refine a_ret ?_ hs'; clear hs'
  refine c_cons (s_call (xs := [_, _, _]) rfl rfl rfl rfl rfl rfl (by kernel_rfl) (fun w hs => write_c dp B D hr _ _ _ (by omega) (by omega) _ w _ _ (hu2.mono (Im.le_refl _) (by simp)) hs) ?_)
  have hg1 := write_grow D 1 z64
  unfold fmtS
  generalize writeS D 1 z64 = W1 at hg1 ⊢
  rintro e w' ⟨B3, rfl, hr3, hs'⟩; refine a_ret ?_ hs'; clear hs'
  refine ww ?_
  refine c_cond_d rfl (fun c3 => ?_) (fun c3 => ?_)
  · -- then
    rw [if_neg c3]
    refine ww ?_
    exact f_ret2 rfl rfl rfl (fun w hs => ⟨G2, B3, _, hG1.trans hG2, rfl, hr3, .inr ⟨c3, rfl, hs⟩⟩)
  have c3' : W1.2 = 0 := by omega
  rw [if_pos c3']
  replace k1 := hG2 _ _ k1
  refine ww ?_
  refine c_cons (s_val (v_loadAgg (vs := [I64 1, I64 0, I64 0]) rfl (by kernel_rfl) (by kernel_rfl) rfl (fun j u hj => (Cel.allI k1 hj))) rfl rfl rfl ?_)
  refine c_cons (s_call (xs := [_]) rfl rfl rfl rfl rfl rfl (by kernel_rfl) (fun w hs => jlaid_c ⟨1, 0, 0⟩ ⟨by decide, by decide, by decide⟩ _ w _ _ hs) ?_)
  obtain ⟨x, hx⟩ : ∃ x, x = pad64 (hdB ⟨1, 0, 0⟩) := ⟨_, rfl⟩
  rw [← hx]
  rintro e w' ⟨G4, u4, rfl, hG4, hu4, hs'⟩; refine a_ret ?_ hs'; clear hs'
  refine c_cons (s_call (xs := [_, _, _]) rfl rfl rfl rfl rfl rfl (by kernel_rfl) (fun w hs => write_c dp B3 W1.1 hr3 _ _ _ (by omega) (by omega) _ w _ _ (hu4.mono (Im.le_refl _) (by simp)) hs) ?_)
  have hg2 := write_grow W1.1 0 x
  generalize writeS W1.1 0 x = W2 at hg2 ⊢
  rintro e w' ⟨B5, rfl, hr5, hs'⟩; refine a_ret ?_ hs'; clear hs'
  refine ww ?_
  refine c_cond_d rfl (fun c4 => ?_) (fun c4 => ?_)
  · -- then
    rw [if_neg c4]
    refine ww ?_
    exact f_ret2 rfl rfl rfl (fun w hs => ⟨G4, B5, _, hG1.trans (hG2.trans hG4), rfl, hr5, .inr ⟨c4, rfl, hs⟩⟩)
  have c4' : W2.2 = 0 := by omega
  rw [if_pos c4']
  replace k1 := hG4 _ _ k1
  refine ww ?_
  refine c_cons (s_call (xs := [_]) rfl rfl rfl rfl rfl rfl (by kernel_rfl) (fun w hs => sync_c dp B5 W2.1 hr5 (by omega) _ w _ _ hs) ?_)
  generalize syncS W2.1 = W3
  rintro e w' ⟨B6, rfl, hr6, hs'⟩; refine a_ret ?_ hs'; clear hs'
  refine ww ?_
  refine c_cond_d rfl (fun c5 => ?_) (fun c5 => ?_)
  · -- then
    refine ww ?_
    exact f_ret2 rfl rfl rfl (fun w hs => ⟨G4, B6, _, hG1.trans (hG2.trans hG4), rfl, hr6, .inr ⟨c5, rfl, hs⟩⟩)
  have c5' : W3.2 = 0 := by omega
  refine ww ?_
  refine c_cons (s_val (v_loadAgg (vs := [I64 1, I64 0, I64 0]) rfl (by kernel_rfl) (by kernel_rfl) rfl (fun j u hj => (Cel.allI k1 hj))) rfl rfl rfl ?_)
  refine c_cons (s_val (v_build (ps := [_, _]) #[Pt dp 0, I64 1, I64 0, I64 0, I64 0, .slice none 0 0] rfl (by kernel_rfl)) rfl rfl rfl ?_)
  refine c_cons (s_boxA [Pt dp 0, I64 1, I64 0, I64 0, I64 0, .slice none 0 0] rfl rfl rfl fun b2 => ?_)
  refine ww ?_
  exact f_ret2 rfl rfl rfl (fun w hs => ⟨G4, B6, Pt b2 0, hG1.trans (hG2.trans hG4), by rw [c5'], hr6, .inl ⟨c5', b2, [JO b2 dp ⟨1, 0, 0⟩ 0 (.slice none 0 0)], rfl, ⟨_, [], rfl, RO.zero _ _⟩, hs⟩⟩)

theorem jreset_c (jp dp : Nat) (B Bj : Hp) (D : Dk) (hr : DH dp D B) (hl : 6 ≤ D.now.length ∧ D.now.length ≤ 4160) (J : Jn) (hW : WJ D.now.length J) (vb : Value) (b : List UInt8) (hbl : b.length ≤ 1000000)
    (hsm : D.since.length < 990000) (ho : D.ops < 990000) (w0 w : World) (G : Im) (F : Hp) (hj : JH G jp dp J Bj) (hvb : SV G [] vb b.length (b.map B8)) (hs : Sat w0 w G (Bj ++ (B ++ F))) :
    Calls Try.prog 14 #[Pt jp 0, vb] w fun e w' => ∃ G' B' Bj', Im.le G G' ∧ e = .returned (I64 (rstS D J b).2) ∧ DH dp (rstS D J b).1 B' ∧ JH G' jp dp (rstJ D J b) Bj' ∧ Sat w0 w' G' (Bj' ++ (B' ++ F)) := by
  obtain ⟨vr, Br, rfl, hro⟩ := hj
  obtain ⟨⟨⟨g, h, e⟩, s, rows⟩, rfl⟩ : ∃ J', J' = J := ⟨J, rfl⟩
  obtain ⟨hg, hh, he, hs01, hn, hrr⟩ := hW
  have hg0 := hg
  obtain ⟨hg1, hg2, hg3⟩ := hg0
  dsimp only at hh he hs01 hg1 hg2 hg3 hn hrr hro
  obtain ⟨J, hJ⟩ : ∃ J : Jn, J = ⟨⟨g, h, e⟩, s, rows⟩ := ⟨_, rfl⟩
  have hJh : J.hd.h = h := by rw [hJ]
  have hJs : J.s = s := by rw [hJ]
  have hJhd : J.hd = ⟨g, h, e⟩ := by rw [hJ]
  have hJg : gdJ J.hd := by rw [hJ]; exact hg
  have hJs01 : J.s = 0 ∨ J.s = 1 := by rw [hJ]; exact hs01
  have hJr : J.rows = rows := by rw [hJ]
  rw [← hJ]
  obtain ⟨hn', hh'⟩ : ∃ x : Nat, (x : Int) = 1 - h := ⟨(1 - h).toNat, by omega⟩
  have hh1 : hn' ≤ 1 := by omega
  have hap : rstS D J b = layS D J (hn' : Int) ((0 : Nat) : Int) b := by unfold rstS; rw [hJh, hh']; rfl
  have haj : rstJ D J b = if (layS D J (hn' : Int) ((0 : Nat) : Int) b).2 = 0 then newJ J hn' 0 b else J := by unfold rstJ; rw [hap, hJh, hh']
  rw [hap, haj]
  change Sat w0 w G ((JO jp dp ⟨g, h, e⟩ s vr :: Br) ++ (B ++ F)) at hs
  refine f_enter (vs := [_, _]) Try.func14 rfl Try.ntmps14 (by simp) (hs.sb : Sat w0 w G (JO jp dp ⟨g, h, e⟩ s vr :: (B ++ (Br ++ F)))) ?_
  refine ww ?_
  refine c_cons (s_val (v_field 0 rfl (by kernel_rfl)) rfl rfl rfl ?_)
  refine c_cons (s_val (v_load rfl (Cel.head rfl) (by kernel_rfl)) rfl rfl rfl ?_)
  refine ww ?_
  refine c_cond_f rfl ?_
  refine ww ?_
  refine c_cons (s_val (v_field 1 rfl (by kernel_rfl)) rfl rfl rfl ?_)
  refine c_cons (s_val (v_field 1 rfl (by kernel_rfl)) rfl rfl rfl ?_)
  refine c_cons (s_val (v_load rfl (Cel.head rfl) (by kernel_rfl)) rfl rfl rfl ?_)
  refine c_cons (s_val (v_sub rfl rfl (by dsimp only; omega)) rfl rfl rfl ?_)
  rw [show (1 : Int) - (⟨g, h, e⟩ : Jh).h = (hn' : Int) from hh'.symm]
  refine ww ?_
  refine c_cons (s_call (xs := [_, _, _, _]) rfl rfl rfl rfl rfl rfl (by kernel_rfl) (fun w hs => jlay_c jp dp B D hr hl J hJg hJs01 vr hn' 0 hh1 (Nat.zero_le _) vb b hbl hsm ho _ w _ _ hvb (by rw [hJhd, hJs]; exact hs)) ?_)
  rintro e w' ⟨G5, B5, hG5, rfl, hr5, hs'⟩; refine a_ret ?_ hs'; clear hs'
  replace hvb := hvb.mono (H' := []) hG5 (fun p hp => hp)
  generalize hR : layS D J (hn' : Int) ((0 : Nat) : Int) b = R at hr5 ⊢
  obtain ⟨D1, c⟩ := R
  dsimp only at hr5 ⊢
  refine ww ?_
  refine c_cond_d rfl (fun c3 => ?_) (fun c3 => ?_)
  · -- kept
    have c3' : c = 0 := by omega
    subst c3'
    have enj : (newJ J hn' 0 b).rows = [b] := by unfold newJ; rw [hJh, if_neg (by omega)]; rfl
    rw [if_pos rfl]
    unfold okH okS
    rw [if_pos rfl, if_pos rfl]
    obtain ⟨nh, hnh⟩ : ∃ nh, nh = newH J hn' ((0 : Nat) : Int) b := ⟨_, rfl⟩
    have enh : (newJ J hn' 0 b).hd = nh := by rw [hnh]; rfl
    have ens : (newJ J hn' 0 b).s = 1 - J.s := rfl
    rw [← hnh]
    refine ww ?_
    refine c_cons (s_call (xs := [_]) rfl rfl rfl rfl rfl rfl (by kernel_rfl) (fun w hs => clone_c vb b _ w _ _ hvb hbl hs) ?_)
    rintro e w' ⟨G6, u, rfl, hG6, hu, hs'⟩; refine a_ret ?_ hs'; clear hs'
    refine ww ?_
    refine c_cons (s_lit (z := .slice none 0 0) (bs := 24) (e := 31) [_] (by kernel_rfl) rfl rfl rfl rfl (by simpa using hu.one) rfl (by decide) fun b6 => ?_)
    refine ww ?_
    refine c_sub (JO jp dp nh (1 - J.s) vr :: (b6, Cs [u] 31) :: (B5 ++ F)) sbx ?_
    refine c_cons (s_val (v_field 5 rfl (by kernel_rfl)) rfl rfl rfl ?_)
    refine c_cons (s_store1 rfl rfl rfl .head (by kernel_rfl) rfl (by simp) ?_)
    change Holds _ _ _ _ _ (JO jp dp nh (1 - J.s) _ :: (b6, Cs [u] 31) :: (B5 ++ F)) _
    refine ww ?_
    refine f_ret1 rfl rfl (fun w hs => ⟨G6, B5, [JO jp dp nh (1 - J.s) (Sl b6 0 [u].length [u].length), (b6, Cs [u] 31)], hG5.trans hG6, rfl, hr5, ⟨_, [(b6, Cs [u] 31)], by rw [enh, ens], ?_⟩, hs.sb⟩)
    rw [enj]
    exact ⟨[u], ⟨rfl, .inr ⟨b6, 1, [], rfl, by simp [maxLen], by simp, by simp, by simp⟩⟩, by
      have := Items.snoc (G := G6) (vs := []) (rs := []) ⟨rfl, fun j x r h => by simp at h⟩ hu
      simpa using this⟩
  rw [if_neg (by omega)]
  unfold okH okS
  rw [if_neg (by omega), if_neg (by omega), hJhd, hJs]
  refine ww ?_
  exact f_ret1 rfl rfl (fun w hs => ⟨G5, B5, JO jp dp ⟨g, h, e⟩ s vr :: Br, hG5, rfl, hr5, ⟨vr, Br, by rw [hJhd, hJs], by rw [hJr]; exact hro.up hG5⟩, hs.sb⟩)

theorem jroom_c (jp dp : Nat) (B Bj : Hp) (D : Dk) (hr : DH dp D B) (hl : 6 ≤ D.now.length ∧ D.now.length ≤ 4160) (J : Jn) (hg : gdJ J.hd)
    (w0 w : World) (G : Im) (F : Hp) (hj : JH G jp dp J Bj) (hs : Sat w0 w G (Bj ++ (B ++ F))) :
    Calls Try.prog 17 #[Pt jp 0] w fun e w' => e = .returned (I64 (roomS D.now.length J.hd.e)) ∧ Sat w0 w' G (Bj ++ (B ++ F)) := by
  obtain ⟨vr, Br, rfl, hro⟩ := hj
  obtain ⟨hg1, hg2, hg3⟩ := hg
  have hz : jz D.now.length ≤ 2079 := by unfold jz; omega
  obtain ⟨hd, s, rows⟩ := J
  obtain ⟨g, h, e⟩ := hd
  dsimp only at hg1 hg2 hg3 hro ⊢
  change Sat w0 w G ((JO jp dp ⟨g, h, e⟩ s vr :: Br) ++ (B ++ F)) at hs
  refine f_enter (vs := [_]) Try.func17 rfl Try.ntmps17 (by simp) hs ?_
  refine ww ?_
  refine c_cons (s_val (v_field 0 rfl (by kernel_rfl)) rfl rfl rfl ?_)
  refine c_cons (s_val (v_load rfl (Cel.head rfl) (by kernel_rfl)) rfl rfl rfl ?_)
  refine ww ?_
  refine c_cond_f rfl ?_
  refine ww ?_
  refine r_startS [JO jp dp ⟨g, h, e⟩ s vr] [] (by kernel_rfl) (fun w h => h.sb) ?_
  refine r_tk 0 rfl rfl (v_move rfl) (fun _ h => (h.sb)) ?_
  refine r_tk 1 rfl rfl (v_nilCheck rfl) (fun _ h => (h.sb)) ?_
  refine r_tk 2 rfl rfl (v_field 0 rfl (by kernel_rfl)) (fun _ h => (h.sb)) ?_
  refine r_tk 3 rfl rfl (v_load rfl (Cel.head rfl) (by kernel_rfl)) (fun _ h => (h.sb)) ?_
  refine r_tk 5 rfl rfl (v_move rfl) (fun _ h => (h.sb)) ?_
  refine r_tk 6 rfl rfl (v_nilCheck rfl) (fun _ h => (h.sb)) ?_
  refine r_tk 7 rfl rfl (v_field 1 rfl (by kernel_rfl)) (fun _ h => (h.sb)) ?_
  refine r_tk 8 rfl rfl (v_field 2 rfl (by kernel_rfl)) (fun _ h => (h.sb)) ?_
  refine r_tk 9 rfl rfl (v_load rfl (Cel.head rfl) (by kernel_rfl)) (fun _ h => (h.sb)) ?_
  refine c_sub (B ++ (JO jp dp ⟨g, h, e⟩ s vr :: (Br ++ F))) sbx ?_
  refine r_one 4 (by kernel_rfl) rfl ?_
  refine s_call (xs := [_]) rfl rfl rfl rfl rfl rfl (by kernel_rfl) (fun w hs => jsize_c dp B D hr (by omega) _ w _ _ hs) ?_
  rintro e w' ⟨rfl, hs'⟩; refine a_ret ?_ hs'; clear hs'
  refine r_next (fun w h => (h.sb)) ?_
  refine r_tk 10 rfl rfl (v_sub rfl rfl (by dsimp only; omega)) (fun _ h => (h.sb)) ?_
  refine r_tk 11 rfl rfl (v_mul rfl rfl (by dsimp only; omega)) (fun _ h => (h.sb)) ?_
  refine r_tk 12 rfl rfl (v_sub rfl rfl (by dsimp only; omega)) (fun _ h => (h.sb)) ?_
  refine r_tk 13 rfl rfl (v_min rfl rfl) (fun _ h => (h.sb)) ?_
  refine r_tk 14 rfl rfl (v_max rfl rfl) (fun _ h => (h.sb)) ?_
  refine r_tk 15 rfl rfl (v_assign rfl) (fun _ h => (h.sb)) ?_
  refine r_done (by kernel_rfl) ?_
  refine ww ?_
  exact f_ret1 rfl rfl (fun w hs => ⟨rfl, (show Sat w0 w G ((JO jp dp ⟨g, h, e⟩ s vr :: Br) ++ (B ++ F)) from hs.sb)⟩)

theorem jall_c (jp dp : Nat) (Bj : Hp) (J : Jn) (hn : J.rows.length ≤ 100000) (hrr : ∀ r ∈ J.rows, r.length ≤ 1000000)
    (w0 w : World) (G : Im) (F : Hp) (hj : JH G jp dp J Bj) (hs : Sat w0 w G (Bj ++ F)) :
    Calls Try.prog 16 #[Pt jp 0] w fun e w' => ∃ G' u, e = .returned u ∧ Im.le G G' ∧ RowsV G' u J.rows ∧ Sat w0 w' G' (Bj ++ F) := by
  obtain ⟨vr, Br, rfl, hro⟩ := hj
  obtain ⟨hd, s, rows⟩ := J
  obtain ⟨g, h, e⟩ := hd
  dsimp only at hn hrr hro ⊢
  change Sat w0 w G ((JO jp dp ⟨g, h, e⟩ s vr :: Br) ++ F) at hs
  obtain ⟨adr, cpr, hvr⟩ := hro.form
  refine f_enter (vs := [_]) Try.func16 rfl Try.ntmps16 (by simp) hs ?_
  refine ww ?_
  refine c_cond_f rfl ?_
  refine ww ?_
  refine c_cons (s_val (v_field 5 rfl (by kernel_rfl)) rfl rfl rfl ?_)
  refine c_cons (s_val (v_load rfl (Cel.head rfl) (by kernel_rfl)) rfl rfl rfl ?_)
  rw [hvr]
  refine ww ?_
  rw [← hvr]
  refine c_loop (α := Nat × Im × Value × Hp) (fun x => [(3, x.2.2.1), (11, vr), (12, I64 (rows.length : Int)), (13, I64 (x.1 : Int))]) (fun x => x.2.1) (fun x => x.2.2.2 ++ ((JO jp dp ⟨g, h, e⟩ s vr :: Br) ++ F)) (fun x => x.1 ≤ rows.length ∧ Im.le G x.2.1 ∧ RO x.2.1 x.2.2.1 (rows.take x.1) x.2.2.2) (fun x => rows.length - x.1) (0, G, .slice none 0 0, []) ⟨Nat.zero_le _, Im.le_refl _, RO.zero _ _⟩ ?_ ?_
  · exact n_at ⟨rfl, rfl, rfl, rfl, trivial⟩ sbx
  rintro ⟨i, Gi, vo, Bo⟩ ⟨hi, hGi, hoo⟩
  dsimp only at hi hGi hoo ⊢
  refine ww ?_
  refine c_cond_d rfl (fun c6 => ?_) (fun c6 => ?_)
  · -- then
    have hil : i < rows.length := by omega
    obtain ⟨r, hrr2⟩ : ∃ r, rows[i]? = some r := ⟨_, List.getElem?_eq_getElem hil⟩
    have hrl := hrr r (List.mem_of_getElem? hrr2)
    obtain ⟨bb, c, L, u, hv2, hB, hL, hu⟩ := (hro.up hGi).cell hrr2
    subst hB
    subst hv2
    have htk : rows.take (i + 1) = rows.take i ++ [r] := by rw [List.take_add_one, hrr2]; rfl
    obtain ⟨vs, how, hit⟩ := hoo
    have hvl := hit.1
    rw [List.length_take] at hvl
    refine c_sub ((bb, Cs L 31) :: (Bo ++ (JO jp dp ⟨g, h, e⟩ s (Sl bb 0 rows.length c) :: F))) sbx ?_
    refine ww ?_
    refine c_cons (s_val (v_index1 rfl rfl (by kernel_rfl) (by omega)) rfl rfl rfl ?_)
    refine c_cons (s_val (v_load rfl (Cel.head (by rw [Int.toNat_natCast, Nat.zero_add]; simpa using hL)) (by kernel_rfl)) rfl rfl rfl ?_)
    refine ww ?_
    refine c_cons (s_call (xs := [_]) rfl rfl rfl rfl rfl rfl (by kernel_rfl) (fun w hs => clone_c u r _ w _ _ hu hrl hs) ?_)
    rintro e w' ⟨G6, u6, rfl, hG6, hu6, hs'⟩; refine a_ret ?_ hs'; clear hs'
    refine ww ?_
    refine c_cons (s_lit (z := .slice none 0 0) (bs := 24) (e := 31) [_] (by kernel_rfl) rfl rfl rfl rfl (by simpa using hu6.one) rfl (by decide) fun b6 => ?_)
    refine c_sub ((b6, Cs [u6] 31) :: (Bo ++ ((bb, Cs L 31) :: JO jp dp ⟨g, h, e⟩ s (Sl bb 0 rows.length c) :: F))) sbx ?_
    refine c_cons (s_append (e := 31) (z := .slice none 0 0) (sz := 1) (bs := 24) (by kernel_rfl) rfl rfl rfl rfl how (Chunk.tail Chunk.head) (SV.block .head (by simp [maxLen])) rfl (by decide) rfl (by simpa using hu6.one) (by simp; omega) (by simp; omega) fun u7 B7 ho7 => ?_)
    refine ww ?_
    refine n_next (x := (i, Gi, vo, Bo)) (i + 1, G6, u7, B7) ⟨hil, hGi.trans hG6, ?_⟩ (by dsimp only; omega) ⟨rfl, rfl, rfl, rfl, trivial⟩ rfl sbx
    dsimp only
    rw [htk]
    exact ⟨vs ++ [u6], by rw [List.length_append]; exact ho7, (hit.mono hG6).snoc hu6⟩
  have hie : i = rows.length := by omega
  subst hie
  rw [List.take_length] at hoo
  refine ww ?_
  refine hoo.freeze Chunk.head fun G7 hG7 hrv => ?_
  exact f_ret1 rfl rfl (fun w hs => ⟨G7, _, rfl, hGi.trans hG7, hrv, hs⟩)
end
end
end Go.Proofs.Ytkjneelekfdpfaa
