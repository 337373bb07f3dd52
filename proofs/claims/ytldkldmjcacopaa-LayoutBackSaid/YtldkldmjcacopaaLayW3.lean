/- The walks of package layout: servers, sized, may, Each, Place, part, long, laid. The walks of package layout: laid, Cut. The walks of package layout: Cut. -/
import Derived.Test.YtldkldmjcacopaaBlkP1
import Derived.Test.YtldkldmjcacopaaBlkR1
import Derived.Test.YtldkldmjcacopaaParW3
import Derived.Test.YtldkldmjcacopaaRecs
import Derived.Test.YtldkldmjcacopaaRecV
import Derived.Test.YtldkldmjcacopaaSub
namespace Go.Proofs.Ytldkldmjcacopaa
section
open Go
set_option linter.unusedVariables false
set_option linter.unusedSimpArgs false
set_option maxHeartbeats 1600000
/-- Whose a fragment is, which one, of how many, of how many bytes. -/
structure Hd where
  c : Int
  l : Int
  n : Int
  i : Int
  s : Int
  z : Int
  deriving DecidableEq
abbrev Hd.cells (h : Hd) : List Value := [I64 h.c, I64 h.l, I64 h.n, I64 h.i, I64 h.s, I64 h.z]
abbrev Hd.V (h : Hd) : Value := .agg #[I64 h.c, I64 h.l, I64 h.n, I64 h.i, I64 h.s, I64 h.z]
def eachS (sz n : Int) : Int := if (3 ≤ n ∧ n ≤ 16) ∧ 0 < sz then (sz - 1) / (n - 1) + 1 else 0
def placeS (c num ix n : Int) : Int := if 3 ≤ n ∧ n ≤ 16 then (((num.tmod n + c.tmod n) + ix.tmod n).tmod n + n).tmod n else 0
def longS (i sz n : Int) : Int := if i = n - 1 then eachS sz n else min (i * eachS sz n + eachS sz n) sz - min (i * eachS sz n) sz
def headB (h : Hd) : List UInt8 := be h.c 1 ++ be h.l 3 ++ be h.n 4 ++ be h.i 1 ++ be h.s 1 ++ be h.z 2
theorem headB_len (h : Hd) : (headB h).length = 12 := by simp [headB, be_len]
theorem each_in {sz n : Int} (hn : 3 ≤ n ∧ n ≤ 16) (hz : 0 ≤ sz) : 0 ≤ eachS sz n ∧ eachS sz n ≤ sz := by
  unfold eachS
  split
  · obtain ⟨k, hk⟩ : ∃ k, k = n - 1 := ⟨_, rfl⟩
    have hk0 : 0 < k := by omega
    rw [← hk]
    have h1 := Int.ediv_nonneg (show 0 ≤ sz - 1 by omega) (show 0 ≤ k by omega)
    have h2 := Int.ediv_le_self k (show 0 ≤ sz - 1 by omega)
    omega
  · omega
theorem tmod_in (p n : Int) (hn : 3 ≤ n ∧ n ≤ 16) : -16 < p.tmod n ∧ p.tmod n < 16 := by
  have h1 := Int.tmod_lt_of_pos p (show 0 < n by omega)
  have h2 := Int.lt_tmod_of_pos p (show 0 < n by omega)
  omega
attribute [local irreducible] Code.wp wpList stepK Holds Val wpR Eff Eff0 Code.wpIn wpListIn stepI Exit.then Exit.inBlock bodyPost bodyPostM

theorem lsrv_c (n : Int) (w0 w : World) (G : Im) (F : Hp) (hs : Sat w0 w G F) :
    Calls Try.prog 40 #[I64 n] w fun e w' => e = .returned (.bool (decide (3 ≤ n ∧ n ≤ 16))) ∧ Sat w0 w' G F := by
  refine f_enter (vs := [_]) Try.func40 rfl Try.ntmps40 (by simp) hs ?_
  refine ww ?_
  refine c_part_d 5 _ rfl (fun c1 => ?_) (fun c1 => ?_)
  · refine ww ?_
    exact f_ret1 rfl rfl (fun w hs => ⟨by rw [decide_eq_decide.2 (show n ≤ 16 ↔ 3 ≤ n ∧ n ≤ 16 by omega)], hs⟩)
  refine ww ?_
  exact f_ret1 rfl rfl (fun w hs => ⟨by rw [decide_eq_false (show ¬ (3 ≤ n ∧ n ≤ 16) by omega)], hs⟩)

theorem lsz_c (sz n : Int) (hn : 3 ≤ n ∧ n ≤ 16) (w0 w : World) (G : Im) (F : Hp) (hs : Sat w0 w G F) :
    Calls Try.prog 42 #[I64 sz, I64 n] w fun e w' => e = .returned (.bool (decide (0 ≤ sz ∧ sz ≤ 400 * (n - 1)))) ∧ Sat w0 w' G F := by
  refine f_enter (vs := [_, _]) Try.func42 rfl Try.ntmps42 (by simp) hs ?_
  refine ww ?_
  refine c_part_d 7 _ rfl (fun c1 => ?_) (fun c1 => ?_)
  · refine ww ?_
    refine c_cons (s_val (v_mul rfl rfl (by omega)) rfl rfl rfl ?_)
    refine ww ?_
    exact f_ret1 rfl rfl (fun w hs => ⟨by rw [decide_eq_decide.2 (show sz ≤ 400 * (n - 1) ↔ 0 ≤ sz ∧ sz ≤ 400 * (n - 1) by omega)], hs⟩)
  refine ww ?_
  exact f_ret1 rfl rfl (fun w hs => ⟨by rw [decide_eq_false (show ¬ (0 ≤ sz ∧ sz ≤ 400 * (n - 1)) by omega)], hs⟩)

theorem lwi_c (x m : Int) (w0 w : World) (G : Im) (F : Hp) (hs : Sat w0 w G F) :
    Calls Try.prog 60 #[I64 x, I64 m] w fun e w' => e = .returned (.bool (decide (0 ≤ x ∧ x ≤ m))) ∧ Sat w0 w' G F := by
  refine f_enter (vs := [_, _]) Try.func60 rfl Try.ntmps60 (by simp) hs ?_
  refine ww ?_
  refine c_part_d 7 _ rfl (fun c1 => ?_) (fun c1 => ?_)
  · refine ww ?_
    exact f_ret1 rfl rfl (fun w hs => ⟨by rw [decide_eq_decide.2 (show x ≤ m ↔ 0 ≤ x ∧ x ≤ m by omega)], hs⟩)
  refine ww ?_
  exact f_ret1 rfl rfl (fun w hs => ⟨by rw [decide_eq_false (show ¬ (0 ≤ x ∧ x ≤ m) by omega)], hs⟩)

theorem lmay_c (a b c : Int) (w0 w : World) (G : Im) (F : Hp) (hs : Sat w0 w G F) :
    Calls Try.prog 41 #[.agg #[I64 a, I64 b, I64 c]] w fun e w' => e = .returned (.bool (decide (mst a b c))) ∧ Sat w0 w' G F := by
  refine f_enter (vs := [_]) Try.func41 rfl Try.ntmps41 (by simp) hs ?_
  refine ww ?_
  refine c_cons (s_boxA [I64 a, I64 b, I64 c] rfl rfl rfl fun b1 => ?_)
  refine ww ?_
  refine c_cons (s_val (v_field 0 rfl (by kernel_rfl)) rfl rfl rfl ?_)
  refine c_cons (s_val (v_load rfl (Cel.head rfl) (by kernel_rfl)) rfl rfl rfl ?_)
  refine c_cons (s_call (xs := [_, _]) rfl rfl rfl rfl rfl rfl (by kernel_rfl) (fun w hs => lwi_c a 4 _ w _ _ hs) ?_)
  rintro e w' ⟨rfl, hs'⟩; refine a_ret ?_ hs'; clear hs'
  refine ww ?_
  refine c_part_d 8 _ rfl (fun c1 => ?_) (fun c1 => ?_)
  · refine ww ?_
    refine c_cons (s_val (v_field 1 rfl (by kernel_rfl)) rfl rfl rfl ?_)
    refine c_cons (s_val (v_load rfl (Cel.head rfl) (by kernel_rfl)) rfl rfl rfl ?_)
    refine c_cons (s_call (xs := [_, _]) rfl rfl rfl rfl rfl rfl (by kernel_rfl) (fun w hs => lwi_c b 1048576 _ w _ _ hs) ?_)
    rintro e w' ⟨rfl, hs'⟩; refine a_ret ?_ hs'; clear hs'
    refine ww ?_
    refine c_part_d 14 _ rfl (fun c2 => ?_) (fun c2 => ?_)
    · refine ww ?_
      refine c_cons (s_val (v_field 2 rfl (by kernel_rfl)) rfl rfl rfl ?_)
      refine c_cons (s_val (v_load rfl (Cel.head rfl) (by kernel_rfl)) rfl rfl rfl ?_)
      refine c_cons (s_call (xs := [_, _]) rfl rfl rfl rfl rfl rfl (by kernel_rfl) (fun w hs => lwi_c c 1073741824 _ w _ _ hs) ?_)
      rintro e w' ⟨rfl, hs'⟩; refine a_ret ?_ hs'; clear hs'
      refine ww ?_
      exact f_ret1 rfl rfl (fun w hs => ⟨by rw [decide_eq_decide.2 (show (0 ≤ c ∧ c ≤ 1073741824) ↔ mst a b c by unfold mst; omega)], hs.tl⟩)
    refine ww ?_
    exact f_ret1 rfl rfl (fun w hs => ⟨by rw [decide_eq_false (show ¬ mst a b c by unfold mst; omega)], hs.tl⟩)
  refine ww ?_
  exact f_ret1 rfl rfl (fun w hs => ⟨by rw [decide_eq_false (show ¬ mst a b c by unfold mst; omega)], hs.tl⟩)

theorem leach_c (sz n : Int) (hz : sz ≤ 9223372036854775807) (w0 w : World) (G : Im) (F : Hp) (hs : Sat w0 w G F) :
    Calls Try.prog 21 #[I64 sz, I64 n] w fun e w' => e = .returned (I64 (eachS sz n)) ∧ Sat w0 w' G F := by
  refine f_enter (vs := [_, _]) Try.func21 rfl Try.ntmps21 (by simp) hs ?_
  refine ww ?_
  refine c_cons (s_call (xs := [_]) rfl rfl rfl rfl rfl rfl (by kernel_rfl) (fun w hs => lsrv_c n _ w _ _ hs) ?_)
  rintro e w' ⟨rfl, hs'⟩; refine a_ret ?_ hs'; clear hs'
  refine ww ?_
  refine c_part_nd 8 _ rfl (fun c1 => ?_) (fun c1 => ?_)
  · refine ww ?_
    refine c_cond_t rfl ?_
    refine ww ?_
    exact f_ret1 rfl rfl (fun w hs => ⟨by unfold eachS; rw [if_neg (by omega)], hs⟩)
  refine ww ?_
  refine c_cond_d rfl (fun c2 => ?_) (fun c2 => ?_)
  · refine ww ?_
    exact f_ret1 rfl rfl (fun w hs => ⟨by unfold eachS; rw [if_neg (by omega)], hs⟩)
  obtain ⟨k, hk⟩ : ∃ k, k = n - 1 := ⟨_, rfl⟩
  have h1 := Int.ediv_nonneg (show 0 ≤ sz - 1 by omega) (show 0 ≤ k by omega)
  have h2 := Int.ediv_le_self k (show 0 ≤ sz - 1 by omega)
  refine ww ?_
  rw [← hk]
  refine c_cons (s_val (v_quo rfl rfl (by omega) (by omega)) rfl rfl rfl ?_)
  refine ww ?_
  exact f_ret1 rfl rfl (fun w hs => ⟨by unfold eachS; rw [if_pos ⟨c1, by omega⟩, hk], hs⟩)

theorem lplace_c (c l num ix n : Int) (w0 w : World) (G : Im) (F : Hp) (hs : Sat w0 w G F) :
    Calls Try.prog 22 #[.agg #[I64 c, I64 l, I64 num], I64 ix, I64 n] w fun e w' => e = .returned (I64 (placeS c num ix n)) ∧ Sat w0 w' G F := by
  refine f_enter (vs := [_, _, _]) Try.func22 rfl Try.ntmps22 (by simp) hs ?_
  refine ww ?_
  refine c_cons (s_boxA [I64 c, I64 l, I64 num] rfl rfl rfl fun b1 => ?_)
  refine ww ?_
  refine c_cons (s_call (xs := [_]) rfl rfl rfl rfl rfl rfl (by kernel_rfl) (fun w hs => lsrv_c n _ w _ _ hs) ?_)
  rintro e w' ⟨rfl, hs'⟩; refine a_ret ?_ hs'; clear hs'
  refine ww ?_
  refine c_cond_nd rfl (fun c1 => ?_) (fun c1 => ?_)
  · refine ww ?_
    exact f_ret1 rfl rfl (fun w hs => ⟨by unfold placeS; rw [if_neg c1], hs.tl⟩)
  have t1 := tmod_in num n c1
  have t2 := tmod_in c n c1
  have t3 := tmod_in ix n c1
  have t4 := tmod_in (num.tmod n + c.tmod n + ix.tmod n) n c1
  refine ww ?_
  refine r_start [] (by kernel_rfl) ?_ -- D1
  refine r_tk 0 rfl rfl (v_field 2 rfl (by kernel_rfl)) (fun _ h => h) ?_
  refine r_tk 1 rfl rfl (v_load rfl (Cel.head rfl) (by kernel_rfl)) (fun _ h => h) ?_
  refine r_tk 2 rfl rfl (v_move rfl) (fun _ h => h) ?_
  refine r_tk 3 rfl rfl (v_remT rfl rfl (by omega)) (fun _ h => h) ?_
  refine r_tk 4 rfl rfl (v_field 0 rfl (by kernel_rfl)) (fun _ h => h) ?_
  refine r_tk 5 rfl rfl (v_load rfl (Cel.head rfl) (by kernel_rfl)) (fun _ h => h) ?_
  refine r_tk 6 rfl rfl (v_move rfl) (fun _ h => h) ?_
  refine r_tk 7 rfl rfl (v_remT rfl rfl (by omega)) (fun _ h => h) ?_
  refine r_tk 8 rfl rfl (v_add rfl rfl (by omega)) (fun _ h => h) ?_
  refine r_tk 9 rfl rfl (v_move rfl) (fun _ h => h) ?_
  refine r_tk 10 rfl rfl (v_move rfl) (fun _ h => h) ?_
  refine r_tk 11 rfl rfl (v_remT rfl rfl (by omega)) (fun _ h => h) ?_
  refine r_tk 12 rfl rfl (v_add rfl rfl (by omega)) (fun _ h => h) ?_
  refine r_tk 13 rfl rfl (v_move rfl) (fun _ h => h) ?_
  refine r_tk 14 rfl rfl (v_remT rfl rfl (by omega)) (fun _ h => h) ?_
  refine r_tk 15 rfl rfl (v_move rfl) (fun _ h => h) ?_
  refine r_tk 16 rfl rfl (v_add rfl rfl (by omega)) (fun _ h => h) ?_
  refine r_tk 17 rfl rfl (v_move rfl) (fun _ h => h) ?_
  refine r_tk 18 rfl rfl (v_remT rfl rfl (by omega)) (fun _ h => h) ?_
  refine r_tk 19 rfl rfl (v_assign rfl) (fun _ h => h) ?_
  refine r_done (by kernel_rfl) ?_
  refine ww ?_
  exact f_ret1 rfl rfl (fun w hs => ⟨by unfold placeS; rw [if_pos c1], hs.tl⟩)

theorem lpart_c (i sz n : Int) (hi : 0 ≤ i ∧ i ≤ 255) (hz : 0 ≤ sz ∧ sz ≤ 100000) (hn : 3 ≤ n ∧ n ≤ 16) (w0 w : World) (G : Im) (F : Hp) (hs : Sat w0 w G F) :
    Calls Try.prog 45 #[I64 i, I64 sz, I64 n] w fun e w' => e = .returned (.tuple #[I64 (min (i * eachS sz n) sz), I64 (min (i * eachS sz n + eachS sz n) sz)]) ∧ Sat w0 w' G F := by
  refine f_enter (vs := [_, _, _]) Try.func45 rfl Try.ntmps45 (by simp) hs ?_
  obtain ⟨h1, h2⟩ := each_in hn hz.1
  refine ww ?_
  refine c_cons (s_call (xs := [_, _]) rfl rfl rfl rfl rfl rfl (by kernel_rfl) (fun w hs => leach_c sz n (by omega) _ w _ _ hs) ?_)
  rintro e w' ⟨rfl, hs'⟩; refine a_ret ?_ hs'; clear hs'
  generalize eachS sz n = e at h1 h2 ⊢
  have h3 : 0 ≤ i * e ∧ i * e ≤ 255 * 100000 := ⟨Int.mul_nonneg hi.1 h1, Int.mul_le_mul hi.2 (by omega) h1 (by omega)⟩
  refine ww ?_
  refine c_cons (s_val (v_mul rfl rfl (by omega)) rfl rfl rfl ?_)
  refine ww ?_
  refine c_cons (s_val (v_mul rfl rfl (by omega)) rfl rfl rfl ?_)
  refine ww ?_
  exact f_ret2 rfl rfl rfl (fun w hs => ⟨rfl, hs⟩)

theorem llong_c (h : Hd) (hi : 0 ≤ h.i ∧ h.i ≤ 255) (hz : 0 ≤ h.z ∧ h.z ≤ 100000) (hn : 3 ≤ h.s ∧ h.s ≤ 16) (w0 w : World) (G : Im) (F : Hp) (hs : Sat w0 w G F) :
    Calls Try.prog 58 #[h.V] w fun e w' => e = .returned (I64 (longS h.i h.z h.s)) ∧ Sat w0 w' G F := by
  refine f_enter (vs := [_]) Try.func58 rfl Try.ntmps58 (by simp) hs ?_
  obtain ⟨h1, h2⟩ := each_in hn hz.1
  refine ww ?_
  refine c_cons (s_boxA [I64 h.c, I64 h.l, I64 h.n, I64 h.i, I64 h.s, I64 h.z] rfl rfl rfl fun b1 => ?_)
  refine ww ?_
  refine c_cons (s_val (v_field 3 rfl (by kernel_rfl)) rfl rfl rfl ?_)
  refine c_cons (s_val (v_load rfl (Cel.head rfl) (by kernel_rfl)) rfl rfl rfl ?_)
  refine c_cons (s_val (v_field 4 rfl (by kernel_rfl)) rfl rfl rfl ?_)
  refine c_cons (s_val (v_load rfl (Cel.head rfl) (by kernel_rfl)) rfl rfl rfl ?_)
  refine ww ?_
  refine c_cond_d rfl (fun c1 => ?_) (fun c1 => ?_)
  · refine ww ?_
    refine c_cons (s_val (v_field 5 rfl (by kernel_rfl)) rfl rfl rfl ?_)
    refine c_cons (s_val (v_load rfl (Cel.head rfl) (by kernel_rfl)) rfl rfl rfl ?_)
    refine c_cons (s_val (v_field 4 rfl (by kernel_rfl)) rfl rfl rfl ?_)
    refine c_cons (s_val (v_load rfl (Cel.head rfl) (by kernel_rfl)) rfl rfl rfl ?_)
    refine c_cons (s_call (xs := [_, _]) rfl rfl rfl rfl rfl rfl (by kernel_rfl) (fun w hs => leach_c h.z h.s (by omega) _ w _ _ hs) ?_)
    rintro e w' ⟨rfl, hs'⟩; refine a_ret ?_ hs'; clear hs'
    refine ww ?_
    exact f_ret1 rfl rfl (fun w hs => ⟨by unfold longS; rw [if_pos c1], hs.tl⟩)
  refine ww ?_
  refine c_cons (s_val (v_field 3 rfl (by kernel_rfl)) rfl rfl rfl ?_)
  refine c_cons (s_val (v_load rfl (Cel.head rfl) (by kernel_rfl)) rfl rfl rfl ?_)
  refine c_cons (s_val (v_field 5 rfl (by kernel_rfl)) rfl rfl rfl ?_)
  refine c_cons (s_val (v_load rfl (Cel.head rfl) (by kernel_rfl)) rfl rfl rfl ?_)
  refine c_cons (s_val (v_field 4 rfl (by kernel_rfl)) rfl rfl rfl ?_)
  refine c_cons (s_val (v_load rfl (Cel.head rfl) (by kernel_rfl)) rfl rfl rfl ?_)
  refine c_cons (s_call (xs := [_, _, _]) rfl rfl rfl rfl rfl rfl (by kernel_rfl) (fun w hs => lpart_c h.i h.z h.s hi hz hn _ w _ _ hs) ?_)
  rintro e w' ⟨rfl, hs'⟩; refine a_ret ?_ hs'; clear hs'
  obtain ⟨e, he⟩ : ∃ e, e = eachS h.z h.s := ⟨_, rfl⟩
  rw [← he] at h1 h2 ⊢
  have h3 : 0 ≤ h.i * e ∧ h.i * e ≤ 255 * 100000 := ⟨Int.mul_nonneg hi.1 h1, Int.mul_le_mul hi.2 (by omega) h1 (by omega)⟩
  refine ww ?_
  exact f_ret1 rfl rfl (fun w hs => ⟨by unfold longS; rw [if_neg c1, ← he], hs.tl⟩)
end

section
open Go
set_option linter.unusedVariables false
set_option linter.unusedSimpArgs false
set_option maxHeartbeats 1600000
def Im.del (G : Im) (b : Nat) : Im := fun k => if k = b then none else G k
theorem Im.le_del {G G' : Im} (h : Im.le G G') {b : Nat} (hb : G b = none) : Im.le G (Im.del G' b) := fun k o hk => by
  unfold Im.del
  by_cases e : k = b
  · subst e; rw [hb] at hk; cases hk
  · rw [if_neg e]; exact h k o hk
/-- What was given up for a while is owned again. -/
theorem Sat.thaw {w0 w : World} {G : Im} {H : Hp} {b : Nat} {o : Obj} (h : Sat w0 w G H) (hb : G b = some o) : Sat w0 w (Im.del G b) ((b, o) :: H) := by
  refine ⟨h.os, h.tape, h.output, h.size, fun k q hk => ?_, fun p hp => ?_, fun p hp => ?_, ?_⟩
  · unfold Im.del at hk
    by_cases e : k = b
    · rw [if_pos e] at hk; cases hk
    · rw [if_neg e] at hk; exact h.imm k q hk
  · rcases List.mem_cons.1 hp with rfl | hp
    · exact h.imm b o hb
    · exact h.own p hp
  · unfold Im.del
    rcases List.mem_cons.1 hp with rfl | hp
    · exact if_pos rfl
    · by_cases e : p.1 = b
      · exact if_pos e
      · rw [if_neg e]; exact h.sep p hp
  · simp only [List.map_cons, List.nodup_cons]
    refine ⟨fun hm => ?_, h.nodup⟩
    obtain ⟨p, hp, e⟩ := List.mem_map.1 hm
    have := h.sep p hp
    rw [e, hb] at this; cases this
/-- Rows in memory that is owned. -/
def RO (G : Im) (v : Value) (rs : List (List UInt8)) (B : Hp) : Prop := ∃ vs, Own v vs.length vs 22 1 B ∧ Items G vs rs
theorem RO.up {G G' : Im} {v : Value} {rs : List (List UInt8)} {B : Hp} (h : RO G v rs B) (hG : Im.le G G') : RO G' v rs B := let ⟨vs, h1, h2⟩ := h; ⟨vs, h1, h2.mono hG⟩
theorem RO.zero (G : Im) (ad : Option Addr) : RO G (.slice ad 0 0) [] [] := ⟨[], Own.zero ad _ _, rfl, fun j x r h => by simp at h⟩
theorem RO.form {G : Im} {v : Value} {rs : List (List UInt8)} {B : Hp} (h : RO G v rs B) : ∃ ad c, v = .slice ad rs.length c := by
  obtain ⟨vs, h1, h2⟩ := h
  rw [← h2.1]; exact h1.form
theorem Items.snoc {G : Im} {vs : List Value} {rs : List (List UInt8)} (h : Items G vs rs) {u : Value} {b : List UInt8} (hu : SV G [] u b.length (b.map B8)) : Items G (vs ++ [u]) (rs ++ [b]) := by
  refine ⟨by simp [h.1], fun j x r hx hr => ?_⟩
  by_cases hj : j < vs.length
  · rw [List.getElem?_append_left hj] at hx
    rw [List.getElem?_append_left (by rw [← h.1]; exact hj)] at hr
    exact h.2 j x r hx hr
  · have hjl : j < (vs ++ [u]).length := (List.getElem?_eq_some_iff.1 hx).1
    have hje : j = vs.length := by simp at hjl; omega
    subst hje
    rw [List.getElem?_append_right (Nat.le_refl _), Nat.sub_self] at hx
    rw [h.1, List.getElem?_append_right (Nat.le_refl _), Nat.sub_self] at hr
    cases hx
    cases hr
    exact hu
theorem RO.freeze {w0 : World} {n : Nat} {ds : List Deferred} {env : Env} {K : Act → World → Prop} {G : Im} {v : Value} {rs : List (List UInt8)} {B H H1 : Hp} (h : RO G v rs B) (hch : Chunk B H H1)
    (k : ∀ G', Im.le G G' → RowsV G' v rs → Holds n ds w0 env G' H1 K) : Holds n ds w0 env G H K := by
  obtain ⟨vs, h1, h2⟩ := h
  exact c_freezeO h1 hch fun G' hG hsv => k G' hG ⟨vs, hsv, h2.mono hG⟩
theorem SV.one {G : Im} {v : Value} {k : Nat} {L : List Value} (h : SV G [] v k L) : v.oneCell' = true := by
  obtain ⟨ad, c, rfl⟩ := h.form
  rfl
/-- A number is so long at most. -/
def gd (h : Hd) : Prop := (0 ≤ h.c ∧ h.c ≤ 255) ∧ (0 ≤ h.l ∧ h.l ≤ 16777215) ∧ (0 ≤ h.n ∧ h.n ≤ 4294967295) ∧ (0 ≤ h.i ∧ h.i ≤ 255) ∧ (0 ≤ h.s ∧ h.s ≤ 255) ∧ (0 ≤ h.z ∧ h.z ≤ 65535)
def partB (xs : List UInt8) (e i : Nat) : List UInt8 := (xs.drop (min (i * e) xs.length)).take (min (i * e + e) xs.length - min (i * e) xs.length)
theorem partB_len (xs : List UInt8) (e i : Nat) : (partB xs e i).length = min (i * e + e) xs.length - min (i * e) xs.length := by
  unfold partB; rw [List.length_take, List.length_drop]; omega
def partsL (xs : List UInt8) (e k : Nat) : List (List UInt8) := (List.range k).map (partB xs e)
theorem partsL_snoc (xs : List UInt8) (e k : Nat) : partsL xs e (k + 1) = partsL xs e k ++ [partB xs e k] := by simp [partsL, List.range_succ]
def fragsL (c l n s z : Int) (rs : List (List UInt8)) : List (List UInt8) := rs.mapIdx fun i b => headB ⟨c, l, n, i, s, z⟩ ++ b
theorem fragsL_snoc (c l n s z : Int) (rs : List (List UInt8)) (b : List UInt8) : fragsL c l n s z (rs ++ [b]) = fragsL c l n s z rs ++ [headB ⟨c, l, n, rs.length, s, z⟩ ++ b] := by
  unfold fragsL; rw [List.mapIdx_concat]
theorem fragsL_len (c l n s z : Int) (rs : List (List UInt8)) : (fragsL c l n s z rs).length = rs.length := by simp [fragsL]
def eN (xs : List UInt8) (n : Int) : Nat := (eachS xs.length n).toNat
def rowsL (xs : List UInt8) (n : Int) : List (List UInt8) := partsL xs (eN xs n) (n - 1).toNat ++ [pxor (partsL xs (eN xs n) (n - 1).toNat)]
theorem parts_mxl (xs : List UInt8) (e k : Nat) : mxl (partsL xs e k) ≤ xs.length := mxl_le.2 fun r hr => by
  obtain ⟨i, _, rfl⟩ := List.mem_map.1 hr
  rw [partB_len]; omega
/-- A stripe's fragments, or what may not be. -/
def cutS (c l num : Int) (xs : List UInt8) (n : Int) : List (List UInt8) × Int :=
  if (3 ≤ n ∧ n ≤ 16) ∧ mst c l num then
    if (xs.length : Int) ≤ 400 * (n - 1) then (fragsL c l num n xs.length (rowsL xs n), 0) else ([], 3)
  else ([], 1)
attribute [local irreducible] Code.wp wpList stepK Holds Val wpR Eff Eff0 Code.wpIn wpListIn stepI Exit.then Exit.inBlock bodyPost bodyPostM

theorem cloneO_c (v : Value) (xs : List UInt8) (w0 w : World) (G : Im) (F : Hp) (hv : SV G [] v xs.length (xs.map B8)) (hm : xs.length ≤ 1000000) (hs : Sat w0 w G F) :
    Calls Try.prog 59 #[v] w fun e w' => ∃ u B, e = .returned u ∧ OB u xs B ∧ Sat w0 w' G (B ++ F) := by
  obtain ⟨ad, cap, rfl⟩ := hv.form
  refine f_enter (vs := [_]) Try.func59 rfl Try.ntmps59 (by simp) hs ?_
  refine ww ?_
  cases ad with
  | none =>
    refine c_cond_t rfl ?_
    refine ww ?_
    obtain ⟨_, _, he, h1, h2, h3⟩ := hv
    cases he
    have hx : xs = [] := by
      rcases h3 with ⟨h, _⟩ | ⟨_, _, h, _⟩
      · simpa using h
      · cases h
    subst hx
    exact f_ret1 rfl rfl (fun w hs => ⟨_, [], rfl, Own.zero none _ _, hs⟩)
  | some b =>
    refine c_cond_f rfl ?_
    refine ww ?_
    refine c_cons (s_lit (z := B8 0) (bs := 1) (e := 5) [] (by kernel_rfl) rfl rfl rfl rfl (by simp) rfl (by decide) fun b0 => ?_)
    refine ww ?_
    refine c_cons (s_append (e := 5) (z := B8 0) (sz := 1) (bs := 1) (by kernel_rfl) rfl rfl rfl rfl (Own.full (by simp) (by decide)) Chunk.one (hv.mono (Im.le_refl _) (by simp)) rfl (by decide) (by simp) (by simp [Value.oneCell']) (by simp; omega) (by simp; omega) fun u1 B1 hown1 => ?_)
    simp only [List.length_nil, List.nil_append, Nat.zero_add] at hown1
    refine ww ?_
    exact f_ret1 rfl rfl (fun w hs => ⟨_, B1, rfl, hown1, hs⟩)

theorem wbytesO_c (pn : Nat) (v : Value) (xs : List UInt8) (hm : xs.length ≤ 1000000) (w0 w : World) (G : Im) (F : Hp) (hv : SV G [] v xs.length (xs.map B8)) (hs : Sat w0 w G (WP pn v :: F)) :
    Calls Try.prog 62 #[Pt pn 0] w fun e w' => ∃ u B, e = .returned (.tuple #[u, I64 0]) ∧ OB u xs B ∧ Sat w0 w' G (B ++ (WP pn v :: F)) := by
  obtain ⟨ad, c, rfl, hc1, hc2, hc3⟩ := id hv
  refine f_enter (vs := [_]) Try.func62 rfl Try.ntmps62 (by simp) hs ?_
  refine ww ?_
  refine c_cond_f rfl ?_
  refine ww ?_
  refine c_cons (s_val (v_field 1 rfl (by kernel_rfl)) rfl rfl rfl ?_)
  refine c_cons (s_val (v_load rfl (Cel.head rfl) (by kernel_rfl)) rfl rfl rfl ?_)
  refine ww ?_
  refine c_kf 7 rfl (by simp) ?_
  refine c_cond_f rfl ?_
  refine ww ?_
  refine c_cons (s_val (v_field 0 rfl (by kernel_rfl)) rfl rfl rfl ?_)
  refine c_cons (s_val (v_load rfl (Cel.head rfl) (by kernel_rfl)) rfl rfl rfl ?_)
  refine c_cons (s_call (xs := [_]) rfl rfl rfl rfl rfl rfl (by kernel_rfl) (fun w hs => cloneO_c _ xs _ w _ _ hv hm hs) ?_)
  rintro e w' ⟨u1, B1, rfl, hu1, hs'⟩; refine a_ret ?_ hs'; clear hs'
  refine ww ?_
  exact f_ret2 rfl rfl rfl (fun w hs => ⟨u1, B1, rfl, hu1, hs⟩)

theorem laid_c (h : Hd) (hg : gd h) (ub : Value) (b : List UInt8) (hb : b.length ≤ 100000) (w0 w : World) (G : Im) (F : Hp) (hub : SV G [] ub b.length (b.map B8)) (hs : Sat w0 w G F) :
    Calls Try.prog 44 #[h.V, ub] w fun e w' => ∃ G' u, e = .returned u ∧ Im.le G G' ∧ SV G' [] u (headB h ++ b).length ((headB h ++ b).map B8) ∧ Sat w0 w' G' F := by
  obtain ⟨hg1, hg2, hg3, hg4, hg5, hg6⟩ := hg
  refine f_enter (vs := [_, _]) Try.func44 rfl Try.ntmps44 (by simp) hs ?_
  refine ww ?_
  refine c_cons (s_boxA [I64 h.c, I64 h.l, I64 h.n, I64 h.i, I64 h.s, I64 h.z] rfl rfl rfl fun b1 => ?_)
  refine c_freeze .head fun G1 hG1 k1 => ?_
  refine ww ?_
  refine c_cons (s_val (v_build (ps := []) #[.slice none 0 0, I64 0] rfl (by kernel_rfl)) rfl rfl rfl ?_)
  refine c_cons (s_boxA [.slice none 0 0, I64 0] rfl rfl rfl fun b2 => ?_)
  change Holds _ _ _ _ _ (WP b2 (.slice none 0 0) :: ([] ++ F)) _
  refine ww ?_
  refine c_cons (s_val (v_field 0 rfl (by kernel_rfl)) rfl rfl rfl ?_)
  refine c_cons (s_val (v_field 0 rfl (by kernel_rfl)) rfl rfl rfl ?_)
  refine c_cons (s_val (v_load rfl (Cel.imm k1 rfl) (by kernel_rfl)) rfl rfl rfl ?_)
  refine c_cons (s_call (xs := [_, _, _]) rfl rfl rfl rfl rfl rfl (by kernel_rfl) (fun w hs => wnum_c b2 _ [] [] h.c 1 (by omega) (by omega) (by simp) _ w _ _ (Own.zero none _ _) hs) ?_)
  rintro e w' ⟨v1, B1, rfl, hown1, hs'⟩; refine a_ret ?_ hs'; clear hs'
  refine ww ?_
  refine c_cons (s_val (v_field 0 rfl (by kernel_rfl)) rfl rfl rfl ?_)
  refine c_cons (s_val (v_field 1 rfl (by kernel_rfl)) rfl rfl rfl ?_)
  refine c_cons (s_val (v_load rfl (Cel.imm k1 rfl) (by kernel_rfl)) rfl rfl rfl ?_)
  refine c_cons (s_call (xs := [_, _, _]) rfl rfl rfl rfl rfl rfl (by kernel_rfl) (fun w hs => wnum_c b2 _ _ B1 h.l 3 (by omega) (by omega) (by simp [be_len]) _ w _ _ hown1 hs) ?_)
  rintro e w' ⟨v2, B2, rfl, hown2, hs'⟩; refine a_ret ?_ hs'; clear hs'
  refine ww ?_
  refine c_cons (s_val (v_field 0 rfl (by kernel_rfl)) rfl rfl rfl ?_)
  refine c_cons (s_val (v_field 2 rfl (by kernel_rfl)) rfl rfl rfl ?_)
  refine c_cons (s_val (v_load rfl (Cel.imm k1 rfl) (by kernel_rfl)) rfl rfl rfl ?_)
  refine c_cons (s_call (xs := [_, _, _]) rfl rfl rfl rfl rfl rfl (by kernel_rfl) (fun w hs => wnum_c b2 _ _ B2 h.n 4 (by omega) (by omega) (by simp [be_len]) _ w _ _ hown2 hs) ?_)
  rintro e w' ⟨v3, B3, rfl, hown3, hs'⟩; refine a_ret ?_ hs'; clear hs'
  refine ww ?_
  refine c_cons (s_val (v_field 3 rfl (by kernel_rfl)) rfl rfl rfl ?_)
  refine c_cons (s_val (v_load rfl (Cel.imm k1 rfl) (by kernel_rfl)) rfl rfl rfl ?_)
  refine c_cons (s_call (xs := [_, _, _]) rfl rfl rfl rfl rfl rfl (by kernel_rfl) (fun w hs => wnum_c b2 _ _ B3 h.i 1 (by omega) (by omega) (by simp [be_len]) _ w _ _ hown3 hs) ?_)
  rintro e w' ⟨v4, B4, rfl, hown4, hs'⟩; refine a_ret ?_ hs'; clear hs'
  refine ww ?_
  refine c_cons (s_val (v_field 4 rfl (by kernel_rfl)) rfl rfl rfl ?_)
  refine c_cons (s_val (v_load rfl (Cel.imm k1 rfl) (by kernel_rfl)) rfl rfl rfl ?_)
  refine c_cons (s_call (xs := [_, _, _]) rfl rfl rfl rfl rfl rfl (by kernel_rfl) (fun w hs => wnum_c b2 _ _ B4 h.s 1 (by omega) (by omega) (by simp [be_len]) _ w _ _ hown4 hs) ?_)
  rintro e w' ⟨v5, B5, rfl, hown5, hs'⟩; refine a_ret ?_ hs'; clear hs'
  refine ww ?_
  refine c_cons (s_val (v_field 5 rfl (by kernel_rfl)) rfl rfl rfl ?_)
  refine c_cons (s_val (v_load rfl (Cel.imm k1 rfl) (by kernel_rfl)) rfl rfl rfl ?_)
  refine c_cons (s_call (xs := [_, _, _]) rfl rfl rfl rfl rfl rfl (by kernel_rfl) (fun w hs => wnum_c b2 _ _ B5 h.z 2 (by omega) (by omega) (by simp [be_len]) _ w _ _ hown5 hs) ?_)
  rintro e w' ⟨v6, B6, rfl, hown6, hs'⟩; refine a_ret ?_ hs'; clear hs'
  have e6 : [] ++ be h.c 1 ++ be h.l 3 ++ be h.n 4 ++ be h.i 1 ++ be h.s 1 ++ be h.z 2 = headB h := by rw [List.nil_append]; rfl
  rw [e6] at hown6
  have hl12 := headB_len h
  generalize headB h = hd at hown6 hl12 ⊢
  refine c_freezeO hown6 (Chunk.tail Chunk.head) fun G6 hG6 hsv6 => ?_
  refine ww ?_
  refine c_cons (s_call (xs := [_]) rfl rfl rfl rfl rfl rfl (by kernel_rfl) (fun w hs => wbytesO_c b2 v6 hd (by omega) _ w _ _ hsv6 hs) ?_)
  rintro e w' ⟨u7, B7, rfl, hu7, hs'⟩; refine a_ret ?_ hs'; clear hs'
  refine ww ?_
  refine c_cons (s_append (e := 5) (z := B8 0) (sz := 1) (bs := 1) (by kernel_rfl) rfl rfl rfl rfl hu7 Chunk.head (hub.mono (hG1.trans hG6) (by simp)) rfl (by decide) (by simp) (B8_one b) (by omega) (by omega) fun u8 B8' hown8 => ?_)
  refine c_freezeO hown8 Chunk.head fun G8 hG8 hsv8 => ?_
  rw [← List.map_append, ← List.length_append] at hsv8
  refine ww ?_
  exact f_ret1 rfl rfl (fun w hs => ⟨G8, u8, rfl, hG1.trans (hG6.trans hG8), hsv8, hs.tl⟩)

theorem xorO_c (v : Value) (rs : List (List UInt8)) (B : Hp) (w0 w : World) (G : Im) (F : Hp) (hv : RO G v rs B) (hm : mxl rs ≤ 140737488355328) (hs : Sat w0 w G (B ++ F)) :
    Calls Try.prog 46 #[v] w fun e w' => ∃ b G', e = .returned (Sl b 0 (mxl rs) (mxl rs)) ∧ Im.le G G' ∧ Sat w0 w' G' ((b, Cs ((pxor rs).map B8) 5) :: (B ++ F)) := by
  obtain ⟨vs, ⟨hl, hown⟩, hit⟩ := hv
  rcases hown with ⟨ad, rfl, h0, rfl⟩ | ⟨bb, c, sl, rfl, hc1, hc2, hc3, rfl⟩
  · have hvs : vs = [] := List.eq_nil_of_length_eq_zero h0
    subst hvs
    have hrs : rs = [] := List.eq_nil_of_length_eq_zero hit.1.symm
    subst hrs
    exact xor_c _ [] w0 w G F ⟨[], (Own.zero ad 22 1).sv (by simp), hit⟩ hm hs
  · have hGb : G bb = none := hs.sep _ (List.mem_cons_self ..)
    have hG2 : Im.le G (G.add bb (Cs (vs ++ sl) 22)) := Im.le_add hGb
    have hsv : SV (G.add bb (Cs (vs ++ sl) 22)) [] (Sl bb 0 vs.length c) vs.length vs := ⟨_, c, rfl, hc2, hc1, .inr ⟨bb, 0, rfl, fun j u hj => ⟨_, _, _, .of_imm (Im.add_self G bb _), by simp only [List.getElem?_toArray, Nat.zero_add]; rw [List.getElem?_append_left (List.getElem?_eq_some_iff.1 hj).1]; exact hj⟩⟩⟩
    refine (xor_c _ rs w0 w _ F ⟨vs, hsv, hit.mono hG2⟩ hm hs.freeze).mono fun e w' ⟨b, G', he, hG', hs'⟩ => ?_
    have hk := hG' _ _ (Im.add_self G bb (Cs (vs ++ sl) 22))
    exact ⟨b, Im.del G' bb, he, Im.le_del (hG2.trans hG') hGb, (hs'.thaw hk).perm (List.Perm.swap _ _ _)⟩
abbrev RwO (p : Nat) (v : Value) : Nat × Obj := (p, Cs [v] 39)
theorem add_c (pr po ps pn pd : Nat) (c l num n : Int) (vd : Value) (len : Nat) (hg : (0 ≤ c ∧ c ≤ 255) ∧ (0 ≤ l ∧ l ≤ 16777215) ∧ (0 ≤ num ∧ num ≤ 4294967295) ∧ (0 ≤ n ∧ n ≤ 255) ∧ len ≤ 65535) (ub : Value) (b : List UInt8) (hb : b.length ≤ 100000) (vr : Value) (rs : List (List UInt8)) (Br : Hp) (vo : Value) (os : List (List UInt8)) (Bo : Hp)
    (hrl : rs.length ≤ 100) (hol : os.length ≤ 100) (w0 w : World) (G : Im) (F : Hp) (kS : G ps = some (Cs [I64 c, I64 l, I64 num] 25)) (kN : G pn = some (Cs [I64 n] 3)) (kD : G pd = some (Cs [vd] 22)) (hvd : ∃ ad cp, vd = .slice ad len cp)
    (hub : SV G [] ub b.length (b.map B8)) (hr : RO G vr rs Br) (ho : RO G vo os Bo) (hs : Sat w0 w G (RwO pr vr :: (Br ++ (RwO po vo :: (Bo ++ F))))) :
    Calls Try.prog 43 #[ub, Pt pr 0, Pt po 0, Pt ps 0, Pt pn 0, Pt pd 0] w fun e w' => ∃ G' vr' Br' vo' Bo', e = .returned (.tuple #[]) ∧ Im.le G G' ∧ RO G' vr' (rs ++ [b]) Br' ∧ RO G' vo' (os ++ [headB ⟨c, l, num, os.length, n, len⟩ ++ b]) Bo' ∧ Sat w0 w' G' (RwO pr vr' :: (Br' ++ (RwO po vo' :: (Bo' ++ F)))) := by
  obtain ⟨ad, cp, rfl⟩ := hvd
  obtain ⟨hg1, hg2, hg3, hg5, hg6⟩ := hg
  have h1u := hub.one
  obtain ⟨vsr, hor, hir⟩ := hr
  obtain ⟨vso, hoo, hio⟩ := ho
  have hlr := hir.1
  have hlo := hio.1
  refine f_enter (vs := [_, _, _, _, _, _]) Try.func43 rfl Try.ntmps43 (by simp) hs ?_
  refine ww ?_
  refine c_cons (s_val (v_load rfl (Cel.head rfl) (by kernel_rfl)) rfl rfl rfl ?_)
  refine ww ?_
  refine c_cons (s_lit (z := .slice none 0 0) (bs := 24) (e := 22) [_] (by kernel_rfl) rfl rfl rfl rfl (by simpa using h1u) rfl (by decide) fun b1 => ?_)
  refine c_cons (s_append (e := 22) (z := .slice none 0 0) (sz := 1) (bs := 24) (by kernel_rfl) rfl rfl rfl rfl hor (Chunk.tail (Chunk.tail Chunk.head)) (SV.block .head (by simp [maxLen])) rfl (by decide) rfl (by simpa using h1u) (by simp; omega) (by simp; omega) fun vr2 Br2 hor2 => ?_)
  have hor2' : Own vr2 (vsr ++ [ub]).length (vsr ++ [ub]) 22 1 Br2 := by rw [List.length_append]; exact hor2
  obtain ⟨adr, cr, rfl⟩ := hor2.form
  refine c_cons (s_store1 rfl rfl rfl (Pick.app (.tail .head)) (by kernel_rfl) rfl (by simp) ?_)
  change Holds _ _ _ _ _ (RwO pr (.slice adr (vsr.length + 1) cr) :: (Br2 ++ ((b1, _) :: (RwO po vo :: (Bo ++ F))))) _
  obtain ⟨ado, co, rfl⟩ := hoo.form
  refine ww ?_
  refine r_startS [RwO po (.slice ado vso.length co)] [12] (by kernel_rfl) (fun w h => h.sb) ?_
  refine r_tk 0 rfl rfl (v_load rfl (Cel.head rfl) (by kernel_rfl)) (fun _ h => (h.sb)) ?_
  refine r_tk 1 rfl rfl (v_loadAgg (vs := [I64 c, I64 l, I64 num]) rfl (by kernel_rfl) (by kernel_rfl) rfl (fun j u hj => (Cel.allI kS hj))) (fun _ h => (h.sb)) ?_
  refine r_tk 2 rfl rfl (v_load rfl (Cel.head rfl) (by kernel_rfl)) (fun _ h => (h.sb)) ?_
  refine r_tk 3 rfl rfl (v_len rfl (by kernel_rfl)) (fun _ h => (h.sb)) ?_
  refine r_tk 4 rfl rfl (v_load rfl (Cel.imm kN rfl) (by kernel_rfl)) (fun _ h => (h.sb)) ?_
  refine r_tk 5 rfl rfl (v_load rfl (Cel.imm kD rfl) (by kernel_rfl)) (fun _ h => (h.sb)) ?_
  refine r_tk 6 rfl rfl (v_len rfl (by kernel_rfl)) (fun _ h => (h.sb)) ?_
  refine r_tk 7 rfl rfl (v_build (ps := [_, _, _, _]) #[I64 c, I64 l, I64 num, I64 (vso.length : Int), I64 n, I64 (len : Int)] rfl (by kernel_rfl)) (fun _ h => (h.sb)) ?_
  refine r_tk 8 rfl rfl (v_move rfl) (fun _ h => (h.sb)) ?_
  refine r_one 9 (by kernel_rfl) rfl ?_
  refine s_call (xs := [_, _]) rfl rfl rfl rfl rfl rfl (by kernel_rfl) (fun w hs => laid_c ⟨c, l, num, vso.length, n, len⟩ ⟨hg1, hg2, hg3, by dsimp only; omega, hg5, by dsimp only; omega⟩ _ b hb _ w _ _ hub hs) ?_
  rintro e w' ⟨G3, u3, rfl, hG3, hu3, hs'⟩; refine a_ret ?_ hs'; clear hs'
  have h1o := hu3.one
  refine r_next (fun w h => (h.sb).weaken hG3) ?_
  refine r_one 10 (by kernel_rfl) rfl ?_
  refine s_lit (z := .slice none 0 0) (bs := 24) (e := 22) [_] (by kernel_rfl) rfl rfl rfl rfl (by simpa using h1o) rfl (by decide) fun b3 => ?_
  refine r_next (fun w h => (h.sb).weaken hG3) ?_
  refine r_one 11 (by kernel_rfl) rfl ?_
  refine s_append (e := 22) (z := .slice none 0 0) (sz := 1) (bs := 24) (by kernel_rfl) rfl rfl rfl rfl hoo (Chunk.tail (Chunk.tail (Chunk.app (Chunk.tail (Chunk.tail Chunk.head))))) (SV.block .head (by simp [maxLen])) rfl (by decide) rfl (by simpa using h1o) (by simp; omega) (by simp; omega) fun vo2 Bo2 hoo2 => ?_
  refine r_next (fun w h => (h.sb).weaken hG3) ?_
  have hoo2' : Own vo2 (vso ++ [u3]).length (vso ++ [u3]) 22 1 Bo2 := by rw [List.length_append]; exact hoo2
  obtain ⟨ado2, co2, rfl⟩ := hoo2.form
  refine r_one 12 (by kernel_rfl) rfl ?_
  refine s_store1 rfl rfl rfl (Pick.app (.tail (.tail (Pick.app (.tail .head))))) (by kernel_rfl) rfl (by simp) ?_
  change Holds _ _ _ _ _ (RwO po (.slice ado2 (vso.length + 1) co2) :: _) _
  have hr9 : RO G3 (.slice adr (vsr.length + 1) cr) (rs ++ [b]) Br2 := ⟨_, hor2', (hir.mono hG3).snoc (hub.mono hG3 (by simp))⟩
  have ho9 : RO G3 (.slice ado2 (vso.length + 1) co2) (os ++ [headB ⟨c, l, num, os.length, n, len⟩ ++ b]) Bo2 := by rw [← hlo]; exact ⟨_, hoo2', (hio.mono hG3).snoc hu3⟩
  refine r_late rfl ?_
  refine r_done (by kernel_rfl) ?_
  refine ww ?_
  exact f_end0 rfl (fun w hs => ⟨G3, .slice adr (vsr.length + 1) cr, Br2, .slice ado2 (vso.length + 1) co2, Bo2, rfl, hG3, hr9, ho9, hs.sb⟩)
end

section
open Go
set_option linter.unusedVariables false
set_option linter.unusedSimpArgs false
set_option maxHeartbeats 1600000
theorem RowsV.nil (G : Im) : RowsV G (.slice none 0 0) [] := ⟨[], SV.nil _ _, rfl, fun j x r h => by simp at h⟩
theorem partsL_len (xs : List UInt8) (e k : Nat) : (partsL xs e k).length = k := by simp [partsL]
attribute [local irreducible] Code.wp wpList stepK Holds Val wpR Eff Eff0 Code.wpIn wpListIn stepI Exit.then Exit.inBlock bodyPost bodyPostM

theorem cut_c (c l num n : Int) (vd : Value) (xs : List UInt8) (hx : xs.length ≤ 60000) (w0 w : World) (G : Im) (F : Hp) (hvd : SV G [] vd xs.length (xs.map B8)) (hs : Sat w0 w G F) :
    Calls Try.prog 18 #[.agg #[I64 c, I64 l, I64 num], vd, I64 n] w fun e w' => ∃ G' u B, e = .returned (.tuple #[u, I64 (cutS c l num xs n).2]) ∧ Im.le G G' ∧ RO G' u (cutS c l num xs n).1 B ∧ Sat w0 w' G' (B ++ F) := by
  obtain ⟨ad, cp, rfl⟩ := hvd.form
  have hcap : xs.length ≤ cp := by
    obtain ⟨_, _, e, h1, _⟩ := hvd
    cases e; exact h1
  refine f_enter (vs := [_, _, _]) Try.func18 rfl Try.ntmps18 (by simp) hs ?_
  refine ww ?_
  refine c_cons (s_boxA [I64 c, I64 l, I64 num] rfl rfl rfl fun b1 => ?_)
  refine c_cons (s_box rfl rfl rfl fun b2 => ?_)
  refine c_cons (s_box rfl rfl rfl fun b3 => ?_)
  refine c_freeze .head fun G1 hG1 kN => ?_
  refine c_freeze .head fun G2 hG2 kD => ?_
  refine c_freeze .head fun G3 hG3 kS => ?_
  replace kN := hG3 _ _ (hG2 _ _ kN)
  replace kD := hG3 _ _ kD
  have hG := hG1.trans (hG2.trans hG3)
  refine ww ?_
  refine c_cons (s_val (v_load rfl (Cel.imm kN rfl) (by kernel_rfl)) rfl rfl rfl ?_)
  refine c_cons (s_call (xs := [_]) rfl rfl rfl rfl rfl rfl (by kernel_rfl) (fun w hs => lsrv_c n _ w _ _ hs) ?_)
  rintro e w' ⟨rfl, hs'⟩; refine a_ret ?_ hs'; clear hs'
  refine ww ?_
  refine c_part_nd 18 _ rfl (fun c1 => ?_) (fun c1 => ?_)
  · -- t18 = True
    refine ww ?_
    refine c_cond_t rfl ?_
    refine ww ?_
    have e : cutS c l num xs n = ([], 1) := by unfold cutS; rw [if_neg (fun h => c1 h.1)]
    rw [e]
    exact f_ret2 rfl rfl rfl (fun w hs => ⟨G3, _, [], rfl, hG, RO.zero _ none, hs⟩)
  refine ww ?_
  refine c_cons (s_val (v_loadAgg (vs := [I64 c, I64 l, I64 num]) rfl (by kernel_rfl) (by kernel_rfl) rfl (fun j u hj => (Cel.allI kS hj))) rfl rfl rfl ?_)
  refine c_cons (s_call (xs := [_]) rfl rfl rfl rfl rfl rfl (by kernel_rfl) (fun w hs => lmay_c c l num _ w _ _ hs) ?_)
  rintro e w' ⟨rfl, hs'⟩; refine a_ret ?_ hs'; clear hs'
  refine ww ?_
  refine c_cond_nd rfl (fun c2 => ?_) (fun c2 => ?_)
  · -- then
    refine ww ?_
    have e : cutS c l num xs n = ([], 1) := by unfold cutS; rw [if_neg (fun h => c2 h.2)]
    rw [e]
    exact f_ret2 rfl rfl rfl (fun w hs => ⟨G3, _, [], rfl, hG, RO.zero _ none, hs⟩)
  refine ww ?_
  refine c_cons (s_val (v_load rfl (Cel.imm kD rfl) (by kernel_rfl)) rfl rfl rfl ?_)
  refine ww ?_
  refine c_cons (s_val (v_load rfl (Cel.imm kN rfl) (by kernel_rfl)) rfl rfl rfl ?_)
  refine c_cons (s_call (xs := [_, _]) rfl rfl rfl rfl rfl rfl (by kernel_rfl) (fun w hs => lsz_c xs.length n c1 _ w _ _ hs) ?_)
  rintro e w' ⟨rfl, hs'⟩; refine a_ret ?_ hs'; clear hs'
  refine ww ?_
  refine c_cond_nd rfl (fun c3 => ?_) (fun c3 => ?_)
  · -- then
    refine ww ?_
    have e : cutS c l num xs n = ([], 3) := by unfold cutS; rw [if_pos ⟨c1, c2⟩, if_neg (by omega)]
    rw [e]
    exact f_ret2 rfl rfl rfl (fun w hs => ⟨G3, _, [], rfl, hG, RO.zero _ none, hs⟩)
  have hcut : cutS c l num xs n = (fragsL c l num n xs.length (rowsL xs n), 0) := by unfold cutS; rw [if_pos ⟨c1, c2⟩, if_pos c3.2]
  rw [hcut]
  have hst := c2
  unfold mst at hst
  have hg : (0 ≤ c ∧ c ≤ 255) ∧ (0 ≤ l ∧ l ≤ 16777215) ∧ (0 ≤ num ∧ num ≤ 4294967295) ∧ (0 ≤ n ∧ n ≤ 255) ∧ xs.length ≤ 65535 := by omega
  have he := (each_in c1 (Int.natCast_nonneg xs.length))
  obtain ⟨e, hee⟩ : ∃ e : Nat, e = eN xs n := ⟨_, rfl⟩
  have hei : eachS xs.length n = (e : Int) := by rw [hee]; unfold eN; omega
  rw [hei] at he
  unfold rowsL
  rw [← hee]
  refine ww ?_
  refine c_cons (s_alloc (.slice none 0 0) (by kernel_rfl) rfl rfl fun b4 => ?_)
  refine c_cons (s_alloc (.slice none 0 0) (by kernel_rfl) rfl rfl fun b5 => ?_)
  change Holds _ _ _ _ _ (RwO b5 (.slice none 0 0) :: RwO b4 (.slice none 0 0) :: F) _
  refine ww ?_
  refine c_cons (s_val (v_load rfl (Cel.imm kN rfl) (by kernel_rfl)) rfl rfl rfl ?_)
  refine ww ?_
  refine c_loop (α := Nat × Im × Value × Hp × Value × Hp) (fun x => [(4, Pt b2 0), (5, Pt b3 0), (8, Pt b4 0), (9, Pt b5 0), (10, .func (.func 43) #[] #[Pt b4 0, Pt b5 0, Pt b1 0, Pt b3 0, Pt b2 0]), (31, I64 (n - 1)), (32, I64 x.1)]) (fun x => x.2.1) (fun x => RwO b4 x.2.2.1 :: (x.2.2.2.1 ++ (RwO b5 x.2.2.2.2.1 :: (x.2.2.2.2.2 ++ F)))) (fun x => (x.1 : Int) ≤ n - 1 ∧ Im.le G3 x.2.1 ∧ RO x.2.1 x.2.2.1 (partsL xs e x.1) x.2.2.2.1 ∧ RO x.2.1 x.2.2.2.2.1 (fragsL c l num n xs.length (partsL xs e x.1)) x.2.2.2.2.2) (fun x => (n - 1).toNat - x.1) (0, G3, .slice none 0 0, [], .slice none 0 0, []) ⟨by dsimp only; omega, Im.le_refl _, RO.zero _ _, RO.zero _ _⟩ ?_ ?_
  · exact n_at ⟨rfl, rfl, rfl, rfl, rfl, rfl, rfl, trivial⟩ (show SubH (RwO b4 (.slice none 0 0) :: ([] ++ (RwO b5 (.slice none 0 0) :: ([] ++ F)))) _ from sbx)
  rintro ⟨i, Gi, vr, Br, vo, Bo⟩ ⟨hi, hGi, hr, ho⟩
  dsimp only at hi hGi hr ho ⊢
  have hpl := partsL_len xs e i
  have hfl := fragsL_len c l num n xs.length (partsL xs e i)
  have kN' := hGi _ _ kN
  have kS' := hGi _ _ kS
  have kD' := hGi _ _ kD
  refine ww ?_
  refine c_cond_d rfl (fun c4 => ?_) (fun c4 => ?_)
  · -- then
    refine ww ?_
    refine c_cons (s_val (v_load rfl (Cel.imm kD' rfl) (by kernel_rfl)) rfl rfl rfl ?_)
    refine ww ?_
    refine c_cons (s_val (v_load rfl (Cel.imm kN' rfl) (by kernel_rfl)) rfl rfl rfl ?_)
    refine c_cons (s_call (xs := [_, _, _]) rfl rfl rfl rfl rfl rfl (by kernel_rfl) (fun w hs => lpart_c i xs.length n (by omega) (by omega) c1 _ w _ _ hs) ?_)
    rintro e w' ⟨rfl, hs'⟩; refine a_ret ?_ hs'; clear hs'
    rw [hei]
    obtain ⟨f1, hf1⟩ : ∃ f1, f1 = min (i * e) xs.length := ⟨_, rfl⟩
    obtain ⟨f2, hf2⟩ : ∃ f2, f2 = min (i * e + e) xs.length := ⟨_, rfl⟩
    rw [show min ((i : Int) * (e : Int)) (xs.length : Int) = (f1 : Int) by rw [← Int.natCast_mul]; omega, show min ((i : Int) * (e : Int) + (e : Int)) (xs.length : Int) = (f2 : Int) by rw [← Int.natCast_mul]; omega]
    have hf12 : f1 ≤ f2 ∧ f2 ≤ xs.length := by omega
    have hpb : partB xs e i = (xs.drop f1).take (f2 - f1) := by unfold partB; rw [← hf1, ← hf2]
    have hmid : SV Gi [] (slMid ad cp f1 f2 1) (partB xs e i).length ((partB xs e i).map B8) := by
      have h := SV.mid (H := []) (s := 1) (l := f1) (h := f2) (hvd.mono (hG.trans hGi) (by simp)) hf12.1 hf12.2
      rw [Nat.mul_one, Nat.mul_one, ← List.map_drop, ← List.map_take, ← hpb] at h
      rw [partB_len, ← hf1, ← hf2]; exact h
    refine ww ?_
    refine c_cons (s_val (v_load rfl (Cel.imm kD' rfl) (by kernel_rfl)) rfl rfl rfl ?_)
    refine ww ?_
    refine c_cons (s_val (v_slMid f1 f2 1 rfl rfl rfl (by kernel_rfl) (by omega) (by omega)) rfl rfl rfl ?_)
    refine c_cons (s_call (xs := [_]) rfl rfl rfl rfl rfl rfl (by kernel_rfl) (fun w hs => add_c b4 b5 b1 b3 b2 c l num n _ xs.length hg _ (partB xs e i) (by rw [partB_len]; omega) vr _ Br vo _ Bo (by omega) (by omega) _ w _ _ kS' kN' kD' ⟨ad, cp, rfl⟩ hmid hr ho hs) ?_)
    rintro e w' ⟨G7, vr7, Br7, vo7, Bo7, rfl, hG7, hr7, ho7, hs'⟩; refine a_ret ?_ hs'; clear hs'
    rw [hfl, ← fragsL_snoc, ← partsL_snoc] at ho7
    rw [← partsL_snoc] at hr7
    refine ww ?_
    exact n_next (x := (i, Gi, vr, Br, vo, Bo)) (i + 1, G7, vr7, Br7, vo7, Bo7) ⟨by dsimp only; omega, hGi.trans hG7, hr7, ho7⟩ (by dsimp only; omega) ⟨rfl, rfl, rfl, rfl, rfl, rfl, rfl, trivial⟩ rfl sbx
  have ein : i = (n - 1).toNat := by omega
  rw [← ein]
  have hmx := parts_mxl xs e i
  refine ww ?_
  refine c_cons (s_val (v_load rfl (Cel.head rfl) (by kernel_rfl)) rfl rfl rfl ?_)
  refine c_sub (Br ++ (RwO b4 vr :: (RwO b5 vo :: (Bo ++ F)))) sbx ?_
  refine c_cons (s_call (xs := [_]) rfl rfl rfl rfl rfl rfl (by kernel_rfl) (fun w hs => xorO_c vr _ Br _ w _ _ hr (by omega) hs) ?_)
  rintro e w' ⟨b6, G6, rfl, hG6, hs'⟩; refine a_ret ?_ hs'; clear hs'
  refine c_freeze .head fun G7 hG7 k7 => ?_
  refine c_sub (RwO b4 vr :: (Br ++ (RwO b5 vo :: (Bo ++ F)))) sbx ?_
  have hG67 := hG6.trans hG7
  have hxl := pxor_length (partsL xs e i)
  refine c_cons (s_call (xs := [_]) rfl rfl rfl rfl rfl rfl (by kernel_rfl) (fun w hs => add_c b4 b5 b1 b3 b2 c l num n _ xs.length hg _ (pxor (partsL xs e i)) (by omega) vr _ Br vo _ Bo (by omega) (by omega) _ w _ _ (hG67 _ _ kS') (hG67 _ _ kN') (hG67 _ _ kD') ⟨ad, cp, rfl⟩ (by rw [hxl]; exact SV.block (.of_imm k7) (by unfold maxLen; omega)) (hr.up hG67) (ho.up hG67) hs) ?_)
  rintro e w' ⟨G8, vr8, Br8, vo8, Bo8, rfl, hG8, hr8, ho8, hs'⟩; refine a_ret ?_ hs'; clear hs'
  rw [hfl, ← fragsL_snoc] at ho8
  refine ww ?_
  refine c_sub (RwO b5 vo8 :: (Bo8 ++ (RwO b4 vr8 :: (Br8 ++ F)))) sbx ?_
  refine c_cons (s_val (v_load rfl (Cel.head rfl) (by kernel_rfl)) rfl rfl rfl ?_)
  refine ww ?_
  exact f_ret2 rfl rfl rfl (fun w hs => ⟨G8, vo8, Bo8, rfl, hG.trans (hGi.trans (hG67.trans hG8)), ho8, hs.sb⟩)
end
end Go.Proofs.Ytldkldmjcacopaa
