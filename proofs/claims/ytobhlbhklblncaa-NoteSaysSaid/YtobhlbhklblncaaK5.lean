/- The walks of package delta: which deltas may be; and the reference's. Deltas compared; methods held as values, called. The walks of package delta: a delta written, and read. Pens that may have failed: pointers and deltas. Drawn regions in functions that defer; what is returned then. The walks of package note: must, going, count, guard. The walks of package note: read. The walks of package note: written. Plain: requests of package note, and what a pen has of them. The walks of package note: Encode. -/
import Derived.Test.YtobhlbhklblncaaK4
import Derived.Test.YtobhlbhklblncaaK3
import Derived.Test.YtobhlbhklblncaaK2
namespace Go.Proofs.Ytobhlbhklblncaa
section
open Go
set_option linter.unusedVariables false
set_option linter.unusedSimpArgs false
set_option maxHeartbeats 1600000
attribute [local irreducible] Code.wp wpList stepK Holds Val wpR Eff Eff0 Code.wpIn wpListIn stepI Exit.then Exit.inBlock bodyPost bodyPostM

theorem dzero_c (x : P5) (w0 w : World) (G : Im) (F : Hp) (hs : Sat w0 w G F) :
    Calls Try.prog 67 #[x.V] w fun e w' => e = .returned (.bool (decide (x = p0))) ∧ Sat w0 w' G F := by
  refine f_enter (vs := [_]) Try.func67 rfl Try.ntmps67 (by simp) hs ?_
  refine ww ?_
  refine c_cons (s_boxA [_, _, _, _, _] rfl rfl rfl fun b1 => ?_)
  refine ww ?_
  refine c_cons (s_val (v_loadAgg (vs := [I64 x.c, I64 x.l, I64 x.n, I64 x.a, I64 x.k]) rfl (by kernel_rfl) (by kernel_rfl) rfl (fun j u hj => (Cel.all hj))) rfl rfl rfl ?_)
  refine c_cons (s_val (v_build (ps := []) #[I64 0, I64 0, I64 0, I64 0, I64 0] rfl (by kernel_rfl)) rfl rfl rfl ?_)
  refine c_cons (s_val (v_eqP x p0 rfl rfl (by kernel_rfl)) rfl rfl rfl ?_)
  refine ww ?_
  exact f_ret1 rfl rfl (fun w hs => ⟨rfl, hs.tl⟩)

-- pinstripe/delta.May params ['api.Delta'] results ['bool'] ntmps 70
theorem dmay_c (x : Dl) (w0 w : World) (G : Im) (F : Hp) (hs : Sat w0 w G F) :
    Calls Try.prog 27 #[x.V] w fun e w' => e = .returned (.bool (decide (mayDl x))) ∧ Sat w0 w' G F := by
  refine f_enter (vs := [_]) Try.func27 rfl Try.ntmps27 (by simp) hs ?_
  refine ww ?_
  refine c_cons (s_boxA [_, _, _, _, _, _, _, _, _, _, _, _, _, _] rfl rfl rfl fun b1 => ?_)
  refine ww ?_
  refine c_cons (s_val (v_field 1 rfl (by kernel_rfl)) rfl rfl rfl ?_)
  refine c_cons (s_val (v_load rfl (Cel.head rfl) (by kernel_rfl)) rfl rfl rfl ?_)
  refine ww ?_
  refine c_part_d 6 _ rfl (fun c1 => ?_) (fun c1 => ?_)
  · -- t6 = True
    refine ww ?_
    refine c_cond_t rfl ?_
    refine ww ?_
    exact f_ret1 rfl rfl (fun w hs => ⟨by rw [decide_eq_false (show ¬ mayDl x from (fun h => by obtain ⟨⟨⟨_, _⟩, ⟨_, _⟩, ⟨_, _⟩, _⟩, _⟩ := h; omega))], hs.tl⟩)
  refine ww ?_
  refine c_cons (s_val (v_field 1 rfl (by kernel_rfl)) rfl rfl rfl ?_)
  refine c_cons (s_val (v_load rfl (Cel.head rfl) (by kernel_rfl)) rfl rfl rfl ?_)
  refine ww ?_
  refine c_part_d 11 _ rfl (fun c2 => ?_) (fun c2 => ?_)
  · -- t11 = True
    refine ww ?_
    refine c_cond_t rfl ?_
    refine ww ?_
    exact f_ret1 rfl rfl (fun w hs => ⟨by rw [decide_eq_false (show ¬ mayDl x from (fun h => by obtain ⟨⟨⟨_, _⟩, ⟨_, _⟩, ⟨_, _⟩, _⟩, _⟩ := h; omega))], hs.tl⟩)
  refine ww ?_
  refine c_cons (s_val (v_field 2 rfl (by kernel_rfl)) rfl rfl rfl ?_)
  refine c_cons (s_val (v_load rfl (Cel.head rfl) (by kernel_rfl)) rfl rfl rfl ?_)
  refine ww ?_
  refine c_part_d 16 _ rfl (fun c3 => ?_) (fun c3 => ?_)
  · -- t16 = True
    refine ww ?_
    refine c_cond_t rfl ?_
    refine ww ?_
    exact f_ret1 rfl rfl (fun w hs => ⟨by rw [decide_eq_false (show ¬ mayDl x from (fun h => by obtain ⟨⟨⟨_, _⟩, ⟨_, _⟩, ⟨_, _⟩, _⟩, _⟩ := h; omega))], hs.tl⟩)
  refine ww ?_
  refine c_cons (s_val (v_field 2 rfl (by kernel_rfl)) rfl rfl rfl ?_)
  refine c_cons (s_val (v_load rfl (Cel.head rfl) (by kernel_rfl)) rfl rfl rfl ?_)
  refine ww ?_
  refine c_part_d 21 _ rfl (fun c4 => ?_) (fun c4 => ?_)
  · -- t21 = True
    refine ww ?_
    refine c_cond_t rfl ?_
    refine ww ?_
    exact f_ret1 rfl rfl (fun w hs => ⟨by rw [decide_eq_false (show ¬ mayDl x from (fun h => by obtain ⟨⟨⟨_, _⟩, ⟨_, _⟩, ⟨_, _⟩, _⟩, _⟩ := h; omega))], hs.tl⟩)
  refine ww ?_
  refine c_cons (s_val (v_field 3 rfl (by kernel_rfl)) rfl rfl rfl ?_)
  refine c_cons (s_val (v_load rfl (Cel.head rfl) (by kernel_rfl)) rfl rfl rfl ?_)
  refine ww ?_
  refine c_part_d 26 _ rfl (fun c5 => ?_) (fun c5 => ?_)
  · -- t26 = True
    refine ww ?_
    refine c_cond_t rfl ?_
    refine ww ?_
    exact f_ret1 rfl rfl (fun w hs => ⟨by rw [decide_eq_false (show ¬ mayDl x from (fun h => by obtain ⟨⟨⟨_, _⟩, ⟨_, _⟩, ⟨_, _⟩, _⟩, _⟩ := h; omega))], hs.tl⟩)
  refine ww ?_
  refine c_cons (s_val (v_field 3 rfl (by kernel_rfl)) rfl rfl rfl ?_)
  refine c_cons (s_val (v_load rfl (Cel.head rfl) (by kernel_rfl)) rfl rfl rfl ?_)
  refine ww ?_
  refine c_part_d 31 _ rfl (fun c6 => ?_) (fun c6 => ?_)
  · -- t31 = True
    refine ww ?_
    refine c_cond_t rfl ?_
    refine ww ?_
    exact f_ret1 rfl rfl (fun w hs => ⟨by rw [decide_eq_false (show ¬ mayDl x from (fun h => by obtain ⟨⟨⟨_, _⟩, ⟨_, _⟩, ⟨_, _⟩, _⟩, _⟩ := h; omega))], hs.tl⟩)
  refine ww ?_
  refine c_cons (s_val (v_field 4 rfl (by kernel_rfl)) rfl rfl rfl ?_)
  refine c_cons (s_val (v_loadAgg (vs := [I64 x.t.c, I64 x.t.l, I64 x.t.n, I64 x.t.a, I64 x.t.k]) rfl (by kernel_rfl) (by kernel_rfl) rfl (fun j u hj => dl_to j u hj)) rfl rfl rfl ?_)
  refine c_cons (s_call (xs := [_]) rfl rfl rfl rfl rfl rfl (by kernel_rfl) (fun w hs => mayp_c x.t _ w _ _ hs) ?_)
  rintro e w' ⟨rfl, hs'⟩; refine a_ret ?_ hs'; clear hs'
  refine ww ?_
  refine c_part_nd 37 _ rfl (fun c7 => ?_) (fun c7 => ?_)
  · -- t37 = True
    refine ww ?_
    refine c_cond_t rfl ?_
    refine ww ?_
    exact f_ret1 rfl rfl (fun w hs => ⟨by rw [decide_eq_false (show ¬ mayDl x from (fun h => c7 h.1.2.2.2.1))], hs.tl⟩)
  refine ww ?_
  refine c_cons (s_val (v_field 9 rfl (by kernel_rfl)) rfl rfl rfl ?_)
  refine c_cons (s_val (v_loadAgg (vs := [I64 x.o.c, I64 x.o.l, I64 x.o.n, I64 x.o.a, I64 x.o.k]) rfl (by kernel_rfl) (by kernel_rfl) rfl (fun j u hj => dl_old j u hj)) rfl rfl rfl ?_)
  refine c_cons (s_call (xs := [_]) rfl rfl rfl rfl rfl rfl (by kernel_rfl) (fun w hs => mayp_c x.o _ w _ _ hs) ?_)
  rintro e w' ⟨rfl, hs'⟩; refine a_ret ?_ hs'; clear hs'
  refine ww ?_
  refine c_cond_nd rfl (fun c8 => ?_) (fun c8 => ?_)
  · -- then
    refine ww ?_
    exact f_ret1 rfl rfl (fun w hs => ⟨by rw [decide_eq_false (show ¬ mayDl x from (fun h => c8 h.1.2.2.2.2))], hs.tl⟩)
  have hb : baseD x := ⟨⟨by omega, by omega⟩, ⟨by omega, by omega⟩, ⟨by omega, by omega⟩, c7, c8⟩
  refine ww ?_
  refine c_cons (s_val (v_field 0 rfl (by kernel_rfl)) rfl rfl rfl ?_)
  refine c_cons (s_val (v_load rfl (Cel.head rfl) (by kernel_rfl)) rfl rfl rfl ?_)
  refine ww ?_
  refine c_cond_d rfl (fun c9 => ?_) (fun c9 => ?_)
  · -- then
    refine ww ?_
    refine c_cons (s_val (v_field 9 rfl (by kernel_rfl)) rfl rfl rfl ?_)
    refine c_cons (s_val (v_loadAgg (vs := [I64 x.o.c, I64 x.o.l, I64 x.o.n, I64 x.o.a, I64 x.o.k]) rfl (by kernel_rfl) (by kernel_rfl) rfl (fun j u hj => dl_old j u hj)) rfl rfl rfl ?_)
    refine c_cons (s_call (xs := [_]) rfl rfl rfl rfl rfl rfl (by kernel_rfl) (fun w hs => dzero_c x.o _ w _ _ hs) ?_)
    rintro e w' ⟨rfl, hs'⟩; refine a_ret ?_ hs'; clear hs'
    refine ww ?_
    exact f_ret1 rfl rfl (fun w hs => ⟨by rw [decide_eq_decide.2 (may_put hb c9)], hs.tl⟩)
  refine ww ?_
  refine c_cond_d rfl (fun c10 => ?_) (fun c10 => ?_)
  · -- then
    refine ww ?_
    refine c_cons (s_val (v_field 9 rfl (by kernel_rfl)) rfl rfl rfl ?_)
    refine c_cons (s_val (v_loadAgg (vs := [I64 x.o.c, I64 x.o.l, I64 x.o.n, I64 x.o.a, I64 x.o.k]) rfl (by kernel_rfl) (by kernel_rfl) rfl (fun j u hj => dl_old j u hj)) rfl rfl rfl ?_)
    refine c_cons (s_call (xs := [_]) rfl rfl rfl rfl rfl rfl (by kernel_rfl) (fun w hs => dzero_c x.o _ w _ _ hs) ?_)
    rintro e w' ⟨rfl, hs'⟩; refine a_ret ?_ hs'; clear hs'
    refine ww ?_
    refine c_part_d 55 _ rfl (fun c11 => ?_) (fun c11 => ?_)
    · -- t55 = True
      refine ww ?_
      refine c_cons (s_val (v_field 4 rfl (by kernel_rfl)) rfl rfl rfl ?_)
      refine c_cons (s_val (v_loadAgg (vs := [I64 x.t.c, I64 x.t.l, I64 x.t.n, I64 x.t.a, I64 x.t.k]) rfl (by kernel_rfl) (by kernel_rfl) rfl (fun j u hj => dl_to j u hj)) rfl rfl rfl ?_)
      refine c_cons (s_call (xs := [_]) rfl rfl rfl rfl rfl rfl (by kernel_rfl) (fun w hs => dzero_c x.t _ w _ _ hs) ?_)
      rintro e w' ⟨rfl, hs'⟩; refine a_ret ?_ hs'; clear hs'
      refine ww ?_
      refine c_part_d 60 _ rfl (fun c12 => ?_) (fun c12 => ?_)
      · -- t60 = True
        refine ww ?_
        refine c_cons (s_val (v_field 2 rfl (by kernel_rfl)) rfl rfl rfl ?_)
        refine c_cons (s_val (v_load rfl (Cel.head rfl) (by kernel_rfl)) rfl rfl rfl ?_)
        refine ww ?_
        exact f_ret1 rfl rfl (fun w hs => ⟨by rw [decide_eq_decide.2 (show x.b = 0 ↔ mayDl x from ⟨fun h => (may_cut hb c10).1 ⟨c11, c12, h⟩, fun h => ((may_cut hb c10).2 h).2.2⟩)], hs.tl⟩)
      refine ww ?_
      exact f_ret1 rfl rfl (fun w hs => ⟨by rw [decide_eq_false (show ¬ mayDl x from fun h => c12 ((may_cut hb c10).2 h).2.1)], hs.tl⟩)
    refine ww ?_
    exact f_ret1 rfl rfl (fun w hs => ⟨by rw [decide_eq_false (show ¬ mayDl x from fun h => c11 ((may_cut hb c10).2 h).1)], hs.tl⟩)
  refine ww ?_
  refine c_cond_d rfl (fun c13 => ?_) (fun c13 => ?_)
  · -- then
    refine ww ?_
    refine c_cons (s_val (v_field 3 rfl (by kernel_rfl)) rfl rfl rfl ?_)
    refine c_cons (s_val (v_load rfl (Cel.head rfl) (by kernel_rfl)) rfl rfl rfl ?_)
    refine ww ?_
    exact f_ret1 rfl rfl (fun w hs => ⟨by rw [decide_eq_decide.2 (may_move hb c13)], hs.tl⟩)
  refine ww ?_
  exact f_ret1 rfl rfl (fun w hs => ⟨by rw [decide_eq_false (show ¬ mayDl x from may_none c9 c10 c13)], hs.tl⟩)

-- pinstripe/pinstriperef10.MayDelta params ['api.Delta'] results ['bool'] ntmps 75
theorem rdmay_c (x : Dl) (w0 w : World) (G : Im) (F : Hp) (hs : Sat w0 w G F) :
    Calls Try.prog 33 #[x.V] w fun e w' => e = .returned (.bool (decide (mayDl x))) ∧ Sat w0 w' G F := by
  refine f_enter (vs := [_]) Try.func33 rfl Try.ntmps33 (by simp) hs ?_
  refine ww ?_
  refine c_cons (s_boxA [_, _, _, _, _, _, _, _, _, _, _, _, _, _] rfl rfl rfl fun b1 => ?_)
  refine ww ?_
  refine c_cons (s_val (v_build (ps := []) #[I64 0, I64 0, I64 0, I64 0, I64 0] rfl (by kernel_rfl)) rfl rfl rfl ?_)
  refine c_cons (s_allocA [I64 0, I64 0, I64 0, I64 0, I64 0] (by kernel_rfl) rfl rfl fun b2 => ?_)
  refine c_cons (s_storeA (vs := [_, _, _, _, _]) rfl rfl rfl .head (by kernel_rfl) (by simp [Value.oneCell']) rfl ?_)
  refine ww ?_
  refine c_cons (s_val (v_field 1 rfl (by kernel_rfl)) rfl rfl rfl ?_)
  refine c_cons (s_val (v_load rfl (Cel.tail (Cel.head rfl)) (by kernel_rfl)) rfl rfl rfl ?_)
  refine ww ?_
  refine c_part_d 8 _ rfl (fun c1 => ?_) (fun c1 => ?_)
  · -- t8 = True
    refine ww ?_
    refine c_cond_t rfl ?_
    refine ww ?_
    exact f_ret1 rfl rfl (fun w hs => ⟨by rw [decide_eq_false (show ¬ mayDl x from (fun h => by obtain ⟨⟨⟨_, _⟩, ⟨_, _⟩, ⟨_, _⟩, _⟩, _⟩ := h; omega))], hs.tl.tl⟩)
  refine ww ?_
  refine c_cons (s_val (v_field 1 rfl (by kernel_rfl)) rfl rfl rfl ?_)
  refine c_cons (s_val (v_load rfl (Cel.tail (Cel.head rfl)) (by kernel_rfl)) rfl rfl rfl ?_)
  refine ww ?_
  refine c_part_d 13 _ rfl (fun c2 => ?_) (fun c2 => ?_)
  · -- t13 = True
    refine ww ?_
    refine c_cond_t rfl ?_
    refine ww ?_
    exact f_ret1 rfl rfl (fun w hs => ⟨by rw [decide_eq_false (show ¬ mayDl x from (fun h => by obtain ⟨⟨⟨_, _⟩, ⟨_, _⟩, ⟨_, _⟩, _⟩, _⟩ := h; omega))], hs.tl.tl⟩)
  refine ww ?_
  refine c_cons (s_val (v_field 2 rfl (by kernel_rfl)) rfl rfl rfl ?_)
  refine c_cons (s_val (v_load rfl (Cel.tail (Cel.head rfl)) (by kernel_rfl)) rfl rfl rfl ?_)
  refine ww ?_
  refine c_part_d 18 _ rfl (fun c3 => ?_) (fun c3 => ?_)
  · -- t18 = True
    refine ww ?_
    refine c_cond_t rfl ?_
    refine ww ?_
    exact f_ret1 rfl rfl (fun w hs => ⟨by rw [decide_eq_false (show ¬ mayDl x from (fun h => by obtain ⟨⟨⟨_, _⟩, ⟨_, _⟩, ⟨_, _⟩, _⟩, _⟩ := h; omega))], hs.tl.tl⟩)
  refine ww ?_
  refine c_cons (s_val (v_field 2 rfl (by kernel_rfl)) rfl rfl rfl ?_)
  refine c_cons (s_val (v_load rfl (Cel.tail (Cel.head rfl)) (by kernel_rfl)) rfl rfl rfl ?_)
  refine ww ?_
  refine c_part_d 23 _ rfl (fun c4 => ?_) (fun c4 => ?_)
  · -- t23 = True
    refine ww ?_
    refine c_cond_t rfl ?_
    refine ww ?_
    exact f_ret1 rfl rfl (fun w hs => ⟨by rw [decide_eq_false (show ¬ mayDl x from (fun h => by obtain ⟨⟨⟨_, _⟩, ⟨_, _⟩, ⟨_, _⟩, _⟩, _⟩ := h; omega))], hs.tl.tl⟩)
  refine ww ?_
  refine c_cons (s_val (v_field 3 rfl (by kernel_rfl)) rfl rfl rfl ?_)
  refine c_cons (s_val (v_load rfl (Cel.tail (Cel.head rfl)) (by kernel_rfl)) rfl rfl rfl ?_)
  refine ww ?_
  refine c_part_d 28 _ rfl (fun c5 => ?_) (fun c5 => ?_)
  · -- t28 = True
    refine ww ?_
    refine c_cond_t rfl ?_
    refine ww ?_
    exact f_ret1 rfl rfl (fun w hs => ⟨by rw [decide_eq_false (show ¬ mayDl x from (fun h => by obtain ⟨⟨⟨_, _⟩, ⟨_, _⟩, ⟨_, _⟩, _⟩, _⟩ := h; omega))], hs.tl.tl⟩)
  refine ww ?_
  refine c_cons (s_val (v_field 3 rfl (by kernel_rfl)) rfl rfl rfl ?_)
  refine c_cons (s_val (v_load rfl (Cel.tail (Cel.head rfl)) (by kernel_rfl)) rfl rfl rfl ?_)
  refine ww ?_
  refine c_part_d 33 _ rfl (fun c6 => ?_) (fun c6 => ?_)
  · -- t33 = True
    refine ww ?_
    refine c_cond_t rfl ?_
    refine ww ?_
    exact f_ret1 rfl rfl (fun w hs => ⟨by rw [decide_eq_false (show ¬ mayDl x from (fun h => by obtain ⟨⟨⟨_, _⟩, ⟨_, _⟩, ⟨_, _⟩, _⟩, _⟩ := h; omega))], hs.tl.tl⟩)
  refine ww ?_
  refine c_cons (s_val (v_field 4 rfl (by kernel_rfl)) rfl rfl rfl ?_)
  refine c_cons (s_val (v_loadAgg (vs := [I64 x.t.c, I64 x.t.l, I64 x.t.n, I64 x.t.a, I64 x.t.k]) rfl (by kernel_rfl) (by kernel_rfl) rfl (fun j u hj => Cel.tail (dl_to j u hj))) rfl rfl rfl ?_)
  refine c_cons (s_call (xs := [_]) rfl rfl rfl rfl rfl rfl (by kernel_rfl) (fun w hs => rmayp_c x.t _ w _ _ hs) ?_)
  rintro e w' ⟨rfl, hs'⟩; refine a_ret ?_ hs'; clear hs'
  refine ww ?_
  refine c_part_nd 39 _ rfl (fun c7 => ?_) (fun c7 => ?_)
  · -- t39 = True
    refine ww ?_
    refine c_cond_t rfl ?_
    refine ww ?_
    exact f_ret1 rfl rfl (fun w hs => ⟨by rw [decide_eq_false (show ¬ mayDl x from (fun h => c7 h.1.2.2.2.1))], hs.tl.tl⟩)
  refine ww ?_
  refine c_cons (s_val (v_field 9 rfl (by kernel_rfl)) rfl rfl rfl ?_)
  refine c_cons (s_val (v_loadAgg (vs := [I64 x.o.c, I64 x.o.l, I64 x.o.n, I64 x.o.a, I64 x.o.k]) rfl (by kernel_rfl) (by kernel_rfl) rfl (fun j u hj => Cel.tail (dl_old j u hj))) rfl rfl rfl ?_)
  refine c_cons (s_call (xs := [_]) rfl rfl rfl rfl rfl rfl (by kernel_rfl) (fun w hs => rmayp_c x.o _ w _ _ hs) ?_)
  rintro e w' ⟨rfl, hs'⟩; refine a_ret ?_ hs'; clear hs'
  refine ww ?_
  refine c_cond_nd rfl (fun c8 => ?_) (fun c8 => ?_)
  · -- then
    refine ww ?_
    exact f_ret1 rfl rfl (fun w hs => ⟨by rw [decide_eq_false (show ¬ mayDl x from (fun h => c8 h.1.2.2.2.2))], hs.tl.tl⟩)
  have hb : baseD x := ⟨⟨by omega, by omega⟩, ⟨by omega, by omega⟩, ⟨by omega, by omega⟩, c7, c8⟩
  refine ww ?_
  refine c_cons (s_val (v_field 0 rfl (by kernel_rfl)) rfl rfl rfl ?_)
  refine c_cons (s_val (v_load rfl (Cel.tail (Cel.head rfl)) (by kernel_rfl)) rfl rfl rfl ?_)
  refine ww ?_
  refine c_cond_d rfl (fun c9 => ?_) (fun c9 => ?_)
  · -- then
    refine ww ?_
    refine c_cons (s_val (v_field 9 rfl (by kernel_rfl)) rfl rfl rfl ?_)
    refine c_cons (s_val (v_loadAgg (vs := [I64 x.o.c, I64 x.o.l, I64 x.o.n, I64 x.o.a, I64 x.o.k]) rfl (by kernel_rfl) (by kernel_rfl) rfl (fun j u hj => Cel.tail (dl_old j u hj))) rfl rfl rfl ?_)
    refine c_cons (s_val (v_loadAgg (vs := [I64 0, I64 0, I64 0, I64 0, I64 0]) rfl (by kernel_rfl) (by kernel_rfl) rfl (fun j u hj => (Cel.all hj))) rfl rfl rfl ?_)
    refine c_cons (s_val (v_eqP x.o p0 rfl rfl (by kernel_rfl)) rfl rfl rfl ?_)
    refine ww ?_
    exact f_ret1 rfl rfl (fun w hs => ⟨by rw [decide_eq_decide.2 (may_put hb c9)], hs.tl.tl⟩)
  refine ww ?_
  refine c_cond_d rfl (fun c10 => ?_) (fun c10 => ?_)
  · -- then
    refine ww ?_
    refine c_cons (s_val (v_field 9 rfl (by kernel_rfl)) rfl rfl rfl ?_)
    refine c_cons (s_val (v_loadAgg (vs := [I64 x.o.c, I64 x.o.l, I64 x.o.n, I64 x.o.a, I64 x.o.k]) rfl (by kernel_rfl) (by kernel_rfl) rfl (fun j u hj => Cel.tail (dl_old j u hj))) rfl rfl rfl ?_)
    refine c_cons (s_val (v_loadAgg (vs := [I64 0, I64 0, I64 0, I64 0, I64 0]) rfl (by kernel_rfl) (by kernel_rfl) rfl (fun j u hj => (Cel.all hj))) rfl rfl rfl ?_)
    refine c_cons (s_val (v_eqP x.o p0 rfl rfl (by kernel_rfl)) rfl rfl rfl ?_)
    refine ww ?_
    refine c_part_d 59 _ rfl (fun c11 => ?_) (fun c11 => ?_)
    · -- t59 = True
      refine ww ?_
      refine c_cons (s_val (v_field 4 rfl (by kernel_rfl)) rfl rfl rfl ?_)
      refine c_cons (s_val (v_loadAgg (vs := [I64 x.t.c, I64 x.t.l, I64 x.t.n, I64 x.t.a, I64 x.t.k]) rfl (by kernel_rfl) (by kernel_rfl) rfl (fun j u hj => Cel.tail (dl_to j u hj))) rfl rfl rfl ?_)
      refine c_cons (s_val (v_loadAgg (vs := [I64 0, I64 0, I64 0, I64 0, I64 0]) rfl (by kernel_rfl) (by kernel_rfl) rfl (fun j u hj => (Cel.all hj))) rfl rfl rfl ?_)
      refine c_cons (s_val (v_eqP x.t p0 rfl rfl (by kernel_rfl)) rfl rfl rfl ?_)
      refine ww ?_
      refine c_part_d 65 _ rfl (fun c12 => ?_) (fun c12 => ?_)
      · -- t65 = True
        refine ww ?_
        refine c_cons (s_val (v_field 2 rfl (by kernel_rfl)) rfl rfl rfl ?_)
        refine c_cons (s_val (v_load rfl (Cel.tail (Cel.head rfl)) (by kernel_rfl)) rfl rfl rfl ?_)
        refine ww ?_
        exact f_ret1 rfl rfl (fun w hs => ⟨by rw [decide_eq_decide.2 (show x.b = 0 ↔ mayDl x from ⟨fun h => (may_cut hb c10).1 ⟨c11, c12, h⟩, fun h => ((may_cut hb c10).2 h).2.2⟩)], hs.tl.tl⟩)
      refine ww ?_
      exact f_ret1 rfl rfl (fun w hs => ⟨by rw [decide_eq_false (show ¬ mayDl x from fun h => c12 ((may_cut hb c10).2 h).2.1)], hs.tl.tl⟩)
    refine ww ?_
    exact f_ret1 rfl rfl (fun w hs => ⟨by rw [decide_eq_false (show ¬ mayDl x from fun h => c11 ((may_cut hb c10).2 h).1)], hs.tl.tl⟩)
  refine ww ?_
  refine c_cond_d rfl (fun c13 => ?_) (fun c13 => ?_)
  · -- then
    refine ww ?_
    refine c_cons (s_val (v_field 3 rfl (by kernel_rfl)) rfl rfl rfl ?_)
    refine c_cons (s_val (v_load rfl (Cel.tail (Cel.head rfl)) (by kernel_rfl)) rfl rfl rfl ?_)
    refine ww ?_
    exact f_ret1 rfl rfl (fun w hs => ⟨by rw [decide_eq_decide.2 (may_move hb c13)], hs.tl.tl⟩)
  refine ww ?_
  exact f_ret1 rfl rfl (fun w hs => ⟨by rw [decide_eq_false (show ¬ mayDl x from may_none c9 c10 c13)], hs.tl.tl⟩)
end

section
open Go
set_option linter.unusedVariables false
set_option linter.unusedSimpArgs false
set_option maxHeartbeats 1600000

/-- A struct of four int and two pointers of bytes. -/
def st14B (P : Program) (t : TypeId) : Bool := match P.underlying t with
  | some (.struct fs) => match fs.toList with
    | [f, g, h, i, p, q] => i64B P f.type && i64B P g.type && i64B P h.type && i64B P i.type && (st5B P p.type && (szB P p.type == some 5) && (aggB P p.type == some true)) && (st5B P q.type && (szB P q.type == some 5) && (aggB P q.type == some true)) && (f.offset == 0 && g.offset == 1 && h.offset == 2 && i.offset == 3 && p.offset == 4 && q.offset == 9) && (f.name != "_" && g.name != "_" && h.name != "_" && i.name != "_" && p.name != "_" && q.name != "_") && (!P.stoodInHeld t && !P.eqGuardType P.depth t)
    | _ => false
  | _ => false
section
variable {w0 w : World} {G G' : Im} {H H1 : Hp} {n : Nat} {ds : List Deferred} {env : Env} {P : Program} {R : Act → World → Prop} {ops : Array Oper} {Q : Exit → Act → World → Prop} {K : Act → World → Prop}
variable {dst : Option Tmp} {d : Nat} {ty : TypeId} {pos : String} {aft : Array Edge} {g : Option (Nat × Bool)}

theorem dl_eq (x y : Dl) : decide (x = y) = (decide (x.d = y.d) && (decide (x.i = y.i) && (decide (x.b = y.b) && (decide (x.s = y.s) && (decide (x.t = y.t) && decide (x.o = y.o)))))) := by
  cases x; cases y; simp
theorem run_eq14 {t : TypeId} (x y : Dl) (h : st14B P t = true) (dp : Nat) : (Op.equalIn (dp + 4) t x.V y.V).run P w = .ok (decide (x = y)) w ∧ P.eqGuardType P.depth t = false := by
  unfold st14B at h
  split at h
  · rename_i fs hu
    split at h
    · rename_i f1 f2 f3 f4 f5 f6 hfs
      simp only [Bool.and_eq_true, beq_iff_eq, bne_iff_ne, Bool.not_eq_true'] at h
      obtain ⟨⟨⟨⟨⟨⟨⟨⟨h1, h2⟩, h3⟩, h4⟩, ⟨⟨h5, z5⟩, a5⟩⟩, ⟨⟨h6, z6⟩, a6⟩⟩, ⟨⟨⟨⟨⟨o1, o2⟩, o3⟩, o4⟩, o5⟩, o6⟩⟩, ⟨⟨⟨⟨⟨n1, n2⟩, n3⟩, n4⟩, n5⟩, n6⟩⟩, hst, heg⟩ := h
      refine ⟨?_, heg⟩
      have hf : P.fieldsOf t = fs := by unfold Program.fieldsOf; rw [hu]
      have hu' : P.underlying t = some (.struct (P.fieldsOf t)) := by rw [hf]; exact hu
      rw [run_equalIn_struct w (dp + 3) t _ _ hu' hst, hf, hfs]
      have p1 : ∀ (v1 v2 v3 v4 v5 v6 v7 v8 v9 v10 v11 v12 v13 v14 : Value), (part f1.type #[v1, v2, v3, v4, v5, v6, v7, v8, v9, v10, v11, v12, v13, v14] f1.offset).run P w = .ok v1 w := fun v1 v2 v3 v4 v5 v6 v7 v8 v9 v10 v11 v12 v13 v14 => run_part_i64 h1 (by rw [o1]; rfl)
      have p2 : ∀ (v1 v2 v3 v4 v5 v6 v7 v8 v9 v10 v11 v12 v13 v14 : Value), (part f2.type #[v1, v2, v3, v4, v5, v6, v7, v8, v9, v10, v11, v12, v13, v14] f2.offset).run P w = .ok v2 w := fun v1 v2 v3 v4 v5 v6 v7 v8 v9 v10 v11 v12 v13 v14 => run_part_i64 h2 (by rw [o2]; rfl)
      have p3 : ∀ (v1 v2 v3 v4 v5 v6 v7 v8 v9 v10 v11 v12 v13 v14 : Value), (part f3.type #[v1, v2, v3, v4, v5, v6, v7, v8, v9, v10, v11, v12, v13, v14] f3.offset).run P w = .ok v3 w := fun v1 v2 v3 v4 v5 v6 v7 v8 v9 v10 v11 v12 v13 v14 => run_part_i64 h3 (by rw [o3]; rfl)
      have p4 : ∀ (v1 v2 v3 v4 v5 v6 v7 v8 v9 v10 v11 v12 v13 v14 : Value), (part f4.type #[v1, v2, v3, v4, v5, v6, v7, v8, v9, v10, v11, v12, v13, v14] f4.offset).run P w = .ok v4 w := fun v1 v2 v3 v4 v5 v6 v7 v8 v9 v10 v11 v12 v13 v14 => run_part_i64 h4 (by rw [o4]; rfl)
      have p5 : ∀ (v1 v2 v3 v4 v5 v6 v7 v8 v9 v10 v11 v12 v13 v14 : Value), (part f5.type #[v1, v2, v3, v4, v5, v6, v7, v8, v9, v10, v11, v12, v13, v14] f5.offset).run P w = .ok (.agg #[v5, v6, v7, v8, v9]) w := fun v1 v2 v3 v4 v5 v6 v7 v8 v9 v10 v11 v12 v13 v14 => by rw [o5, run_part_agg a5 z5]; rfl
      have p6 : ∀ (v1 v2 v3 v4 v5 v6 v7 v8 v9 v10 v11 v12 v13 v14 : Value), (part f6.type #[v1, v2, v3, v4, v5, v6, v7, v8, v9, v10, v11, v12, v13, v14] f6.offset).run P w = .ok (.agg #[v10, v11, v12, v13, v14]) w := fun v1 v2 v3 v4 v5 v6 v7 v8 v9 v10 v11 v12 v13 v14 => by rw [o6, run_part_agg a6 z6]; rfl
      have e1 : (Op.equalIn (dp + 3) f1.type (I64 x.d) (I64 y.d)).run P w = .ok (decide (x.d = y.d)) w := run_equalIn_int (P := P) w (dp + 2) f1.type .i64 .i64 x.d y.d (i64B_spec h1)
      have e2 : (Op.equalIn (dp + 3) f2.type (I64 x.i) (I64 y.i)).run P w = .ok (decide (x.i = y.i)) w := run_equalIn_int (P := P) w (dp + 2) f2.type .i64 .i64 x.i y.i (i64B_spec h2)
      have e3 : (Op.equalIn (dp + 3) f3.type (I64 x.b) (I64 y.b)).run P w = .ok (decide (x.b = y.b)) w := run_equalIn_int (P := P) w (dp + 2) f3.type .i64 .i64 x.b y.b (i64B_spec h3)
      have e4 : (Op.equalIn (dp + 3) f4.type (I64 x.s) (I64 y.s)).run P w = .ok (decide (x.s = y.s)) w := run_equalIn_int (P := P) w (dp + 2) f4.type .i64 .i64 x.s y.s (i64B_spec h4)
      have e5 := (run_eq5 (w := w) x.t y.t h5 dp).1
      have e6 := (run_eq5 (w := w) x.o y.o h6 dp).1
      rw [dl_eq]
      generalize decide (x.d = y.d) = β1 at e1 ⊢
      generalize decide (x.i = y.i) = β2 at e2 ⊢
      generalize decide (x.b = y.b) = β3 at e3 ⊢
      generalize decide (x.s = y.s) = β4 at e4 ⊢
      generalize decide (x.t = y.t) = β5 at e5 ⊢
      generalize decide (x.o = y.o) = β6 at e6 ⊢
      cases β1
      · simp [Op.eqFields, n1, n2, n3, n4, n5, n6, p1, p2, p3, p4, p5, p6, e1]
      cases β2
      · simp [Op.eqFields, n1, n2, n3, n4, n5, n6, p1, p2, p3, p4, p5, p6, e1, e2]
      cases β3
      · simp [Op.eqFields, n1, n2, n3, n4, n5, n6, p1, p2, p3, p4, p5, p6, e1, e2, e3]
      cases β4
      · simp [Op.eqFields, n1, n2, n3, n4, n5, n6, p1, p2, p3, p4, p5, p6, e1, e2, e3, e4]
      cases β5
      · simp [Op.eqFields, n1, n2, n3, n4, n5, n6, p1, p2, p3, p4, p5, p6, e1, e2, e3, e4, e5]
      · cases β6 <;> simp [Op.eqFields, n1, n2, n3, n4, n5, n6, p1, p2, p3, p4, p5, p6, e1, e2, e3, e4, e5, e6]
    · cases h
  · cases h
theorem v_eqD (p q : Dl) {x y : Operand} {t t' : TypeId} (hx : ev env x = some p.V) (hy : ev env y = some q.V) (h : st14B P t = true) :
    Val P env G H ⟨dst, .binOp .eql t x y t', ty, pos, aft, g⟩ (.bool (decide (p = q))) := fun ac n ds w0 w ht hs => by
  obtain ⟨h1, h2⟩ := run_eq14 (w := w) p q h 9996
  have h3 := run_eqGuard_agg (P := P) w .eql t x y #[I64 p.d, I64 p.i, I64 p.b, I64 p.s, I64 p.t.c, I64 p.t.l, I64 p.t.n, I64 p.t.a, I64 p.t.k, I64 p.o.c, I64 p.o.l, I64 p.o.n, I64 p.o.a, I64 p.o.k] #[I64 q.d, I64 q.i, I64 q.b, I64 q.s, I64 q.t.c, I64 q.t.l, I64 q.t.n, I64 q.t.a, I64 q.t.k, I64 q.o.c, I64 q.o.l, I64 q.o.n, I64 q.o.a, I64 q.o.k] h2
  simp only [execOp, ht.eval hx, ht.eval hy, Sem.run_bind, h3, Result.andThen_ok, run_eql_struct, h1, Sem.run_pure]
theorem v_neD (p q : Dl) {x y : Operand} {t t' : TypeId} (hx : ev env x = some p.V) (hy : ev env y = some q.V) (h : st14B P t = true) :
    Val P env G H ⟨dst, .binOp .neq t x y t', ty, pos, aft, g⟩ (.bool (!decide (p = q))) := fun ac n ds w0 w ht hs => by
  obtain ⟨h1, h2⟩ := run_eq14 (w := w) p q h 9996
  have h3 := run_eqGuard_agg (P := P) w .neq t x y #[I64 p.d, I64 p.i, I64 p.b, I64 p.s, I64 p.t.c, I64 p.t.l, I64 p.t.n, I64 p.t.a, I64 p.t.k, I64 p.o.c, I64 p.o.l, I64 p.o.n, I64 p.o.a, I64 p.o.k] #[I64 q.d, I64 q.i, I64 q.b, I64 q.s, I64 q.t.c, I64 q.t.l, I64 q.t.n, I64 q.t.a, I64 q.t.k, I64 q.o.c, I64 q.o.l, I64 q.o.n, I64 q.o.a, I64 q.o.k] h2
  simp only [execOp, ht.eval hx, ht.eval hy, Sem.run_bind, h3, Result.andThen_ok, run_neq_struct, h1, Sem.run_pure]

/-- A method that was taken as a value, called. -/
theorem s_callP {o : Oper} {d : Tmp} {fo : Operand} {ts : Array TypeId} {f : FuncId} {u : Value} {R : Ending → World → Prop} (hop : o.op = .call { callee := .value fo, args := #[], argTypes := ts })
    (hg : gOn ops env o = some true) (hd : o.dst = some d) (hlt : Nat.blt d n = true) (hf : ev env fo = some (.func (.func f) #[u] #[])) (hen : entersB P f = true)
    (hC : ∀ w, Sat w0 w G H → Calls P f #[u] w R) (k : ∀ e w', R e w' → AfterD n ds env d Q K e w') :
    Holds n ds w0 env G H (stepK P ops Q o K) := fun a w ht hs => by
  unfold stepK
  rw [gOn_spec ht hg, if_pos rfl]
  refine .inl ?_
  unfold Oper.wp
  have hrun : (execOp a.eval o).run P w = .ok (.enter f #[u]) w := by
    simp [execOp, hop, resolve, ht.eval hf, Deferred.ofValue, invoke, enters_run hen]
  rw [hrun, Oper.upon_enter]
  refine (hC w hs).mono fun e w' hr => ?_
  have := (k e w' hr).after hd
  cases e with
  | returned v =>
    simp only [After] at this ⊢
    cases hdst : o.dst with
    | none => rw [hdst] at this; exact this a ht
    | some d' => rw [hdst] at this; rw [hdst] at hd; cases hd; exact this _ (ht.put (of_blt hlt) v)
  | panicked ch => exact this a ht
  | outgrown => exact this
end
end

section
open Go
set_option linter.unusedVariables false
set_option linter.unusedSimpArgs false
set_option maxHeartbeats 1600000
attribute [local irreducible] Code.wp wpList stepK Holds Val wpR Eff Eff0 Code.wpIn wpListIn stepI Exit.then Exit.inBlock bodyPost bodyPostM

/-- What is done behind the numbers. -/
def kf (d : Int) (fp fg : FuncId) : Prop := (d = 1 ∧ fp = 91 ∧ fg = 92) ∨ (d = 3 ∧ fp = 93 ∧ fg = 94) ∨ (¬ d = 1 ∧ ¬ d = 3 ∧ fp = 90 ∧ fg = 90)
theorem kf_ex (d : Int) : ∃ fp fg, kf d fp fg := by
  by_cases h1 : d = 1
  · exact ⟨_, _, .inl ⟨h1, rfl, rfl⟩⟩
  · by_cases h3 : d = 3
    · exact ⟨_, _, .inr (.inl ⟨h3, rfl, rfl⟩)⟩
    · exact ⟨_, _, .inr (.inr ⟨h1, h3, rfl, rfl⟩)⟩
theorem kf_en {d : Int} {fp fg : FuncId} (h : kf d fp fg) : entersB Try.prog fp = true ∧ entersB Try.prog fg = true := by
  rcases h with ⟨_, rfl, rfl⟩ | ⟨_, rfl, rfl⟩ | ⟨_, _, rfl, rfl⟩
  · exact ⟨by kernel_rfl, by kernel_rfl⟩
  · exact ⟨by kernel_rfl, by kernel_rfl⟩
  · exact ⟨by kernel_rfl, by kernel_rfl⟩
abbrev Meth (f : FuncId) (hb : Nat) : Value := .func (.func f) #[Pt hb 0] #[]
abbrev HdO (hb : Nat) (x : Dl) (p e : Value) : Nat × Obj := (hb, Cs [I64 x.d, I64 x.i, I64 x.b, I64 x.s, I64 x.t.c, I64 x.t.l, I64 x.t.n, I64 x.t.a, I64 x.t.k, I64 x.o.c, I64 x.o.l, I64 x.o.n, I64 x.o.a, I64 x.o.k, p, e] 121)

theorem rest_c (hb : Nat) (d : Int) (fp fg : FuncId) (hk : kf d fp fg) (w0 w : World) (G : Im) (F : Hp) (hc : Cel G F hb (0 + 0 + 0) (I64 d)) (hs : Sat w0 w G F) :
    Calls Try.prog 70 #[Pt hb 0] w fun e w' => e = .returned (.tuple #[Meth fp hb, Meth fg hb]) ∧ Sat w0 w' G F := by
  refine f_enter (vs := [_]) Try.func70 rfl Try.ntmps70 (by simp) hs ?_
  refine ww ?_
  refine c_cons (s_val (v_field 0 rfl (by kernel_rfl)) rfl rfl rfl ?_)
  refine c_cons (s_val (v_field 0 rfl (by kernel_rfl)) rfl rfl rfl ?_)
  refine c_cons (s_val (v_load rfl hc (by kernel_rfl)) rfl rfl rfl ?_)
  refine ww ?_
  refine c_cond_d rfl (fun c1 => ?_) (fun c1 => ?_)
  · -- then
    obtain ⟨rfl, rfl⟩ : fp = 91 ∧ fg = 92 := by
      rcases hk with ⟨_, h1, h2⟩ | ⟨h, _⟩ | ⟨h, _⟩
      · exact ⟨h1, h2⟩
      · omega
      · exact absurd c1 h
    refine ww ?_
    exact f_ret2 rfl rfl rfl (fun w hs => ⟨rfl, hs⟩)
  refine ww ?_
  refine c_cond_d rfl (fun c2 => ?_) (fun c2 => ?_)
  · -- then
    obtain ⟨rfl, rfl⟩ : fp = 93 ∧ fg = 94 := by
      rcases hk with ⟨h, _⟩ | ⟨_, h1, h2⟩ | ⟨_, h, _⟩
      · omega
      · exact ⟨h1, h2⟩
      · exact absurd c2 h
    refine ww ?_
    exact f_ret2 rfl rfl rfl (fun w hs => ⟨rfl, hs⟩)
  obtain ⟨rfl, rfl⟩ : fp = 90 ∧ fg = 90 := by
    rcases hk with ⟨h, _⟩ | ⟨h, _⟩ | ⟨_, _, h1, h2⟩
    · exact absurd h c1
    · exact absurd h c2
    · exact ⟨h1, h2⟩
  refine ww ?_
  exact f_ret2 rfl rfl rfl (fun w hs => ⟨rfl, hs⟩)

theorem nothing_c (hb : Nat) (w0 w : World) (G : Im) (F : Hp) (hs : Sat w0 w G F) :
    Calls Try.prog 90 #[Pt hb 0] w fun e w' => e = .returned (.tuple #[]) ∧ Sat w0 w' G F := by
  refine f_enter (vs := [_]) Try.func90 rfl Try.ntmps90 (by simp) hs ?_
  refine ww ?_
  exact f_end0 rfl (fun w hs => ⟨rfl, hs⟩)

theorem putTo_c (hb pn : Nat) (x : Dl) (v : Value) (xs : List UInt8) (B : Hp) (ht : mayP x.t) (hlen : xs.length + 22 ≤ 65536) (w0 w : World) (G : Im) (F : Hp) (k2 : G hb = some (Cs (x.cells ++ [Pt pn 0, .pointer none]) 121)) (hown : OB v xs B) (hs : Sat w0 w G (WP pn v :: (B ++ F))) :
    Calls Try.prog 91 #[Pt hb 0] w fun e w' => ∃ v' B', e = .returned (.tuple #[]) ∧ OB v' (xs ++ bsP x.t) B' ∧ Sat w0 w' G (WP pn v' :: (B' ++ F)) := by
  refine f_enter (vs := [_]) Try.func91 rfl Try.ntmps91 (by simp) hs ?_
  refine ww ?_
  refine r_startS [] [] (by kernel_rfl) (fun w h => h.none) ?_
  refine r_tk 0 rfl rfl (v_move rfl) (fun _ h => h.none) ?_
  refine r_tk 1 rfl rfl (v_nilCheck rfl) (fun _ h => h.none) ?_
  refine r_tk 2 rfl rfl (v_field 14 rfl (by kernel_rfl)) (fun _ h => h.none) ?_
  refine r_tk 3 rfl rfl (v_load rfl (Cel.imm k2 rfl) (by kernel_rfl)) (fun _ h => h.none) ?_
  refine r_tk 4 rfl rfl (v_move rfl) (fun _ h => h.none) ?_
  refine r_tk 5 rfl rfl (v_nilCheck rfl) (fun _ h => h.none) ?_
  refine r_tk 6 rfl rfl (v_field 0 rfl (by kernel_rfl)) (fun _ h => h.none) ?_
  refine r_tk 7 rfl rfl (v_field 4 rfl (by kernel_rfl)) (fun _ h => h.none) ?_
  refine r_tk 8 rfl rfl (v_loadAgg (vs := [I64 x.t.c, I64 x.t.l, I64 x.t.n, I64 x.t.a, I64 x.t.k]) rfl (by kernel_rfl) (by kernel_rfl) rfl (fun j u hj => Cel.imm k2 (to_at x [Pt pn 0, .pointer none] j u hj))) (fun _ h => h.none) ?_
  refine r_one 9 (by kernel_rfl) rfl ?_
  refine s_call (xs := [_, _]) rfl rfl rfl rfl rfl rfl (by kernel_rfl) (fun w hs => wptr_c pn _ xs B x.t ht (by omega) _ w _ F hown hs) ?_
  rintro e w' ⟨v1, B1, rfl, hown1, hs'⟩; refine a_ret ?_ hs'; clear hs'
  refine r_next (fun w h => h.none) ?_
  refine r_done (by kernel_rfl) ?_
  refine ww ?_
  exact f_end0 rfl (fun w hs => ⟨v1, B1, rfl, hown1, hs⟩)

theorem putBoth_c (hb pn : Nat) (x : Dl) (v : Value) (xs : List UInt8) (B : Hp) (ht : mayP x.t) (ho : mayP x.o) (hlen : xs.length + 22 ≤ 65536) (w0 w : World) (G : Im) (F : Hp) (k2 : G hb = some (Cs (x.cells ++ [Pt pn 0, .pointer none]) 121)) (hown : OB v xs B) (hs : Sat w0 w G (WP pn v :: (B ++ F))) :
    Calls Try.prog 93 #[Pt hb 0] w fun e w' => ∃ v' B', e = .returned (.tuple #[]) ∧ OB v' (xs ++ (bsP x.o ++ bsP x.t)) B' ∧ Sat w0 w' G (WP pn v' :: (B' ++ F)) := by
  refine f_enter (vs := [_]) Try.func93 rfl Try.ntmps93 (by simp) hs ?_
  refine ww ?_
  refine r_startS [] [] (by kernel_rfl) (fun w h => h.none) ?_
  refine r_tk 0 rfl rfl (v_move rfl) (fun _ h => h.none) ?_
  refine r_tk 1 rfl rfl (v_nilCheck rfl) (fun _ h => h.none) ?_
  refine r_tk 2 rfl rfl (v_field 14 rfl (by kernel_rfl)) (fun _ h => h.none) ?_
  refine r_tk 3 rfl rfl (v_load rfl (Cel.imm k2 rfl) (by kernel_rfl)) (fun _ h => h.none) ?_
  refine r_tk 4 rfl rfl (v_move rfl) (fun _ h => h.none) ?_
  refine r_tk 5 rfl rfl (v_nilCheck rfl) (fun _ h => h.none) ?_
  refine r_tk 6 rfl rfl (v_field 0 rfl (by kernel_rfl)) (fun _ h => h.none) ?_
  refine r_tk 7 rfl rfl (v_field 9 rfl (by kernel_rfl)) (fun _ h => h.none) ?_
  refine r_tk 8 rfl rfl (v_loadAgg (vs := [I64 x.o.c, I64 x.o.l, I64 x.o.n, I64 x.o.a, I64 x.o.k]) rfl (by kernel_rfl) (by kernel_rfl) rfl (fun j u hj => Cel.imm k2 (old_at x [Pt pn 0, .pointer none] j u hj))) (fun _ h => h.none) ?_
  refine r_one 9 (by kernel_rfl) rfl ?_
  refine s_call (xs := [_, _]) rfl rfl rfl rfl rfl rfl (by kernel_rfl) (fun w hs => wptr_c pn _ xs B x.o ho (by omega) _ w _ F hown hs) ?_
  rintro e w' ⟨v1, B1, rfl, hown1, hs'⟩; refine a_ret ?_ hs'; clear hs'
  refine r_next (fun w h => h.none) ?_
  refine r_done (by kernel_rfl) ?_
  refine ww ?_
  refine r_startS [] [] (by kernel_rfl) (fun w h => h.none) ?_
  refine r_tk 0 rfl rfl (v_move rfl) (fun _ h => h.none) ?_
  refine r_tk 1 rfl rfl (v_nilCheck rfl) (fun _ h => h.none) ?_
  refine r_tk 2 rfl rfl (v_field 14 rfl (by kernel_rfl)) (fun _ h => h.none) ?_
  refine r_tk 3 rfl rfl (v_load rfl (Cel.imm k2 rfl) (by kernel_rfl)) (fun _ h => h.none) ?_
  refine r_tk 4 rfl rfl (v_move rfl) (fun _ h => h.none) ?_
  refine r_tk 5 rfl rfl (v_nilCheck rfl) (fun _ h => h.none) ?_
  refine r_tk 6 rfl rfl (v_field 0 rfl (by kernel_rfl)) (fun _ h => h.none) ?_
  refine r_tk 7 rfl rfl (v_field 4 rfl (by kernel_rfl)) (fun _ h => h.none) ?_
  refine r_tk 8 rfl rfl (v_loadAgg (vs := [I64 x.t.c, I64 x.t.l, I64 x.t.n, I64 x.t.a, I64 x.t.k]) rfl (by kernel_rfl) (by kernel_rfl) rfl (fun j u hj => Cel.imm k2 (to_at x [Pt pn 0, .pointer none] j u hj))) (fun _ h => h.none) ?_
  refine r_one 9 (by kernel_rfl) rfl ?_
  refine s_call (xs := [_, _]) rfl rfl rfl rfl rfl rfl (by kernel_rfl) (fun w hs => wptr_c pn _ _ B1 x.t ht (by rw [List.length_append, bsP_len]; omega) _ w _ F hown1 hs) ?_
  rintro e w' ⟨v2, B2, rfl, hown2, hs'⟩; refine a_ret ?_ hs'; clear hs'
  refine r_next (fun w h => h.none) ?_
  refine r_done (by kernel_rfl) ?_
  refine ww ?_
  exact f_end0 rfl (fun w hs => ⟨v2, B2, rfl, by rw [← List.append_assoc]; exact hown2, hs⟩)

theorem wrest_c (fp fg : FuncId) (hb pn : Nat) (x : Dl) (hk : kf x.d fp fg) (v : Value) (xs : List UInt8) (B : Hp) (ht : mayP x.t) (ho : mayP x.o) (hlen : xs.length + 22 ≤ 65536) (w0 w : World) (G : Im) (F : Hp) (k2 : G hb = some (Cs (x.cells ++ [Pt pn 0, .pointer none]) 121)) (hown : OB v xs B) (hs : Sat w0 w G (WP pn v :: (B ++ F))) :
    Calls Try.prog fp #[Pt hb 0] w fun e w' => ∃ v' B', e = .returned (.tuple #[]) ∧ OB v' (xs ++ (if x.d = 1 then bsP x.t else if x.d = 3 then bsP x.o ++ bsP x.t else [])) B' ∧ Sat w0 w' G (WP pn v' :: (B' ++ F)) := by
  rcases hk with ⟨h, rfl, rfl⟩ | ⟨h, rfl, rfl⟩ | ⟨h1, h3, rfl, rfl⟩
  · rw [if_pos h]
    exact putTo_c hb pn x v xs B ht hlen w0 w G F k2 hown hs
  · rw [if_neg (by omega), if_pos h]
    exact putBoth_c hb pn x v xs B ht ho hlen w0 w G F k2 hown hs
  · rw [if_neg h1, if_neg h3, List.append_nil]
    exact (nothing_c hb w0 w G _ hs).mono fun e w' ⟨h1, h2⟩ => ⟨v, B, h1, hown, h2⟩

theorem dput_c (pn : Nat) (v : Value) (xs : List UInt8) (B : Hp) (x : Dl) (hx : mayDl x) (hlen : xs.length + 28 ≤ 65536) (w0 w : World) (G : Im) (F : Hp) (hown : OB v xs B) (hs : Sat w0 w G (WP pn v :: (B ++ F))) :
    Calls Try.prog 32 #[Pt pn 0, x.V] w fun e w' => ∃ G' v' B', e = .returned (.tuple #[]) ∧ Im.le G G' ∧ OB v' (xs ++ bsD x) B' ∧ Sat w0 w' G' (WP pn v' :: (B' ++ F)) := by
  obtain ⟨m1, m2, m3, m4⟩ := be_nums hx
  obtain ⟨fp, fg, hk⟩ := kf_ex x.d
  refine f_enter (vs := [_, _]) Try.func32 rfl Try.ntmps32 (by simp) hs ?_
  refine ww ?_
  refine c_cons (s_boxA [_, _, _, _, _, _, _, _, _, _, _, _, _, _] rfl rfl rfl fun b1 => ?_)
  refine c_freeze .head fun F1 hF1 k1 => ?_
  refine ww ?_
  refine c_cons (s_val (v_field 0 rfl (by kernel_rfl)) rfl rfl rfl ?_)
  refine c_cons (s_val (v_load rfl (Cel.imm k1 rfl) (by kernel_rfl)) rfl rfl rfl ?_)
  refine c_cons (s_call (xs := [_, _, _]) rfl rfl rfl rfl rfl rfl (by kernel_rfl) (fun w hs => wnum_c pn _ xs B x.d 1 (by decide) m1 (by omega) _ w _ _ hown hs) ?_)
  rintro e w' ⟨v1, B1, rfl, hown1, hs'⟩; refine a_ret ?_ hs'; clear hs'
  refine ww ?_
  refine c_cons (s_val (v_field 1 rfl (by kernel_rfl)) rfl rfl rfl ?_)
  refine c_cons (s_val (v_load rfl (Cel.imm k1 rfl) (by kernel_rfl)) rfl rfl rfl ?_)
  refine c_cons (s_call (xs := [_, _, _]) rfl rfl rfl rfl rfl rfl (by kernel_rfl) (fun w hs => wnum_c pn _ _ B1 x.i 2 (by decide) m2 (by simp only [List.length_append, be_len]; omega) _ w _ _ hown1 hs) ?_)
  rintro e w' ⟨v2, B2, rfl, hown2, hs'⟩; refine a_ret ?_ hs'; clear hs'
  refine ww ?_
  refine c_cons (s_val (v_field 2 rfl (by kernel_rfl)) rfl rfl rfl ?_)
  refine c_cons (s_val (v_load rfl (Cel.imm k1 rfl) (by kernel_rfl)) rfl rfl rfl ?_)
  refine c_cons (s_call (xs := [_, _, _]) rfl rfl rfl rfl rfl rfl (by kernel_rfl) (fun w hs => wnum_c pn _ _ B2 x.b 1 (by decide) m3 (by simp only [List.length_append, be_len]; omega) _ w _ _ hown2 hs) ?_)
  rintro e w' ⟨v3, B3, rfl, hown3, hs'⟩; refine a_ret ?_ hs'; clear hs'
  refine ww ?_
  refine c_cons (s_val (v_field 3 rfl (by kernel_rfl)) rfl rfl rfl ?_)
  refine c_cons (s_val (v_load rfl (Cel.imm k1 rfl) (by kernel_rfl)) rfl rfl rfl ?_)
  refine c_cons (s_call (xs := [_, _, _]) rfl rfl rfl rfl rfl rfl (by kernel_rfl) (fun w hs => wnum_c pn _ _ B3 x.s 2 (by decide) m4 (by simp only [List.length_append, be_len]; omega) _ w _ _ hown3 hs) ?_)
  rintro e w' ⟨v4, B4, rfl, hown4, hs'⟩; refine a_ret ?_ hs'; clear hs'
  refine ww ?_
  refine c_cons (s_val (v_loadAgg (vs := x.cells) rfl (by kernel_rfl) (by kernel_rfl) rfl (fun j u hj => (Cel.allI k1 hj))) rfl rfl rfl ?_)
  refine ww ?_
  refine c_cons (s_val (v_build (ps := [_, _]) #[I64 x.d, I64 x.i, I64 x.b, I64 x.s, I64 x.t.c, I64 x.t.l, I64 x.t.n, I64 x.t.a, I64 x.t.k, I64 x.o.c, I64 x.o.l, I64 x.o.n, I64 x.o.a, I64 x.o.k, Pt pn 0, .pointer none] rfl (by kernel_rfl)) rfl rfl rfl ?_)
  refine c_cons (s_boxA [_, _, _, _, _, _, _, _, _, _, _, _, _, _, _, _] rfl rfl rfl fun b2 => ?_)
  refine c_freeze .head fun F2 hF2 k2 => ?_
  refine ww ?_
  refine c_cons (s_call (xs := [_]) rfl rfl rfl rfl rfl rfl (by kernel_rfl) (fun w hs => rest_c b2 x.d fp fg hk _ w _ _ (Cel.imm k2 rfl) hs) ?_)
  rintro e w' ⟨rfl, hs'⟩; refine a_ret ?_ hs'; clear hs'
  refine ww ?_
  refine c_cons (s_callP rfl rfl rfl rfl rfl (kf_en hk).1 (fun w hs => wrest_c fp fg b2 pn x hk _ _ B4 hx.1.2.2.2.1 hx.1.2.2.2.2 (by simp only [List.length_append, be_len]; omega) _ w _ F k2 hown4 hs) ?_)
  rintro e w' ⟨v5, B5, rfl, hown5, hs'⟩; refine a_ret ?_ hs'; clear hs'
  refine ww ?_
  exact f_end0 rfl (fun w hs => ⟨F2, v5, B5, rfl, hF1.trans hF2, by
    have e : xs ++ bsD x = xs ++ be x.d 1 ++ be x.i 2 ++ be x.b 1 ++ be x.s 2 ++ (if x.d = 1 then bsP x.t else if x.d = 3 then bsP x.o ++ bsP x.t else []) := by unfold bsD; simp only [List.append_assoc]
    rw [e]; exact hown5, hs⟩)
end

section
open Go
set_option linter.unusedVariables false
set_option linter.unusedSimpArgs false
set_option maxHeartbeats 1600000
def pptr (s : Pn) (x : P5) : Pn := pnum (pnum (pnum (pnum (pnum s x.c 1) x.l 3) x.n 4) x.a 2) x.k 1
theorem pptr_len {s : Pn} (h : s.1.length ≤ 65536) (x : P5) : (pptr s x).1.length ≤ 65536 := pnum_len (pnum_len (pnum_len (pnum_len (pnum_len h _ _) _ _) _ _) _ _) _ _
def pdlT (s : Pn) (x : Dl) : Pn := if x.d = 1 then pptr s x.t else if x.d = 3 then pptr (pptr s x.o) x.t else s
def pdlH (s : Pn) (x : Dl) : Pn := pnum (pnum (pnum (pnum s x.d 1) x.i 2) x.b 1) x.s 2
def pdl (s : Pn) (x : Dl) : Pn := pdlT (pdlH s x) x
theorem pdlH_len {s : Pn} (h : s.1.length ≤ 65536) (x : Dl) : (pdlH s x).1.length ≤ 65536 := pnum_len (pnum_len (pnum_len (pnum_len h _ _) _ _) _ _) _ _
theorem pdl_len {s : Pn} (h : s.1.length ≤ 65536) (x : Dl) : (pdl s x).1.length ≤ 65536 := by
  have h1 := pdlH_len h x
  unfold pdl pdlT
  split
  · exact pptr_len h1 _
  · split
    · exact pptr_len (pptr_len h1 _) _
    · exact h1
attribute [local irreducible] Code.wp wpList stepK Holds Val wpR Eff Eff0 Code.wpIn wpListIn stepI Exit.then Exit.inBlock bodyPost bodyPostM

theorem nptr_c (pn : Nat) (v : Value) (s : Pn) (B : Hp) (x : P5) (hlen : s.1.length ≤ 65536) (w0 w : World) (G : Im) (F : Hp) (hown : OB v s.1 B) (hs : Sat w0 w G (PnO pn v s.2 :: (B ++ F))) :
    Calls Try.prog 97 #[Pt pn 0, x.V] w fun e w' => ∃ v' B', e = .returned (.tuple #[]) ∧ OB v' (pptr s x).1 B' ∧ Sat w0 w' G (PnO pn v' (pptr s x).2 :: (B' ++ F)) := by
  have l1 := pnum_len hlen x.c 1
  have l2 := pnum_len l1 x.l 3
  have l3 := pnum_len l2 x.n 4
  have l4 := pnum_len l3 x.a 2
  refine f_enter (vs := [_, _]) Try.func97 rfl Try.ntmps97 (by simp) hs ?_
  refine ww ?_
  refine c_cons (s_boxA [_, _, _, _, _] rfl rfl rfl fun b1 => ?_)
  refine c_sub (PnO pn v s.2 :: (B ++ ((b1, Cs [I64 x.c, I64 x.l, I64 x.n, I64 x.a, I64 x.k] 73) :: F))) sbx ?_
  refine ww ?_
  refine c_cons (s_val (v_field 0 rfl (by kernel_rfl)) rfl rfl rfl ?_)
  refine c_cons (s_val (v_field 0 rfl (by kernel_rfl)) rfl rfl rfl ?_)
  refine c_cons (s_val (v_load rfl (Cel.mem (b := b1) (L := [I64 x.c, I64 x.l, I64 x.n, I64 x.a, I64 x.k]) (t := 73) (by simp) rfl) (by kernel_rfl)) rfl rfl rfl ?_)
  refine c_cons (s_call (xs := [_, _, _]) rfl rfl rfl rfl rfl rfl (by kernel_rfl) (fun w hs => pnum_c pn v s B x.c 1 hlen _ w _ _ hown hs) ?_)
  rintro e w' ⟨v1, B1, rfl, hown1, hs'⟩; refine a_ret ?_ hs'; clear hs'
  refine ww ?_
  refine c_cons (s_val (v_field 0 rfl (by kernel_rfl)) rfl rfl rfl ?_)
  refine c_cons (s_val (v_field 1 rfl (by kernel_rfl)) rfl rfl rfl ?_)
  refine c_cons (s_val (v_load rfl (Cel.mem (b := b1) (L := [I64 x.c, I64 x.l, I64 x.n, I64 x.a, I64 x.k]) (t := 73) (by simp) rfl) (by kernel_rfl)) rfl rfl rfl ?_)
  refine c_cons (s_call (xs := [_, _, _]) rfl rfl rfl rfl rfl rfl (by kernel_rfl) (fun w hs => pnum_c pn v1 (pnum s x.c 1) B1 x.l 3 l1 _ w _ _ hown1 hs) ?_)
  rintro e w' ⟨v2, B2, rfl, hown2, hs'⟩; refine a_ret ?_ hs'; clear hs'
  refine ww ?_
  refine c_cons (s_val (v_field 0 rfl (by kernel_rfl)) rfl rfl rfl ?_)
  refine c_cons (s_val (v_field 2 rfl (by kernel_rfl)) rfl rfl rfl ?_)
  refine c_cons (s_val (v_load rfl (Cel.mem (b := b1) (L := [I64 x.c, I64 x.l, I64 x.n, I64 x.a, I64 x.k]) (t := 73) (by simp) rfl) (by kernel_rfl)) rfl rfl rfl ?_)
  refine c_cons (s_call (xs := [_, _, _]) rfl rfl rfl rfl rfl rfl (by kernel_rfl) (fun w hs => pnum_c pn v2 (pnum (pnum s x.c 1) x.l 3) B2 x.n 4 l2 _ w _ _ hown2 hs) ?_)
  rintro e w' ⟨v3, B3, rfl, hown3, hs'⟩; refine a_ret ?_ hs'; clear hs'
  refine ww ?_
  refine c_cons (s_val (v_field 3 rfl (by kernel_rfl)) rfl rfl rfl ?_)
  refine c_cons (s_val (v_load rfl (Cel.mem (b := b1) (L := [I64 x.c, I64 x.l, I64 x.n, I64 x.a, I64 x.k]) (t := 73) (by simp) rfl) (by kernel_rfl)) rfl rfl rfl ?_)
  refine c_cons (s_call (xs := [_, _, _]) rfl rfl rfl rfl rfl rfl (by kernel_rfl) (fun w hs => pnum_c pn v3 (pnum (pnum (pnum s x.c 1) x.l 3) x.n 4) B3 x.a 2 l3 _ w _ _ hown3 hs) ?_)
  rintro e w' ⟨v4, B4, rfl, hown4, hs'⟩; refine a_ret ?_ hs'; clear hs'
  refine ww ?_
  refine c_cons (s_val (v_field 4 rfl (by kernel_rfl)) rfl rfl rfl ?_)
  refine c_cons (s_val (v_load rfl (Cel.mem (b := b1) (L := [I64 x.c, I64 x.l, I64 x.n, I64 x.a, I64 x.k]) (t := 73) (by simp) rfl) (by kernel_rfl)) rfl rfl rfl ?_)
  refine c_cons (s_call (xs := [_, _, _]) rfl rfl rfl rfl rfl rfl (by kernel_rfl) (fun w hs => pnum_c pn v4 (pnum (pnum (pnum (pnum s x.c 1) x.l 3) x.n 4) x.a 2) B4 x.k 1 l4 _ w _ _ hown4 hs) ?_)
  rintro e w' ⟨v5, B5, rfl, hown5, hs'⟩; refine a_ret ?_ hs'; clear hs'
  refine ww ?_
  exact f_end0 rfl (fun w hs => ⟨v5, B5, rfl, hown5, (show Sat w0 w G (PnO pn v5 (pnum (pnum (pnum (pnum (pnum s x.c 1) x.l 3) x.n 4) x.a 2) x.k 1).2 :: (B5 ++ F)) from hs.sb)⟩)

theorem nputTo_c (hb pn : Nat) (x : Dl) (v : Value) (s : Pn) (B : Hp) (hlen : s.1.length ≤ 65536) (w0 w : World) (G : Im) (F : Hp) (k2 : G hb = some (Cs (x.cells ++ [Pt pn 0, .pointer none]) 121)) (hown : OB v s.1 B) (hs : Sat w0 w G (PnO pn v s.2 :: (B ++ F))) :
    Calls Try.prog 91 #[Pt hb 0] w fun e w' => ∃ v' B', e = .returned (.tuple #[]) ∧ OB v' (pptr s x.t).1 B' ∧ Sat w0 w' G (PnO pn v' (pptr s x.t).2 :: (B' ++ F)) := by
  refine f_enter (vs := [_]) Try.func91 rfl Try.ntmps91 (by simp) hs ?_
  refine ww ?_
  refine r_startS [] [] (by kernel_rfl) (fun w h => h.none) ?_
  refine r_tk 0 rfl rfl (v_move rfl) (fun _ h => h.none) ?_
  refine r_tk 1 rfl rfl (v_nilCheck rfl) (fun _ h => h.none) ?_
  refine r_tk 2 rfl rfl (v_field 14 rfl (by kernel_rfl)) (fun _ h => h.none) ?_
  refine r_tk 3 rfl rfl (v_load rfl (Cel.imm k2 rfl) (by kernel_rfl)) (fun _ h => h.none) ?_
  refine r_tk 4 rfl rfl (v_move rfl) (fun _ h => h.none) ?_
  refine r_tk 5 rfl rfl (v_nilCheck rfl) (fun _ h => h.none) ?_
  refine r_tk 6 rfl rfl (v_field 0 rfl (by kernel_rfl)) (fun _ h => h.none) ?_
  refine r_tk 7 rfl rfl (v_field 4 rfl (by kernel_rfl)) (fun _ h => h.none) ?_
  refine r_tk 8 rfl rfl (v_loadAgg (vs := [I64 x.t.c, I64 x.t.l, I64 x.t.n, I64 x.t.a, I64 x.t.k]) rfl (by kernel_rfl) (by kernel_rfl) rfl (fun j u hj => Cel.imm k2 (to_at x [Pt pn 0, .pointer none] j u hj))) (fun _ h => h.none) ?_
  refine r_one 9 (by kernel_rfl) rfl ?_
  refine s_call (xs := [_, _]) rfl rfl rfl rfl rfl rfl (by kernel_rfl) (fun w hs => nptr_c pn _ s B x.t hlen _ w _ F hown hs) ?_
  rintro e w' ⟨v1, B1, rfl, hown1, hs'⟩; refine a_ret ?_ hs'; clear hs'
  refine r_next (fun w h => h.none) ?_
  refine r_done (by kernel_rfl) ?_
  refine ww ?_
  exact f_end0 rfl (fun w hs => ⟨v1, B1, rfl, hown1, hs⟩)

theorem nputBoth_c (hb pn : Nat) (x : Dl) (v : Value) (s : Pn) (B : Hp) (hlen : s.1.length ≤ 65536) (w0 w : World) (G : Im) (F : Hp) (k2 : G hb = some (Cs (x.cells ++ [Pt pn 0, .pointer none]) 121)) (hown : OB v s.1 B) (hs : Sat w0 w G (PnO pn v s.2 :: (B ++ F))) :
    Calls Try.prog 93 #[Pt hb 0] w fun e w' => ∃ v' B', e = .returned (.tuple #[]) ∧ OB v' (pptr (pptr s x.o) x.t).1 B' ∧ Sat w0 w' G (PnO pn v' (pptr (pptr s x.o) x.t).2 :: (B' ++ F)) := by
  refine f_enter (vs := [_]) Try.func93 rfl Try.ntmps93 (by simp) hs ?_
  refine ww ?_
  refine r_startS [] [] (by kernel_rfl) (fun w h => h.none) ?_
  refine r_tk 0 rfl rfl (v_move rfl) (fun _ h => h.none) ?_
  refine r_tk 1 rfl rfl (v_nilCheck rfl) (fun _ h => h.none) ?_
  refine r_tk 2 rfl rfl (v_field 14 rfl (by kernel_rfl)) (fun _ h => h.none) ?_
  refine r_tk 3 rfl rfl (v_load rfl (Cel.imm k2 rfl) (by kernel_rfl)) (fun _ h => h.none) ?_
  refine r_tk 4 rfl rfl (v_move rfl) (fun _ h => h.none) ?_
  refine r_tk 5 rfl rfl (v_nilCheck rfl) (fun _ h => h.none) ?_
  refine r_tk 6 rfl rfl (v_field 0 rfl (by kernel_rfl)) (fun _ h => h.none) ?_
  refine r_tk 7 rfl rfl (v_field 9 rfl (by kernel_rfl)) (fun _ h => h.none) ?_
  refine r_tk 8 rfl rfl (v_loadAgg (vs := [I64 x.o.c, I64 x.o.l, I64 x.o.n, I64 x.o.a, I64 x.o.k]) rfl (by kernel_rfl) (by kernel_rfl) rfl (fun j u hj => Cel.imm k2 (old_at x [Pt pn 0, .pointer none] j u hj))) (fun _ h => h.none) ?_
  refine r_one 9 (by kernel_rfl) rfl ?_
  refine s_call (xs := [_, _]) rfl rfl rfl rfl rfl rfl (by kernel_rfl) (fun w hs => nptr_c pn _ s B x.o hlen _ w _ F hown hs) ?_
  rintro e w' ⟨v1, B1, rfl, hown1, hs'⟩; refine a_ret ?_ hs'; clear hs'
  refine r_next (fun w h => h.none) ?_
  refine r_done (by kernel_rfl) ?_
  refine ww ?_
  refine r_startS [] [] (by kernel_rfl) (fun w h => h.none) ?_
  refine r_tk 0 rfl rfl (v_move rfl) (fun _ h => h.none) ?_
  refine r_tk 1 rfl rfl (v_nilCheck rfl) (fun _ h => h.none) ?_
  refine r_tk 2 rfl rfl (v_field 14 rfl (by kernel_rfl)) (fun _ h => h.none) ?_
  refine r_tk 3 rfl rfl (v_load rfl (Cel.imm k2 rfl) (by kernel_rfl)) (fun _ h => h.none) ?_
  refine r_tk 4 rfl rfl (v_move rfl) (fun _ h => h.none) ?_
  refine r_tk 5 rfl rfl (v_nilCheck rfl) (fun _ h => h.none) ?_
  refine r_tk 6 rfl rfl (v_field 0 rfl (by kernel_rfl)) (fun _ h => h.none) ?_
  refine r_tk 7 rfl rfl (v_field 4 rfl (by kernel_rfl)) (fun _ h => h.none) ?_
  refine r_tk 8 rfl rfl (v_loadAgg (vs := [I64 x.t.c, I64 x.t.l, I64 x.t.n, I64 x.t.a, I64 x.t.k]) rfl (by kernel_rfl) (by kernel_rfl) rfl (fun j u hj => Cel.imm k2 (to_at x [Pt pn 0, .pointer none] j u hj))) (fun _ h => h.none) ?_
  refine r_one 9 (by kernel_rfl) rfl ?_
  refine s_call (xs := [_, _]) rfl rfl rfl rfl rfl rfl (by kernel_rfl) (fun w hs => nptr_c pn _ _ B1 x.t (pptr_len hlen _) _ w _ F hown1 hs) ?_
  rintro e w' ⟨v2, B2, rfl, hown2, hs'⟩; refine a_ret ?_ hs'; clear hs'
  refine r_next (fun w h => h.none) ?_
  refine r_done (by kernel_rfl) ?_
  refine ww ?_
  exact f_end0 rfl (fun w hs => ⟨v2, B2, rfl, hown2, hs⟩)

theorem nwrest_c (fp fg : FuncId) (hb pn : Nat) (x : Dl) (hk : kf x.d fp fg) (v : Value) (s : Pn) (B : Hp) (hlen : s.1.length ≤ 65536) (w0 w : World) (G : Im) (F : Hp) (k2 : G hb = some (Cs (x.cells ++ [Pt pn 0, .pointer none]) 121)) (hown : OB v s.1 B) (hs : Sat w0 w G (PnO pn v s.2 :: (B ++ F))) :
    Calls Try.prog fp #[Pt hb 0] w fun e w' => ∃ v' B', e = .returned (.tuple #[]) ∧ OB v' (pdlT s x).1 B' ∧ Sat w0 w' G (PnO pn v' (pdlT s x).2 :: (B' ++ F)) := by
  unfold pdlT
  rcases hk with ⟨h, rfl, rfl⟩ | ⟨h, rfl, rfl⟩ | ⟨h1, h3, rfl, rfl⟩
  · rw [if_pos h]
    exact nputTo_c hb pn x v s B hlen w0 w G F k2 hown hs
  · rw [if_neg (by omega), if_pos h]
    exact nputBoth_c hb pn x v s B hlen w0 w G F k2 hown hs
  · rw [if_neg h1, if_neg h3]
    exact (nothing_c hb w0 w G _ hs).mono fun e w' ⟨h1, h2⟩ => ⟨v, B, h1, hown, h2⟩

theorem ndput_c (pn : Nat) (v : Value) (s : Pn) (B : Hp) (x : Dl) (hlen : s.1.length ≤ 65536) (w0 w : World) (G : Im) (F : Hp) (hown : OB v s.1 B) (hs : Sat w0 w G (PnO pn v s.2 :: (B ++ F))) :
    Calls Try.prog 32 #[Pt pn 0, x.V] w fun e w' => ∃ G' v' B', e = .returned (.tuple #[]) ∧ Im.le G G' ∧ OB v' (pdl s x).1 B' ∧ Sat w0 w' G' (PnO pn v' (pdl s x).2 :: (B' ++ F)) := by
  have l1 := pnum_len hlen x.d 1
  have l2 := pnum_len l1 x.i 2
  have l3 := pnum_len l2 x.b 1
  have l4 := pdlH_len hlen x
  obtain ⟨fp, fg, hk⟩ := kf_ex x.d
  refine f_enter (vs := [_, _]) Try.func32 rfl Try.ntmps32 (by simp) hs ?_
  refine ww ?_
  refine c_cons (s_boxA [_, _, _, _, _, _, _, _, _, _, _, _, _, _] rfl rfl rfl fun b1 => ?_)
  refine c_freeze .head fun F1 hF1 k1 => ?_
  refine ww ?_
  refine c_cons (s_val (v_field 0 rfl (by kernel_rfl)) rfl rfl rfl ?_)
  refine c_cons (s_val (v_load rfl (Cel.imm k1 rfl) (by kernel_rfl)) rfl rfl rfl ?_)
  refine c_cons (s_call (xs := [_, _, _]) rfl rfl rfl rfl rfl rfl (by kernel_rfl) (fun w hs => pnum_c pn _ s B x.d 1 hlen _ w _ _ hown hs) ?_)
  rintro e w' ⟨v1, B1, rfl, hown1, hs'⟩; refine a_ret ?_ hs'; clear hs'
  refine ww ?_
  refine c_cons (s_val (v_field 1 rfl (by kernel_rfl)) rfl rfl rfl ?_)
  refine c_cons (s_val (v_load rfl (Cel.imm k1 rfl) (by kernel_rfl)) rfl rfl rfl ?_)
  refine c_cons (s_call (xs := [_, _, _]) rfl rfl rfl rfl rfl rfl (by kernel_rfl) (fun w hs => pnum_c pn _ _ B1 x.i 2 l1 _ w _ _ hown1 hs) ?_)
  rintro e w' ⟨v2, B2, rfl, hown2, hs'⟩; refine a_ret ?_ hs'; clear hs'
  refine ww ?_
  refine c_cons (s_val (v_field 2 rfl (by kernel_rfl)) rfl rfl rfl ?_)
  refine c_cons (s_val (v_load rfl (Cel.imm k1 rfl) (by kernel_rfl)) rfl rfl rfl ?_)
  refine c_cons (s_call (xs := [_, _, _]) rfl rfl rfl rfl rfl rfl (by kernel_rfl) (fun w hs => pnum_c pn _ _ B2 x.b 1 l2 _ w _ _ hown2 hs) ?_)
  rintro e w' ⟨v3, B3, rfl, hown3, hs'⟩; refine a_ret ?_ hs'; clear hs'
  refine ww ?_
  refine c_cons (s_val (v_field 3 rfl (by kernel_rfl)) rfl rfl rfl ?_)
  refine c_cons (s_val (v_load rfl (Cel.imm k1 rfl) (by kernel_rfl)) rfl rfl rfl ?_)
  refine c_cons (s_call (xs := [_, _, _]) rfl rfl rfl rfl rfl rfl (by kernel_rfl) (fun w hs => pnum_c pn _ _ B3 x.s 2 l3 _ w _ _ hown3 hs) ?_)
  rintro e w' ⟨v4, B4, rfl, hown4, hs'⟩; refine a_ret ?_ hs'; clear hs'
  refine ww ?_
  refine c_cons (s_val (v_loadAgg (vs := x.cells) rfl (by kernel_rfl) (by kernel_rfl) rfl (fun j u hj => (Cel.allI k1 hj))) rfl rfl rfl ?_)
  refine ww ?_
  refine c_cons (s_val (v_build (ps := [_, _]) #[I64 x.d, I64 x.i, I64 x.b, I64 x.s, I64 x.t.c, I64 x.t.l, I64 x.t.n, I64 x.t.a, I64 x.t.k, I64 x.o.c, I64 x.o.l, I64 x.o.n, I64 x.o.a, I64 x.o.k, Pt pn 0, .pointer none] rfl (by kernel_rfl)) rfl rfl rfl ?_)
  refine c_cons (s_boxA [_, _, _, _, _, _, _, _, _, _, _, _, _, _, _, _] rfl rfl rfl fun b2 => ?_)
  refine c_freeze .head fun F2 hF2 k2 => ?_
  refine ww ?_
  refine c_cons (s_call (xs := [_]) rfl rfl rfl rfl rfl rfl (by kernel_rfl) (fun w hs => rest_c b2 x.d fp fg hk _ w _ _ (Cel.imm k2 rfl) hs) ?_)
  rintro e w' ⟨rfl, hs'⟩; refine a_ret ?_ hs'; clear hs'
  refine ww ?_
  refine c_cons (s_callP rfl rfl rfl rfl rfl (kf_en hk).1 (fun w hs => nwrest_c fp fg b2 pn x hk _ (pdlH s x) B4 l4 _ w _ F k2 hown4 hs) ?_)
  rintro e w' ⟨v5, B5, rfl, hown5, hs'⟩; refine a_ret ?_ hs'; clear hs'
  refine ww ?_
  exact f_end0 rfl (fun w hs => ⟨F2, v5, B5, rfl, hF1.trans hF2, hown5, hs⟩)
end

section
open Go
set_option linter.unusedVariables false
set_option linter.unusedSimpArgs false
set_option maxHeartbeats 3200000
section
variable {w0 w : World} {G G' : Im} {H H' H1 : Hp} {n d : Nat} {ds : List Deferred} {env env2 : Env} {P : Program} {Q : Exit → Act → World → Prop} {ops : Array Oper} {K : Act → World → Prop} {late : List Nat} {L : Array Bool} {fuel : Nat}
/-- As Q; behind a panic the slots of env2 are as they were, and nothing else of them counts. -/
def pqQ (n : Nat) (ds : List Deferred) (env2 : Env) (Q : Exit → Act → World → Prop) : Exit → Act → World → Prop
  | .panic c, a, w => TT a n ds env2 ∧ ∀ a', TT a' n ds env2 → Q (.panic c) a' w
  | e, a, w => Q e a w
theorem pqQ_le : ∀ e a w, pqQ n ds env2 Q e a w → Q e a w := fun e a w h => by
  cases e with
  | panic c => exact h.2 a h.1
  | _ => exact h
theorem c_pq (env2 : Env) {c : Code} (h : Holds n ds w0 env G H (c.wp P (pqQ n ds env2 Q))) : Holds n ds w0 env G H (c.wp P Q) := fun a w ht hs => wp_mono (h a w ht hs) pqQ_le
def PanicAt (d : Nat) (Q : Exit → Act → World → Prop) : Prop := ∀ c a v w, Q (.panic c) (Act.put a (some d) v) w → Q (.panic c) a w
theorem pd_then {nx : Act → World → Prop} (h : PanicAt d Q) : PanicAt d (Exit.then nx Q) := h
theorem pd_block {id : Nat} (h : PanicAt d Q) : PanicAt d (Exit.inBlock id Q) := h
theorem pd_q (h : env2.all (fun p => p.1 != d) = true) : PanicAt d (pqQ n ds env2 Q) := fun c a v w hp => by
  refine ⟨⟨?_, hp.1.defers, fun i u hi => ?_⟩, hp.2⟩
  · have := hp.1.size
    simpa [Act.put] using this
  · have hne : i ≠ d := fun e => by
      subst e
      have h2 : ∀ (l : Env), l.all (fun p => p.1 != i) = true → l.lookup i = none := by
        intro l
        induction l with
        | nil => intro _; rfl
        | cons p l ih =>
          intro hl
          rw [List.all_cons, Bool.and_eq_true] at hl
          obtain ⟨j, x⟩ := p
          have hji : ¬ i = j := by have := hl.1; simp at this; exact fun e => this e.symm
          rw [List.lookup, show (i == j) = false by simpa using hji]
          exact ih hl.2
      rw [h2 env2 h] at hi; cases hi
    have h3 := hp.1.get i u hi
    simp only [Act.put] at h3
    rwa [Array.getElem?_setIfInBounds_ne (fun e => hne e.symm)] at h3
theorem r_tkD (i : Nat) {oi : Oper} {d : Nat} {v : Value} {G1 : Im} {H1 : Hp} (hi : ops[i]? = some oi) (hdst : oi.dst = some d) (hv : Val P env G H oi v) (hS : ∀ w, Sat w0 w G1 H1 → Sat w0 w G H)
    (k : Holds n ds w0 ((d, v) :: env) G1 H1 (wpR P ops late Q (fun w => Sat w0 w G H) fuel (L.setIfInBounds i true)))
    (hs : Region.noSelect ops = true := by kernel_rfl) (hf : Region.free .any ops L i = true := by kernel_rfl) (hr : (Region.ready .any ops L).contains i = true := by kernel_rfl)
    (hl : lateOk ops late L i = true := by kernel_rfl) (hg : gOn ops env oi = some true := by exact rfl) (hd : Nat.blt d n = true := by exact rfl) (hQ : PanicAt d Q := by repeat (first | exact pd_q rfl | apply pd_then | apply pd_block)) :
    Holds n ds w0 env G1 H1 (wpR P ops late Q (fun w => Sat w0 w G H) (fuel + 1) L) := fun a w ht hw => by
  refine wpR_first hi (Region.noSelect_spec hs) (fun c a w h => hQ c a _ w (by rw [hdst] at h; exact h)) fuel L a w (Region.free_spec hi hf) hl (by simpa using hr) (.inl ⟨gOn_spec ht hg, fun w' hw' => hv a n ds w0 w' ht hw'⟩) (hS w hw) ?_
  rw [hdst]
  exact k _ w (ht.put (of_blt hd) v) hw
theorem pq_ret (h : Holds n ds w0 env G H (Q .ret)) : Holds n ds w0 env G H (pqQ n ds env2 Q .ret) := h
theorem pq_panic {ch : List PanicEntry} (he : Env.sub env env2) (h : Holds n ds w0 env2 G H (Q (.panic ch))) : Holds n ds w0 env G H (pqQ n ds env2 Q (.panic ch)) := fun a w ht hs =>
  ⟨ht.mono (Env.sub_spec he), fun a' ht' => h a' w ht' hs⟩
/-- Behind a return: the one deferred call, then the results. -/
theorem d_ret1 {fn : Func} {f : FuncId} {cap : Array Value} {R : Ending → World → Prop} {R' : Ending → FrameMode → World → Prop} (hen : entersB P f = true)
    (hC : ∀ w, Sat w0 w G H → CallsD P f cap .returning w R') (hR : ∀ (a : Act) e u w, TT a n [{ target := .fn (.func f) cap, args := #[] }] env → R' e u w → (∃ v, e = .returned v) ∧ settle u = .returning ∧ ∃ v, (results fn a.tmps).run P w = .ok v w ∧ R (.returned v) w) :
    Holds n [{ target := .fn (.func f) cap, args := #[] }] w0 env G H (bodyPostD P fn R .ret) := fun a w ht hs => by
  show Leaves _ _ _ _ _ _ _
  rw [ht.defers]
  refine leaves_cons (by simp) (f := f) (args := cap) (by simp [invoke, enters_run hen]) ((hC w hs).mono fun e u w' h => ?_)
  obtain ⟨⟨v, rfl⟩, hu, hR'⟩ := hR a e u w' ht h
  show Leaves _ _ _ _ _ _ _
  rw [hu]
  exact hR'
theorem d_pan1 {fn : Func} {f : FuncId} {cap : Array Value} {ch : List PanicEntry} {R : Ending → World → Prop} {R' : Ending → FrameMode → World → Prop} (hen : entersB P f = true)
    (hC : ∀ w, Sat w0 w G H → CallsD P f cap (.panicking ch) w R') (hR : ∀ (a : Act) e u w, TT a n [{ target := .fn (.func f) cap, args := #[] }] env → R' e u w → (∃ v, e = .returned v) ∧ settle u = .returning ∧ ∃ v, (results fn a.tmps).run P w = .ok v w ∧ R (.returned v) w) :
    Holds n [{ target := .fn (.func f) cap, args := #[] }] w0 env G H (bodyPostD P fn R (.panic ch)) := fun a w ht hs => by
  show Leaves _ _ _ _ _ _ _
  rw [ht.defers]
  refine leaves_cons (by simp) (f := f) (args := cap) (by simp [invoke, enters_run hen]) ((hC w hs).mono fun e u w' h => ?_)
  obtain ⟨⟨v, rfl⟩, hu, hR'⟩ := hR a e u w' ht h
  show Leaves _ _ _ _ _ _ _
  rw [hu]
  exact hR'
theorem res_c2 {fn : Func} {a : Act} {t t2 : Tmp} {ty ty2 : TypeId} {b b2 : Nat} {v v2 : Value} (ht : TT a n ds env) (hr : fn.results = #[.cell t ty, .cell t2 ty2]) (hp : env.lookup t = some (Pt b 0)) (hp2 : env.lookup t2 = some (Pt b2 0)) (ha : aggB P ty = some false) (ha2 : aggB P ty2 = some false)
    (hs : Sat w0 w G H) (hb : Cel G H b 0 v) (hb2 : Cel G H b2 0 v2) : (results fn a.tmps).run P w = .ok (.tuple #[v, v2]) w := by
  have hg := ht.get t _ hp
  have hg2 := ht.get t2 _ hp2
  have hc := hb.cell hs
  have hc2 := hb2.cell hs
  simp [results, hr, hg, hg2, asAddr, loadVar, run_isAgg' ha, run_isAgg' ha2, hc, hc2]
theorem res_c1 {fn : Func} {a : Act} {t : Tmp} {ty : TypeId} {b : Nat} {v : Value} (ht : TT a n ds env) (hr : fn.results = #[.cell t ty]) (hp : env.lookup t = some (Pt b 0)) (ha : aggB P ty = some false)
    (hs : Sat w0 w G H) (hb : Cel G H b 0 v) : (results fn a.tmps).run P w = .ok v w := by
  have hg := ht.get t _ hp
  have hc := hb.cell hs
  simp [results, hr, hg, asAddr, loadVar, run_isAgg' ha, hc]
end
end

section
open Go
set_option linter.unusedVariables false
set_option linter.unusedSimpArgs false
set_option maxHeartbeats 800000
/-- What it gave up with. -/
def ngone (c : Int) : List PanicEntry := [{ v := .iface 116 (.agg #[I64 c]), recovered := false }]
def nrec (c : Int) : List PanicEntry := [{ v := .iface 116 (.agg #[I64 c]), recovered := true }]
abbrev EcO (b : Nat) (c : Int) : Nat × Obj := (b, Cs [I64 c] 31)
attribute [local irreducible] Code.wp wpList stepK Holds Val wpR Eff Eff0 Code.wpIn wpListIn stepI Exit.then Exit.inBlock bodyPost bodyPostM

theorem nmust_t (c : Int) (w0 w : World) (G : Im) (F : Hp) (hs : Sat w0 w G F) :
    Calls Try.prog 25 #[.bool true, I64 c] w fun e w' => e = .returned (.tuple #[]) ∧ Sat w0 w' G F := by
  refine f_enter (vs := [_, _]) Try.func25 rfl Try.ntmps25 (by simp) hs ?_
  refine ww ?_
  refine c_cond_f rfl ?_
  refine ww ?_
  exact f_end0 rfl (fun w hs => ⟨rfl, hs⟩)

theorem nmust_f (c : Int) (w0 w : World) (G : Im) (F : Hp) (hs : Sat w0 w G F) :
    Calls Try.prog 25 #[.bool false, I64 c] w fun e w' => e = .panicked (ngone c) ∧ Sat w0 w' G F := by
  refine f_enter (vs := [_, _]) Try.func25 rfl Try.ntmps25 (by simp) hs ?_
  refine ww ?_
  refine c_cond_t rfl ?_
  refine ww ?_
  refine c_cons (s_val (v_build (ps := [_]) #[I64 c] rfl (by kernel_rfl)) rfl rfl rfl ?_)
  refine c_cons (s_val (v_iface rfl (by kernel_rfl)) rfl rfl rfl ?_)
  refine c_cons (s_panic rfl rfl ?_)
  exact f_panic (fun w hs => ⟨rfl, hs⟩)

theorem ngoing_c (ep : Nat) (v : Value) (bad : Int) (w0 w : World) (G : Im) (F : Hp) (hs : Sat w0 w G (EyO ep v bad :: F)) :
    Calls Try.prog 43 #[Pt ep 0] w fun e w' => Sat w0 w' G (EyO ep v bad :: F) ∧ ((bad = 0 ∧ e = .returned (.tuple #[])) ∨ (bad ≠ 0 ∧ e = .panicked (ngone bad))) := by
  refine f_enter (vs := [_]) Try.func43 rfl Try.ntmps43 (by simp) hs ?_
  refine ww ?_
  refine c_cons (s_call (xs := [_]) rfl rfl rfl rfl rfl rfl (by kernel_rfl) (fun w hs => fail_c ep v bad _ w _ _ hs) ?_)
  rintro e w' ⟨rfl, hs'⟩; refine a_ret ?_ hs'; clear hs'
  refine ww ?_
  refine c_cons (s_call (xs := [_]) rfl rfl rfl rfl rfl rfl (by kernel_rfl) (fun w hs => fail_c ep v bad _ w _ _ hs) ?_)
  rintro e w' ⟨rfl, hs'⟩; refine a_ret ?_ hs'; clear hs'
  by_cases hb : bad = 0
  · rw [decide_eq_true hb]
    refine c_cons (s_call (xs := [_, _]) rfl rfl rfl rfl rfl rfl (by kernel_rfl) (fun w hs => nmust_t bad _ w _ _ hs) ?_)
    rintro e w' ⟨rfl, hs'⟩; refine a_ret ?_ hs'; clear hs'
    refine ww ?_
    exact f_end0 rfl (fun w hs => ⟨hs, .inl ⟨hb, rfl⟩⟩)
  rw [decide_eq_false hb]
  refine c_cons (s_call (xs := [_, _]) rfl rfl rfl rfl rfl rfl (by kernel_rfl) (fun w hs => nmust_f bad _ w _ _ hs) ?_)
  rintro e w' ⟨rfl, hs'⟩
  refine a_panic ?_ hs'; clear hs'
  repeat (first | refine x_then_panic ?_ | refine x_block_panic ?_)
  exact f_panic (fun w hs => ⟨hs, .inr ⟨hb, rfl⟩⟩)

/-- How many there are: what the eye says, why it ends. -/
theorem ncount_c (ep : Nat) (v : Value) (bad : Int) (xs : List UInt8) (w0 w : World) (G : Im) (F : Hp) (hv : EB G v xs) (hs : Sat w0 w G (EyO ep v bad :: F)) :
    Calls Try.prog 46 #[Pt ep 0] w fun e w' => ∃ v', EB G v' (eNum xs bad 2).2.1 ∧ Sat w0 w' G (EyO ep v' (eNum xs bad 2).2.2 :: F) ∧
      (((eNum xs bad 2).2.2 ≠ 0 ∧ e = .panicked (ngone (eNum xs bad 2).2.2)) ∨ ((eNum xs bad 2).2.2 = 0 ∧ ¬ (eNum xs bad 2).1 ≤ 4000 ∧ e = .panicked (ngone 3)) ∨ ((eNum xs bad 2).2.2 = 0 ∧ (eNum xs bad 2).1 ≤ 4000 ∧ e = .returned (I64 (eNum xs bad 2).1))) := by
  refine f_enter (vs := [_]) Try.func46 rfl Try.ntmps46 (by simp) hs ?_
  refine ww ?_
  refine c_cons (s_call (xs := [_, _]) rfl rfl rfl rfl rfl rfl (by kernel_rfl) (fun w hs => enum_c ep _ bad xs 2 _ w _ _ hv hs) ?_)
  generalize eNum xs bad 2 = E
  obtain ⟨n, ys, bd⟩ := E
  dsimp only
  rintro e w' ⟨v1, rfl, hv1, hs'⟩; refine a_ret ?_ hs'; clear hs'
  refine ww ?_
  refine c_cons (s_call (xs := [_]) rfl rfl rfl rfl rfl rfl (by kernel_rfl) (fun w hs => ngoing_c ep v1 bd _ w _ _ hs) ?_)
  rintro e w' ⟨hs', ⟨hb, rfl⟩ | ⟨hb, rfl⟩⟩
  rotate_left
  · refine a_panic ?_ hs'; clear hs'
    repeat (first | refine x_then_panic ?_ | refine x_block_panic ?_)
    exact f_panic (fun w hs => ⟨v1, hv1, hs, .inl ⟨hb, rfl⟩⟩)
  refine a_ret ?_ hs'; clear hs'
  refine ww ?_
  by_cases hn : n ≤ 4000
  · rw [decide_eq_true hn]
    refine c_cons (s_call (xs := [_, _]) rfl rfl rfl rfl rfl rfl (by kernel_rfl) (fun w hs => nmust_t 3 _ w _ _ hs) ?_)
    rintro e w' ⟨rfl, hs'⟩; refine a_ret ?_ hs'; clear hs'
    refine ww ?_
    exact f_ret1 rfl rfl (fun w hs => ⟨v1, hv1, hs, .inr (.inr ⟨hb, hn, rfl⟩)⟩)
  rw [decide_eq_false hn]
  refine c_cons (s_call (xs := [_, _]) rfl rfl rfl rfl rfl rfl (by kernel_rfl) (fun w hs => nmust_f 3 _ w _ _ hs) ?_)
  rintro e w' ⟨rfl, hs'⟩
  refine a_panic ?_ hs'; clear hs'
  repeat (first | refine x_then_panic ?_ | refine x_block_panic ?_)
  exact f_panic (fun w hs => ⟨v1, hv1, hs, .inr (.inl ⟨hb, hn, rfl⟩)⟩)

theorem ncatch_n (eb : Nat) (w0 w : World) (G : Im) (F : Hp) (hs : Sat w0 w G F) :
    CallsD Try.prog 87 #[Pt eb 0] .returning w fun e u w' => (∃ r, e = .returned r) ∧ settle u = .returning ∧ Sat w0 w' G F := by
  refine q_enter (vs := [_]) Try.func87 rfl Try.ntmps87 (by simp) hs fun c₀ cs hm => ?_
  refine q_seq (q_regionL [0, 1, 2, 3, 4, 5, 6, 7] rfl ?_)
  refine q_rec_n rfl rfl rfl (by simp [recoverD, hm]) ?_
  refine q_val rfl rfl rfl rfl (v_assert_n rfl (by kernel_rfl) (z := .agg #[I64 0]) (by kernel_rfl)) ?_
  refine q_val rfl rfl rfl rfl (v_move rfl) ?_
  refine q_val rfl rfl rfl rfl (v_extract rfl rfl) ?_
  refine q_val rfl rfl rfl rfl (v_extract rfl rfl) ?_
  refine q_allocA [I64 0] rfl rfl rfl (by kernel_rfl) fun b1 => ?_
  refine q_storeA (vs := [I64 0]) rfl rfl rfl rfl .head (by kernel_rfl) (by simp [Value.oneCell']) rfl ?_
  refine q_val rfl rfl rfl rfl (v_assign rfl) ?_
  refine q_nil (q_then (q_plain ?_))
  refine ww ?_
  refine c_cond_f rfl ?_
  refine ww ?_
  exact q_end (u' := c₀.mode) rfl rfl (fun w hs => ⟨⟨_, rfl⟩, by rw [hm]; rfl, hs.sb⟩)

theorem ncatch_s (eb : Nat) (c c0 : Int) (w0 w : World) (G : Im) (F : Hp) (hs : Sat w0 w G (EcO eb c0 :: F)) :
    CallsD Try.prog 87 #[Pt eb 0] (.panicking (ngone c)) w fun e u w' => (∃ r, e = .returned r) ∧ settle u = .returning ∧ Sat w0 w' G (EcO eb c :: F) := by
  refine q_enter (vs := [_]) Try.func87 rfl Try.ntmps87 (by simp) hs fun c₀ cs hm => ?_
  refine q_seq (q_regionL [0, 1, 2, 3, 4, 5, 6, 7] rfl ?_)
  refine q_rec_s (v := .iface 116 (.agg #[I64 c])) (cs' := { c₀ with mode := .panicking (nrec c) } :: cs) rfl rfl rfl (by simp [recoverD, hm, ngone, nrec]) ?_
  refine q_val rfl rfl rfl rfl (v_assert_t rfl (by kernel_rfl)) ?_
  refine q_val rfl rfl rfl rfl (v_move rfl) ?_
  refine q_val rfl rfl rfl rfl (v_extract rfl rfl) ?_
  refine q_val rfl rfl rfl rfl (v_extract rfl rfl) ?_
  refine q_allocA [I64 0] rfl rfl rfl (by kernel_rfl) fun b1 => ?_
  refine q_storeA (vs := [I64 c]) rfl rfl rfl rfl .head (by kernel_rfl) (by simp [Value.oneCell']) rfl ?_
  refine q_val rfl rfl rfl rfl (v_assign rfl) ?_
  refine q_nil (q_then (q_plain ?_))
  refine ww ?_
  refine c_cond_t rfl ?_
  refine ww ?_
  refine c_cons (s_val (v_field 0 rfl (by kernel_rfl)) rfl rfl rfl ?_)
  refine c_cons (s_val (v_load rfl (Cel.head rfl) (by kernel_rfl)) rfl rfl rfl ?_)
  refine c_cons (s_store1 rfl rfl rfl (.tail .head) (by kernel_rfl) rfl (by simp) ?_)
  change Holds _ _ _ _ _ (EcO eb c :: _) _
  refine ww ?_
  exact q_end (u' := .panicking (nrec c)) rfl rfl (fun w hs => ⟨⟨_, rfl⟩, rfl, hs.sb⟩)

/-- What steps do, guarded: why they gave up. -/
theorem nguard_c (f : FuncId) (cap : Array Value) (hen : entersB Try.prog f = true) (Ok : Im → Hp → Prop) (Bad : Int → Im → Hp → Prop) (w0 w : World) (G : Im) (H F : Hp) (hs : Sat w0 w G (H ++ F))
    (hst : ∀ (F : Hp) (w : World), Sat w0 w G (H ++ F) → Calls Try.prog f (([] : List Value).toArray ++ cap) w fun e w' => ∃ G' H', Im.le G G' ∧ Sat w0 w' G' (H' ++ F) ∧ ((e = .returned (.tuple #[]) ∧ Ok G' H') ∨ ∃ c, e = .panicked (ngone c) ∧ Bad c G' H')) :
    Calls Try.prog 63 #[.func (.func f) #[] cap] w fun e w' => ∃ G' H', Im.le G G' ∧ Sat w0 w' G' (H' ++ F) ∧ ((e = .returned (I64 0) ∧ Ok G' H') ∨ ∃ c, e = .returned (I64 c) ∧ Bad c G' H') := by
  refine f_enterD (vs := [_]) Try.func63 rfl Try.ntmps63 (by simp) hs ?_
  refine ww ?_
  refine c_cons (s_alloc (I64 0) (by kernel_rfl) rfl rfl fun b2 => ?_)
  change Holds _ _ _ _ _ (EcO b2 0 :: (H ++ F)) _
  refine c_sub (H ++ (EcO b2 0 :: F)) sbx ?_
  refine ww ?_
  refine c_cons (s_defer rfl rfl rfl rfl ?_)
  refine wn ?_
  refine c_pq [(2, Pt b2 0)] ?_
  refine ww ?_
  refine c_cons (s_call (xs := []) rfl rfl rfl rfl rfl rfl hen (fun w hs => hst _ w hs) ?_)
  rintro e w' ⟨G', H', hG, hs', ⟨rfl, hok⟩ | ⟨c, rfl, hbad⟩⟩
  · refine a_ret ?_ hs'; clear hs'
    refine c_sub (EcO b2 0 :: (H' ++ F)) sbx ?_
    refine ww ?_
    refine c_cons (s_store1 rfl rfl rfl .head (by kernel_rfl) rfl (by simp) ?_)
    change Holds _ _ _ _ _ (EcO b2 0 :: (H' ++ F)) _
    refine ww ?_
    refine pq_ret ?_
    exact d_ret1 (by kernel_rfl) (fun w hs => ncatch_n b2 _ w _ _ hs) (fun a e y w' ht ⟨h1, h2, h3⟩ => ⟨h1, h2, _, res_c1 ht rfl rfl (by kernel_rfl) h3 (Cel.head rfl), G', H', hG, h3.tl, .inl ⟨rfl, hok⟩⟩)
  · refine a_panic ?_ hs'; clear hs'
    repeat (first | refine x_then_panic ?_ | refine x_block_panic ?_)
    refine pq_panic ⟨rfl, trivial⟩ ?_
    refine c_sub (EcO b2 0 :: (H' ++ F)) sbx ?_
    exact d_pan1 (by kernel_rfl) (fun w hs => ncatch_s b2 c 0 _ w _ _ hs) (fun a e y w' ht ⟨h1, h2, h3⟩ => ⟨h1, h2, _, res_c1 ht rfl rfl (by kernel_rfl) h3 (Cel.head rfl), G', H', hG, h3.tl, .inr ⟨c, rfl, hbad⟩⟩)
end

section
open Go
set_option linter.unusedVariables false
set_option linter.unusedSimpArgs false
set_option maxHeartbeats 1600000
/-- Why it ends, behind all. -/
def endS (ys : List UInt8) (bad : Int) : Int := if bad ≠ 0 then bad else if 0 < ys.length then 3 else 0
attribute [local irreducible] Code.wp wpList stepK Holds Val wpR Eff Eff0 Code.wpIn wpListIn stepI Exit.then Exit.inBlock bodyPost bodyPostM

theorem nread1_c (b2 b3 : Nat) (vb : Value) (xs : List UInt8) (hxl : xs.length ≤ 1000000) (f : FuncId) (cap : Array Value) (hen : entersB Try.prog f = true) (Ok : Im → Hp → List UInt8 → Int → Prop) (Bad : Int → Im → Hp → Prop) (w0 w : World) (G : Im) (H F : Hp)
    (k2 : G b2 = some (Cs [vb] 28)) (k3 : ∃ t, G b3 = some (Cs [.func (.func f) #[] cap] t)) (hvb : SV G [] vb xs.length (xs.map B8)) (hs : Sat w0 w G (H ++ F))
    (hst : ∀ (ep : Nat) (v : Value) (G1 : Im) (F : Hp) (w : World), Im.le G G1 → EB G1 v xs → Sat w0 w G1 (EyO ep v 0 :: (H ++ F)) → Calls Try.prog f (([Pt ep 0] : List Value).toArray ++ cap) w fun e w' => ∃ G' H', Im.le G1 G' ∧ ((∃ v' ys bad, EB G' v' ys ∧ Sat w0 w' G' (EyO ep v' bad :: (H' ++ F)) ∧ e = .returned (.tuple #[]) ∧ Ok G' H' ys bad) ∨ ∃ c, Sat w0 w' G' (H' ++ F) ∧ e = .panicked (ngone c) ∧ Bad c G' H')) :
    Calls Try.prog 75 #[Pt b2 0, Pt b3 0] w fun e w' => ∃ G' H', Im.le G G' ∧ Sat w0 w' G' (H' ++ F) ∧ ((e = .returned (.tuple #[]) ∧ ∃ ys bad, endS ys bad = 0 ∧ Ok G' H' ys bad) ∨ ∃ c, e = .panicked (ngone c) ∧ ((∃ ys bad, c = endS ys bad ∧ Ok G' H' ys bad) ∨ Bad c G' H')) := by
  obtain ⟨t3, k3⟩ := k3
  obtain ⟨adv, cpv, rfl⟩ := hvb.form
  refine f_enter (vs := [_, _]) Try.func75 rfl Try.ntmps75 (by simp) hs ?_
  refine ww ?_
  refine c_cons (s_val (v_load rfl (Cel.imm k2 rfl) (by kernel_rfl)) rfl rfl rfl ?_)
  refine c_cons (s_call (xs := [_]) rfl rfl rfl rfl rfl rfl (by kernel_rfl) (fun w hs => newEye_c _ xs hxl _ w _ _ hvb hs) ?_)
  rintro e w' ⟨G3, ep, v3, rfl, hG3, hv3, hs'⟩; refine a_ret ?_ hs'; clear hs'
  replace k3 := hG3 _ _ k3
  refine ww ?_
  refine c_cons (s_val (v_load rfl (Cel.imm k3 rfl) (by kernel_rfl)) rfl rfl rfl ?_)
  refine ww ?_
  refine c_cons (s_call (xs := [_]) rfl rfl rfl rfl rfl rfl hen (fun w hs => hst ep v3 G3 F w hG3 hv3 hs) ?_)
  rintro e w' ⟨G', H', hG, ⟨v', ys, bad, hv', hs', rfl, hok⟩ | ⟨c, hs', rfl, hbad⟩⟩
  rotate_left
  · refine a_panic ?_ hs'; clear hs'
    repeat (first | refine x_then_panic ?_ | refine x_block_panic ?_)
    exact f_panic (fun w hs => ⟨G', H', hG3.trans hG, hs, .inr ⟨c, rfl, .inr hbad⟩⟩)
  refine a_ret ?_ hs'; clear hs'
  refine ww ?_
  refine c_cons (s_call (xs := [_]) rfl rfl rfl rfl rfl rfl (by kernel_rfl) (fun w hs => eend_c ep v' bad ys _ w _ _ hv' hs) ?_)
  rintro e w' ⟨rfl, hs'⟩; refine a_ret ?_ hs'; clear hs'
  refine ww ?_
  refine c_cons (s_call (xs := [_]) rfl rfl rfl rfl rfl rfl (by kernel_rfl) (fun w hs => eend_c ep v' bad ys _ w _ _ hv' hs) ?_)
  rintro e w' ⟨rfl, hs'⟩; refine a_ret ?_ hs'; clear hs'
  by_cases h0 : endS ys bad = 0
  · rw [decide_eq_true (show (if bad ≠ 0 then bad else if 0 < ys.length then 3 else 0) = (0 : Int) from h0)]
    refine c_cons (s_call (xs := [_, _]) rfl rfl rfl rfl rfl rfl (by kernel_rfl) (fun w hs => nmust_t _ _ w _ _ hs) ?_)
    rintro e w' ⟨rfl, hs'⟩; refine a_ret ?_ hs'; clear hs'
    refine ww ?_
    exact f_end0 rfl (fun w hs => ⟨G', H', hG3.trans hG, hs.tl, .inl ⟨rfl, ys, bad, h0, hok⟩⟩)
  rw [decide_eq_false (show ¬ (if bad ≠ 0 then bad else if 0 < ys.length then 3 else 0) = (0 : Int) from h0)]
  refine c_cons (s_call (xs := [_, _]) rfl rfl rfl rfl rfl rfl (by kernel_rfl) (fun w hs => nmust_f _ _ w _ _ hs) ?_)
  rintro e w' ⟨rfl, hs'⟩
  refine a_panic ?_ hs'; clear hs'
  repeat (first | refine x_then_panic ?_ | refine x_block_panic ?_)
  exact f_panic (fun w hs => ⟨G', H', hG3.trans hG, hs.tl, .inr ⟨_, rfl, .inl ⟨ys, bad, rfl, hok⟩⟩⟩)

theorem nread_c (vb : Value) (xs : List UInt8) (hxl : xs.length ≤ 1000000) (f : FuncId) (cap : Array Value) (hen : entersB Try.prog f = true) (Ok : Im → Hp → List UInt8 → Int → Prop) (Bad : Int → Im → Hp → Prop) (w0 w : World) (G : Im) (H F : Hp)
    (hvb : SV G [] vb xs.length (xs.map B8)) (hs : Sat w0 w G (H ++ F))
    (hst : ∀ (ep : Nat) (v : Value) (G1 : Im) (F : Hp) (w : World), Im.le G G1 → EB G1 v xs → Sat w0 w G1 (EyO ep v 0 :: (H ++ F)) → Calls Try.prog f (([Pt ep 0] : List Value).toArray ++ cap) w fun e w' => ∃ G' H', Im.le G1 G' ∧ ((∃ v' ys bad, EB G' v' ys ∧ Sat w0 w' G' (EyO ep v' bad :: (H' ++ F)) ∧ e = .returned (.tuple #[]) ∧ Ok G' H' ys bad) ∨ ∃ c, Sat w0 w' G' (H' ++ F) ∧ e = .panicked (ngone c) ∧ Bad c G' H')) :
    Calls Try.prog 40 #[vb, .func (.func f) #[] cap] w fun e w' => ∃ G' H', Im.le G G' ∧ Sat w0 w' G' (H' ++ F) ∧ ((∃ ys bad, e = .returned (I64 (endS ys bad)) ∧ Ok G' H' ys bad) ∨ ∃ c, e = .returned (I64 c) ∧ Bad c G' H') := by
  obtain ⟨adv, cpv, rfl⟩ := hvb.form
  refine f_enter (vs := [_, _]) Try.func40 rfl Try.ntmps40 (by simp) hs ?_
  refine ww ?_
  refine c_cons (s_box rfl rfl rfl fun b2 => ?_)
  refine c_freeze .head fun G1 hG1 k2 => ?_
  refine c_cons (s_box rfl rfl rfl fun b3 => ?_)
  refine c_freeze .head fun G2 hG2 k3 => ?_
  replace k2 := hG2 _ _ k2
  have hGa := hG1.trans hG2
  have hvb2 := hvb.mono (H' := []) hGa (fun p hp => hp)
  refine ww ?_
  refine c_cons (s_call (xs := [_]) rfl rfl rfl rfl rfl rfl (by kernel_rfl) (fun w hs => nguard_c 75 #[Pt b2 0, Pt b3 0] (by kernel_rfl) (fun G' H' => ∃ ys bad, endS ys bad = 0 ∧ Ok G' H' ys bad) (fun c G' H' => (∃ ys bad, c = endS ys bad ∧ Ok G' H' ys bad) ∨ Bad c G' H') _ w G2 H F hs (fun F w hs => nread1_c b2 b3 _ xs hxl f cap hen Ok Bad w0 w G2 H F k2 ⟨_, k3⟩ hvb2 hs (fun ep v G1 F w hle hv hs => hst ep v G1 F w (hGa.trans hle) hv hs))) ?_)
  rintro e w' ⟨G', H', hG, hs', ⟨rfl, ys, bad, h0, hok⟩ | ⟨c, rfl, ⟨ys, bad, rfl, hok⟩ | hbad⟩⟩
  · refine a_ret ?_ hs'; clear hs'
    refine ww ?_
    exact f_ret1 rfl rfl (fun w hs => ⟨G', H', hGa.trans hG, hs, .inl ⟨ys, bad, by rw [h0], hok⟩⟩)
  · refine a_ret ?_ hs'; clear hs'
    refine ww ?_
    exact f_ret1 rfl rfl (fun w hs => ⟨G', H', hGa.trans hG, hs, .inl ⟨ys, bad, rfl, hok⟩⟩)
  · refine a_ret ?_ hs'; clear hs'
    refine ww ?_
    exact f_ret1 rfl rfl (fun w hs => ⟨G', H', hGa.trans hG, hs, .inr ⟨c, rfl, hbad⟩⟩)
end

section
open Go
set_option linter.unusedVariables false
set_option linter.unusedSimpArgs false
set_option maxHeartbeats 1600000
/-- What a pen says that it wrote. -/
def outS (s : Pn) : List UInt8 := if s.2 = 0 then s.1 else []
attribute [local irreducible] Code.wp wpList stepK Holds Val wpR Eff Eff0 Code.wpIn wpListIn stepI Exit.then Exit.inBlock bodyPost bodyPostM

theorem nwrit1_c (b2 b3 : Nat) (f : FuncId) (cap : Array Value) (hen : entersB Try.prog f = true) (Ok : Im → Hp → Pn → Prop) (Bad : Int → Im → Hp → Prop) (hmo : ∀ G1 G2 H s, Im.le G1 G2 → Ok G1 H s → Ok G2 H s) (w0 w : World) (G : Im) (H F : Hp)
    (k3 : ∃ t, G b2 = some (Cs [.func (.func f) #[] cap] t)) (hs : Sat w0 w G ((b3, Cs [.slice none 0 0] 28) :: (H ++ F)))
    (hst : ∀ (pn : Nat) (F : Hp) (w : World), Sat w0 w G (PnO pn (.slice none 0 0) 0 :: (H ++ F)) → Calls Try.prog f (([Pt pn 0] : List Value).toArray ++ cap) w fun e w' => ∃ G' H', Im.le G G' ∧ ((∃ v' s B', s.1.length ≤ 65536 ∧ OB v' s.1 B' ∧ Sat w0 w' G' (PnO pn v' s.2 :: (B' ++ (H' ++ F))) ∧ e = .returned (.tuple #[]) ∧ Ok G' H' s) ∨ ∃ c, Sat w0 w' G' (H' ++ F) ∧ e = .panicked (ngone c) ∧ Bad c G' H')) :
    Calls Try.prog 64 #[Pt b2 0, Pt b3 0] w fun e w' => ∃ G' H', Im.le G G' ∧ ((∃ s u, s.2 = 0 ∧ Ok G' H' s ∧ e = .returned (.tuple #[]) ∧ SV G' [] u s.1.length (s.1.map B8) ∧ Sat w0 w' G' ((b3, Cs [u] 28) :: (H' ++ F))) ∨ (∃ s, s.2 ≠ 0 ∧ Ok G' H' s ∧ e = .panicked (ngone s.2) ∧ Sat w0 w' G' ((b3, Cs [.slice none 0 0] 28) :: (H' ++ F))) ∨ ∃ c, Bad c G' H' ∧ e = .panicked (ngone c) ∧ Sat w0 w' G' ((b3, Cs [.slice none 0 0] 28) :: (H' ++ F))) := by
  obtain ⟨t3, k3⟩ := k3
  refine f_enter (vs := [_, _]) Try.func64 rfl Try.ntmps64 (by simp) hs ?_
  refine ww ?_
  refine c_cons (s_val (v_build (ps := []) #[.slice none 0 0, I64 0] rfl (by kernel_rfl)) rfl rfl rfl ?_)
  refine c_cons (s_boxA [.slice none 0 0, I64 0] rfl rfl rfl fun pn => ?_)
  change Holds _ _ _ _ _ (PnO pn (.slice none 0 0) 0 :: (b3, Cs [.slice none 0 0] 28) :: (H ++ F)) _
  refine c_sub (PnO pn (.slice none 0 0) 0 :: (H ++ ((b3, Cs [.slice none 0 0] 28) :: F))) sbx ?_
  refine ww ?_
  refine c_cons (s_val (v_load rfl (Cel.imm k3 rfl) (by kernel_rfl)) rfl rfl rfl ?_)
  refine ww ?_
  refine c_cons (s_call (xs := [_]) rfl rfl rfl rfl rfl rfl hen (fun w hs => hst pn ((b3, Cs [.slice none 0 0] 28) :: F) w hs) ?_)
  rintro e w' ⟨G', H', hG, ⟨v', s, B', hl, hob, hs', rfl, hok⟩ | ⟨c, hs', rfl, hbad⟩⟩
  rotate_left
  · refine a_panic ?_ hs'; clear hs'
    repeat (first | refine x_then_panic ?_ | refine x_block_panic ?_)
    exact f_panic (fun w hs => ⟨G', H', hG, .inr (.inr ⟨c, hbad, rfl, hs.sb⟩)⟩)
  refine a_ret ?_ hs'; clear hs'
  refine ww ?_
  have hys : (if s.2 ≠ 0 then [] else s.1) = outS s := by
    unfold outS
    by_cases h0 : s.2 = 0
    · rw [if_neg (by simpa using h0), if_pos h0]
    · rw [if_pos h0, if_neg h0]
  refine c_cons (s_call (xs := [_]) rfl rfl rfl rfl rfl rfl (by kernel_rfl) (fun w hs => pbytes_c pn v' s B' hl _ w _ _ hob hs) ?_)
  rw [hys]
  rintro e w' ⟨G2, u, rfl, hG2, hu, hs'⟩; refine a_ret ?_ hs'; clear hs'
  have hok2 := hmo _ _ _ _ hG2 hok
  obtain ⟨adu, cpu, rfl⟩ := (show SV G2 [] u _ _ from hu).form
  refine ww ?_
  by_cases h0 : s.2 = 0
  · have e0 : outS s = s.1 := if_pos h0
    rw [e0] at hu ⊢
    rw [decide_eq_true h0]
    refine c_cons (s_call (xs := [_, _]) rfl rfl rfl rfl rfl rfl (by kernel_rfl) (fun w hs => nmust_t _ _ w _ _ hs) ?_)
    rintro e w' ⟨rfl, hs'⟩; refine a_ret ?_ hs'; clear hs'
    refine c_sub ((b3, Cs [.slice none 0 0] 28) :: (H' ++ F)) sbx ?_
    refine ww ?_
    refine c_cons (s_store1 rfl rfl rfl .head (by kernel_rfl) rfl (by simp) ?_)
    refine ww ?_
    exact f_end0 rfl (fun w hs => ⟨G2, H', hG.trans hG2, .inl ⟨s, _, h0, hok2, rfl, hu, hs⟩⟩)
  rw [decide_eq_false h0]
  refine c_cons (s_call (xs := [_, _]) rfl rfl rfl rfl rfl rfl (by kernel_rfl) (fun w hs => nmust_f _ _ w _ _ hs) ?_)
  rintro e w' ⟨rfl, hs'⟩
  refine a_panic ?_ hs'; clear hs'
  repeat (first | refine x_then_panic ?_ | refine x_block_panic ?_)
  exact f_panic (fun w hs => ⟨G2, H', hG.trans hG2, .inr (.inl ⟨s, h0, hok2, rfl, hs.sb⟩)⟩)

theorem nwritten_c (f : FuncId) (cap : Array Value) (hen : entersB Try.prog f = true) (Ok : Im → Hp → Pn → Prop) (Bad : Int → Im → Hp → Prop) (hmo : ∀ G1 G2 H s, Im.le G1 G2 → Ok G1 H s → Ok G2 H s) (w0 w : World) (G : Im) (H F : Hp) (hs : Sat w0 w G (H ++ F))
    (hst : ∀ (pn : Nat) (G1 : Im) (F : Hp) (w : World), Im.le G G1 → Sat w0 w G1 (PnO pn (.slice none 0 0) 0 :: (H ++ F)) → Calls Try.prog f (([Pt pn 0] : List Value).toArray ++ cap) w fun e w' => ∃ G' H', Im.le G1 G' ∧ ((∃ v' s B', s.1.length ≤ 65536 ∧ OB v' s.1 B' ∧ Sat w0 w' G' (PnO pn v' s.2 :: (B' ++ (H' ++ F))) ∧ e = .returned (.tuple #[]) ∧ Ok G' H' s) ∨ ∃ c, Sat w0 w' G' (H' ++ F) ∧ e = .panicked (ngone c) ∧ Bad c G' H')) :
    Calls Try.prog 23 #[.func (.func f) #[] cap] w fun e w' => ∃ G' H', Im.le G G' ∧ Sat w0 w' G' (H' ++ F) ∧ ((∃ s u, e = .returned (.tuple #[u, I64 s.2]) ∧ Ok G' H' s ∧ SV G' [] u (outS s).length ((outS s).map B8)) ∨ ∃ c, e = .returned (.tuple #[.slice none 0 0, I64 c]) ∧ Bad c G' H') := by
  refine f_enter (vs := [_]) Try.func23 rfl Try.ntmps23 (by simp) hs ?_
  refine ww ?_
  refine c_cons (s_box rfl rfl rfl fun b1 => ?_)
  refine c_freeze .head fun G1 hG1 k1 => ?_
  refine ww ?_
  refine c_cons (s_alloc (.slice none 0 0) (by kernel_rfl) rfl rfl fun b4 => ?_)
  change Holds _ _ _ _ _ (((b4, Cs [.slice none 0 0] 28) :: H) ++ F) _
  refine ww ?_
  refine c_cons (s_call (xs := [_]) rfl rfl rfl rfl rfl rfl (by kernel_rfl) (fun w hs => nguard_c 64 #[Pt b1 0, Pt b4 0] (by kernel_rfl)
    (fun G' H'' => ∃ (s : Pn) (u : Value) (H' : Hp), s.2 = 0 ∧ Ok G' H' s ∧ SV G' [] u s.1.length (s.1.map B8) ∧ H'' = (b4, Cs [u] 28) :: H')
    (fun c G' H'' => ∃ H', H'' = (b4, Cs [.slice none 0 0] 28) :: H' ∧ ((∃ s : Pn, s.2 ≠ 0 ∧ c = s.2 ∧ Ok G' H' s) ∨ Bad c G' H')) _ w G1 ((b4, Cs [.slice none 0 0] 28) :: H) F hs
    (fun F w hs => (nwrit1_c b1 b4 f cap hen Ok Bad hmo w0 w G1 H F ⟨_, k1⟩ hs (fun pn F w hs => hst pn G1 F w hG1 hs)).mono (by
      rintro e w' ⟨G', H', hG, ⟨s, u, h0, hok, rfl, hu, hs'⟩ | ⟨s, h0, hok, rfl, hs'⟩ | ⟨c, hbad, rfl, hs'⟩⟩
      · exact ⟨G', _, hG, hs', .inl ⟨rfl, s, u, H', h0, hok, hu, rfl⟩⟩
      · exact ⟨G', (b4, Cs [.slice none 0 0] 28) :: H', hG, hs', .inr ⟨_, rfl, H', rfl, .inl ⟨s, h0, rfl, hok⟩⟩⟩
      · exact ⟨G', (b4, Cs [.slice none 0 0] 28) :: H', hG, hs', .inr ⟨c, rfl, H', rfl, .inr hbad⟩⟩))) ?_)
  rintro e w' ⟨G', H'', hG, hs', ⟨rfl, s, u, H', h0, hok, hu, rfl⟩ | ⟨c, rfl, H', rfl, hc⟩⟩
  · refine a_ret ?_ hs'; clear hs'
    have e0 : outS s = s.1 := if_pos h0
    change Holds _ _ _ _ _ ((b4, Cs [u] 28) :: (H' ++ F)) _
    refine ww ?_
    refine c_cons (s_val (v_load rfl (Cel.head rfl) (by kernel_rfl)) rfl rfl rfl ?_)
    refine ww ?_
    exact f_ret2 rfl rfl rfl (fun w hs => ⟨G', H', hG1.trans hG, hs.tl, .inl ⟨s, u, by rw [h0], hok, by rw [e0]; exact hu⟩⟩)
  · refine a_ret ?_ hs'; clear hs'
    change Holds _ _ _ _ _ ((b4, Cs [.slice none 0 0] 28) :: (H' ++ F)) _
    refine ww ?_
    refine c_cons (s_val (v_load rfl (Cel.head rfl) (by kernel_rfl)) rfl rfl rfl ?_)
    refine ww ?_
    rcases hc with ⟨s, h0, rfl, hok⟩ | hbad
    · have e0 : outS s = [] := if_neg h0
      exact f_ret2 rfl rfl rfl (fun w hs => ⟨G', H', hG1.trans hG, hs.tl, .inl ⟨s, _, rfl, hok, by rw [e0]; exact SV.nil _ _⟩⟩)
    · exact f_ret2 rfl rfl rfl (fun w hs => ⟨G', H', hG1.trans hG, hs.tl, .inr ⟨c, rfl, hbad⟩⟩)
end

section
open Go
set_option linter.unusedVariables false
/-- A stripe and how many bytes it has. -/
structure Sz where
  c : Int
  l : Int
  n : Int
  z : Int
structure Nq where
  c : Int
  l : Int
  s : Int
  d : Int
  p : List UInt8
  t : List UInt8
  a : Bool
  b : Bool
  e : Bool
  h : Int
  x : Int
  w : Int
  ss : List Sz
  ds : List Dl
def pstr (s : Pn) (x : Sz) : Pn := pnum (pnum (pnum s x.c 1) x.l 3) x.n 4
def psz (s : Pn) (x : Sz) : Pn := pnum (pstr s x) x.z 2
def pnqH (s : Pn) (q : Nq) : Pn :=
  pnum (pnum (pnum (pbool (pbool (pbool (praw (praw (pnum (pnum (pnum (pnum s q.c 1) q.l 3) q.s 4) q.d 1) q.p) q.t) q.a) q.b) q.e) q.h 1) q.x 4) q.w 3
def pnqS (s : Pn) (q : Nq) : Pn := q.ss.foldl psz (pnum s q.ss.length 2)
def pnqD (s : Pn) (q : Nq) : Pn := q.ds.foldl pdl (pnum s q.ds.length 2)
def pnq (q : Nq) : Pn := pnqD (pnqS (pnqH ([], 0) q) q) q
/-- A request's bytes, or why not. -/
def encQ (q : Nq) : Pn :=
  if ¬ (1 ≤ q.d ∧ q.d ≤ 11) then ([], 1) else if ¬ ∀ x ∈ q.ds, mayDl x then ([], 1) else if 4000 < q.ss.length ∨ 4000 < q.ds.length then ([], 3) else pnq q
theorem psz_len {s : Pn} (h : s.1.length ≤ 65536) (x : Sz) : (psz s x).1.length ≤ 65536 := pnum_len (pnum_len (pnum_len (pnum_len h _ _) _ _) _ _) _ _
theorem fold_len {α : Type} {f : Pn → α → Pn} (hf : ∀ s x, s.1.length ≤ 65536 → (f s x).1.length ≤ 65536) : ∀ (l : List α) (s : Pn), s.1.length ≤ 65536 → (l.foldl f s).1.length ≤ 65536
  | [], s, h => h
  | x :: l, s, h => fold_len hf l (f s x) (hf s x h)
end

section
open Go
set_option linter.unusedVariables false
set_option linter.unusedSimpArgs false
set_option maxHeartbeats 1600000
set_option maxRecDepth 4000
def DlR (G : Im) (c : List Value) (x : Dl) : Prop := c = x.cells
theorem DlR.up : Up DlR := fun _ _ _ _ _ h => h
abbrev Sz.cells (x : Sz) : List Value := [I64 x.c, I64 x.l, I64 x.n, I64 x.z]
def SzR (G : Im) (c : List Value) (x : Sz) : Prop := c = x.cells
theorem SzR.up : Up SzR := fun _ _ _ _ _ h => h
theorem str_at (x : Sz) (j : Nat) (u : Value) (hj : [I64 x.c, I64 x.l, I64 x.n][j]? = some u) : x.cells[0 + 0 + j]? = some u := by
  match j, hj with
  | 0, k => exact k
  | 1, k => exact k
  | 2, k => exact k
  | n + 3, k => simp at k
abbrev Zd : List Value := [I64 0, I64 0, I64 0, I64 0, I64 0, I64 0, I64 0, I64 0, I64 0, I64 0, I64 0, I64 0, I64 0, I64 0]
abbrev Nq.cells (q : Nq) (vs vd : Value) : List Value := [I64 q.c, I64 q.l, I64 q.s, I64 q.d, St q.p, St q.t, .bool q.a, .bool q.b, .bool q.e, I64 q.h, I64 q.x, I64 q.w, vs, vd]
attribute [local irreducible] Code.wp wpList stepK Holds Val wpR Eff Eff0 Code.wpIn wpListIn stepI Exit.then Exit.inBlock bodyPost bodyPostM

theorem nkind_c (x : Int) (w0 w : World) (G : Im) (F : Hp) (hs : Sat w0 w G F) :
    Calls Try.prog 26 #[I64 x] w fun e w' => e = .returned (.bool (decide (1 ≤ x ∧ x ≤ 11))) ∧ Sat w0 w' G F := by
  refine f_enter (vs := [_]) Try.func26 rfl Try.ntmps26 (by simp) hs ?_
  refine ww ?_
  refine c_part_d 5 _ rfl (fun c1 => ?_) (fun c1 => ?_)
  · refine ww ?_
    exact f_ret1 rfl rfl (fun w hs => ⟨by
      have e : decide (x ≤ 11) = decide (1 ≤ x ∧ x ≤ 11) := decide_eq_decide.2 ⟨fun h => ⟨by omega, h⟩, fun h => h.2⟩
      rw [← e], hs⟩)
  refine ww ?_
  exact f_ret1 rfl rfl (fun w hs => ⟨by rw [decide_eq_false (show ¬ (1 ≤ x ∧ x ≤ 11) from fun h => c1 (by omega))], hs⟩)

theorem nstripe_c (pn : Nat) (v : Value) (s : Pn) (B : Hp) (x : Sz) (hlen : s.1.length ≤ 65536) (w0 w : World) (G : Im) (F : Hp) (hown : OB v s.1 B) (hs : Sat w0 w G (PnO pn v s.2 :: (B ++ F))) :
    Calls Try.prog 31 #[Pt pn 0, .agg #[I64 x.c, I64 x.l, I64 x.n]] w fun e w' => ∃ G' v' B', e = .returned (.tuple #[]) ∧ Im.le G G' ∧ OB v' (pstr s x).1 B' ∧ Sat w0 w' G' (PnO pn v' (pstr s x).2 :: (B' ++ F)) := by
  have l1 := pnum_len hlen x.c 1
  have l2 := pnum_len l1 x.l 3
  refine f_enter (vs := [_, _]) Try.func31 rfl Try.ntmps31 (by simp) hs ?_
  refine ww ?_
  refine c_cons (s_boxA [_, _, _] rfl rfl rfl fun b1 => ?_)
  refine c_freeze .head fun G1 hG1 k1 => ?_
  refine ww ?_
  refine c_cons (s_val (v_field 0 rfl (by kernel_rfl)) rfl rfl rfl ?_)
  refine c_cons (s_val (v_load rfl (Cel.imm k1 rfl) (by kernel_rfl)) rfl rfl rfl ?_)
  refine c_cons (s_call (xs := [_, _, _]) rfl rfl rfl rfl rfl rfl (by kernel_rfl) (fun w hs => pnum_c pn _ s B x.c 1 hlen _ w _ _ hown hs) ?_)
  rintro e w' ⟨v1, B1, rfl, hown1, hs'⟩; refine a_ret ?_ hs'; clear hs'
  refine ww ?_
  refine c_cons (s_val (v_field 1 rfl (by kernel_rfl)) rfl rfl rfl ?_)
  refine c_cons (s_val (v_load rfl (Cel.imm k1 rfl) (by kernel_rfl)) rfl rfl rfl ?_)
  refine c_cons (s_call (xs := [_, _, _]) rfl rfl rfl rfl rfl rfl (by kernel_rfl) (fun w hs => pnum_c pn _ _ B1 x.l 3 l1 _ w _ _ hown1 hs) ?_)
  rintro e w' ⟨v2, B2, rfl, hown2, hs'⟩; refine a_ret ?_ hs'; clear hs'
  refine ww ?_
  refine c_cons (s_val (v_field 2 rfl (by kernel_rfl)) rfl rfl rfl ?_)
  refine c_cons (s_val (v_load rfl (Cel.imm k1 rfl) (by kernel_rfl)) rfl rfl rfl ?_)
  refine c_cons (s_call (xs := [_, _, _]) rfl rfl rfl rfl rfl rfl (by kernel_rfl) (fun w hs => pnum_c pn _ _ B2 x.n 4 l2 _ w _ _ hown2 hs) ?_)
  rintro e w' ⟨v3, B3, rfl, hown3, hs'⟩; refine a_ret ?_ hs'; clear hs'
  refine ww ?_
  exact f_end0 rfl (fun w hs => ⟨G1, v3, B3, rfl, hG1, hown3, hs⟩)

theorem nenc1_c (q : Nq) (hpl : q.p.length ≤ 1000000) (htl : q.t.length ≤ 1000000) (b1 pn : Nat) (vs vd : Value) (w0 w : World) (G : Im) (F : Hp) (k1 : G b1 = some (Cs (q.cells vs vd) 37)) (hss : RecV 4 SzR G vs q.ss) (hds : RecV 14 DlR G vd q.ds) (hs : Sat w0 w G (PnO pn (.slice none 0 0) 0 :: F)) :
    Calls Try.prog 24 #[Pt pn 0, Pt b1 0] w fun e w' => ∃ G', Im.le G G' ∧ ((∃ v' B', e = .returned (.tuple #[]) ∧ encQ q = pnq q ∧ (pnq q).1.length ≤ 65536 ∧ OB v' (pnq q).1 B' ∧ Sat w0 w' G' (PnO pn v' (pnq q).2 :: (B' ++ F))) ∨ ∃ c, e = .panicked (ngone c) ∧ c ≠ 0 ∧ encQ q = ([], c) ∧ Sat w0 w' G' F) := by
  obtain ⟨ads, cps, rfl, hs1, hs2⟩ := hss.form
  obtain ⟨add, cpd, rfl, hd1, hd2⟩ := hds.form
  unfold maxLen at hs2 hd2
  refine f_enter (vs := [_, _]) Try.func24 rfl Try.ntmps24 (by simp) hs ?_
  refine ww ?_
  refine c_cons (s_val (v_field 3 rfl (by kernel_rfl)) rfl rfl rfl ?_)
  refine c_cons (s_val (v_load rfl (Cel.imm k1 rfl) (by kernel_rfl)) rfl rfl rfl ?_)
  refine c_cons (s_call (xs := [_]) rfl rfl rfl rfl rfl rfl (by kernel_rfl) (fun w hs => nkind_c _ _ w _ _ hs) ?_)
  rintro e w' ⟨rfl, hs'⟩; refine a_ret ?_ hs'; clear hs'
  by_cases hk : 1 ≤ q.d ∧ q.d ≤ 11
  rotate_left
  · have e1 : encQ q = ([], 1) := if_pos hk
    rw [decide_eq_false hk]
    refine c_cons (s_call (xs := [_, _]) rfl rfl rfl rfl rfl rfl (by kernel_rfl) (fun w hs => nmust_f 1 _ w _ _ hs) ?_)
    rintro e w' ⟨rfl, hs'⟩
    refine a_panic ?_ hs'; clear hs'
    repeat (first | refine x_then_panic ?_ | refine x_block_panic ?_)
    exact f_panic (fun w hs => ⟨_, Im.le_refl _, .inr ⟨1, rfl, by decide, e1, hs.tl⟩⟩)
  rw [decide_eq_true hk]
  refine c_cons (s_call (xs := [_, _]) rfl rfl rfl rfl rfl rfl (by kernel_rfl) (fun w hs => nmust_t 1 _ w _ _ hs) ?_)
  rintro e w' ⟨rfl, hs'⟩; refine a_ret ?_ hs'; clear hs'
  refine ww ?_
  refine c_cons (s_val (v_field 13 rfl (by kernel_rfl)) rfl rfl rfl ?_)
  refine c_cons (s_val (v_load rfl (Cel.imm k1 rfl) (by kernel_rfl)) rfl rfl rfl ?_)
  refine ww ?_
  refine c_loop (α := Nat) (fun x => [(0, Pt pn 0), (1, Pt b1 0), (14, .slice add q.ds.length cpd), (15, I64 q.ds.length), (16, I64 x)]) (fun _ => G) (fun x => PnO pn (.slice none 0 0) 0 :: F) (fun x => x ≤ q.ds.length ∧ ∀ y ∈ q.ds.take x, mayDl y) (fun x => q.ds.length - x) 0 ⟨Nat.zero_le _, by simp⟩ ?_ ?_
  · exact n_at ⟨rfl, rfl, rfl, rfl, rfl, trivial⟩ sbx
  rintro i ⟨hi, hall⟩
  refine ww ?_
  refine c_cond_d rfl (fun c1 => ?_) (fun c1 => ?_)
  · -- then
    have hil : i < q.ds.length := by omega
    obtain ⟨blx, olx, clx, cellsx, hvex, hcex, _, hcelx⟩ := hds.at (by decide) i (by omega)
    cases hvex
    obtain ⟨x, hxx⟩ : ∃ x, x = q.ds[i] := ⟨_, rfl⟩
    rw [← hxx] at hcex
    unfold DlR at hcex
    subst hcex
    have hcx : ∀ (H : Hp) (f : Nat) u, x.cells[f]? = some u → Cel G H blx (olx + (i : Int).toNat * 14 + f) u := fun H f u h => by rw [Int.toNat_natCast]; exact hcelx H f u h
    refine ww ?_
    refine c_cons (s_val (v_index 14 rfl rfl (by kernel_rfl) (by omega)) rfl rfl rfl ?_)
    refine c_cons (s_val (v_loadAgg (vs := x.cells) rfl (by kernel_rfl) (by kernel_rfl) rfl (fun j u hj => hcx _ j u hj)) rfl rfl rfl ?_)
    refine c_cons (s_allocA Zd (by kernel_rfl) rfl rfl fun b2 => ?_)
    refine c_cons (s_storeA (vs := x.cells) rfl rfl rfl .head (by kernel_rfl) (by simp [Value.oneCell']) rfl ?_)
    refine ww ?_
    refine c_cons (s_val (v_loadAgg (vs := x.cells) rfl (by kernel_rfl) (by kernel_rfl) rfl (fun j u hj => (Cel.all hj))) rfl rfl rfl ?_)
    refine c_cons (s_call (xs := [_]) rfl rfl rfl rfl rfl rfl (by kernel_rfl) (fun w hs => dmay_c x _ w _ _ hs) ?_)
    rintro e w' ⟨rfl, hs'⟩; refine a_ret ?_ hs'; clear hs'
    by_cases hm : mayDl x
    rotate_left
    · have e1 : encQ q = ([], 1) := by
        unfold encQ
        rw [if_neg (fun h => h hk), if_pos (fun h => hm (by rw [hxx]; exact h _ (List.getElem_mem hil)))]
      rw [decide_eq_false hm]
      refine c_cons (s_call (xs := [_, _]) rfl rfl rfl rfl rfl rfl (by kernel_rfl) (fun w hs => nmust_f 1 _ w _ _ hs) ?_)
      rintro e w' ⟨rfl, hs'⟩
      refine a_panic ?_ hs'; clear hs'
      repeat (first | refine x_then_panic ?_ | refine x_block_panic ?_)
      exact f_panic (fun w hs => ⟨_, Im.le_refl _, .inr ⟨1, rfl, by decide, e1, hs.sb⟩⟩)
    rw [decide_eq_true hm]
    refine c_cons (s_call (xs := [_, _]) rfl rfl rfl rfl rfl rfl (by kernel_rfl) (fun w hs => nmust_t 1 _ w _ _ hs) ?_)
    rintro e w' ⟨rfl, hs'⟩; refine a_ret ?_ hs'; clear hs'
    refine ww ?_
    exact n_next (x := i) (i + 1) ⟨by omega, fun y hy => by
      rw [List.take_add_one, List.getElem?_eq_getElem hil] at hy
      rcases List.mem_append.1 hy with hy | hy
      · exact hall y hy
      · simp only [Option.toList, List.mem_singleton] at hy
        rw [hy, ← hxx]; exact hm⟩ (by omega) ⟨rfl, rfl, rfl, rfl, rfl, trivial⟩ rfl sbx
  have e : i = q.ds.length := by omega
  subst e
  rw [List.take_length] at hall
  refine ww ?_
  refine c_cons (s_val (v_field 12 rfl (by kernel_rfl)) rfl rfl rfl ?_)
  refine c_cons (s_val (v_load rfl (Cel.imm k1 rfl) (by kernel_rfl)) rfl rfl rfl ?_)
  refine ww ?_
  by_cases h4 : q.ss.length ≤ 4000 ∧ q.ds.length ≤ 4000
  rotate_left
  · have e3 : encQ q = ([], 3) := by
      unfold encQ
      rw [if_neg (fun h => h hk), if_neg (fun h => h hall), if_pos (by omega)]
    refine c_part_d 28 _ rfl (fun c2 => ?_) (fun c2 => ?_)
    · refine ww ?_
      refine c_cons (s_val (v_field 13 rfl (by kernel_rfl)) rfl rfl rfl ?_)
      refine c_cons (s_val (v_load rfl (Cel.imm k1 rfl) (by kernel_rfl)) rfl rfl rfl ?_)
      refine ww ?_
      rw [decide_eq_false (show ¬ (q.ds.length : Int) ≤ 4000 by omega)]
      refine c_cons (s_call (xs := [_, _]) rfl rfl rfl rfl rfl rfl (by kernel_rfl) (fun w hs => nmust_f 3 _ w _ _ hs) ?_)
      rintro e w' ⟨rfl, hs'⟩
      refine a_panic ?_ hs'; clear hs'
      repeat (first | refine x_then_panic ?_ | refine x_block_panic ?_)
      exact f_panic (fun w hs => ⟨_, Im.le_refl _, .inr ⟨3, rfl, by decide, e3, hs.sb⟩⟩)
    · refine ww ?_
      refine c_cons (s_call (xs := [_, _]) rfl rfl rfl rfl rfl rfl (by kernel_rfl) (fun w hs => nmust_f 3 _ w _ _ hs) ?_)
      rintro e w' ⟨rfl, hs'⟩
      refine a_panic ?_ hs'; clear hs'
      repeat (first | refine x_then_panic ?_ | refine x_block_panic ?_)
      exact f_panic (fun w hs => ⟨_, Im.le_refl _, .inr ⟨3, rfl, by decide, e3, hs.sb⟩⟩)
  have e4 : encQ q = pnq q := by
    unfold encQ
    rw [if_neg (fun h => h hk), if_neg (fun h => h hall), if_neg (by omega)]
  refine c_kt 28 rfl (show (q.ss.length : Int) ≤ 4000 by omega) ?_
  refine ww ?_
  refine c_cons (s_val (v_field 13 rfl (by kernel_rfl)) rfl rfl rfl ?_)
  refine c_cons (s_val (v_load rfl (Cel.imm k1 rfl) (by kernel_rfl)) rfl rfl rfl ?_)
  refine ww ?_
  rw [decide_eq_true (show (q.ds.length : Int) ≤ 4000 by omega)]
  refine c_cons (s_call (xs := [_, _]) rfl rfl rfl rfl rfl rfl (by kernel_rfl) (fun w hs => nmust_t 3 _ w _ _ hs) ?_)
  rintro e w' ⟨rfl, hs'⟩; refine a_ret ?_ hs'; clear hs'
  change Holds _ _ _ _ _ (PnO pn (.slice none 0 0) (([], 0) : Pn).2 :: ([] ++ F)) _
  have l0 : (([], 0) : Pn).1.length ≤ 65536 := by simp
  have hown0 : OB (.slice none 0 0) (([], 0) : Pn).1 [] := Own.nil _ _
  refine ww ?_
  refine c_cons (s_val (v_field 0 rfl (by kernel_rfl)) rfl rfl rfl ?_)
  refine c_cons (s_val (v_field 0 rfl (by kernel_rfl)) rfl rfl rfl ?_)
  refine c_cons (s_val (v_load rfl (Cel.imm k1 rfl) (by kernel_rfl)) rfl rfl rfl ?_)
  have l1 := pnum_len l0 q.c 1
  refine c_cons (s_call (xs := [_, _, _]) rfl rfl rfl rfl rfl rfl (by kernel_rfl) (fun w hs => pnum_c pn _ _ _ q.c 1 l0 _ w _ _ hown0 hs) ?_)
  rintro e w' ⟨v1, B1, rfl, hown1, hs'⟩; refine a_ret ?_ hs'; clear hs'
  refine ww ?_
  refine c_cons (s_val (v_field 0 rfl (by kernel_rfl)) rfl rfl rfl ?_)
  refine c_cons (s_val (v_field 1 rfl (by kernel_rfl)) rfl rfl rfl ?_)
  refine c_cons (s_val (v_load rfl (Cel.imm k1 rfl) (by kernel_rfl)) rfl rfl rfl ?_)
  have l2 := pnum_len l1 q.l 3
  refine c_cons (s_call (xs := [_, _, _]) rfl rfl rfl rfl rfl rfl (by kernel_rfl) (fun w hs => pnum_c pn _ _ _ q.l 3 l1 _ w _ _ hown1 hs) ?_)
  rintro e w' ⟨v2, B2, rfl, hown2, hs'⟩; refine a_ret ?_ hs'; clear hs'
  refine ww ?_
  refine c_cons (s_val (v_field 0 rfl (by kernel_rfl)) rfl rfl rfl ?_)
  refine c_cons (s_val (v_field 2 rfl (by kernel_rfl)) rfl rfl rfl ?_)
  refine c_cons (s_val (v_load rfl (Cel.imm k1 rfl) (by kernel_rfl)) rfl rfl rfl ?_)
  have l3 := pnum_len l2 q.s 4
  refine c_cons (s_call (xs := [_, _, _]) rfl rfl rfl rfl rfl rfl (by kernel_rfl) (fun w hs => pnum_c pn _ _ _ q.s 4 l2 _ w _ _ hown2 hs) ?_)
  rintro e w' ⟨v3, B3, rfl, hown3, hs'⟩; refine a_ret ?_ hs'; clear hs'
  refine ww ?_
  refine c_cons (s_val (v_field 3 rfl (by kernel_rfl)) rfl rfl rfl ?_)
  refine c_cons (s_val (v_load rfl (Cel.imm k1 rfl) (by kernel_rfl)) rfl rfl rfl ?_)
  have l4 := pnum_len l3 q.d 1
  refine c_cons (s_call (xs := [_, _, _]) rfl rfl rfl rfl rfl rfl (by kernel_rfl) (fun w hs => pnum_c pn _ _ _ q.d 1 l3 _ w _ _ hown3 hs) ?_)
  rintro e w' ⟨v4, B4, rfl, hown4, hs'⟩; refine a_ret ?_ hs'; clear hs'
  refine ww ?_
  refine c_cons (s_val (v_field 4 rfl (by kernel_rfl)) rfl rfl rfl ?_)
  refine c_cons (s_val (v_load rfl (Cel.imm k1 rfl) (by kernel_rfl)) rfl rfl rfl ?_)
  have l5 := praw_len l4 q.p
  refine c_cons (s_call (xs := [_, _]) rfl rfl rfl rfl rfl rfl (by kernel_rfl) (fun w hs => ptext_c pn _ _ _ q.p l4 hpl _ w _ _ hown4 hs) ?_)
  rintro e w' ⟨Ga, v5, B5, rfl, hGa, hown5, hs'⟩; refine a_ret ?_ hs'; clear hs'
  refine ww ?_
  refine c_cons (s_val (v_field 5 rfl (by kernel_rfl)) rfl rfl rfl ?_)
  refine c_cons (s_val (v_load rfl (Cel.imm (hGa _ _ k1) rfl) (by kernel_rfl)) rfl rfl rfl ?_)
  have l6 := praw_len l5 q.t
  refine c_cons (s_call (xs := [_, _]) rfl rfl rfl rfl rfl rfl (by kernel_rfl) (fun w hs => ptext_c pn _ _ _ q.t l5 htl _ w _ _ hown5 hs) ?_)
  rintro e w' ⟨Gb, v6, B6, rfl, hGb0, hown6, hs'⟩; refine a_ret ?_ hs'; clear hs'
  have hGb := hGa.trans hGb0
  refine ww ?_
  refine c_cons (s_val (v_field 6 rfl (by kernel_rfl)) rfl rfl rfl ?_)
  refine c_cons (s_val (v_load rfl (Cel.imm (hGb _ _ k1) rfl) (by kernel_rfl)) rfl rfl rfl ?_)
  have l7 := pbool_len l6 q.a
  refine c_cons (s_call (xs := [_, _]) rfl rfl rfl rfl rfl rfl (by kernel_rfl) (fun w hs => pbool_c pn _ _ _ q.a l6 _ w _ _ hown6 hs) ?_)
  rintro e w' ⟨v7, B7, rfl, hown7, hs'⟩; refine a_ret ?_ hs'; clear hs'
  refine ww ?_
  refine c_cons (s_val (v_field 7 rfl (by kernel_rfl)) rfl rfl rfl ?_)
  refine c_cons (s_val (v_load rfl (Cel.imm (hGb _ _ k1) rfl) (by kernel_rfl)) rfl rfl rfl ?_)
  have l8 := pbool_len l7 q.b
  refine c_cons (s_call (xs := [_, _]) rfl rfl rfl rfl rfl rfl (by kernel_rfl) (fun w hs => pbool_c pn _ _ _ q.b l7 _ w _ _ hown7 hs) ?_)
  rintro e w' ⟨v8, B8, rfl, hown8, hs'⟩; refine a_ret ?_ hs'; clear hs'
  refine ww ?_
  refine c_cons (s_val (v_field 8 rfl (by kernel_rfl)) rfl rfl rfl ?_)
  refine c_cons (s_val (v_load rfl (Cel.imm (hGb _ _ k1) rfl) (by kernel_rfl)) rfl rfl rfl ?_)
  have l9 := pbool_len l8 q.e
  refine c_cons (s_call (xs := [_, _]) rfl rfl rfl rfl rfl rfl (by kernel_rfl) (fun w hs => pbool_c pn _ _ _ q.e l8 _ w _ _ hown8 hs) ?_)
  rintro e w' ⟨v9, B9, rfl, hown9, hs'⟩; refine a_ret ?_ hs'; clear hs'
  refine ww ?_
  refine c_cons (s_val (v_field 9 rfl (by kernel_rfl)) rfl rfl rfl ?_)
  refine c_cons (s_val (v_load rfl (Cel.imm (hGb _ _ k1) rfl) (by kernel_rfl)) rfl rfl rfl ?_)
  have l10 := pnum_len l9 q.h 1
  refine c_cons (s_call (xs := [_, _, _]) rfl rfl rfl rfl rfl rfl (by kernel_rfl) (fun w hs => pnum_c pn _ _ _ q.h 1 l9 _ w _ _ hown9 hs) ?_)
  rintro e w' ⟨v10, B10, rfl, hown10, hs'⟩; refine a_ret ?_ hs'; clear hs'
  refine ww ?_
  refine c_cons (s_val (v_field 10 rfl (by kernel_rfl)) rfl rfl rfl ?_)
  refine c_cons (s_val (v_load rfl (Cel.imm (hGb _ _ k1) rfl) (by kernel_rfl)) rfl rfl rfl ?_)
  have l11 := pnum_len l10 q.x 4
  refine c_cons (s_call (xs := [_, _, _]) rfl rfl rfl rfl rfl rfl (by kernel_rfl) (fun w hs => pnum_c pn _ _ _ q.x 4 l10 _ w _ _ hown10 hs) ?_)
  rintro e w' ⟨v11, B11, rfl, hown11, hs'⟩; refine a_ret ?_ hs'; clear hs'
  refine ww ?_
  refine c_cons (s_val (v_field 11 rfl (by kernel_rfl)) rfl rfl rfl ?_)
  refine c_cons (s_val (v_load rfl (Cel.imm (hGb _ _ k1) rfl) (by kernel_rfl)) rfl rfl rfl ?_)
  have l12 := pnum_len l11 q.w 3
  refine c_cons (s_call (xs := [_, _, _]) rfl rfl rfl rfl rfl rfl (by kernel_rfl) (fun w hs => pnum_c pn _ _ _ q.w 3 l11 _ w _ _ hown11 hs) ?_)
  rintro e w' ⟨v12, B12, rfl, hown12, hs'⟩; refine a_ret ?_ hs'; clear hs'
  obtain ⟨S, hS⟩ : ∃ S, S = pnqH ([], 0) q := ⟨_, rfl⟩
  change OB v12 (pnqH ([], 0) q).1 B12 at hown12
  change (pnqH ([], 0) q).1.length ≤ 65536 at l12
  change Holds _ _ _ _ _ (PnO pn v12 (pnqH ([], 0) q).2 :: (B12 ++ F)) _
  rw [← hS] at hown12 l12 ⊢
  have k1b := hGb _ _ k1
  clear hown0 hown1 hown2 hown3 hown4 hown5 hown6 hown7 hown8 hown9 hown10 hown11
  refine ww ?_
  refine c_cons (s_val (v_field 12 rfl (by kernel_rfl)) rfl rfl rfl ?_)
  refine c_cons (s_val (v_load rfl (Cel.imm k1b rfl) (by kernel_rfl)) rfl rfl rfl ?_)
  refine ww ?_
  have l13 := pnum_len l12 q.ss.length 2
  refine c_cons (s_call (xs := [_, _, _]) rfl rfl rfl rfl rfl rfl (by kernel_rfl) (fun w hs => pnum_c pn _ _ _ q.ss.length 2 l12 _ w _ _ hown12 hs) ?_)
  rintro e w' ⟨v13, B13, rfl, hown13, hs'⟩; refine a_ret ?_ hs'; clear hs'
  refine ww ?_
  refine c_cons (s_val (v_field 12 rfl (by kernel_rfl)) rfl rfl rfl ?_)
  refine c_cons (s_val (v_load rfl (Cel.imm k1b rfl) (by kernel_rfl)) rfl rfl rfl ?_)
  refine ww ?_
  obtain ⟨P, hP⟩ : ∃ P, P = pnum S q.ss.length 2 := ⟨_, rfl⟩
  rw [← hP] at hown13 l13 ⊢
  refine c_loop (α := Nat × Im × Value × Hp) (fun x => [(0, Pt pn 0), (1, Pt b1 0), (92, .slice ads q.ss.length cps), (93, I64 q.ss.length), (94, I64 x.1)]) (fun x => x.2.1) (fun x => PnO pn x.2.2.1 ((q.ss.take x.1).foldl psz P).2 :: (x.2.2.2 ++ F)) (fun x => x.1 ≤ q.ss.length ∧ Im.le G x.2.1 ∧ OB x.2.2.1 ((q.ss.take x.1).foldl psz P).1 x.2.2.2) (fun x => q.ss.length - x.1) (0, Gb, v13, B13) ⟨Nat.zero_le _, hGb, hown13⟩ ?_ ?_
  · simp only [List.take_zero, List.foldl_nil]
    exact n_at ⟨rfl, rfl, rfl, rfl, rfl, trivial⟩ sbx
  rintro ⟨i, G1, v, B⟩ ⟨hi, hG1, hown⟩
  dsimp only at hi hG1 hown ⊢
  refine ww ?_
  refine c_cond_d rfl (fun c3 => ?_) (fun c3 => ?_)
  · -- then
    have hil : i < q.ss.length := by omega
    have hfl := fold_len (f := psz) (fun s x h => psz_len h x) (q.ss.take i) _ l13
    obtain ⟨blx, olx, clx, cellsx, hvex, hcex, _, hcelx⟩ := (hss.up SzR.up hG1).at (by decide) i (by omega)
    cases hvex
    have htk : (q.ss.take (i + 1)).foldl psz P = psz ((q.ss.take i).foldl psz P) q.ss[i] := by
      rw [List.take_add_one, List.getElem?_eq_getElem hil, List.foldl_append]; rfl
    obtain ⟨x, hxx⟩ : ∃ x, x = q.ss[i] := ⟨_, rfl⟩
    rw [← hxx] at hcex htk
    unfold SzR at hcex
    subst hcex
    have hcx : ∀ (H : Hp) (f : Nat) u, x.cells[f]? = some u → Cel G1 H blx (olx + (i : Int).toNat * 4 + f) u := fun H f u h => by rw [Int.toNat_natCast]; exact hcelx H f u h
    refine ww ?_
    refine c_cons (s_val (v_index 4 rfl rfl (by kernel_rfl) (by omega)) rfl rfl rfl ?_)
    refine c_cons (s_val (v_loadAgg (vs := x.cells) rfl (by kernel_rfl) (by kernel_rfl) rfl (fun j u hj => hcx _ j u hj)) rfl rfl rfl ?_)
    refine c_cons (s_allocA [I64 0, I64 0, I64 0, I64 0] (by kernel_rfl) rfl rfl fun b2 => ?_)
    refine c_cons (s_storeA (vs := x.cells) rfl rfl rfl .head (by kernel_rfl) (by simp [Value.oneCell']) rfl ?_)
    refine c_freeze .head fun G2 hG2 k2 => ?_
    refine ww ?_
    refine c_cons (s_val (v_field 0 rfl (by kernel_rfl)) rfl rfl rfl ?_)
    refine c_cons (s_val (v_loadAgg (vs := [I64 x.c, I64 x.l, I64 x.n]) rfl (by kernel_rfl) (by kernel_rfl) rfl (fun j u hj => Cel.imm k2 (str_at x j u hj))) rfl rfl rfl ?_)
    obtain ⟨S1, hS1⟩ : ∃ S1, S1 = (q.ss.take i).foldl psz P := ⟨_, rfl⟩
    rw [← hS1] at hown hfl htk ⊢
    refine c_cons (s_call (xs := [_, _]) rfl rfl rfl rfl rfl rfl (by kernel_rfl) (fun w hs => nstripe_c pn _ S1 B x hfl _ w _ _ hown hs) ?_)
    rintro e w' ⟨G3, v3, B3, rfl, hG3, hown3, hs'⟩; refine a_ret ?_ hs'; clear hs'
    replace k2 := hG3 _ _ k2
    refine ww ?_
    refine c_cons (s_val (v_field 3 rfl (by kernel_rfl)) rfl rfl rfl ?_)
    refine c_cons (s_val (v_load rfl (Cel.imm k2 rfl) (by kernel_rfl)) rfl rfl rfl ?_)
    refine c_cons (s_call (xs := [_, _, _]) rfl rfl rfl rfl rfl rfl (by kernel_rfl) (fun w hs => pnum_c pn _ (pstr S1 x) _ x.z 2 (pnum_len (pnum_len (pnum_len hfl _ _) _ _) _ _) _ w _ _ hown3 hs) ?_)
    rintro e w' ⟨v4, B4, rfl, hown4, hs'⟩; refine a_ret ?_ hs'; clear hs'
    refine ww ?_
    have hown4' : OB v4 ((q.ss.take (i + 1)).foldl psz P).1 B4 := by rw [htk]; exact hown4
    have e2 : (pnum (pstr S1 x) x.z 2).2 = ((q.ss.take (i + 1)).foldl psz P).2 := by rw [htk]; rfl
    rw [e2]
    exact n_next (x := (i, G1, v, B)) (i + 1, G3, v4, B4) ⟨by omega, hG1.trans (hG2.trans hG3), hown4'⟩ (by dsimp only; omega) ⟨rfl, rfl, rfl, rfl, rfl, trivial⟩ rfl sbx
  have e : i = q.ss.length := by omega
  subst e
  rw [List.take_length] at hown ⊢
  have l14 := fold_len (f := psz) (fun s x h => psz_len h x) q.ss _ l13
  obtain ⟨S1, hS1⟩ : ∃ S1, S1 = q.ss.foldl psz P := ⟨_, rfl⟩
  rw [← hS1] at hown l14 ⊢
  replace k1b := hG1 _ _ k1
  refine ww ?_
  refine c_cons (s_val (v_field 13 rfl (by kernel_rfl)) rfl rfl rfl ?_)
  refine c_cons (s_val (v_load rfl (Cel.imm k1b rfl) (by kernel_rfl)) rfl rfl rfl ?_)
  refine ww ?_
  have l15 := pnum_len l14 q.ds.length 2
  refine c_cons (s_call (xs := [_, _, _]) rfl rfl rfl rfl rfl rfl (by kernel_rfl) (fun w hs => pnum_c pn _ _ _ q.ds.length 2 l14 _ w _ _ hown hs) ?_)
  rintro e w' ⟨v15, B15, rfl, hown15, hs'⟩; refine a_ret ?_ hs'; clear hs'
  refine ww ?_
  refine c_cons (s_val (v_field 13 rfl (by kernel_rfl)) rfl rfl rfl ?_)
  refine c_cons (s_val (v_load rfl (Cel.imm k1b rfl) (by kernel_rfl)) rfl rfl rfl ?_)
  refine ww ?_
  obtain ⟨P2, hP2⟩ : ∃ P2, P2 = pnum S1 q.ds.length 2 := ⟨_, rfl⟩
  rw [← hP2] at hown15 l15 ⊢
  refine c_loop (α := Nat × Im × Value × Hp) (fun x => [(0, Pt pn 0), (113, .slice add q.ds.length cpd), (114, I64 q.ds.length), (115, I64 x.1)]) (fun x => x.2.1) (fun x => PnO pn x.2.2.1 ((q.ds.take x.1).foldl pdl P2).2 :: (x.2.2.2 ++ F)) (fun x => x.1 ≤ q.ds.length ∧ Im.le G x.2.1 ∧ OB x.2.2.1 ((q.ds.take x.1).foldl pdl P2).1 x.2.2.2) (fun x => q.ds.length - x.1) (0, G1, v15, B15) ⟨Nat.zero_le _, hG1, hown15⟩ ?_ ?_
  · simp only [List.take_zero, List.foldl_nil]
    exact n_at ⟨rfl, rfl, rfl, rfl, trivial⟩ sbx
  rintro ⟨i, G4, v, B⟩ ⟨hi, hG4, hown⟩
  dsimp only at hi hG4 hown ⊢
  refine ww ?_
  refine c_cond_d rfl (fun c3 => ?_) (fun c3 => ?_)
  · -- then
    have hil : i < q.ds.length := by omega
    have hfl := fold_len (f := pdl) (fun s x h => pdl_len h x) (q.ds.take i) _ l15
    obtain ⟨blx, olx, clx, cellsx, hvex, hcex, _, hcelx⟩ := (hds.up DlR.up hG4).at (by decide) i (by omega)
    cases hvex
    have htk : (q.ds.take (i + 1)).foldl pdl P2 = pdl ((q.ds.take i).foldl pdl P2) q.ds[i] := by
      rw [List.take_add_one, List.getElem?_eq_getElem hil, List.foldl_append]; rfl
    obtain ⟨x, hxx⟩ : ∃ x, x = q.ds[i] := ⟨_, rfl⟩
    rw [← hxx] at hcex htk
    unfold DlR at hcex
    subst hcex
    have hcx : ∀ (H : Hp) (f : Nat) u, x.cells[f]? = some u → Cel G4 H blx (olx + (i : Int).toNat * 14 + f) u := fun H f u h => by rw [Int.toNat_natCast]; exact hcelx H f u h
    refine ww ?_
    refine c_cons (s_val (v_index 14 rfl rfl (by kernel_rfl) (by omega)) rfl rfl rfl ?_)
    refine c_cons (s_val (v_loadAgg (vs := x.cells) rfl (by kernel_rfl) (by kernel_rfl) rfl (fun j u hj => hcx _ j u hj)) rfl rfl rfl ?_)
    refine c_cons (s_allocA Zd (by kernel_rfl) rfl rfl fun b2 => ?_)
    refine c_cons (s_storeA (vs := x.cells) rfl rfl rfl .head (by kernel_rfl) (by simp [Value.oneCell']) rfl ?_)
    refine c_freeze .head fun G2 hG2 k2 => ?_
    refine ww ?_
    refine c_cons (s_val (v_loadAgg (vs := x.cells) rfl (by kernel_rfl) (by kernel_rfl) rfl (fun j u hj => (Cel.allI k2 hj))) rfl rfl rfl ?_)
    obtain ⟨S2, hS2⟩ : ∃ S2, S2 = (q.ds.take i).foldl pdl P2 := ⟨_, rfl⟩
    rw [← hS2] at hown hfl htk ⊢
    refine c_cons (s_call (xs := [_, _]) rfl rfl rfl rfl rfl rfl (by kernel_rfl) (fun w hs => ndput_c pn _ S2 B x hfl _ w _ _ hown hs) ?_)
    rintro e w' ⟨G3, v3, B3, rfl, hG3, hown3, hs'⟩; refine a_ret ?_ hs'; clear hs'
    refine ww ?_
    rw [← htk] at hown3 ⊢
    exact n_next (x := (i, G4, v, B)) (i + 1, G3, v3, B3) ⟨by omega, hG4.trans (hG2.trans hG3), hown3⟩ (by dsimp only; omega) ⟨rfl, rfl, rfl, rfl, trivial⟩ rfl sbx
  have e : i = q.ds.length := by omega
  subst e
  rw [List.take_length] at hown ⊢
  have l16 := fold_len (f := pdl) (fun s x h => pdl_len h x) q.ds _ l15
  have e5 : q.ds.foldl pdl P2 = pnq q := by rw [hP2, hS1, hP, hS]; rfl
  rw [e5] at hown l16 ⊢
  refine ww ?_
  exact f_end0 rfl (fun w hs => ⟨G4, hG4, .inl ⟨v, B, rfl, e4, l16, hown, hs⟩⟩)

theorem nenc_c (q : Nq) (hpl : q.p.length ≤ 1000000) (htl : q.t.length ≤ 1000000) (vs vd : Value) (w0 w : World) (G : Im) (F : Hp) (hss : RecV 4 SzR G vs q.ss) (hds : RecV 14 DlR G vd q.ds) (hs : Sat w0 w G F) :
    Calls Try.prog 8 #[.agg (q.cells vs vd).toArray] w fun e w' => ∃ G' u, e = .returned (.tuple #[u, I64 (encQ q).2]) ∧ Im.le G G' ∧ SV G' [] u (outS (encQ q)).length ((outS (encQ q)).map B8) ∧ Sat w0 w' G' F := by
  refine f_enter (vs := [_]) Try.func8 rfl Try.ntmps8 (by simp) hs ?_
  refine ww ?_
  refine c_cons (s_boxA [_, _, _, _, _, _, _, _, _, _, _, _, _, _] rfl rfl rfl fun b1 => ?_)
  refine c_freeze .head fun G1 hG1 k1 => ?_
  refine ww ?_
  refine c_cons (s_call (xs := [_]) rfl rfl rfl rfl rfl rfl (by kernel_rfl) (fun w hs => nwritten_c 24 #[Pt b1 0] (by kernel_rfl) (fun G' H' s => H' = [] ∧ s = encQ q) (fun c G' H' => H' = [] ∧ encQ q = ([], c) ∧ c ≠ 0) (fun _ _ _ _ _ h => h) _ w G1 [] _ hs (fun pn G2 F w hG2 hs => (nenc1_c q hpl htl b1 pn vs vd w0 w G2 F (hG2 _ _ k1) (hss.up SzR.up (hG1.trans hG2)) (hds.up DlR.up (hG1.trans hG2)) hs).mono (by
    rintro e w' ⟨G', hG', ⟨v', B', rfl, e1, hl, hown, hs'⟩ | ⟨c, rfl, h0, e1, hs'⟩⟩
    · exact ⟨G', [], hG', .inl ⟨v', pnq q, B', hl, hown, hs', rfl, rfl, e1.symm⟩⟩
    · exact ⟨G', [], hG', .inr ⟨c, hs', rfl, rfl, e1, h0⟩⟩))) ?_)
  rintro e w' ⟨G', H', hG', hs', ⟨s, u, rfl, ⟨rfl, rfl⟩, hu⟩ | ⟨c, rfl, rfl, e1, h0⟩⟩
  · refine a_ret ?_ hs'; clear hs'
    refine ww ?_
    exact f_ret2 rfl rfl rfl (fun w hs => ⟨G', u, rfl, hG1.trans hG', hu, hs⟩)
  · refine a_ret ?_ hs'; clear hs'
    refine ww ?_
    have e2 : outS (encQ q) = [] := by rw [e1]; exact if_neg h0
    exact f_ret2 rfl rfl rfl (fun w hs => ⟨G', .slice none 0 0, by rw [e1]; rfl, hG1.trans hG', by rw [e2]; exact SV.nil _ _, hs⟩)
end
end Go.Proofs.Ytobhlbhklblncaa
