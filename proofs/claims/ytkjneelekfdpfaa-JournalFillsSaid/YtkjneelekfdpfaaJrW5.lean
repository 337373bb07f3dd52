/- The walk of package journal's Open. The walks of package journal: lay. -/
import Derived.Test.YtkjneelekfdpfaaJrW3
namespace Go.Proofs.Ytkjneelekfdpfaa
section
open Go
set_option linter.unusedVariables false
set_option linter.unusedSimpArgs false
set_option maxHeartbeats 3200000
/-- What a head finds. -/
theorem open_pick {L : List (List UInt8)} {x y : List UInt8} (h0 : L.getD 0 [] = x) (h1 : L.getD 1 [] = y) : openS L =
    if (hdOk L.length x ∨ hdOk L.length y) ∧ ¬ (hdOk L.length x ∧ hdOk L.length y ∧ (hdJ x).g = (hdJ y).g) then
      if ¬ hdOk L.length x ∨ (hdOk L.length y ∧ (hdJ x).g < (hdJ y).g) then (recsS L (hdJ y).e.toNat (2 + (hdJ y).h.toNat * jz L.length) (hdJ y).e.toNat).map fun rows => ⟨hdJ y, 1, rows⟩
      else (recsS L (hdJ x).e.toNat (2 + (hdJ x).h.toNat * jz L.length) (hdJ x).e.toNat).map fun rows => ⟨hdJ x, 0, rows⟩
    else none := by
  unfold openS
  rw [h0, h1]
  by_cases c1 : (hdOk L.length x ∨ hdOk L.length y) ∧ ¬ (hdOk L.length x ∧ hdOk L.length y ∧ (hdJ x).g = (hdJ y).g)
  · rw [if_pos c1, if_pos c1]
    by_cases c2 : ¬ hdOk L.length x ∨ (hdOk L.length y ∧ (hdJ x).g < (hdJ y).g)
    · rw [if_pos c2, if_pos c2]
      cases recsS L (hdJ y).e.toNat (2 + (hdJ y).h.toNat * jz L.length) (hdJ y).e.toNat <;> rfl
    · rw [if_neg c2, if_neg c2]
      cases recsS L (hdJ x).e.toNat (2 + (hdJ x).h.toNat * jz L.length) (hdJ x).e.toNat <;> rfl
  · rw [if_neg c1, if_neg c1]
attribute [local irreducible] Code.wp wpList stepK Holds Val wpR Eff Eff0 Code.wpIn wpListIn stepI Exit.then Exit.inBlock bodyPost bodyPostM

theorem jopen_c (dp : Nat) (B : Hp) (D : Dk) (hr : DH dp D B) (hl : 6 ≤ D.now.length ∧ D.now.length ≤ 4160) (h64 : ∀ x ∈ D.now, x.length = 64) (w0 w : World) (G : Im) (F : Hp) (hs : Sat w0 w G (B ++ F)) :
    Calls Try.prog 11 #[Pt dp 0] w fun e w' => ∃ G', Im.le G G' ∧
      ((D.dead = true ∧ e = .returned (.tuple #[.pointer none, I64 14]) ∧ Sat w0 w' G' (B ++ F)) ∨
       (D.dead = false ∧ openS D.now = none ∧ e = .returned (.tuple #[.pointer none, I64 4]) ∧ Sat w0 w' G' (B ++ F)) ∨
       (D.dead = false ∧ ∃ J jp Bj, openS D.now = some J ∧ e = .returned (.tuple #[Pt jp 0, I64 0]) ∧ JH G' jp dp J Bj ∧ Sat w0 w' G' (Bj ++ (B ++ F)))) := by
  refine f_enterD (vs := [_]) Try.func11 rfl Try.ntmps11 (by simp) hs ?_
  obtain ⟨z1, z2⟩ := jz_le hl.1
  refine ww ?_
  refine c_cons (s_alloc (.pointer none) (by kernel_rfl) rfl rfl fun b1 => ?_)
  refine c_cons (s_alloc (I64 0) (by kernel_rfl) rfl rfl fun b2 => ?_)
  change Holds _ _ _ _ _ (ErO b2 0 :: JcO b1 (.pointer none) :: (B ++ F)) _
  refine c_sub (B ++ (ErO b2 0 :: JcO b1 (.pointer none) :: F)) sbx ?_
  refine ww ?_
  refine c_cons (s_call (xs := [_]) rfl rfl rfl rfl rfl rfl (by kernel_rfl) (fun w hs => sectorsH_c dp B D hr _ w _ _ hs) ?_)
  rintro e w' ⟨rfl, hs'⟩; refine a_ret ?_ hs'; clear hs'
  refine ww ?_
  refine c_cond_d rfl (fun c2 => ?_) (fun c2 => ?_)
  · exfalso; omega
  refine ww ?_
  refine c_cons (s_defer rfl rfl rfl rfl ?_)
  refine wn ?_
  refine c_pq [(2, Pt b1 0), (3, Pt b2 0)] ?_
  -- the first head
  obtain ⟨x, hx⟩ : ∃ x, D.now[0]? = some x := ⟨_, List.getElem?_eq_getElem (by omega)⟩
  have hxd : D.now.getD 0 [] = x := by rw [List.getD, hx]; rfl
  have hx64 := h64 x (List.mem_of_getElem? hx)
  obtain ⟨y, hy⟩ : ∃ y, D.now[1]? = some y := ⟨_, List.getElem?_eq_getElem (by omega)⟩
  have hyd : D.now.getD 1 [] = y := by rw [List.getD, hy]; rfl
  have hy64 := h64 y (List.mem_of_getElem? hy)
  refine ww ?_
  refine c_cons (s_call (xs := [_, _]) rfl rfl rfl rfl rfl rfl (by kernel_rfl) (fun w hs => jread_c dp B D hr hl 0 (by omega) x hxd hx64 _ w _ _ hs) ?_)
  rintro e w' ⟨G1, hG1, hs', ⟨hdead, rfl⟩ | ⟨hdead, rfl⟩⟩
  · refine a_panic ?_ hs'; clear hs'
    repeat (first | refine x_then_panic ?_ | refine x_block_panic ?_)
    refine pq_panic ⟨rfl, rfl, trivial⟩ ?_
    refine c_sub (JcO b1 (.pointer none) :: ErO b2 0 :: ([] ++ (B ++ F))) sbx ?_
    exact open_pan 14 0 b1 b2 _ w0 G G1 [] (B ++ F) hG1 _ rfl _ _ (fun w hs => ⟨G1, hG1, .inl ⟨hdead, rfl, hs⟩⟩)
  refine a_ret ?_ hs'; clear hs'
  have hpick := open_pick hxd hyd
  have hgx := hdJ_gd x
  have hgy := hdJ_gd y
  have hokx : hdOk D.now.length x → (1 ≤ (hdJ x).g ∧ (hdJ x).h ≤ 1 ∧ (hdJ x).e ≤ jz D.now.length) := fun h => ⟨h.2.1, h.2.2.1, h.2.2.2.1⟩
  have hoky : hdOk D.now.length y → (1 ≤ (hdJ y).g ∧ (hdJ y).h ≤ 1 ∧ (hdJ y).e ≤ jz D.now.length) := fun h => ⟨h.2.1, h.2.2.1, h.2.2.2.1⟩
  obtain ⟨a, ha⟩ : ∃ a, a = hdJ x := ⟨_, rfl⟩
  obtain ⟨b, hb⟩ : ∃ b, b = hdJ y := ⟨_, rfl⟩
  rw [← ha] at hpick hgx hokx
  rw [← hb] at hpick hgy hoky
  rw [← ha]
  refine ww ?_
  refine c_cons (s_allocA [I64 0, I64 0, I64 0] (by kernel_rfl) rfl rfl fun b3 => ?_)
  refine c_cons (s_storeA (vs := [I64 a.g, I64 a.h, I64 a.e]) rfl rfl rfl .head (by kernel_rfl) (by simp [Value.oneCell']) rfl ?_)
  refine c_freeze .head fun G2 hG2 k3 => ?_
  refine ww ?_
  refine c_cons (s_call (xs := [_, _]) rfl rfl rfl rfl rfl rfl (by kernel_rfl) (fun w hs => jread_c dp B D hr hl 1 (by omega) y hyd hy64 _ w _ _ hs) ?_)
  rintro e w' ⟨G4, hG4, hs', ⟨hdead', rfl⟩ | ⟨_, rfl⟩⟩
  · rw [hdead] at hdead'; cases hdead'
  refine a_ret ?_ hs'; clear hs'
  replace k3 := hG4 _ _ k3
  rw [← hb]
  refine ww ?_
  refine c_cons (s_allocA [I64 0, I64 0, I64 0] (by kernel_rfl) rfl rfl fun b4 => ?_)
  refine c_cons (s_storeA (vs := [I64 b.g, I64 b.h, I64 b.e]) rfl rfl rfl .head (by kernel_rfl) (by simp [Value.oneCell']) rfl ?_)
  refine c_freeze .head fun G5 hG5 k4 => ?_
  replace k3 := hG5 _ _ k3
  have hGa := hG1.trans (hG2.trans (hG4.trans hG5))
  refine c_sub (JcO b1 (.pointer none) :: ErO b2 0 :: (B ++ F)) sbx ?_
  refine wn ?_
  refine c_env [(0, Pt dp 0), (2, Pt b1 0), (3, Pt b2 0), (4, Pt b3 0), (5, .bool (decide (hdOk D.now.length x))), (6, Pt b4 0), (7, .bool (decide (hdOk D.now.length y)))] ⟨rfl, rfl, rfl, rfl, rfl, rfl, rfl, trivial⟩ ?_
  have tobad : openS D.now = none → ∀ w, Sat w0 w G5 (B ++ F) → ∃ G', Im.le G G' ∧
      ((D.dead = true ∧ Ending.returned (.tuple #[.pointer none, I64 4]) = .returned (.tuple #[.pointer none, I64 14]) ∧ Sat w0 w G' (B ++ F)) ∨
       (D.dead = false ∧ openS D.now = none ∧ Ending.returned (.tuple #[.pointer none, I64 4]) = .returned (.tuple #[.pointer none, I64 4]) ∧ Sat w0 w G' (B ++ F)) ∨
       (D.dead = false ∧ ∃ J jp Bj, openS D.now = some J ∧ Ending.returned (.tuple #[.pointer none, I64 4]) = .returned (.tuple #[Pt jp 0, I64 0]) ∧ JH G' jp dp J Bj ∧ Sat w0 w G' (Bj ++ (B ++ F)))) := fun h w hs => ⟨G5, hGa, .inr (.inl ⟨hdead, h, rfl, hs⟩)⟩
  refine c_cut (α := Unit) (fun _ => [(0, Pt dp 0), (2, Pt b1 0), (3, Pt b2 0), (4, Pt b3 0), (5, .bool (decide (hdOk D.now.length x))), (6, Pt b4 0), (7, .bool (decide (hdOk D.now.length y)))]) (fun _ => G5) (fun _ => JcO b1 (.pointer none) :: ErO b2 0 :: (B ++ F)) (fun _ => hdOk D.now.length x ∨ hdOk D.now.length y) ?_ ?_
  · by_cases ox : hdOk D.now.length x
    · rw [decide_eq_true ox]
      refine ww ?_
      refine c_cons (s_call (xs := [_, _]) rfl rfl rfl rfl rfl rfl (by kernel_rfl) (fun w hs => jmust_t 4 _ w _ _ hs) ?_)
      rintro e w' ⟨rfl, hs'⟩; refine a_ret ?_ hs'; clear hs'
      refine ww ?_
      exact n_mid () (.inl ox) ⟨rfl, rfl, rfl, rfl, rfl, rfl, rfl, trivial⟩ rfl sbx
    rw [decide_eq_false ox]
    by_cases oy : hdOk D.now.length y
    · rw [decide_eq_true oy]
      refine ww ?_
      refine c_cons (s_call (xs := [_, _]) rfl rfl rfl rfl rfl rfl (by kernel_rfl) (fun w hs => jmust_t 4 _ w _ _ hs) ?_)
      rintro e w' ⟨rfl, hs'⟩; refine a_ret ?_ hs'; clear hs'
      refine ww ?_
      exact n_mid () (.inr oy) ⟨rfl, rfl, rfl, rfl, rfl, rfl, rfl, trivial⟩ rfl sbx
    rw [decide_eq_false oy]
    refine ww ?_
    refine c_cons (s_call (xs := [_, _]) rfl rfl rfl rfl rfl rfl (by kernel_rfl) (fun w hs => jmust_f 4 _ w _ _ hs) ?_)
    rintro e w' ⟨rfl, hs'⟩
    refine a_panic ?_ hs'; clear hs'
    repeat (first | refine x_then_panic ?_ | refine x_block_panic ?_)
    refine pq_panic ⟨rfl, rfl, trivial⟩ ?_
    refine c_sub (JcO b1 (.pointer none) :: ErO b2 0 :: ([] ++ (B ++ F))) sbx ?_
    exact open_pan 4 0 b1 b2 _ w0 G G5 [] (B ++ F) hGa _ rfl _ _ (tobad (by rw [hpick, if_neg (fun h => h.1.elim ox oy)]))
  rintro _ hor
  refine c_cut (α := Unit) (fun _ => [(0, Pt dp 0), (2, Pt b1 0), (3, Pt b2 0), (4, Pt b3 0), (5, .bool (decide (hdOk D.now.length x))), (6, Pt b4 0), (7, .bool (decide (hdOk D.now.length y)))]) (fun _ => G5) (fun _ => JcO b1 (.pointer none) :: ErO b2 0 :: (B ++ F)) (fun _ => ¬ (hdOk D.now.length x ∧ hdOk D.now.length y ∧ a.g = b.g)) ?_ ?_
  · by_cases ox : hdOk D.now.length x
    rotate_left
    · rw [decide_eq_false ox]
      refine ww ?_
      refine c_cons (s_call (xs := [_, _]) rfl rfl rfl rfl rfl rfl (by kernel_rfl) (fun w hs => jmust_t 4 _ w _ _ hs) ?_)
      rintro e w' ⟨rfl, hs'⟩; refine a_ret ?_ hs'; clear hs'
      refine ww ?_
      exact n_mid () (fun h => ox h.1) ⟨rfl, rfl, rfl, rfl, rfl, rfl, rfl, trivial⟩ rfl sbx
    rw [decide_eq_true ox]
    by_cases oy : hdOk D.now.length y
    rotate_left
    · rw [decide_eq_false oy]
      refine ww ?_
      refine c_cons (s_call (xs := [_, _]) rfl rfl rfl rfl rfl rfl (by kernel_rfl) (fun w hs => jmust_t 4 _ w _ _ hs) ?_)
      rintro e w' ⟨rfl, hs'⟩; refine a_ret ?_ hs'; clear hs'
      refine ww ?_
      exact n_mid () (fun h => oy h.2.1) ⟨rfl, rfl, rfl, rfl, rfl, rfl, rfl, trivial⟩ rfl sbx
    rw [decide_eq_true oy]
    refine ww ?_
    refine c_cons (s_val (v_field 0 rfl (by kernel_rfl)) rfl rfl rfl ?_)
    refine c_cons (s_val (v_load rfl (Cel.imm k3 rfl) (by kernel_rfl)) rfl rfl rfl ?_)
    refine c_cons (s_val (v_field 0 rfl (by kernel_rfl)) rfl rfl rfl ?_)
    refine c_cons (s_val (v_load rfl (Cel.imm k4 rfl) (by kernel_rfl)) rfl rfl rfl ?_)
    refine ww ?_
    by_cases og : a.g = b.g
    rotate_left
    · rw [decide_eq_true (show ¬ a.g = b.g from og)]
      refine c_cons (s_call (xs := [_, _]) rfl rfl rfl rfl rfl rfl (by kernel_rfl) (fun w hs => jmust_t 4 _ w _ _ hs) ?_)
      rintro e w' ⟨rfl, hs'⟩; refine a_ret ?_ hs'; clear hs'
      refine ww ?_
      exact n_mid () (fun h => og h.2.2) ⟨rfl, rfl, rfl, rfl, rfl, rfl, rfl, trivial⟩ rfl sbx
    rw [decide_eq_false (show ¬ ¬ a.g = b.g from fun h => h og)]
    refine c_cons (s_call (xs := [_, _]) rfl rfl rfl rfl rfl rfl (by kernel_rfl) (fun w hs => jmust_f 4 _ w _ _ hs) ?_)
    rintro e w' ⟨rfl, hs'⟩
    refine a_panic ?_ hs'; clear hs'
    repeat (first | refine x_then_panic ?_ | refine x_block_panic ?_)
    refine pq_panic ⟨rfl, rfl, trivial⟩ ?_
    refine c_sub (JcO b1 (.pointer none) :: ErO b2 0 :: ([] ++ (B ++ F))) sbx ?_
    exact open_pan 4 0 b1 b2 _ w0 G G5 [] (B ++ F) hGa _ rfl _ _ (tobad (by rw [hpick, if_neg (fun h => h.2 ⟨ox, oy, og⟩)]))
  rintro _ hne
  rw [if_pos ⟨hor, hne⟩] at hpick
  refine ww ?_
  refine c_cons (s_val (v_loadAgg (vs := [I64 a.g, I64 a.h, I64 a.e]) rfl (by kernel_rfl) (by kernel_rfl) rfl (fun j u hj => (Cel.allI k3 hj))) rfl rfl rfl ?_)
  refine c_cons (s_val (v_build (ps := [_, _]) #[Pt dp 0, I64 a.g, I64 a.h, I64 a.e, I64 0, .slice none 0 0] rfl (by kernel_rfl)) rfl rfl rfl ?_)
  refine c_cons (s_boxA [Pt dp 0, I64 a.g, I64 a.h, I64 a.e, I64 0, .slice none 0 0] rfl rfl rfl fun jp => ?_)
  refine c_cons (s_store1 rfl rfl rfl (.tail .head) (by kernel_rfl) rfl (by simp) ?_)
  change Holds _ _ _ _ _ (JcO b1 (Pt jp 0) :: JO jp dp a 0 (.slice none 0 0) :: ErO b2 0 :: (B ++ F)) _
  refine wn ?_
  -- which head counts
  refine c_cut (α := Jh × Int) (fun _ => [(0, Pt dp 0), (2, Pt b1 0), (3, Pt b2 0)]) (fun _ => G5) (fun z => JcO b1 (Pt jp 0) :: JO jp dp z.1 z.2 (.slice none 0 0) :: ErO b2 0 :: (B ++ F)) (fun z => openS D.now = (recsS D.now z.1.e.toNat (2 + z.1.h.toNat * jz D.now.length) z.1.e.toNat).map (fun rows => ⟨z.1, z.2, rows⟩) ∧ (0 ≤ z.1.h ∧ z.1.h ≤ 1) ∧ 0 ≤ z.1.e ∧ z.1.e ≤ jz D.now.length) ?_ ?_
  · by_cases ox : hdOk D.now.length x
    rotate_left
    · rw [decide_eq_false ox]
      rw [if_pos (.inl ox)] at hpick
      obtain ⟨g1, g2, g3⟩ := hoky (hor.resolve_left ox)
      refine ww ?_
      refine c_cond_t rfl ?_
      refine r_startS [JcO b1 (Pt jp 0)] [] (by kernel_rfl) (fun w h => h.sb) ?_
      refine r_tkD 0 rfl rfl (v_load rfl (Cel.head rfl) (by kernel_rfl)) (fun _ h => (h.sb)) ?_
      refine r_tkD 1 rfl rfl (v_load rfl (Cel.head rfl) (by kernel_rfl)) (fun _ h => (h.sb)) ?_
      refine r_tkD 2 rfl rfl (v_loadAgg (vs := [I64 b.g, I64 b.h, I64 b.e]) rfl (by kernel_rfl) (by kernel_rfl) rfl (fun j u hj => (Cel.allI k4 hj))) (fun _ h => (h.sb)) ?_
      refine r_tkD 3 rfl rfl (v_nilCheck rfl) (fun _ h => (h.sb)) ?_
      refine r_tkD 4 rfl rfl (v_field 1 rfl (by kernel_rfl)) (fun _ h => (h.sb)) ?_
      refine r_one 5 (by kernel_rfl) rfl ?_
      refine s_storeAt (vs := [I64 b.g, I64 b.h, I64 b.e]) rfl rfl rfl (.tail .head) (by kernel_rfl) (by simp [Value.oneCell']) (by simp) ?_
      change Holds _ _ _ _ _ (JO jp dp b 0 (.slice none 0 0) :: JcO b1 (Pt jp 0) :: ErO b2 0 :: (B ++ F)) _
      refine r_next (fun w h => (h.sb)) ?_
      refine r_tkD 6 rfl rfl (v_nilCheck rfl) (fun _ h => (h.sb)) ?_
      refine r_tkD 7 rfl rfl (v_field 4 rfl (by kernel_rfl)) (fun _ h => (h.sb)) ?_
      refine r_one 8 (by kernel_rfl) rfl ?_
      refine s_store1 rfl rfl rfl .head (by kernel_rfl) rfl (by simp) ?_
      change Holds _ _ _ _ _ (JO jp dp b 1 (.slice none 0 0) :: JcO b1 (Pt jp 0) :: ErO b2 0 :: (B ++ F)) _
      refine r_next (fun w h => (h.sb)) ?_
      refine r_done (by kernel_rfl) ?_
      refine ww ?_
      exact n_mid (b, 1) ⟨hpick, by dsimp only; have := hgy.2; omega, by dsimp only; have := hgy.2; omega, g3⟩ ⟨rfl, rfl, rfl, trivial⟩ rfl sbx
    rw [decide_eq_true ox]
    obtain ⟨f1, f2, f3⟩ := hokx ox
    by_cases oy : hdOk D.now.length y
    rotate_left
    · rw [decide_eq_false oy]
      rw [if_neg (fun h => h.elim (fun h => h ox) (fun h => oy h.1))] at hpick
      refine ww ?_
      refine c_cond_f rfl ?_
      refine ww ?_
      exact n_mid (a, 0) ⟨hpick, by dsimp only; have := hgx.2; omega, by dsimp only; have := hgx.2; omega, f3⟩ ⟨rfl, rfl, rfl, trivial⟩ rfl sbx
    rw [decide_eq_true oy]
    obtain ⟨g1, g2, g3⟩ := hoky oy
    refine ww ?_
    refine c_cons (s_val (v_field 0 rfl (by kernel_rfl)) rfl rfl rfl ?_)
    refine c_cons (s_val (v_load rfl (Cel.imm k4 rfl) (by kernel_rfl)) rfl rfl rfl ?_)
    refine c_cons (s_val (v_field 0 rfl (by kernel_rfl)) rfl rfl rfl ?_)
    refine c_cons (s_val (v_load rfl (Cel.imm k3 rfl) (by kernel_rfl)) rfl rfl rfl ?_)
    refine ww ?_
    refine c_cond_d rfl (fun og => ?_) (fun og => ?_)
    · rw [if_pos (.inr ⟨oy, og⟩)] at hpick
      refine r_startS [JcO b1 (Pt jp 0)] [] (by kernel_rfl) (fun w h => h.sb) ?_
      refine r_tkD 0 rfl rfl (v_load rfl (Cel.head rfl) (by kernel_rfl)) (fun _ h => (h.sb)) ?_
      refine r_tkD 1 rfl rfl (v_load rfl (Cel.head rfl) (by kernel_rfl)) (fun _ h => (h.sb)) ?_
      refine r_tkD 2 rfl rfl (v_loadAgg (vs := [I64 b.g, I64 b.h, I64 b.e]) rfl (by kernel_rfl) (by kernel_rfl) rfl (fun j u hj => (Cel.allI k4 hj))) (fun _ h => (h.sb)) ?_
      refine r_tkD 3 rfl rfl (v_nilCheck rfl) (fun _ h => (h.sb)) ?_
      refine r_tkD 4 rfl rfl (v_field 1 rfl (by kernel_rfl)) (fun _ h => (h.sb)) ?_
      refine r_one 5 (by kernel_rfl) rfl ?_
      refine s_storeAt (vs := [I64 b.g, I64 b.h, I64 b.e]) rfl rfl rfl (.tail .head) (by kernel_rfl) (by simp [Value.oneCell']) (by simp) ?_
      change Holds _ _ _ _ _ (JO jp dp b 0 (.slice none 0 0) :: JcO b1 (Pt jp 0) :: ErO b2 0 :: (B ++ F)) _
      refine r_next (fun w h => (h.sb)) ?_
      refine r_tkD 6 rfl rfl (v_nilCheck rfl) (fun _ h => (h.sb)) ?_
      refine r_tkD 7 rfl rfl (v_field 4 rfl (by kernel_rfl)) (fun _ h => (h.sb)) ?_
      refine r_one 8 (by kernel_rfl) rfl ?_
      refine s_store1 rfl rfl rfl .head (by kernel_rfl) rfl (by simp) ?_
      change Holds _ _ _ _ _ (JO jp dp b 1 (.slice none 0 0) :: JcO b1 (Pt jp 0) :: ErO b2 0 :: (B ++ F)) _
      refine r_next (fun w h => (h.sb)) ?_
      refine r_done (by kernel_rfl) ?_
      refine ww ?_
      exact n_mid (b, 1) ⟨hpick, by dsimp only; have := hgy.2; omega, by dsimp only; have := hgy.2; omega, g3⟩ ⟨rfl, rfl, rfl, trivial⟩ rfl sbx
    rw [if_neg (fun h => h.elim (fun h => h ox) (fun h => og h.2))] at hpick
    refine ww ?_
    exact n_mid (a, 0) ⟨hpick, by dsimp only; have := hgx.2; omega, by dsimp only; have := hgx.2; omega, f3⟩ ⟨rfl, rfl, rfl, trivial⟩ rfl sbx
  rintro ⟨hd, sl⟩ ⟨hop, hh, he0, he1⟩
  dsimp only at hop hh he0 he1 ⊢
  clear hpick
  obtain ⟨g, h, e⟩ := hd
  dsimp only at hop hh he0 he1 ⊢
  obtain ⟨hn, rfl⟩ : ∃ hn : Nat, h = hn := ⟨h.toNat, by omega⟩
  obtain ⟨en, rfl⟩ : ∃ en : Nat, e = en := ⟨e.toNat, by omega⟩
  rw [Int.toNat_natCast, Int.toNat_natCast] at hop
  have hz : jz D.now.length ≤ 2079 := by unfold jz; omega
  refine ww ?_
  refine c_loop (α := Nat × Im × Value × Hp × List (List UInt8)) (fun x => [(0, Pt dp 0), (2, Pt b1 0), (3, Pt b2 0), (8, I64 (x.1 : Int))]) (fun x => x.2.1) (fun x => JcO b1 (Pt jp 0) :: JO jp dp ⟨g, hn, en⟩ sl x.2.2.1 :: ErO b2 0 :: (x.2.2.2.1 ++ (B ++ F))) (fun x => x.1 ≤ en ∧ Im.le G5 x.2.1 ∧ RO x.2.1 x.2.2.1 x.2.2.2.2 x.2.2.2.1 ∧ x.2.2.2.2.length ≤ x.1 ∧ recsS D.now en (2 + hn * jz D.now.length) en = (recsS D.now (en - x.1) (2 + hn * jz D.now.length + x.1) (en - x.1)).map (fun rs => x.2.2.2.2 ++ rs)) (fun x => en - x.1) (0, G5, .slice none 0 0, [], []) ⟨Nat.zero_le _, Im.le_refl _, RO.zero _ _, by simp, by dsimp only; rw [Nat.sub_zero, Nat.add_zero]; simp⟩ ?_ ?_
  · exact n_at ⟨rfl, rfl, rfl, rfl, trivial⟩ sbx
  rintro ⟨i, Gi, vr, Br, rows⟩ ⟨hi, hGi, hro, hrl, hrr⟩
  dsimp only at hi hGi hro hrl hrr ⊢
  refine ww ?_
  refine c_cons (s_val (v_load rfl (Cel.head rfl) (by kernel_rfl)) rfl rfl rfl ?_)
  refine ww ?_
  refine c_cons (s_val (v_field 1 rfl (by kernel_rfl)) rfl rfl rfl ?_)
  refine c_cons (s_val (v_field 2 rfl (by kernel_rfl)) rfl rfl rfl ?_)
  refine c_cons (s_val (v_load rfl (Cel.tail (Cel.head rfl)) (by kernel_rfl)) rfl rfl rfl ?_)
  refine ww ?_
  refine c_cond_d rfl (fun c6 => ?_) (fun c6 => ?_)
  · -- then
    have hien : i < en := by change (i : Int) < (en : Int) at c6; omega
    rw [recs_step (show 0 < en - i by omega)] at hrr
    refine ww ?_
    refine r_startS [JcO b1 (Pt jp 0), JO jp dp ⟨g, hn, en⟩ sl vr] [] (by kernel_rfl) (fun w h => h.sb) ?_
    refine r_tkD 0 rfl rfl (v_move rfl) (fun _ h => (h.sb)) ?_
    refine r_tkD 1 rfl rfl (v_load rfl (Cel.head rfl) (by kernel_rfl)) (fun _ h => (h.sb)) ?_
    refine r_tkD 2 rfl rfl (v_nilCheck rfl) (fun _ h => (h.sb)) ?_
    refine r_tkD 3 rfl rfl (v_field 1 rfl (by kernel_rfl)) (fun _ h => (h.sb)) ?_
    refine r_tkD 4 rfl rfl (v_field 1 rfl (by kernel_rfl)) (fun _ h => (h.sb)) ?_
    refine r_tkD 5 rfl rfl (v_load rfl (Cel.tail (Cel.head rfl)) (by kernel_rfl)) (fun _ h => (h.sb)) ?_
    refine r_tkD 6 rfl rfl (v_move rfl) (fun _ h => (h.sb)) ?_
    refine r_tkD 7 rfl rfl (v_load rfl (Cel.head rfl) (by kernel_rfl)) (fun _ h => (h.sb)) ?_
    refine r_tkD 8 rfl rfl (v_nilCheck rfl) (fun _ h => (h.sb)) ?_
    refine r_tkD 9 rfl rfl (v_field 1 rfl (by kernel_rfl)) (fun _ h => (h.sb)) ?_
    refine r_tkD 10 rfl rfl (v_field 2 rfl (by kernel_rfl)) (fun _ h => (h.sb)) ?_
    refine r_tkD 11 rfl rfl (v_load rfl (Cel.tail (Cel.head rfl)) (by kernel_rfl)) (fun _ h => (h.sb)) ?_
    refine c_sub (B ++ (JcO b1 (Pt jp 0) :: JO jp dp ⟨g, hn, en⟩ sl vr :: ErO b2 0 :: (Br ++ F))) sbx ?_
    refine r_one 12 (by kernel_rfl) rfl ?_
    refine s_call (xs := [_, _, _, _]) rfl rfl rfl rfl rfl rfl (by kernel_rfl) (fun w hs => jrec_c dp B D hr hl h64 hdead hn (by omega) i en (by omega) hien _ w _ _ hs) ?_
    rintro e w' ⟨G6, hG6, hs', ⟨hno, rfl⟩ | ⟨r, k, u, hyes, rfl, hu⟩⟩
    · rw [hno] at hrr
      refine a_panic ?_ hs'; clear hs'
      repeat (first | refine x_then_panic ?_ | refine x_block_panic ?_)
      refine pq_panic ⟨rfl, rfl, trivial⟩ ?_
      refine c_sub (JcO b1 (Pt jp 0) :: ErO b2 0 :: ((JO jp dp ⟨g, hn, en⟩ sl vr :: Br) ++ (B ++ F))) sbx ?_
      exact open_pan 4 0 b1 b2 _ w0 G G6 _ (B ++ F) (hGa.trans (hGi.trans hG6)) _ rfl _ _ (fun w hs => ⟨G6, hGa.trans (hGi.trans hG6), .inr (.inl ⟨hdead, by rw [hop, hrr]; rfl, rfl, hs⟩)⟩)
    refine a_ret ?_ hs'; clear hs'
    rw [hyes] at hrr
    dsimp only at hrr
    have hkl := rec_le hyes
    refine r_next (fun w h => ((h.weaken hG6).sb)) ?_
    refine r_tkD 13 rfl rfl (v_move rfl) (fun _ h => ((h.weaken hG6).sb)) ?_
    refine r_tkD 14 rfl rfl (v_extract rfl rfl) (fun _ h => ((h.weaken hG6).sb)) ?_
    refine r_tkD 15 rfl rfl (v_extract rfl rfl) (fun _ h => ((h.weaken hG6).sb)) ?_
    refine r_tkD 16 rfl rfl (v_assign rfl) (fun _ h => ((h.weaken hG6).sb)) ?_
    refine r_tkD 17 rfl rfl (v_assign rfl) (fun _ h => ((h.weaken hG6).sb)) ?_
    refine r_done (by kernel_rfl) ?_
    replace hro := hro.up hG6
    obtain ⟨vs, ho, hit⟩ := hro
    have hvl := hit.1
    refine c_sub (JcO b1 (Pt jp 0) :: JO jp dp ⟨g, hn, en⟩ sl vr :: ErO b2 0 :: (Br ++ (B ++ F))) sbx ?_
    refine ww ?_
    refine r_startS [JcO b1 (Pt jp 0), JO jp dp ⟨g, hn, en⟩ sl vr] [10] (by kernel_rfl) (fun w h => h.sb) ?_
    refine r_tkD 0 rfl rfl (v_load rfl (Cel.head rfl) (by kernel_rfl)) (fun _ h => (h.sb)) ?_
    refine r_tkD 1 rfl rfl (v_load rfl (Cel.head rfl) (by kernel_rfl)) (fun _ h => (h.sb)) ?_
    refine r_tkD 2 rfl rfl (v_nilCheck rfl) (fun _ h => (h.sb)) ?_
    refine r_tkD 3 rfl rfl (v_field 5 rfl (by kernel_rfl)) (fun _ h => (h.sb)) ?_
    refine r_tkD 4 rfl rfl (v_load rfl (Cel.tail (Cel.head rfl)) (by kernel_rfl)) (fun _ h => (h.sb)) ?_
    refine r_tkD 5 rfl rfl (v_move rfl) (fun _ h => (h.sb)) ?_
    refine r_one 6 (by kernel_rfl) rfl ?_
    refine s_lit (z := .slice none 0 0) (bs := 24) (e := 31) [_] (by kernel_rfl) rfl rfl rfl rfl (by simpa using hu.one) rfl (by decide) fun b6 => ?_
    refine r_next (fun w h => (h.sb)) ?_
    refine r_one 7 (by kernel_rfl) rfl ?_
    refine s_append (e := 31) (z := .slice none 0 0) (sz := 1) (bs := 24) (by kernel_rfl) rfl rfl rfl rfl ho (Chunk.tail (Chunk.tail (Chunk.tail (Chunk.tail Chunk.head)))) (SV.block .head (by simp [maxLen])) rfl (by decide) rfl (by simpa using hu.one) (by simp; omega) (by simp; omega) fun u7 B7 ho7 => ?_
    have hro7 : RO G6 u7 (rows ++ [r]) B7 := ⟨vs ++ [u], by rw [List.length_append]; exact ho7, hit.snoc hu⟩
    have hu7 : u7.oneCell' = true := by obtain ⟨ad, c, e⟩ := ho7.form; rw [e]; rfl
    refine c_sub (JO jp dp ⟨g, hn, en⟩ sl vr :: JcO b1 (Pt jp 0) :: ErO b2 0 :: (B7 ++ (B ++ F))) sbx ?_
    refine r_next (fun w h => (h.sb)) ?_
    refine r_one 8 (by kernel_rfl) rfl ?_; refine s_val (v_nilCheck rfl) rfl rfl rfl ?_; refine r_next (fun w h => (h.sb)) ?_
    refine r_one 9 (by kernel_rfl) rfl ?_; refine s_val (v_field 5 rfl (by kernel_rfl)) rfl rfl rfl ?_; refine r_next (fun w h => (h.sb)) ?_
    refine r_one 10 (by kernel_rfl) rfl ?_
    refine s_store1 rfl rfl rfl .head (by kernel_rfl) hu7 (by simp) ?_
    change Holds _ _ _ _ _ (JO jp dp ⟨g, hn, en⟩ sl u7 :: JcO b1 (Pt jp 0) :: ErO b2 0 :: (B7 ++ (B ++ F))) _
    refine r_late rfl ?_
    refine r_done (by kernel_rfl) ?_
    refine ww ?_
    refine n_next (x := (i, Gi, vr, Br, rows)) (i + k, G6, u7, B7, rows ++ [r]) ⟨by dsimp only; omega, hGi.trans hG6, hro7, by dsimp only; rw [List.length_append]; simp; omega, ?_⟩ (by dsimp only; omega) ⟨rfl, rfl, rfl, rfl, trivial⟩ rfl sbx
    dsimp only
    rw [hrr, show en - i - k = en - (i + k) by omega, Nat.add_assoc]
    cases recsS D.now (en - (i + k)) (2 + hn * jz D.now.length + (i + k)) (en - (i + k)) with
    | none => rfl
    | some rs => simp
  have hie : i = en := by change ¬ (i : Int) < (en : Int) at c6; omega
  subst hie
  rw [Nat.sub_self] at hrr
  have hfin : openS D.now = some ⟨⟨g, hn, i⟩, sl, rows⟩ := by
    rw [hop, hrr]
    simp [recsS]
  refine ww ?_
  refine c_cons (s_val (v_load rfl (Cel.head rfl) (by kernel_rfl)) rfl rfl rfl ?_)
  refine c_cons (s_store1 rfl rfl rfl .head (by kernel_rfl) rfl (by simp) ?_)
  refine c_cons (s_store1 rfl rfl rfl (.tail (.tail .head)) (by kernel_rfl) rfl (by simp) ?_)
  change Holds _ _ _ _ _ (ErO b2 0 :: JcO b1 (Pt jp 0) :: JO jp dp ⟨g, hn, i⟩ sl vr :: (Br ++ (B ++ F))) _
  refine ww ?_
  refine pq_ret ?_
  exact d_ret1 (by kernel_rfl) (fun w hs => catchO_n b1 b2 _ w _ _ hs) (fun a e y w' ht ⟨h1, h2, h3⟩ => ⟨h1, h2, _, res_c2 ht rfl rfl rfl (by kernel_rfl) (by kernel_rfl) h3 (Cel.tail (Cel.head rfl)) (Cel.head rfl), Gi, hGa.trans hGi, .inr (.inr ⟨hdead, _, jp, _, hfin, rfl, ⟨vr, Br, rfl, hro⟩, h3.sb⟩)⟩)
end

section
open Go
set_option linter.unusedVariables false
set_option linter.unusedSimpArgs false
set_option maxHeartbeats 3200000
theorem be3 (x : Int) : be x 3 = [lowB (x / 2 ^ (16 : Int).toNat), lowB (x / 2 ^ (8 : Int).toNat), lowB x] := by
  unfold be
  rw [show List.range 3 = [0, 1, 2] by decide]
  simp
theorem take_cap {α : Type} (xs : List α) (a : Nat) : (xs.drop a).take (min (a + 64) xs.length - a) = (xs.drop a).take 64 := by
  by_cases h : a + 64 ≤ xs.length
  · rw [Nat.min_eq_left h]; congr 1; omega
  · rw [Nat.min_eq_right (by omega), List.take_of_length_le (by rw [List.length_drop]; omega), List.take_of_length_le (by rw [List.length_drop]; omega)]
theorem write_grow (D : Dk) (n : Int) (x : List UInt8) : (writeS D n x).1.ops ≤ D.ops + 1 ∧ (writeS D n x).1.since.length ≤ D.since.length + 1 ∧ (writeS D n x).1.now.length = D.now.length := by
  unfold writeS
  split
  · exact ⟨by dsimp only; omega, by dsimp only; omega, rfl⟩
  · split
    · unfold opS
      by_cases hf : (addS D n.toNat x).fuse = 0
      · rw [if_pos hf]; exact ⟨by simp only [wrt, addS]; omega, by simp [wrt, addS], rfl⟩
      · rw [if_neg hf]; exact ⟨by simp only [wrt, addS]; omega, by simp [wrt, addS], by simp [wrt, addS]⟩
    · exact ⟨by dsimp only; omega, by dsimp only; omega, rfl⟩
theorem sync_grow (D : Dk) : (syncS D).1.ops ≤ D.ops + 1 ∧ (syncS D).1.since.length ≤ D.since.length ∧ (syncS D).1.now.length = D.now.length := by
  unfold syncS
  split
  · exact ⟨by dsimp only; omega, Nat.le_refl _, rfl⟩
  · unfold opS
    by_cases hf : D.fuse = 0
    · rw [if_pos hf]; exact ⟨by simp only [synced]; omega, Nat.le_refl _, rfl⟩
    · rw [if_neg hf]; exact ⟨by simp only [synced]; omega, by simp [synced], rfl⟩
attribute [local irreducible] Code.wp wpList stepK Holds Val wpR Eff Eff0 Code.wpIn wpListIn stepI Exit.then Exit.inBlock bodyPost bodyPostM

theorem jput_c (jp dp : Nat) (B : Hp) (D : Dk) (hr : DH dp D B) (hl : 6 ≤ D.now.length ∧ D.now.length ≤ 4160) (hd : Jh) (s : Int) (vr : Value) (half at' : Nat) (hh : half ≤ 1) (hat : at' ≤ 4160) (b : List UInt8) (hb : b.length ≤ 65536) (i : Nat) (hi : i < jk b.length) (bj bh ba bl : Nat) (va : Value)
    (hsm : D.since.length < 1000000) (ho : D.ops < 1000000) (w0 w : World) (G : Im) (F : Hp) (kj : G bj = some (Cs [Pt jp 0] 27)) (kh : G bh = some (Cs [I64 (half : Int)] 3)) (ka : G ba = some (Cs [I64 (at' : Int)] 3)) (kl : G bl = some (Cs [va] 31)) (hva : SV G [] va (recB b).length ((recB b).map B8)) (hs : Sat w0 w G (B ++ (JO jp dp hd s vr :: F))) :
    Calls Try.prog 67 #[I64 (i : Int), Pt bj 0, Pt bh 0, Pt ba 0, Pt bl 0] w fun e w' => ∃ G' B', Im.le G G' ∧ e = .returned (I64 (writeS D ((2 + half * jz D.now.length + at' + i : Nat) : Int) (secAt b i)).2) ∧ DH dp (writeS D ((2 + half * jz D.now.length + at' + i : Nat) : Int) (secAt b i)).1 B' ∧ Sat w0 w' G' (B' ++ (JO jp dp hd s vr :: F)) := by
  obtain ⟨adl, cpl, rfl⟩ := hva.form
  have hcap : (recB b).length ≤ cpl := by
    obtain ⟨_, _, e, h1, _⟩ := hva
    cases e; exact h1
  refine f_enter (vs := [_, _, _, _, _]) Try.func67 rfl Try.ntmps67 (by simp) hs ?_
  have hrl : (recB b).length = b.length + 3 := by simp [recB, be_len]; omega
  have hik : i * 64 < b.length + 3 := by unfold jk at hi; omega
  refine ww ?_
  refine c_cons (s_val (v_mul rfl rfl (by omega)) rfl rfl rfl ?_)
  rw [show (i : Int) * 64 = ((i * 64 : Nat) : Int) by omega]
  have hsec : secAt b i = pad64 (((recB b).drop (i * 64)).take (min (i * 64 + 64) (recB b).length - i * 64)) := by unfold secAt; rw [take_cap]
  obtain ⟨h2, hh2⟩ : ∃ h2, h2 = min (i * 64 + 64) (recB b).length := ⟨_, rfl⟩
  have hmid : SV G [] (slMid adl cpl (i * 64) h2 1) (((recB b).drop (i * 64)).take (h2 - i * 64)).length ((((recB b).drop (i * 64)).take (h2 - i * 64)).map B8) := by
    have h := hva.mid (s := 1) (l := i * 64) (h := h2) (by omega) (by omega)
    simp only [Nat.mul_one] at h
    rw [show (((recB b).drop (i * 64)).take (h2 - i * 64)).length = h2 - i * 64 by rw [List.length_take, List.length_drop]; omega, List.map_take, List.map_drop]
    exact h
  have hml : (((recB b).drop (i * 64)).take (h2 - i * 64)).length ≤ 64 := by rw [List.length_take, List.length_drop]; omega
  have hz : jz D.now.length ≤ 2079 := by unfold jz; omega
  have hpos : ((2 + half * jz D.now.length : Nat) : Int) + (at' : Int) + (i : Int) = ((2 + half * jz D.now.length + at' + i : Nat) : Int) := by omega
  have hz2 : half * jz D.now.length ≤ 2079 := by rcases (show half = 0 ∨ half = 1 by omega) with e | e <;> rw [e] <;> omega
  rw [← hh2] at hsec
  refine ww ?_
  refine r_startS [JO jp dp hd s vr] [] (by kernel_rfl) (fun w h => h.sb) ?_
  refine r_tk 0 rfl rfl (v_load rfl (Cel.imm kj rfl) (by kernel_rfl)) (fun _ h => (h.sb)) ?_
  refine r_tk 1 rfl rfl (v_nilCheck rfl) (fun _ h => (h.sb)) ?_
  refine r_tk 2 rfl rfl (v_field 0 rfl (by kernel_rfl)) (fun _ h => (h.sb)) ?_
  refine r_tk 3 rfl rfl (v_load rfl (Cel.head rfl) (by kernel_rfl)) (fun _ h => (h.sb)) ?_
  refine r_tk 4 rfl rfl (v_load rfl (Cel.imm kj rfl) (by kernel_rfl)) (fun _ h => (h.sb)) ?_
  refine r_tk 5 rfl rfl (v_nilCheck rfl) (fun _ h => (h.sb)) ?_
  refine r_tk 6 rfl rfl (v_field 0 rfl (by kernel_rfl)) (fun _ h => (h.sb)) ?_
  refine r_tk 7 rfl rfl (v_load rfl (Cel.head rfl) (by kernel_rfl)) (fun _ h => (h.sb)) ?_
  refine r_tk 8 rfl rfl (v_load rfl (Cel.imm kh rfl) (by kernel_rfl)) (fun _ h => (h.sb)) ?_
  refine r_tk 10 rfl rfl (v_load rfl (Cel.imm ka rfl) (by kernel_rfl)) (fun _ h => (h.sb)) ?_
  refine r_tk 12 rfl rfl (v_move rfl) (fun _ h => (h.sb)) ?_
  refine r_tk 14 rfl rfl (v_load rfl (Cel.imm kl rfl) (by kernel_rfl)) (fun _ h => (h.sb)) ?_
  refine r_tk 15 rfl rfl (v_move rfl) (fun _ h => (h.sb)) ?_
  refine r_tk 16 rfl rfl (v_move rfl) (fun _ h => (h.sb)) ?_
  refine r_tk 17 rfl rfl (v_add rfl rfl (by omega)) (fun _ h => (h.sb)) ?_
  refine r_tk 18 rfl rfl (v_load rfl (Cel.imm kl rfl) (by kernel_rfl)) (fun _ h => (h.sb)) ?_
  refine r_tk 19 rfl rfl (v_len rfl (by kernel_rfl)) (fun _ h => (h.sb)) ?_
  refine r_tk 20 rfl rfl (v_min rfl rfl) (fun _ h => (h.sb)) ?_
  rw [show min (((i * 64 : Nat) : Int) + 64) ((recB b).length : Int) = ((h2 : Nat) : Int) by omega]
  refine r_tk 21 rfl rfl (v_slMid (i * 64) h2 1 rfl rfl rfl (by kernel_rfl) (by omega) (by omega)) (fun _ h => (h.sb)) ?_
  refine r_one 9 (by kernel_rfl) rfl ?_
  refine s_call (xs := [_, _]) rfl rfl rfl rfl rfl rfl (by kernel_rfl) (fun w hs => jstart_c dp B D hr (by omega) half hh _ w _ _ hs) ?_
  rintro e w' ⟨rfl, hs'⟩; refine a_ret ?_ hs'; clear hs'
  refine r_next (fun w h => (h.sb)) ?_
  refine r_tk 11 rfl rfl (v_add rfl rfl (by omega)) (fun _ h => (h.sb)) ?_
  refine r_tk 13 rfl rfl (v_add rfl rfl (by omega)) (fun _ h => (h.sb)) ?_
  rw [hpos]
  refine r_one 22 (by kernel_rfl) rfl ?_
  refine s_call (xs := [_]) rfl rfl rfl rfl rfl rfl (by kernel_rfl) (fun w hs => jsec_c _ _ hml _ w _ _ hmid hs) ?_
  rw [← hsec]
  rintro e w' ⟨G5, u5, rfl, hG5, hu5, hs'⟩; refine a_ret ?_ hs'; clear hs'
  refine r_next (fun w h => ((h.weaken hG5).sb)) ?_
  refine r_one 23 (by kernel_rfl) rfl ?_
  refine s_call (xs := [_, _, _]) rfl rfl rfl rfl rfl rfl (by kernel_rfl) (fun w hs => write_c dp B D hr _ _ _ hsm ho _ w _ _ (hu5.mono (Im.le_refl _) (by simp)) hs) ?_
  rintro e w' ⟨B6, rfl, hr6, hs'⟩; refine a_ret ?_ hs'; clear hs'
  refine r_next (fun w h => ((h.weaken hG5).sb)) ?_
  refine r_tk 24 rfl rfl (v_assign rfl) (fun _ h => ((h.weaken hG5).sb)) ?_
  refine r_done (by kernel_rfl) ?_
  refine ww ?_
  exact f_ret1 rfl rfl (fun w hs => ⟨G5, B6, hG5, rfl, hr6, hs⟩)

theorem thenSync_ne {R : Dk × Int} (h : ¬ R.2 = 0) (p : Int) (x : List UInt8) : headS (thenSync R) p x = R := by
  have e : thenSync R = R := by unfold thenSync; rw [if_neg h]
  rw [e]; unfold headS; rw [if_neg h]
theorem puts_cons (D : Dk) (p : Nat) (x : List UInt8) (r : List (List UInt8)) : putsS D p (x :: r) = if (writeS D p x).2 = 0 then putsS (writeS D p x).1 (p + 1) r else writeS D p x := rfl
/-- What a journal says of itself behind a record. -/
def okH (J : Jn) (half at' : Int) (b : List UInt8) (e : Int) : Jh := if e = 0 then newH J half at' b else J.hd
def okS (J : Jn) (e : Int) : Int := if e = 0 then 1 - J.s else J.s
theorem lay_run {D : Dk} {J : Jn} {half at' : Nat} {b : List UInt8} (h1 : b.length ≤ 65536) (h2 : ¬ ((jz D.now.length : Int) - at' < jk b.length ∨ 1099511627775 ≤ J.hd.g)) :
    layS D J half at' b = headS (thenSync (putsS D (2 + half * jz D.now.length + at') (secsL b))) (1 - J.s) (pad64 (hdB (newH J half at' b))) := by
  unfold layS
  rw [if_neg (by omega), if_neg h2, Int.toNat_natCast, Int.toNat_natCast]

theorem jlay_c (jp dp : Nat) (B : Hp) (D : Dk) (hr : DH dp D B) (hl : 6 ≤ D.now.length ∧ D.now.length ≤ 4160) (J : Jn) (hJ : gdJ J.hd) (hs01 : J.s = 0 ∨ J.s = 1) (vr : Value) (half at' : Nat) (hh : half ≤ 1) (hat : at' ≤ jz D.now.length) (vb : Value) (b : List UInt8) (hbl : b.length ≤ 1000000)
    (hsm : D.since.length < 990000) (ho : D.ops < 990000) (w0 w : World) (G : Im) (F : Hp) (hvb : SV G [] vb b.length (b.map B8)) (hs : Sat w0 w G (JO jp dp J.hd J.s vr :: (B ++ F))) :
    Calls Try.prog 44 #[Pt jp 0, I64 (half : Int), I64 (at' : Int), vb] w fun e w' => ∃ G' B', Im.le G G' ∧ e = .returned (I64 (layS D J half at' b).2) ∧ DH dp (layS D J half at' b).1 B' ∧ Sat w0 w' G' (JO jp dp (okH J half at' b (layS D J half at' b).2) (okS J (layS D J half at' b).2) vr :: (B' ++ F)) := by
  obtain ⟨adb, cpb, rfl⟩ := hvb.form
  obtain ⟨hg1, hg2, hg3⟩ := id hJ
  have hz : jz D.now.length ≤ 2079 := by unfold jz; omega
  refine f_enter (vs := [_, _, _, _]) Try.func44 rfl Try.ntmps44 (by simp) hs ?_
  refine ww ?_
  refine c_cons (s_box rfl rfl rfl fun bj => ?_)
  refine c_freeze .head fun G1 hG1 kj => ?_
  refine c_cons (s_box rfl rfl rfl fun bh => ?_)
  refine c_freeze .head fun G2 hG2 kh => ?_
  refine c_cons (s_box rfl rfl rfl fun ba => ?_)
  refine c_freeze .head fun G3 hG3 ka => ?_
  replace kh := hG3 _ _ kh
  replace kj := hG3 _ _ (hG2 _ _ kj)
  have hGa := hG1.trans (hG2.trans hG3)
  replace hvb := hvb.mono (H' := []) hGa (fun p hp => hp)
  refine wn ?_
  refine c_seq ?_
  refine ww ?_
  refine c_cons (s_val (v_load rfl (Cel.imm kj rfl) (by kernel_rfl)) rfl rfl rfl ?_)
  refine ww ?_
  refine c_cons (s_val (v_load rfl (Cel.imm kj rfl) (by kernel_rfl)) rfl rfl rfl ?_)
  refine ww ?_
  refine c_cons (s_val (v_field 0 rfl (by kernel_rfl)) rfl rfl rfl ?_)
  refine c_cons (s_val (v_load rfl (Cel.head rfl) (by kernel_rfl)) rfl rfl rfl ?_)
  refine ww ?_
  refine c_cond_f rfl ?_
  refine c_seq ?_
  refine c_region ?_
  refine c_cons (s_val (v_move rfl) rfl rfl rfl ?_)
  refine c_cons (s_val (v_len rfl (by kernel_rfl)) rfl rfl rfl ?_)
  refine c_cons (s_val (v_gtr rfl rfl) rfl rfl rfl ?_)
  refine c_cons (s_val (v_assign rfl) rfl rfl rfl ?_)
  refine c_nil ?_
  refine x_then ?_
  refine c_cond_d rfl (fun c3 => ?_) (fun c3 => ?_)
  · -- then
    have e : layS D J half at' b = (D, 3) := by unfold layS; rw [if_pos (by omega)]
    rw [e]
    refine ww ?_
    exact f_ret1 rfl rfl (fun w hs => ⟨G3, B, hGa, rfl, hr, hs⟩)
  have hb : b.length ≤ 65536 := by omega
  have hjk : jk b.length ≤ 1025 := by unfold jk; omega
  have hkp := jk_pos b.length
  have hrl : (recB b).length = b.length + 3 := by simp [recB, be_len]; omega
  refine ww ?_
  refine r_startS [JO jp dp J.hd J.s vr] [] (by kernel_rfl) (fun w h => h.sb) ?_
  refine r_tk 0 rfl rfl (v_move rfl) (fun _ h => (h.sb)) ?_
  refine r_tk 1 rfl rfl (v_len rfl (by kernel_rfl)) (fun _ h => (h.sb)) ?_
  refine r_tk 3 rfl rfl (v_load rfl (Cel.imm kj rfl) (by kernel_rfl)) (fun _ h => (h.sb)) ?_
  refine r_tk 4 rfl rfl (v_nilCheck rfl) (fun _ h => (h.sb)) ?_
  refine r_tk 5 rfl rfl (v_field 0 rfl (by kernel_rfl)) (fun _ h => (h.sb)) ?_
  refine r_tk 6 rfl rfl (v_load rfl (Cel.head rfl) (by kernel_rfl)) (fun _ h => (h.sb)) ?_
  refine r_tk 8 rfl rfl (v_load rfl (Cel.imm ka rfl) (by kernel_rfl)) (fun _ h => (h.sb)) ?_
  refine r_one 2 (by kernel_rfl) rfl ?_
  refine s_call (xs := [_]) rfl rfl rfl rfl rfl rfl (by kernel_rfl) (fun w hs => jsectors_c b.length (by omega) _ w _ _ hs) ?_
  rintro e w' ⟨rfl, hs'⟩; refine a_ret ?_ hs'; clear hs'
  refine r_next (fun w h => (h.sb)) ?_
  refine c_sub (B ++ (JO jp dp J.hd J.s vr :: F)) sbx ?_
  refine r_one 7 (by kernel_rfl) rfl ?_
  refine s_call (xs := [_]) rfl rfl rfl rfl rfl rfl (by kernel_rfl) (fun w hs => jsize_c dp B D hr (by omega) _ w _ _ hs) ?_
  rintro e w' ⟨rfl, hs'⟩; refine a_ret ?_ hs'; clear hs'
  refine r_next (fun w h => (h.sb)) ?_
  refine r_tk 9 rfl rfl (v_sub rfl rfl (by omega)) (fun _ h => (h.sb)) ?_
  refine r_tk 10 rfl rfl (v_gtr rfl rfl) (fun _ h => (h.sb)) ?_
  refine r_tk 11 rfl rfl (v_move rfl) (fun _ h => (h.sb)) ?_
  refine c_part_d 44 _ rfl (fun c4 => ?_) (fun c4 => ?_)
  · -- t44 = True
    have e : layS D J half at' b = (D, 5) := by unfold layS; rw [if_neg (by omega), if_pos (.inl (by omega))]
    rw [e]
    refine r_skip 12 rfl (by kernel_rfl) (by kernel_rfl) (by kernel_rfl) (by kernel_rfl) rfl rfl rfl (fun _ h => (h.sb)) (by repeat (first | exact pk_body | exact pk_no | exact pk_S | apply pk_then | apply pk_block)) ?_; refine r_skip 13 rfl (by kernel_rfl) (by kernel_rfl) (by kernel_rfl) (by kernel_rfl) rfl rfl rfl (fun _ h => (h.sb)) (by repeat (first | exact pk_body | exact pk_no | exact pk_S | apply pk_then | apply pk_block)) ?_; refine r_skip 14 rfl (by kernel_rfl) (by kernel_rfl) (by kernel_rfl) (by kernel_rfl) rfl rfl rfl (fun _ h => (h.sb)) (by repeat (first | exact pk_body | exact pk_no | exact pk_S | apply pk_then | apply pk_block)) ?_; refine r_skip 15 rfl (by kernel_rfl) (by kernel_rfl) (by kernel_rfl) (by kernel_rfl) rfl rfl rfl (fun _ h => (h.sb)) (by repeat (first | exact pk_body | exact pk_no | exact pk_S | apply pk_then | apply pk_block)) ?_; refine r_skip 16 rfl (by kernel_rfl) (by kernel_rfl) (by kernel_rfl) (by kernel_rfl) rfl rfl rfl (fun _ h => (h.sb)) (by repeat (first | exact pk_body | exact pk_no | exact pk_S | apply pk_then | apply pk_block)) ?_; refine r_skip 17 rfl (by kernel_rfl) (by kernel_rfl) (by kernel_rfl) (by kernel_rfl) rfl rfl rfl (fun _ h => (h.sb)) (by repeat (first | exact pk_body | exact pk_no | exact pk_S | apply pk_then | apply pk_block)) ?_
    refine r_tk 18 rfl rfl (v_pick_t rfl rfl) (fun _ h => (h.sb)) ?_
    refine r_tk 19 rfl rfl (v_assign rfl) (fun _ h => (h.sb)) ?_
    refine r_done (by kernel_rfl) ?_
    refine ww ?_
    refine c_cond_t rfl ?_
    refine ww ?_
    exact f_ret1 rfl rfl (fun w hs => ⟨G3, B, hGa, rfl, hr, (show Sat w0 w G3 (JO jp dp J.hd J.s vr :: (B ++ F)) from hs.sb)⟩)
  refine r_tk 12 rfl rfl (v_load rfl (Cel.imm kj rfl) (by kernel_rfl)) (fun _ h => (h.sb)) ?_
  refine r_tk 13 rfl rfl (v_nilCheck rfl) (fun _ h => (h.sb)) ?_
  refine r_tk 14 rfl rfl (v_field 1 rfl (by kernel_rfl)) (fun _ h => (h.sb)) ?_
  refine r_tk 15 rfl rfl (v_field 0 rfl (by kernel_rfl)) (fun _ h => (h.sb)) ?_
  refine r_tk 16 rfl rfl (v_load rfl (Cel.head rfl) (by kernel_rfl)) (fun _ h => (h.sb)) ?_
  refine r_tk 17 rfl rfl (v_geq rfl rfl) (fun _ h => (h.sb)) ?_
  refine r_tk 18 rfl rfl (v_pick_f rfl rfl) (fun _ h => (h.sb)) ?_
  refine r_tk 19 rfl rfl (v_assign rfl) (fun _ h => (h.sb)) ?_
  refine r_done (by kernel_rfl) ?_
  refine x_then ?_
  refine c_cond_d rfl (fun c5 => ?_) (fun c5 => ?_)
  · -- then
    have e : layS D J half at' b = (D, 5) := by unfold layS; rw [if_neg (by omega), if_pos (.inr (by omega))]
    rw [e]
    refine ww ?_
    exact f_ret1 rfl rfl (fun w hs => ⟨G3, B, hGa, rfl, hr, (show Sat w0 w G3 (JO jp dp J.hd J.s vr :: (B ++ F)) from hs.sb)⟩)
  have hrun := lay_run (D := D) (J := J) (half := half) (at' := at') (b := b) hb (by omega)
  rw [hrun]
  have hgn : gdJ (newH J half at' b) := by unfold gdJ newH; dsimp only; omega
  obtain ⟨p, hp⟩ : ∃ p, p = 2 + half * jz D.now.length + at' := ⟨_, rfl⟩
  rw [← hp]
  obtain ⟨R, hR⟩ : ∃ R, R = headS (thenSync (putsS D p (secsL b))) (1 - J.s) (pad64 (hdB (newH J half at' b))) := ⟨_, rfl⟩
  rw [← hR]
  refine ww ?_
  refine c_cons (s_val (v_shr rfl rfl (by omega)) rfl rfl rfl ?_)
  refine c_cons (s_val (v_byte rfl (by kernel_rfl) (by kernel_rfl)) rfl rfl rfl ?_)
  refine ww ?_
  refine c_cons (s_val (v_shr rfl rfl (by omega)) rfl rfl rfl ?_)
  refine c_cons (s_val (v_byte rfl (by kernel_rfl) (by kernel_rfl)) rfl rfl rfl ?_)
  refine ww ?_
  refine c_cons (s_val (v_byte rfl (by kernel_rfl) (by kernel_rfl)) rfl rfl rfl ?_)
  refine c_cons (s_lit (z := B8 0) (bs := 1) (e := 5) [_, _, _] (by kernel_rfl) rfl rfl rfl rfl (by simp [Value.oneCell']) rfl (by decide) fun b4 => ?_)
  refine ww ?_
  refine c_cons (s_append (e := 5) (z := B8 0) (sz := 1) (bs := 1) (by kernel_rfl) rfl rfl rfl rfl (Own.full (by simp) (by simp [maxLen])) Chunk.one (hvb.mono (Im.le_refl _) (by simp)) rfl (by decide) (by simp) (B8_one b) (by simp; omega) (by simp; omega) fun u5 B5 hown5 => ?_)
  have e5 : [B8 (lowB ((b.length : Int) / 2 ^ (16 : Int).toNat)), B8 (lowB ((b.length : Int) / 2 ^ (8 : Int).toNat)), B8 (lowB (b.length : Int))] ++ b.map B8 = (recB b).map B8 := by
    unfold recB
    rw [be3, List.map_append]; rfl
  have hown5' : OB u5 (recB b) B5 := by
    show Own u5 (recB b).length ((recB b).map B8) _ _ _
    rw [← e5, hrl, Nat.add_comm]; exact hown5
  clear hown5
  refine c_freezeO hown5' Chunk.head fun G6 hG6 hsv6 => ?_
  have h1u := hsv6.one
  refine c_cons (s_alloc (.slice none 0 0) (by kernel_rfl) rfl rfl fun bl => ?_)
  refine c_cons (s_store1 rfl rfl rfl .head (by kernel_rfl) h1u (by simp [Value.cells]) ?_)
  change Holds _ _ _ _ _ ((bl, Cs [u5] 31) :: _) _
  refine c_freeze .head fun G7 hG7 kl => ?_
  have hGb := hGa.trans (hG6.trans hG7)
  replace kj := hG7 _ _ (hG6 _ _ kj)
  replace kh := hG7 _ _ (hG6 _ _ kh)
  replace ka := hG7 _ _ (hG6 _ _ ka)
  replace hsv6 := hsv6.mono (H' := []) hG7 (fun p hp => hp)
  refine ww ?_
  refine c_cons (s_call (xs := [_]) rfl rfl rfl rfl rfl rfl (by kernel_rfl) (fun w hs => jsectors_c b.length (by omega) _ w _ _ hs) ?_)
  rintro e w' ⟨rfl, hs'⟩; refine a_ret ?_ hs'; clear hs'
  refine ww ?_
  refine c_loop (α := Nat × Im × Dk × Hp) (fun x => [(4, Pt bj 0), (5, Pt bh 0), (6, Pt ba 0), (9, I64 (b.length : Int)), (11, .func (.func 67) #[] #[Pt bj 0, Pt bh 0, Pt ba 0, Pt bl 0]), (67, I64 (jk b.length : Int)), (68, I64 (x.1 : Int))]) (fun x => x.2.1) (fun x => x.2.2.2 ++ (JO jp dp J.hd J.s vr :: F)) (fun x => x.1 ≤ jk b.length ∧ Im.le G7 x.2.1 ∧ DH dp x.2.2.1 x.2.2.2 ∧ putsS D p (secsL b) = putsS x.2.2.1 (p + x.1) ((secsL b).drop x.1) ∧ x.2.2.1.ops ≤ D.ops + x.1 ∧ x.2.2.1.since.length ≤ D.since.length + x.1 ∧ x.2.2.1.now.length = D.now.length) (fun x => jk b.length - x.1) (0, G7, D, B) ⟨Nat.zero_le _, Im.le_refl _, hr, by rw [List.drop_zero]; rfl, by dsimp only; omega, by dsimp only; omega, rfl⟩ ?_ ?_
  · exact n_at ⟨rfl, rfl, rfl, rfl, rfl, rfl, rfl, trivial⟩ sbx
  rintro ⟨i, Gi, Di, Bi⟩ ⟨hi, hGi, hri, hpu, hop, hsi, hnl⟩
  dsimp only at hi hGi hri hpu hop hsi hnl ⊢
  replace kj := hGi _ _ kj
  replace kh := hGi _ _ kh
  replace ka := hGi _ _ ka
  refine ww ?_
  refine c_cond_d rfl (fun c6 => ?_) (fun c6 => ?_)
  · -- then
    have hik : i < jk b.length := by omega
    have hcons : (secsL b).drop i = secAt b i :: (secsL b).drop (i + 1) := by
      rw [List.drop_eq_getElem_cons (by rw [secsL_len]; exact hik)]
      congr 1
      simp [secsL]
    rw [hcons, puts_cons] at hpu
    have hput := jput_c jp dp Bi Di hri (by omega) J.hd J.s vr half at' hh (by omega) b hb i hik bj bh ba bl u5 (by omega) (by omega)
    rw [hnl, ← hp] at hput
    refine ww ?_
    refine c_cons (s_call (xs := [_]) rfl rfl rfl rfl rfl rfl (by kernel_rfl) (fun w hs => hput _ w _ _ kj kh ka (hGi _ _ kl) (hsv6.mono (H' := []) hGi (fun p hp => hp)) hs) ?_)
    have hgr := write_grow Di ((p + i : Nat) : Int) (secAt b i)
    generalize writeS Di ((p + i : Nat) : Int) (secAt b i) = W at hpu hgr ⊢
    rintro e w' ⟨G8, B8', hG8, rfl, hr8, hs'⟩; refine a_ret ?_ hs'; clear hs'
    refine ww ?_
    refine c_cond_d rfl (fun c7 => ?_) (fun c7 => ?_)
    · -- then
      rw [if_neg c7] at hpu
      have e : R = W := by rw [hR, hpu]; exact thenSync_ne c7 _ _
      rw [e]
      unfold okH okS
      rw [if_neg c7, if_neg c7]
      refine ww ?_
      exact f_ret1 rfl rfl (fun w hs => ⟨G8, B8', hGb.trans (hGi.trans hG8), rfl, hr8, hs.sb⟩)
    rw [if_pos (by omega)] at hpu
    refine ww ?_
    exact n_next (x := (i, Gi, Di, Bi)) (i + 1, G8, W.1, B8') ⟨hik, hGi.trans hG8, hr8, by rw [hpu, Nat.add_assoc], by dsimp only; omega, by dsimp only; omega, by dsimp only; omega⟩ (by dsimp only; omega) ⟨rfl, rfl, rfl, rfl, rfl, rfl, rfl, trivial⟩ rfl sbx
  have hie : i = jk b.length := by omega
  rw [hie, List.drop_of_length_le (by rw [secsL_len]; exact Nat.le_refl _)] at hpu
  change putsS D p (secsL b) = (Di, 0) at hpu
  have e1 : R = headS (syncS Di) (1 - J.s) (pad64 (hdB (newH J half at' b))) := by
    rw [hR, hpu]; rfl
  refine c_sub (JO jp dp J.hd J.s vr :: (Bi ++ F)) sbx ?_
  refine ww ?_
  refine c_cons (s_val (v_load rfl (Cel.imm kj rfl) (by kernel_rfl)) rfl rfl rfl ?_)
  refine ww ?_
  refine c_cons (s_val (v_field 0 rfl (by kernel_rfl)) rfl rfl rfl ?_)
  refine c_cons (s_val (v_load rfl (Cel.head rfl) (by kernel_rfl)) rfl rfl rfl ?_)
  refine c_sub (Bi ++ (JO jp dp J.hd J.s vr :: F)) sbx ?_
  refine c_cons (s_call (xs := [_]) rfl rfl rfl rfl rfl rfl (by kernel_rfl) (fun w hs => sync_c dp Bi Di hri (by omega) _ w _ _ hs) ?_)
  have hgs := sync_grow Di
  generalize syncS Di = S at e1 hgs ⊢
  rintro e w' ⟨B9, rfl, hr9, hs'⟩; refine a_ret ?_ hs'; clear hs'
  refine ww ?_
  refine c_cond_d rfl (fun c8 => ?_) (fun c8 => ?_)
  · -- then
    have e : R = S := by rw [e1]; unfold headS; rw [if_neg c8]
    rw [e]
    unfold okH okS
    rw [if_neg c8, if_neg c8]
    refine ww ?_
    exact f_ret1 rfl rfl (fun w hs => ⟨Gi, B9, hGb.trans hGi, rfl, hr9, hs.sb⟩)
  have e2 : R = if (writeS S.1 (1 - J.s) (pad64 (hdB (newH J half at' b)))).2 = 0 then syncS (writeS S.1 (1 - J.s) (pad64 (hdB (newH J half at' b)))).1 else writeS S.1 (1 - J.s) (pad64 (hdB (newH J half at' b))) := by rw [e1]; unfold headS; rw [if_pos (by omega)]
  refine c_sub (JO jp dp J.hd J.s vr :: (B9 ++ F)) sbx ?_
  have hnh : newH J half at' b = ⟨J.hd.g + 1, half, at' + jk b.length⟩ := rfl
  refine wn ?_
  -- the new head
  refine c_cut (α := Im × Nat) (fun x => [(4, Pt bj 0), (15, Pt x.2 0)]) (fun x => x.1) (fun x => JO jp dp J.hd J.s vr :: (B9 ++ F)) (fun x => Im.le Gi x.1 ∧ x.1 x.2 = some (Cs [I64 (newH J half at' b).g, I64 (newH J half at' b).h, I64 (newH J half at' b).e] 75)) ?_ ?_
  · refine ww ?_
    refine r_startS [JO jp dp J.hd J.s vr] [] (by kernel_rfl) (fun w h => h.sb) ?_
    refine r_tk 0 rfl rfl (v_load rfl (Cel.imm kj rfl) (by kernel_rfl)) (fun _ h => (h.sb)) ?_
    refine r_tk 1 rfl rfl (v_nilCheck rfl) (fun _ h => (h.sb)) ?_
    refine r_tk 2 rfl rfl (v_field 1 rfl (by kernel_rfl)) (fun _ h => (h.sb)) ?_
    refine r_tk 3 rfl rfl (v_field 0 rfl (by kernel_rfl)) (fun _ h => (h.sb)) ?_
    refine r_tk 4 rfl rfl (v_load rfl (Cel.head rfl) (by kernel_rfl)) (fun _ h => (h.sb)) ?_
    refine r_tk 5 rfl rfl (v_add rfl rfl (by omega)) (fun _ h => (h.sb)) ?_
    refine r_tk 6 rfl rfl (v_load rfl (Cel.imm kh rfl) (by kernel_rfl)) (fun _ h => (h.sb)) ?_
    refine r_tk 7 rfl rfl (v_load rfl (Cel.imm ka rfl) (by kernel_rfl)) (fun _ h => (h.sb)) ?_
    refine r_tk 8 rfl rfl (v_move rfl) (fun _ h => (h.sb)) ?_
    refine r_two 9 12 (by kernel_rfl) rfl rfl ?_ ?_
    · refine s_call (xs := [_]) rfl rfl rfl rfl rfl rfl (by kernel_rfl) (fun w hs => jsectors_c b.length (by omega) _ w _ _ hs) ?_
      rintro e w' ⟨rfl, hs'⟩; refine a_ret ?_ hs'; clear hs'
      refine r_next (fun w h => (h.sb)) ?_
      refine r_tk 10 rfl rfl (v_add rfl rfl (by omega)) (fun _ h => (h.sb)) ?_
      refine r_tk 11 rfl rfl (v_build (ps := [_, _, _]) #[I64 (J.hd.g + 1), I64 half, I64 (at' + jk b.length)] rfl (by kernel_rfl)) (fun _ h => (h.sb)) ?_
      refine r_one 12 (by kernel_rfl) rfl ?_
      refine s_allocA [I64 0, I64 0, I64 0] (by kernel_rfl) rfl rfl fun b7 => ?_
      refine r_next (fun w h => (h.sb)) ?_
      refine r_one 13 (by kernel_rfl) rfl ?_
      refine s_storeA (vs := [I64 (J.hd.g + 1), I64 half, I64 (at' + jk b.length)]) rfl rfl rfl .head (by kernel_rfl) (by simp [Value.oneCell']) rfl ?_
      refine r_next (fun w h => (h.sb)) ?_
      refine r_done (by kernel_rfl) ?_
      refine c_freeze .head fun G9 hG9 k9 => ?_
      refine ww ?_
      exact n_mid (G9, b7) ⟨hG9, k9⟩ ⟨rfl, rfl, trivial⟩ rfl sbx
    · refine s_allocA [I64 0, I64 0, I64 0] (by kernel_rfl) rfl rfl fun b7 => ?_
      refine r_next (fun w h => (h.sb)) ?_
      refine r_one 9 (by kernel_rfl) rfl ?_
      refine s_call (xs := [_]) rfl rfl rfl rfl rfl rfl (by kernel_rfl) (fun w hs => jsectors_c b.length (by omega) _ w _ _ hs) ?_
      rintro e w' ⟨rfl, hs'⟩; refine a_ret ?_ hs'; clear hs'
      refine r_next (fun w h => (h.sb)) ?_
      refine r_tk 10 rfl rfl (v_add rfl rfl (by omega)) (fun _ h => (h.sb)) ?_
      refine r_tk 11 rfl rfl (v_build (ps := [_, _, _]) #[I64 (J.hd.g + 1), I64 half, I64 (at' + jk b.length)] rfl (by kernel_rfl)) (fun _ h => (h.sb)) ?_
      refine r_one 13 (by kernel_rfl) rfl ?_
      refine s_storeA (vs := [I64 (J.hd.g + 1), I64 half, I64 (at' + jk b.length)]) rfl rfl rfl .head (by kernel_rfl) (by simp [Value.oneCell']) rfl ?_
      refine r_next (fun w h => (h.sb)) ?_
      refine r_done (by kernel_rfl) ?_
      refine c_freeze .head fun G9 hG9 k9 => ?_
      refine ww ?_
      exact n_mid (G9, b7) ⟨hG9, k9⟩ ⟨rfl, rfl, trivial⟩ rfl sbx
  rintro ⟨G9, b7⟩ ⟨hG9, k9⟩
  dsimp only at hG9 k9 ⊢
  replace kj := hG9 _ _ kj
  obtain ⟨nh, hnh2⟩ : ∃ nh, nh = newH J half at' b := ⟨_, rfl⟩
  rw [← hnh2] at hgn e2 k9
  obtain ⟨x, hx⟩ : ∃ x, x = pad64 (hdB nh) := ⟨_, rfl⟩
  refine ww ?_
  refine r_startS [JO jp dp J.hd J.s vr] [] (by kernel_rfl) (fun w h => h.sb) ?_
  refine r_tk 0 rfl rfl (v_load rfl (Cel.imm kj rfl) (by kernel_rfl)) (fun _ h => (h.sb)) ?_
  refine r_tk 1 rfl rfl (v_nilCheck rfl) (fun _ h => (h.sb)) ?_
  refine r_tk 2 rfl rfl (v_field 0 rfl (by kernel_rfl)) (fun _ h => (h.sb)) ?_
  refine r_tk 3 rfl rfl (v_load rfl (Cel.head rfl) (by kernel_rfl)) (fun _ h => (h.sb)) ?_
  refine r_tk 4 rfl rfl (v_load rfl (Cel.imm kj rfl) (by kernel_rfl)) (fun _ h => (h.sb)) ?_
  refine r_tk 5 rfl rfl (v_nilCheck rfl) (fun _ h => (h.sb)) ?_
  refine r_tk 6 rfl rfl (v_field 4 rfl (by kernel_rfl)) (fun _ h => (h.sb)) ?_
  refine r_tk 7 rfl rfl (v_load rfl (Cel.head rfl) (by kernel_rfl)) (fun _ h => (h.sb)) ?_
  refine r_tk 8 rfl rfl (v_sub rfl rfl (by omega)) (fun _ h => (h.sb)) ?_
  refine r_tk 9 rfl rfl (v_loadAgg (vs := [I64 nh.g, I64 nh.h, I64 nh.e]) rfl (by kernel_rfl) (by kernel_rfl) rfl (fun j u hj => (Cel.allI k9 hj))) (fun _ h => (h.sb)) ?_
  refine r_one 10 (by kernel_rfl) rfl ?_
  refine s_call (xs := [_]) rfl rfl rfl rfl rfl rfl (by kernel_rfl) (fun w hs => jlaid_c nh hgn _ w _ _ hs) ?_
  rw [← hx]
  rintro e w' ⟨G10, u10, rfl, hG10, hu10, hs'⟩; refine a_ret ?_ hs'; clear hs'
  refine r_next (fun w h => ((h.weaken hG10).sb)) ?_
  refine c_sub (B9 ++ (JO jp dp J.hd J.s vr :: F)) sbx ?_
  refine r_one 11 (by kernel_rfl) rfl ?_
  refine s_call (xs := [_, _, _]) rfl rfl rfl rfl rfl rfl (by kernel_rfl) (fun w hs => write_c dp B9 S.1 hr9 _ _ _ (by omega) (by omega) _ w _ _ (hu10.mono (Im.le_refl _) (by simp)) hs) ?_
  have hgw := write_grow S.1 (1 - J.s) x
  rw [← hx] at e2
  generalize writeS S.1 (1 - J.s) x = W at e2 hgw ⊢
  rintro e w' ⟨B11, rfl, hr11, hs'⟩; refine a_ret ?_ hs'; clear hs'
  refine r_next (fun w h => ((h.weaken hG10).sb)) ?_
  refine r_tk 12 rfl rfl (v_assign rfl) (fun _ h => ((h.weaken hG10).sb)) ?_
  refine r_done (by kernel_rfl) ?_
  have hGc := hGb.trans (hGi.trans (hG9.trans hG10))
  replace kj := hG10 _ _ kj
  replace k9 := hG10 _ _ k9
  refine ww ?_
  refine c_cond_d rfl (fun c9 => ?_) (fun c9 => ?_)
  · -- then
    rw [if_neg c9] at e2
    rw [e2]
    unfold okH okS
    rw [if_neg c9, if_neg c9]
    refine ww ?_
    exact f_ret1 rfl rfl (fun w hs => ⟨G10, B11, hGc, rfl, hr11, hs.sb⟩)
  rw [if_pos (by omega)] at e2
  refine c_sub (JO jp dp J.hd J.s vr :: (B11 ++ F)) sbx ?_
  refine ww ?_
  refine c_cons (s_val (v_load rfl (Cel.imm kj rfl) (by kernel_rfl)) rfl rfl rfl ?_)
  refine ww ?_
  refine c_cons (s_val (v_field 0 rfl (by kernel_rfl)) rfl rfl rfl ?_)
  refine c_cons (s_val (v_load rfl (Cel.head rfl) (by kernel_rfl)) rfl rfl rfl ?_)
  refine c_sub (B11 ++ (JO jp dp J.hd J.s vr :: F)) sbx ?_
  refine c_cons (s_call (xs := [_]) rfl rfl rfl rfl rfl rfl (by kernel_rfl) (fun w hs => sync_c dp B11 W.1 hr11 (by omega) _ w _ _ hs) ?_)
  rw [← e2]
  rintro e w' ⟨B12, rfl, hr12, hs'⟩; refine a_ret ?_ hs'; clear hs'
  refine ww ?_
  refine c_cond_d rfl (fun c10 => ?_) (fun c10 => ?_)
  · -- then
    unfold okH okS
    rw [if_neg c10, if_neg c10]
    refine ww ?_
    exact f_ret1 rfl rfl (fun w hs => ⟨G10, B12, hGc, rfl, hr12, hs.sb⟩)
  have hR0 : R.2 = 0 := by omega
  unfold okH okS
  rw [if_pos hR0, if_pos hR0, hR0, ← hnh2]
  refine c_sub (JO jp dp J.hd J.s vr :: (B12 ++ F)) sbx ?_
  refine wn ?_
  refine c_cut (α := Unit) (fun _ => []) (fun _ => G10) (fun _ => JO jp dp nh (1 - J.s) vr :: (B12 ++ F)) (fun _ => True) ?_ ?_
  · refine ww ?_
    refine r_startS [] [] (by kernel_rfl) (fun w h => h.none) ?_
    refine r_tk 0 rfl rfl (v_load rfl (Cel.imm kj rfl) (by kernel_rfl)) (fun _ h => h.none) ?_
    refine r_tk 1 rfl rfl (v_load rfl (Cel.imm kj rfl) (by kernel_rfl)) (fun _ h => h.none) ?_
    refine r_tk 2 rfl rfl (v_loadAgg (vs := [I64 nh.g, I64 nh.h, I64 nh.e]) rfl (by kernel_rfl) (by kernel_rfl) rfl (fun j u hj => (Cel.allI k9 hj))) (fun _ h => h.none) ?_
    refine r_tk 3 rfl rfl (v_load rfl (Cel.imm kj rfl) (by kernel_rfl)) (fun _ h => h.none) ?_
    refine r_tk 4 rfl rfl (v_nilCheck rfl) (fun _ h => h.none) ?_
    refine r_tk 5 rfl rfl (v_field 4 rfl (by kernel_rfl)) (fun _ h => h.none) ?_
    refine r_one 6 (by kernel_rfl) rfl ?_; refine s_val (v_load rfl (Cel.head rfl) (by kernel_rfl)) rfl rfl rfl ?_; refine r_next (fun w h => h.none) ?_
    refine r_tk 7 rfl rfl (v_sub rfl rfl (by omega)) (fun _ h => h.none) ?_
    refine r_tk 8 rfl rfl (v_nilCheck rfl) (fun _ h => h.none) ?_
    refine r_tk 9 rfl rfl (v_field 1 rfl (by kernel_rfl)) (fun _ h => h.none) ?_
    refine r_one 10 (by kernel_rfl) rfl ?_
    refine s_storeAt (vs := [I64 nh.g, I64 nh.h, I64 nh.e]) rfl rfl rfl .head (by kernel_rfl) (by simp [Value.oneCell']) (by simp) ?_
    change Holds _ _ _ _ _ (JO jp dp nh J.s vr :: (B12 ++ F)) _
    refine r_next (fun w h => h.none) ?_
    refine r_one 11 (by kernel_rfl) rfl ?_; refine s_val (v_nilCheck rfl) rfl rfl rfl ?_; refine r_next (fun w h => h.none) ?_
    refine r_one 12 (by kernel_rfl) rfl ?_; refine s_val (v_field 4 rfl (by kernel_rfl)) rfl rfl rfl ?_; refine r_next (fun w h => h.none) ?_
    refine r_one 13 (by kernel_rfl) rfl ?_
    refine s_store1 rfl rfl rfl .head (by kernel_rfl) rfl (by simp) ?_
    change Holds _ _ _ _ _ (JO jp dp nh (1 - J.s) vr :: (B12 ++ F)) _
    refine r_next (fun w h => h.none) ?_
    refine r_done (by kernel_rfl) ?_
    refine ww ?_
    exact n_mid () trivial trivial rfl sbx
  rintro _ _
  refine ww ?_
  exact f_ret1 rfl rfl (fun w hs => ⟨G10, B12, hGc, rfl, hr12, hs⟩)
end
end Go.Proofs.Ytkjneelekfdpfaa
