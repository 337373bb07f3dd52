/- The walk of package journal's Open. -/
import Derived.Test.YtkjneelekfdpfaaJrW3
namespace Go.Proofs.Ytkjneelekfdpfaa
open Go
set_option linter.unusedVariables false
set_option linter.unusedSimpArgs false
set_option maxHeartbeats 3200000
/-- What a head finds. -/
theorem open_pick {L : List (List UInt8)} {x y : List UInt8} (h0 : L.getD 0 [] = x) (h1 : L.getD 1 [] = y) : openS L =
    if (hdOk L.length x ∨ hdOk L.length y) ∧ ¬ (hdOk L.length x ∧ hdOk L.length y ∧ (hdJ x).g = (hdJ y).g) then
      if ¬ hdOk L.length x ∨ (hdOk L.length y ∧ (hdJ x).g < (hdJ y).g) then (recsS L (hdJ y).e.toNat (2 + (hdJ y).h.toNat * jz L.length) (hdJ y).e.toNat).map fun rows => ⟨hdJ y, 1, rows⟩
      else (recsS L (hdJ x).e.toNat (2 + (hdJ x).h.toNat * jz L.length) (hdJ x).e.toNat).map fun rows => ⟨hdJ x, 0, rows⟩
    else none := by
  unfold openS
  rw [h0, h1]
  by_cases c1 : (hdOk L.length x ∨ hdOk L.length y) ∧ ¬ (hdOk L.length x ∧ hdOk L.length y ∧ (hdJ x).g = (hdJ y).g)
  · rw [if_pos c1, if_pos c1]
    by_cases c2 : ¬ hdOk L.length x ∨ (hdOk L.length y ∧ (hdJ x).g < (hdJ y).g)
    · rw [if_pos c2, if_pos c2]
      cases recsS L (hdJ y).e.toNat (2 + (hdJ y).h.toNat * jz L.length) (hdJ y).e.toNat <;> rfl
    · rw [if_neg c2, if_neg c2]
      cases recsS L (hdJ x).e.toNat (2 + (hdJ x).h.toNat * jz L.length) (hdJ x).e.toNat <;> rfl
  · rw [if_neg c1, if_neg c1]
attribute [local irreducible] Code.wp wpList stepK Holds Val wpR Eff Eff0 Code.wpIn wpListIn stepI Exit.then Exit.inBlock bodyPost bodyPostM

theorem jopen_c (dp : Nat) (B : Hp) (D : Dk) (hr : DH dp D B) (hl : 6 ≤ D.now.length ∧ D.now.length ≤ 4160) (h64 : ∀ x ∈ D.now, x.length = 64) (w0 w : World) (G : Im) (F : Hp) (hs : Sat w0 w G (B ++ F)) :
    Calls Try.prog 11 #[Pt dp 0] w fun e w' => ∃ G', Im.le G G' ∧
      ((D.dead = true ∧ e = .returned (.tuple #[.pointer none, I64 14]) ∧ Sat w0 w' G' (B ++ F)) ∨
       (D.dead = false ∧ openS D.now = none ∧ e = .returned (.tuple #[.pointer none, I64 4]) ∧ Sat w0 w' G' (B ++ F)) ∨
       (D.dead = false ∧ ∃ J jp Bj, openS D.now = some J ∧ e = .returned (.tuple #[Pt jp 0, I64 0]) ∧ JH G' jp dp J Bj ∧ Sat w0 w' G' (Bj ++ (B ++ F)))) := by
  refine f_enterD (vs := [_]) Try.func11 rfl Try.ntmps11 (by simp) hs ?_
  obtain ⟨z1, z2⟩ := jz_le hl.1
  refine ww ?_
  refine c_cons (s_alloc (.pointer none) (by kernel_rfl) rfl rfl fun b1 => ?_)
  refine c_cons (s_alloc (I64 0) (by kernel_rfl) rfl rfl fun b2 => ?_)
  change Holds _ _ _ _ _ (ErO b2 0 :: JcO b1 (.pointer none) :: (B ++ F)) _
  refine c_sub (B ++ (ErO b2 0 :: JcO b1 (.pointer none) :: F)) sbx ?_
  refine ww ?_
  refine c_cons (s_call (xs := [_]) rfl rfl rfl rfl rfl rfl (by kernel_rfl) (fun w hs => sectorsH_c dp B D hr _ w _ _ hs) ?_)
  rintro e w' ⟨rfl, hs'⟩; refine a_ret ?_ hs'; clear hs'
  refine ww ?_
  refine c_cond_d rfl (fun c2 => ?_) (fun c2 => ?_)
  · exfalso; omega
  refine ww ?_
  refine c_cons (s_defer rfl rfl rfl rfl ?_)
  refine wn ?_
  refine c_pq [(2, Pt b1 0), (3, Pt b2 0)] ?_
  -- the first head
  obtain ⟨x, hx⟩ : ∃ x, D.now[0]? = some x := ⟨_, List.getElem?_eq_getElem (by omega)⟩
  have hxd : D.now.getD 0 [] = x := by rw [List.getD, hx]; rfl
  have hx64 := h64 x (List.mem_of_getElem? hx)
  obtain ⟨y, hy⟩ : ∃ y, D.now[1]? = some y := ⟨_, List.getElem?_eq_getElem (by omega)⟩
  have hyd : D.now.getD 1 [] = y := by rw [List.getD, hy]; rfl
  have hy64 := h64 y (List.mem_of_getElem? hy)
  refine ww ?_
  refine c_cons (s_call (xs := [_, _]) rfl rfl rfl rfl rfl rfl (by kernel_rfl) (fun w hs => jread_c dp B D hr hl 0 (by omega) x hxd hx64 _ w _ _ hs) ?_)
  rintro e w' ⟨G1, hG1, hs', ⟨hdead, rfl⟩ | ⟨hdead, rfl⟩⟩
  · refine a_panic ?_ hs'; clear hs'
    repeat (first | refine x_then_panic ?_ | refine x_block_panic ?_)
    refine pq_panic ⟨rfl, rfl, trivial⟩ ?_
    refine c_sub (JcO b1 (.pointer none) :: ErO b2 0 :: ([] ++ (B ++ F))) sbx ?_
    exact open_pan 14 0 b1 b2 _ w0 G G1 [] (B ++ F) hG1 _ rfl _ _ (fun w hs => ⟨G1, hG1, .inl ⟨hdead, rfl, hs⟩⟩)
  refine a_ret ?_ hs'; clear hs'
  have hpick := open_pick hxd hyd
  have hgx := hdJ_gd x
  have hgy := hdJ_gd y
  have hokx : hdOk D.now.length x → (1 ≤ (hdJ x).g ∧ (hdJ x).h ≤ 1 ∧ (hdJ x).e ≤ jz D.now.length) := fun h => ⟨h.2.1, h.2.2.1, h.2.2.2.1⟩
  have hoky : hdOk D.now.length y → (1 ≤ (hdJ y).g ∧ (hdJ y).h ≤ 1 ∧ (hdJ y).e ≤ jz D.now.length) := fun h => ⟨h.2.1, h.2.2.1, h.2.2.2.1⟩
  obtain ⟨a, ha⟩ : ∃ a, a = hdJ x := ⟨_, rfl⟩
  obtain ⟨b, hb⟩ : ∃ b, b = hdJ y := ⟨_, rfl⟩
  rw [← ha] at hpick hgx hokx
  rw [← hb] at hpick hgy hoky
  rw [← ha]
  refine ww ?_
  refine c_cons (s_allocA [I64 0, I64 0, I64 0] (by kernel_rfl) rfl rfl fun b3 => ?_)
  refine c_cons (s_storeA (vs := [I64 a.g, I64 a.h, I64 a.e]) rfl rfl rfl .head (by kernel_rfl) (by simp [Value.oneCell']) rfl ?_)
  refine c_freeze .head fun G2 hG2 k3 => ?_
  refine ww ?_
  refine c_cons (s_call (xs := [_, _]) rfl rfl rfl rfl rfl rfl (by kernel_rfl) (fun w hs => jread_c dp B D hr hl 1 (by omega) y hyd hy64 _ w _ _ hs) ?_)
  rintro e w' ⟨G4, hG4, hs', ⟨hdead', rfl⟩ | ⟨_, rfl⟩⟩
  · rw [hdead] at hdead'; cases hdead'
  refine a_ret ?_ hs'; clear hs'
  replace k3 := hG4 _ _ k3
  rw [← hb]
  refine ww ?_
  refine c_cons (s_allocA [I64 0, I64 0, I64 0] (by kernel_rfl) rfl rfl fun b4 => ?_)
  refine c_cons (s_storeA (vs := [I64 b.g, I64 b.h, I64 b.e]) rfl rfl rfl .head (by kernel_rfl) (by simp [Value.oneCell']) rfl ?_)
  refine c_freeze .head fun G5 hG5 k4 => ?_
  replace k3 := hG5 _ _ k3
  have hGa := hG1.trans (hG2.trans (hG4.trans hG5))
  refine c_sub (JcO b1 (.pointer none) :: ErO b2 0 :: (B ++ F)) sbx ?_
  refine wn ?_
  refine c_env [(0, Pt dp 0), (2, Pt b1 0), (3, Pt b2 0), (4, Pt b3 0), (5, .bool (decide (hdOk D.now.length x))), (6, Pt b4 0), (7, .bool (decide (hdOk D.now.length y)))] ⟨rfl, rfl, rfl, rfl, rfl, rfl, rfl, trivial⟩ ?_
  have tobad : openS D.now = none → ∀ w, Sat w0 w G5 (B ++ F) → ∃ G', Im.le G G' ∧
      ((D.dead = true ∧ Ending.returned (.tuple #[.pointer none, I64 4]) = .returned (.tuple #[.pointer none, I64 14]) ∧ Sat w0 w G' (B ++ F)) ∨
       (D.dead = false ∧ openS D.now = none ∧ Ending.returned (.tuple #[.pointer none, I64 4]) = .returned (.tuple #[.pointer none, I64 4]) ∧ Sat w0 w G' (B ++ F)) ∨
       (D.dead = false ∧ ∃ J jp Bj, openS D.now = some J ∧ Ending.returned (.tuple #[.pointer none, I64 4]) = .returned (.tuple #[Pt jp 0, I64 0]) ∧ JH G' jp dp J Bj ∧ Sat w0 w G' (Bj ++ (B ++ F)))) := fun h w hs => ⟨G5, hGa, .inr (.inl ⟨hdead, h, rfl, hs⟩)⟩
  refine c_cut (α := Unit) (fun _ => [(0, Pt dp 0), (2, Pt b1 0), (3, Pt b2 0), (4, Pt b3 0), (5, .bool (decide (hdOk D.now.length x))), (6, Pt b4 0), (7, .bool (decide (hdOk D.now.length y)))]) (fun _ => G5) (fun _ => JcO b1 (.pointer none) :: ErO b2 0 :: (B ++ F)) (fun _ => hdOk D.now.length x ∨ hdOk D.now.length y) ?_ ?_
  · by_cases ox : hdOk D.now.length x
    · rw [decide_eq_true ox]
      refine ww ?_
      refine c_cons (s_call (xs := [_, _]) rfl rfl rfl rfl rfl rfl (by kernel_rfl) (fun w hs => jmust_t 4 _ w _ _ hs) ?_)
      rintro e w' ⟨rfl, hs'⟩; refine a_ret ?_ hs'; clear hs'
      refine ww ?_
      exact n_mid () (.inl ox) ⟨rfl, rfl, rfl, rfl, rfl, rfl, rfl, trivial⟩ rfl sbx
    rw [decide_eq_false ox]
    by_cases oy : hdOk D.now.length y
    · rw [decide_eq_true oy]
      refine ww ?_
      refine c_cons (s_call (xs := [_, _]) rfl rfl rfl rfl rfl rfl (by kernel_rfl) (fun w hs => jmust_t 4 _ w _ _ hs) ?_)
      rintro e w' ⟨rfl, hs'⟩; refine a_ret ?_ hs'; clear hs'
      refine ww ?_
      exact n_mid () (.inr oy) ⟨rfl, rfl, rfl, rfl, rfl, rfl, rfl, trivial⟩ rfl sbx
    rw [decide_eq_false oy]
    refine ww ?_
    refine c_cons (s_call (xs := [_, _]) rfl rfl rfl rfl rfl rfl (by kernel_rfl) (fun w hs => jmust_f 4 _ w _ _ hs) ?_)
    rintro e w' ⟨rfl, hs'⟩
    refine a_panic ?_ hs'; clear hs'
    repeat (first | refine x_then_panic ?_ | refine x_block_panic ?_)
    refine pq_panic ⟨rfl, rfl, trivial⟩ ?_
    refine c_sub (JcO b1 (.pointer none) :: ErO b2 0 :: ([] ++ (B ++ F))) sbx ?_
    exact open_pan 4 0 b1 b2 _ w0 G G5 [] (B ++ F) hGa _ rfl _ _ (tobad (by rw [hpick, if_neg (fun h => h.1.elim ox oy)]))
  rintro _ hor
  refine c_cut (α := Unit) (fun _ => [(0, Pt dp 0), (2, Pt b1 0), (3, Pt b2 0), (4, Pt b3 0), (5, .bool (decide (hdOk D.now.length x))), (6, Pt b4 0), (7, .bool (decide (hdOk D.now.length y)))]) (fun _ => G5) (fun _ => JcO b1 (.pointer none) :: ErO b2 0 :: (B ++ F)) (fun _ => ¬ (hdOk D.now.length x ∧ hdOk D.now.length y ∧ a.g = b.g)) ?_ ?_
  · by_cases ox : hdOk D.now.length x
    rotate_left
    · rw [decide_eq_false ox]
      refine ww ?_
      refine c_cons (s_call (xs := [_, _]) rfl rfl rfl rfl rfl rfl (by kernel_rfl) (fun w hs => jmust_t 4 _ w _ _ hs) ?_)
      rintro e w' ⟨rfl, hs'⟩; refine a_ret ?_ hs'; clear hs'
      refine ww ?_
      exact n_mid () (fun h => ox h.1) ⟨rfl, rfl, rfl, rfl, rfl, rfl, rfl, trivial⟩ rfl sbx
    rw [decide_eq_true ox]
    by_cases oy : hdOk D.now.length y
    rotate_left
    · rw [decide_eq_false oy]
      refine ww ?_
      refine c_cons (s_call (xs := [_, _]) rfl rfl rfl rfl rfl rfl (by kernel_rfl) (fun w hs => jmust_t 4 _ w _ _ hs) ?_)
      rintro e w' ⟨rfl, hs'⟩; refine a_ret ?_ hs'; clear hs'
      refine ww ?_
      exact n_mid () (fun h => oy h.2.1) ⟨rfl, rfl, rfl, rfl, rfl, rfl, rfl, trivial⟩ rfl sbx
    rw [decide_eq_true oy]
    refine ww ?_
    refine c_cons (s_val (v_field 0 rfl (by kernel_rfl)) rfl rfl rfl ?_)
    refine c_cons (s_val (v_load rfl (Cel.imm k3 rfl) (by kernel_rfl)) rfl rfl rfl ?_)
    refine c_cons (s_val (v_field 0 rfl (by kernel_rfl)) rfl rfl rfl ?_)
    refine c_cons (s_val (v_load rfl (Cel.imm k4 rfl) (by kernel_rfl)) rfl rfl rfl ?_)
    refine ww ?_
    by_cases og : a.g = b.g
    rotate_left
    · rw [decide_eq_true (show ¬ a.g = b.g from og)]
      refine c_cons (s_call (xs := [_, _]) rfl rfl rfl rfl rfl rfl (by kernel_rfl) (fun w hs => jmust_t 4 _ w _ _ hs) ?_)
      rintro e w' ⟨rfl, hs'⟩; refine a_ret ?_ hs'; clear hs'
      refine ww ?_
      exact n_mid () (fun h => og h.2.2) ⟨rfl, rfl, rfl, rfl, rfl, rfl, rfl, trivial⟩ rfl sbx
    rw [decide_eq_false (show ¬ ¬ a.g = b.g from fun h => h og)]
    refine c_cons (s_call (xs := [_, _]) rfl rfl rfl rfl rfl rfl (by kernel_rfl) (fun w hs => jmust_f 4 _ w _ _ hs) ?_)
    rintro e w' ⟨rfl, hs'⟩
    refine a_panic ?_ hs'; clear hs'
    repeat (first | refine x_then_panic ?_ | refine x_block_panic ?_)
    refine pq_panic ⟨rfl, rfl, trivial⟩ ?_
    refine c_sub (JcO b1 (.pointer none) :: ErO b2 0 :: ([] ++ (B ++ F))) sbx ?_
    exact open_pan 4 0 b1 b2 _ w0 G G5 [] (B ++ F) hGa _ rfl _ _ (tobad (by rw [hpick, if_neg (fun h => h.2 ⟨ox, oy, og⟩)]))
  rintro _ hne
  rw [if_pos ⟨hor, hne⟩] at hpick
  refine ww ?_
  refine c_cons (s_val (v_loadAgg (vs := [I64 a.g, I64 a.h, I64 a.e]) rfl (by kernel_rfl) (by kernel_rfl) rfl (fun j u hj => (Cel.allI k3 hj))) rfl rfl rfl ?_)
  refine c_cons (s_val (v_build (ps := [_, _]) #[Pt dp 0, I64 a.g, I64 a.h, I64 a.e, I64 0, .slice none 0 0] rfl (by kernel_rfl)) rfl rfl rfl ?_)
  refine c_cons (s_boxA [Pt dp 0, I64 a.g, I64 a.h, I64 a.e, I64 0, .slice none 0 0] rfl rfl rfl fun jp => ?_)
  refine c_cons (s_store1 rfl rfl rfl (.tail .head) (by kernel_rfl) rfl (by simp) ?_)
  change Holds _ _ _ _ _ (JcO b1 (Pt jp 0) :: JO jp dp a 0 (.slice none 0 0) :: ErO b2 0 :: (B ++ F)) _
  refine wn ?_
  -- which head counts
  refine c_cut (α := Jh × Int) (fun _ => [(0, Pt dp 0), (2, Pt b1 0), (3, Pt b2 0)]) (fun _ => G5) (fun z => JcO b1 (Pt jp 0) :: JO jp dp z.1 z.2 (.slice none 0 0) :: ErO b2 0 :: (B ++ F)) (fun z => openS D.now = (recsS D.now z.1.e.toNat (2 + z.1.h.toNat * jz D.now.length) z.1.e.toNat).map (fun rows => ⟨z.1, z.2, rows⟩) ∧ (0 ≤ z.1.h ∧ z.1.h ≤ 1) ∧ 0 ≤ z.1.e ∧ z.1.e ≤ jz D.now.length) ?_ ?_
  · by_cases ox : hdOk D.now.length x
    rotate_left
    · rw [decide_eq_false ox]
      rw [if_pos (.inl ox)] at hpick
      obtain ⟨g1, g2, g3⟩ := hoky (hor.resolve_left ox)
      refine ww ?_
      refine c_cond_t rfl ?_
      refine r_startS [JcO b1 (Pt jp 0)] [] (by kernel_rfl) (fun w h => h.sb) ?_
      refine r_tkD 0 rfl rfl (v_load rfl (Cel.head rfl) (by kernel_rfl)) (fun _ h => (h.sb)) ?_
      refine r_tkD 1 rfl rfl (v_load rfl (Cel.head rfl) (by kernel_rfl)) (fun _ h => (h.sb)) ?_
      refine r_tkD 2 rfl rfl (v_loadAgg (vs := [I64 b.g, I64 b.h, I64 b.e]) rfl (by kernel_rfl) (by kernel_rfl) rfl (fun j u hj => (Cel.allI k4 hj))) (fun _ h => (h.sb)) ?_
      refine r_tkD 3 rfl rfl (v_nilCheck rfl) (fun _ h => (h.sb)) ?_
      refine r_tkD 4 rfl rfl (v_field 1 rfl (by kernel_rfl)) (fun _ h => (h.sb)) ?_
      refine r_one 5 (by kernel_rfl) rfl ?_
      refine s_storeAt (vs := [I64 b.g, I64 b.h, I64 b.e]) rfl rfl rfl (.tail .head) (by kernel_rfl) (by simp [Value.oneCell']) (by simp) ?_
      change Holds _ _ _ _ _ (JO jp dp b 0 (.slice none 0 0) :: JcO b1 (Pt jp 0) :: ErO b2 0 :: (B ++ F)) _
      refine r_next (fun w h => (h.sb)) ?_
      refine r_tkD 6 rfl rfl (v_nilCheck rfl) (fun _ h => (h.sb)) ?_
      refine r_tkD 7 rfl rfl (v_field 4 rfl (by kernel_rfl)) (fun _ h => (h.sb)) ?_
      refine r_one 8 (by kernel_rfl) rfl ?_
      refine s_store1 rfl rfl rfl .head (by kernel_rfl) rfl (by simp) ?_
      change Holds _ _ _ _ _ (JO jp dp b 1 (.slice none 0 0) :: JcO b1 (Pt jp 0) :: ErO b2 0 :: (B ++ F)) _
      refine r_next (fun w h => (h.sb)) ?_
      refine r_done (by kernel_rfl) ?_
      refine ww ?_
      exact n_mid (b, 1) ⟨hpick, by dsimp only; have := hgy.2; omega, by dsimp only; have := hgy.2; omega, g3⟩ ⟨rfl, rfl, rfl, trivial⟩ rfl sbx
    rw [decide_eq_true ox]
    obtain ⟨f1, f2, f3⟩ := hokx ox
    by_cases oy : hdOk D.now.length y
    rotate_left
    · rw [decide_eq_false oy]
      rw [if_neg (fun h => h.elim (fun h => h ox) (fun h => oy h.1))] at hpick
      refine ww ?_
      refine c_cond_f rfl ?_
      refine ww ?_
      exact n_mid (a, 0) ⟨hpick, by dsimp only; have := hgx.2; omega, by dsimp only; have := hgx.2; omega, f3⟩ ⟨rfl, rfl, rfl, trivial⟩ rfl sbx
    rw [decide_eq_true oy]
    obtain ⟨g1, g2, g3⟩ := hoky oy
    refine ww ?_
    refine c_cons (s_val (v_field 0 rfl (by kernel_rfl)) rfl rfl rfl ?_)
    refine c_cons (s_val (v_load rfl (Cel.imm k4 rfl) (by kernel_rfl)) rfl rfl rfl ?_)
    refine c_cons (s_val (v_field 0 rfl (by kernel_rfl)) rfl rfl rfl ?_)
    refine c_cons (s_val (v_load rfl (Cel.imm k3 rfl) (by kernel_rfl)) rfl rfl rfl ?_)
    refine ww ?_
    refine c_cond_d rfl (fun og => ?_) (fun og => ?_)
    · rw [if_pos (.inr ⟨oy, og⟩)] at hpick
      refine r_startS [JcO b1 (Pt jp 0)] [] (by kernel_rfl) (fun w h => h.sb) ?_
      refine r_tkD 0 rfl rfl (v_load rfl (Cel.head rfl) (by kernel_rfl)) (fun _ h => (h.sb)) ?_
      refine r_tkD 1 rfl rfl (v_load rfl (Cel.head rfl) (by kernel_rfl)) (fun _ h => (h.sb)) ?_
      refine r_tkD 2 rfl rfl (v_loadAgg (vs := [I64 b.g, I64 b.h, I64 b.e]) rfl (by kernel_rfl) (by kernel_rfl) rfl (fun j u hj => (Cel.allI k4 hj))) (fun _ h => (h.sb)) ?_
      refine r_tkD 3 rfl rfl (v_nilCheck rfl) (fun _ h => (h.sb)) ?_
      refine r_tkD 4 rfl rfl (v_field 1 rfl (by kernel_rfl)) (fun _ h => (h.sb)) ?_
      refine r_one 5 (by kernel_rfl) rfl ?_
      refine s_storeAt (vs := [I64 b.g, I64 b.h, I64 b.e]) rfl rfl rfl (.tail .head) (by kernel_rfl) (by simp [Value.oneCell']) (by simp) ?_
      change Holds _ _ _ _ _ (JO jp dp b 0 (.slice none 0 0) :: JcO b1 (Pt jp 0) :: ErO b2 0 :: (B ++ F)) _
      refine r_next (fun w h => (h.sb)) ?_
      refine r_tkD 6 rfl rfl (v_nilCheck rfl) (fun _ h => (h.sb)) ?_
      refine r_tkD 7 rfl rfl (v_field 4 rfl (by kernel_rfl)) (fun _ h => (h.sb)) ?_
      refine r_one 8 (by kernel_rfl) rfl ?_
      refine s_store1 rfl rfl rfl .head (by kernel_rfl) rfl (by simp) ?_
      change Holds _ _ _ _ _ (JO jp dp b 1 (.slice none 0 0) :: JcO b1 (Pt jp 0) :: ErO b2 0 :: (B ++ F)) _
      refine r_next (fun w h => (h.sb)) ?_
      refine r_done (by kernel_rfl) ?_
      refine ww ?_
      exact n_mid (b, 1) ⟨hpick, by dsimp only; have := hgy.2; omega, by dsimp only; have := hgy.2; omega, g3⟩ ⟨rfl, rfl, rfl, trivial⟩ rfl sbx
    rw [if_neg (fun h => h.elim (fun h => h ox) (fun h => og h.2))] at hpick
    refine ww ?_
    exact n_mid (a, 0) ⟨hpick, by dsimp only; have := hgx.2; omega, by dsimp only; have := hgx.2; omega, f3⟩ ⟨rfl, rfl, rfl, trivial⟩ rfl sbx
  rintro ⟨hd, sl⟩ ⟨hop, hh, he0, he1⟩
  dsimp only at hop hh he0 he1 ⊢
  clear hpick
  obtain ⟨g, h, e⟩ := hd
  dsimp only at hop hh he0 he1 ⊢
  obtain ⟨hn, rfl⟩ : ∃ hn : Nat, h = hn := ⟨h.toNat, by omega⟩
  obtain ⟨en, rfl⟩ : ∃ en : Nat, e = en := ⟨e.toNat, by omega⟩
  rw [Int.toNat_natCast, Int.toNat_natCast] at hop
  have hz : jz D.now.length ≤ 2079 := by unfold jz; omega
  refine ww ?_
  refine c_loop (α := Nat × Im × Value × Hp × List (List UInt8)) (fun x => [(0, Pt dp 0), (2, Pt b1 0), (3, Pt b2 0), (8, I64 (x.1 : Int))]) (fun x => x.2.1) (fun x => JcO b1 (Pt jp 0) :: JO jp dp ⟨g, hn, en⟩ sl x.2.2.1 :: ErO b2 0 :: (x.2.2.2.1 ++ (B ++ F))) (fun x => x.1 ≤ en ∧ Im.le G5 x.2.1 ∧ RO x.2.1 x.2.2.1 x.2.2.2.2 x.2.2.2.1 ∧ x.2.2.2.2.length ≤ x.1 ∧ recsS D.now en (2 + hn * jz D.now.length) en = (recsS D.now (en - x.1) (2 + hn * jz D.now.length + x.1) (en - x.1)).map (fun rs => x.2.2.2.2 ++ rs)) (fun x => en - x.1) (0, G5, .slice none 0 0, [], []) ⟨Nat.zero_le _, Im.le_refl _, RO.zero _ _, by simp, by dsimp only; rw [Nat.sub_zero, Nat.add_zero]; simp⟩ ?_ ?_
  · exact n_at ⟨rfl, rfl, rfl, rfl, trivial⟩ sbx
  rintro ⟨i, Gi, vr, Br, rows⟩ ⟨hi, hGi, hro, hrl, hrr⟩
  dsimp only at hi hGi hro hrl hrr ⊢
  refine ww ?_
  refine c_cons (s_val (v_load rfl (Cel.head rfl) (by kernel_rfl)) rfl rfl rfl ?_)
  refine ww ?_
  refine c_cons (s_val (v_field 1 rfl (by kernel_rfl)) rfl rfl rfl ?_)
  refine c_cons (s_val (v_field 2 rfl (by kernel_rfl)) rfl rfl rfl ?_)
  refine c_cons (s_val (v_load rfl (Cel.tail (Cel.head rfl)) (by kernel_rfl)) rfl rfl rfl ?_)
  refine ww ?_
  refine c_cond_d rfl (fun c6 => ?_) (fun c6 => ?_)
  · -- then
    have hien : i < en := by change (i : Int) < (en : Int) at c6; omega
    rw [recs_step (show 0 < en - i by omega)] at hrr
    refine ww ?_
    refine r_startS [JcO b1 (Pt jp 0), JO jp dp ⟨g, hn, en⟩ sl vr] [] (by kernel_rfl) (fun w h => h.sb) ?_
    refine r_tkD 0 rfl rfl (v_move rfl) (fun _ h => (h.sb)) ?_
    refine r_tkD 1 rfl rfl (v_load rfl (Cel.head rfl) (by kernel_rfl)) (fun _ h => (h.sb)) ?_
    refine r_tkD 2 rfl rfl (v_nilCheck rfl) (fun _ h => (h.sb)) ?_
    refine r_tkD 3 rfl rfl (v_field 1 rfl (by kernel_rfl)) (fun _ h => (h.sb)) ?_
    refine r_tkD 4 rfl rfl (v_field 1 rfl (by kernel_rfl)) (fun _ h => (h.sb)) ?_
    refine r_tkD 5 rfl rfl (v_load rfl (Cel.tail (Cel.head rfl)) (by kernel_rfl)) (fun _ h => (h.sb)) ?_
    refine r_tkD 6 rfl rfl (v_move rfl) (fun _ h => (h.sb)) ?_
    refine r_tkD 7 rfl rfl (v_load rfl (Cel.head rfl) (by kernel_rfl)) (fun _ h => (h.sb)) ?_
    refine r_tkD 8 rfl rfl (v_nilCheck rfl) (fun _ h => (h.sb)) ?_
    refine r_tkD 9 rfl rfl (v_field 1 rfl (by kernel_rfl)) (fun _ h => (h.sb)) ?_
    refine r_tkD 10 rfl rfl (v_field 2 rfl (by kernel_rfl)) (fun _ h => (h.sb)) ?_
    refine r_tkD 11 rfl rfl (v_load rfl (Cel.tail (Cel.head rfl)) (by kernel_rfl)) (fun _ h => (h.sb)) ?_
    refine c_sub (B ++ (JcO b1 (Pt jp 0) :: JO jp dp ⟨g, hn, en⟩ sl vr :: ErO b2 0 :: (Br ++ F))) sbx ?_
    refine r_one 12 (by kernel_rfl) rfl ?_
    refine s_call (xs := [_, _, _, _]) rfl rfl rfl rfl rfl rfl (by kernel_rfl) (fun w hs => jrec_c dp B D hr hl h64 hdead hn (by omega) i en (by omega) hien _ w _ _ hs) ?_
    rintro e w' ⟨G6, hG6, hs', ⟨hno, rfl⟩ | ⟨r, k, u, hyes, rfl, hu⟩⟩
    · rw [hno] at hrr
      refine a_panic ?_ hs'; clear hs'
      repeat (first | refine x_then_panic ?_ | refine x_block_panic ?_)
      refine pq_panic ⟨rfl, rfl, trivial⟩ ?_
      refine c_sub (JcO b1 (Pt jp 0) :: ErO b2 0 :: ((JO jp dp ⟨g, hn, en⟩ sl vr :: Br) ++ (B ++ F))) sbx ?_
      exact open_pan 4 0 b1 b2 _ w0 G G6 _ (B ++ F) (hGa.trans (hGi.trans hG6)) _ rfl _ _ (fun w hs => ⟨G6, hGa.trans (hGi.trans hG6), .inr (.inl ⟨hdead, by rw [hop, hrr]; rfl, rfl, hs⟩)⟩)
    refine a_ret ?_ hs'; clear hs'
    rw [hyes] at hrr
    dsimp only at hrr
    have hkl := rec_le hyes
    refine r_next (fun w h => ((h.weaken hG6).sb)) ?_
    refine r_tkD 13 rfl rfl (v_move rfl) (fun _ h => ((h.weaken hG6).sb)) ?_
    refine r_tkD 14 rfl rfl (v_extract rfl rfl) (fun _ h => ((h.weaken hG6).sb)) ?_
    refine r_tkD 15 rfl rfl (v_extract rfl rfl) (fun _ h => ((h.weaken hG6).sb)) ?_
    refine r_tkD 16 rfl rfl (v_assign rfl) (fun _ h => ((h.weaken hG6).sb)) ?_
    refine r_tkD 17 rfl rfl (v_assign rfl) (fun _ h => ((h.weaken hG6).sb)) ?_
    refine r_done (by kernel_rfl) ?_
    replace hro := hro.up hG6
    obtain ⟨vs, ho, hit⟩ := hro
    have hvl := hit.1
    refine c_sub (JcO b1 (Pt jp 0) :: JO jp dp ⟨g, hn, en⟩ sl vr :: ErO b2 0 :: (Br ++ (B ++ F))) sbx ?_
    refine ww ?_
    refine r_startS [JcO b1 (Pt jp 0), JO jp dp ⟨g, hn, en⟩ sl vr] [10] (by kernel_rfl) (fun w h => h.sb) ?_
    refine r_tkD 0 rfl rfl (v_load rfl (Cel.head rfl) (by kernel_rfl)) (fun _ h => (h.sb)) ?_
    refine r_tkD 1 rfl rfl (v_load rfl (Cel.head rfl) (by kernel_rfl)) (fun _ h => (h.sb)) ?_
    refine r_tkD 2 rfl rfl (v_nilCheck rfl) (fun _ h => (h.sb)) ?_
    refine r_tkD 3 rfl rfl (v_field 5 rfl (by kernel_rfl)) (fun _ h => (h.sb)) ?_
    refine r_tkD 4 rfl rfl (v_load rfl (Cel.tail (Cel.head rfl)) (by kernel_rfl)) (fun _ h => (h.sb)) ?_
    refine r_tkD 5 rfl rfl (v_move rfl) (fun _ h => (h.sb)) ?_
    refine r_one 6 (by kernel_rfl) rfl ?_
    refine s_lit (z := .slice none 0 0) (bs := 24) (e := 31) [_] (by kernel_rfl) rfl rfl rfl rfl (by simpa using hu.one) rfl (by decide) fun b6 => ?_
    refine r_next (fun w h => (h.sb)) ?_
    refine r_one 7 (by kernel_rfl) rfl ?_
    refine s_append (e := 31) (z := .slice none 0 0) (sz := 1) (bs := 24) (by kernel_rfl) rfl rfl rfl rfl ho (Chunk.tail (Chunk.tail (Chunk.tail (Chunk.tail Chunk.head)))) (SV.block .head (by simp [maxLen])) rfl (by decide) rfl (by simpa using hu.one) (by simp; omega) (by simp; omega) fun u7 B7 ho7 => ?_
    have hro7 : RO G6 u7 (rows ++ [r]) B7 := ⟨vs ++ [u], by rw [List.length_append]; exact ho7, hit.snoc hu⟩
    have hu7 : u7.oneCell' = true := by obtain ⟨ad, c, e⟩ := ho7.form; rw [e]; rfl
    refine c_sub (JO jp dp ⟨g, hn, en⟩ sl vr :: JcO b1 (Pt jp 0) :: ErO b2 0 :: (B7 ++ (B ++ F))) sbx ?_
    refine r_next (fun w h => (h.sb)) ?_
    refine r_one 8 (by kernel_rfl) rfl ?_; refine s_val (v_nilCheck rfl) rfl rfl rfl ?_; refine r_next (fun w h => (h.sb)) ?_
    refine r_one 9 (by kernel_rfl) rfl ?_; refine s_val (v_field 5 rfl (by kernel_rfl)) rfl rfl rfl ?_; refine r_next (fun w h => (h.sb)) ?_
    refine r_one 10 (by kernel_rfl) rfl ?_
    refine s_store1 rfl rfl rfl .head (by kernel_rfl) hu7 (by simp) ?_
    change Holds _ _ _ _ _ (JO jp dp ⟨g, hn, en⟩ sl u7 :: JcO b1 (Pt jp 0) :: ErO b2 0 :: (B7 ++ (B ++ F))) _
    refine r_late rfl ?_
    refine r_done (by kernel_rfl) ?_
    refine ww ?_
    refine n_next (x := (i, Gi, vr, Br, rows)) (i + k, G6, u7, B7, rows ++ [r]) ⟨by dsimp only; omega, hGi.trans hG6, hro7, by dsimp only; rw [List.length_append]; simp; omega, ?_⟩ (by dsimp only; omega) ⟨rfl, rfl, rfl, rfl, trivial⟩ rfl sbx
    dsimp only
    rw [hrr, show en - i - k = en - (i + k) by omega, Nat.add_assoc]
    cases recsS D.now (en - (i + k)) (2 + hn * jz D.now.length + (i + k)) (en - (i + k)) with
    | none => rfl
    | some rs => simp
  have hie : i = en := by change ¬ (i : Int) < (en : Int) at c6; omega
  subst hie
  rw [Nat.sub_self] at hrr
  have hfin : openS D.now = some ⟨⟨g, hn, i⟩, sl, rows⟩ := by
    rw [hop, hrr]
    simp [recsS]
  refine ww ?_
  refine c_cons (s_val (v_load rfl (Cel.head rfl) (by kernel_rfl)) rfl rfl rfl ?_)
  refine c_cons (s_store1 rfl rfl rfl .head (by kernel_rfl) rfl (by simp) ?_)
  refine c_cons (s_store1 rfl rfl rfl (.tail (.tail .head)) (by kernel_rfl) rfl (by simp) ?_)
  change Holds _ _ _ _ _ (ErO b2 0 :: JcO b1 (Pt jp 0) :: JO jp dp ⟨g, hn, i⟩ sl vr :: (Br ++ (B ++ F))) _
  refine ww ?_
  refine pq_ret ?_
  exact d_ret1 (by kernel_rfl) (fun w hs => catchO_n b1 b2 _ w _ _ hs) (fun a e y w' ht ⟨h1, h2, h3⟩ => ⟨h1, h2, _, res_c2 ht rfl rfl rfl (by kernel_rfl) (by kernel_rfl) h3 (Cel.tail (Cel.head rfl)) (Cel.head rfl), Gi, hGa.trans hGi, .inr (.inr ⟨hdead, _, jp, _, hfin, rfl, ⟨vr, Br, rfl, hro⟩, h3.sb⟩)⟩)
end Go.Proofs.Ytkjneelekfdpfaa
