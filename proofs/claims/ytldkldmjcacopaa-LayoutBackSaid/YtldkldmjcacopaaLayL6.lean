/- The law LayoutUnlike. -/
import Derived.Test.YtldkldmjcacopaaLayL5
namespace Go.Proofs.Ytldkldmjcacopaa
open Go
set_option linter.unusedVariables false
set_option linter.unusedSimpArgs false
set_option maxHeartbeats 1600000
theorem Items.sub0 {G : Im} {u v : Value} {vs : List Value} {b r : List UInt8} {rs : List (List UInt8)} (h : Items G (v :: vs) (r :: rs)) (hu : SV G [] u b.length (b.map B8)) : Items G (u :: vs) (b :: rs) := by
  refine ⟨by have := h.1; simpa using this, fun j v r hv hr => ?_⟩
  cases j with
  | zero => cases hv; cases hr; exact hu
  | succ j => exact h.2 (j + 1) v r hv hr
/-- Rows that lie in a block of one's own. -/
abbrev RwS (b : Nat) (vs sl : List Value) : Nat × Obj := (b, Cs (vs ++ sl) 22)
theorem RwS.sv {G : Im} {b : Nat} {vs sl : List Value} {c : Nat} {rs : List (List UInt8)} (hb : G b = some (Cs (vs ++ sl) 22)) (hc : vs.length ≤ c ∧ c ≤ maxLen) (hit : Items G vs rs) : RowsV G (Sl b 0 vs.length c) rs :=
  ⟨vs, ⟨_, c, rfl, hc.1, hc.2, .inr ⟨b, 0, rfl, fun j u hj => ⟨_, _, _, .of_imm hb, by
    simp only [List.getElem?_toArray, Nat.zero_add]
    rw [List.getElem?_append_left (List.getElem?_eq_some_iff.1 hj).1]; exact hj⟩⟩⟩, hit⟩
/-- Join of rows that lie in a block of one's own, which stays one's own. -/
theorem joinO_c (c l num n : Int) (bl cp : Nat) (vs sl : List Value) (frs : List (List UInt8)) (hml : ∀ b, b ∈ frs → b.length ≤ 100000) (hc : vs.length ≤ cp ∧ cp ≤ maxLen) (w0 w : World) (G : Im) (F : Hp) (hit : Items G vs frs) (hs : Sat w0 w G (RwS bl vs sl :: F)) :
    Calls Try.prog 19 #[.agg #[I64 c, I64 l, I64 num], Sl bl 0 vs.length cp, I64 n] w fun e w' => ∃ G' u, e = .returned (.tuple #[u, I64 (joinS c l num frs n).2]) ∧ Im.le G G' ∧ Sat w0 w' G' (RwS bl vs sl :: F) := by
  have hGb : G bl = none := hs.sep _ (List.mem_cons_self ..)
  have hG2 : Im.le G (G.add bl (Cs (vs ++ sl) 22)) := Im.le_add hGb
  refine (join_c c l num n _ frs hml w0 w _ F (RwS.sv (Im.add_self G bl _) hc (hit.mono hG2)) hs.freeze).mono fun e w' ⟨G', u, he, hG', _, h⟩ => ?_
  have hk := hG' _ _ (Im.add_self G bl (Cs (vs ++ sl) 22))
  exact ⟨Im.del G' bl, u, he, Im.le_del (hG2.trans hG') hGb, h.thaw hk⟩
attribute [local irreducible] Code.wp wpList stepK Holds Val wpR Eff Eff0 Code.wpIn wpListIn stepI Exit.then Exit.inBlock bodyPost bodyPostM

theorem unlike_c (m k : Int) (vd : Value) (xs : List UInt8) (w0 w : World) (G : Im) (F : Hp) (hv : SV G [] vd xs.length (xs.map B8)) (hs : Sat w0 w G F) :
    Calls Try.prog 4 #[I64 m, I64 k, vd] w fun e w' => ∃ G', e = .returned (.bool true) ∧ Im.le G G' ∧ Sat w0 w' G' F := by
  obtain ⟨ad, cp, rfl⟩ := hv.form
  refine f_enter (vs := [_, _, _]) Try.func4 rfl Try.ntmps4 (by simp) hs ?_
  refine ww ?_
  refine c_cons (s_call (xs := []) rfl rfl rfl rfl rfl rfl (by kernel_rfl) (fun w hs => awake_c _ w _ _ hs) ?_)
  rintro e w' ⟨G0, rfl, hG, hs'⟩; refine a_ret ?_ hs'; clear hs'
  replace hv := hv.mono (H' := []) hG (fun p hp => hp)
  refine ww ?_
  refine c_cond_f rfl ?_
  refine ww ?_
  refine c_cons (s_call (xs := [_]) rfl rfl rfl rfl rfl rfl (by kernel_rfl) (fun w hs => servers_c m _ w _ _ hs) ?_)
  rintro e w' ⟨rfl, hs'⟩; refine a_ret ?_ hs'; clear hs'
  have hn := srvS_in m
  generalize srvS m = n at hn ⊢
  refine ww ?_
  refine c_cons (s_call (xs := [_]) rfl rfl rfl rfl rfl rfl (by kernel_rfl) (fun w hs => stripeL_c m _ w _ _ hs) ?_)
  obtain ⟨hst, _⟩ := strS_mst m
  generalize strS m = s at hst ⊢
  rintro e w' ⟨rfl, hs'⟩; refine a_ret ?_ hs'; clear hs'
  refine ww ?_
  refine c_cons (s_call (xs := [_]) rfl rfl rfl rfl rfl rfl (by kernel_rfl) (fun w hs => stripeL_c k _ w _ _ hs) ?_)
  obtain ⟨htt, _⟩ := strS_mst k
  generalize strS k = t at htt ⊢
  rintro e w' ⟨rfl, hs'⟩; refine a_ret ?_ hs'; clear hs'
  refine c_cons (s_allocA [I64 0, I64 0, I64 0] (by kernel_rfl) rfl rfl fun b1 => ?_)
  refine c_cons (s_allocA [I64 0, I64 0, I64 0] (by kernel_rfl) rfl rfl fun b2 => ?_)
  refine c_cons (s_storeA (vs := [I64 s.c, I64 s.l, I64 s.n]) rfl rfl rfl (.tail (.head)) (by kernel_rfl) (by simp [Value.oneCell']) rfl ?_)
  refine c_cons (s_storeA (vs := [I64 t.c, I64 t.l, I64 t.n]) rfl rfl rfl (.tail (.head)) (by kernel_rfl) (by simp [Value.oneCell']) rfl ?_)
  refine c_freeze .head fun G1 hG1 k2 => ?_
  refine c_freeze .head fun G2 hG2 k1 => ?_
  replace k2 := hG2 _ _ k2
  have hGa := hG.trans (hG1.trans hG2)
  replace hv := hv.mono (H' := []) (hG1.trans hG2) (fun p hp => hp)
  refine ww ?_
  refine c_cond_d rfl (fun c2 => ?_) (fun c2 => ?_)
  · -- then
    refine ww ?_
    exact f_ret1 rfl rfl (fun w hs => ⟨G2, rfl, hGa, hs⟩)
  refine ww ?_
  refine c_cons (s_val (v_loadAgg (vs := [I64 s.c, I64 s.l, I64 s.n]) rfl (by kernel_rfl) (by kernel_rfl) rfl (fun j u hj => (Cel.allI k1 hj))) rfl rfl rfl ?_)
  refine ww ?_
  refine c_cons (s_call (xs := [_, _, _]) rfl rfl rfl rfl rfl rfl (by kernel_rfl) (fun w hs => cut_c s.c s.l s.n n _ xs (by omega) _ w _ _ hv hs) ?_)
  rw [cutS_ok hn hst (by omega)]
  rintro e w' ⟨G3, u3, B3, rfl, hG3, hu3, hs'⟩; refine a_ret ?_ hs'; clear hs'
  dsimp only at hu3 ⊢
  refine hu3.freeze Chunk.head fun G4 hG4 hr4 => ?_
  replace hv := hv.mono (H' := []) (hG3.trans hG4) (fun p hp => hp)
  replace k1 := hG4 _ _ (hG3 _ _ k1)
  replace k2 := hG4 _ _ (hG3 _ _ k2)
  have hGb := hGa.trans (hG3.trans hG4)
  refine ww ?_
  refine c_cons (s_val (v_loadAgg (vs := [I64 t.c, I64 t.l, I64 t.n]) rfl (by kernel_rfl) (by kernel_rfl) rfl (fun j u hj => (Cel.allI k2 hj))) rfl rfl rfl ?_)
  refine ww ?_
  refine c_cons (s_call (xs := [_, _, _]) rfl rfl rfl rfl rfl rfl (by kernel_rfl) (fun w hs => cut_c t.c t.l t.n n _ xs (by omega) _ w _ _ hv hs) ?_)
  rw [cutS_ok hn htt (by omega)]
  rintro e w' ⟨G5, u5, B5, rfl, hG5, hu5, hs'⟩; refine a_ret ?_ hs'; clear hs'
  dsimp only at hu5 ⊢
  refine hu5.freeze Chunk.head fun G6 hG6 hr6 => ?_
  replace k1 := hG6 _ _ (hG5 _ _ k1)
  replace k2 := hG6 _ _ (hG5 _ _ k2)
  replace hr4 := hr4.mono (hG5.trans hG6)
  have hGc := hGb.trans (hG5.trans hG6)
  have hrl := rowsL_length xs n hn
  have hgo : ∀ frs, frs.length = (rowsL xs n).length → (∀ (i : Nat) r, (rowsL xs n)[i]? = some r → frs[i]? = some [] ∨ frs[i]? = some (headB ⟨s.c, s.l, s.n, i, n, xs.length⟩ ++ r)) → Gone s.c s.l s.n n xs.length (rowsL xs n) frs := fun frs h1 h2 => gone_all hn hst (by omega) frs h1 h2
  have hmx := rowsL_max xs n
  have hch0 : ∀ (i : Nat) r, (rowsL xs n)[i]? = some r → (fragsL s.c s.l s.n n xs.length (rowsL xs n))[i]? = some (headB ⟨s.c, s.l, s.n, i, n, xs.length⟩ ++ r) := fun i r h => frag_at h
  have hok1 : ∀ {i : Nat} {r : List UInt8} {q : Sr}, mst q.c q.l q.n → (i : Int) < n → (rowsL xs n)[i]? = some r → readE (headB ⟨q.c, q.l, q.n, i, n, xs.length⟩ ++ r) = 0 ∧ readH (headB ⟨q.c, q.l, q.n, i, n, xs.length⟩ ++ r) = ⟨q.c, q.l, q.n, i, n, xs.length⟩ := fun {i r q} hq hi hr => by
    obtain ⟨h1, h2, _⟩ := readE_head ⟨q.c, q.l, q.n, i, n, xs.length⟩ r ⟨hq, hn, by dsimp only; omega, by dsimp only; omega, by dsimp only; omega⟩ (by dsimp only; omega) (rowsL_long xs n hn i r hr)
    exact ⟨h1, h2⟩
  obtain ⟨rs, hrs⟩ : ∃ rs, rs = rowsL xs n := ⟨_, rfl⟩
  rw [← hrs] at hrl hgo hmx hch0 hok1 hr4 hr6
  have hlf : (fragsL s.c s.l s.n n xs.length rs).length = n.toNat := by rw [fragsL_len]; exact hrl
  have hlo : (fragsL t.c t.l t.n n xs.length rs).length = n.toNat := by rw [fragsL_len]; exact hrl
  have e11 := @frag_eq s.c s.l s.n s.c s.l s.n n xs.length rs hn hst hst (by omega) (by omega)
  have e12 := @frag_eq s.c s.l s.n t.c t.l t.n n xs.length rs hn hst htt (by omega) (by omega)
  have hfm := frags_max s.c s.l s.n n xs.length rs xs.length hmx
  have hom := frags_max t.c t.l t.n n xs.length rs xs.length hmx
  have hso : (s.c = t.c ∧ s.l = t.l ∧ s.n = t.n) → fragsL s.c s.l s.n n xs.length rs = fragsL t.c t.l t.n n xs.length rs := by rintro ⟨h1, h2, h3⟩; rw [h1, h2, h3]
  have hot0 : ∀ (i : Nat) r, rs[i]? = some r → (fragsL t.c t.l t.n n xs.length rs)[i]? = some (headB ⟨t.c, t.l, t.n, i, n, xs.length⟩ ++ r) := fun i r h => frag_at h
  obtain ⟨fr, hfr⟩ : ∃ fr, fr = fragsL s.c s.l s.n n xs.length rs := ⟨_, rfl⟩
  obtain ⟨ot, hot⟩ : ∃ ot, ot = fragsL t.c t.l t.n n xs.length rs := ⟨_, rfl⟩
  rw [← hfr] at e11 e12 hr4 hlf hch0 hfm hso
  rw [← hot] at e12 hr6 hlo hot0 hom hso
  obtain ⟨ad4, cp4, rfl⟩ := hr4.len
  obtain ⟨ad6, cp6, rfl⟩ := hr6.len
  refine ww ?_
  refine c_kf 48 rfl (by omega) ?_
  refine ww ?_
  refine c_kf 52 rfl (by omega) ?_
  refine ww ?_
  refine c_kf 58 rfl (by omega) ?_
  refine ww ?_
  refine c_cond_d rfl (fun c6 => ?_) (fun c6 => ?_)
  · exfalso; omega
  refine ww ?_
  refine c_loop (α := Nat) (fun x => [(7, I64 n), (8, Pt b1 0), (9, Pt b2 0), (10, .slice ad4 fr.length cp4), (12, .slice ad6 ot.length cp6), (14, I64 x)]) (fun _ => G6) (fun x => F) (fun x => (x : Int) ≤ n) (fun x => n.toNat - x) 0 (by omega) ?_ ?_
  · exact n_at ⟨rfl, rfl, rfl, rfl, rfl, rfl, trivial⟩ sbx
  rintro i hi
  refine ww ?_
  refine c_cond_d rfl (fun c7 => ?_) (fun c7 => ?_)
  · -- then
    refine ww ?_
    refine c_loop (α := Nat) (fun x => [(7, I64 n), (8, Pt b1 0), (9, Pt b2 0), (10, .slice ad4 fr.length cp4), (12, .slice ad6 ot.length cp6), (14, I64 i), (15, I64 x)]) (fun _ => G6) (fun x => F) (fun x => (x : Int) ≤ n) (fun x => n.toNat - x) 0 (by omega) ?_ ?_
    · exact n_at ⟨rfl, rfl, rfl, rfl, rfl, rfl, rfl, trivial⟩ sbx
    rintro j hj
    refine ww ?_
    refine c_cond_d rfl (fun c8 => ?_) (fun c8 => ?_)
    · -- then
      obtain ⟨x1, hx1⟩ : ∃ x, fr[i]? = some x := ⟨_, List.getElem?_eq_getElem (by omega)⟩
      obtain ⟨x2, hx2⟩ : ∃ x, fr[j]? = some x := ⟨_, List.getElem?_eq_getElem (by omega)⟩
      obtain ⟨x3, hx3⟩ : ∃ x, ot[j]? = some x := ⟨_, List.getElem?_eq_getElem (by omega)⟩
      have q1 := e11 hx1 hx2
      have q2 := e12 hx1 hx3
      obtain ⟨ba, oa, ca, ua, e1, hc1, hu1⟩ := hr4.row hx1
      obtain ⟨bb, ob, cb, ub, e2, hc2, hu2⟩ := hr4.row hx2
      obtain ⟨bc, oc, cc, uc, e3, hc3, hw3⟩ := hr6.row hx3
      cases e1; cases e2; cases e3
      replace hc1 := fun H => hc1 G6 H (Im.le_refl _)
      replace hc2 := fun H => hc2 G6 H (Im.le_refl _)
      replace hc3 := fun H => hc3 G6 H (Im.le_refl _)
      refine ww ?_
      refine r_startS [] [] (by kernel_rfl) (fun w h => h.none) ?_
      refine r_tk 0 rfl rfl (v_move rfl) (fun _ h => h.none) ?_
      refine r_tk 1 rfl rfl (v_move rfl) (fun _ h => h.none) ?_
      refine r_tk 2 rfl rfl (v_index1 rfl rfl (by kernel_rfl) (by omega)) (fun _ h => h.none) ?_
      refine r_tk 3 rfl rfl (v_load rfl (hc1 _) (by kernel_rfl)) (fun _ h => h.none) ?_
      refine r_tk 4 rfl rfl (v_move rfl) (fun _ h => h.none) ?_
      refine r_tk 5 rfl rfl (v_move rfl) (fun _ h => h.none) ?_
      refine r_tk 6 rfl rfl (v_index1 rfl rfl (by kernel_rfl) (by omega)) (fun _ h => h.none) ?_
      refine r_tk 7 rfl rfl (v_load rfl (hc2 _) (by kernel_rfl)) (fun _ h => h.none) ?_
      refine r_tk 9 rfl rfl (v_move rfl) (fun _ h => h.none) ?_
      refine r_tk 10 rfl rfl (v_move rfl) (fun _ h => h.none) ?_
      refine r_tk 11 rfl rfl (v_eql rfl rfl) (fun _ h => h.none) ?_
      refine r_one 8 (by kernel_rfl) rfl ?_
      refine s_call (xs := [_, _]) rfl rfl rfl rfl rfl rfl (by kernel_rfl) (fun w hs => same_c _ _ x1 x2 _ w _ _ (hu1.mono (Im.le_refl _) (by simp)) (hu2.mono (Im.le_refl _) (by simp)) hs) ?_
      rintro e w' ⟨rfl, hs'⟩; refine a_ret ?_ hs'; clear hs'
      refine r_next (fun w h => h.none) ?_
      have qe1 : (decide (x1 = x2) != decide ((i : Int) = (j : Int))) = false := by
        have : (x1 = x2) ↔ ((i : Int) = (j : Int)) := by rw [q1]; constructor; (intro h; omega); (intro h; exact ⟨by omega, rfl, rfl, rfl⟩)
        by_cases h : x1 = x2
        · rw [decide_eq_true h, decide_eq_true (this.1 h)]; rfl
        · rw [decide_eq_false h, decide_eq_false (fun e => h (this.2 e))]; rfl
      refine r_tk 12 rfl rfl (v_is (v_neb rfl rfl (by kernel_rfl)) (show _ = Value.bool false by rw [qe1])) (fun _ h => h.none) ?_
      refine r_tk 13 rfl rfl (v_move rfl) (fun _ h => h.none) ?_
      refine r_tk 14 rfl rfl (v_move rfl) (fun _ h => h.none) ?_
      refine r_tk 15 rfl rfl (v_move rfl) (fun _ h => h.none) ?_
      refine r_tk 16 rfl rfl (v_index1 rfl rfl (by kernel_rfl) (by omega)) (fun _ h => h.none) ?_
      refine r_tk 17 rfl rfl (v_load rfl (hc1 _) (by kernel_rfl)) (fun _ h => h.none) ?_
      refine r_tk 18 rfl rfl (v_move rfl) (fun _ h => h.none) ?_
      refine r_tk 19 rfl rfl (v_move rfl) (fun _ h => h.none) ?_
      refine r_tk 20 rfl rfl (v_index1 rfl rfl (by kernel_rfl) (by omega)) (fun _ h => h.none) ?_
      refine r_tk 21 rfl rfl (v_load rfl (hc3 _) (by kernel_rfl)) (fun _ h => h.none) ?_
      refine r_tk 23 rfl rfl (v_move rfl) (fun _ h => h.none) ?_
      refine r_tk 24 rfl rfl (v_move rfl) (fun _ h => h.none) ?_
      refine r_tk 25 rfl rfl (v_eql rfl rfl) (fun _ h => h.none) ?_
      refine r_one 22 (by kernel_rfl) rfl ?_
      refine s_call (xs := [_, _]) rfl rfl rfl rfl rfl rfl (by kernel_rfl) (fun w hs => same_c _ _ x1 x3 _ w _ _ (hu1.mono (Im.le_refl _) (by simp)) (hw3.mono (Im.le_refl _) (by simp)) hs) ?_
      rintro e w' ⟨rfl, hs'⟩; refine a_ret ?_ hs'; clear hs'
      refine r_next (fun w h => h.none) ?_
      refine r_tk 26 rfl rfl (v_move rfl) (fun _ h => h.none) ?_
      refine c_part_d 100 _ rfl (fun c10 => ?_) (fun c10 => ?_)
      · -- t100 = True
        have qe2 : (decide (x1 = x3) != (decide (s.c = t.c) && decide (s.l = t.l) && decide (s.n = t.n))) = false := by
          have : (x1 = x3) ↔ ((s.c = t.c ∧ s.l = t.l) ∧ s.n = t.n) := by rw [q2]; constructor; (rintro ⟨_, h1, h2, h3⟩; exact ⟨⟨h1, h2⟩, h3⟩); (rintro ⟨⟨h1, h2⟩, h3⟩; exact ⟨by omega, h1, h2, h3⟩)
          rw [← Bool.decide_and, ← Bool.decide_and]
          by_cases h : x1 = x3
          · rw [decide_eq_true h, decide_eq_true (this.1 h)]; rfl
          · rw [decide_eq_false h, decide_eq_false (fun e => h (this.2 e))]; rfl
        refine r_tk 27 rfl rfl (v_loadAgg (vs := [I64 s.c, I64 s.l, I64 s.n]) rfl (by kernel_rfl) (by kernel_rfl) rfl (fun j u hj => (Cel.allI k1 hj))) (fun _ h => h.none) ?_
        refine r_tk 28 rfl rfl (v_loadAgg (vs := [I64 t.c, I64 t.l, I64 t.n]) rfl (by kernel_rfl) (by kernel_rfl) rfl (fun j u hj => (Cel.allI k2 hj))) (fun _ h => h.none) ?_
        refine r_tk 29 rfl rfl (v_eq3 rfl rfl (by kernel_rfl)) (fun _ h => h.none) ?_
        refine r_tk 30 rfl rfl (v_pick_t rfl rfl) (fun _ h => h.none) ?_
        refine r_tk 31 rfl rfl (v_is (v_neb rfl rfl (by kernel_rfl)) (show _ = Value.bool false by rw [qe2])) (fun _ h => h.none) ?_
        refine r_tk 32 rfl rfl (v_pick_f rfl rfl) (fun _ h => h.none) ?_
        refine r_done (by kernel_rfl) ?_
        refine ww ?_
        refine c_cond_f rfl ?_
        refine ww ?_
        exact n_next (x := j) (j + 1) (by omega) (by omega) ⟨rfl, rfl, rfl, rfl, rfl, rfl, rfl, trivial⟩ rfl sbx
      have qe2 : (decide (x1 = x3) != false) = false := by
        rw [decide_eq_false (fun e => c10 (by have := (q2.1 e).1; omega))]; rfl
      refine r_skip 27 rfl (by kernel_rfl) (by kernel_rfl) (by kernel_rfl) (by kernel_rfl) rfl rfl rfl (fun _ h => h.none) (by repeat (first | exact pk_body | exact pk_no | exact pk_S | apply pk_then | apply pk_block)) ?_; refine r_skip 28 rfl (by kernel_rfl) (by kernel_rfl) (by kernel_rfl) (by kernel_rfl) rfl rfl rfl (fun _ h => h.none) (by repeat (first | exact pk_body | exact pk_no | exact pk_S | apply pk_then | apply pk_block)) ?_; refine r_skip 29 rfl (by kernel_rfl) (by kernel_rfl) (by kernel_rfl) (by kernel_rfl) rfl rfl rfl (fun _ h => h.none) (by repeat (first | exact pk_body | exact pk_no | exact pk_S | apply pk_then | apply pk_block)) ?_
      refine r_tk 30 rfl rfl (v_pick_f rfl rfl) (fun _ h => h.none) ?_
      refine r_tk 31 rfl rfl (v_is (v_neb rfl rfl (by kernel_rfl)) (show _ = Value.bool false by rw [qe2])) (fun _ h => h.none) ?_
      refine r_tk 32 rfl rfl (v_pick_f rfl rfl) (fun _ h => h.none) ?_
      refine r_done (by kernel_rfl) ?_
      refine ww ?_
      refine c_cond_f rfl ?_
      refine ww ?_
      exact n_next (x := j) (j + 1) (by omega) (by omega) ⟨rfl, rfl, rfl, rfl, rfl, rfl, rfl, trivial⟩ rfl sbx
    refine ww ?_
    exact n_next (x := i) (i + 1) (by omega) (by omega) ⟨rfl, rfl, rfl, rfl, rfl, rfl, trivial⟩ rfl sbx
  -- another one's fragment in the first place
  obtain ⟨r0, hr0⟩ : ∃ r, rs[0]? = some r := ⟨_, List.getElem?_eq_getElem (by omega)⟩
  obtain ⟨r1, hr1⟩ : ∃ r, rs[1]? = some r := ⟨_, List.getElem?_eq_getElem (by omega)⟩
  have hx0 := hch0 0 r0 hr0
  have hx1 := hch0 1 r1 hr1
  have ho0 := hot0 0 r0 hr0
  obtain ⟨x0, hx0e⟩ : ∃ x, x = headB ⟨s.c, s.l, s.n, ((0 : Nat) : Int), n, xs.length⟩ ++ r0 := ⟨_, rfl⟩
  obtain ⟨x1, hx1e⟩ : ∃ x, x = headB ⟨s.c, s.l, s.n, ((1 : Nat) : Int), n, xs.length⟩ ++ r1 := ⟨_, rfl⟩
  obtain ⟨y0, hy0e⟩ : ∃ x, x = headB ⟨t.c, t.l, t.n, ((0 : Nat) : Int), n, xs.length⟩ ++ r0 := ⟨_, rfl⟩
  rw [← hx0e] at hx0
  rw [← hx1e] at hx1
  rw [← hy0e] at ho0
  obtain ⟨rr, hfrr⟩ : ∃ rr, fr = x0 :: rr := by
    cases fr with
    | nil => cases hx0
    | cons a r => cases hx0; exact ⟨r, rfl⟩
  have j1 : joinS s.c s.l s.n (x1 :: rr) n = ([], 4) := by
    obtain ⟨h1, h2⟩ := hok1 hst (by omega) hr1
    rw [← hx1e] at h1 h2
    have hne : x1 ≠ [] := by rw [hx1e]; intro h; have := congrArg List.length h; rw [List.length_append, headB_len] at this; simp at this
    have := rowsR_first (c := s.c) (l := s.l) (num := s.n) (n := n) (frs := x1 :: rr) rfl hne (fun h => by
      obtain ⟨_, _, h3, _⟩ := h
      rw [h2] at h3
      dsimp only at h3
      omega)
    unfold joinS
    rw [if_pos ⟨hn, by rw [hfrr] at hlf; simp only [List.length_cons] at hlf ⊢; omega⟩, this]
  have j2 : (joinS s.c s.l s.n (y0 :: rr) n).2 = if (s.c = t.c ∧ s.l = t.l ∧ s.n = t.n) then 0 else 4 := by
    by_cases he : s.c = t.c ∧ s.l = t.l ∧ s.n = t.n
    · rw [if_pos he]
      have hfo := hso he
      have hy : y0 = x0 := by rw [hfo, ho0] at hx0; exact Option.some.inj hx0
      rw [hy, ← hfrr]
      have hg := hgo fr (by rw [hfr, fragsL_len]) (fun i r h => .inr (hch0 i r h))
      rw [hrs] at hg
      rw [hg.join]
      refine Nat.le_trans (Nat.le_of_eq ?_) (Nat.zero_le 1)
      refine List.countP_eq_zero.2 fun i hi => ?_
      simp only [decide_eq_true_eq]
      rintro ⟨_, h0⟩
      have hi := List.mem_range.1 hi
      obtain ⟨r, hr⟩ : ∃ r, rs[i]? = some r := ⟨_, List.getElem?_eq_getElem (by omega)⟩
      have := hch0 i r hr
      rw [List.getD, this, Option.getD_some] at h0
      have := congrArg List.length h0
      rw [List.length_append, headB_len] at this
      simp at this
    · rw [if_neg he]
      obtain ⟨h1, h2⟩ := hok1 htt (by omega) hr0
      rw [← hy0e] at h1 h2
      have hne : y0 ≠ [] := by rw [hy0e]; intro h; have := congrArg List.length h; rw [List.length_append, headB_len] at this; simp at this
      have := rowsR_first (c := s.c) (l := s.l) (num := s.n) (n := n) (frs := y0 :: rr) rfl hne (fun h => by
        obtain ⟨_, ⟨h3, h4, h5⟩, _⟩ := h
        rw [h2] at h3 h4 h5
        exact he ⟨h3.symm, h4.symm, h5.symm⟩)
      unfold joinS
      rw [if_pos ⟨hn, by rw [hfrr] at hlf; simp only [List.length_cons] at hlf ⊢; omega⟩, this]
  have hml1 : ∀ b, b ∈ x1 :: rr → b.length ≤ 100000 := fun b hb => by
    rcases List.mem_cons.1 hb with rfl | hb
    · have := hfm _ (List.mem_of_getElem? hx1); omega
    · have := hfm b (by rw [hfrr]; exact List.mem_cons_of_mem _ hb); omega
  have hml2 : ∀ b, b ∈ y0 :: rr → b.length ≤ 100000 := fun b hb => by
    rcases List.mem_cons.1 hb with rfl | hb
    · have := hom _ (List.mem_of_getElem? ho0); omega
    · have := hfm b (by rw [hfrr]; exact List.mem_cons_of_mem _ hb); omega
  obtain ⟨ba, oa, ca, ua, e1, hc1, hu1⟩ := hr4.row hx1
  obtain ⟨bb, ob, cb, ub, e2, hc2, hu2⟩ := hr6.row ho0
  cases e1; cases e2
  replace hc1 := fun H => hc1 G6 H (Im.le_refl _)
  obtain ⟨vs, hsv, hit⟩ := id hr4
  have hvl : vs.length = fr.length := hit.1
  obtain ⟨v0, vr, rfl⟩ : ∃ v0 vr, vs = v0 :: vr := by
    cases vs with
    | nil => rw [hfrr] at hvl; simp at hvl
    | cons a b => exact ⟨a, b, rfl⟩
  rw [hvl] at hsv
  rw [hfrr] at hit
  have hvo : ∀ u ∈ v0 :: vr, u.oneCell' = true := fun u hu => by
    obtain ⟨j, hj⟩ := List.mem_iff_getElem?.1 hu
    have hjl := (List.getElem?_eq_some_iff.1 hj).1
    obtain ⟨r, hr⟩ : ∃ r, (x0 :: rr)[j]? = some r := ⟨_, List.getElem?_eq_getElem (by rw [← hit.1]; exact hjl)⟩
    exact (hit.2 j u r hj hr).one
  refine ww ?_
  refine c_cons (s_lit (z := .slice none 0 0) (bs := 24) (e := 22) [] (by kernel_rfl) rfl rfl rfl rfl (by simp [Value.oneCell']) rfl (by decide) fun b3 => ?_)
  refine ww ?_
  refine c_cons (s_append (e := 22) (z := .slice none 0 0) (sz := 1) (bs := 24) (by kernel_rfl) rfl rfl rfl rfl (Own.full (by simp) (by decide)) Chunk.one (hsv.mono (Im.le_refl _) (by simp)) rfl (by decide) (by rw [hvl, Nat.mul_one]) hvo (by simp; omega) (by simp; omega) fun u4 B4 hown4 => ?_)
  simp only [List.length_nil, List.nil_append, Nat.zero_add] at hown4
  obtain ⟨hl4, hown4⟩ := hown4
  rcases hown4 with ⟨ad7, rfl, h0, rfl⟩ | ⟨bx, cx, sl, rfl, hb1, hb2, hb3, rfl⟩
  · omega
  rw [← hvl] at hb2 ⊢
  change Holds _ _ _ _ _ ((bx, Cs ((v0 :: vr) ++ sl) 22) :: F) _
  refine ww ?_
  refine c_cons (s_val (v_index1 rfl rfl (by kernel_rfl) (by omega)) rfl rfl rfl ?_)
  refine c_cons (s_val (v_load rfl (hc1 _) (by kernel_rfl)) rfl rfl rfl ?_)
  refine c_cons (s_val (v_index1 rfl rfl (by kernel_rfl) (by simp)) rfl rfl rfl ?_)
  refine c_cons (s_store1 rfl rfl rfl .head (by kernel_rfl) hu1.one (by simp) ?_)
  change Holds _ _ _ _ _ (RwS bx (ua :: vr) sl :: F) _
  refine ww ?_
  refine c_cons (s_val (v_loadAgg (vs := [I64 s.c, I64 s.l, I64 s.n]) rfl (by kernel_rfl) (by kernel_rfl) rfl (fun j u hj => (Cel.allI k1 hj))) rfl rfl rfl ?_)
  refine ww ?_
  refine c_cons (s_call (xs := [_, _, _]) rfl rfl rfl rfl rfl rfl (by kernel_rfl) (fun w hs => joinO_c s.c s.l s.n n bx cx (ua :: vr) sl (x1 :: rr) hml1 ⟨hb2, hb1⟩ _ w _ _ (hit.sub0 hu1) hs) ?_)
  rw [j1]
  rintro e w' ⟨G7, u7, rfl, hG7, hs'⟩; refine a_ret ?_ hs'; clear hs'
  dsimp only
  replace k1 := hG7 _ _ k1
  replace k2 := hG7 _ _ k2
  replace hc2 := fun H => hc2 G7 H hG7
  refine ww ?_
  refine c_cons (s_val (v_index1 rfl rfl (by kernel_rfl) (by omega)) rfl rfl rfl ?_)
  refine c_cons (s_val (v_load rfl (hc2 _) (by kernel_rfl)) rfl rfl rfl ?_)
  refine c_cons (s_val (v_index1 rfl rfl (by kernel_rfl) (by simp)) rfl rfl rfl ?_)
  refine c_cons (s_store1 rfl rfl rfl .head (by kernel_rfl) hu2.one (by simp) ?_)
  change Holds _ _ _ _ _ (RwS bx (ub :: vr) sl :: F) _
  refine ww ?_
  refine c_cons (s_val (v_loadAgg (vs := [I64 s.c, I64 s.l, I64 s.n]) rfl (by kernel_rfl) (by kernel_rfl) rfl (fun j u hj => (Cel.allI k1 hj))) rfl rfl rfl ?_)
  refine ww ?_
  refine c_cons (s_call (xs := [_, _, _]) rfl rfl rfl rfl rfl rfl (by kernel_rfl) (fun w hs => joinO_c s.c s.l s.n n bx cx (ub :: vr) sl (y0 :: rr) hml2 ⟨hb2, hb1⟩ _ w _ _ ((hit.sub0 hu2).mono hG7) hs) ?_)
  rw [j2]
  rintro e w' ⟨G8, u8, rfl, hG8, hs'⟩; refine a_ret ?_ hs'; clear hs'
  replace k1 := hG8 _ _ k1
  replace k2 := hG8 _ _ k2
  refine ww ?_
  refine c_kt 136 rfl rfl ?_
  refine ww ?_
  refine c_cons (s_val (v_loadAgg (vs := [I64 s.c, I64 s.l, I64 s.n]) rfl (by kernel_rfl) (by kernel_rfl) rfl (fun j u hj => (Cel.allI k1 hj))) rfl rfl rfl ?_)
  refine c_cons (s_val (v_loadAgg (vs := [I64 t.c, I64 t.l, I64 t.n]) rfl (by kernel_rfl) (by kernel_rfl) rfl (fun j u hj => (Cel.allI k2 hj))) rfl rfl rfl ?_)
  refine c_cons (s_val (v_ne3 rfl rfl (by kernel_rfl)) rfl rfl rfl ?_)
  have hq : (decide ((if s.c = t.c ∧ s.l = t.l ∧ s.n = t.n then (0 : Int) else 4) = 4) == !(decide (s.c = t.c) && decide (s.l = t.l) && decide (s.n = t.n))) = true := by
    by_cases h1 : s.c = t.c <;> by_cases h2 : s.l = t.l <;> by_cases h3 : s.n = t.n <;> simp [h1, h2, h3]
  refine c_cons (s_val (v_is (v_eqb rfl rfl (by kernel_rfl)) (show _ = Value.bool true by rw [hq])) rfl rfl rfl ?_)
  refine ww ?_
  exact f_ret1 rfl rfl (fun w hs => ⟨G8, rfl, hGc.trans (hG7.trans hG8), hs.tl⟩)
end Go.Proofs.Ytldkldmjcacopaa
