/- The law LayoutBack. -/
import Derived.Test.YtldkldmjcacopaaLayM
import Derived.Test.YtldkldmjcacopaaLayL6
import Derived.Test.YtldkldmjcacopaaLayL1
namespace Go.Proofs.Ytldkldmjcacopaa
open Go
set_option linter.unusedVariables false
set_option linter.unusedSimpArgs false
set_option maxHeartbeats 1600000
/-! ### What was cut, some of it missing -/
theorem lost_one {nt : Int} {frs : List (List UInt8)} {i : Nat} (h : ∀ j : Nat, ¬ (j : Int) = nt → frs.getD j [] = [] → j = i) : ∀ k, lost nt frs k ≤ if i < k then 1 else 0
  | 0 => by simp [lost]
  | k + 1 => by
    have ih := lost_one h k
    rw [lost_succ]
    by_cases hc : ¬ (k : Int) = nt ∧ frs.getD k [] = []
    · have := h k hc.1 hc.2
      subst this
      rw [if_neg (by omega)] at ih
      rw [if_pos hc, if_pos (by omega)]; omega
    · rw [if_neg hc]
      by_cases hk : i < k
      · rw [if_pos hk] at ih; rw [if_pos (by omega)]; exact ih
      · rw [if_neg hk] at ih; omega
theorem lost_ge {nt : Int} {frs : List (List UInt8)} {i : Nat} (h1 : ¬ (i : Int) = nt) (h2 : frs.getD i [] = []) : ∀ k, i < k → 1 ≤ lost nt frs k
  | 0, h => by omega
  | k + 1, h => by
    rw [lost_succ]
    by_cases e : i = k
    · subst e; rw [if_pos ⟨h1, h2⟩]; omega
    · have := lost_ge h1 h2 k (by omega); omega
theorem lost_ge2 {nt : Int} {frs : List (List UInt8)} {i j : Nat} (hij : i < j) (h1 : ¬ (i : Int) = nt) (h2 : frs.getD i [] = []) (h3 : ¬ (j : Int) = nt) (h4 : frs.getD j [] = []) : ∀ k, j < k → 2 ≤ lost nt frs k
  | 0, h => by omega
  | k + 1, h => by
    rw [lost_succ]
    by_cases e : j = k
    · subst e; rw [if_pos ⟨h3, h4⟩]; have := lost_ge h1 h2 j hij; omega
    · have := lost_ge2 hij h1 h2 h3 h4 k (by omega); omega
theorem gone_mend {c l num n : Int} {xs : List UInt8} {frs : List (List UInt8)} (h : Gone c l num n xs.length (rowsL xs n) frs) (i : Nat) (hi : (i : Int) < n) (r : List UInt8) (hr : (rowsL xs n)[i]? = some r) (h0 : lost i frs frs.length = 0) :
    mendS c l num frs i n = (headB ⟨c, l, num, i, n, xs.length⟩ ++ r, 0) := by
  have hrl := rowsL_length xs n h.srv
  have hn3 := h.srv
  have ha := h.all
  obtain ⟨sz, hrr, hs⟩ := h.rows i frs.length (by omega)
  rw [List.take_length, h0] at hrr
  obtain ⟨o1, o2, o3, o4, o5⟩ := rows_all (ix := i) h.srv (by omega) hi hrr rfl
  dsimp only at o1 o2 o3 o5
  have hsz : sz = xs.length := by
    rcases hs with h | ⟨h, _⟩
    · exact h
    · omega
  subst hsz
  have hg := rows_good _ _ _ _ _ _ _ hrr
  have hol := seen_len (i : Int) (rowsL xs n) frs frs.length
  have hsat : ∀ j : Nat, j ≠ i → (rsO (seen i (rowsL xs n) frs frs.length))[j]? = (rowsL xs n)[j]? := fun j hj => by
    by_cases hjl : j < frs.length
    · obtain ⟨r, hr⟩ := o1 j (by omega) hj
      have h2 := seen_at (i : Int) (rowsL xs n) frs frs.length j hjl
      rw [hr] at h2
      rw [rsO_at, hr]
      split at h2
      · cases h2
      · have h3 := Option.some.inj (Option.some.inj h2)
        rw [Option.map_some, Option.getD_some, h3, List.getD, List.getElem?_eq_getElem (by omega)]; rfl
    · rw [List.getElem?_eq_none (by rw [rsO_len]; omega), List.getElem?_eq_none (by omega)]
  have f1 := fillS_par h.srv (by rw [rsO_len]; omega) i r hr hsat
  have hgl := hg.long
  dsimp only at hgl
  have f2 := fillS_ok (os := seen (i : Int) (rowsL xs n) frs frs.length) h.srv o2 (by omega) i (by omega) (fun j r h => (hgl j r h).1) o1
  rw [f1] at f2
  unfold mendS
  rw [if_pos ⟨⟨h.srv, by omega⟩, by omega, hi⟩, hrr]
  dsimp only
  rw [if_pos (by rfl), ← Option.some.inj f2]
theorem gone_mendLost {c l num n : Int} {xs : List UInt8} {frs : List (List UInt8)} (h : Gone c l num n xs.length (rowsL xs n) frs) (i : Nat) (hi : (i : Int) < n) (h0 : lost i frs frs.length ≠ 0) :
    mendS c l num frs i n = ([], 15) := by
  have hrl := rowsL_length xs n h.srv
  have hn3 := h.srv
  have ha := h.all
  obtain ⟨sz, hrr, hs⟩ := h.rows i frs.length (by omega)
  rw [List.take_length] at hrr
  unfold mendS
  rw [if_pos ⟨⟨h.srv, by omega⟩, by omega, hi⟩, hrr]
  dsimp only
  rw [if_neg (by omega)]
theorem each_400 {sz n : Int} (hn : 3 ≤ n ∧ n ≤ 16) (hz : sz ≤ 400 * (n - 1)) : eachS sz n ≤ 400 := by
  unfold eachS
  by_cases h : 0 < sz
  · rw [if_pos ⟨hn, h⟩]
    have h1 : (sz - 1) / (n - 1) < 400 := Int.ediv_lt_of_lt_mul (by omega) (by omega)
    omega
  · rw [if_neg (fun h' => h h'.2)]; decide

theorem Items.put {G : Im} {vs : List Value} {rs : List (List UInt8)} (h : Items G vs rs) {k : Nat} {u : Value} {b : List UInt8} (hu : SV G [] u b.length (b.map B8)) : Items G (vs.set k u) (rs.set k b) := by
  refine ⟨by simp [h.1], fun j v r hv hr => ?_⟩
  by_cases e : j = k
  · subst e
    have hjl := (List.getElem?_eq_some_iff.1 hv).1
    have hjr := (List.getElem?_eq_some_iff.1 hr).1
    rw [List.getElem?_set_self (by simpa using hjl)] at hv
    rw [List.getElem?_set_self (by simpa using hjr)] at hr
    cases hv; cases hr
    exact hu
  · rw [List.getElem?_set_ne (fun h => e h.symm)] at hv hr
    exact h.2 j v r hv hr
theorem frag_ne {h : Hd} {r : List UInt8} : headB h ++ r ≠ [] := fun e => by
  have := congrArg List.length e
  rw [List.length_append, headB_len] at this
  simp at this
attribute [local irreducible] Code.wp wpList stepK Holds Val wpR Eff Eff0 Code.wpIn wpListIn stepI Exit.then Exit.inBlock bodyPost bodyPostM

theorem back_c (m : Int) (vd : Value) (xs : List UInt8) (a b : UInt8) (w0 w : World) (G : Im) (F : Hp) (hv : SV G [] vd xs.length (xs.map B8)) (hs : Sat w0 w G F) :
    Calls Try.prog 10 #[I64 m, vd, .agg #[B8 a, B8 b]] w fun e w' => ∃ G', e = .returned (.bool true) ∧ Im.le G G' ∧ Sat w0 w' G' F := by
  obtain ⟨ad, cp, rfl⟩ := hv.form
  refine f_enter (vs := [_, _, _]) Try.func10 rfl Try.ntmps10 (by simp) hs ?_
  refine ww ?_
  refine c_cons (s_boxA [B8 a, B8 b] rfl rfl rfl fun b1 => ?_)
  refine c_freeze .head fun G1 hG1 k1 => ?_
  refine ww ?_
  refine c_cons (s_call (xs := []) rfl rfl rfl rfl rfl rfl (by kernel_rfl) (fun w hs => awake_c _ w _ _ hs) ?_)
  rintro e w' ⟨G0, rfl, hG0, hs'⟩; refine a_ret ?_ hs'; clear hs'
  replace k1 := hG0 _ _ k1
  refine ww ?_
  refine c_cond_f rfl ?_
  refine ww ?_
  refine c_cons (s_call (xs := [_]) rfl rfl rfl rfl rfl rfl (by kernel_rfl) (fun w hs => servers_c m _ w _ _ hs) ?_)
  rintro e w' ⟨rfl, hs'⟩; refine a_ret ?_ hs'; clear hs'
  have hn := srvS_in m
  obtain ⟨N, hN⟩ : ∃ N : Nat, srvS m = (N : Int) := ⟨(srvS m).toNat, by omega⟩
  rw [hN] at hn ⊢
  refine ww ?_
  refine c_cons (s_call (xs := [_]) rfl rfl rfl rfl rfl rfl (by kernel_rfl) (fun w hs => stripeL_c m _ w _ _ hs) ?_)
  obtain ⟨hst, _⟩ := strS_mst m
  generalize strS m = s at hst ⊢
  rintro e w' ⟨rfl, hs'⟩; refine a_ret ?_ hs'; clear hs'
  refine c_cons (s_allocA [I64 0, I64 0, I64 0] (by kernel_rfl) rfl rfl fun b2 => ?_)
  refine c_cons (s_storeA (vs := [I64 s.c, I64 s.l, I64 s.n]) rfl rfl rfl .head (by kernel_rfl) (by simp [Value.oneCell']) rfl ?_)
  refine c_freeze .head fun G2 hG2 k2 => ?_
  replace k1 := hG2 _ _ k1
  have hG := hG1.trans (hG0.trans hG2)
  replace hv := hv.mono (H' := []) hG (fun p hp => hp)
  refine ww ?_
  refine c_cons (s_val (v_mul rfl rfl (by omega)) rfl rfl rfl ?_)
  refine ww ?_
  refine c_part_d 38 _ rfl (fun c2 => ?_) (fun c2 => ?_)
  · -- t38 = True
    refine ww ?_
    refine c_cond_t rfl ?_
    refine ww ?_
    exact f_ret1 rfl rfl (fun w hs => ⟨G2, rfl, hG, hs⟩)
  refine ww ?_
  refine c_cond_d rfl (fun c3 => ?_) (fun c3 => ?_)
  · -- then
    refine ww ?_
    exact f_ret1 rfl rfl (fun w hs => ⟨G2, rfl, hG, hs⟩)
  have hz : (xs.length : Int) ≤ 400 * ((N : Int) - 1) := by omega
  refine ww ?_
  refine c_cons (s_val (v_loadAgg (vs := [I64 s.c, I64 s.l, I64 s.n]) rfl (by kernel_rfl) (by kernel_rfl) rfl (fun j u hj => (Cel.allI k2 hj))) rfl rfl rfl ?_)
  refine ww ?_
  refine c_cons (s_call (xs := [_, _, _]) rfl rfl rfl rfl rfl rfl (by kernel_rfl) (fun w hs => cut_c s.c s.l s.n N _ xs (by omega) _ w _ _ hv hs) ?_)
  rw [cutS_ok hn hst hz]
  rintro e w' ⟨G3, u3, B3, rfl, hG3, hu3, hs'⟩; refine a_ret ?_ hs'; clear hs'
  dsimp only at hu3 ⊢
  refine hu3.freeze Chunk.head fun G4 hG4 hr4 => ?_
  replace hv := hv.mono (H' := []) (hG3.trans hG4) (fun p hp => hp)
  replace k1 := hG4 _ _ (hG3 _ _ k1)
  replace k2 := hG4 _ _ (hG3 _ _ k2)
  have hGa := hG.trans (hG3.trans hG4)
  have hrl : (rowsL xs N).length = N := by rw [rowsL_length xs N hn]; omega
  have hmx := rowsL_max xs N
  have h400 := each_400 hn hz
  have hgone : ∀ frs, frs.length = (rowsL xs N).length → (∀ (i : Nat) r, (rowsL xs N)[i]? = some r → frs[i]? = some [] ∨ frs[i]? = some (headB ⟨s.c, s.l, s.n, i, N, xs.length⟩ ++ r)) → Gone s.c s.l s.n N xs.length (rowsL xs N) frs := fun frs h1 h2 => gone_all hn hst hz frs h1 h2
  have hlen : ∀ (i : Nat) r, (rowsL xs N)[i]? = some r → r.length ≤ 400 := fun i r hr => by
    have h1 := rowsL_long xs N hn i r hr
    have h2 := (long_in (i := i) hn (show 0 ≤ (xs.length : Int) by omega)).2
    omega
  have hfa : ∀ (i : Nat) r, (rowsL xs N)[i]? = some r → (fragsL s.c s.l s.n N xs.length (rowsL xs N))[i]? = some (headB ⟨s.c, s.l, s.n, i, N, xs.length⟩ ++ r) := fun i r h => frag_at h
  have hfm := frags_max s.c s.l s.n N xs.length (rowsL xs N) xs.length hmx
  have hfl : (fragsL s.c s.l s.n N xs.length (rowsL xs N)).length = N := by rw [fragsL_len]; exact hrl
  obtain ⟨fr, hfr⟩ : ∃ fr, fr = fragsL s.c s.l s.n N xs.length (rowsL xs N) := ⟨_, rfl⟩
  rw [← hfr] at hr4 hfa hfm hfl
  obtain ⟨ad4, cp4, rfl⟩ := hr4.len
  -- with some missing
  have hset : ∀ i : Nat, i < N → ∀ (j : Nat) r, (rowsL xs N)[j]? = some r → (fr.set i [])[j]? = some [] ∨ (fr.set i [])[j]? = some (headB ⟨s.c, s.l, s.n, j, N, xs.length⟩ ++ r) := fun i hi j r hr => by
    by_cases e : i = j
    · subst e; exact .inl (List.getElem?_set_self (by omega))
    · right; rw [List.getElem?_set_ne e]; exact hfa j r hr
  have hset1 : ∀ i j : Nat, j < N → (fr.set i []).getD j [] = [] → j = i := fun i j hj h => by
    by_cases e : i = j
    · exact e.symm
    · obtain ⟨r, hr⟩ : ∃ r, (rowsL xs N)[j]? = some r := ⟨_, List.getElem?_eq_getElem (by omega)⟩
      rw [List.getD, List.getElem?_set_ne e, hfa j r hr, Option.getD_some] at h
      exact absurd h frag_ne
  have hsetl : ∀ i, (fr.set i []).length = N := fun i => by rw [List.length_set]; exact hfl
  have hjoin1 : ∀ i : Nat, i < N → joinS s.c s.l s.n (fr.set i []) N = (xs, 0) := fun i hi => by
    refine (hgone (fr.set i []) (by rw [hsetl, hrl]) (hset i hi)).join ?_
    have : ∀ k, k ≤ N → lost (-1) (fr.set i []) k ≤ 1 := fun k hk => by
      have key : ∀ k, k ≤ N → lost (-1) (fr.set i []) k ≤ if i < k then 1 else 0 := by
        intro k
        induction k with
        | zero => intro _; simp [lost]
        | succ k ih =>
          intro hk
          have ih := ih (by omega)
          rw [lost_succ]
          by_cases hc : ¬ (k : Int) = -1 ∧ (fr.set i []).getD k [] = []
          · have := hset1 i k (by omega) hc.2
            subst this
            rw [if_neg (by omega)] at ih
            rw [if_pos hc, if_pos (by omega)]; omega
          · rw [if_neg hc]
            by_cases hk : i < k
            · rw [if_pos hk] at ih; rw [if_pos (by omega)]; exact ih
            · rw [if_neg hk] at ih; omega
      have := key k hk
      split at this <;> omega
    exact this _ (by rw [hsetl]; exact Nat.le_refl _)
  have hmend1 : ∀ i : Nat, i < N → ∀ f, fr[i]? = some f → mendS s.c s.l s.n (fr.set i []) i N = (f, 0) := fun i hi f hf => by
    obtain ⟨r, hr⟩ : ∃ r, (rowsL xs N)[i]? = some r := ⟨_, List.getElem?_eq_getElem (by omega)⟩
    have h1 := hfa i r hr
    rw [h1] at hf
    cases hf
    refine gone_mend (hgone (fr.set i []) (by rw [hsetl, hrl]) (hset i hi)) i (by omega) r hr ?_
    have key : ∀ k, k ≤ N → lost (i : Int) (fr.set i []) k = 0 := by
      intro k
      induction k with
      | zero => intro _; simp [lost]
      | succ k ih =>
        intro hk
        rw [lost_succ, ih (by omega), if_neg]
        rintro ⟨h1, h2⟩
        exact h1 (by rw [hset1 i k (by omega) h2])
    exact key _ (by rw [hsetl]; exact Nat.le_refl _)
  have hset2 : ∀ p q : Nat, p < N → q < N → ∀ (j : Nat) r, (rowsL xs N)[j]? = some r → ((fr.set p []).set q [])[j]? = some [] ∨ ((fr.set p []).set q [])[j]? = some (headB ⟨s.c, s.l, s.n, j, N, xs.length⟩ ++ r) := fun p q hp hq j r hr => by
    by_cases e : q = j
    · subst e; exact .inl (List.getElem?_set_self (by rw [hsetl]; exact hq))
    · rw [List.getElem?_set_ne e]; exact hset p hp j r hr
  have hl2 : ∀ p q : Nat, ((fr.set p []).set q []).length = N := fun p q => by rw [List.length_set]; exact hsetl p
  have hgq : ∀ p q : Nat, q < N → ((fr.set p []).set q []).getD q [] = [] := fun p q hq => by rw [List.getD, List.getElem?_set_self (by rw [hsetl]; exact hq)]; rfl
  have hgp : ∀ p q : Nat, p < N → q < N → ((fr.set p []).set q []).getD p [] = [] := fun p q hp hq => by
    by_cases e : q = p
    · subst e; exact hgq q q hq
    · rw [List.getD, List.getElem?_set_ne e, List.getElem?_set_self (by omega)]; rfl
  have hjoin2 : ∀ p q : Nat, p < N → q < N → p ≠ q → joinS s.c s.l s.n ((fr.set p []).set q []) N = ([], 15) := fun p q hp hq hne => by
    refine (hgone _ (by rw [hl2, hrl]) (hset2 p q hp hq)).lost ?_
    rw [hl2]
    by_cases h : p < q
    · exact lost_ge2 h (by omega) (hgp p q hp hq) (by omega) (hgq p q hq) N hq
    · exact lost_ge2 (show q < p by omega) (by omega) (hgq p q hq) (by omega) (hgp p q hp hq) N hp
  have hmend2 : ∀ p q : Nat, p < N → q < N → p ≠ q → mendS s.c s.l s.n ((fr.set p []).set q []) p N = ([], 15) := fun p q hp hq hne => by
    refine gone_mendLost (hgone _ (by rw [hl2, hrl]) (hset2 p q hp hq)) p (by omega) ?_
    have h := lost_ge (nt := (p : Int)) (i := q) (by omega) (hgq p q hq) ((fr.set p []).set q []).length (by rw [hl2]; exact hq)
    omega
  clear hset hset1 hset2 hgp hgq hgone hmx
  obtain ⟨vs, hsv, hit⟩ := id hr4
  have hvl : vs.length = fr.length := hit.1
  rw [hvl] at hsv
  have hvo : ∀ u ∈ vs, u.oneCell' = true := fun u hu => by
    obtain ⟨j, hj⟩ := List.mem_iff_getElem?.1 hu
    have hjl := (List.getElem?_eq_some_iff.1 hj).1
    obtain ⟨r, hr⟩ : ∃ r, fr[j]? = some r := ⟨_, List.getElem?_eq_getElem (by omega)⟩
    exact (hit.2 j u r hj hr).one
  have hvn : vs.length = N := by omega
  have hml1 : ∀ i, ∀ b, b ∈ fr.set i [] → b.length ≤ 100000 := fun i b hb => by
    rcases List.mem_or_eq_of_mem_set hb with h | h
    · have := hfm b h; omega
    · rw [h]; simp
  have hml2 : ∀ i j, ∀ b, b ∈ (fr.set i []).set j [] → b.length ≤ 100000 := fun i j b hb => by
    rcases List.mem_or_eq_of_mem_set hb with h | h
    · exact hml1 i b h
    · rw [h]; simp
  obtain ⟨fc, hfc⟩ : ∃ fc : Nat, s.c = (fc : Int) := ⟨s.c.toNat, by unfold mst at hst; omega⟩
  obtain ⟨fn, hfn⟩ : ∃ fn : Nat, s.n = (fn : Int) := ⟨s.n.toNat, by unfold mst at hst; omega⟩
  refine ww ?_
  refine c_kf 52 rfl (by omega) ?_
  refine ww ?_
  refine c_cond_d rfl (fun c5 => ?_) (fun c5 => ?_)
  · exfalso; omega
  rw [hfl]
  refine ww ?_
  refine c_cons (s_make 4 (.bool false) 1 1 N rfl rfl rfl rfl (by kernel_rfl) (by omega) (by omega) fun b3 => ?_)
  rw [show (madeCells (Value.bool false).cells (N * 1)).toList = (seenL (fn + fc) N 0).map Value.bool from by rw [Nat.mul_one, seen_zero]; exact (toList_madeCells_one _ _).trans (by simp)]
  change Holds _ _ _ _ _ (SeO b3 (seenL (fn + fc) N 0) :: F) _
  refine ww ?_
  refine c_loop (α := Nat × Im) (fun x => [(1, .slice ad xs.length cp), (5, Pt b1 0), (7, I64 N), (8, Pt b2 0), (9, .slice ad4 N cp4), (11, Sl b3 0 N N), (12, I64 x.1)]) (fun x => x.2) (fun x => SeO b3 (seenL (fn + fc) N x.1) :: F) (fun x => x.1 ≤ N ∧ Im.le G4 x.2) (fun x => N - x.1) (0, G4) ⟨Nat.zero_le _, Im.le_refl _⟩ ?_ ?_
  · exact n_at ⟨rfl, rfl, rfl, rfl, rfl, rfl, rfl, trivial⟩ sbx
  rintro ⟨i, Gi⟩ ⟨hi, hGi⟩
  dsimp only at hi hGi ⊢
  replace k2 := hGi _ _ k2
  refine ww ?_
  refine c_cond_d rfl (fun c6 => ?_) (fun c6 => ?_)
  · -- then
    have hiN : i < N := by omega
    have hpl : placeS s.c s.n i N = (((fn + fc + i) % N : Nat) : Int) := by rw [hfc, hfn]; exact place_nat fc fn i N (by omega)
    have hpm := Nat.mod_lt (fn + fc + i) (show 0 < N by omega)
    have hsg := seen_get (fn + fc) N i hiN
    have hss := seen_set (fn + fc) N i hiN
    have hsl := seenL_len (fn + fc) N i
    obtain ⟨p, hp⟩ : ∃ p, p = (fn + fc + i) % N := ⟨_, rfl⟩
    rw [← hp] at hpl hpm hsg hss
    obtain ⟨f, hf⟩ : ∃ f, fr[i]? = some f := ⟨_, List.getElem?_eq_getElem (by omega)⟩
    have hfL : f.length ≤ 412 := by
      obtain ⟨r, hr⟩ : ∃ r, (rowsL xs N)[i]? = some r := ⟨_, List.getElem?_eq_getElem (by omega)⟩
      have h1 := hfa i r hr
      rw [hf] at h1
      cases h1
      have := hlen i r hr
      rw [List.length_append, headB_len]; omega
    obtain ⟨bf, of', cf, ub, e1, hcel, hub⟩ := hr4.row hf
    rw [hfl] at e1
    cases e1
    have hceli := fun H => hcel Gi H hGi
    obtain ⟨adu, cpu, rfl⟩ := hub.form
    have hcelS : ∀ H, Cel Gi (SeO b3 (seenL (fn + fc) N i) :: H) b3 (0 + (p : Int).toNat) (.bool false) := fun H => Cel.head (by rw [Nat.zero_add, Int.toNat_natCast, List.getElem?_map, hsg]; rfl)
    refine ww ?_
    refine c_cons (s_val (v_loadAgg (vs := [I64 s.c, I64 s.l, I64 s.n]) rfl (by kernel_rfl) (by kernel_rfl) rfl (fun j u hj => (Cel.allI k2 hj))) rfl rfl rfl ?_)
    refine ww ?_
    refine c_cons (s_call (xs := [_, _, _]) rfl rfl rfl rfl rfl rfl (by kernel_rfl) (fun w hs => lplace_c s.c s.l s.n i N _ w _ _ hs) ?_)
    rw [hpl]
    rintro e w' ⟨rfl, hs'⟩; refine a_ret ?_ hs'; clear hs'
    refine ww ?_
    refine c_kf 71 rfl (by omega) ?_
    refine ww ?_
    refine c_kf 76 rfl (by omega) ?_
    refine ww ?_
    refine c_cons (s_val (v_index1 rfl rfl (by kernel_rfl) (by omega)) rfl rfl rfl ?_)
    refine c_cons (s_val (v_load rfl (hcelS _) (by kernel_rfl)) rfl rfl rfl ?_)
    refine ww ?_
    refine c_cons (s_val (v_index1 rfl rfl (by kernel_rfl) (by omega)) rfl rfl rfl ?_)
    refine c_cons (s_val (v_load rfl (hceli _) (by kernel_rfl)) rfl rfl rfl ?_)
    refine ww ?_
    refine c_cond_d rfl (fun c10 => ?_) (fun c10 => ?_)
    · exfalso; omega
    refine ww ?_
    refine c_cons (s_val (v_index1 rfl rfl (by kernel_rfl) (by omega)) rfl rfl rfl ?_)
    refine c_cons (s_store1 rfl rfl rfl .head (by kernel_rfl) rfl (by rw [Nat.zero_add, Int.toNat_natCast, List.length_map, hsl]; exact hpm) ?_)
    rw [Nat.zero_add, Int.toNat_natCast, ← List.map_set, hss]
    change Holds _ _ _ _ _ (SeO b3 (seenL (fn + fc) N (i + 1)) :: F) _
    refine ww ?_
    refine c_cons (s_lit (z := .slice none 0 0) (bs := 24) (e := 22) [] (by kernel_rfl) rfl rfl rfl rfl (by simp [Value.oneCell']) rfl (by decide) fun b4 => ?_)
    refine ww ?_
    rw [hfl] at hsv
    refine c_cons (s_append (e := 22) (z := .slice none 0 0) (sz := 1) (bs := 24) (by kernel_rfl) rfl rfl rfl rfl (Own.full (by simp) (by decide)) Chunk.one (hsv.mono hGi (by simp)) rfl (by decide) (by omega) hvo (by simp; omega) (by simp; omega) fun u5 B5 hown5 => ?_)
    simp only [List.length_nil, List.nil_append, Nat.zero_add] at hown5
    obtain ⟨hl5, hown5⟩ := hown5
    rcases hown5 with ⟨ad7, rfl, h0, rfl⟩ | ⟨bx, cx, sl, rfl, hb1, hb2, hb3, rfl⟩
    · omega
    change Holds _ _ _ _ _ ((bx, Cs (vs ++ sl) 22) :: (SeO b3 (seenL (fn + fc) N (i + 1)) :: F)) _
    refine ww ?_
    refine c_cons (s_val (v_index1 rfl rfl (by kernel_rfl) (by omega)) rfl rfl rfl ?_)
    refine c_cons (s_store1 rfl rfl rfl .head (by kernel_rfl) rfl (by rw [Nat.zero_add, Int.toNat_natCast, List.length_append]; omega) ?_)
    rw [Nat.zero_add, Int.toNat_natCast, List.set_append_left _ _ (by omega)]
    refine c_freeze .head fun G5 hG5 k5 => ?_
    replace k2 := hG5 _ _ k2
    have hrx : RowsV G5 (Sl bx 0 (vs.set i (.slice none 0 0)).length cx) (fr.set i []) := RwS.sv k5 ⟨by rw [List.length_set]; omega, hb1⟩ ((hit.mono (hGi.trans hG5)).put (SV.nil _ _))
    rw [List.length_set, hvn] at hrx
    refine ww ?_
    refine c_cons (s_val (v_loadAgg (vs := [I64 s.c, I64 s.l, I64 s.n]) rfl (by kernel_rfl) (by kernel_rfl) rfl (fun j u hj => (Cel.allI k2 hj))) rfl rfl rfl ?_)
    refine ww ?_
    refine c_cons (s_call (xs := [_, _, _]) rfl rfl rfl rfl rfl rfl (by kernel_rfl) (fun w hs => join_c s.c s.l s.n N _ _ (hml1 i) _ w _ _ hrx hs) ?_)
    rw [hjoin1 i hiN]
    rintro e w' ⟨G6, u6, rfl, hG6, hu6, hs'⟩; refine a_ret ?_ hs'; clear hs'
    dsimp only at hu6 ⊢
    replace k2 := hG6 _ _ k2
    replace hrx := hrx.mono hG6
    refine ww ?_
    refine c_cons (s_val (v_loadAgg (vs := [I64 s.c, I64 s.l, I64 s.n]) rfl (by kernel_rfl) (by kernel_rfl) rfl (fun j u hj => (Cel.allI k2 hj))) rfl rfl rfl ?_)
    refine ww ?_
    refine c_cons (s_call (xs := [_, _, _, _]) rfl rfl rfl rfl rfl rfl (by kernel_rfl) (fun w hs => mend_c s.c s.l s.n i N _ _ (hml1 i) _ w _ _ hrx hs) ?_)
    rw [hmend1 i hiN f hf]
    rintro e w' ⟨G7, u7, rfl, hG7, hu7, hs'⟩; refine a_ret ?_ hs'; clear hs'
    dsimp only at hu7 ⊢
    have hGi7 := hG5.trans (hG6.trans hG7)
    replace hu6 := hu6.mono (H' := []) hG7 (fun p hp => hp)
    have hcel7 := fun H => hcel G7 H (hGi.trans hGi7)
    refine ww ?_
    refine c_kf 116 rfl (by decide) ?_
    refine ww ?_
    refine c_kf 120 rfl (by decide) ?_
    refine ww ?_
    refine c_cons (s_call (xs := [_, _]) rfl rfl rfl rfl rfl rfl (by kernel_rfl) (fun w hs => same_c _ _ xs xs _ w _ _ (hu6.mono (Im.le_refl _) (by simp)) (hv.mono (hGi.trans hGi7) (by simp)) hs) ?_)
    rw [decide_eq_true rfl]
    rintro e w' ⟨rfl, hs'⟩; refine a_ret ?_ hs'; clear hs'
    refine ww ?_
    refine c_cons (s_val (v_index1 rfl rfl (by kernel_rfl) (by omega)) rfl rfl rfl ?_)
    refine c_cons (s_val (v_load rfl (hcel7 _) (by kernel_rfl)) rfl rfl rfl ?_)
    refine c_cons (s_call (xs := [_, _]) rfl rfl rfl rfl rfl rfl (by kernel_rfl) (fun w hs => same_c _ _ f f _ w _ _ (hu7.mono (Im.le_refl _) (by simp)) (hub.mono (hGi.trans hGi7) (by simp)) hs) ?_)
    rw [decide_eq_true rfl]
    rintro e w' ⟨rfl, hs'⟩; refine a_ret ?_ hs'; clear hs'
    refine ww ?_
    refine c_cond_f rfl ?_
    refine ww ?_
    exact n_next (x := (i, Gi)) (i + 1, G7) ⟨by dsimp only; omega, hGi.trans hGi7⟩ (by dsimp only; omega) ⟨rfl, rfl, rfl, rfl, rfl, rfl, rfl, trivial⟩ rfl sbx
  replace k1 := hGi _ _ k1
  have hNn : ¬ N = 0 := by omega
  refine ww ?_
  refine r_start [] (by kernel_rfl) ?_ -- D1
  refine r_tk 0 rfl rfl (v_indexA 2 1 rfl rfl (by kernel_rfl) (by omega)) (fun _ h => h) ?_
  refine r_tk 1 rfl rfl (v_load rfl (Cel.imm k1 rfl) (by kernel_rfl)) (fun _ h => h) ?_
  refine r_tk 2 rfl rfl (v_u8int rfl (by kernel_rfl) (by kernel_rfl)) (fun _ h => h) ?_
  refine r_tk 3 rfl rfl (v_move rfl) (fun _ h => h) ?_
  refine r_tk 4 rfl rfl (v_rem rfl rfl (by omega) (by omega)) (fun _ h => h) ?_
  refine r_tk 5 rfl rfl (v_indexA 2 1 rfl rfl (by kernel_rfl) (by omega)) (fun _ h => h) ?_
  refine r_tk 6 rfl rfl (v_load rfl (Cel.imm k1 rfl) (by kernel_rfl)) (fun _ h => h) ?_
  refine r_tk 7 rfl rfl (v_u8int rfl (by kernel_rfl) (by kernel_rfl)) (fun _ h => h) ?_
  refine r_tk 8 rfl rfl (v_move rfl) (fun _ h => h) ?_
  refine r_tk 9 rfl rfl (v_rem rfl rfl (by omega) (by omega)) (fun _ h => h) ?_
  refine r_tk 10 rfl rfl (v_assign rfl) (fun _ h => h) ?_
  refine r_tk 11 rfl rfl (v_assign rfl) (fun _ h => h) ?_
  refine r_done (by kernel_rfl) ?_
  have hp1 := Nat.mod_lt a.toNat (show 0 < N by omega)
  have hq1 := Nat.mod_lt b.toNat (show 0 < N by omega)
  rw [← Int.natCast_emod, ← Int.natCast_emod]
  generalize a.toNat % N = p at hp1 ⊢
  generalize b.toNat % N = q at hq1 ⊢
  refine ww ?_
  refine c_cond_d rfl (fun c15 => ?_) (fun c15 => ?_)
  · -- then
    refine ww ?_
    exact f_ret1 rfl rfl (fun w hs => ⟨Gi, rfl, hGa.trans hGi, hs.tl⟩)
  have hpq : p ≠ q := fun h => c15 (by rw [h])
  refine ww ?_
  refine c_cons (s_lit (z := .slice none 0 0) (bs := 24) (e := 22) [] (by kernel_rfl) rfl rfl rfl rfl (by simp [Value.oneCell']) rfl (by decide) fun b6 => ?_)
  refine ww ?_
  rw [hfl] at hsv
  refine c_cons (s_append (e := 22) (z := .slice none 0 0) (sz := 1) (bs := 24) (by kernel_rfl) rfl rfl rfl rfl (Own.full (by simp) (by decide)) Chunk.one (hsv.mono hGi (by simp)) rfl (by decide) (by omega) hvo (by simp; omega) (by simp; omega) fun u7 B7 hown7 => ?_)
  simp only [List.length_nil, List.nil_append, Nat.zero_add] at hown7
  obtain ⟨hl7, hown7⟩ := hown7
  rcases hown7 with ⟨ad7, rfl, h0, rfl⟩ | ⟨bx, cx, sl, rfl, hb1, hb2, hb3, rfl⟩
  · omega
  refine c_sub ((bx, Cs (vs ++ sl) 22) :: F) sbx ?_
  refine ww ?_
  refine c_cons (s_val (v_index1 rfl rfl (by kernel_rfl) (by omega)) rfl rfl rfl ?_)
  refine c_cons (s_store1 rfl rfl rfl .head (by kernel_rfl) rfl (by rw [Nat.zero_add, Int.toNat_natCast, List.length_append]; omega) ?_)
  rw [Nat.zero_add, Int.toNat_natCast, List.set_append_left _ _ (by omega)]
  refine c_cons (s_val (v_index1 rfl rfl (by kernel_rfl) (by omega)) rfl rfl rfl ?_)
  refine c_cons (s_store1 rfl rfl rfl .head (by kernel_rfl) rfl (by rw [Nat.zero_add, Int.toNat_natCast, List.length_append, List.length_set]; omega) ?_)
  rw [Nat.zero_add, Int.toNat_natCast, List.set_append_left _ _ (by rw [List.length_set]; omega)]
  refine c_freeze .head fun G5 hG5 k5 => ?_
  replace k2 := hG5 _ _ k2
  have hrx : RowsV G5 (Sl bx 0 ((vs.set p (.slice none 0 0)).set q (.slice none 0 0)).length cx) ((fr.set p []).set q []) := RwS.sv k5 ⟨by rw [List.length_set, List.length_set]; omega, hb1⟩ (((hit.mono (hGi.trans hG5)).put (SV.nil _ _)).put (SV.nil _ _))
  rw [List.length_set, List.length_set, hvn] at hrx
  refine ww ?_
  refine c_cons (s_val (v_loadAgg (vs := [I64 s.c, I64 s.l, I64 s.n]) rfl (by kernel_rfl) (by kernel_rfl) rfl (fun j u hj => (Cel.allI k2 hj))) rfl rfl rfl ?_)
  refine ww ?_
  refine c_cons (s_call (xs := [_, _, _]) rfl rfl rfl rfl rfl rfl (by kernel_rfl) (fun w hs => join_c s.c s.l s.n N _ _ (hml2 p q) _ w _ _ hrx hs) ?_)
  rw [hjoin2 p q hp1 hq1 hpq]
  rintro e w' ⟨G6, u6, rfl, hG6, hu6, hs'⟩; refine a_ret ?_ hs'; clear hs'
  dsimp only at hu6 ⊢
  replace k2 := hG6 _ _ k2
  replace hrx := hrx.mono hG6
  refine ww ?_
  refine c_cons (s_val (v_loadAgg (vs := [I64 s.c, I64 s.l, I64 s.n]) rfl (by kernel_rfl) (by kernel_rfl) rfl (fun j u hj => (Cel.allI k2 hj))) rfl rfl rfl ?_)
  refine ww ?_
  refine c_cons (s_call (xs := [_, _, _, _]) rfl rfl rfl rfl rfl rfl (by kernel_rfl) (fun w hs => mend_c s.c s.l s.n p N _ _ (hml2 p q) _ w _ _ hrx hs) ?_)
  rw [hmend2 p q hp1 hq1 hpq]
  rintro e w' ⟨G7, u7, rfl, hG7, hu7, hs'⟩; refine a_ret ?_ hs'; clear hs'
  dsimp only at hu7 ⊢
  refine ww ?_
  refine c_kt 174 rfl rfl ?_
  refine ww ?_
  exact f_ret1 rfl rfl (fun w hs => ⟨G7, rfl, hGa.trans (hGi.trans (hG5.trans (hG6.trans hG7))), hs⟩)
end Go.Proofs.Ytldkldmjcacopaa
