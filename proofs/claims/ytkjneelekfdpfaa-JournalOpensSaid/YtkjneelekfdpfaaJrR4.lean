/- The reference's journal: half, padded, noughts, heads. The reference's journal: put, Append, Reset, Room, FormatJournal. The reference's journal: Append, Reset, Room, FormatJournal. The reference's journal: OpenJournal. -/
import Derived.Test.YtkjneelekfdpfaaJrL0
import Derived.Test.YtkjneelekfdpfaaDskRj
import Derived.Test.YtkjneelekfdpfaaBlkR5
import Derived.Test.YtkjneelekfdpfaaRefE
import Derived.Test.YtkjneelekfdpfaaJrW7
namespace Go.Proofs.Ytkjneelekfdpfaa
section
open Go
set_option linter.unusedVariables false
set_option linter.unusedSimpArgs false
set_option maxHeartbeats 3200000
def padsL (xs : List UInt8) : List (List UInt8) := (List.range ((xs.length + 63) / 64)).map fun i => pad64 ((xs.drop (i * 64)).take 64)
theorem padsL_len (xs : List UInt8) : (padsL xs).length = (xs.length + 63) / 64 := by simp [padsL]
theorem padsL_rec (b : List UInt8) : padsL (recB b) = secsL b := by
  have hl : (recB b).length = b.length + 3 := by simp [recB, be_len]; omega
  unfold padsL secsL jk
  rw [hl, show b.length + 3 + 63 = b.length + 66 by omega]
  rfl
theorem pad64_take (l : List UInt8) : pad64 (l.take 64) = pad64 l := by
  unfold pad64
  rw [List.take_take, Nat.min_self, List.length_take]
  congr 2; omega
theorem padsL_at {xs : List UInt8} {i : Nat} (hi : i < (xs.length + 63) / 64) : (padsL xs)[i]? = some (pad64 (xs.drop (i * 64))) := by
  unfold padsL
  rw [List.getElem?_map, List.getElem?_range hi, ← pad64_take (xs.drop (i * 64))]
  rfl
theorem padsL_short {xs : List UInt8} (h : 0 < xs.length ∧ xs.length ≤ 64) : (padsL xs)[0]? = some (pad64 xs) := by
  have := padsL_at (xs := xs) (i := 0) (by omega)
  simpa using this
attribute [local irreducible] Code.wp wpList stepK Holds Val wpR Eff Eff0 Code.wpIn wpListIn stepI Exit.then Exit.inBlock bodyPost bodyPostM

theorem rhalf_c (mp : Nat) (B : Hp) (M : Dk) (w0 w : World) (G : Im) (F : Hp) (hr : MH G mp M B) (hs : Sat w0 w G (B ++ F)) :
    Calls Try.prog 54 #[Pt mp 0] w fun e w' => e = .returned (I64 (jz M.now.length)) ∧ Sat w0 w' G (B ++ F) := by
  obtain ⟨vN, vL, vA, vW, BN, BL, BA, BW, rfl, hr⟩ := hr
  have hk2 := hr.wf.k2
  have hkM := hr.wf.kM
  obtain ⟨bn, cn, Ln, rfl, hcn, hcM, _, _, _⟩ := hr.n.put (by omega)
  refine f_enter (vs := [_]) Try.func54 rfl Try.ntmps54 (by simp) hs ?_
  change Holds _ _ _ _ _ (MO mp (Sl bn 0 M.now.length cn) vL vA vW M.ops M.fuse M.dead :: (BN ++ (BL ++ (BA ++ BW)) ++ F)) _
  refine ww ?_
  refine c_cons (s_val (v_field 0 rfl (by kernel_rfl)) rfl rfl rfl ?_)
  refine c_cons (s_val (v_load rfl (Cel.head rfl) (by kernel_rfl)) rfl rfl rfl ?_)
  refine ww ?_
  refine c_cons (s_val (v_quo rfl rfl (by omega) (by omega)) rfl rfl rfl ?_)
  rw [show ((M.now.length : Int) - 2) / 2 = ((jz M.now.length : Nat) : Int) by unfold jz; omega]
  refine ww ?_
  exact f_ret1 rfl rfl (fun w hs => ⟨rfl, hs⟩)

theorem rpad_c (vb : Value) (xs : List UInt8) (hx : xs.length ≤ 100000) (w0 w : World) (G : Im) (F : Hp) (hv : SV G [] vb xs.length (xs.map B8)) (hs : Sat w0 w G F) :
    Calls Try.prog 71 #[vb] w fun e w' => ∃ G' u, e = .returned u ∧ Im.le G G' ∧ RowsV G' u (padsL xs) ∧ Sat w0 w' G' F := by
  obtain ⟨ad, cp, rfl⟩ := hv.form
  refine f_enter (vs := [_]) Try.func71 rfl Try.ntmps71 (by simp) hs ?_
  obtain ⟨K, hK⟩ : ∃ K, K = (xs.length + 63) / 64 := ⟨_, rfl⟩
  have hKl : (padsL xs).length = K := by rw [padsL_len, hK]
  refine ww ?_
  refine c_loop (α := Nat × Im × Value × Hp) (fun x => [(0, .slice ad xs.length cp), (3, x.2.2.1), (4, I64 ((x.1 * 64 : Nat) : Int))]) (fun x => x.2.1) (fun x => x.2.2.2 ++ F) (fun x => x.1 ≤ K ∧ Im.le G x.2.1 ∧ RO x.2.1 x.2.2.1 ((padsL xs).take x.1) x.2.2.2) (fun x => K - x.1) (0, G, .slice none 0 0, []) ⟨Nat.zero_le _, Im.le_refl _, RO.zero _ _⟩ ?_ ?_
  · exact n_at ⟨rfl, rfl, rfl, trivial⟩ sbx
  rintro ⟨i, Gi, vo, Bo⟩ ⟨hi, hGi, hoo⟩
  dsimp only at hi hGi hoo ⊢
  refine ww ?_
  refine c_cond_d rfl (fun c6 => ?_) (fun c6 => ?_)
  · -- then
    have hiK : i < K := by omega
    obtain ⟨vs, how, hit⟩ := hoo
    have hvl := hit.1
    rw [List.length_take] at hvl
    have hat := padsL_at (xs := xs) (i := i) (by omega)
    have htk : (padsL xs).take (i + 1) = (padsL xs).take i ++ [pad64 (xs.drop (i * 64))] := by rw [List.take_add_one, hat]; rfl
    have hsrc : SV Gi [] (slMid ad cp (i * 64) xs.length 1) (xs.length - i * 64) ((xs.drop (i * 64)).map B8) := by
      have h := (hv.mono (H' := []) hGi (fun p hp => hp)).lo (l := i * 64) (s := 1) (by omega) (by simp)
      simpa using h
    refine ww ?_
    refine c_cons (s_make 5 (B8 0) 1 1 64 rfl rfl rfl rfl (by kernel_rfl) (by omega) (by omega) fun b1 => ?_)
    rw [show (madeCells (B8 0).cells (64 * 1)).toList = (List.replicate 64 (0 : UInt8)).map B8 from (toList_madeCells_one _ _).trans (by rw [List.map_replicate])]
    refine ww ?_
    refine c_cons (s_val (v_slLo (i * 64) 1 rfl rfl (by kernel_rfl) (by omega)) rfl rfl rfl ?_)
    have done : ∀ Hx, Hx = (b1, Cs ((pad64 (xs.drop (i * 64))).map B8) 5) :: (Bo ++ F) → ∀ (env : Env) R, (∀ G6, Im.le Gi G6 → SV G6 [] (Sl b1 0 64 64) (pad64 (xs.drop (i * 64))).length ((pad64 (xs.drop (i * 64))).map B8) → Holds 23 [] w0 env G6 (Bo ++ F) R) → Holds 23 [] w0 env Gi Hx R := by
      rintro _ rfl env R h
      refine c_freeze .head fun G6 hG6 k6 => h G6 hG6 ?_
      rw [pad64_len]
      exact SV.block (.of_imm k6) (by unfold maxLen; omega)
    by_cases hlong : xs.length - i * 64 ≤ 64
    · refine c_cons (s_copy (e := 5) (z := B8 0) (sz := 1) (bs := 1) (by kernel_rfl) rfl rfl rfl rfl .head (hsrc.mono (Im.le_refl _) (by simp)) (by omega) (by simp) (by simp; omega) (B8_one _) ?_)
      refine done _ ?_ _ _ fun G6 hG6 hu6 => ?_
      · have e : List.take 0 ((List.replicate 64 (0 : UInt8)).map B8) ++ (xs.drop (i * 64)).map B8 ++ List.drop (0 + ((xs.drop (i * 64)).map B8).length) ((List.replicate 64 (0 : UInt8)).map B8) = (pad64 (xs.drop (i * 64))).map B8 := by
          unfold pad64
          rw [List.take_zero, List.nil_append, Nat.zero_add, List.length_map, ← List.map_drop (l := List.replicate 64 (0 : UInt8)), List.drop_replicate, List.take_of_length_le (i := 64) (by rw [List.length_drop]; omega), ← List.map_append]
        rw [e]
      refine ww ?_
      refine c_cons (s_lit (z := .slice none 0 0) (bs := 24) (e := 31) [_] (by kernel_rfl) rfl rfl rfl rfl (by simp [Value.oneCell']) rfl (by decide) fun b6 => ?_)
      refine c_sub ((b6, Cs [Sl b1 0 64 64] 31) :: (Bo ++ F)) sbx ?_
      refine c_cons (s_append (e := 31) (z := .slice none 0 0) (sz := 1) (bs := 24) (by kernel_rfl) rfl rfl rfl rfl how (Chunk.tail Chunk.head) (SV.block .head (by simp [maxLen])) rfl (by decide) rfl (by simp [Value.oneCell']) (by simp; omega) (by simp; omega) fun u7 B7 ho7 => ?_)
      refine ww ?_
      rw [show ((i * 64 : Nat) : Int) + 64 = (((i + 1) * 64 : Nat) : Int) by omega]
      refine n_next (x := (i, Gi, vo, Bo)) (i + 1, G6, u7, B7) ⟨hiK, hGi.trans hG6, ?_⟩ (by dsimp only; omega) ⟨rfl, rfl, rfl, trivial⟩ rfl sbx
      dsimp only
      rw [htk]
      exact ⟨vs ++ [Sl b1 0 64 64], by rw [List.length_append]; exact ho7, (hit.mono hG6).snoc hu6⟩
    · refine c_cons (s_copyD (e := 5) (z := B8 0) (sz := 1) (bs := 1) (by kernel_rfl) rfl rfl rfl rfl .head (hsrc.mono (Im.le_refl _) (by simp)) (by omega) (by simp) (by simp) (B8_one _) ?_)
      refine done _ ?_ _ _ fun G6 hG6 hu6 => ?_
      · have e : List.take 0 ((List.replicate 64 (0 : UInt8)).map B8) ++ ((xs.drop (i * 64)).map B8).take (64 * 1) ++ List.drop (0 + 64 * 1) ((List.replicate 64 (0 : UInt8)).map B8) = (pad64 (xs.drop (i * 64))).map B8 := by
          unfold pad64
          rw [List.take_zero, List.nil_append, Nat.zero_add, Nat.mul_one, ← List.map_drop, List.drop_replicate, Nat.sub_self, ← List.map_take, show 64 - (xs.drop (i * 64)).length = 0 by rw [List.length_drop]; omega]
          simp
        rw [e]
      refine ww ?_
      refine c_cons (s_lit (z := .slice none 0 0) (bs := 24) (e := 31) [_] (by kernel_rfl) rfl rfl rfl rfl (by simp [Value.oneCell']) rfl (by decide) fun b6 => ?_)
      refine c_sub ((b6, Cs [Sl b1 0 64 64] 31) :: (Bo ++ F)) sbx ?_
      refine c_cons (s_append (e := 31) (z := .slice none 0 0) (sz := 1) (bs := 24) (by kernel_rfl) rfl rfl rfl rfl how (Chunk.tail Chunk.head) (SV.block .head (by simp [maxLen])) rfl (by decide) rfl (by simp [Value.oneCell']) (by simp; omega) (by simp; omega) fun u7 B7 ho7 => ?_)
      refine ww ?_
      rw [show ((i * 64 : Nat) : Int) + 64 = (((i + 1) * 64 : Nat) : Int) by omega]
      refine n_next (x := (i, Gi, vo, Bo)) (i + 1, G6, u7, B7) ⟨hiK, hGi.trans hG6, ?_⟩ (by dsimp only; omega) ⟨rfl, rfl, rfl, trivial⟩ rfl sbx
      dsimp only
      rw [htk]
      exact ⟨vs ++ [Sl b1 0 64 64], by rw [List.length_append]; exact ho7, (hit.mono hG6).snoc hu6⟩
  have hie : i = K := by omega
  subst hie
  rw [List.take_of_length_le (by omega)] at hoo
  refine ww ?_
  refine hoo.freeze Chunk.head fun G7 hG7 hrv => ?_
  exact f_ret1 rfl rfl (fun w hs => ⟨G7, _, rfl, hGi.trans hG7, hrv, hs⟩)

theorem rnought_c (vb : Value) (xs : List UInt8) (hx : xs.length ≤ 1000000) (w0 w : World) (G : Im) (F : Hp) (hv : SV G [] vb xs.length (xs.map B8)) (hs : Sat w0 w G F) :
    Calls Try.prog 72 #[vb] w fun e w' => e = .returned (.bool (decide (∀ c ∈ xs, c = 0))) ∧ Sat w0 w' G F := by
  obtain ⟨ad, cp, rfl⟩ := hv.form
  refine f_enter (vs := [_]) Try.func72 rfl Try.ntmps72 (by simp) hs ?_
  refine ww ?_
  refine c_loop (α := Nat) (fun x => [(0, .slice ad xs.length cp), (3, I64 (x : Int))]) (fun _ => G) (fun x => F) (fun x => x ≤ xs.length ∧ ∀ c ∈ xs.take x, c = 0) (fun x => xs.length - x) 0 ⟨Nat.zero_le _, by simp⟩ ?_ ?_
  · exact n_at ⟨rfl, rfl, trivial⟩ sbx
  rintro i ⟨hi, hall⟩
  refine ww ?_
  refine c_cond_d rfl (fun c1 => ?_) (fun c1 => ?_)
  · -- then
    have hil : i < xs.length := by omega
    obtain ⟨b, o, c, hvv, hc⟩ := hv.bytes (by omega)
    cases hvv
    obtain ⟨y, hy⟩ : ∃ y, xs[i]? = some y := ⟨_, List.getElem?_eq_getElem hil⟩
    have hcy := hc i (B8 y) (by rw [List.getElem?_map, hy]; rfl)
    have htk : xs.take (i + 1) = xs.take i ++ [y] := by rw [List.take_add_one, hy]; rfl
    refine ww ?_
    refine c_cons (s_val (v_index1 rfl rfl (by kernel_rfl) (by omega)) rfl rfl rfl ?_)
    refine c_cons (s_val (v_load rfl (by rw [Int.toNat_natCast]; exact hcy.mono (Im.le_refl _) (by simp)) (by kernel_rfl)) rfl rfl rfl ?_)
    refine ww ?_
    refine c_cond_d rfl (fun c2 => ?_) (fun c2 => ?_)
    · -- then
      refine ww ?_
      refine f_ret1 rfl rfl (fun w hs => ⟨?_, hs⟩)
      rw [decide_eq_false (fun h => c2 (by rw [h y (List.mem_of_getElem? hy)]; rfl))]
    refine ww ?_
    refine n_next (x := i) (i + 1) ⟨hil, fun c hc => ?_⟩ (by omega) ⟨rfl, rfl, trivial⟩ rfl sbx
    rw [htk, List.mem_append] at hc
    rcases hc with hc | hc
    · exact hall c hc
    · rw [List.mem_singleton.1 hc]
      have h2 : (y.toNat : Int) = 0 := Decidable.not_not.1 c2
      exact UInt8.toNat_inj.1 (by simpa using h2)
  have e : i = xs.length := by omega
  subst e
  rw [List.take_length] at hall
  refine ww ?_
  exact f_ret1 rfl rfl (fun w hs => ⟨by rw [decide_eq_true hall], hs⟩)

theorem rheadB_c (h : Jh) (hg : gdJ h) (w0 w : World) (G : Im) (F : Hp) (hs : Sat w0 w G F) :
    Calls Try.prog 49 #[.agg #[I64 h.g, I64 h.h, I64 h.e]] w fun e w' => ∃ G' u, e = .returned u ∧ Im.le G G' ∧ SV G' [] u (pad64 (hdB h)).length ((pad64 (hdB h)).map B8) ∧ Sat w0 w' G' F := by
  obtain ⟨hg1, hg2, hg3⟩ := hg
  have hl := hdB_len h
  refine f_enter (vs := [_]) Try.func49 rfl Try.ntmps49 (by simp) hs ?_
  refine ww ?_
  refine c_cons (s_boxA [I64 h.g, I64 h.h, I64 h.e] rfl rfl rfl fun b1 => ?_)
  refine c_freeze .head fun G1 hG1 k1 => ?_
  refine ww ?_
  refine c_cons (s_val (v_build (ps := []) #[.slice none 0 0, I64 0] rfl (by kernel_rfl)) rfl rfl rfl ?_)
  refine c_cons (s_boxA [.slice none 0 0, I64 0] rfl rfl rfl fun b2 => ?_)
  change Holds _ _ _ _ _ (RP b2 (.slice none 0 0) :: ([] ++ F)) _
  refine ww ?_
  refine c_cons (s_call (xs := [_, _, _]) rfl rfl rfl rfl rfl rfl (by kernel_rfl) (fun w hs => rnum_c b2 _ [] [] 1 1 (by decide) (by decide) (by decide) _ w _ F (Own.zero none _ _) hs) ?_)
  rintro e w' ⟨v1, B1, rfl, hown1, hs'⟩; refine a_ret ?_ hs'; clear hs'
  refine ww ?_
  refine c_cons (s_val (v_field 0 rfl (by kernel_rfl)) rfl rfl rfl ?_)
  refine c_cons (s_val (v_load rfl (Cel.imm k1 rfl) (by kernel_rfl)) rfl rfl rfl ?_)
  refine c_cons (s_call (xs := [_, _, _]) rfl rfl rfl rfl rfl rfl (by kernel_rfl) (fun w hs => rnum_c b2 v1 _ B1 h.g 5 (by decide) (by omega) (by simp [be_len]) _ w _ F hown1 hs) ?_)
  rintro e w' ⟨v2, B2, rfl, hown2, hs'⟩; refine a_ret ?_ hs'; clear hs'
  refine ww ?_
  refine c_cons (s_val (v_field 1 rfl (by kernel_rfl)) rfl rfl rfl ?_)
  refine c_cons (s_val (v_load rfl (Cel.imm k1 rfl) (by kernel_rfl)) rfl rfl rfl ?_)
  refine c_cons (s_call (xs := [_, _, _]) rfl rfl rfl rfl rfl rfl (by kernel_rfl) (fun w hs => rnum_c b2 v2 _ B2 h.h 1 (by decide) (by omega) (by simp [be_len]) _ w _ F hown2 hs) ?_)
  rintro e w' ⟨v3, B3, rfl, hown3, hs'⟩; refine a_ret ?_ hs'; clear hs'
  refine ww ?_
  refine c_cons (s_val (v_field 2 rfl (by kernel_rfl)) rfl rfl rfl ?_)
  refine c_cons (s_val (v_load rfl (Cel.imm k1 rfl) (by kernel_rfl)) rfl rfl rfl ?_)
  refine c_cons (s_call (xs := [_, _, _]) rfl rfl rfl rfl rfl rfl (by kernel_rfl) (fun w hs => rnum_c b2 v3 _ B3 h.e 3 (by decide) (by omega) (by simp [be_len]) _ w _ F hown3 hs) ?_)
  rintro e w' ⟨v4, B4, rfl, hown4, hs'⟩; refine a_ret ?_ hs'; clear hs'
  refine ww ?_
  refine c_cons (s_val (v_field 0 rfl (by kernel_rfl)) rfl rfl rfl ?_)
  refine c_cons (s_val (v_load rfl (Cel.head rfl) (by kernel_rfl)) rfl rfl rfl ?_)
  rw [show ([] : List UInt8) ++ be 1 1 ++ be h.g 5 ++ be h.h 1 ++ be h.e 3 = hdB h by rw [List.nil_append]; rfl] at hown4
  refine c_freezeO hown4 (Chunk.tail Chunk.head) fun G2 hG2 hsv2 => ?_
  refine c_cons (s_call (xs := [_]) rfl rfl rfl rfl rfl rfl (by kernel_rfl) (fun w hs => rpad_c v4 (hdB h) (by omega) _ w _ _ hsv2 hs) ?_)
  rintro e w' ⟨G3, u3, rfl, hG3, hu3, hs'⟩; refine a_ret ?_ hs'; clear hs'
  obtain ⟨bb, o, c, u, rfl, hcel, hu⟩ := hu3.row (padsL_short (by omega))
  have hlen3 : 0 < (padsL (hdB h)).length := by rw [padsL_len]; omega
  refine c_cons (s_val (v_index1 rfl rfl (by kernel_rfl) (by omega)) rfl rfl rfl ?_)
  refine c_cons (s_val (v_load rfl (hcel _ _ (Im.le_refl _)) (by kernel_rfl)) rfl rfl rfl ?_)
  refine ww ?_
  exact f_ret1 rfl rfl (fun w hs => ⟨G3, _, rfl, hG1.trans (hG2.trans hG3), hu, hs.tl⟩)

theorem rreadGen_c (mp : Nat) (B : Hp) (M : Dk) (vb : Value) (b : List UInt8) (hb64 : b.length = 64) (w0 w : World) (G : Im) (F : Hp) (hr : MH G mp M B) (hv : SV G [] vb b.length (b.map B8)) (hs : Sat w0 w G (B ++ F)) :
    Calls Try.prog 53 #[Pt mp 0, vb] w fun e w' => ∃ G', Im.le G G' ∧ Sat w0 w' G' (B ++ F) ∧ e = .returned (.tuple #[.agg #[I64 (hdJ b).g, I64 (hdJ b).h, I64 (hdJ b).e], .bool (decide (hdOk M.now.length b))]) := by
  obtain ⟨adv, cpv, hvv⟩ := hv.form
  subst hvv
  refine f_enter (vs := [_, _]) Try.func53 rfl Try.ntmps53 (by simp) hs ?_
  refine ww ?_
  refine c_cons (s_allocA [I64 0, I64 0, I64 0] (by kernel_rfl) rfl rfl fun b1 => ?_)
  refine ww ?_
  refine c_cons (s_val (v_build (ps := [_]) #[.slice adv b.length cpv, I64 0] rfl (by kernel_rfl)) rfl rfl rfl ?_)
  refine c_cons (s_boxA [.slice adv b.length cpv, I64 0] rfl rfl rfl fun ep => ?_)
  change Holds _ _ _ _ _ (EyR ep (.slice adv b.length cpv) 0 :: (b1, Cs [I64 0, I64 0, I64 0] 57) :: (B ++ F)) _
  have hv0 : EB G (.slice adv b.length cpv) b := hv
  refine ww ?_
  refine c_cons (s_call (xs := [_, _]) rfl rfl rfl rfl rfl rfl (by kernel_rfl) (fun w hs => renum_c ep _ 0 b 1 _ w _ _ hv0 hs) ?_)
  rw [eNum_ok (k := 1) (by omega) (by omega) 1 rfl]
  rintro e w' ⟨v4, rfl, hv4, hs'⟩; refine a_ret ?_ hs'; clear hs'
  dsimp only at hv4 ⊢
  refine ww ?_
  refine c_cons (s_val (v_build (ps := []) #[I64 0, I64 0, I64 0] rfl (by kernel_rfl)) rfl rfl rfl ?_)
  refine c_cons (s_allocA [I64 0, I64 0, I64 0] (by kernel_rfl) rfl rfl fun b2 => ?_)
  refine c_cons (s_storeA (vs := [I64 0, I64 0, I64 0]) rfl rfl rfl .head (by kernel_rfl) (by simp [Value.oneCell']) rfl ?_)
  refine c_sub (EyR ep v4 0 :: (b2, Cs [I64 0, I64 0, I64 0] 57) :: (B ++ ((b1, Cs [I64 0, I64 0, I64 0] 57) :: F))) sbx ?_
  refine ww ?_
  refine c_cons (s_call (xs := [_, _]) rfl rfl rfl rfl rfl rfl (by kernel_rfl) (fun w hs => renum_c ep _ 0 _ 5 _ w _ _ hv4 hs) ?_)
  rw [eNum_ok (k := 5) (by omega) (by rw [List.length_drop]; omega) 5 rfl]
  rintro e w' ⟨v5, rfl, hv5, hs'⟩; refine a_ret ?_ hs'; clear hs'
  dsimp only at hv5 ⊢
  rw [List.drop_drop] at hv5
  refine c_cons (s_val (v_field 0 rfl (by kernel_rfl)) rfl rfl rfl ?_)
  refine c_cons (s_store1 rfl rfl rfl (.tail .head) (by kernel_rfl) rfl (by simp) ?_)
  change Holds _ _ _ _ _ ((b2, Cs [I64 (num ((b.drop 1).take 5) : Nat), I64 0, I64 0] 57) :: _) _
  refine c_sub (EyR ep v5 0 :: (b2, Cs [I64 (num ((b.drop 1).take 5) : Nat), I64 0, I64 0] 57) :: (B ++ ((b1, Cs [I64 0, I64 0, I64 0] 57) :: F))) sbx ?_
  refine ww ?_
  refine c_cons (s_call (xs := [_, _]) rfl rfl rfl rfl rfl rfl (by kernel_rfl) (fun w hs => renum_c ep _ 0 _ 1 _ w _ _ hv5 hs) ?_)
  rw [eNum_ok (k := 1) (by omega) (by rw [List.length_drop]; omega) 1 rfl]
  rintro e w' ⟨v6, rfl, hv6, hs'⟩; refine a_ret ?_ hs'; clear hs'
  dsimp only at hv6 ⊢
  rw [List.drop_drop] at hv6
  refine c_cons (s_val (v_field 1 rfl (by kernel_rfl)) rfl rfl rfl ?_)
  refine c_cons (s_store1 rfl rfl rfl (.tail .head) (by kernel_rfl) rfl (by simp) ?_)
  change Holds _ _ _ _ _ ((b2, Cs [I64 (num ((b.drop 1).take 5) : Nat), I64 (num ((b.drop 6).take 1) : Nat), I64 0] 57) :: _) _
  refine c_sub (EyR ep v6 0 :: (b2, Cs [I64 (num ((b.drop 1).take 5) : Nat), I64 (num ((b.drop 6).take 1) : Nat), I64 0] 57) :: (B ++ ((b1, Cs [I64 0, I64 0, I64 0] 57) :: F))) sbx ?_
  refine ww ?_
  refine c_cons (s_call (xs := [_, _]) rfl rfl rfl rfl rfl rfl (by kernel_rfl) (fun w hs => renum_c ep _ 0 _ 3 _ w _ _ hv6 hs) ?_)
  rw [eNum_ok (k := 3) (by omega) (by rw [List.length_drop]; omega) 3 rfl]
  rintro e w' ⟨v7, rfl, hv7, hs'⟩; refine a_ret ?_ hs'; clear hs'
  dsimp only at hv7 ⊢
  rw [List.drop_drop] at hv7
  change EB G v7 (b.drop 10) at hv7
  refine c_cons (s_val (v_field 2 rfl (by kernel_rfl)) rfl rfl rfl ?_)
  refine c_cons (s_store1 rfl rfl rfl (.tail .head) (by kernel_rfl) rfl (by simp) ?_)
  have hokd : hdOk M.now.length b ↔ num (b.take 1) = 1 ∧ 1 ≤ (hdJ b).g ∧ (hdJ b).h ≤ 1 ∧ (hdJ b).e ≤ jz M.now.length ∧ ∀ c ∈ b.drop 10, c = 0 := Iff.rfl
  obtain ⟨h, hh⟩ : ∃ h, h = hdJ b := ⟨_, rfl⟩
  change Holds _ _ _ _ _ ((b2, Cs [I64 (hdJ b).g, I64 (hdJ b).h, I64 (hdJ b).e] 57) :: EyR ep v7 0 :: (B ++ ((b1, Cs [I64 0, I64 0, I64 0] 57) :: F))) _
  rw [← hh] at hokd ⊢
  refine c_freeze .head fun G8 hG8 k8 => ?_
  refine c_freeze .head fun G9 hG9 k9 => ?_
  replace k8 := hG9 _ _ k8
  have hGa := hG8.trans hG9
  have hv8 : SV G9 [] v7 (b.drop 10).length ((b.drop 10).map B8) := SV.mono (H' := []) hv7 hGa (fun p hp => hp)
  have hr9 := hr.up hGa
  refine c_sub (B ++ ((b1, Cs [I64 0, I64 0, I64 0] 57) :: F)) sbx ?_
  obtain ⟨hu0, hu⟩ : ∃ x, x = num (b.take 1) := ⟨_, rfl⟩
  rw [← hu] at hokd ⊢
  have no : ¬ hdOk M.now.length b → Value.bool (decide (hdOk M.now.length b)) = .bool false := fun h => by rw [decide_eq_false h]
  have fin : ∀ (env : Env) R, Holds 51 [] w0 env G9 (B ++ ((b1, Cs [I64 h.g, I64 h.h, I64 h.e] 57) :: F)) R → Holds 51 [] w0 env G9 ((b1, Cs [I64 h.g, I64 h.h, I64 h.e] 57) :: (B ++ F)) R := fun env R hh => c_sub _ sbx hh
  refine wn ?_
  refine c_cut (α := Unit) (fun _ => [(4, Pt b1 0), (5, .bool (decide (hdOk M.now.length b)))]) (fun _ => G9) (fun _ => (b1, Cs [I64 h.g, I64 h.h, I64 h.e] 57) :: (B ++ F)) (fun _ => True) ?_ ?_
  · refine ww ?_
    refine r_startS [] [] (by kernel_rfl) (fun w h => h.none) ?_
    refine r_tk 0 rfl rfl (v_loadAgg (vs := [I64 h.g, I64 h.h, I64 h.e]) rfl (by kernel_rfl) (by kernel_rfl) rfl (fun j u hj => (Cel.allI k8 hj))) (fun _ h => h.none) ?_
    refine r_tk 1 rfl rfl (v_move rfl) (fun _ h => h.none) ?_
    refine r_tk 2 rfl rfl (v_eql rfl rfl) (fun _ h => h.none) ?_
    refine r_tk 3 rfl rfl (v_move rfl) (fun _ h => h.none) ?_
    refine c_part_d 27 _ rfl (fun c1 => ?_) (fun c1 => ?_)
    rotate_left
    · rw [no (fun m => c1 (by have := (hokd.1 m).1; omega))]
      refine r_skip 4 rfl (by kernel_rfl) (by kernel_rfl) (by kernel_rfl) (by kernel_rfl) rfl rfl rfl (fun _ h => h.none) (by repeat (first | exact pk_body | exact pk_no | exact pk_S | apply pk_then | apply pk_block)) ?_; refine r_skip 5 rfl (by kernel_rfl) (by kernel_rfl) (by kernel_rfl) (by kernel_rfl) rfl rfl rfl (fun _ h => h.none) (by repeat (first | exact pk_body | exact pk_no | exact pk_S | apply pk_then | apply pk_block)) ?_; refine r_skip 6 rfl (by kernel_rfl) (by kernel_rfl) (by kernel_rfl) (by kernel_rfl) rfl rfl rfl (fun _ h => h.none) (by repeat (first | exact pk_body | exact pk_no | exact pk_S | apply pk_then | apply pk_block)) ?_
      refine r_tk 7 rfl rfl (v_pick_f rfl rfl) (fun _ h => h.none) ?_
      refine r_tk 8 rfl rfl (v_move rfl) (fun _ h => h.none) ?_
      refine r_skip 9 rfl (by kernel_rfl) (by kernel_rfl) (by kernel_rfl) (by kernel_rfl) rfl rfl rfl (fun _ h => h.none) (by repeat (first | exact pk_body | exact pk_no | exact pk_S | apply pk_then | apply pk_block)) ?_; refine r_skip 10 rfl (by kernel_rfl) (by kernel_rfl) (by kernel_rfl) (by kernel_rfl) rfl rfl rfl (fun _ h => h.none) (by repeat (first | exact pk_body | exact pk_no | exact pk_S | apply pk_then | apply pk_block)) ?_; refine r_skip 11 rfl (by kernel_rfl) (by kernel_rfl) (by kernel_rfl) (by kernel_rfl) rfl rfl rfl (fun _ h => h.none) (by repeat (first | exact pk_body | exact pk_no | exact pk_S | apply pk_then | apply pk_block)) ?_
      refine r_tk 12 rfl rfl (v_pick_f rfl rfl) (fun _ h => h.none) ?_
      refine r_tk 13 rfl rfl (v_move rfl) (fun _ h => h.none) ?_
      refine r_skip 14 rfl (by kernel_rfl) (by kernel_rfl) (by kernel_rfl) (by kernel_rfl) rfl rfl rfl (fun _ h => h.none) (by repeat (first | exact pk_body | exact pk_no | exact pk_S | apply pk_then | apply pk_block)) ?_; refine r_skip 15 rfl (by kernel_rfl) (by kernel_rfl) (by kernel_rfl) (by kernel_rfl) rfl rfl rfl (fun _ h => h.none) (by repeat (first | exact pk_body | exact pk_no | exact pk_S | apply pk_then | apply pk_block)) ?_; refine r_skip 16 rfl (by kernel_rfl) (by kernel_rfl) (by kernel_rfl) (by kernel_rfl) rfl rfl rfl (fun _ h => h.none) (by repeat (first | exact pk_body | exact pk_no | exact pk_S | apply pk_then | apply pk_block)) ?_; refine r_skip 17 rfl (by kernel_rfl) (by kernel_rfl) (by kernel_rfl) (by kernel_rfl) rfl rfl rfl (fun _ h => h.none) (by repeat (first | exact pk_body | exact pk_no | exact pk_S | apply pk_then | apply pk_block)) ?_; refine r_skip 18 rfl (by kernel_rfl) (by kernel_rfl) (by kernel_rfl) (by kernel_rfl) rfl rfl rfl (fun _ h => h.none) (by repeat (first | exact pk_body | exact pk_no | exact pk_S | apply pk_then | apply pk_block)) ?_
      refine r_tk 19 rfl rfl (v_pick_f rfl rfl) (fun _ h => h.none) ?_
      refine r_tk 20 rfl rfl (v_move rfl) (fun _ h => h.none) ?_
      refine r_skip 21 rfl (by kernel_rfl) (by kernel_rfl) (by kernel_rfl) (by kernel_rfl) rfl rfl rfl (fun _ h => h.none) (by repeat (first | exact pk_body | exact pk_no | exact pk_S | apply pk_then | apply pk_block)) ?_; refine r_skip 22 rfl (by kernel_rfl) (by kernel_rfl) (by kernel_rfl) (by kernel_rfl) rfl rfl rfl (fun _ h => h.none) (by repeat (first | exact pk_body | exact pk_no | exact pk_S | apply pk_then | apply pk_block)) ?_; refine r_skip 23 rfl (by kernel_rfl) (by kernel_rfl) (by kernel_rfl) (by kernel_rfl) rfl rfl rfl (fun _ h => h.none) (by repeat (first | exact pk_body | exact pk_no | exact pk_S | apply pk_then | apply pk_block)) ?_; refine r_skip 24 rfl (by kernel_rfl) (by kernel_rfl) (by kernel_rfl) (by kernel_rfl) rfl rfl rfl (fun _ h => h.none) (by repeat (first | exact pk_body | exact pk_no | exact pk_S | apply pk_then | apply pk_block)) ?_; refine r_skip 25 rfl (by kernel_rfl) (by kernel_rfl) (by kernel_rfl) (by kernel_rfl) rfl rfl rfl (fun _ h => h.none) (by repeat (first | exact pk_body | exact pk_no | exact pk_S | apply pk_then | apply pk_block)) ?_
      refine r_tk 26 rfl rfl (v_pick_f rfl rfl) (fun _ h => h.none) ?_
      refine c_sub ((b1, Cs [I64 0, I64 0, I64 0] 57) :: (B ++ F)) sbx ?_
      refine r_one 27 (by kernel_rfl) rfl ?_
      refine s_storeA (vs := [I64 h.g, I64 h.h, I64 h.e]) rfl rfl rfl .head (by kernel_rfl) (by simp [Value.oneCell']) rfl ?_
      refine r_next (fun w h => h.none) ?_
      refine r_tk 28 rfl rfl (v_assign rfl) (fun _ h => h.none) ?_
      refine r_done (by kernel_rfl) ?_
      refine ww ?_
      exact n_mid () trivial ⟨rfl, rfl, trivial⟩ rfl sbx
    refine r_tk 4 rfl rfl (v_field 0 rfl (by kernel_rfl)) (fun _ h => h.none) ?_
    refine r_tk 5 rfl rfl (v_load rfl (Cel.imm k8 rfl) (by kernel_rfl)) (fun _ h => h.none) ?_
    refine r_tk 6 rfl rfl (v_geq rfl rfl) (fun _ h => h.none) ?_
    refine r_tk 7 rfl rfl (v_pick_t rfl rfl) (fun _ h => h.none) ?_
    refine r_tk 8 rfl rfl (v_move rfl) (fun _ h => h.none) ?_
    refine c_part_d 32 _ rfl (fun c2 => ?_) (fun c2 => ?_)
    rotate_left
    · rw [no (fun m => c2 (by have := (hokd.1 m).2.1; omega))]
      refine r_skip 9 rfl (by kernel_rfl) (by kernel_rfl) (by kernel_rfl) (by kernel_rfl) rfl rfl rfl (fun _ h => h.none) (by repeat (first | exact pk_body | exact pk_no | exact pk_S | apply pk_then | apply pk_block)) ?_; refine r_skip 10 rfl (by kernel_rfl) (by kernel_rfl) (by kernel_rfl) (by kernel_rfl) rfl rfl rfl (fun _ h => h.none) (by repeat (first | exact pk_body | exact pk_no | exact pk_S | apply pk_then | apply pk_block)) ?_; refine r_skip 11 rfl (by kernel_rfl) (by kernel_rfl) (by kernel_rfl) (by kernel_rfl) rfl rfl rfl (fun _ h => h.none) (by repeat (first | exact pk_body | exact pk_no | exact pk_S | apply pk_then | apply pk_block)) ?_
      refine r_tk 12 rfl rfl (v_pick_f rfl rfl) (fun _ h => h.none) ?_
      refine r_tk 13 rfl rfl (v_move rfl) (fun _ h => h.none) ?_
      refine r_skip 14 rfl (by kernel_rfl) (by kernel_rfl) (by kernel_rfl) (by kernel_rfl) rfl rfl rfl (fun _ h => h.none) (by repeat (first | exact pk_body | exact pk_no | exact pk_S | apply pk_then | apply pk_block)) ?_; refine r_skip 15 rfl (by kernel_rfl) (by kernel_rfl) (by kernel_rfl) (by kernel_rfl) rfl rfl rfl (fun _ h => h.none) (by repeat (first | exact pk_body | exact pk_no | exact pk_S | apply pk_then | apply pk_block)) ?_; refine r_skip 16 rfl (by kernel_rfl) (by kernel_rfl) (by kernel_rfl) (by kernel_rfl) rfl rfl rfl (fun _ h => h.none) (by repeat (first | exact pk_body | exact pk_no | exact pk_S | apply pk_then | apply pk_block)) ?_; refine r_skip 17 rfl (by kernel_rfl) (by kernel_rfl) (by kernel_rfl) (by kernel_rfl) rfl rfl rfl (fun _ h => h.none) (by repeat (first | exact pk_body | exact pk_no | exact pk_S | apply pk_then | apply pk_block)) ?_; refine r_skip 18 rfl (by kernel_rfl) (by kernel_rfl) (by kernel_rfl) (by kernel_rfl) rfl rfl rfl (fun _ h => h.none) (by repeat (first | exact pk_body | exact pk_no | exact pk_S | apply pk_then | apply pk_block)) ?_
      refine r_tk 19 rfl rfl (v_pick_f rfl rfl) (fun _ h => h.none) ?_
      refine r_tk 20 rfl rfl (v_move rfl) (fun _ h => h.none) ?_
      refine r_skip 21 rfl (by kernel_rfl) (by kernel_rfl) (by kernel_rfl) (by kernel_rfl) rfl rfl rfl (fun _ h => h.none) (by repeat (first | exact pk_body | exact pk_no | exact pk_S | apply pk_then | apply pk_block)) ?_; refine r_skip 22 rfl (by kernel_rfl) (by kernel_rfl) (by kernel_rfl) (by kernel_rfl) rfl rfl rfl (fun _ h => h.none) (by repeat (first | exact pk_body | exact pk_no | exact pk_S | apply pk_then | apply pk_block)) ?_; refine r_skip 23 rfl (by kernel_rfl) (by kernel_rfl) (by kernel_rfl) (by kernel_rfl) rfl rfl rfl (fun _ h => h.none) (by repeat (first | exact pk_body | exact pk_no | exact pk_S | apply pk_then | apply pk_block)) ?_; refine r_skip 24 rfl (by kernel_rfl) (by kernel_rfl) (by kernel_rfl) (by kernel_rfl) rfl rfl rfl (fun _ h => h.none) (by repeat (first | exact pk_body | exact pk_no | exact pk_S | apply pk_then | apply pk_block)) ?_; refine r_skip 25 rfl (by kernel_rfl) (by kernel_rfl) (by kernel_rfl) (by kernel_rfl) rfl rfl rfl (fun _ h => h.none) (by repeat (first | exact pk_body | exact pk_no | exact pk_S | apply pk_then | apply pk_block)) ?_
      refine r_tk 26 rfl rfl (v_pick_f rfl rfl) (fun _ h => h.none) ?_
      refine c_sub ((b1, Cs [I64 0, I64 0, I64 0] 57) :: (B ++ F)) sbx ?_
      refine r_one 27 (by kernel_rfl) rfl ?_
      refine s_storeA (vs := [I64 h.g, I64 h.h, I64 h.e]) rfl rfl rfl .head (by kernel_rfl) (by simp [Value.oneCell']) rfl ?_
      refine r_next (fun w h => h.none) ?_
      refine r_tk 28 rfl rfl (v_assign rfl) (fun _ h => h.none) ?_
      refine r_done (by kernel_rfl) ?_
      refine ww ?_
      exact n_mid () trivial ⟨rfl, rfl, trivial⟩ rfl sbx
    refine r_tk 9 rfl rfl (v_field 1 rfl (by kernel_rfl)) (fun _ h => h.none) ?_
    refine r_tk 10 rfl rfl (v_load rfl (Cel.imm k8 rfl) (by kernel_rfl)) (fun _ h => h.none) ?_
    refine r_tk 11 rfl rfl (v_leq rfl rfl) (fun _ h => h.none) ?_
    refine r_tk 12 rfl rfl (v_pick_t rfl rfl) (fun _ h => h.none) ?_
    refine r_tk 13 rfl rfl (v_move rfl) (fun _ h => h.none) ?_
    refine c_part_d 37 _ rfl (fun c3 => ?_) (fun c3 => ?_)
    rotate_left
    · rw [no (fun m => c3 (by have := (hokd.1 m).2.2.1; omega))]
      refine r_skip 14 rfl (by kernel_rfl) (by kernel_rfl) (by kernel_rfl) (by kernel_rfl) rfl rfl rfl (fun _ h => h.none) (by repeat (first | exact pk_body | exact pk_no | exact pk_S | apply pk_then | apply pk_block)) ?_; refine r_skip 15 rfl (by kernel_rfl) (by kernel_rfl) (by kernel_rfl) (by kernel_rfl) rfl rfl rfl (fun _ h => h.none) (by repeat (first | exact pk_body | exact pk_no | exact pk_S | apply pk_then | apply pk_block)) ?_; refine r_skip 16 rfl (by kernel_rfl) (by kernel_rfl) (by kernel_rfl) (by kernel_rfl) rfl rfl rfl (fun _ h => h.none) (by repeat (first | exact pk_body | exact pk_no | exact pk_S | apply pk_then | apply pk_block)) ?_; refine r_skip 17 rfl (by kernel_rfl) (by kernel_rfl) (by kernel_rfl) (by kernel_rfl) rfl rfl rfl (fun _ h => h.none) (by repeat (first | exact pk_body | exact pk_no | exact pk_S | apply pk_then | apply pk_block)) ?_; refine r_skip 18 rfl (by kernel_rfl) (by kernel_rfl) (by kernel_rfl) (by kernel_rfl) rfl rfl rfl (fun _ h => h.none) (by repeat (first | exact pk_body | exact pk_no | exact pk_S | apply pk_then | apply pk_block)) ?_
      refine r_tk 19 rfl rfl (v_pick_f rfl rfl) (fun _ h => h.none) ?_
      refine r_tk 20 rfl rfl (v_move rfl) (fun _ h => h.none) ?_
      refine r_skip 21 rfl (by kernel_rfl) (by kernel_rfl) (by kernel_rfl) (by kernel_rfl) rfl rfl rfl (fun _ h => h.none) (by repeat (first | exact pk_body | exact pk_no | exact pk_S | apply pk_then | apply pk_block)) ?_; refine r_skip 22 rfl (by kernel_rfl) (by kernel_rfl) (by kernel_rfl) (by kernel_rfl) rfl rfl rfl (fun _ h => h.none) (by repeat (first | exact pk_body | exact pk_no | exact pk_S | apply pk_then | apply pk_block)) ?_; refine r_skip 23 rfl (by kernel_rfl) (by kernel_rfl) (by kernel_rfl) (by kernel_rfl) rfl rfl rfl (fun _ h => h.none) (by repeat (first | exact pk_body | exact pk_no | exact pk_S | apply pk_then | apply pk_block)) ?_; refine r_skip 24 rfl (by kernel_rfl) (by kernel_rfl) (by kernel_rfl) (by kernel_rfl) rfl rfl rfl (fun _ h => h.none) (by repeat (first | exact pk_body | exact pk_no | exact pk_S | apply pk_then | apply pk_block)) ?_; refine r_skip 25 rfl (by kernel_rfl) (by kernel_rfl) (by kernel_rfl) (by kernel_rfl) rfl rfl rfl (fun _ h => h.none) (by repeat (first | exact pk_body | exact pk_no | exact pk_S | apply pk_then | apply pk_block)) ?_
      refine r_tk 26 rfl rfl (v_pick_f rfl rfl) (fun _ h => h.none) ?_
      refine c_sub ((b1, Cs [I64 0, I64 0, I64 0] 57) :: (B ++ F)) sbx ?_
      refine r_one 27 (by kernel_rfl) rfl ?_
      refine s_storeA (vs := [I64 h.g, I64 h.h, I64 h.e]) rfl rfl rfl .head (by kernel_rfl) (by simp [Value.oneCell']) rfl ?_
      refine r_next (fun w h => h.none) ?_
      refine r_tk 28 rfl rfl (v_assign rfl) (fun _ h => h.none) ?_
      refine r_done (by kernel_rfl) ?_
      refine ww ?_
      exact n_mid () trivial ⟨rfl, rfl, trivial⟩ rfl sbx
    refine r_tk 14 rfl rfl (v_field 2 rfl (by kernel_rfl)) (fun _ h => h.none) ?_
    refine r_tk 15 rfl rfl (v_load rfl (Cel.imm k8 rfl) (by kernel_rfl)) (fun _ h => h.none) ?_
    refine r_tk 16 rfl rfl (v_move rfl) (fun _ h => h.none) ?_
    refine r_one 17 (by kernel_rfl) rfl ?_
    refine s_call (xs := [_]) rfl rfl rfl rfl rfl rfl (by kernel_rfl) (fun w hs => rhalf_c mp B M _ w _ _ hr9 hs) ?_
    rintro e w' ⟨rfl, hs'⟩; refine a_ret ?_ hs'; clear hs'
    refine r_next (fun w h => h.none) ?_
    refine r_tk 18 rfl rfl (v_leq rfl rfl) (fun _ h => h.none) ?_
    refine r_tk 19 rfl rfl (v_pick_t rfl rfl) (fun _ h => h.none) ?_
    refine r_tk 20 rfl rfl (v_move rfl) (fun _ h => h.none) ?_
    refine c_part_d 44 _ rfl (fun c4 => ?_) (fun c4 => ?_)
    rotate_left
    · rw [no (fun m => c4 (by have := (hokd.1 m).2.2.2.1; omega))]
      refine r_skip 21 rfl (by kernel_rfl) (by kernel_rfl) (by kernel_rfl) (by kernel_rfl) rfl rfl rfl (fun _ h => h.none) (by repeat (first | exact pk_body | exact pk_no | exact pk_S | apply pk_then | apply pk_block)) ?_; refine r_skip 22 rfl (by kernel_rfl) (by kernel_rfl) (by kernel_rfl) (by kernel_rfl) rfl rfl rfl (fun _ h => h.none) (by repeat (first | exact pk_body | exact pk_no | exact pk_S | apply pk_then | apply pk_block)) ?_; refine r_skip 23 rfl (by kernel_rfl) (by kernel_rfl) (by kernel_rfl) (by kernel_rfl) rfl rfl rfl (fun _ h => h.none) (by repeat (first | exact pk_body | exact pk_no | exact pk_S | apply pk_then | apply pk_block)) ?_; refine r_skip 24 rfl (by kernel_rfl) (by kernel_rfl) (by kernel_rfl) (by kernel_rfl) rfl rfl rfl (fun _ h => h.none) (by repeat (first | exact pk_body | exact pk_no | exact pk_S | apply pk_then | apply pk_block)) ?_; refine r_skip 25 rfl (by kernel_rfl) (by kernel_rfl) (by kernel_rfl) (by kernel_rfl) rfl rfl rfl (fun _ h => h.none) (by repeat (first | exact pk_body | exact pk_no | exact pk_S | apply pk_then | apply pk_block)) ?_
      refine r_tk 26 rfl rfl (v_pick_f rfl rfl) (fun _ h => h.none) ?_
      refine c_sub ((b1, Cs [I64 0, I64 0, I64 0] 57) :: (B ++ F)) sbx ?_
      refine r_one 27 (by kernel_rfl) rfl ?_
      refine s_storeA (vs := [I64 h.g, I64 h.h, I64 h.e]) rfl rfl rfl .head (by kernel_rfl) (by simp [Value.oneCell']) rfl ?_
      refine r_next (fun w h => h.none) ?_
      refine r_tk 28 rfl rfl (v_assign rfl) (fun _ h => h.none) ?_
      refine r_done (by kernel_rfl) ?_
      refine ww ?_
      exact n_mid () trivial ⟨rfl, rfl, trivial⟩ rfl sbx
    have hfin : decide (hdOk M.now.length b) = decide (∀ c ∈ b.drop 10, c = 0) := by
      refine decide_eq_decide.2 ?_
      rw [hokd]
      exact ⟨fun m => m.2.2.2.2, fun m => ⟨by omega, by omega, by omega, by omega, m⟩⟩
    rw [hfin]
    refine r_tk 21 rfl rfl (v_move rfl) (fun _ h => h.none) ?_
    refine r_tk 22 rfl rfl (v_nilCheck rfl) (fun _ h => h.none) ?_
    refine r_tk 23 rfl rfl (v_field 0 rfl (by kernel_rfl)) (fun _ h => h.none) ?_
    refine r_tk 24 rfl rfl (v_load rfl (Cel.imm k9 rfl) (by kernel_rfl)) (fun _ h => h.none) ?_
    refine r_one 25 (by kernel_rfl) rfl ?_
    refine s_call (xs := [_]) rfl rfl rfl rfl rfl rfl (by kernel_rfl) (fun w hs => rnought_c v7 (b.drop 10) (by rw [List.length_drop]; omega) _ w _ _ hv8 hs) ?_
    rintro e w' ⟨rfl, hs'⟩; refine a_ret ?_ hs'; clear hs'
    refine r_next (fun w h => h.none) ?_
    refine r_tk 26 rfl rfl (v_pick_t rfl rfl) (fun _ h => h.none) ?_
    refine c_sub ((b1, Cs [I64 0, I64 0, I64 0] 57) :: (B ++ F)) sbx ?_
    refine r_one 27 (by kernel_rfl) rfl ?_
    refine s_storeA (vs := [I64 h.g, I64 h.h, I64 h.e]) rfl rfl rfl .head (by kernel_rfl) (by simp [Value.oneCell']) rfl ?_
    refine r_next (fun w h => h.none) ?_
    refine r_tk 28 rfl rfl (v_assign rfl) (fun _ h => h.none) ?_
    refine r_done (by kernel_rfl) ?_
    refine ww ?_
    exact n_mid () trivial ⟨rfl, rfl, trivial⟩ rfl sbx
  rintro _ _
  refine ww ?_
  exact f_retA1 (vs := [I64 h.g, I64 h.h, I64 h.e]) rfl rfl rfl (by kernel_rfl) (by kernel_rfl) rfl (fun j u hj => Cel.all hj) (fun w hs => ⟨G9, hGa, hs.tl, rfl⟩)
end

section
open Go
set_option linter.unusedVariables false
set_option linter.unusedSimpArgs false
set_option maxHeartbeats 3200000
/-- On a disk that lives, what lasts and what was written since are what stands there. -/
def Gd (D : Dk) : Prop := D.dead = false → putAll D.lasts D.since = D.now
theorem write_gd (D : Dk) (n : Int) (x : List UInt8) (h : Gd D) : Gd (writeS D n x).1 := by
  unfold writeS
  split
  · exact h
  · split
    · unfold opS
      by_cases hf : (addS D n.toNat x).fuse = 0
      · rw [if_pos hf]; exact fun e => by cases e
      · rw [if_neg hf]
        intro e
        show putAll D.lasts (D.since ++ [(n.toNat, x)]) = D.now.set n.toNat x
        rw [putAll_app, h e]; rfl
    · exact h
theorem sync_gd (D : Dk) (h : Gd D) : Gd (syncS D).1 := by
  unfold syncS
  split
  · exact h
  · unfold opS
    by_cases hf : D.fuse = 0
    · rw [if_pos hf]; exact fun e => by cases e
    · rw [if_neg hf]
      intro e
      exact h e
theorem rsync_eq {D : Dk} (h : Gd D) : rsyncS D = syncS D := by
  unfold rsyncS syncS
  by_cases hd : D.dead = true
  · rw [if_pos hd, if_pos hd]
  · have h1 := h (by simpa using hd)
    rw [if_neg hd, if_neg hd]
    unfold opS
    by_cases hf : D.fuse = 0
    · rw [if_pos hf]; rfl
    · rw [if_neg hf]
      unfold rsynced synced
      dsimp only
      rw [h1]
theorem puts_dead {D : Dk} (hd : D.dead = true) (p : Nat) : ∀ xs : List (List UInt8), xs ≠ [] → putsS D p xs = (D, 14)
  | [], h => absurd rfl h
  | x :: r, _ => by
    have e : writeS D p x = (D, 14) := by unfold writeS; rw [if_pos hd]
    rw [puts_cons, e, if_neg (by simp)]
theorem lay_dead {D : Dk} (hd : D.dead = true) {J : Jn} {half at' : Nat} {b : List UInt8} (h1 : b.length ≤ 65536) (h2 : ¬ ((jz D.now.length : Int) - at' < jk b.length ∨ 1099511627775 ≤ J.hd.g)) : layS D J half at' b = (D, 14) := by
  have hk := jk_pos b.length
  rw [lay_run h1 h2, puts_dead hd _ _ (fun e => by have := secsL_len b; rw [e] at this; simp at this; omega)]
  exact thenSync_ne (by simp) _ _
abbrev RJO (jp mp : Nat) (h : Jh) (s : Int) (vr : Value) : Nat × Obj := (jp, Cs [Pt mp 0, I64 h.g, I64 h.h, I64 h.e, I64 s, vr] 59)
def RJH (G : Im) (jp mp : Nat) (J : Jn) (B : Hp) : Prop := ∃ vr Br, B = RJO jp mp J.hd J.s vr :: Br ∧ RO G vr J.rows Br
theorem RJH.up {G G' : Im} {jp mp : Nat} {J : Jn} {B : Hp} (h : RJH G jp mp J B) (hG : Im.le G G') : RJH G' jp mp J B := let ⟨vr, Br, h1, h2⟩ := h; ⟨vr, Br, h1, h2.up hG⟩
theorem MH.mo {G : Im} {mp : Nat} {M : Dk} {B : Hp} (h : MH G mp M B) : ∃ vN vL vA vW B2, B = MO mp vN vL vA vW M.ops M.fuse M.dead :: B2 ∧ ∃ ad c, vN = .slice ad M.now.length c := by
  obtain ⟨vN, vL, vA, vW, BN, BL, BA, BW, rfl, hr⟩ := h
  have hk2 := hr.wf.k2
  obtain ⟨bn, cn, Ln, rfl, _⟩ := hr.n.put (by omega)
  exact ⟨_, _, _, _, _, rfl, _, _, rfl⟩
attribute [local irreducible] Code.wp wpList stepK Holds Val wpR Eff Eff0 Code.wpIn wpListIn stepI Exit.then Exit.inBlock bodyPost bodyPostM

theorem rput_c (jp mp : Nat) (B : Hp) (M : Dk) (hgd : Gd M) (hl : 6 ≤ M.now.length ∧ M.now.length ≤ 4160) (J : Jn) (hJ : gdJ J.hd) (hs01 : J.s = 0 ∨ J.s = 1) (vr : Value) (half at' : Nat) (hh : half ≤ 1) (hat : at' ≤ jz M.now.length) (vb : Value) (b : List UInt8) (hbl : b.length ≤ 1000000)
    (hsm : M.since.length < 990000) (ho : M.ops < 990000) (w0 w : World) (G : Im) (F : Hp) (hr : MH G mp M B) (hvb : SV G [] vb b.length (b.map B8)) (hs : Sat w0 w G (RJO jp mp J.hd J.s vr :: (B ++ F))) :
    Calls Try.prog 51 #[Pt jp 0, vb, I64 (half : Int), I64 (at' : Int)] w fun e w' => ∃ G' B', Im.le G G' ∧ e = .returned (I64 (layS M J half at' b).2) ∧ MH G' mp (layS M J half at' b).1 B' ∧ Sat w0 w' G' (RJO jp mp (okH J half at' b (layS M J half at' b).2) (okS J (layS M J half at' b).2) vr :: (B' ++ F)) := by
  obtain ⟨adb, cpb, rfl⟩ := hvb.form
  obtain ⟨hg1, hg2, hg3⟩ := id hJ
  have hz : jz M.now.length ≤ 2079 := by unfold jz; omega
  refine f_enter (vs := [_, _, _, _]) Try.func51 rfl Try.ntmps51 (by simp) hs ?_
  refine ww ?_
  refine c_cond_d rfl (fun c3 => ?_) (fun c3 => ?_)
  · -- then
    have e : layS M J half at' b = (M, 3) := by unfold layS; rw [if_pos (by omega)]
    rw [e]
    refine ww ?_
    exact f_ret1 rfl rfl (fun w hs => ⟨G, B, Im.le_refl _, rfl, hr, hs⟩)
  have hb : b.length ≤ 65536 := by omega
  have hjk : jk b.length ≤ 1025 := by unfold jk; omega
  have hkp := jk_pos b.length
  have hrl : (recB b).length = b.length + 3 := by simp [recB, be_len]; omega
  refine ww ?_
  refine c_cons (s_val (v_build (ps := []) #[.slice none 0 0, I64 0] rfl (by kernel_rfl)) rfl rfl rfl ?_)
  refine c_cons (s_boxA [.slice none 0 0, I64 0] rfl rfl rfl fun pn => ?_)
  change Holds _ _ _ _ _ (RP pn (.slice none 0 0) :: ([] ++ (RJO jp mp J.hd J.s vr :: (B ++ F)))) _
  refine ww ?_
  refine c_cons (s_call (xs := [_, _, _]) rfl rfl rfl rfl rfl rfl (by kernel_rfl) (fun w hs => rnum_c pn _ [] [] (b.length : Int) 3 (by decide) (by omega) (by decide) _ w _ (RJO jp mp J.hd J.s vr :: (B ++ F)) (Own.zero none _ _) hs) ?_)
  rintro e w' ⟨v1, B1, rfl, hown1, hs'⟩; refine a_ret ?_ hs'; clear hs'
  refine ww ?_
  refine c_cons (s_val (v_field 0 rfl (by kernel_rfl)) rfl rfl rfl ?_)
  refine c_cons (s_val (v_load rfl (Cel.head rfl) (by kernel_rfl)) rfl rfl rfl ?_)
  refine ww ?_
  have hl3 : ([] ++ be (b.length : Int) 3 : List UInt8).length = 3 := by simp [be_len]
  refine c_cons (s_append (e := 5) (z := B8 0) (sz := 1) (bs := 1) (by kernel_rfl) rfl rfl rfl rfl hown1 (Chunk.tail Chunk.head) (hvb.mono (Im.le_refl _) (by simp)) rfl (by decide) (by simp) (B8_one b) (by omega) (by omega) fun u5 B5 hown5 => ?_)
  have hown5' : OB u5 (recB b) B5 := by
    show Own u5 (recB b).length ((recB b).map B8) _ _ _
    have e5 : ([] ++ be (b.length : Int) 3 : List UInt8).map B8 ++ b.map B8 = (recB b).map B8 := by unfold recB; rw [List.nil_append, List.map_append]
    rw [← e5, hrl, Nat.add_comm, ← hl3]; exact hown5
  clear hown5
  refine c_freezeO hown5' Chunk.head fun G6 hG6 hsv6 => ?_
  refine c_cons (s_call (xs := [_]) rfl rfl rfl rfl rfl rfl (by kernel_rfl) (fun w hs => rpad_c u5 (recB b) (by omega) _ w _ _ hsv6 hs) ?_)
  rw [padsL_rec]
  rintro e w' ⟨G7, u7, rfl, hG7, hu7, hs'⟩; refine a_ret ?_ hs'; clear hs'
  have hGb := hG6.trans hG7
  have hr7 := hr.up hGb
  obtain ⟨ad7, c7, rfl⟩ := hu7.len
  rw [secsL_len]
  refine c_sub (RJO jp mp J.hd J.s vr :: (B ++ F)) sbx ?_
  refine ww ?_
  refine c_cons (s_val (v_field 0 rfl (by kernel_rfl)) rfl rfl rfl ?_)
  refine c_cons (s_val (v_load rfl (Cel.head rfl) (by kernel_rfl)) rfl rfl rfl ?_)
  refine c_sub (B ++ (RJO jp mp J.hd J.s vr :: F)) sbx ?_
  refine c_cons (s_call (xs := [_]) rfl rfl rfl rfl rfl rfl (by kernel_rfl) (fun w hs => rhalf_c mp B M _ w _ _ hr7 hs) ?_)
  rintro e w' ⟨rfl, hs'⟩; refine a_ret ?_ hs'; clear hs'
  refine c_sub (RJO jp mp J.hd J.s vr :: (B ++ F)) sbx ?_
  refine ww ?_
  refine c_part_d 42 _ rfl (fun c4 => ?_) (fun c4 => ?_)
  · -- full
    have e : layS M J half at' b = (M, 5) := by unfold layS; rw [if_neg (by omega), if_pos (.inl (by omega))]
    rw [e]
    refine ww ?_
    refine c_cond_t rfl ?_
    refine ww ?_
    exact f_ret1 rfl rfl (fun w hs => ⟨G7, B, hGb, rfl, hr7, hs⟩)
  refine ww ?_
  refine c_cons (s_val (v_field 1 rfl (by kernel_rfl)) rfl rfl rfl ?_)
  refine c_cons (s_val (v_field 0 rfl (by kernel_rfl)) rfl rfl rfl ?_)
  refine c_cons (s_val (v_load rfl (Cel.head rfl) (by kernel_rfl)) rfl rfl rfl ?_)
  refine c_cons (s_val (v_geq rfl rfl) rfl rfl rfl ?_)
  refine ww ?_
  refine c_cond_d rfl (fun c5 => ?_) (fun c5 => ?_)
  · -- then
    have e : layS M J half at' b = (M, 5) := by unfold layS; rw [if_neg (by omega), if_pos (.inr (by omega))]
    rw [e]
    refine ww ?_
    exact f_ret1 rfl rfl (fun w hs => ⟨G7, B, hGb, rfl, hr7, hs⟩)
  refine ww ?_
  refine c_cons (s_val (v_field 0 rfl (by kernel_rfl)) rfl rfl rfl ?_)
  refine c_cons (s_val (v_load rfl (Cel.head rfl) (by kernel_rfl)) rfl rfl rfl ?_)
  obtain ⟨vN, vL, vA, vW, B2, hB2, _⟩ := hr7.mo
  rw [hB2]
  refine c_sub (MO mp vN vL vA vW M.ops M.fuse M.dead :: (B2 ++ (RJO jp mp J.hd J.s vr :: F))) sbx ?_
  refine ww ?_
  refine c_cons (s_val (v_field 6 rfl (by kernel_rfl)) rfl rfl rfl ?_)
  refine c_cons (s_val (v_load rfl (Cel.head rfl) (by kernel_rfl)) rfl rfl rfl ?_)
  have back : Hp → Prop := fun H => H = H
  refine ww ?_
  by_cases hd : M.dead = true
  · rw [hd]
    have e : layS M J half at' b = (M, 14) := lay_dead hd hb (by omega)
    rw [e]
    refine c_cond_t rfl ?_
    refine ww ?_
    exact f_ret1 rfl rfl (fun w hs => ⟨G7, B, hGb, rfl, hr7, (show Sat w0 w G7 (RJO jp mp J.hd J.s vr :: (B ++ F)) from by rw [hB2, hd]; exact hs.sb)⟩)
  have hd' : M.dead = false := by simpa using hd
  rw [hd'] at hB2 ⊢
  refine c_cond_f rfl ?_
  have hrun := lay_run (D := M) (J := J) (half := half) (at' := at') (b := b) hb (by omega)
  rw [hrun]
  have hgn : gdJ (newH J half at' b) := by unfold gdJ newH; dsimp only; omega
  obtain ⟨p, hp⟩ : ∃ p, p = 2 + half * jz M.now.length + at' := ⟨_, rfl⟩
  rw [← hp]
  obtain ⟨R, hR⟩ : ∃ R, R = headS (thenSync (putsS M p (secsL b))) (1 - J.s) (pad64 (hdB (newH J half at' b))) := ⟨_, rfl⟩
  rw [← hR]
  refine c_sub (RJO jp mp J.hd J.s vr :: ((MO mp vN vL vA vW M.ops M.fuse false :: B2) ++ F)) sbx ?_
  rw [← hB2]
  refine ww ?_
  refine c_cons (s_val (v_field 0 rfl (by kernel_rfl)) rfl rfl rfl ?_)
  refine c_cons (s_val (v_load rfl (Cel.head rfl) (by kernel_rfl)) rfl rfl rfl ?_)
  refine c_sub (B ++ (RJO jp mp J.hd J.s vr :: F)) sbx ?_
  refine c_cons (s_call (xs := [_]) rfl rfl rfl rfl rfl rfl (by kernel_rfl) (fun w hs => rhalf_c mp B M _ w _ _ hr7 hs) ?_)
  rintro e w' ⟨rfl, hs'⟩; refine a_ret ?_ hs'; clear hs'
  have hzn : half * jz M.now.length ≤ 2079 := by rcases (show half = 0 ∨ half = 1 by omega) with e | e <;> rw [e] <;> omega
  refine c_cons (s_val (v_mul rfl rfl (by rw [← Int.natCast_mul]; omega)) rfl rfl rfl ?_)
  rw [← Int.natCast_mul]
  refine c_cons (s_val (v_add rfl rfl (by omega)) rfl rfl rfl ?_)
  refine ww ?_
  rw [show (2 : Int) + ((half * jz M.now.length : Nat) : Int) + (at' : Int) = (p : Int) by omega]
  refine c_loop (α := Nat × Im × Dk × Hp) (fun x => [(0, Pt jp 0), (2, I64 (half : Int)), (3, I64 (at' : Int)), (10, .slice ad7 (jk b.length) c7), (11, I64 (p : Int)), (12, I64 (x.1 : Int))]) (fun x => x.2.1) (fun x => x.2.2.2 ++ (RJO jp mp J.hd J.s vr :: F)) (fun x => x.1 ≤ jk b.length ∧ Im.le G7 x.2.1 ∧ MH x.2.1 mp x.2.2.1 x.2.2.2 ∧ putsS M p (secsL b) = putsS x.2.2.1 (p + x.1) ((secsL b).drop x.1) ∧ x.2.2.1.ops ≤ M.ops + x.1 ∧ x.2.2.1.since.length ≤ M.since.length + x.1 ∧ x.2.2.1.now.length = M.now.length ∧ Gd x.2.2.1) (fun x => jk b.length - x.1) (0, G7, M, B) ⟨Nat.zero_le _, Im.le_refl _, hr7, by rw [List.drop_zero]; rfl, by dsimp only; omega, by dsimp only; omega, rfl, hgd⟩ ?_ ?_
  · exact n_at ⟨rfl, rfl, rfl, rfl, rfl, rfl, trivial⟩ sbx
  rintro ⟨i, Gi, Mi, Bi⟩ ⟨hi, hGi, hri, hpu, hop, hsi, hnl, hgi⟩
  dsimp only at hi hGi hri hpu hop hsi hnl hgi ⊢
  refine ww ?_
  refine c_cond_d rfl (fun c6 => ?_) (fun c6 => ?_)
  · -- then
    have hik : i < jk b.length := by omega
    have hcons : (secsL b).drop i = secAt b i :: (secsL b).drop (i + 1) := by
      rw [List.drop_eq_getElem_cons (by rw [secsL_len]; exact hik)]
      congr 1
      simp [secsL]
    have hsx : (secAt b i).length = 64 := pad64_len _
    have hrow : (secsL b)[i]? = some (secAt b i) := by unfold secsL; rw [List.getElem?_map, List.getElem?_range hik]; rfl
    obtain ⟨bs, os, cs, us, hv7, hcel, hus⟩ := hu7.row hrow
    rw [secsL_len] at hv7
    cases hv7
    rw [hcons, puts_cons] at hpu
    refine ww ?_
    refine r_startS [RJO jp mp J.hd J.s vr] [] (by kernel_rfl) (fun w h => h.sb) ?_
    refine r_tk 0 rfl rfl (v_move rfl) (fun _ h => (h.sb)) ?_
    refine r_tk 1 rfl rfl (v_nilCheck rfl) (fun _ h => (h.sb)) ?_
    refine r_tk 2 rfl rfl (v_field 0 rfl (by kernel_rfl)) (fun _ h => (h.sb)) ?_
    refine r_tk 3 rfl rfl (v_load rfl (Cel.head rfl) (by kernel_rfl)) (fun _ h => (h.sb)) ?_
    refine r_tk 4 rfl rfl (v_move rfl) (fun _ h => (h.sb)) ?_
    refine r_tk 5 rfl rfl (v_move rfl) (fun _ h => (h.sb)) ?_
    refine r_tk 6 rfl rfl (v_add rfl rfl (by omega)) (fun _ h => (h.sb)) ?_
    refine r_tk 7 rfl rfl (v_move rfl) (fun _ h => (h.sb)) ?_
    refine r_tk 8 rfl rfl (v_move rfl) (fun _ h => (h.sb)) ?_
    refine r_tk 9 rfl rfl (v_index1 rfl rfl (by kernel_rfl) (by omega)) (fun _ h => (h.sb)) ?_
    refine r_tk 10 rfl rfl (v_load rfl (hcel _ _ hGi) (by kernel_rfl)) (fun _ h => (h.sb)) ?_
    rw [show (p : Int) + (i : Int) = ((p + i : Nat) : Int) by omega]
    refine r_one 11 (by kernel_rfl) rfl ?_
    refine s_call (xs := [_, _, _]) rfl rfl rfl rfl rfl rfl (by kernel_rfl) (fun w hs => rwrite_c mp Bi Mi ((p + i : Nat) : Int) us (secAt b i) (by omega) (by omega) (by omega) _ w _ _ hri (hus.up hGi) hs) ?_
    have hgr := write_grow Mi ((p + i : Nat) : Int) (secAt b i)
    have hgw := write_gd Mi ((p + i : Nat) : Int) (secAt b i) hgi
    generalize writeS Mi ((p + i : Nat) : Int) (secAt b i) = W at hpu hgr hgw ⊢
    rintro e w' ⟨G8, B8', rfl, hG8, hr8, hs'⟩; refine a_ret ?_ hs'; clear hs'
    refine r_next (fun w h => ((h.weaken hG8).sb)) ?_
    refine r_tk 12 rfl rfl (v_assign rfl) (fun _ h => ((h.weaken hG8).sb)) ?_
    refine r_done (by kernel_rfl) ?_
    refine ww ?_
    refine c_cond_d rfl (fun c7 => ?_) (fun c7 => ?_)
    · -- then
      rw [if_neg c7] at hpu
      have e : R = W := by rw [hR, hpu]; exact thenSync_ne c7 _ _
      rw [e]
      unfold okH okS
      rw [if_neg c7, if_neg c7]
      refine ww ?_
      exact f_ret1 rfl rfl (fun w hs => ⟨G8, B8', hGb.trans (hGi.trans hG8), rfl, hr8, hs.sb⟩)
    rw [if_pos (by omega)] at hpu
    refine ww ?_
    exact n_next (x := (i, Gi, Mi, Bi)) (i + 1, G8, W.1, B8') ⟨hik, hGi.trans hG8, hr8, by rw [hpu, Nat.add_assoc], by dsimp only; omega, by dsimp only; omega, by dsimp only; omega, hgw⟩ (by dsimp only; omega) ⟨rfl, rfl, rfl, rfl, rfl, rfl, trivial⟩ rfl sbx
  have hie : i = jk b.length := by omega
  rw [hie, List.drop_of_length_le (by rw [secsL_len]; exact Nat.le_refl _)] at hpu
  change putsS M p (secsL b) = (Mi, 0) at hpu
  have e1 : R = headS (syncS Mi) (1 - J.s) (pad64 (hdB (newH J half at' b))) := by
    rw [hR, hpu]; rfl
  refine c_sub (RJO jp mp J.hd J.s vr :: (Bi ++ F)) sbx ?_
  refine ww ?_
  refine c_cons (s_val (v_field 1 rfl (by kernel_rfl)) rfl rfl rfl ?_)
  refine c_cons (s_val (v_field 0 rfl (by kernel_rfl)) rfl rfl rfl ?_)
  refine c_cons (s_val (v_load rfl (Cel.head rfl) (by kernel_rfl)) rfl rfl rfl ?_)
  refine c_cons (s_val (v_add rfl rfl (by omega)) rfl rfl rfl ?_)
  refine ww ?_
  refine c_cons (s_val (v_build (ps := [_, _, _]) #[I64 (J.hd.g + 1), I64 half, I64 (at' + jk b.length)] rfl (by kernel_rfl)) rfl rfl rfl ?_)
  refine c_cons (s_allocA [I64 0, I64 0, I64 0] (by kernel_rfl) rfl rfl fun b7 => ?_)
  refine c_cons (s_storeA (vs := [I64 (J.hd.g + 1), I64 half, I64 (at' + jk b.length)]) rfl rfl rfl .head (by kernel_rfl) (by simp [Value.oneCell']) rfl ?_)
  refine c_freeze .head fun G9 hG9 k9 => ?_
  change G9 b7 = some (Cs [I64 (newH J half at' b).g, I64 (newH J half at' b).h, I64 (newH J half at' b).e] _) at k9
  obtain ⟨nh, hnh2⟩ : ∃ nh, nh = newH J half at' b := ⟨_, rfl⟩
  rw [← hnh2] at hgn e1 k9
  obtain ⟨x, hx⟩ : ∃ x, x = pad64 (hdB nh) := ⟨_, rfl⟩
  have hx64 : x.length = 64 := by rw [hx]; exact pad64_len _
  rw [← hx] at e1
  have hri9 := hri.up hG9
  have hGc := hGb.trans (hGi.trans hG9)
  refine ww ?_
  refine c_cons (s_val (v_field 0 rfl (by kernel_rfl)) rfl rfl rfl ?_)
  refine c_cons (s_val (v_load rfl (Cel.head rfl) (by kernel_rfl)) rfl rfl rfl ?_)
  refine c_sub (Bi ++ (RJO jp mp J.hd J.s vr :: F)) sbx ?_
  refine c_cons (s_call (xs := [_]) rfl rfl rfl rfl rfl rfl (by kernel_rfl) (fun w hs => rsync_c mp Bi Mi (by omega) _ w _ _ hri9 hs) ?_)
  rw [rsync_eq hgi]
  have hgs := sync_grow Mi
  have hgg := sync_gd Mi hgi
  generalize syncS Mi = S at e1 hgs hgg ⊢
  rintro e w' ⟨Ga, Ba, rfl, hGa, hra, hs'⟩; refine a_ret ?_ hs'; clear hs'
  replace k9 := hGa _ _ k9
  have hGd := hGc.trans hGa
  refine ww ?_
  refine c_cond_d rfl (fun c8 => ?_) (fun c8 => ?_)
  rotate_left
  · -- dead
    have e : R = S := by rw [e1]; unfold headS; rw [if_neg c8]
    rw [e]
    unfold okH okS
    rw [if_neg c8, if_neg c8]
    refine ww ?_
    refine c_cond_d rfl (fun c => absurd c c8) (fun _ => ?_)
    refine ww ?_
    refine c_cond_d rfl (fun _ => ?_) (fun c => absurd c8 c)
    refine ww ?_
    exact f_ret1 rfl rfl (fun w hs => ⟨Ga, Ba, hGd, rfl, hra, hs.sb⟩)
  have e2 : R = if (writeS S.1 (1 - J.s) x).2 = 0 then syncS (writeS S.1 (1 - J.s) x).1 else writeS S.1 (1 - J.s) x := by rw [e1]; unfold headS; rw [if_pos (by omega)]
  refine c_sub (RJO jp mp J.hd J.s vr :: (Ba ++ F)) sbx ?_
  refine ww ?_
  refine r_startS [RJO jp mp J.hd J.s vr] [] (by kernel_rfl) (fun w h => h.sb) ?_
  refine r_tk 0 rfl rfl (v_move rfl) (fun _ h => (h.sb)) ?_
  refine r_tk 1 rfl rfl (v_nilCheck rfl) (fun _ h => (h.sb)) ?_
  refine r_tk 2 rfl rfl (v_field 0 rfl (by kernel_rfl)) (fun _ h => (h.sb)) ?_
  refine r_tk 3 rfl rfl (v_load rfl (Cel.head rfl) (by kernel_rfl)) (fun _ h => (h.sb)) ?_
  refine r_tk 4 rfl rfl (v_move rfl) (fun _ h => (h.sb)) ?_
  refine r_tk 5 rfl rfl (v_nilCheck rfl) (fun _ h => (h.sb)) ?_
  refine r_tk 6 rfl rfl (v_field 4 rfl (by kernel_rfl)) (fun _ h => (h.sb)) ?_
  refine r_tk 7 rfl rfl (v_load rfl (Cel.head rfl) (by kernel_rfl)) (fun _ h => (h.sb)) ?_
  refine r_tk 8 rfl rfl (v_sub rfl rfl (by omega)) (fun _ h => (h.sb)) ?_
  refine r_tk 9 rfl rfl (v_loadAgg (vs := [I64 nh.g, I64 nh.h, I64 nh.e]) rfl (by kernel_rfl) (by kernel_rfl) rfl (fun j u hj => (Cel.allI k9 hj))) (fun _ h => (h.sb)) ?_
  refine r_one 10 (by kernel_rfl) rfl ?_
  refine s_call (xs := [_]) rfl rfl rfl rfl rfl rfl (by kernel_rfl) (fun w hs => rheadB_c nh hgn _ w _ _ hs) ?_
  rw [← hx]
  rintro e w' ⟨Gb2, u10, rfl, hGb2, hu10, hs'⟩; refine a_ret ?_ hs'; clear hs'
  refine r_next (fun w h => ((h.weaken hGb2).sb)) ?_
  refine c_sub (Ba ++ (RJO jp mp J.hd J.s vr :: F)) sbx ?_
  refine r_one 11 (by kernel_rfl) rfl ?_
  refine s_call (xs := [_, _, _]) rfl rfl rfl rfl rfl rfl (by kernel_rfl) (fun w hs => rwrite_c mp Ba S.1 (1 - J.s) u10 x (by omega) (by omega) (by omega) _ w _ _ (hra.up hGb2) hu10 hs) ?_
  have hgw := write_grow S.1 (1 - J.s) x
  have hgh := write_gd S.1 (1 - J.s) x hgg
  generalize writeS S.1 (1 - J.s) x = W at e2 hgw hgh ⊢
  rintro e w' ⟨Gc2, Bc, rfl, hGc2, hrc, hs'⟩; refine a_ret ?_ hs'; clear hs'
  have hGx := hGb2.trans hGc2
  refine r_next (fun w h => ((h.weaken hGx).sb)) ?_
  refine r_tk 12 rfl rfl (v_assign rfl) (fun _ h => ((h.weaken hGx).sb)) ?_
  refine r_done (by kernel_rfl) ?_
  replace k9 := hGx _ _ k9
  have hGe := hGd.trans hGx
  refine ww ?_
  refine c_cond_d rfl (fun c9 => ?_) (fun c9 => ?_)
  rotate_left
  · rw [if_neg c9] at e2
    rw [e2]
    unfold okH okS
    rw [if_neg c9, if_neg c9]
    refine ww ?_
    refine c_cond_d rfl (fun _ => ?_) (fun c => absurd c9 c)
    refine ww ?_
    exact f_ret1 rfl rfl (fun w hs => ⟨Gc2, Bc, hGe, rfl, hrc, hs.sb⟩)
  rw [if_pos (by omega)] at e2
  refine c_sub (RJO jp mp J.hd J.s vr :: (Bc ++ F)) sbx ?_
  refine ww ?_
  refine c_cons (s_val (v_field 0 rfl (by kernel_rfl)) rfl rfl rfl ?_)
  refine c_cons (s_val (v_load rfl (Cel.head rfl) (by kernel_rfl)) rfl rfl rfl ?_)
  refine c_sub (Bc ++ (RJO jp mp J.hd J.s vr :: F)) sbx ?_
  refine c_cons (s_call (xs := [_]) rfl rfl rfl rfl rfl rfl (by kernel_rfl) (fun w hs => rsync_c mp Bc W.1 (by omega) _ w _ _ hrc hs) ?_)
  rw [rsync_eq hgh, ← e2]
  rintro e w' ⟨Gf, Bf, rfl, hGf, hrf, hs'⟩; refine a_ret ?_ hs'; clear hs'
  replace k9 := hGf _ _ k9
  have hGz := hGe.trans hGf
  refine ww ?_
  refine c_cond_d rfl (fun c10 => ?_) (fun c10 => ?_)
  · -- then
    unfold okH okS
    rw [if_neg c10, if_neg c10]
    refine ww ?_
    exact f_ret1 rfl rfl (fun w hs => ⟨Gf, Bf, hGz, rfl, hrf, hs.sb⟩)
  have hR0 : R.2 = 0 := by omega
  unfold okH okS
  rw [if_pos hR0, if_pos hR0, hR0, ← hnh2]
  refine c_sub (RJO jp mp J.hd J.s vr :: (Bf ++ F)) sbx ?_
  refine ww ?_
  refine c_cons (s_val (v_loadAgg (vs := [I64 nh.g, I64 nh.h, I64 nh.e]) rfl (by kernel_rfl) (by kernel_rfl) rfl (fun j u hj => (Cel.allI k9 hj))) rfl rfl rfl ?_)
  refine ww ?_
  refine c_cons (s_val (v_field 1 rfl (by kernel_rfl)) rfl rfl rfl ?_)
  refine c_cons (s_storeAt (vs := [I64 nh.g, I64 nh.h, I64 nh.e]) rfl rfl rfl .head (by kernel_rfl) (by simp [Value.oneCell']) (by simp) ?_)
  change Holds _ _ _ _ _ (RJO jp mp nh J.s vr :: (Bf ++ F)) _
  refine ww ?_
  refine c_cons (s_val (v_field 4 rfl (by kernel_rfl)) rfl rfl rfl ?_)
  refine c_cons (s_val (v_load rfl (Cel.head rfl) (by kernel_rfl)) rfl rfl rfl ?_)
  refine c_cons (s_val (v_sub rfl rfl (by omega)) rfl rfl rfl ?_)
  refine ww ?_
  refine c_cons (s_val (v_field 4 rfl (by kernel_rfl)) rfl rfl rfl ?_)
  refine c_cons (s_store1 rfl rfl rfl .head (by kernel_rfl) rfl (by simp) ?_)
  change Holds _ _ _ _ _ (RJO jp mp nh (1 - J.s) vr :: (Bf ++ F)) _
  refine ww ?_
  exact f_ret1 rfl rfl (fun w hs => ⟨Gf, Bf, hGz, rfl, hrf, hs⟩)
end

section
open Go
set_option linter.unusedVariables false
set_option linter.unusedSimpArgs false
set_option maxHeartbeats 3200000
attribute [local irreducible] Code.wp wpList stepK Holds Val wpR Eff Eff0 Code.wpIn wpListIn stepI Exit.then Exit.inBlock bodyPost bodyPostM

theorem rjappend_c (jp mp : Nat) (B Bj : Hp) (M : Dk) (hgd : Gd M) (hl : 6 ≤ M.now.length ∧ M.now.length ≤ 4160) (J : Jn) (hW : WJ M.now.length J) (vb : Value) (b : List UInt8) (hbl : b.length ≤ 1000000)
    (hsm : M.since.length < 990000) (ho : M.ops < 990000) (w0 w : World) (G : Im) (F : Hp) (hr : MH G mp M B) (hj : RJH G jp mp J Bj) (hvb : SV G [] vb b.length (b.map B8)) (hs : Sat w0 w G (Bj ++ (B ++ F))) :
    Calls Try.prog 25 #[Pt jp 0, vb] w fun e w' => ∃ G' B' Bj', Im.le G G' ∧ e = .returned (I64 (appS M J b).2) ∧ MH G' mp (appS M J b).1 B' ∧ RJH G' jp mp (appJ M J b) Bj' ∧ Sat w0 w' G' (Bj' ++ (B' ++ F)) := by
  obtain ⟨vr, Br, rfl, hro⟩ := hj
  obtain ⟨⟨⟨g, h, e⟩, s, rows⟩, rfl⟩ : ∃ J', J' = J := ⟨J, rfl⟩
  obtain ⟨hg, hh, he, hs01, hn, hrr⟩ := hW
  have hg0 := hg
  obtain ⟨hg1, hg2, hg3⟩ := hg0
  dsimp only at hh he hs01 hg1 hg2 hg3 hn hrr hro
  obtain ⟨hn', rfl⟩ : ∃ x : Nat, h = x := ⟨h.toNat, by omega⟩
  obtain ⟨en, rfl⟩ : ∃ x : Nat, e = x := ⟨e.toNat, by omega⟩
  obtain ⟨J, hJ⟩ : ∃ J : Jn, J = ⟨⟨g, hn', en⟩, s, rows⟩ := ⟨_, rfl⟩
  have hJh : J.hd.h = hn' := by rw [hJ]
  have hJe : J.hd.e = en := by rw [hJ]
  have hJs : J.s = s := by rw [hJ]
  have hJhd : J.hd = ⟨g, hn', en⟩ := by rw [hJ]
  have hJg : gdJ J.hd := by rw [hJ]; exact hg
  have hJs01 : J.s = 0 ∨ J.s = 1 := by rw [hJ]; exact hs01
  have hh1 : hn' ≤ 1 := by omega
  have hee : en ≤ jz M.now.length := by omega
  have hJr : J.rows = rows := by rw [hJ]
  rw [← hJ]
  have hap : appS M J b = layS M J hn' en b := by unfold appS; rw [hJh, hJe]
  have haj : appJ M J b = if (layS M J hn' en b).2 = 0 then newJ J hn' en b else J := by unfold appJ; rw [hap, hJh, hJe]
  rw [hap, haj]
  change Sat w0 w G ((RJO jp mp ⟨g, hn', en⟩ s vr :: Br) ++ (B ++ F)) at hs
  refine f_enter (vs := [_, _]) Try.func25 rfl Try.ntmps25 (by simp) (hs.sb : Sat w0 w G (RJO jp mp ⟨g, hn', en⟩ s vr :: (B ++ (Br ++ F)))) ?_
  refine wn ?_
  refine c_seq ?_
  refine wn ?_
  -- lay
  refine c_cut (α := Im × Hp) (fun x => [(0, Pt jp 0), (1, vb), (5, I64 (layS M J hn' en b).2)]) (fun x => x.1) (fun x => RJO jp mp (okH J hn' en b (layS M J hn' en b).2) (okS J (layS M J hn' en b).2) vr :: (x.2 ++ (Br ++ F))) (fun x => Im.le G x.1 ∧ MH x.1 mp (layS M J hn' en b).1 x.2) ?_ ?_
  · refine ww ?_
    refine r_startS [] [] (by kernel_rfl) (fun w h => h.none) ?_
    refine r_tk 0 rfl rfl (v_move rfl) (fun _ h => h.none) ?_
    refine r_tk 1 rfl rfl (v_move rfl) (fun _ h => h.none) ?_
    refine r_tk 2 rfl rfl (v_move rfl) (fun _ h => h.none) ?_
    refine r_tk 3 rfl rfl (v_nilCheck rfl) (fun _ h => h.none) ?_
    refine r_tk 4 rfl rfl (v_field 1 rfl (by kernel_rfl)) (fun _ h => h.none) ?_
    refine r_tk 5 rfl rfl (v_field 1 rfl (by kernel_rfl)) (fun _ h => h.none) ?_
    refine r_tk 7 rfl rfl (v_move rfl) (fun _ h => h.none) ?_
    refine r_tk 8 rfl rfl (v_nilCheck rfl) (fun _ h => h.none) ?_
    refine r_tk 9 rfl rfl (v_field 1 rfl (by kernel_rfl)) (fun _ h => h.none) ?_
    refine r_tk 10 rfl rfl (v_field 2 rfl (by kernel_rfl)) (fun _ h => h.none) ?_
    refine r_two 6 11 (by kernel_rfl) rfl rfl ?_ ?_
    · refine s_val (v_load rfl (Cel.head rfl) (by kernel_rfl)) rfl rfl rfl ?_
      refine r_next (fun w h => h.none) ?_
      refine r_one 11 (by kernel_rfl) rfl ?_; refine s_val (v_load rfl (Cel.head rfl) (by kernel_rfl)) rfl rfl rfl ?_; refine r_next (fun w h => h.none) ?_
      refine r_one 12 (by kernel_rfl) rfl ?_
      refine s_call (xs := [_, _, _, _]) rfl rfl rfl rfl rfl rfl (by kernel_rfl) (fun w hs => rput_c jp mp B M hgd hl J hJg hJs01 vr hn' en hh1 hee vb b hbl hsm ho _ w _ _ hr hvb (by rw [hJhd, hJs]; exact hs)) ?_
      rintro e w' ⟨G5, B5, hG5, rfl, hr5, hs'⟩; refine a_ret ?_ hs'; clear hs'
      refine r_next (fun w h => (h.weaken hG5).none) ?_
      refine r_tk 13 rfl rfl (v_assign rfl) (fun _ h => (h.weaken hG5).none) ?_
      refine r_done (by kernel_rfl) ?_
      refine ww ?_
      exact n_mid (G5, B5) ⟨hG5, hr5⟩ ⟨rfl, rfl, rfl, trivial⟩ rfl sbx
    · refine s_val (v_load rfl (Cel.head rfl) (by kernel_rfl)) rfl rfl rfl ?_
      refine r_next (fun w h => h.none) ?_
      refine r_one 6 (by kernel_rfl) rfl ?_; refine s_val (v_load rfl (Cel.head rfl) (by kernel_rfl)) rfl rfl rfl ?_; refine r_next (fun w h => h.none) ?_
      refine r_one 12 (by kernel_rfl) rfl ?_
      refine s_call (xs := [_, _, _, _]) rfl rfl rfl rfl rfl rfl (by kernel_rfl) (fun w hs => rput_c jp mp B M hgd hl J hJg hJs01 vr hn' en hh1 hee vb b hbl hsm ho _ w _ _ hr hvb (by rw [hJhd, hJs]; exact hs)) ?_
      rintro e w' ⟨G5, B5, hG5, rfl, hr5, hs'⟩; refine a_ret ?_ hs'; clear hs'
      refine r_next (fun w h => (h.weaken hG5).none) ?_
      refine r_tk 13 rfl rfl (v_assign rfl) (fun _ h => (h.weaken hG5).none) ?_
      refine r_done (by kernel_rfl) ?_
      refine ww ?_
      exact n_mid (G5, B5) ⟨hG5, hr5⟩ ⟨rfl, rfl, rfl, trivial⟩ rfl sbx
  rintro ⟨G5, B5⟩ ⟨hG5, hr5⟩
  dsimp only at hG5 hr5 ⊢
  replace hro := hro.up hG5
  replace hvb := hvb.mono (H' := []) hG5 (fun p hp => hp)
  generalize hR : layS M J hn' en b = R at hr5 ⊢
  obtain ⟨D1, c⟩ := R
  dsimp only at hr5 ⊢
  refine ww ?_
  refine c_cond_d rfl (fun c3 => ?_) (fun c3 => ?_)
  · -- kept
    have c3' : c = 0 := by omega
    subst c3'
    have enj : (newJ J hn' en b).rows = rows ++ [b] := by unfold newJ; rw [hJh, if_pos rfl, hJr]
    rw [if_pos rfl]
    unfold okH okS
    rw [if_pos rfl, if_pos rfl]
    obtain ⟨nh, hnh⟩ : ∃ nh, nh = newH J hn' en b := ⟨_, rfl⟩
    have enh : (newJ J hn' en b).hd = nh := by rw [hnh]; rfl
    have ens : (newJ J hn' en b).s = 1 - J.s := rfl
    rw [← hnh]
    obtain ⟨vs, how, hit⟩ := hro
    have hvl := hit.1
    refine ww ?_
    refine r_startS [RJO jp mp nh (1 - J.s) vr] [11] (by kernel_rfl) (fun w h => h.sb) ?_
    refine r_tk 0 rfl rfl (v_move rfl) (fun _ h => (h.sb)) ?_
    refine r_tk 1 rfl rfl (v_move rfl) (fun _ h => (h.sb)) ?_
    refine r_tk 2 rfl rfl (v_nilCheck rfl) (fun _ h => (h.sb)) ?_
    refine r_tk 3 rfl rfl (v_field 5 rfl (by kernel_rfl)) (fun _ h => (h.sb)) ?_
    refine r_tk 4 rfl rfl (v_load rfl (Cel.head rfl) (by kernel_rfl)) (fun _ h => (h.sb)) ?_
    refine r_tk 5 rfl rfl (v_move rfl) (fun _ h => (h.sb)) ?_
    refine r_one 6 (by kernel_rfl) rfl ?_
    refine s_call (xs := [_]) rfl rfl rfl rfl rfl rfl (by kernel_rfl) (fun w hs => copy_c vb b _ w _ _ hvb hbl hs) ?_
    rintro e w' ⟨G6, u, rfl, hG6, hu, hs'⟩; refine a_ret ?_ hs'; clear hs'
    refine r_next (fun w h => ((h.weaken hG6).sb)) ?_
    refine r_one 7 (by kernel_rfl) rfl ?_
    refine s_lit (z := .slice none 0 0) (bs := 24) (e := 31) [_] (by kernel_rfl) rfl rfl rfl rfl (by simpa using hu.one) rfl (by decide) fun b6 => ?_
    refine r_next (fun w h => ((h.weaken hG6).sb)) ?_
    refine r_one 8 (by kernel_rfl) rfl ?_
    refine c_sub ((b6, Cs [u] 31) :: (Br ++ (RJO jp mp nh (1 - J.s) vr :: (B5 ++ F)))) sbx ?_
    refine s_append (e := 31) (z := .slice none 0 0) (sz := 1) (bs := 24) (by kernel_rfl) rfl rfl rfl rfl how (Chunk.tail Chunk.head) (SV.block .head (by simp [maxLen])) rfl (by decide) rfl (by simpa using hu.one) (by simp; omega) (by simp; omega) fun u7 B7 ho7 => ?_
    have hro7 : RO G6 u7 (rows ++ [b]) B7 := ⟨vs ++ [u], by rw [List.length_append]; exact ho7, (hit.mono hG6).snoc hu⟩
    have hu7 : u7.oneCell' = true := by obtain ⟨ad, c, e⟩ := ho7.form; rw [e]; rfl
    refine c_sub (RJO jp mp nh (1 - J.s) vr :: (B7 ++ (B5 ++ F))) sbx ?_
    refine r_next (fun w h => ((h.weaken hG6).sb)) ?_
    refine r_one 9 (by kernel_rfl) rfl ?_; refine s_val (v_nilCheck rfl) rfl rfl rfl ?_; refine r_next (fun w h => ((h.weaken hG6).sb)) ?_
    refine r_one 10 (by kernel_rfl) rfl ?_; refine s_val (v_field 5 rfl (by kernel_rfl)) rfl rfl rfl ?_; refine r_next (fun w h => ((h.weaken hG6).sb)) ?_
    refine r_one 11 (by kernel_rfl) rfl ?_
    refine s_store1 rfl rfl rfl .head (by kernel_rfl) hu7 (by simp) ?_
    change Holds _ _ _ _ _ (RJO jp mp nh (1 - J.s) u7 :: (B7 ++ (B5 ++ F))) _
    refine r_late rfl ?_
    refine r_done (by kernel_rfl) ?_
    refine ww ?_
    exact f_ret1 rfl rfl (fun w hs => ⟨G6, B5, RJO jp mp nh (1 - J.s) u7 :: B7, hG5.trans hG6, rfl, hr5.up hG6, ⟨u7, B7, by rw [enh, ens], by rw [enj]; exact hro7⟩, hs.sb⟩)
  rw [if_neg (by omega)]
  unfold okH okS
  rw [if_neg (by omega), if_neg (by omega), hJhd, hJs]
  refine ww ?_
  exact f_ret1 rfl rfl (fun w hs => ⟨G5, B5, RJO jp mp ⟨g, hn', en⟩ s vr :: Br, hG5, rfl, hr5, ⟨vr, Br, by rw [hJhd, hJs], by rw [hJr]; exact hro⟩, hs.sb⟩)

theorem rjreset_c (jp mp : Nat) (B Bj : Hp) (M : Dk) (hgd : Gd M) (hl : 6 ≤ M.now.length ∧ M.now.length ≤ 4160) (J : Jn) (hW : WJ M.now.length J) (vb : Value) (b : List UInt8) (hbl : b.length ≤ 1000000)
    (hsm : M.since.length < 990000) (ho : M.ops < 990000) (w0 w : World) (G : Im) (F : Hp) (hr : MH G mp M B) (hj : RJH G jp mp J Bj) (hvb : SV G [] vb b.length (b.map B8)) (hs : Sat w0 w G (Bj ++ (B ++ F))) :
    Calls Try.prog 26 #[Pt jp 0, vb] w fun e w' => ∃ G' B' Bj', Im.le G G' ∧ e = .returned (I64 (rstS M J b).2) ∧ MH G' mp (rstS M J b).1 B' ∧ RJH G' jp mp (rstJ M J b) Bj' ∧ Sat w0 w' G' (Bj' ++ (B' ++ F)) := by
  obtain ⟨vr, Br, rfl, hro⟩ := hj
  obtain ⟨⟨⟨g, h, e⟩, s, rows⟩, rfl⟩ : ∃ J', J' = J := ⟨J, rfl⟩
  obtain ⟨hg, hh, he, hs01, hn, hrr⟩ := hW
  have hg0 := hg
  obtain ⟨hg1, hg2, hg3⟩ := hg0
  dsimp only at hh he hs01 hg1 hg2 hg3 hn hrr hro
  obtain ⟨J, hJ⟩ : ∃ J : Jn, J = ⟨⟨g, h, e⟩, s, rows⟩ := ⟨_, rfl⟩
  have hJh : J.hd.h = h := by rw [hJ]
  have hJs : J.s = s := by rw [hJ]
  have hJhd : J.hd = ⟨g, h, e⟩ := by rw [hJ]
  have hJg : gdJ J.hd := by rw [hJ]; exact hg
  have hJs01 : J.s = 0 ∨ J.s = 1 := by rw [hJ]; exact hs01
  have hJr : J.rows = rows := by rw [hJ]
  rw [← hJ]
  obtain ⟨hn', hh'⟩ : ∃ x : Nat, (x : Int) = 1 - h := ⟨(1 - h).toNat, by omega⟩
  have hh1 : hn' ≤ 1 := by omega
  have hap : rstS M J b = layS M J (hn' : Int) ((0 : Nat) : Int) b := by unfold rstS; rw [hJh, hh']; rfl
  have haj : rstJ M J b = if (layS M J (hn' : Int) ((0 : Nat) : Int) b).2 = 0 then newJ J hn' 0 b else J := by unfold rstJ; rw [hap, hJh, hh']
  rw [hap, haj]
  change Sat w0 w G ((RJO jp mp ⟨g, h, e⟩ s vr :: Br) ++ (B ++ F)) at hs
  refine f_enter (vs := [_, _]) Try.func26 rfl Try.ntmps26 (by simp) (hs.sb : Sat w0 w G (RJO jp mp ⟨g, h, e⟩ s vr :: (B ++ (Br ++ F)))) ?_
  refine ww ?_
  refine c_cons (s_val (v_field 1 rfl (by kernel_rfl)) rfl rfl rfl ?_)
  refine c_cons (s_val (v_field 1 rfl (by kernel_rfl)) rfl rfl rfl ?_)
  refine c_cons (s_val (v_load rfl (Cel.head rfl) (by kernel_rfl)) rfl rfl rfl ?_)
  refine c_cons (s_val (v_sub rfl rfl (by dsimp only; omega)) rfl rfl rfl ?_)
  rw [show (1 : Int) - (⟨g, h, e⟩ : Jh).h = (hn' : Int) from hh'.symm]
  refine c_cons (s_call (xs := [_, _, _, _]) rfl rfl rfl rfl rfl rfl (by kernel_rfl) (fun w hs => rput_c jp mp B M hgd hl J hJg hJs01 vr hn' 0 hh1 (Nat.zero_le _) vb b hbl hsm ho _ w _ _ hr hvb (by rw [hJhd, hJs]; exact hs)) ?_)
  rintro e w' ⟨G5, B5, hG5, rfl, hr5, hs'⟩; refine a_ret ?_ hs'; clear hs'
  replace hvb := hvb.mono (H' := []) hG5 (fun p hp => hp)
  generalize hR : layS M J (hn' : Int) ((0 : Nat) : Int) b = R at hr5 ⊢
  obtain ⟨D1, c⟩ := R
  dsimp only at hr5 ⊢
  refine ww ?_
  refine c_cond_d rfl (fun c3 => ?_) (fun c3 => ?_)
  · -- kept
    have c3' : c = 0 := by omega
    subst c3'
    have enj : (newJ J hn' 0 b).rows = [b] := by unfold newJ; rw [hJh, if_neg (by omega)]; rfl
    rw [if_pos rfl]
    unfold okH okS
    rw [if_pos rfl, if_pos rfl]
    obtain ⟨nh, hnh⟩ : ∃ nh, nh = newH J hn' ((0 : Nat) : Int) b := ⟨_, rfl⟩
    have enh : (newJ J hn' 0 b).hd = nh := by rw [hnh]; rfl
    have ens : (newJ J hn' 0 b).s = 1 - J.s := rfl
    rw [← hnh]
    refine ww ?_
    refine c_cons (s_call (xs := [_]) rfl rfl rfl rfl rfl rfl (by kernel_rfl) (fun w hs => copy_c vb b _ w _ _ hvb hbl hs) ?_)
    rintro e w' ⟨G6, u, rfl, hG6, hu, hs'⟩; refine a_ret ?_ hs'; clear hs'
    refine ww ?_
    refine c_cons (s_lit (z := .slice none 0 0) (bs := 24) (e := 31) [_] (by kernel_rfl) rfl rfl rfl rfl (by simpa using hu.one) rfl (by decide) fun b6 => ?_)
    refine ww ?_
    refine c_sub (RJO jp mp nh (1 - J.s) vr :: (b6, Cs [u] 31) :: (B5 ++ F)) sbx ?_
    refine c_cons (s_val (v_field 5 rfl (by kernel_rfl)) rfl rfl rfl ?_)
    refine c_cons (s_store1 rfl rfl rfl .head (by kernel_rfl) rfl (by simp) ?_)
    change Holds _ _ _ _ _ (RJO jp mp nh (1 - J.s) _ :: (b6, Cs [u] 31) :: (B5 ++ F)) _
    refine ww ?_
    refine f_ret1 rfl rfl (fun w hs => ⟨G6, B5, [RJO jp mp nh (1 - J.s) (Sl b6 0 [u].length [u].length), (b6, Cs [u] 31)], hG5.trans hG6, rfl, hr5.up hG6, ⟨_, [(b6, Cs [u] 31)], by rw [enh, ens], ?_⟩, hs.sb⟩)
    rw [enj]
    exact ⟨[u], Own.full rfl (by simp [maxLen]), (Items.zero G6).snoc hu⟩
  rw [if_neg (by omega)]
  unfold okH okS
  rw [if_neg (by omega), if_neg (by omega), hJhd, hJs]
  refine ww ?_
  exact f_ret1 rfl rfl (fun w hs => ⟨G5, B5, RJO jp mp ⟨g, h, e⟩ s vr :: Br, hG5, rfl, hr5, ⟨vr, Br, by rw [hJhd, hJs], by rw [hJr]; exact hro.up hG5⟩, hs.sb⟩)

theorem rjroom_c (jp mp : Nat) (B Bj : Hp) (M : Dk) (hl : 6 ≤ M.now.length ∧ M.now.length ≤ 4160) (J : Jn) (hg : gdJ J.hd)
    (w0 w : World) (G : Im) (F : Hp) (hr : MH G mp M B) (hj : RJH G jp mp J Bj) (hs : Sat w0 w G (Bj ++ (B ++ F))) :
    Calls Try.prog 28 #[Pt jp 0] w fun e w' => e = .returned (I64 (roomS M.now.length J.hd.e)) ∧ Sat w0 w' G (Bj ++ (B ++ F)) := by
  obtain ⟨vr, Br, rfl, hro⟩ := hj
  obtain ⟨hg1, hg2, hg3⟩ := hg
  have hz : jz M.now.length ≤ 2079 := by unfold jz; omega
  obtain ⟨hd, s, rows⟩ := J
  obtain ⟨g, h, e⟩ := hd
  dsimp only at hg1 hg2 hg3 hro ⊢
  change Sat w0 w G ((RJO jp mp ⟨g, h, e⟩ s vr :: Br) ++ (B ++ F)) at hs
  refine f_enter (vs := [_]) Try.func28 rfl Try.ntmps28 (by simp) hs ?_
  refine ww ?_
  refine r_startS [RJO jp mp ⟨g, h, e⟩ s vr] [] (by kernel_rfl) (fun w h => h.sb) ?_
  refine r_tk 0 rfl rfl (v_move rfl) (fun _ h => (h.sb)) ?_
  refine r_tk 1 rfl rfl (v_nilCheck rfl) (fun _ h => (h.sb)) ?_
  refine r_tk 2 rfl rfl (v_field 0 rfl (by kernel_rfl)) (fun _ h => (h.sb)) ?_
  refine r_tk 3 rfl rfl (v_load rfl (Cel.head rfl) (by kernel_rfl)) (fun _ h => (h.sb)) ?_
  refine r_tk 5 rfl rfl (v_move rfl) (fun _ h => (h.sb)) ?_
  refine r_tk 6 rfl rfl (v_nilCheck rfl) (fun _ h => (h.sb)) ?_
  refine r_tk 7 rfl rfl (v_field 1 rfl (by kernel_rfl)) (fun _ h => (h.sb)) ?_
  refine r_tk 8 rfl rfl (v_field 2 rfl (by kernel_rfl)) (fun _ h => (h.sb)) ?_
  refine r_tk 9 rfl rfl (v_load rfl (Cel.head rfl) (by kernel_rfl)) (fun _ h => (h.sb)) ?_
  refine c_sub (B ++ (RJO jp mp ⟨g, h, e⟩ s vr :: (Br ++ F))) sbx ?_
  refine r_one 4 (by kernel_rfl) rfl ?_
  refine s_call (xs := [_]) rfl rfl rfl rfl rfl rfl (by kernel_rfl) (fun w hs => rhalf_c mp B M _ w _ _ hr hs) ?_
  rintro e w' ⟨rfl, hs'⟩; refine a_ret ?_ hs'; clear hs'
  refine r_next (fun w h => (h.sb)) ?_
  refine r_tk 10 rfl rfl (v_sub rfl rfl (by dsimp only; omega)) (fun _ h => (h.sb)) ?_
  refine r_tk 11 rfl rfl (v_mul rfl rfl (by dsimp only; omega)) (fun _ h => (h.sb)) ?_
  refine r_tk 12 rfl rfl (v_sub rfl rfl (by dsimp only; omega)) (fun _ h => (h.sb)) ?_
  refine r_tk 13 rfl rfl (v_max rfl rfl) (fun _ h => (h.sb)) ?_
  refine r_tk 14 rfl rfl (v_min rfl rfl) (fun _ h => (h.sb)) ?_
  refine r_tk 15 rfl rfl (v_assign rfl) (fun _ h => (h.sb)) ?_
  refine r_done (by kernel_rfl) ?_
  refine ww ?_
  refine f_ret1 rfl rfl (fun w hs => ⟨?_, (show Sat w0 w G ((RJO jp mp ⟨g, h, e⟩ s vr :: Br) ++ (B ++ F)) from hs.sb)⟩)
  unfold roomS
  dsimp only
  congr 2
  omega

theorem rformat_s (mp : Nat) (B : Hp) (M : Dk) (hl : M.now.length < 6) (w0 w : World) (G : Im) (F : Hp) (hr : MH G mp M B) (hs : Sat w0 w G (B ++ F)) :
    Calls Try.prog 24 #[Pt mp 0] w fun e w' => e = .returned (.tuple #[.pointer none, I64 1]) ∧ Sat w0 w' G (B ++ F) := by
  obtain ⟨vN, vL, vA, vW, B2, rfl, ad, c, rfl⟩ := hr.mo
  refine f_enter (vs := [_]) Try.func24 rfl Try.ntmps24 (by simp) hs ?_
  change Holds _ _ _ _ _ (MO mp (.slice ad M.now.length c) vL vA vW M.ops M.fuse M.dead :: (B2 ++ F)) _
  refine ww ?_
  refine c_cons (s_val (v_field 0 rfl (by kernel_rfl)) rfl rfl rfl ?_)
  refine c_cons (s_val (v_load rfl (Cel.head rfl) (by kernel_rfl)) rfl rfl rfl ?_)
  refine ww ?_
  refine c_cond_d rfl (fun c2 => ?_) (fun c2 => ?_)
  · refine ww ?_
    exact f_ret2 rfl rfl rfl (fun w hs => ⟨rfl, hs⟩)
  exfalso; omega
theorem rformat_c (mp : Nat) (B : Hp) (M : Dk) (hgd : Gd M) (hd : M.dead = false) (hl : 6 ≤ M.now.length ∧ M.now.length ≤ 4160) (hsm : M.since.length < 990000) (ho : M.ops < 990000) (hok : (fmtS M).2 = 0) (w0 w : World) (G : Im) (F : Hp) (hr : MH G mp M B) (hs : Sat w0 w G (B ++ F)) :
    Calls Try.prog 24 #[Pt mp 0] w fun e w' => ∃ G' B' jp Bj, Im.le G G' ∧ e = .returned (.tuple #[Pt jp 0, I64 0]) ∧ MH G' mp (fmtS M).1 B' ∧ RJH G' jp mp J0 Bj ∧ Sat w0 w' G' (Bj ++ (B' ++ F)) := by
  obtain ⟨vN, vL, vA, vW, B2, hB, ad, c, hvN⟩ := hr.mo
  refine f_enter (vs := [_]) Try.func24 rfl Try.ntmps24 (by simp) (show Sat w0 w G (MO mp vN vL vA vW M.ops M.fuse M.dead :: (B2 ++ F)) by rw [hB] at hs; exact hs) ?_
  rw [hvN]
  refine ww ?_
  refine c_cons (s_val (v_field 0 rfl (by kernel_rfl)) rfl rfl rfl ?_)
  refine c_cons (s_val (v_load rfl (Cel.head rfl) (by kernel_rfl)) rfl rfl rfl ?_)
  refine ww ?_
  refine c_cond_d rfl (fun c2 => ?_) (fun c2 => ?_)
  · exfalso; omega
  refine ww ?_
  refine c_cons (s_val (v_field 6 rfl (by kernel_rfl)) rfl rfl rfl ?_)
  refine c_cons (s_val (v_load rfl (Cel.head rfl) (by kernel_rfl)) rfl rfl rfl ?_)
  rw [hd] at hB ⊢
  refine ww ?_
  refine c_cond_f rfl ?_
  refine c_sub ((MO mp (.slice ad M.now.length c) vL vA vW M.ops M.fuse false :: B2) ++ F) sbx ?_
  rw [← hvN, ← hB]
  refine ww ?_
  refine c_cons (s_val (v_build (ps := [_]) #[I64 1, I64 0, I64 0] rfl (by kernel_rfl)) rfl rfl rfl ?_)
  refine c_cons (s_allocA [I64 0, I64 0, I64 0] (by kernel_rfl) rfl rfl fun b1 => ?_)
  refine c_cons (s_storeA (vs := [I64 1, I64 0, I64 0]) rfl rfl rfl .head (by kernel_rfl) (by simp [Value.oneCell']) rfl ?_)
  refine c_freeze .head fun G1 hG1 k1 => ?_
  refine ww ?_
  refine c_cons (s_make 5 (B8 0) 1 1 64 rfl rfl rfl rfl (by kernel_rfl) (by omega) (by omega) fun b2 => ?_)
  rw [show (madeCells (B8 0).cells (64 * 1)).toList = z64.map B8 from (toList_madeCells_one _ _).trans (by unfold z64; rw [List.map_replicate])]
  refine c_freeze .head fun G2 hG2 k2 => ?_
  have hz2 : SV G2 [] (Sl b2 0 64 64) z64.length (z64.map B8) := by rw [z64_len]; exact SV.block (.of_imm k2) (by decide)
  replace k1 := hG2 _ _ k1
  have hr2 := hr.up (hG1.trans hG2)
  refine c_cons (s_call (xs := [_, _, _]) rfl rfl rfl rfl rfl rfl (by kernel_rfl) (fun w hs => rwrite_c mp B M 1 _ z64 (by rw [z64_len]; decide) (by omega) (by omega) _ w _ _ hr2 hz2 hs) ?_)
  have hg1 := write_grow M 1 z64
  have hd1 := write_gd M 1 z64 hgd
  unfold fmtS at hok ⊢
  generalize writeS M 1 z64 = W1 at hg1 hd1 hok ⊢
  rintro e w' ⟨G3, B3, rfl, hG3, hr3, hs'⟩; refine a_ret ?_ hs'; clear hs'
  replace k1 := hG3 _ _ k1
  by_cases w1 : W1.2 = 0
  rotate_left
  · rw [if_neg w1] at hok; exact absurd hok w1
  rw [if_pos w1] at hok ⊢
  rw [w1]
  refine ww ?_
  refine c_cond_t rfl ?_
  refine ww ?_
  refine c_cons (s_val (v_loadAgg (vs := [I64 1, I64 0, I64 0]) rfl (by kernel_rfl) (by kernel_rfl) rfl (fun j u hj => (Cel.allI k1 hj))) rfl rfl rfl ?_)
  refine c_cons (s_call (xs := [_]) rfl rfl rfl rfl rfl rfl (by kernel_rfl) (fun w hs => rheadB_c ⟨1, 0, 0⟩ ⟨by decide, by decide, by decide⟩ _ w _ _ hs) ?_)
  obtain ⟨x, hx⟩ : ∃ x, x = pad64 (hdB ⟨1, 0, 0⟩) := ⟨_, rfl⟩
  have hx64 : x.length = 64 := by rw [hx]; exact pad64_len _
  rw [← hx] at hok ⊢
  rintro e w' ⟨G4, u4, rfl, hG4, hu4, hs'⟩; refine a_ret ?_ hs'; clear hs'
  refine c_cons (s_call (xs := [_, _, _]) rfl rfl rfl rfl rfl rfl (by kernel_rfl) (fun w hs => rwrite_c mp B3 W1.1 0 u4 x (by omega) (by omega) (by omega) _ w _ _ (hr3.up hG4) hu4 hs) ?_)
  have hg2 := write_grow W1.1 0 x
  have hd2 := write_gd W1.1 0 x hd1
  generalize writeS W1.1 0 x = W2 at hg2 hd2 hok ⊢
  rintro e w' ⟨G5, B5, rfl, hG5, hr5, hs'⟩; refine a_ret ?_ hs'; clear hs'
  replace k1 := hG5 _ _ (hG4 _ _ k1)
  by_cases w2 : W2.2 = 0
  rotate_left
  · rw [if_neg w2] at hok; exact absurd hok w2
  rw [if_pos w2] at hok ⊢
  rw [w2]
  refine ww ?_
  refine c_cond_t rfl ?_
  refine ww ?_
  refine c_cons (s_call (xs := [_]) rfl rfl rfl rfl rfl rfl (by kernel_rfl) (fun w hs => rsync_c mp B5 W2.1 (by omega) _ w _ _ hr5 hs) ?_)
  rw [rsync_eq hd2]
  generalize syncS W2.1 = W3 at hok ⊢
  rintro e w' ⟨G6, B6, rfl, hG6, hr6, hs'⟩; refine a_ret ?_ hs'; clear hs'
  replace k1 := hG6 _ _ k1
  rw [hok]
  refine ww ?_
  refine c_cond_f rfl ?_
  refine ww ?_
  refine c_cons (s_val (v_loadAgg (vs := [I64 1, I64 0, I64 0]) rfl (by kernel_rfl) (by kernel_rfl) rfl (fun j u hj => (Cel.allI k1 hj))) rfl rfl rfl ?_)
  refine c_cons (s_val (v_build (ps := [_, _]) #[Pt mp 0, I64 1, I64 0, I64 0, I64 0, .slice none 0 0] rfl (by kernel_rfl)) rfl rfl rfl ?_)
  refine c_cons (s_boxA [Pt mp 0, I64 1, I64 0, I64 0, I64 0, .slice none 0 0] rfl rfl rfl fun b9 => ?_)
  refine ww ?_
  exact f_ret2 rfl rfl rfl (fun w hs => ⟨G6, B6, b9, [RJO b9 mp ⟨1, 0, 0⟩ 0 (.slice none 0 0)], hG1.trans (hG2.trans (hG3.trans (hG4.trans (hG5.trans hG6)))), rfl, hr6, ⟨_, [], rfl, RO.zero _ _⟩, hs⟩)
end

section
open Go
set_option linter.unusedVariables false
set_option linter.unusedSimpArgs false
set_option maxHeartbeats 3200000
theorem Rows.row {G G' : Im} {bn c : Nat} {xs : List (List UInt8)} {BN H : Hp} (h : Rows G (Sl bn 0 xs.length c) xs BN) (hG : Im.le G G') (hB : ∀ p, p ∈ BN → p ∈ H) {i : Nat} {x : List UInt8} (hx : xs[i]? = some x) :
    ∃ u, SV G' [] u x.length (x.map B8) ∧ Cel G' H bn (0 + (i : Int).toNat) u := by
  obtain ⟨hi, rfl⟩ := List.getElem?_eq_some_iff.1 hx
  obtain ⟨b, c', u, hv, hu, hc⟩ := (show Rows G' (Sl bn 0 xs.length c) xs BN from h.up RowR.up hG).get hB i hi
  cases hv
  refine ⟨u, by simpa [hi] using hu, by rw [Int.toNat_natCast]; exact hc⟩
theorem SV.mid' {G : Im} {ad : Option Addr} {c n : Nat} {xs : List UInt8} (h : SV G [] (.slice ad xs.length c) xs.length (xs.map B8)) (hn : 3 + n ≤ xs.length) : SV G [] (slMid ad c 3 (3 + n) 1) ((xs.drop 3).take n).length (((xs.drop 3).take n).map B8) := by
  have h2 := h.mid (s := 1) (l := 3) (h := 3 + n) (by omega) hn
  simp only [Nat.mul_one, Nat.add_sub_cancel_left] at h2
  rw [show ((xs.drop 3).take n).length = n by rw [List.length_take, List.length_drop]; omega, List.map_take, List.map_drop]
  exact h2
attribute [local irreducible] Code.wp wpList stepK Holds Val wpR Eff Eff0 Code.wpIn wpListIn stepI Exit.then Exit.inBlock bodyPost bodyPostM

theorem ropen_c (mp : Nat) (B : Hp) (M : Dk) (hl : 6 ≤ M.now.length ∧ M.now.length ≤ 2000) (w0 w : World) (G : Im) (F : Hp) (hr : MH G mp M B) (hs : Sat w0 w G (B ++ F)) :
    Calls Try.prog 27 #[Pt mp 0] w fun e w' => ∃ G', Im.le G G' ∧
      ((M.dead = true ∧ e = .returned (.tuple #[.pointer none, I64 14]) ∧ Sat w0 w' G' (B ++ F)) ∨
       (M.dead = false ∧ openS M.now = none ∧ e = .returned (.tuple #[.pointer none, I64 4]) ∧ Sat w0 w' G' (B ++ F)) ∨
       (M.dead = false ∧ ∃ J jp Bj, openS M.now = some J ∧ e = .returned (.tuple #[Pt jp 0, I64 0]) ∧ RJH G' jp mp J Bj ∧ Sat w0 w' G' (Bj ++ (B ++ F)))) := by
  obtain ⟨vN, vL, vA, vW, BN, BL, BA, BW, hB, hrr⟩ := id hr
  obtain ⟨bn, cn, Ln, rfl, hcn, hcM, _, _, _⟩ := hrr.n.put (by omega)
  have h64 := hrr.n.n64
  obtain ⟨z1, z2⟩ := jz_le hl.1
  have hz9 : jz M.now.length ≤ 999 := by unfold jz; omega
  have hmo : (mp, Cs [Sl bn 0 M.now.length cn, vL, vA, vW, I64 M.ops, I64 M.fuse, .bool M.dead] 55) ∈ B := by rw [hB]; exact List.mem_cons_self ..
  have hcN : ∀ (G' : Im) (H : Hp), (∀ p, p ∈ B → p ∈ H) → Cel G' H mp (0 + 0) (Sl bn 0 M.now.length cn) := fun G' H h => Cel.mem (h _ hmo) rfl
  have hcD : ∀ (G' : Im) (H : Hp), (∀ p, p ∈ B → p ∈ H) → Cel G' H mp (0 + 6) (.bool M.dead) := fun G' H h => Cel.mem (h _ hmo) rfl
  have hrow : ∀ (G' : Im) (H : Hp), Im.le G G' → (∀ p, p ∈ B → p ∈ H) → ∀ (i : Nat) (x : List UInt8), M.now[i]? = some x → ∃ u, SV G' [] u x.length (x.map B8) ∧ Cel G' H bn (0 + (i : Int).toNat) u := fun G' H hG h i x hx => hrr.n.row hG (fun p hp => h p (by rw [hB]; simp [hp])) hx
  obtain ⟨x, hx⟩ : ∃ x, M.now[0]? = some x := ⟨_, List.getElem?_eq_getElem (by omega)⟩
  have hxd : M.now.getD 0 [] = x := by rw [List.getD, hx]; rfl
  have hx64 := h64 x (List.mem_of_getElem? hx)
  obtain ⟨y, hy⟩ : ∃ y, M.now[1]? = some y := ⟨_, List.getElem?_eq_getElem (by omega)⟩
  have hyd : M.now.getD 1 [] = y := by rw [List.getD, hy]; rfl
  have hy64 := h64 y (List.mem_of_getElem? hy)
  refine f_enter (vs := [_]) Try.func27 rfl Try.ntmps27 (by simp) hs ?_
  refine ww ?_
  refine c_cons (s_val (v_field 0 rfl (by kernel_rfl)) rfl rfl rfl ?_)
  refine c_cons (s_val (v_load rfl (hcN _ _ (fun p hp => by simp [hp])) (by kernel_rfl)) rfl rfl rfl ?_)
  refine ww ?_
  refine c_cond_d rfl (fun c2 => ?_) (fun c2 => ?_)
  · exfalso; omega
  refine ww ?_
  refine c_cons (s_val (v_field 6 rfl (by kernel_rfl)) rfl rfl rfl ?_)
  refine c_cons (s_val (v_load rfl (hcD _ _ (fun p hp => by simp [hp])) (by kernel_rfl)) rfl rfl rfl ?_)
  refine ww ?_
  by_cases hd : M.dead = true
  · rw [hd]
    refine c_cond_t rfl ?_
    refine ww ?_
    exact f_ret2 rfl rfl rfl (fun w hs => ⟨G, Im.le_refl _, .inl ⟨rfl, rfl, hs⟩⟩)
  have hdead : M.dead = false := by simpa using hd
  rw [hdead]
  refine c_cond_f rfl ?_
  -- the first head
  obtain ⟨ux, hux, hcx⟩ := hrow G (B ++ F) (Im.le_refl _) (fun p hp => by simp [hp]) 0 x hx
  have hux1 := hux.one
  refine ww ?_
  refine c_cons (s_val (v_field 0 rfl (by kernel_rfl)) rfl rfl rfl ?_)
  refine c_cons (s_val (v_load rfl (hcN _ _ (fun p hp => by simp [hp])) (by kernel_rfl)) rfl rfl rfl ?_)
  refine c_cons (s_val (v_index1 rfl rfl (by kernel_rfl) (by omega)) rfl rfl rfl ?_)
  refine c_cons (s_val (v_load rfl hcx (by kernel_rfl)) rfl rfl rfl ?_)
  refine c_cons (s_call (xs := [_, _]) rfl rfl rfl rfl rfl rfl (by kernel_rfl) (fun w hs => rreadGen_c mp B M ux x hx64 _ w _ _ hr hux hs) ?_)
  rintro e w' ⟨G1, hG1, hs', rfl⟩
  refine a_ret ?_ hs'; clear hs'
  have hpick := open_pick hxd hyd
  have hgx := hdJ_gd x
  have hgy := hdJ_gd y
  have hokx : hdOk M.now.length x → (1 ≤ (hdJ x).g ∧ (hdJ x).h ≤ 1 ∧ (hdJ x).e ≤ jz M.now.length) := fun h => ⟨h.2.1, h.2.2.1, h.2.2.2.1⟩
  have hoky : hdOk M.now.length y → (1 ≤ (hdJ y).g ∧ (hdJ y).h ≤ 1 ∧ (hdJ y).e ≤ jz M.now.length) := fun h => ⟨h.2.1, h.2.2.1, h.2.2.2.1⟩
  obtain ⟨a, ha⟩ : ∃ a, a = hdJ x := ⟨_, rfl⟩
  obtain ⟨b, hb⟩ : ∃ b, b = hdJ y := ⟨_, rfl⟩
  rw [← ha] at hpick hgx hokx
  rw [← hb] at hpick hgy hoky
  rw [← ha]
  refine ww ?_
  refine c_cons (s_allocA [I64 0, I64 0, I64 0] (by kernel_rfl) rfl rfl fun b4 => ?_)
  refine c_cons (s_storeA (vs := [I64 a.g, I64 a.h, I64 a.e]) rfl rfl rfl .head (by kernel_rfl) (by simp [Value.oneCell']) rfl ?_)
  refine c_freeze .head fun G2 hG2 k4 => ?_
  have hG12 := hG1.trans hG2
  -- the second head
  obtain ⟨uy, huy, hcy⟩ := hrow G2 (B ++ F) hG12 (fun p hp => by simp [hp]) 1 y hy
  refine ww ?_
  refine c_cons (s_val (v_field 0 rfl (by kernel_rfl)) rfl rfl rfl ?_)
  refine c_cons (s_val (v_load rfl (hcN _ _ (fun p hp => by simp [hp])) (by kernel_rfl)) rfl rfl rfl ?_)
  refine c_cons (s_val (v_index1 rfl rfl (by kernel_rfl) (by omega)) rfl rfl rfl ?_)
  refine c_cons (s_val (v_load rfl hcy (by kernel_rfl)) rfl rfl rfl ?_)
  refine c_cons (s_call (xs := [_, _]) rfl rfl rfl rfl rfl rfl (by kernel_rfl) (fun w hs => rreadGen_c mp B M uy y hy64 _ w _ _ (hr.up hG12) huy hs) ?_)
  rintro e w' ⟨G3, hG3, hs', rfl⟩
  refine a_ret ?_ hs'; clear hs'
  rw [← hb]
  refine ww ?_
  refine c_cons (s_allocA [I64 0, I64 0, I64 0] (by kernel_rfl) rfl rfl fun b6 => ?_)
  refine c_cons (s_storeA (vs := [I64 b.g, I64 b.h, I64 b.e]) rfl rfl rfl .head (by kernel_rfl) (by simp [Value.oneCell']) rfl ?_)
  refine c_freeze .head fun G5 hG5 k6 => ?_
  replace k4 := hG5 _ _ (hG3 _ _ k4)
  have hGa := hG12.trans (hG3.trans hG5)
  have hr5 := hr.up hGa
  refine wn ?_
  refine c_cut (α := Unit) (fun _ => [(0, Pt mp 0), (4, Pt b4 0), (5, .bool (decide (hdOk M.now.length x))), (6, Pt b6 0), (7, .bool (decide (hdOk M.now.length y)))]) (fun _ => G5) (fun _ => B ++ F) (fun _ => (hdOk M.now.length x ∨ hdOk M.now.length y) ∧ ¬ (hdOk M.now.length x ∧ hdOk M.now.length y ∧ a.g = b.g)) ?_ ?_
  · by_cases ox : hdOk M.now.length x
    · by_cases oy : hdOk M.now.length y
      · rw [decide_eq_true ox, decide_eq_true oy]
        refine ww ?_
        refine c_cons (s_val (v_field 0 rfl (by kernel_rfl)) rfl rfl rfl ?_)
        refine c_cons (s_val (v_load rfl (Cel.imm k4 rfl) (by kernel_rfl)) rfl rfl rfl ?_)
        refine c_cons (s_val (v_field 0 rfl (by kernel_rfl)) rfl rfl rfl ?_)
        refine c_cons (s_val (v_load rfl (Cel.imm k6 rfl) (by kernel_rfl)) rfl rfl rfl ?_)
        refine ww ?_
        refine c_cond_d rfl (fun og => ?_) (fun og => ?_)
        · refine ww ?_
          exact f_ret2 rfl rfl rfl (fun w hs => ⟨G5, hGa, .inr (.inl ⟨rfl, by rw [hpick, if_neg (fun h => h.2 ⟨ox, oy, og⟩)], rfl, hs⟩)⟩)
        refine ww ?_
        exact n_mid () ⟨.inl ox, fun h => og h.2.2⟩ ⟨rfl, rfl, rfl, rfl, rfl, trivial⟩ rfl sbx
      · rw [decide_eq_true ox, decide_eq_false oy]
        refine ww ?_
        refine c_cond_f rfl ?_
        refine ww ?_
        exact n_mid () ⟨.inl ox, fun h => oy h.2.1⟩ ⟨rfl, rfl, rfl, rfl, rfl, trivial⟩ rfl sbx
    · by_cases oy : hdOk M.now.length y
      · rw [decide_eq_false ox, decide_eq_true oy]
        refine ww ?_
        refine c_cond_f rfl ?_
        refine ww ?_
        exact n_mid () ⟨.inr oy, fun h => ox h.1⟩ ⟨rfl, rfl, rfl, rfl, rfl, trivial⟩ rfl sbx
      · rw [decide_eq_false ox, decide_eq_false oy]
        refine ww ?_
        refine c_cond_t rfl ?_
        refine ww ?_
        exact f_ret2 rfl rfl rfl (fun w hs => ⟨G5, hGa, .inr (.inl ⟨rfl, by rw [hpick, if_neg (fun h => h.1.elim ox oy)], rfl, hs⟩)⟩)
  rintro _ ⟨hor, hne⟩
  rw [if_pos ⟨hor, hne⟩] at hpick
  refine ww ?_
  refine c_cons (s_val (v_loadAgg (vs := [I64 a.g, I64 a.h, I64 a.e]) rfl (by kernel_rfl) (by kernel_rfl) rfl (fun j u hj => (Cel.allI k4 hj))) rfl rfl rfl ?_)
  refine c_cons (s_val (v_build (ps := [_, _]) #[Pt mp 0, I64 a.g, I64 a.h, I64 a.e, I64 0, .slice none 0 0] rfl (by kernel_rfl)) rfl rfl rfl ?_)
  refine c_cons (s_boxA [Pt mp 0, I64 a.g, I64 a.h, I64 a.e, I64 0, .slice none 0 0] rfl rfl rfl fun jp => ?_)
  change Holds _ _ _ _ _ (RJO jp mp a 0 (.slice none 0 0) :: (B ++ F)) _
  refine wn ?_
  -- which head counts
  refine c_cut (α := Jh × Int) (fun _ => [(0, Pt mp 0), (8, Pt jp 0)]) (fun _ => G5) (fun z => RJO jp mp z.1 z.2 (.slice none 0 0) :: (B ++ F)) (fun z => openS M.now = (recsS M.now z.1.e.toNat (2 + z.1.h.toNat * jz M.now.length) z.1.e.toNat).map (fun rows => ⟨z.1, z.2, rows⟩) ∧ (0 ≤ z.1.h ∧ z.1.h ≤ 1) ∧ 0 ≤ z.1.e ∧ z.1.e ≤ jz M.now.length) ?_ ?_
  · by_cases ox : hdOk M.now.length x
    rotate_left
    · rw [decide_eq_false ox]
      rw [if_pos (.inl ox)] at hpick
      obtain ⟨g1, g2, g3⟩ := hoky (hor.resolve_left ox)
      refine ww ?_
      refine c_cond_t rfl ?_
      refine ww ?_
      refine c_cons (s_val (v_loadAgg (vs := [I64 b.g, I64 b.h, I64 b.e]) rfl (by kernel_rfl) (by kernel_rfl) rfl (fun j u hj => (Cel.allI k6 hj))) rfl rfl rfl ?_)
      refine ww ?_
      refine c_cons (s_val (v_field 1 rfl (by kernel_rfl)) rfl rfl rfl ?_)
      refine c_cons (s_storeAt (vs := [I64 b.g, I64 b.h, I64 b.e]) rfl rfl rfl .head (by kernel_rfl) (by simp [Value.oneCell']) (by simp) ?_)
      change Holds _ _ _ _ _ (RJO jp mp b 0 (.slice none 0 0) :: (B ++ F)) _
      refine ww ?_
      refine c_cons (s_val (v_field 4 rfl (by kernel_rfl)) rfl rfl rfl ?_)
      refine c_cons (s_store1 rfl rfl rfl .head (by kernel_rfl) rfl (by simp) ?_)
      change Holds _ _ _ _ _ (RJO jp mp b 1 (.slice none 0 0) :: (B ++ F)) _
      refine ww ?_
      exact n_mid (b, 1) ⟨hpick, by dsimp only; have := hgy.2; omega, by dsimp only; have := hgy.2; omega, g3⟩ ⟨rfl, rfl, trivial⟩ rfl sbx
    obtain ⟨g1, g2, g3⟩ := hokx ox
    rw [decide_eq_true ox]
    by_cases oy : hdOk M.now.length y
    rotate_left
    · rw [decide_eq_false oy]
      rw [if_neg (fun h => h.elim (fun h => h ox) (fun h => oy h.1))] at hpick
      refine ww ?_
      refine c_cond_f rfl ?_
      refine ww ?_
      exact n_mid (a, 0) ⟨hpick, by dsimp only; have := hgx.2; omega, by dsimp only; have := hgx.2; omega, g3⟩ ⟨rfl, rfl, trivial⟩ rfl sbx
    rw [decide_eq_true oy]
    obtain ⟨y1, y2, y3⟩ := hoky oy
    refine ww ?_
    refine c_cons (s_val (v_field 0 rfl (by kernel_rfl)) rfl rfl rfl ?_)
    refine c_cons (s_val (v_load rfl (Cel.imm k6 rfl) (by kernel_rfl)) rfl rfl rfl ?_)
    refine c_cons (s_val (v_field 0 rfl (by kernel_rfl)) rfl rfl rfl ?_)
    refine c_cons (s_val (v_load rfl (Cel.imm k4 rfl) (by kernel_rfl)) rfl rfl rfl ?_)
    refine ww ?_
    refine c_cond_d rfl (fun og => ?_) (fun og => ?_)
    · rw [if_pos (.inr ⟨oy, by omega⟩)] at hpick
      refine ww ?_
      refine c_cons (s_val (v_loadAgg (vs := [I64 b.g, I64 b.h, I64 b.e]) rfl (by kernel_rfl) (by kernel_rfl) rfl (fun j u hj => (Cel.allI k6 hj))) rfl rfl rfl ?_)
      refine ww ?_
      refine c_cons (s_val (v_field 1 rfl (by kernel_rfl)) rfl rfl rfl ?_)
      refine c_cons (s_storeAt (vs := [I64 b.g, I64 b.h, I64 b.e]) rfl rfl rfl .head (by kernel_rfl) (by simp [Value.oneCell']) (by simp) ?_)
      change Holds _ _ _ _ _ (RJO jp mp b 0 (.slice none 0 0) :: (B ++ F)) _
      refine ww ?_
      refine c_cons (s_val (v_field 4 rfl (by kernel_rfl)) rfl rfl rfl ?_)
      refine c_cons (s_store1 rfl rfl rfl .head (by kernel_rfl) rfl (by simp) ?_)
      change Holds _ _ _ _ _ (RJO jp mp b 1 (.slice none 0 0) :: (B ++ F)) _
      refine ww ?_
      exact n_mid (b, 1) ⟨hpick, by dsimp only; have := hgy.2; omega, by dsimp only; have := hgy.2; omega, y3⟩ ⟨rfl, rfl, trivial⟩ rfl sbx
    rw [if_neg (fun h => h.elim (fun h => h ox) (fun h => og (by omega)))] at hpick
    refine ww ?_
    exact n_mid (a, 0) ⟨hpick, by dsimp only; have := hgx.2; omega, by dsimp only; have := hgx.2; omega, g3⟩ ⟨rfl, rfl, trivial⟩ rfl sbx
  rintro ⟨⟨g, hI, eI⟩, sl⟩ ⟨hop, hhh, he0, he1⟩
  dsimp only at hop hhh he0 he1 ⊢
  obtain ⟨hn, rfl⟩ : ∃ x : Nat, hI = x := ⟨hI.toNat, by omega⟩
  obtain ⟨en, rfl⟩ : ∃ x : Nat, eI = x := ⟨eI.toNat, by omega⟩
  rw [Int.toNat_natCast, Int.toNat_natCast] at hop
  obtain ⟨p, hp⟩ : ∃ p, p = 2 + hn * jz M.now.length := ⟨_, rfl⟩
  have hzn : hn * jz M.now.length ≤ 999 := by rcases (show hn = 0 ∨ hn = 1 by omega) with e | e <;> rw [e] <;> omega
  have hpe : p + en ≤ M.now.length := by
    rw [hp]
    rcases (show hn = 0 ∨ hn = 1 by omega) with e | e <;> rw [e] <;> omega
  rw [← hp] at hop
  refine ww ?_
  refine r_startS [RJO jp mp ⟨g, hn, en⟩ sl (.slice none 0 0)] [] (by kernel_rfl) (fun w h => h.sb) ?_
  refine r_tk 0 rfl rfl (v_move rfl) (fun _ h => (h.sb)) ?_
  refine r_tk 1 rfl rfl (v_nilCheck rfl) (fun _ h => (h.sb)) ?_
  refine r_tk 2 rfl rfl (v_field 1 rfl (by kernel_rfl)) (fun _ h => (h.sb)) ?_
  refine r_tk 3 rfl rfl (v_field 1 rfl (by kernel_rfl)) (fun _ h => (h.sb)) ?_
  refine r_tk 4 rfl rfl (v_load rfl (Cel.head rfl) (by kernel_rfl)) (fun _ h => (h.sb)) ?_
  refine r_tk 5 rfl rfl (v_move rfl) (fun _ h => (h.sb)) ?_
  refine c_sub (B ++ (RJO jp mp ⟨g, hn, en⟩ sl (.slice none 0 0) :: F)) sbx ?_
  refine r_one 6 (by kernel_rfl) rfl ?_
  refine s_call (xs := [_]) rfl rfl rfl rfl rfl rfl (by kernel_rfl) (fun w hs => rhalf_c mp B M _ w _ _ hr5 hs) ?_
  rintro e w' ⟨rfl, hs'⟩; refine a_ret ?_ hs'; clear hs'
  refine r_next (fun w h => (h.sb)) ?_
  refine r_tk 7 rfl rfl (v_mul rfl rfl (by dsimp only; rw [← Int.natCast_mul]; omega)) (fun _ h => (h.sb)) ?_
  dsimp only
  rw [← Int.natCast_mul]
  refine r_tk 8 rfl rfl (v_add rfl rfl (by omega)) (fun _ h => (h.sb)) ?_
  rw [show (2 : Int) + ((hn * jz M.now.length : Nat) : Int) = (p : Int) by omega]
  refine r_tk 9 rfl rfl (v_assign rfl) (fun _ h => (h.sb)) ?_
  refine r_done (by kernel_rfl) ?_
  refine c_sub (RJO jp mp ⟨g, hn, en⟩ sl (.slice none 0 0) :: (B ++ F)) sbx ?_
  refine ww ?_
  refine c_cons (s_val (v_field 1 rfl (by kernel_rfl)) rfl rfl rfl ?_)
  refine c_cons (s_val (v_field 2 rfl (by kernel_rfl)) rfl rfl rfl ?_)
  refine c_cons (s_val (v_load rfl (Cel.head rfl) (by kernel_rfl)) rfl rfl rfl ?_)
  refine c_cons (s_val (v_add rfl rfl (by dsimp only; omega)) rfl rfl rfl ?_)
  dsimp only
  rw [show (p : Int) + (en : Int) = ((p + en : Nat) : Int) by omega]
  refine ww ?_
  refine c_loop (α := Nat × Im × Value × Hp × List (List UInt8)) (fun x => [(0, Pt mp 0), (8, Pt jp 0), (9, I64 ((p + x.1 : Nat) : Int)), (10, I64 ((p + en : Nat) : Int))]) (fun x => x.2.1) (fun x => RJO jp mp ⟨g, hn, en⟩ sl x.2.2.1 :: (x.2.2.2.1 ++ (B ++ F))) (fun x => x.1 ≤ en ∧ Im.le G5 x.2.1 ∧ RO x.2.1 x.2.2.1 x.2.2.2.2 x.2.2.2.1 ∧ x.2.2.2.2.length ≤ x.1 ∧ recsS M.now en p en = (recsS M.now (en - x.1) (p + x.1) (en - x.1)).map (fun rs => x.2.2.2.2 ++ rs)) (fun x => en - x.1) (0, G5, .slice none 0 0, [], []) ⟨Nat.zero_le _, Im.le_refl _, RO.zero _ _, by simp, by dsimp only; rw [Nat.sub_zero, Nat.add_zero]; simp⟩ ?_ ?_
  · exact n_at ⟨rfl, rfl, rfl, rfl, trivial⟩ sbx
  rintro ⟨i, Gi, vr, Br, rows⟩ ⟨hi, hGi, hro, hrl, hrec⟩
  dsimp only at hi hGi hro hrl hrec ⊢
  have hGai := hGa.trans hGi
  refine ww ?_
  refine c_cond_d rfl (fun c6 => ?_) (fun c6 => ?_)
  · -- then
    have hien : i < en := by omega
    rw [recs_step (show 0 < en - i by omega)] at hrec
    obtain ⟨s, hs0⟩ : ∃ s, M.now[p + i]? = some s := ⟨_, List.getElem?_eq_getElem (by omega)⟩
    have hsl : s.length = 64 := h64 s (List.mem_of_getElem? hs0)
    have hsd : M.now.getD (p + i) [] = s := by rw [List.getD, hs0]; rfl
    obtain ⟨us, hus, hcs⟩ := hrow Gi (RJO jp mp ⟨g, hn, en⟩ sl vr :: (Br ++ (B ++ F))) hGai (fun p hp => by simp [hp]) (p + i) s hs0
    obtain ⟨ads, cps, rfl⟩ := hus.form
    obtain ⟨n, hnn⟩ : ∃ n, n = num (s.take 3) := ⟨_, rfl⟩
    have hn3 : n < 16777216 := by have := num_lt3 (s.take 3) 3 (by rw [List.length_take]; omega); rw [hnn]; exact this
    have hrS : recS M.now (p + i) (en - i) = if jk n ≤ en - i then some ((((M.now.drop (p + i)).take (jk n)).flatten.drop 3).take n, jk n) else none := by unfold recS; rw [hsd, ← hnn]
    have hk1 := jk_pos n
    have hjn : ((jk n : Nat) : Int) = ((n : Int) + 66) / 64 := by unfold jk; omega
    have hbad : ¬ jk n ≤ en - i → openS M.now = none := fun h => by rw [hop, hrec, hrS, if_neg h]; rfl
    refine ww ?_
    refine c_cons (s_val (v_field 0 rfl (by kernel_rfl)) rfl rfl rfl ?_)
    refine c_cons (s_val (v_load rfl (hcN _ _ (fun p hp => by simp [hp])) (by kernel_rfl)) rfl rfl rfl ?_)
    refine ww ?_
    refine c_cons (s_val (v_index1 rfl rfl (by kernel_rfl) (by omega)) rfl rfl rfl ?_)
    refine c_cons (s_val (v_load rfl hcs (by kernel_rfl)) rfl rfl rfl ?_)
    refine c_cons (s_val (v_build (ps := [_]) #[.slice ads s.length cps, I64 0] rfl (by kernel_rfl)) rfl rfl rfl ?_)
    refine c_cons (s_boxA [.slice ads s.length cps, I64 0] rfl rfl rfl fun ep => ?_)
    change Holds _ _ _ _ _ (EyR ep (.slice ads s.length cps) 0 :: (RJO jp mp ⟨g, hn, en⟩ sl vr :: (Br ++ (B ++ F)))) _
    have hv0 : EB Gi (.slice ads s.length cps) s := hus
    refine ww ?_
    refine c_cons (s_call (xs := [_, _]) rfl rfl rfl rfl rfl rfl (by kernel_rfl) (fun w hs => renum_c ep _ 0 s 3 _ w _ _ hv0 hs) ?_)
    rw [eNum_ok (k := 3) (by omega) (by omega) 3 rfl, ← hnn]
    rintro e w' ⟨v4, rfl, hv4, hs'⟩; refine a_ret ?_ hs'; clear hs'
    dsimp only
    refine c_sub (RJO jp mp ⟨g, hn, en⟩ sl vr :: (Br ++ (B ++ F))) sbx ?_
    refine ww ?_
    refine c_cons (s_val (v_quo rfl rfl (by omega) (by omega)) rfl rfl rfl ?_)
    rw [show ((n : Int) + 3 + 64 - 1) / 64 = ((jk n : Nat) : Int) by rw [hjn]; omega]
    refine wn ?_
    refine c_seq ?_
    refine c_seq ?_
    refine c_region ?_
    refine c_cons (s_val (v_move rfl) rfl rfl rfl ?_)
    refine c_cons (s_val (v_gtr rfl rfl) rfl rfl rfl ?_)
    refine c_cons (s_val (v_move rfl) rfl rfl rfl ?_)
    refine c_part_d 131 _ rfl (fun c7 => ?_) (fun c7 => ?_)
    · have hno : ¬ jk n ≤ en - i := by omega
      refine ww ?_
      refine c_cond_t rfl ?_
      refine ww ?_
      exact f_ret2 rfl rfl rfl (fun w hs => ⟨Gi, hGai, .inr (.inl ⟨rfl, hbad hno, rfl, hs.sb⟩)⟩)
    refine ww ?_
    refine c_cond_d rfl (fun c8 => ?_) (fun c8 => ?_)
    · have hno : ¬ jk n ≤ en - i := by omega
      refine ww ?_
      exact f_ret2 rfl rfl rfl (fun w hs => ⟨Gi, hGai, .inr (.inl ⟨rfl, hbad hno, rfl, hs.sb⟩)⟩)
    have hyes : jk n ≤ en - i := by omega
    rw [hrS, if_pos hyes] at hrec
    dsimp only at hrec
    have hfl : ∀ j, j ≤ jk n → ((M.now.drop (p + i)).take j).flatten.length = j * 64 := fun j hj => by
      rw [flat_len _ (fun x hx => h64 x (List.mem_of_mem_drop (List.mem_of_mem_take hx))), List.length_take, List.length_drop]
      congr 1; omega
    refine wn ?_
    refine c_seq ?_
    refine wn ?_
    -- its sectors
    refine c_cut (α := Value × Hp) (fun x => [(0, Pt mp 0), (8, Pt jp 0), (9, I64 ((p + i : Nat) : Int)), (10, I64 ((p + en : Nat) : Int)), (12, I64 (n : Int)), (13, I64 (jk n : Int)), (14, x.1)]) (fun _ => Gi) (fun x => x.2 ++ (RJO jp mp ⟨g, hn, en⟩ sl vr :: (Br ++ (B ++ F)))) (fun x => OB x.1 (((M.now.drop (p + i)).take (jk n)).flatten) x.2) ?_ ?_
    · refine ww ?_
      refine c_loop (α := Nat × Value × Hp) (fun x => [(0, Pt mp 0), (8, Pt jp 0), (9, I64 ((p + i : Nat) : Int)), (10, I64 ((p + en : Nat) : Int)), (12, I64 (n : Int)), (13, I64 (jk n : Int)), (14, x.2.1), (15, I64 (x.1 : Int))]) (fun _ => Gi) (fun x => x.2.2 ++ (RJO jp mp ⟨g, hn, en⟩ sl vr :: (Br ++ (B ++ F)))) (fun x => x.1 ≤ jk n ∧ OB x.2.1 (((M.now.drop (p + i)).take x.1).flatten) x.2.2) (fun x => jk n - x.1) (0, .slice none 0 0, []) ⟨Nat.zero_le _, by dsimp only; rw [List.take_zero]; exact Own.zero none _ _⟩ ?_ ?_
      · exact n_at ⟨rfl, rfl, rfl, rfl, rfl, rfl, rfl, rfl, trivial⟩ sbx
      rintro ⟨j, va, Ba⟩ ⟨hj, hob⟩
      dsimp only at hj hob ⊢
      have hfj := hfl j hj
      refine ww ?_
      refine c_cond_d rfl (fun c9 => ?_) (fun c9 => ?_)
      · have hjk : j < jk n := by omega
        obtain ⟨q, hq⟩ : ∃ q, M.now[p + i + j]? = some q := ⟨_, List.getElem?_eq_getElem (by omega)⟩
        have hql : q.length = 64 := h64 q (List.mem_of_getElem? hq)
        obtain ⟨uq, huq, hcq⟩ := hrow Gi (Ba ++ (RJO jp mp ⟨g, hn, en⟩ sl vr :: (Br ++ (B ++ F)))) hGai (fun p hp => by simp [hp]) (p + i + j) q hq
        obtain ⟨adq, cpq, rfl⟩ := huq.form
        have htk : (M.now.drop (p + i)).take (j + 1) = (M.now.drop (p + i)).take j ++ [q] := by rw [List.take_add_one, List.getElem?_drop, hq]; rfl
        refine ww ?_
        refine c_cons (s_val (v_field 0 rfl (by kernel_rfl)) rfl rfl rfl ?_)
        refine c_cons (s_val (v_load rfl (hcN _ _ (fun p hp => by simp [hp])) (by kernel_rfl)) rfl rfl rfl ?_)
        refine ww ?_
        rw [show ((p + i : Nat) : Int) + (j : Int) = ((p + i + j : Nat) : Int) by omega]
        refine c_cons (s_val (v_index1 rfl rfl (by kernel_rfl) (by omega)) rfl rfl rfl ?_)
        refine c_cons (s_val (v_load rfl hcq (by kernel_rfl)) rfl rfl rfl ?_)
        refine c_cons (s_append (e := 5) (z := B8 0) (sz := 1) (bs := 1) (by kernel_rfl) rfl rfl rfl rfl hob Chunk.head (huq.mono (Im.le_refl _) (by simp)) rfl (by decide) (by simp) (B8_one q) (by omega) (by omega) fun v3 B3 hown3 => ?_)
        have e3 : ((M.now.drop (p + i)).take (j + 1)).flatten = ((M.now.drop (p + i)).take j).flatten ++ q := by rw [htk, List.flatten_append]; simp
        rw [← List.map_append, ← List.length_append, ← e3] at hown3
        refine ww ?_
        exact n_next (x := (j, va, Ba)) (j + 1, v3, B3) ⟨hjk, hown3⟩ (by dsimp only; omega) ⟨rfl, rfl, rfl, rfl, rfl, rfl, rfl, rfl, trivial⟩ rfl sbx
      have hje : j = jk n := by omega
      subst hje
      refine ww ?_
      exact n_mid (va, Ba) hob ⟨rfl, rfl, rfl, rfl, rfl, rfl, rfl, trivial⟩ rfl sbx
    rintro ⟨va, Ba⟩ hob
    dsimp only at hob ⊢
    obtain ⟨xs, hxs⟩ : ∃ xs, xs = ((M.now.drop (p + i)).take (jk n)).flatten := ⟨_, rfl⟩
    have hxl : xs.length = jk n * 64 := by rw [hxs]; exact hfl _ (Nat.le_refl _)
    rw [← hxs] at hob hrec
    have h3n : 3 + n ≤ xs.length := by rw [hxl]; unfold jk; omega
    refine c_freezeO hob Chunk.head fun G7 hG7 hsv7 => ?_
    change SV G7 [] va xs.length (xs.map B8) at hsv7
    obtain ⟨ad7, cp7, rfl⟩ := hsv7.form
    have hcp7 : xs.length ≤ cp7 := by
      obtain ⟨_, _, e, h1, _⟩ := hsv7
      cases e; exact h1
    have hmid := hsv7.mid' h3n
    obtain ⟨r, hr0⟩ : ∃ r, r = (xs.drop 3).take n := ⟨_, rfl⟩
    have hrle : r.length ≤ 1000000 := by rw [hr0, List.length_take]; omega
    rw [← hr0] at hmid hrec
    replace hro := hro.up hG7
    obtain ⟨vs, ho, hit⟩ := hro
    have hvl := hit.1
    refine ww ?_
    refine r_startS [RJO jp mp ⟨g, hn, en⟩ sl vr] [14] (by kernel_rfl) (fun w h => h.sb) ?_
    refine r_tk 0 rfl rfl (v_move rfl) (fun _ h => (h.sb)) ?_
    refine r_tk 1 rfl rfl (v_move rfl) (fun _ h => (h.sb)) ?_
    refine r_tk 2 rfl rfl (v_nilCheck rfl) (fun _ h => (h.sb)) ?_
    refine r_tk 3 rfl rfl (v_field 5 rfl (by kernel_rfl)) (fun _ h => (h.sb)) ?_
    refine r_tk 4 rfl rfl (v_load rfl (Cel.head rfl) (by kernel_rfl)) (fun _ h => (h.sb)) ?_
    refine r_tk 5 rfl rfl (v_move rfl) (fun _ h => (h.sb)) ?_
    refine r_tk 6 rfl rfl (v_move rfl) (fun _ h => (h.sb)) ?_
    refine r_tk 7 rfl rfl (v_add rfl rfl (by omega)) (fun _ h => (h.sb)) ?_
    rw [show (3 : Int) + (n : Int) = ((3 + n : Nat) : Int) by omega]
    refine r_tk 8 rfl rfl (v_slMid 3 (3 + n) 1 rfl rfl rfl (by kernel_rfl) (by omega) (by omega)) (fun _ h => (h.sb)) ?_
    refine r_one 9 (by kernel_rfl) rfl ?_
    refine s_call (xs := [_]) rfl rfl rfl rfl rfl rfl (by kernel_rfl) (fun w hs => copy_c _ r _ w _ _ hmid hrle hs) ?_
    rintro e w' ⟨G8, u, rfl, hG8, hu, hs'⟩; refine a_ret ?_ hs'; clear hs'
    refine r_next (fun w h => ((h.weaken hG8).sb)) ?_
    refine r_one 10 (by kernel_rfl) rfl ?_
    refine s_lit (z := .slice none 0 0) (bs := 24) (e := 31) [_] (by kernel_rfl) rfl rfl rfl rfl (by simpa using hu.one) rfl (by decide) fun b6 => ?_
    refine r_next (fun w h => ((h.weaken hG8).sb)) ?_
    refine r_one 11 (by kernel_rfl) rfl ?_
    refine c_sub ((b6, Cs [u] 31) :: (Br ++ (RJO jp mp ⟨g, hn, en⟩ sl vr :: (B ++ F)))) sbx ?_
    refine s_append (e := 31) (z := .slice none 0 0) (sz := 1) (bs := 24) (by kernel_rfl) rfl rfl rfl rfl ho (Chunk.tail Chunk.head) (SV.block .head (by simp [maxLen])) rfl (by decide) rfl (by simpa using hu.one) (by simp; omega) (by simp; omega) fun u7 B7 ho7 => ?_
    have hro7 : RO G8 u7 (rows ++ [r]) B7 := ⟨vs ++ [u], by rw [List.length_append]; exact ho7, (hit.mono hG8).snoc hu⟩
    have hu7 : u7.oneCell' = true := by obtain ⟨ad, c, e⟩ := ho7.form; rw [e]; rfl
    refine c_sub (RJO jp mp ⟨g, hn, en⟩ sl vr :: (B7 ++ (B ++ F))) sbx ?_
    refine r_next (fun w h => ((h.weaken hG8).sb)) ?_
    refine r_one 12 (by kernel_rfl) rfl ?_; refine s_val (v_nilCheck rfl) rfl rfl rfl ?_; refine r_next (fun w h => ((h.weaken hG8).sb)) ?_
    refine r_one 13 (by kernel_rfl) rfl ?_; refine s_val (v_field 5 rfl (by kernel_rfl)) rfl rfl rfl ?_; refine r_next (fun w h => ((h.weaken hG8).sb)) ?_
    refine r_one 14 (by kernel_rfl) rfl ?_
    refine s_store1 rfl rfl rfl .head (by kernel_rfl) hu7 (by simp) ?_
    change Holds _ _ _ _ _ (RJO jp mp ⟨g, hn, en⟩ sl u7 :: (B7 ++ (B ++ F))) _
    refine r_late rfl ?_
    refine r_done (by kernel_rfl) ?_
    refine ww ?_
    rw [show ((p + i : Nat) : Int) + ((jk n : Nat) : Int) = ((p + (i + jk n) : Nat) : Int) by omega]
    refine n_next (x := (i, Gi, vr, Br, rows)) (i + jk n, G8, u7, B7, rows ++ [r]) ⟨by dsimp only; omega, hGi.trans (hG7.trans hG8), hro7, by dsimp only; rw [List.length_append]; simp; omega, ?_⟩ (by dsimp only; omega) ⟨rfl, rfl, rfl, rfl, trivial⟩ rfl sbx
    dsimp only
    rw [hrec, show en - i - jk n = en - (i + jk n) by omega, Nat.add_assoc]
    cases recsS M.now (en - (i + jk n)) (p + (i + jk n)) (en - (i + jk n)) with
    | none => rfl
    | some rs => simp
  have hie : i = en := by omega
  subst hie
  rw [Nat.sub_self] at hrec
  have hfin : openS M.now = some ⟨⟨g, hn, i⟩, sl, rows⟩ := by
    rw [hop, hrec]
    simp [recsS]
  refine ww ?_
  exact f_ret2 rfl rfl rfl (fun w hs => ⟨Gi, hGai, .inr (.inr ⟨rfl, _, jp, _, hfin, rfl, ⟨vr, Br, rfl, hro⟩, hs⟩)⟩)
end
end Go.Proofs.Ytkjneelekfdpfaa
