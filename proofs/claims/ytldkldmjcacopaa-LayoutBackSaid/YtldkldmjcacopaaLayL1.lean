/- The law LayoutPlaces. -/
import Derived.Test.YtldkldmjcacopaaLayL0
namespace Go.Proofs.Ytldkldmjcacopaa
open Go
set_option linter.unusedVariables false
set_option linter.unusedSimpArgs false
set_option maxHeartbeats 1600000
theorem place_nat (c num ix : Nat) (N : Nat) (hN : 3 ≤ N ∧ N ≤ 16) : placeS c num ix N = (((num + c + ix) % N : Nat) : Int) := by
  unfold placeS
  rw [if_pos (by omega)]
  have h1 := Nat.mod_lt num (show 0 < N by omega)
  have h2 := Nat.mod_lt c (show 0 < N by omega)
  have h3 := Nat.mod_lt ix (show 0 < N by omega)
  have h4 := Nat.mod_lt (num % N + c % N + ix % N) (show 0 < N by omega)
  have t : ∀ x : Nat, ((x : Nat) : Int).tmod (N : Int) = ((x % N : Nat) : Int) := fun x => by
    rw [Int.tmod_eq_emod_of_nonneg (Int.natCast_nonneg x)]; simp
  rw [t num, t c, t ix, ← Int.natCast_add, ← Int.natCast_add, t, ← Int.natCast_add, t]
  congr 1
  rw [Nat.add_mod_right, Nat.mod_mod]
  rw [Nat.add_mod (num + c) ix, Nat.add_mod num c]
  simp [Nat.add_mod]
/-- Which places are taken. -/
def seenL (b N k : Nat) : List Bool := (List.range N).map fun p => (List.range k).any fun j => (b + j) % N == p
theorem seenL_len (b N k : Nat) : (seenL b N k).length = N := by simp [seenL]
theorem mod_inj {b j k N : Nat} (hj : j < k) (hk : k < N) (h : (b + j) % N = (b + k) % N) : False := by
  have h1 := Nat.div_add_mod (b + j) N
  have h2 := Nat.div_add_mod (b + k) N
  rw [h] at h1
  generalize (b + k) % N = r at h1 h2
  generalize (b + j) / N = q1 at h1
  generalize (b + k) / N = q2 at h2
  rcases Nat.lt_trichotomy q1 q2 with h | h | h
  · have := Nat.mul_le_mul_left N (show q1 + 1 ≤ q2 from h)
    rw [Nat.mul_add, Nat.mul_one] at this
    omega
  · subst h; omega
  · have := Nat.mul_le_mul_left N (show q2 ≤ q1 by omega)
    omega
theorem seen_get (b N k : Nat) (hk : k < N) : (seenL b N k)[(b + k) % N]? = some false := by
  have hm := Nat.mod_lt (b + k) (show 0 < N by omega)
  unfold seenL
  rw [List.getElem?_map, List.getElem?_range hm]
  simp only [Option.map_some, Option.some.injEq]
  rw [List.any_eq_false]
  intro j hj
  have hjk : j < k := List.mem_range.1 hj
  simp only [beq_iff_eq]
  exact fun h => mod_inj hjk hk h
theorem seen_set (b N k : Nat) (hk : k < N) : (seenL b N k).set ((b + k) % N) true = seenL b N (k + 1) := by
  have hm := Nat.mod_lt (b + k) (show 0 < N by omega)
  refine List.ext_getElem? fun p => ?_
  by_cases hp : p < N
  · by_cases e : (b + k) % N = p
    · subst e
      rw [List.getElem?_set_self (by rw [seenL_len]; exact hm)]
      unfold seenL
      rw [List.getElem?_map, List.getElem?_range hm]
      simp only [Option.map_some, Option.some.injEq]
      symm
      rw [List.any_eq_true]
      exact ⟨k, List.mem_range.2 (by omega), by simp⟩
    · rw [List.getElem?_set_ne e]
      unfold seenL
      rw [List.getElem?_map, List.getElem?_map, List.getElem?_range hp]
      simp only [Option.map_some, Option.some.injEq]
      rw [List.range_succ, List.any_append]
      simp [e]
  · rw [List.getElem?_eq_none (by rw [List.length_set, seenL_len]; omega), List.getElem?_eq_none (by rw [seenL_len]; omega)]
theorem seen_zero (b N : Nat) : seenL b N 0 = List.replicate N false := by
  unfold seenL
  simp [List.map_const']
attribute [local irreducible] Code.wp wpList stepK Holds Val wpR Eff Eff0 Code.wpIn wpListIn stepI Exit.then Exit.inBlock bodyPost bodyPostM

abbrev SeO (b : Nat) (l : List Bool) : Nat × Obj := (b, Cs (l.map Value.bool) 4)
theorem places_c (m : Int) (w0 w : World) (G : Im) (F : Hp) (hs : Sat w0 w G F) :
    Calls Try.prog 6 #[I64 m] w fun e w' => ∃ G', e = .returned (.bool true) ∧ Im.le G G' ∧ Sat w0 w' G' F := by
  refine f_enter (vs := [_]) Try.func6 rfl Try.ntmps6 (by simp) hs ?_
  refine ww ?_
  refine c_cons (s_call (xs := []) rfl rfl rfl rfl rfl rfl (by kernel_rfl) (fun w hs => awake_c _ w _ _ hs) ?_)
  rintro e w' ⟨G0, rfl, hG0, hs'⟩; refine a_ret ?_ hs'; clear hs'
  refine ww ?_
  refine c_cond_f rfl ?_
  refine ww ?_
  refine c_cons (s_call (xs := [_]) rfl rfl rfl rfl rfl rfl (by kernel_rfl) (fun w hs => servers_c m _ w _ _ hs) ?_)
  rintro e w' ⟨rfl, hs'⟩; refine a_ret ?_ hs'; clear hs'
  have hn := srvS_in m
  obtain ⟨N, hN⟩ : ∃ N : Nat, srvS m = (N : Int) := ⟨(srvS m).toNat, by omega⟩
  rw [hN] at hn ⊢
  obtain ⟨hm1, hm2⟩ := strS_mst m
  unfold mst at hm1
  obtain ⟨f, hf⟩ : ∃ f, f = strS m := ⟨_, rfl⟩
  rw [← hf] at hm1 hm2
  obtain ⟨fc, hfc⟩ : ∃ fc : Nat, f.c = (fc : Int) := ⟨f.c.toNat, by omega⟩
  obtain ⟨fn, hfn⟩ : ∃ fn : Nat, f.n = (fn : Int) := ⟨f.n.toNat, by omega⟩
  refine ww ?_
  refine c_cons (s_call (xs := [_]) rfl rfl rfl rfl rfl rfl (by kernel_rfl) (fun w hs => stripeL_c m _ w _ _ hs) ?_)
  rw [← hf, hfc, hfn]
  rintro e w' ⟨rfl, hs'⟩; refine a_ret ?_ hs'; clear hs'
  refine c_cons (s_allocA [I64 0, I64 0, I64 0] (by kernel_rfl) rfl rfl fun b1 => ?_)
  refine c_cons (s_storeA (vs := [I64 fc, I64 f.l, I64 fn]) rfl rfl rfl .head (by kernel_rfl) (by simp [Value.oneCell']) rfl ?_)
  refine c_freeze .head fun G1 hG1 k1 => ?_
  have hG01 := hG0.trans hG1
  refine ww ?_
  refine c_cons (s_make 4 (.bool false) 1 1 N rfl rfl rfl rfl (by kernel_rfl) (by omega) (by omega) fun b2 => ?_)
  rw [show (madeCells (Value.bool false).cells (N * 1)).toList = (seenL (fn + fc + (N - 1)) N 0).map Value.bool from by rw [Nat.mul_one, seen_zero]; exact (toList_madeCells_one _ _).trans (by simp)]
  change Holds _ _ _ _ _ (SeO b2 (seenL (fn + fc + (N - 1)) N 0) :: F) _
  refine ww ?_
  refine c_loop (α := Nat × Im) (fun x => [(3, I64 N), (4, Pt b1 0), (5, Sl b2 0 N N), (6, I64 x.1)]) (fun x => x.2) (fun x => SeO b2 (seenL (fn + fc + (N - 1)) N x.1) :: F) (fun x => x.1 ≤ N ∧ Im.le G1 x.2) (fun x => N - x.1) (0, G1) ⟨Nat.zero_le _, Im.le_refl _⟩ ?_ ?_
  · exact n_at ⟨rfl, rfl, rfl, rfl, trivial⟩ sbx
  rintro ⟨k, Gk⟩ ⟨hk, hGk⟩
  dsimp only at hk hGk ⊢
  have k1k := hGk _ _ k1
  refine ww ?_
  refine c_cond_d rfl (fun c2 => ?_) (fun c2 => ?_)
  · -- then
    have hkN : k < N := by omega
    have hpl : placeS fc ((fn + k : Nat) : Int) ((N - 1 : Nat) : Int) N = _ := place_nat fc (fn + k) (N - 1) N (by omega)
    rw [show fn + k + fc + (N - 1) = fn + fc + (N - 1) + k by omega] at hpl
    have hpm := Nat.mod_lt (fn + fc + (N - 1) + k) (show 0 < N by omega)
    have hsg := seen_get (fn + fc + (N - 1)) N k hkN
    have hss := seen_set (fn + fc + (N - 1)) N k hkN
    have hsl := seenL_len (fn + fc + (N - 1)) N k
    obtain ⟨p, hp⟩ : ∃ p, p = (fn + fc + (N - 1) + k) % N := ⟨_, rfl⟩
    rw [← hp] at hpl hpm hsg hss
    refine ww ?_
    refine c_cons (s_val (v_loadAgg (vs := [I64 fc, I64 f.l, I64 fn]) rfl (by kernel_rfl) (by kernel_rfl) rfl (fun j u hj => (Cel.allI k1k hj))) rfl rfl rfl ?_)
    refine c_cons (s_allocA [I64 0, I64 0, I64 0] (by kernel_rfl) rfl rfl fun b3 => ?_)
    refine c_cons (s_storeA (vs := [I64 fc, I64 f.l, I64 fn]) rfl rfl rfl .head (by kernel_rfl) (by simp [Value.oneCell']) rfl ?_)
    refine ww ?_
    refine c_cons (s_val (v_field 2 rfl (by kernel_rfl)) rfl rfl rfl ?_)
    refine c_cons (s_val (v_load rfl (Cel.imm k1k rfl) (by kernel_rfl)) rfl rfl rfl ?_)
    refine ww ?_
    refine c_cons (s_val (v_field 2 rfl (by kernel_rfl)) rfl rfl rfl ?_)
    refine c_cons (s_store1 rfl rfl rfl .head (by kernel_rfl) rfl (by simp) ?_)
    change Holds _ _ _ _ _ ((b3, Cs [I64 fc, I64 f.l, I64 ((fn : Int) + (k : Int))] 25) :: _) _
    rw [← Int.natCast_add]
    refine c_freeze .head fun G3 hG3 k3 => ?_
    have hGk3 := hGk.trans hG3
    refine ww ?_
    refine c_cons (s_val (v_loadAgg (vs := [I64 fc, I64 f.l, I64 ((fn + k : Nat) : Int)]) rfl (by kernel_rfl) (by kernel_rfl) rfl (fun j u hj => (Cel.allI k3 hj))) rfl rfl rfl ?_)
    refine ww ?_
    rw [show (N : Int) - 1 = ((N - 1 : Nat) : Int) by omega]
    refine c_cons (s_call (xs := [_, _, _]) rfl rfl rfl rfl rfl rfl (by kernel_rfl) (fun w hs => lplace_c fc f.l (fn + k : Nat) (N - 1 : Nat) N _ w _ _ hs) ?_)
    rw [hpl]
    rintro e w' ⟨rfl, hs'⟩; refine a_ret ?_ hs'; clear hs'
    refine ww ?_
    refine c_kf 38 rfl (by omega) ?_
    refine ww ?_
    refine c_kf 43 rfl (by omega) ?_
    refine ww ?_
    refine c_cons (s_val (v_index1 rfl rfl (by kernel_rfl) (by omega)) rfl rfl rfl ?_)
    refine c_cons (s_val (v_load rfl (Cel.head (by rw [Nat.zero_add, Int.toNat_natCast, List.getElem?_map, hsg]; rfl)) (by kernel_rfl)) rfl rfl rfl ?_)
    refine ww ?_
    refine c_cond_f rfl ?_
    refine ww ?_
    refine c_cons (s_val (v_index1 rfl rfl (by kernel_rfl) (by omega)) rfl rfl rfl ?_)
    refine c_cons (s_store1 rfl rfl rfl .head (by kernel_rfl) rfl (by rw [Nat.zero_add, Int.toNat_natCast, List.length_map, hsl]; exact hpm) ?_)
    rw [Nat.zero_add, Int.toNat_natCast, ← List.map_set, hss]
    change Holds _ _ _ _ _ (SeO b2 (seenL (fn + fc + (N - 1)) N (k + 1)) :: F) _
    refine ww ?_
    refine c_cons (s_make 4 (.bool false) 1 1 N rfl rfl rfl rfl (by kernel_rfl) (by omega) (by omega) fun b4 => ?_)
    rw [show (madeCells (Value.bool false).cells (N * 1)).toList = (seenL (fn + k + fc) N 0).map Value.bool from by rw [Nat.mul_one, seen_zero]; exact (toList_madeCells_one _ _).trans (by simp)]
    change Holds _ _ _ _ _ (SeO b4 (seenL (fn + k + fc) N 0) :: SeO b2 (seenL (fn + fc + (N - 1)) N (k + 1)) :: F) _
    refine ww ?_
    refine c_loop (α := Nat) (fun i => [(3, I64 N), (4, Pt b1 0), (5, Sl b2 0 N N), (6, I64 k), (7, Pt b3 0), (9, Sl b4 0 N N), (10, I64 i)]) (fun _ => G3) (fun i => SeO b4 (seenL (fn + k + fc) N i) :: SeO b2 (seenL (fn + fc + (N - 1)) N (k + 1)) :: F) (fun i => i ≤ N) (fun i => N - i) 0 (Nat.zero_le _) ?_ ?_
    · exact n_at ⟨rfl, rfl, rfl, rfl, rfl, rfl, rfl, trivial⟩ sbx
    rintro i hi
    refine ww ?_
    refine c_cond_d rfl (fun c6 => ?_) (fun c6 => ?_)
    · -- then
      have hiN : i < N := by omega
      have hpl2 : placeS fc ((fn + k : Nat) : Int) ((i : Nat) : Int) N = _ := place_nat fc (fn + k) i N (by omega)
      have hpm2 := Nat.mod_lt (fn + k + fc + i) (show 0 < N by omega)
      have hsg2 := seen_get (fn + k + fc) N i hiN
      have hss2 := seen_set (fn + k + fc) N i hiN
      have hsl2 := seenL_len (fn + k + fc) N i
      obtain ⟨q, hq⟩ : ∃ q, q = (fn + k + fc + i) % N := ⟨_, rfl⟩
      rw [← hq] at hpl2 hpm2 hsg2 hss2
      refine ww ?_
      refine c_cons (s_val (v_loadAgg (vs := [I64 fc, I64 f.l, I64 ((fn + k : Nat) : Int)]) rfl (by kernel_rfl) (by kernel_rfl) rfl (fun j u hj => (Cel.allI k3 hj))) rfl rfl rfl ?_)
      refine ww ?_
      refine c_cons (s_call (xs := [_, _, _]) rfl rfl rfl rfl rfl rfl (by kernel_rfl) (fun w hs => lplace_c fc f.l (fn + k : Nat) i N _ w _ _ hs) ?_)
      rw [hpl2]
      rintro e w' ⟨rfl, hs'⟩; refine a_ret ?_ hs'; clear hs'
      refine ww ?_
      refine c_kf 65 rfl (by omega) ?_
      refine ww ?_
      refine c_kf 70 rfl (by omega) ?_
      refine ww ?_
      refine c_cons (s_val (v_index1 rfl rfl (by kernel_rfl) (by omega)) rfl rfl rfl ?_)
      refine c_cons (s_val (v_load rfl (Cel.head (by rw [Nat.zero_add, Int.toNat_natCast, List.getElem?_map, hsg2]; rfl)) (by kernel_rfl)) rfl rfl rfl ?_)
      refine ww ?_
      refine c_cond_f rfl ?_
      refine ww ?_
      refine c_cons (s_val (v_index1 rfl rfl (by kernel_rfl) (by omega)) rfl rfl rfl ?_)
      refine c_cons (s_store1 rfl rfl rfl .head (by kernel_rfl) rfl (by rw [Nat.zero_add, Int.toNat_natCast, List.length_map, hsl2]; exact hpm2) ?_)
      rw [Nat.zero_add, Int.toNat_natCast, ← List.map_set, hss2]
      change Holds _ _ _ _ _ (SeO b4 (seenL (fn + k + fc) N (i + 1)) :: _) _
      refine ww ?_
      exact n_next (x := i) (i + 1) hiN (by omega) ⟨rfl, rfl, rfl, rfl, rfl, rfl, rfl, trivial⟩ rfl sbx
    refine ww ?_
    exact n_next (x := (k, Gk)) (k + 1, G3) ⟨by omega, hGk3⟩ (by dsimp only; omega) ⟨rfl, rfl, rfl, rfl, trivial⟩ rfl sbx
  refine ww ?_
  exact f_ret1 rfl rfl (fun w hs => ⟨Gk, rfl, hG01.trans hGk, hs.tl⟩)
end Go.Proofs.Ytldkldmjcacopaa
