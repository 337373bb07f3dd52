/- The walks of package parity, first part: the rows' iterator, the two closures. -/
import Derived.Test.YtldkldmjcacopaaRange
import Derived.Test.YtldkldmjcacopaaPar
import Derived.Test.YtldkldmjcacopaaBytes
namespace Go.Proofs.Ytldkldmjcacopaa
open Go
set_option linter.unusedVariables false
set_option maxHeartbeats 400000
attribute [local irreducible] Code.wp wpList stepK Holds Val wpR Eff Eff0 Code.wpIn wpListIn stepI Exit.then Exit.inBlock bodyPost bodyPostM

theorem longest1_c (p : Int) (v : Value) (k : Nat) (L : List Value) (w0 w : World) (G : Im) (H : Hp) (hv : SV G H v k L) (hs : Sat w0 w G H) :
    Calls Try.prog 87 #[I64 p, v] w fun e w' => e = .returned (I64 (max p k)) ∧ Sat w0 w' G H := by
  obtain ⟨ad, cap, rfl, h1, h2, h3⟩ := hv
  refine f_enter (vs := [_, _]) Try.func87 rfl Try.ntmps87 (by simp) hs ?_
  refine ww ?_
  exact f_ret1 rfl rfl (fun w hs => ⟨rfl, hs⟩)

/-- The first i of a row are in. -/
def xinTo (os r : List UInt8) (i : Nat) : List UInt8 := xin os (r.take i)
theorem xinTo_step (os r : List UInt8) (i : Nat) (hi : i < r.length) (hl : r.length ≤ os.length) : (xinTo os r i).set i (os[i] ^^^ r[i]) = xinTo os r (i + 1) := by
  apply List.ext_getElem?
  intro j
  unfold xinTo xin
  simp only [List.getElem?_set, List.length_map, List.length_range, List.getElem?_map, List.getD]
  by_cases hj : j < os.length
  · by_cases hij : i = j
    · subst hij
      simp [hj, hi]
    · rw [if_neg hij]
      simp only [List.getElem?_range hj, Option.map_some, Option.some.injEq, List.getElem?_take]
      by_cases h1 : j < i
      · rw [if_pos h1, if_pos (by omega)]
      · rw [if_neg h1, if_neg (by omega)]
  · have hn : (List.range os.length)[j]? = none := by simp; omega
    rw [hn]
    by_cases hij : i = j
    · omega
    · rw [if_neg hij]; rfl
theorem xinTo_zero (os r : List UInt8) : xinTo os r 0 = os := by
  apply List.ext_getElem?
  intro j
  unfold xinTo xin
  by_cases hj : j < os.length
  · simp [hj]
  · have h1 : os[j]? = none := by simp; omega
    rw [h1]; simp; omega
theorem xinTo_all (os r : List UInt8) : xinTo os r r.length = xin os r := by simp [xinTo]
theorem xinTo_getElem (os r : List UInt8) (i : Nat) (h : i < os.length) : (xinTo os r i)[i]? = some os[i] := by
  unfold xinTo xin
  simp [h, List.getElem?_take]
theorem xinTo_length (os r : List UInt8) (i : Nat) : (xinTo os r i).length = os.length := by simp [xinTo, xin]

theorem sum1_c (b k : Nat) (v : Value) (os r : List UInt8) (w0 w : World) (G : Im) (F : Hp) (hk : os.length = k) (hkb : k ≤ 281474976710656) (hv : SV G [] v r.length (r.map B8)) (hl : r.length ≤ os.length) (hs : Sat w0 w G ((b, Cs (os.map B8) 5) :: F)) :
    Calls Try.prog 80 #[Sl b 0 k k, v] w fun e w' => e = .returned (Sl b 0 k k) ∧ Sat w0 w' G ((b, Cs ((xin os r).map B8) 5) :: F) := by
  obtain ⟨ad, cap, rfl, h1, h2, h3⟩ := hv
  refine f_enter (vs := [_, _]) Try.func80 rfl Try.ntmps80 (by simp) hs ?_
  refine ww ?_
  refine c_loop (α := Nat) (fun i => [(9, I64 i), (8, I64 r.length), (7, .slice ad r.length cap), (0, Sl b 0 k k)]) (fun _ => G) (fun i => (b, Cs ((xinTo os r i).map B8) 5) :: F) (fun i => i ≤ r.length) (fun i => r.length - i) 0 (Nat.zero_le _) ?_ ?_
  · exact l_at ⟨rfl, rfl, rfl, rfl, trivial⟩ (Split.cons .head (by rw [xinTo_zero]) (Split.refl F))
  · intro i hi
    refine ww ?_
    refine c_cond_d rfl (fun hlt => ?_) (fun hge => ?_)
    · have hir : i < r.length := by omega
      rcases h3 with ⟨hx0, _⟩ | ⟨b1, o1, rfl, hc1⟩
      · simp at hx0; subst hx0; simp at hir
      have e1 := hc1 i (B8 r[i]) (by simp [hir])
      have e1' := e1.mono (H' := (b, Cs ((xinTo os r i).map B8) 5) :: F) (Im.le_refl G) (by simp)
      have e2 : Cel G ((b, Cs ((xinTo os r i).map B8) 5) :: F) b (0 + (i : Int).toNat) (B8 (os[i]'(by omega))) := by
        refine Cel.head ?_
        rw [List.getElem?_map, Nat.zero_add, Int.toNat_natCast, xinTo_getElem _ _ _ (by omega)]; rfl
      refine ww ?_
      refine c_cons (s_val (v_index1 rfl rfl (by kernel_rfl) (by omega)) rfl rfl rfl ?_)
      refine ww ?_
      refine c_cons (s_val (v_load rfl (by simpa using e1') (by kernel_rfl)) rfl rfl rfl ?_)
      refine ww ?_
      refine c_cons (s_val (v_index1 rfl rfl (by kernel_rfl) (by omega)) rfl rfl rfl ?_)
      refine ww ?_
      refine c_cons (s_val (v_load rfl e2 (by kernel_rfl)) rfl rfl rfl ?_)
      refine ww ?_
      refine c_cons (s_val (v_index1 rfl rfl (by kernel_rfl) (by omega)) rfl rfl rfl ?_)
      refine ww ?_
      refine c_cons (s_store1 rfl rfl rfl .head (by kernel_rfl) rfl (by simp [xinTo_length]; omega) ?_)
      refine ww ?_
      refine l_next (i + 1) hir (by omega) ⟨rfl, rfl, rfl, rfl, trivial⟩ rfl (Split.cons .head ?_ (Split.refl F))
      rw [← xinTo_step os r i hir hl, List.map_set]
      simp
    · refine ww ?_
      refine f_ret1 rfl rfl (fun w hs => ⟨rfl, ?_⟩)
      have e : i = r.length := by omega
      subst e
      rwa [xinTo_all] at hs

/-- The rows' iterator. -/
theorem others1_c (b1 b2 : Nat) (i : Int) (v : Value) (vs : List Value) (G : Im) (h1 : G b1 = some (Cs [v] 39)) (h2 : G b2 = some (Cs [I64 i] 3)) (hv : SV G [] v vs.length vs) :
    ItSpec Try.prog 81 #[Pt b1 0, Pt b2 0] G (oth vs i) := by
  intro l w0 Hj hY w hs
  obtain ⟨ad, cap, rfl, g1, g2, g3⟩ := hv
  have hc1 : ∀ H, Cel G H b1 0 (.slice ad vs.length cap) := fun H => Cel.imm h1 rfl
  have hc2 : ∀ H, Cel G H b2 0 (I64 i) := fun H => Cel.imm h2 rfl
  unfold maxLen at g2
  refine i_enter (vs := [_, _, _]) Try.func81 rfl Try.ntmps81 (by simp) hs ?_
  refine wi ?_
  refine i_cons (i_val (v_load rfl (hc1 _) (by kernel_rfl)) rfl rfl rfl rfl ?_)
  refine wi ?_
  refine i_loop (α := Nat) (fun k => [(8, I64 k), (7, I64 vs.length), (6, .slice ad vs.length cap), (0, .func (.yield l) #[] #[]), (1, Pt b1 0), (2, Pt b2 0)]) (fun _ => G) (fun k => Hj (oth (vs.take k) i).length) (fun k => k ≤ vs.length) (fun k => vs.length - k) 0 (Nat.zero_le _) ?_ ?_
  · exact l_at ⟨rfl, rfl, rfl, rfl, rfl, rfl, trivial⟩ (Split.refl _)
  · intro k hk
    refine wi ?_
    refine i_cond_d rfl (fun hlt => ?_) (fun hge => ?_)
    · have hkv : k < vs.length := by omega
      rcases g3 with ⟨hx0, _⟩ | ⟨b, o, rfl, hc⟩
      · subst hx0; simp at hkv
      have e1 := (hc k vs[k] (by simp [hkv])).mono (H' := Hj (oth (vs.take k) i).length) (Im.le_refl G) (by simp)
      have htk : oth (vs.take (k + 1)) i = oth (vs.take k) i ++ (if i = (k : Int) then [] else [vs[k]]) := by
        rw [List.take_succ_eq_append_getElem hkv, oth_snoc, List.length_take, Nat.min_eq_left (by omega)]
      refine wi ?_
      refine i_cons (i_val (v_index1 rfl rfl (by kernel_rfl) (by omega)) rfl rfl rfl rfl ?_)
      refine wi ?_
      refine i_cons (i_val (v_load rfl (by simpa using e1) (by kernel_rfl)) rfl rfl rfl rfl ?_)
      refine wi ?_
      refine i_cons (i_val (v_load rfl (hc2 _) (by kernel_rfl)) rfl rfl rfl rfl ?_)
      refine wi ?_
      refine c_part_d 16 _ rfl (fun hne => ?_) (fun heq => ?_)
      · have hnx := oth_next vs i k hkv hne
        obtain ⟨hj, hje⟩ := List.getElem?_eq_some_iff.1 hnx
        rw [if_neg (fun e => hne e.symm)] at htk
        refine wi ?_
        refine i_cons (i_yield (xs := [_]) (R := fun w' => Sat w0 w' G (Hj ((oth (vs.take k) i).length + 1))) rfl rfl rfl rfl rfl rfl (fun w hs => by have := hY _ hj w hs; rwa [hje] at this) (fun w' hs => Holds.atw ?_ hs))
        refine wi ?_
        refine i_cond_f rfl ?_
        refine wi ?_
        exact l_next (G' := fun _ => G) (k + 1) hkv (by omega) ⟨rfl, rfl, rfl, rfl, rfl, rfl, trivial⟩ rfl (by rw [htk]; simpa using Split.refl _)
      · have heq' : i = (k : Int) := by omega
        rw [if_pos heq', List.append_nil] at htk
        refine wi ?_
        refine i_cond_f rfl ?_
        refine wi ?_
        exact l_next (G' := fun _ => G) (k + 1) hkv (by omega) ⟨rfl, rfl, rfl, rfl, rfl, rfl, trivial⟩ rfl (by rw [htk]; exact Split.refl _)
    · refine wi ?_
      refine i_end0 rfl (fun w hs => ⟨⟨_, rfl⟩, ?_⟩)
      have e : k = vs.length := by omega
      subst e
      rwa [List.take_length] at hs
end Go.Proofs.Ytldkldmjcacopaa
