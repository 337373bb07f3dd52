/- bytes.Clone with owned bytes; package wire's Pen.Bytes likewise. -/
import Derived.Test.YtkjneelekfdpfaaBlkP1
namespace Go.Proofs.Ytkjneelekfdpfaa
open Go
set_option linter.unusedVariables false
set_option linter.unusedSimpArgs false
set_option maxHeartbeats 1600000
attribute [local irreducible] Code.wp wpList stepK Holds Val wpR Eff Eff0 Code.wpIn wpListIn stepI Exit.then Exit.inBlock bodyPost bodyPostM

theorem cloneO_c (v : Value) (xs : List UInt8) (w0 w : World) (G : Im) (F : Hp) (hv : SV G [] v xs.length (xs.map B8)) (hm : xs.length ≤ 1000000) (hs : Sat w0 w G F) :
    Calls Try.prog 45 #[v] w fun e w' => ∃ u B, e = .returned u ∧ OB u xs B ∧ Sat w0 w' G (B ++ F) := by
  obtain ⟨ad, cap, rfl⟩ := hv.form
  refine f_enter (vs := [_]) Try.func45 rfl Try.ntmps45 (by simp) hs ?_
  refine ww ?_
  cases ad with
  | none =>
    refine c_cond_t rfl ?_
    refine ww ?_
    obtain ⟨_, _, he, h1, h2, h3⟩ := hv
    cases he
    have hx : xs = [] := by
      rcases h3 with ⟨h, _⟩ | ⟨_, _, h, _⟩
      · simpa using h
      · cases h
    subst hx
    exact f_ret1 rfl rfl (fun w hs => ⟨_, [], rfl, Own.zero none _ _, hs⟩)
  | some b =>
    refine c_cond_f rfl ?_
    refine ww ?_
    refine c_cons (s_lit (z := B8 0) (bs := 1) (e := 5) [] (by kernel_rfl) rfl rfl rfl rfl (by simp) rfl (by decide) fun b0 => ?_)
    refine ww ?_
    refine c_cons (s_append (e := 5) (z := B8 0) (sz := 1) (bs := 1) (by kernel_rfl) rfl rfl rfl rfl (Own.full (by simp) (by decide)) Chunk.one (hv.mono (Im.le_refl _) (by simp)) rfl (by decide) (by simp) (by simp [Value.oneCell']) (by simp; omega) (by simp; omega) fun u1 B1 hown1 => ?_)
    simp only [List.length_nil, List.nil_append, Nat.zero_add] at hown1
    refine ww ?_
    exact f_ret1 rfl rfl (fun w hs => ⟨_, B1, rfl, hown1, hs⟩)

theorem wbytesO_c (pn : Nat) (v : Value) (xs : List UInt8) (hm : xs.length ≤ 1000000) (w0 w : World) (G : Im) (F : Hp) (hv : SV G [] v xs.length (xs.map B8)) (hs : Sat w0 w G (WP pn v :: F)) :
    Calls Try.prog 66 #[Pt pn 0] w fun e w' => ∃ u B, e = .returned (.tuple #[u, I64 0]) ∧ OB u xs B ∧ Sat w0 w' G (B ++ (WP pn v :: F)) := by
  obtain ⟨ad, c, rfl, hc1, hc2, hc3⟩ := id hv
  refine f_enter (vs := [_]) Try.func66 rfl Try.ntmps66 (by simp) hs ?_
  refine ww ?_
  refine c_cond_f rfl ?_
  refine ww ?_
  refine c_cons (s_val (v_field 1 rfl (by kernel_rfl)) rfl rfl rfl ?_)
  refine c_cons (s_val (v_load rfl (Cel.head rfl) (by kernel_rfl)) rfl rfl rfl ?_)
  refine ww ?_
  refine c_kf 7 rfl (by simp) ?_
  refine c_cond_f rfl ?_
  refine ww ?_
  refine c_cons (s_val (v_field 0 rfl (by kernel_rfl)) rfl rfl rfl ?_)
  refine c_cons (s_val (v_load rfl (Cel.head rfl) (by kernel_rfl)) rfl rfl rfl ?_)
  refine c_cons (s_call (xs := [_]) rfl rfl rfl rfl rfl rfl (by kernel_rfl) (fun w hs => cloneO_c _ xs _ w _ _ hv hm hs) ?_)
  rintro e w' ⟨u1, B1, rfl, hu1, hs'⟩; refine a_ret ?_ hs'; clear hs'
  refine ww ?_
  exact f_ret2 rfl rfl rfl (fun w hs => ⟨u1, B1, rfl, hu1, hs⟩)

end Go.Proofs.Ytkjneelekfdpfaa
