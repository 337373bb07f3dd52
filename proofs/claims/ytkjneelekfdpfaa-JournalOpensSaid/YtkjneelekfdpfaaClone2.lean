/- bytes.Clone of bytes that may be owned. -/
import Derived.Test.YtkjneelekfdpfaaClone
namespace Go.Proofs.Ytkjneelekfdpfaa
open Go
set_option linter.unusedVariables false
set_option maxHeartbeats 400000
attribute [local irreducible] Code.wp wpList stepK Holds Val wpR Eff Eff0 Code.wpIn wpListIn stepI Exit.then Exit.inBlock bodyPost bodyPostM

theorem cloneH_c (v : Value) (xs : List UInt8) (w0 w : World) (G : Im) (F : Hp) (hv : SV G F v xs.length (xs.map B8)) (hm : xs.length ≤ 1000000) (hs : Sat w0 w G F) :
    Calls Try.prog 45 #[v] w fun e w' => ∃ G' u, e = .returned u ∧ Im.le G G' ∧ SV G' [] u xs.length (xs.map B8) ∧ Sat w0 w' G' F := by
  obtain ⟨ad, cap, rfl⟩ := hv.form
  refine f_enter (vs := [_]) Try.func45 rfl Try.ntmps45 (by simp) hs ?_
  refine ww ?_
  cases ad with
  | none =>
    refine c_cond_t rfl ?_
    refine ww ?_
    obtain ⟨_, _, he, h1, h2, h3⟩ := hv
    cases he
    have hx : xs = [] := by
      rcases h3 with ⟨h, _⟩ | ⟨_, _, h, _⟩
      · simpa using h
      · cases h
    subst hx
    exact f_ret1 rfl rfl (fun w hs => ⟨G, _, rfl, Im.le_refl G, SV.nil _ _, hs⟩)
  | some b =>
    refine c_cond_f rfl ?_
    refine ww ?_
    refine c_cons (s_lit (z := B8 0) (bs := 1) (e := 5) [] (by kernel_rfl) rfl rfl rfl rfl (by simp) rfl (by decide) fun b0 => ?_)
    refine ww ?_
    refine c_cons (s_append (e := 5) (z := B8 0) (sz := 1) (bs := 1) (by kernel_rfl) rfl rfl rfl rfl (Own.full (by simp) (by decide)) Chunk.one (hv.mono (Im.le_refl _) mem_cons_of) rfl (by decide) (by simp) (by simp [Value.oneCell']) (by simp; omega) (by simp; omega) fun u1 B1 hown1 => ?_)
    simp only [List.length_nil, List.nil_append, Nat.zero_add] at hown1
    refine c_freezeO hown1 Chunk.head fun G1 hG1 hsv1 => ?_
    refine ww ?_
    exact f_ret1 rfl rfl (fun w hs => ⟨G1, _, rfl, hG1, hsv1, hs⟩)
end Go.Proofs.Ytkjneelekfdpfaa
