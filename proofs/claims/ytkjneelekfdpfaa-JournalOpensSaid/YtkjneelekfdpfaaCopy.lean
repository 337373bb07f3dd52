/- pinstriperef1.Copy. -/
import Derived.Test.YtkjneelekfdpfaaOps3
import Derived.Test.YtkjneelekfdpfaaProg
namespace Go.Proofs.Ytkjneelekfdpfaa
open Go
set_option linter.unusedVariables false
set_option maxHeartbeats 400000
attribute [local irreducible] Code.wp wpList stepK Holds Val wpR Eff Eff0 Code.wpIn wpListIn stepI Exit.then Exit.inBlock bodyPost bodyPostM

theorem copy_c (v : Value) (xs : List UInt8) (w0 w : World) (G : Im) (F : Hp) (hv : SV G [] v xs.length (xs.map B8)) (hm : xs.length ≤ 1000000) (hs : Sat w0 w G F) :
    Calls Try.prog 52 #[v] w fun e w' => ∃ G' u, e = .returned u ∧ Im.le G G' ∧ SV G' [] u xs.length (xs.map B8) ∧ Sat w0 w' G' F := by
  obtain ⟨ad, cap, rfl, h1, h2, h3⟩ := hv
  unfold maxLen at h2
  refine f_enter (vs := [_]) Try.func52 rfl Try.ntmps52 (by simp) hs ?_
  refine ww ?_
  refine c_loop (α := Nat × Value × Hp) (fun x => [(4, I64 x.1), (3, x.2.1), (0, .slice ad xs.length cap)]) (fun _ => G) (fun x => x.2.2 ++ F) (fun x => x.1 ≤ xs.length ∧ Own x.2.1 x.1 ((xs.take x.1).map B8) 5 1 x.2.2) (fun x => xs.length - x.1) (0, .slice none 0 0, []) ⟨Nat.zero_le _, Own.nil _ _⟩ ?_ ?_
  · exact l_at ⟨rfl, rfl, rfl, trivial⟩ (Split.refl _)
  · rintro ⟨i, u, B⟩ ⟨hi, hown⟩
    dsimp only at hi hown ⊢
    refine ww ?_
    refine c_cond_d rfl (fun hlt => ?_) (fun hge => ?_)
    · have hix : i < xs.length := by omega
      rcases h3 with ⟨hx0, _⟩ | ⟨b, o, rfl, hc⟩
      · simp at hx0; rw [hx0] at hix; simp at hix
      have e1 := fun H' => (hc i (B8 xs[i]) (by simp [hix])).mono (H' := H') (Im.le_refl G) (by simp)
      refine ww ?_
      refine c_cons (s_val (v_index1 rfl rfl (by kernel_rfl) (by omega)) rfl rfl rfl ?_)
      refine c_cons (s_val (v_load rfl (by simpa using e1 _) (by kernel_rfl)) rfl rfl rfl ?_)
      refine c_cons (s_lit (z := B8 0) (bs := 1) (e := 5) [_] (by kernel_rfl) rfl rfl rfl rfl (by simp [Value.oneCell']) rfl (by decide) fun bz => ?_)
      refine c_cons (s_append (e := 5) (z := B8 0) (sz := 1) (bs := 1) (by kernel_rfl) rfl rfl rfl rfl hown (Chunk.tail Chunk.head) (SV.block .head (by simp [maxLen])) rfl (by decide) rfl (by simp [Value.oneCell']) (by simp; omega) (by simp; omega) fun u2 B2 hown2 => ?_)
      obtain ⟨Rz, hsp⟩ := Split.mid1 B2 F (bz, Cs [B8 xs[i]] 5)
      refine ww ?_
      refine l_next (x := (i, u, B)) (i + 1, u2, B2) ⟨by omega, ?_⟩ (by dsimp only; omega) ⟨rfl, rfl, rfl, trivial⟩ rfl hsp
      rw [List.take_succ_eq_append_getElem hix, List.map_append]
      exact hown2
    · have e : i = xs.length := by omega
      subst e
      rw [List.take_length] at hown
      refine ww ?_
      refine c_freezeO hown Chunk.head fun G1 hG1 hsv1 => ?_
      exact f_ret1 rfl rfl (fun w hs => ⟨G1, u, rfl, hG1, hsv1, hs⟩)
end Go.Proofs.Ytkjneelekfdpfaa
