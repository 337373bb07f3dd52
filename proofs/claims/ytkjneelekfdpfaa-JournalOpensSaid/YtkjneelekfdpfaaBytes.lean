/- pinstriperef1.Same. -/
import Derived.Test.YtkjneelekfdpfaaRange
import Derived.Test.YtkjneelekfdpfaaProg
namespace Go.Proofs.Ytkjneelekfdpfaa
open Go
set_option linter.unusedVariables false
set_option maxHeartbeats 400000
attribute [local irreducible] Code.wp wpList stepK Holds Val wpR Eff Eff0 Code.wpIn wpListIn stepI Exit.then Exit.inBlock bodyPost bodyPostM

theorem same_c (va vb : Value) (xs ys : List UInt8) (w0 w : World) (G : Im) (H : Hp) (ha : SV G H va xs.length (xs.map B8)) (hb : SV G H vb ys.length (ys.map B8)) (hs : Sat w0 w G H) :
    Calls Try.prog 30 #[va, vb] w fun e w' => e = .returned (.bool (decide (xs = ys))) ∧ Sat w0 w' G H := by
  obtain ⟨aa, ca, rfl, ha1, ha2, ha3⟩ := ha
  obtain ⟨ab, cb, rfl, hb1, hb2, hb3⟩ := hb
  unfold maxLen at ha2 hb2
  refine f_enter (vs := [_, _]) Try.func30 rfl Try.ntmps30 (by simp) hs ?_
  refine ww ?_
  refine c_cond_d rfl (fun hne => ?_) (fun hne => ?_)
  · refine ww ?_
    refine f_ret1 rfl rfl (fun w hs => ⟨?_, hs⟩)
    have : ¬ xs = ys := fun e => hne (by rw [e])
    simp [this]
  · have hlen : xs.length = ys.length := by omega
    clear hne
    refine ww ?_
    refine c_loop (α := Nat) (fun k => [(5, I64 k), (0, .slice aa xs.length ca), (1, .slice ab ys.length cb)]) (fun _ => G) (fun _ => H) (fun k => k ≤ xs.length ∧ xs.take k = ys.take k) (fun k => xs.length - k) 0 ⟨Nat.zero_le _, by simp⟩ ?_ ?_
    · exact l_at ⟨rfl, rfl, rfl, trivial⟩ (Split.refl H)
    · rintro k ⟨hk, htk⟩
      refine ww ?_
      refine c_cond_d rfl (fun hlt => ?_) (fun hge => ?_)
      · refine ww ?_
        have hkx : k < xs.length := by omega
        have hky : k < ys.length := by omega
        rcases ha3 with ⟨hx0, _⟩ | ⟨b1, o1, rfl, hc1⟩
        · simp at hx0; subst hx0; simp at hkx
        rcases hb3 with ⟨hy0, _⟩ | ⟨b2, o2, rfl, hc2⟩
        · simp at hy0; subst hy0; simp at hky
        have e1 := hc1 k (B8 xs[k]) (by simp [hkx])
        have e2 := hc2 k (B8 ys[k]) (by simp [hky])
        refine r_start [] (by kernel_rfl) ?_
        refine r_tk 0 rfl rfl (v_move rfl) (fun _ h => h) ?_
        refine r_tk 1 rfl rfl (v_move rfl) (fun _ h => h) ?_
        refine r_tk 2 rfl rfl (v_index1 rfl rfl (by kernel_rfl) (by omega)) (fun _ h => h) ?_
        refine r_tk 3 rfl rfl (v_load rfl (by simpa using e1) (by kernel_rfl)) (fun _ h => h) ?_
        refine r_tk 4 rfl rfl (v_move rfl) (fun _ h => h) ?_
        refine r_tk 5 rfl rfl (v_move rfl) (fun _ h => h) ?_
        refine r_tk 6 rfl rfl (v_index1 rfl rfl (by kernel_rfl) (by omega)) (fun _ h => h) ?_
        refine r_tk 7 rfl rfl (v_load rfl (by simpa using e2) (by kernel_rfl)) (fun _ h => h) ?_
        refine r_tk 8 rfl rfl (v_neq rfl rfl) (fun _ h => h) ?_
        refine r_done (by kernel_rfl) ?_
        refine ww ?_
        refine c_cond_d rfl (fun hne => ?_) (fun heq => ?_)
        · refine ww ?_
          refine f_ret1 rfl rfl (fun w hs => ⟨?_, hs⟩)
          have : ¬ xs = ys := fun e => hne (by subst e; rfl)
          simp [this]
        · refine ww ?_
          refine l_next (k + 1) ⟨hkx, ?_⟩ (by omega) ⟨rfl, rfl, rfl, trivial⟩ rfl (Split.refl H)
          have hkk : xs[k] = ys[k] := by
            have : ¬ ¬ (xs[k].toNat : Int) = (ys[k].toNat : Int) := heq
            exact UInt8.toNat_inj.1 (by omega)
          rw [List.take_succ_eq_append_getElem hkx, List.take_succ_eq_append_getElem hky, htk, hkk]
      · refine ww ?_
        refine f_ret1 rfl rfl (fun w hs => ⟨?_, hs⟩)
        have : xs = ys := by
          have e : k = xs.length := by omega
          rw [e, List.take_length, hlen, List.take_length] at htk
          exact htk
        simp [this]
end Go.Proofs.Ytkjneelekfdpfaa
