/- The law's own small functions: Sector, bytes, Room, awake. -/
import Derived.Test.YtkjneelekfdpfaaDskW5
import Derived.Test.YtkjneelekfdpfaaBytes
namespace Go.Proofs.Ytkjneelekfdpfaa
open Go
set_option linter.unusedVariables false
set_option linter.unusedSimpArgs false
set_option maxHeartbeats 3200000
attribute [local irreducible] Code.wp wpList stepK Holds Val wpR Eff Eff0 Code.wpIn wpListIn stepI Exit.then Exit.inBlock bodyPost bodyPostM

theorem readH_c (dp : Nat) (B : Hp) (D : Dk) (hr : DH dp D B) (n : Int) (w0 w : World) (G : Im) (F : Hp) (hs : Sat w0 w G (B ++ F)) :
    Calls Try.prog 56 #[Pt dp 0, I64 n] w fun e w' => ∃ G' u, e = .returned (.tuple #[u, I64 (readS D n).2]) ∧ Im.le G G' ∧ SV G' [] u ((readS D n).1.getD []).length (((readS D n).1.getD []).map B8) ∧ Sat w0 w' G' (B ++ F) := by
  obtain ⟨vn, vl, vs, Bn, Bl, Bs, rfl, hr⟩ := hr
  refine (dread_c dp vn vl vs Bn Bl Bs D hr n w0 w G F (hs.sb)).mono ?_
  rintro e w' ⟨G', u, he, hG, hu, hs'⟩
  exact ⟨G', u, he, hG, hu, hs'.sb⟩
theorem opsH_c (dp : Nat) (B : Hp) (D : Dk) (hr : DH dp D B) (w0 w : World) (G : Im) (F : Hp) (hs : Sat w0 w G (B ++ F)) :
    Calls Try.prog 29 #[Pt dp 0] w fun e w' => e = .returned (I64 D.ops) ∧ Sat w0 w' G (B ++ F) := by
  obtain ⟨vn, vl, vs, Bn, Bl, Bs, rfl, hr⟩ := hr
  exact ops_c dp vn vl vs _ _ _ w0 w G _ hs
theorem deadH_c (dp : Nat) (B : Hp) (D : Dk) (hr : DH dp D B) (w0 w : World) (G : Im) (F : Hp) (hs : Sat w0 w G (B ++ F)) :
    Calls Try.prog 20 #[Pt dp 0] w fun e w' => e = .returned (.bool D.dead) ∧ Sat w0 w' G (B ++ F) := by
  obtain ⟨vn, vl, vs, Bn, Bl, Bs, rfl, hr⟩ := hr
  exact dead_c dp vn vl vs _ _ _ w0 w G _ hs
theorem sectorsH_c (dp : Nat) (B : Hp) (D : Dk) (hr : DH dp D B) (w0 w : World) (G : Im) (F : Hp) (hs : Sat w0 w G (B ++ F)) :
    Calls Try.prog 35 #[Pt dp 0] w fun e w' => e = .returned (I64 D.now.length) ∧ Sat w0 w' G (B ++ F) := by
  obtain ⟨vn, vl, vs, Bn, Bl, Bs, rfl, hr⟩ := hr
  obtain ⟨ad, c, hv, _⟩ := hr.n.form
  exact sectors_c dp vn vl vs ad _ c hv _ _ _ w0 w G _ hs
theorem fuseH_c (dp : Nat) (B : Hp) (D : Dk) (hr : DH dp D B) (n : Int) (hn : n ≤ 9223372036854775807) (w0 w : World) (G : Im) (F : Hp) (hs : Sat w0 w G (B ++ F)) :
    Calls Try.prog 19 #[Pt dp 0, I64 n] w fun e w' => ∃ B', e = .returned (.tuple #[]) ∧ DH dp (fuseS D n) B' ∧ Sat w0 w' G (B' ++ F) := by
  obtain ⟨vn, vl, vs, Bn, Bl, Bs, rfl, hr⟩ := hr
  refine (fuse_c dp vn vl vs _ _ _ n w0 w G _ hs).mono ?_
  rintro e w' ⟨he, hs'⟩
  exact ⟨_, he, ⟨vn, vl, vs, Bn, Bl, Bs, rfl, ⟨hr.wf.k2, hr.wf.kM, hr.wf.kl, hr.wf.ks, hr.wf.sm, ⟨by simp only [fuseS]; omega, by simp only [fuseS]; omega⟩, hr.wf.o0⟩, hr.n, hr.l, hr.s⟩, hs'⟩

end Go.Proofs.Ytkjneelekfdpfaa
