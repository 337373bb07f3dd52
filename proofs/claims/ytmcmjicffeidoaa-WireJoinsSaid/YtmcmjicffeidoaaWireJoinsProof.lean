/- pinstripelaw1.WireJoins returns true, and leaves all that was there as it was. -/
import Derived.Test.YtmcmjicffeidoaaRows
import Derived.Test.YtmcmjicffeidoaaWirL6
import Derived.Test.YtmcmjicffeidoaaClose
namespace Go.Proofs.Ytmcmjicffeidoaa
open Go Go.ChangeShapes Go.WideShapes Go.ChangeAt Go.RowKit
set_option linter.unusedVariables false

/-- An argument that is a deed. -/
theorem arg_dd {H : Type} {enc : TypeId × Value → H} {W : World} {r : Reach} {b0 : Nat} {v : Value} {d : DataW H} {ps : List MemPlace} (hval : Value.okWide Try.prog W r b0 39 v) (hd : DataW.Trod enc Try.prog W 0 (fun _ => true) true 39 v d ps) : ∃ (x : Dd) (u : Value), v = .agg #[I64 x.d, I64 x.x, I64 x.n, u] ∧ EB (atStart W) u x.b := by
  obtain ⟨x, u, hx, hu⟩ := rd_dd _ (arg_rd hd)
  obtain ⟨cells, rfl, _⟩ := okWide_struct Try.underlying39 hval
  refine ⟨x, u, ?_, hu⟩
  have : cells.toList = [I64 x.d, I64 x.x, I64 x.n, u] := by simpa [Value.cells] using hx
  have h2 : cells = #[I64 x.d, I64 x.x, I64 x.n, u] := by
    apply Array.ext'; simpa using this
  rw [h2]

set_option maxRecDepth 100000 in
theorem wireJoins_lifted (os : Os) (started : os.Started) (H : Type) (enc : TypeId × Value → H) :
    ReturnsInHanded {} Try.checked os 5 .any (Rows.wireJoinsSpec.pre6 enc Try.prog Try.f5 Rows.wireJoinsRow.domain false) (Rows.wireJoinsSpec.post enc Try.prog Try.f5 false true false false) := by
  refine returnsInHanded_of_change (C := Try.checked) own started (by kernel_rfl) Try.func5
    (ChangeSpec.witness6 (enc := enc) (C := Try.checked) false ⟨#[], #[.slice none 0 0, .slice none 0 0, .agg #[.int .i64 0, .int .i64 0, .int .i64 0, .slice none 0 0]], []⟩ 8 (by kernel_rfl) (by kernel_rfl) (by kernel_rfl) (by kernel_rfl)) ?_
  intro W base args ds gs before hval0 hW hcnd _
  have hval : ∀ (j : Nat) t v, Try.f5.params[j]? = some t → args[j]? = some v → Value.okWide Try.prog W .any base t v := hval0
  have hW' := hW
  obtain ⟨p, q, hA0, hV, rfl, hfz, hnd⟩ := hW
  have hA : DataW.TrodAll enc Try.prog W 0 (fun _ => true) true Try.f5.params.toList args.toList ds p := hA0
  rw [Try.params5] at hA hval
  obtain ⟨v0, v1, v2, d0, d1, d2, p0, p1, p2, rfl, rfl, rfl, h0, h1, h2⟩ := trodAll_three hA
  obtain ⟨rfl, rfl⟩ := trodVars_none hV
  obtain ⟨l, hl⟩ := arg_recs (s := 4) (R := DdR) Try.underlying22 (by kernel_rfl) (by decide) rd_dd (hval 0 _ v0 rfl rfl) h0
  obtain ⟨k, hk⟩ := arg_recs (s := 4) (R := DdR) Try.underlying22 (by kernel_rfl) (by decide) rd_dd (hval 1 _ v1 rfl rfl) h1
  obtain ⟨x, u, rfl, hu⟩ := arg_dd (hval 2 _ v2 rfl rfl) h2
  refine (law_of (wireJoins_c v0 v1 l k x u W W (atStart W) [] hl hk hu (Sat.start W))).mono fun e W' ⟨he, hw⟩ => ⟨_, he, ?_⟩
  exact law_post 4 hW' rfl rfl Try.underlying4 rfl rfl rfl (by kernel_rfl) hw

theorem wireJoins_holds : Rows.WireJoinsSaid :=
  OpenClaim.holds_of_wide 5 Try.f5 rfl rfl rfl rfl rfl rfl rfl ⟨rfl, rfl, rfl, rfl, rfl⟩ rfl rfl rfl rfl rfl (by kernel_rfl) Try.func5 (by kernel_rfl)
    (of_decide_eq_true (by kernel_rfl)) (by unfold Func.isWrapper; first | (rw [if_pos (by decide +kernel)]; kernel_rfl) | (rw [if_neg (by decide +kernel)]; exact ⟨rfl, rfl⟩))
    (fun os started H enc _ => wireJoins_lifted os started H enc)
end Go.Proofs.Ytmcmjicffeidoaa
