/- pinstripelaw14.PackTwice returns true, and leaves all that was there as it was. -/
import Derived.Test.YtchnoipjfaocbaaDoorRows
import Derived.Test.YtchnoipjfaocbaaDoorCards
import Derived.Test.YtchnoipjfaocbaaDoorTie
import Derived.Test.YtchnoipjfaocbaaDoorPkL5
import Derived.Test.YtchnoipjfaocbaaDoorPkRd
import Derived.Test.YtchnoipjfaocbaaDoorClose
import Derived.Lay
import Derived.LaidLaws
import Derived.SevenTiedAt
namespace Go.Proofs.YtchnoipjfaocbaaDoor
open Go Go.ChangeShapes Go.WideShapes Go.ChangeAt Go.RowKit
set_option linter.unusedVariables false
theorem stands_none {P : Program} {ps : Array TypeId} (h : ps.toList.all (fun t => !P.wantsStandIn t) = true) (j : Nat) (t : TypeId) (ht : ps[j]? = some t) : P.wantsStandIn t = false := by
  have hm : t ∈ ps.toList := by
    rw [← Array.getElem?_toList] at ht
    exact List.mem_of_getElem? ht
  have := List.all_eq_true.1 h t hm
  simpa using this

set_option maxRecDepth 100000 in
theorem packTwice_lifted (os : Os) (started : os.Started) (H : Type) (enc : TypeId × Value → H) :
    ReturnsInHanded {} Tryd.checked os 7 .any (fun w args => (Rows.packTwiceSpec.pre enc Tryd.prog Tryd.f7 [] false w args ∧ laidMetH Tryd.prog Rows.packTwiceRow.laid w) ∧ sizedMet enc Tryd.prog Tryd.f7 (OpenSpec.ofChange Rows.packTwiceSpec) false w args)
      (Rows.packTwiceSpec.post enc Tryd.prog Tryd.f7 false true false false) := by
  refine returnsInHanded_of_change_and (C := Tryd.checked) (X := fun w _ => laidMetH Tryd.prog Rows.packTwiceRow.laid w) (fun _ _ _ hh h => h.of_heap hh) own started (by kernel_rfl) Tryd.func7
    (ChangeSpec.witness_shaped (enc := enc) (C := Tryd.checked) (os := os) (X := fun w _ => laidMetH Tryd.prog Rows.packTwiceRow.laid w) false (World.laidAll Tryd.prog os Rows.packTwiceRow.laid) #[.int .u16 0, .int .i64 0, .slice none 0 0] 8 (World.laidAll_os _ _ _)
      (World.shaped_of_ZipB (by kernel_rfl) (by kernel_rfl)) (by kernel_rfl) (by kernel_rfl) (by kernel_rfl)
      (by rw [MakeChecks.laidMetH_plain _ _ _ (by kernel_rfl)]; exact laidMet_laidAll _ (by kernel_rfl) (by kernel_rfl))) ?_
  intro W base args ds gs before hval0 hW _ _ _ _
  have hval : ∀ (j : Nat) t v, Tryd.f7.params[j]? = some t → args[j]? = some v → Value.okWide Tryd.prog W .any base t v := hval0
  have hW' := hW
  obtain ⟨p, q, hA0, hV, rfl, hfz, hnd⟩ := hW
  have hA : DataW.TrodAll enc Tryd.prog W 0 (fun _ => true) true Tryd.f7.params.toList args.toList ds p := hA0
  rw [Tryd.params7] at hA hval
  obtain ⟨v0, v1, v2, d0, d1, d2, p0, p1, p2, rfl, rfl, rfl, h0, h1, h2⟩ := trodAll_three hA
  obtain ⟨rfl, rfl⟩ := trodVars_none hV
  obtain ⟨a, rfl, ha⟩ := arg_int Tryd.underlying55 (hval 0 _ v0 rfl rfl) h0
  obtain ⟨m, rfl, _⟩ := arg_i64 Tryd.underlying3 (hval 1 _ v1 rfl rfl) h1
  obtain ⟨l, hl⟩ := arg_recs (s := 2) (R := DyR) Tryd.underlying41 (by kernel_rfl) (by decide) rd_dy (hval 2 _ v2 rfl rfl) h2
  refine (law_of (twice_c a ha m v2 l W W (atStart W) [] hl (Sat.start W))).mono fun e W' ⟨he, hw⟩ => ⟨_, he, ?_⟩
  exact law_post 4 hW' rfl rfl Tryd.underlying4 rfl rfl rfl (by kernel_rfl) hw

theorem packTwice_row : Rows.PackTwiceSaid :=
  OpenClaim.holds_of_wide 7 Tryd.f7 rfl rfl rfl rfl rfl rfl rfl ⟨rfl, rfl, rfl, rfl, rfl⟩ rfl rfl rfl rfl rfl (by kernel_rfl) Tryd.func7 (by kernel_rfl)
    (of_decide_eq_true (by kernel_rfl)) (by unfold Func.isWrapper; first | (rw [if_pos (by decide +kernel)]; kernel_rfl) | (rw [if_neg (by decide +kernel)]; exact ⟨rfl, rfl⟩))
    (fun os started H enc _ => packTwice_lifted os started H enc)

theorem packTwice_holds : Rows.PackTwiceCardSaid :=
  Claim7.holds_tied_plain_at .later [] [.data, .pinned] true Rows.packTwiceCard.stood.harness false
    packTwice_row (fun _ h => by cases h) (by kernel_rfl) (fun _ h => by cases h) packTwice_row_tie rfl ⟨rfl, rfl⟩ (by kernel_rfl) rfl
    (fun f fn hf hfn => by
      obtain rfl : f = 7 := Option.some.inj ((show Tryd.prog.funcNamed "pinstripe/pinstripelaw14.PackTwice" = some 7 by kernel_rfl).symm.trans hf) |>.symm
      obtain rfl : fn = Tryd.f7 := (Option.some.inj (Tryd.func7.symm.trans hfn)).symm
      exact ⟨by kernel_rfl, fun j t ht => stands_none (by kernel_rfl) j t ht⟩)
    (by kernel_rfl)
end Go.Proofs.YtchnoipjfaocbaaDoor
