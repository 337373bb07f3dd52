/- From a contract to what a law says. -/
import Derived.Test.YtkjneelekfdpfaaOpen
import Derived.Test.YtkjneelekfdpfaaFrame
namespace Go.Proofs.Ytkjneelekfdpfaa
set_option linter.unusedVariables false
open Go Go.ChangeShapes Go.WideShapes Go.ChangeAt Go.RowKit
theorem law_of {P : Program} {f : Nat} {args : Array Value} {W : World} (h : Calls P f args W fun e w' => ∃ G', e = .returned (.bool true) ∧ Im.le (atStart W) G' ∧ Sat W w' G' []) :
    Calls P f args W fun e w' => e = .returned (.bool true) ∧ Go.RowKit.Below W.heap.size W w' :=
  h.mono fun e w' ⟨G', he, hG, hs⟩ => ⟨he, hs.below hG⟩
end Go.Proofs.Ytkjneelekfdpfaa
