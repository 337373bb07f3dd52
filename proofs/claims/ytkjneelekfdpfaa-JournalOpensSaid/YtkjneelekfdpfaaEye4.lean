/- The eye's readings: bytes; yes or no; how much is left. -/
import Derived.Test.YtkjneelekfdpfaaEye3
namespace Go.Proofs.Ytkjneelekfdpfaa
open Go
set_option linter.unusedVariables false
set_option linter.unusedSimpArgs false
set_option maxHeartbeats 3200000
attribute [local irreducible] Code.wp wpList stepK Holds Val wpR Eff Eff0 Code.wpIn wpListIn stepI Exit.then Exit.inBlock bodyPost bodyPostM

end Go.Proofs.Ytkjneelekfdpfaa
