/-
  From round 40 to round 50 of the loop of 'Fill' (evaluated by the kernel). No condition.
-/
import Derived.Test.YtjkahbgkfenfcaaGreatDoorScanSt
set_option linter.unusedVariables false
namespace Go.Proofs.YtjkahbgkfenfcaaGreatDoor.scanExamples
open Ev
set_option maxRecDepth 100000
theorem b3 : roundsB Tryz.prog (drawE Tryz.prog) callW pieceN 100000 pieceB 10 s40 s50 = true := by
  decide +kernel
end Go.Proofs.YtjkahbgkfenfcaaGreatDoor.scanExamples
