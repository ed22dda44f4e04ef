/-
  From round 570 to round 810 of the loop of 'Fill' (evaluated by the kernel). No condition.
-/
import Derived.Test.YtjkahbgkfenfcaaGreatDoorScanSt
set_option linter.unusedVariables false
namespace Go.Proofs.YtjkahbgkfenfcaaGreatDoor.scanExamples
open Ev
set_option maxRecDepth 100000
theorem b8 : roundsB Tryz.prog (drawE Tryz.prog) callW pieceN 100000 pieceB 240 s570 s810 = true := by
  decide +kernel
end Go.Proofs.YtjkahbgkfenfcaaGreatDoor.scanExamples
