/-
  From round 330 to round 570 of the loop of 'Fill' (evaluated by the kernel). No condition.
-/
import Derived.Test.YtjkahbgkfenfcaaGreatDoorScanSt
set_option linter.unusedVariables false
namespace Go.Proofs.YtjkahbgkfenfcaaGreatDoor.scanExamples
open Ev
set_option maxRecDepth 100000
theorem b7 : roundsB Tryz.prog (drawE Tryz.prog) callW pieceN 100000 pieceB 240 s330 s570 = true := by
  decide +kernel
end Go.Proofs.YtjkahbgkfenfcaaGreatDoor.scanExamples
