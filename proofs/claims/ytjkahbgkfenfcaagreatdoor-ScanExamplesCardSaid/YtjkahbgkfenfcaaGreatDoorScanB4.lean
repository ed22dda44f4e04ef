/-
  From round 50 to round 60 of the loop of 'Fill' (evaluated by the kernel). No condition.
-/
import Derived.Test.YtjkahbgkfenfcaaGreatDoorScanSt
set_option linter.unusedVariables false
namespace Go.Proofs.YtjkahbgkfenfcaaGreatDoor.scanExamples
open Ev
set_option maxRecDepth 100000
theorem b4 : roundsB Tryz.prog (drawE Tryz.prog) callW pieceN 100000 pieceB 10 s50 s60 = true := by
  decide +kernel
end Go.Proofs.YtjkahbgkfenfcaaGreatDoor.scanExamples
