/-
  A closed fact of the program of the law ScanExamples: its number. No condition.
-/
import Derived.Test.YtjkahbgkfenfcaaGreatDoorProg
import GoSem.ClaimGoes
import Derived.JoinedOf
import Derived.KernelRfl
set_option linter.unusedVariables false
namespace Go.Proofs.YtjkahbgkfenfcaaGreatDoor.scanExamples
theorem gNamed : Tryz.prog.funcNamed "leapfrog/leapfroglaw35.ScanExamples" = some 3 := by kernel_rfl
end Go.Proofs.YtjkahbgkfenfcaaGreatDoor.scanExamples
