/-
  A closed fact of the program of the law ScanExamples: whether it recurses. No condition.
-/
import Derived.Test.YtjkahbgkfenfcaaGreatDoorProg
import GoSem.ClaimGoes
import Derived.JoinedOf
import Derived.KernelRfl
set_option linter.unusedVariables false
namespace Go.Proofs.YtjkahbgkfenfcaaGreatDoor.scanExamples
theorem gRe : Tryz.prog.recurses 3 = true := by kernel_rfl
end Go.Proofs.YtjkahbgkfenfcaaGreatDoor.scanExamples
