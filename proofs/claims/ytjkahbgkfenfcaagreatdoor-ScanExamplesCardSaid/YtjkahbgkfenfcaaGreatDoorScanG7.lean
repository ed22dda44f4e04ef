/-
  A closed fact of the program of the law ScanExamples: no function goes. No condition.
-/
import Derived.Test.YtjkahbgkfenfcaaGreatDoorProg
import GoSem.ClaimGoes
import Derived.JoinedOf
import Derived.KernelRfl
set_option linter.unusedVariables false
namespace Go.Proofs.YtjkahbgkfenfcaaGreatDoor.scanExamples
theorem gStill : (Tryz.prog.funcs.toList.all fun fn : Func => !fn.goes) = true := by decide +kernel
end Go.Proofs.YtjkahbgkfenfcaaGreatDoor.scanExamples
