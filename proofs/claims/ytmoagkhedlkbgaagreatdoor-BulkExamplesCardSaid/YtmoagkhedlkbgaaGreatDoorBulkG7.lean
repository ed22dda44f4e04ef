/-
  A closed fact of the program of the law BulkExamples: no function goes. No condition.
-/
import Derived.Test.YtmoagkhedlkbgaaGreatDoorProg
import GoSem.ClaimGoes
import Derived.JoinedOf
import Derived.KernelRfl
set_option linter.unusedVariables false
namespace Go.Proofs.YtmoagkhedlkbgaaGreatDoor.bulkExamples
theorem gStill : (Tryz.prog.funcs.toList.all fun fn : Func => !fn.goes) = true := by decide +kernel
end Go.Proofs.YtmoagkhedlkbgaaGreatDoor.bulkExamples
