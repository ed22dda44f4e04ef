/-
  A closed fact of the program of the law BulkExamples: its number. No condition.
-/
import Derived.Test.YtmoagkhedlkbgaaGreatDoorProg
import GoSem.ClaimGoes
import Derived.JoinedOf
import Derived.KernelRfl
set_option linter.unusedVariables false
namespace Go.Proofs.YtmoagkhedlkbgaaGreatDoor.bulkExamples
theorem gNamed : Tryz.prog.funcNamed "leapfrog/leapfroglaw33.BulkExamples" = some 3 := by kernel_rfl
end Go.Proofs.YtmoagkhedlkbgaaGreatDoor.bulkExamples
