/-
  A closed fact of the program of the law BulkExamples: how its types lie (282 to 423). No condition.
-/
import Derived.Test.YtmoagkhedlkbgaaGreatDoorProg
import GoSem.ClaimGoes
import Derived.JoinedOf
import Derived.KernelRfl
set_option linter.unusedVariables false
namespace Go.Proofs.YtmoagkhedlkbgaaGreatDoor.bulkExamples
theorem gLaid2 : (List.range' 282 141).all (rowFine Tryz.prog) = true := by decide +kernel
end Go.Proofs.YtmoagkhedlkbgaaGreatDoor.bulkExamples
