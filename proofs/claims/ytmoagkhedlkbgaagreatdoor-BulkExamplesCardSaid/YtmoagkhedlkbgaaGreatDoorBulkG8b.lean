/-
  A closed fact of the program of the law BulkExamples: how its types lie (141 to 282). No condition.
-/
import Derived.Test.YtmoagkhedlkbgaaGreatDoorProg
import GoSem.ClaimGoes
import Derived.JoinedOf
import Derived.KernelRfl
set_option linter.unusedVariables false
namespace Go.Proofs.YtmoagkhedlkbgaaGreatDoor.bulkExamples
theorem gLaid1 : (List.range' 141 141).all (rowFine Tryz.prog) = true := by decide +kernel
end Go.Proofs.YtmoagkhedlkbgaaGreatDoor.bulkExamples
