/-
  A closed fact of the program of the law BulkExamples: how its types lie (0 to 141). No condition.
-/
import Derived.Test.YtmoagkhedlkbgaaGreatDoorProg
import GoSem.ClaimGoes
import Derived.JoinedOf
import Derived.KernelRfl
set_option linter.unusedVariables false
namespace Go.Proofs.YtmoagkhedlkbgaaGreatDoor.bulkExamples
theorem gLaid0 : (List.range' 0 141).all (rowFine Tryz.prog) = true := by decide +kernel
end Go.Proofs.YtmoagkhedlkbgaaGreatDoor.bulkExamples
