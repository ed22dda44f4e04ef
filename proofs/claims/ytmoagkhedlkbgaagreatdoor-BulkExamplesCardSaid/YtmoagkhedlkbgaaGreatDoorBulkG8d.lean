/-
  A closed fact of the program of the law BulkExamples: how its types lie (423 to 564). No condition.
-/
import Derived.Test.YtmoagkhedlkbgaaGreatDoorProg
import GoSem.ClaimGoes
import Derived.JoinedOf
import Derived.KernelRfl
set_option linter.unusedVariables false
namespace Go.Proofs.YtmoagkhedlkbgaaGreatDoor.bulkExamples
theorem gLaid3 : (List.range' 423 141).all (rowFine Tryz.prog) = true := by decide +kernel
end Go.Proofs.YtmoagkhedlkbgaaGreatDoor.bulkExamples
