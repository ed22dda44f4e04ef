/-
  A closed fact of the program of the law BulkExamples: its maps. No condition.
-/
import Derived.Test.YtmoagkhedlkbgaaGreatDoorProg
import GoSem.ClaimGoes
import Derived.JoinedOf
import Derived.KernelRfl
set_option linter.unusedVariables false
namespace Go.Proofs.YtmoagkhedlkbgaaGreatDoor.bulkExamples
theorem gMaps : mapsRowed Tryz.prog = true := by kernel_rfl
end Go.Proofs.YtmoagkhedlkbgaaGreatDoor.bulkExamples
