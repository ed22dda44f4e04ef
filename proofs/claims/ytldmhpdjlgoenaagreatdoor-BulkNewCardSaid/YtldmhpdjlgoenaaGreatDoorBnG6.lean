/-
  A closed fact of the program of the law BulkNew: its maps. No condition.
-/
import Derived.Test.YtldmhpdjlgoenaaGreatDoorProg
import GoSem.ClaimGoes
import Derived.JoinedOf
import Derived.KernelRfl
set_option linter.unusedVariables false
namespace Go.Proofs.YtldmhpdjlgoenaaGreatDoor.bulkNew
theorem gMaps : mapsRowed Tryz.prog = true := by kernel_rfl
end Go.Proofs.YtldmhpdjlgoenaaGreatDoor.bulkNew
