/-
  A closed fact of the program of the law BulkNew: how its types lie (0 to 181). No condition.
-/
import Derived.Test.YtldmhpdjlgoenaaGreatDoorProg
import GoSem.ClaimGoes
import Derived.JoinedOf
import Derived.KernelRfl
set_option linter.unusedVariables false
namespace Go.Proofs.YtldmhpdjlgoenaaGreatDoor.bulkNew
theorem gLaid0 : (List.range' 0 181).all (rowFine Tryz.prog) = true := by decide +kernel
end Go.Proofs.YtldmhpdjlgoenaaGreatDoor.bulkNew
