/-
  A closed fact of the program of the law BulkNew: how its types lie (543 to 723). No condition.
-/
import Derived.Test.YtldmhpdjlgoenaaGreatDoorProg
import GoSem.ClaimGoes
import Derived.JoinedOf
import Derived.KernelRfl
set_option linter.unusedVariables false
namespace Go.Proofs.YtldmhpdjlgoenaaGreatDoor.bulkNew
theorem gLaid3 : (List.range' 543 180).all (rowFine Tryz.prog) = true := by decide +kernel
end Go.Proofs.YtldmhpdjlgoenaaGreatDoor.bulkNew
