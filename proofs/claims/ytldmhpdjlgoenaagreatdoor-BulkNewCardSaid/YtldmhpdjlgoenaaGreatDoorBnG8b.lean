/-
  A closed fact of the program of the law BulkNew: how its types lie (181 to 362). No condition.
-/
import Derived.Test.YtldmhpdjlgoenaaGreatDoorProg
import GoSem.ClaimGoes
import Derived.JoinedOf
import Derived.KernelRfl
set_option linter.unusedVariables false
namespace Go.Proofs.YtldmhpdjlgoenaaGreatDoor.bulkNew
theorem gLaid1 : (List.range' 181 181).all (rowFine Tryz.prog) = true := by decide +kernel
end Go.Proofs.YtldmhpdjlgoenaaGreatDoor.bulkNew
