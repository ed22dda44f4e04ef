/-
  A closed fact of the program of the law BulkNew: its number. No condition.
-/
import Derived.Test.YtldmhpdjlgoenaaGreatDoorProg
import GoSem.ClaimGoes
import Derived.JoinedOf
import Derived.KernelRfl
set_option linter.unusedVariables false
namespace Go.Proofs.YtldmhpdjlgoenaaGreatDoor.bulkNew
theorem gNamed : Tryz.prog.funcNamed "leapfrog/leapfroglaw33.BulkNew" = some 3 := by kernel_rfl
end Go.Proofs.YtldmhpdjlgoenaaGreatDoor.bulkNew
