/-
  A closed fact of the program of the law BulkNew: whether it recurses. No condition.
-/
import Derived.Test.YtldmhpdjlgoenaaGreatDoorProg
import GoSem.ClaimGoes
import Derived.JoinedOf
import Derived.KernelRfl
set_option linter.unusedVariables false
namespace Go.Proofs.YtldmhpdjlgoenaaGreatDoor.bulkNew
theorem gRe : Tryz.prog.recurses 3 = true := by kernel_rfl
end Go.Proofs.YtldmhpdjlgoenaaGreatDoor.bulkNew
