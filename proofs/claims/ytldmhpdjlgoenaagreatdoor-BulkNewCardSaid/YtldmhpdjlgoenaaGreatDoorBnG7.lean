/-
  A closed fact of the program of the law BulkNew: no function goes. No condition.
-/
import Derived.Test.YtldmhpdjlgoenaaGreatDoorProg
import GoSem.ClaimGoes
import Derived.JoinedOf
import Derived.KernelRfl
set_option linter.unusedVariables false
namespace Go.Proofs.YtldmhpdjlgoenaaGreatDoor.bulkNew
theorem gStill : (Tryz.prog.funcs.toList.all fun fn : Func => !fn.goes) = true := by decide +kernel
end Go.Proofs.YtldmhpdjlgoenaaGreatDoor.bulkNew
