/-
  A closed fact of the program of the law BulkNew: the variables that it names. No condition.
-/
import Derived.Test.YtldmhpdjlgoenaaGreatDoorProg
import GoSem.ClaimGoes
import Derived.JoinedOf
import Derived.KernelRfl
set_option linter.unusedVariables false
namespace Go.Proofs.YtldmhpdjlgoenaaGreatDoor.bulkNew
theorem gVa : Tryz.prog.varsNamed 3 = ["math/bits.deBruijn64tab"] := by kernel_rfl
end Go.Proofs.YtldmhpdjlgoenaaGreatDoor.bulkNew
