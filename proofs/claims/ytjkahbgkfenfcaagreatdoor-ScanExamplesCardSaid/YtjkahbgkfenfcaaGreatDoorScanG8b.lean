/-
  A closed fact of the program of the law ScanExamples: how its types lie (163 to 326). No condition.
-/
import Derived.Test.YtjkahbgkfenfcaaGreatDoorProg
import GoSem.ClaimGoes
import Derived.JoinedOf
import Derived.KernelRfl
set_option linter.unusedVariables false
namespace Go.Proofs.YtjkahbgkfenfcaaGreatDoor.scanExamples
theorem gLaid1 : (List.range' 163 163).all (rowFine Tryz.prog) = true := by decide +kernel
end Go.Proofs.YtjkahbgkfenfcaaGreatDoor.scanExamples
