/-
  A closed fact of the program of the law MachineExamples: how its types lie (176 to 352). No condition.
-/
import Derived.Test.YtlmaemmfdfclgaaGreatDoorProg
import GoSem.ClaimGoes
import Derived.JoinedOf
import Derived.KernelRfl
set_option linter.unusedVariables false
namespace Go.Proofs.YtlmaemmfdfclgaaGreatDoor.machineExamples
theorem gLaid1 : (List.range' 176 176).all (rowFine Tryz.prog) = true := by decide +kernel
end Go.Proofs.YtlmaemmfdfclgaaGreatDoor.machineExamples
