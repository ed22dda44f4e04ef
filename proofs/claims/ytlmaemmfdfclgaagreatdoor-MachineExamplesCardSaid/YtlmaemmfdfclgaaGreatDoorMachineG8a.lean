/-
  A closed fact of the program of the law MachineExamples: how its types lie (0 to 176). No condition.
-/
import Derived.Test.YtlmaemmfdfclgaaGreatDoorProg
import GoSem.ClaimGoes
import Derived.JoinedOf
import Derived.KernelRfl
set_option linter.unusedVariables false
namespace Go.Proofs.YtlmaemmfdfclgaaGreatDoor.machineExamples
theorem gLaid0 : (List.range' 0 176).all (rowFine Tryz.prog) = true := by decide +kernel
end Go.Proofs.YtlmaemmfdfclgaaGreatDoor.machineExamples
