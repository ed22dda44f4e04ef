/-
  A closed fact of the program of the law MachineExamples: how its types lie (528 to 702). No condition.
-/
import Derived.Test.YtlmaemmfdfclgaaGreatDoorProg
import GoSem.ClaimGoes
import Derived.JoinedOf
import Derived.KernelRfl
set_option linter.unusedVariables false
namespace Go.Proofs.YtlmaemmfdfclgaaGreatDoor.machineExamples
theorem gLaid3 : (List.range' 528 174).all (rowFine Tryz.prog) = true := by decide +kernel
end Go.Proofs.YtlmaemmfdfclgaaGreatDoor.machineExamples
