/-
  A closed fact of the program of the law MachineExamples: how its types lie (352 to 528). No condition.
-/
import Derived.Test.YtlmaemmfdfclgaaGreatDoorProg
import GoSem.ClaimGoes
import Derived.JoinedOf
import Derived.KernelRfl
set_option linter.unusedVariables false
namespace Go.Proofs.YtlmaemmfdfclgaaGreatDoor.machineExamples
theorem gLaid2 : (List.range' 352 176).all (rowFine Tryz.prog) = true := by decide +kernel
end Go.Proofs.YtlmaemmfdfclgaaGreatDoor.machineExamples
