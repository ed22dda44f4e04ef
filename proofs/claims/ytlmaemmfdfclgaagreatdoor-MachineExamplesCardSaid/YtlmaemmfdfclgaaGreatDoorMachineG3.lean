/-
  A closed fact of the program of the law MachineExamples: whether it recurses. No condition.
-/
import Derived.Test.YtlmaemmfdfclgaaGreatDoorProg
import GoSem.ClaimGoes
import Derived.JoinedOf
import Derived.KernelRfl
set_option linter.unusedVariables false
namespace Go.Proofs.YtlmaemmfdfclgaaGreatDoor.machineExamples
theorem gRe : Tryz.prog.recurses 3 = true := by kernel_rfl
end Go.Proofs.YtlmaemmfdfclgaaGreatDoor.machineExamples
