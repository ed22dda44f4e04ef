/-
  A closed fact of the program of the law MachineExamples: no function goes. No condition.
-/
import Derived.Test.YtlmaemmfdfclgaaGreatDoorProg
import GoSem.ClaimGoes
import Derived.JoinedOf
import Derived.KernelRfl
set_option linter.unusedVariables false
namespace Go.Proofs.YtlmaemmfdfclgaaGreatDoor.machineExamples
theorem gStill : (Tryz.prog.funcs.toList.all fun fn : Func => !fn.goes) = true := by decide +kernel
end Go.Proofs.YtlmaemmfdfclgaaGreatDoor.machineExamples
