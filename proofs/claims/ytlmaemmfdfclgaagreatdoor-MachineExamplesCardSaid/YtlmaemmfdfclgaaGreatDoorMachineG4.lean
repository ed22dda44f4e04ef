/-
  A closed fact of the program of the law MachineExamples: the variables that it names. No condition.
-/
import Derived.Test.YtlmaemmfdfclgaaGreatDoorProg
import GoSem.ClaimGoes
import Derived.JoinedOf
import Derived.KernelRfl
set_option linter.unusedVariables false
namespace Go.Proofs.YtlmaemmfdfclgaaGreatDoor.machineExamples
theorem gVa : Tryz.prog.varsNamed 3 = ["math/bits.deBruijn64tab"] := by kernel_rfl
end Go.Proofs.YtlmaemmfdfclgaaGreatDoor.machineExamples
