/-
  What the evaluator says of the law MachineExamples (evaluated by the kernel): it returns true. Condition: the table of package math/bits is as the program's text lays it.
-/
import Derived.Test.YtlmaemmfdfclgaaGreatDoorMachineKnown
set_option linter.unusedVariables false
namespace Go.Proofs.YtlmaemmfdfclgaaGreatDoor.machineExamples
open Ev
set_option maxRecDepth 100000
theorem says : saysF Tryz.prog (drawE Tryz.prog) (lookX xl) (noS) 100000 (59 + 1) 3 h0 = some true := by
  decide +kernel
theorem has : hasE Tryz.prog 3 = true := by kernel_rfl
end Go.Proofs.YtlmaemmfdfclgaaGreatDoor.machineExamples
