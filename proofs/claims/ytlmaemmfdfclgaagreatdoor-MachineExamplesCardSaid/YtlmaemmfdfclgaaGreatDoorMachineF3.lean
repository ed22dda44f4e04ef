/-
  A closed fact of the program: 'recurses' of the law MachineExamples. No condition.
-/
import Derived.Test.YtlmaemmfdfclgaaGreatDoorRows
import Derived.Test.YtlmaemmfdfclgaaGreatDoorMachineG3
namespace Go.Proofs.YtlmaemmfdfclgaaGreatDoor.machineExamples
theorem fRe : Tryz.checked.prog.recurses 3 = Rows.machineExamplesRow.recurses := gRe
end Go.Proofs.YtlmaemmfdfclgaaGreatDoor.machineExamples
