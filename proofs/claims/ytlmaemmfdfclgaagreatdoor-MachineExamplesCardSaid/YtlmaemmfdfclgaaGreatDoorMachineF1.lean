/-
  A closed fact of the program: 'inPlace' of the law MachineExamples. No condition.
-/
import Derived.Test.YtlmaemmfdfclgaaGreatDoorRows
import Derived.Test.YtlmaemmfdfclgaaGreatDoorMachineG1
namespace Go.Proofs.YtlmaemmfdfclgaaGreatDoor.machineExamples
theorem fIn : Tryz.checked.prog.inPlace 3 = Rows.machineExamplesRow.inPlace := gIn
end Go.Proofs.YtlmaemmfdfclgaaGreatDoor.machineExamples
