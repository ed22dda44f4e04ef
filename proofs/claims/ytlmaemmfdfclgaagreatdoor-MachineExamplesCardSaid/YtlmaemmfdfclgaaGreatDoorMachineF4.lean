/-
  A closed fact of the program: 'varsNamed' of the law MachineExamples. No condition.
-/
import Derived.Test.YtlmaemmfdfclgaaGreatDoorRows
import Derived.Test.YtlmaemmfdfclgaaGreatDoorMachineG4
namespace Go.Proofs.YtlmaemmfdfclgaaGreatDoor.machineExamples
theorem fVa : Tryz.checked.prog.varsNamed 3 = Rows.machineExamplesRow.named := gVa
end Go.Proofs.YtlmaemmfdfclgaaGreatDoor.machineExamples
