/-
  A closed fact of the program: 'unfollowed' of the law MachineExamples. No condition.
-/
import Derived.Test.YtlmaemmfdfclgaaGreatDoorRows
import Derived.Test.YtlmaemmfdfclgaaGreatDoorMachineG2
namespace Go.Proofs.YtlmaemmfdfclgaaGreatDoor.machineExamples
theorem fUn : Tryz.checked.prog.unfollowed 3 = Rows.machineExamplesRow.unfollowed := gUn
end Go.Proofs.YtlmaemmfdfclgaaGreatDoor.machineExamples
