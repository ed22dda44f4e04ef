/-
  A closed fact of the card of the law MachineExamples. No condition.
-/
import Derived.Test.YtlmaemmfdfclgaaGreatDoorRows
import Derived.Stop.Joined
import Derived.SevenTiedAt
import Derived.KernelRfl
namespace Go.Proofs.YtlmaemmfdfclgaaGreatDoor.machineExamples
theorem cLooks : true = Tryz.pinned.checked.prog.looks [] := by kernel_rfl
end Go.Proofs.YtlmaemmfdfclgaaGreatDoor.machineExamples
