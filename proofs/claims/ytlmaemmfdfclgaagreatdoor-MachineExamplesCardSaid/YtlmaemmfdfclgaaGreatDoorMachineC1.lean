/-
  A closed fact of the card of the law MachineExamples. No condition.
-/
import Derived.Test.YtlmaemmfdfclgaaGreatDoorRows
import Derived.Stop.Joined
import Derived.SevenTiedAt
import Derived.KernelRfl
namespace Go.Proofs.YtlmaemmfdfclgaaGreatDoor.machineExamples
theorem cMain : Tryz.pinned.checked.prog.mainIs = some (true, "0cc4f4601ac30492b399a4b8bd56f03dccfe4cc379563cc7fe9335665b1d8d85".toList) := by kernel_rfl
end Go.Proofs.YtlmaemmfdfclgaaGreatDoor.machineExamples
