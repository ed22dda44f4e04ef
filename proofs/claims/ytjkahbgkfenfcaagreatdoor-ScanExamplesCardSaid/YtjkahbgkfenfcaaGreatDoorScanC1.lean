/-
  A closed fact of the card of the law ScanExamples. No condition.
-/
import Derived.Test.YtjkahbgkfenfcaaGreatDoorRows
import Derived.Stop.Joined
import Derived.SevenTiedAt
import Derived.KernelRfl
namespace Go.Proofs.YtjkahbgkfenfcaaGreatDoor.scanExamples
theorem cMain : Tryz.pinned.checked.prog.mainIs = some (true, "01cd5262505fbd9bb744749c57230db3d500909731fbf238f39c94d79f6301c3".toList) := by kernel_rfl
end Go.Proofs.YtjkahbgkfenfcaaGreatDoor.scanExamples
