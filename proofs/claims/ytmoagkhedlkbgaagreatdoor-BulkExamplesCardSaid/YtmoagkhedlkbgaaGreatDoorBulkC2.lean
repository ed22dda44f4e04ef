/-
  A closed fact of the card of the law BulkExamples. No condition.
-/
import Derived.Test.YtmoagkhedlkbgaaGreatDoorRows
import Derived.Stop.Joined
import Derived.SevenTiedAt
import Derived.KernelRfl
namespace Go.Proofs.YtmoagkhedlkbgaaGreatDoor.bulkExamples
theorem cLooks : false = Tryz.pinned.checked.prog.looks [] := by kernel_rfl
end Go.Proofs.YtmoagkhedlkbgaaGreatDoor.bulkExamples
