/-
  A closed fact of the card of the law BulkExamples. No condition.
-/
import Derived.Test.YtmoagkhedlkbgaaGreatDoorRows
import Derived.Stop.Joined
import Derived.SevenTiedAt
import Derived.KernelRfl
namespace Go.Proofs.YtmoagkhedlkbgaaGreatDoor.bulkExamples
theorem cMain : Tryz.pinned.checked.prog.mainIs = some (true, "dfa40843557e452eb6bcd6b1293389ab1ee600f5885c29550607b582f8cecafa".toList) := by kernel_rfl
end Go.Proofs.YtmoagkhedlkbgaaGreatDoor.bulkExamples
