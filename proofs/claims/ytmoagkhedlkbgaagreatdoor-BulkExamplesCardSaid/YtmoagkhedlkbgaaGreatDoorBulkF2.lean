/-
  A closed fact of the program: 'unfollowed' of the law BulkExamples. No condition.
-/
import Derived.Test.YtmoagkhedlkbgaaGreatDoorRows
import Derived.Test.YtmoagkhedlkbgaaGreatDoorBulkG2
namespace Go.Proofs.YtmoagkhedlkbgaaGreatDoor.bulkExamples
theorem fUn : Tryz.checked.prog.unfollowed 3 = Rows.bulkExamplesRow.unfollowed := gUn
end Go.Proofs.YtmoagkhedlkbgaaGreatDoor.bulkExamples
