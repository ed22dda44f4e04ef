/-
  A closed fact of the program: 'recurses' of the law BulkExamples. No condition.
-/
import Derived.Test.YtmoagkhedlkbgaaGreatDoorRows
import Derived.Test.YtmoagkhedlkbgaaGreatDoorBulkG3
namespace Go.Proofs.YtmoagkhedlkbgaaGreatDoor.bulkExamples
theorem fRe : Tryz.checked.prog.recurses 3 = Rows.bulkExamplesRow.recurses := gRe
end Go.Proofs.YtmoagkhedlkbgaaGreatDoor.bulkExamples
