/-
  A closed fact of the program: 'inPlace' of the law BulkExamples. No condition.
-/
import Derived.Test.YtmoagkhedlkbgaaGreatDoorRows
import Derived.Test.YtmoagkhedlkbgaaGreatDoorBulkG1
namespace Go.Proofs.YtmoagkhedlkbgaaGreatDoor.bulkExamples
theorem fIn : Tryz.checked.prog.inPlace 3 = Rows.bulkExamplesRow.inPlace := gIn
end Go.Proofs.YtmoagkhedlkbgaaGreatDoor.bulkExamples
