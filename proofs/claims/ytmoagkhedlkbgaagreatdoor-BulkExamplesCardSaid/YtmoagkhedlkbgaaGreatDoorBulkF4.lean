/-
  A closed fact of the program: 'varsNamed' of the law BulkExamples. No condition.
-/
import Derived.Test.YtmoagkhedlkbgaaGreatDoorRows
import Derived.Test.YtmoagkhedlkbgaaGreatDoorBulkG4
namespace Go.Proofs.YtmoagkhedlkbgaaGreatDoor.bulkExamples
theorem fVa : Tryz.checked.prog.varsNamed 3 = Rows.bulkExamplesRow.named := gVa
end Go.Proofs.YtmoagkhedlkbgaaGreatDoor.bulkExamples
