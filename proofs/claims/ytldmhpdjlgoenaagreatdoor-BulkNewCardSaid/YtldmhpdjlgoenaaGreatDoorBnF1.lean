/-
  A closed fact of the program: 'inPlace' of the law BulkNew. No condition.
-/
import Derived.Test.YtldmhpdjlgoenaaGreatDoorRows
import Derived.Test.YtldmhpdjlgoenaaGreatDoorBnG1
namespace Go.Proofs.YtldmhpdjlgoenaaGreatDoor.bulkNew
theorem fIn : Tryz.checked.prog.inPlace 3 = Rows.bulkNewRow.inPlace := gIn
end Go.Proofs.YtldmhpdjlgoenaaGreatDoor.bulkNew
