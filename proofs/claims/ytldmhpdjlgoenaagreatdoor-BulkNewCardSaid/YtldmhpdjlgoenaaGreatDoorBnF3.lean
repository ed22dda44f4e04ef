/-
  A closed fact of the program: 'recurses' of the law BulkNew. No condition.
-/
import Derived.Test.YtldmhpdjlgoenaaGreatDoorRows
import Derived.Test.YtldmhpdjlgoenaaGreatDoorBnG3
namespace Go.Proofs.YtldmhpdjlgoenaaGreatDoor.bulkNew
theorem fRe : Tryz.checked.prog.recurses 3 = Rows.bulkNewRow.recurses := gRe
end Go.Proofs.YtldmhpdjlgoenaaGreatDoor.bulkNew
