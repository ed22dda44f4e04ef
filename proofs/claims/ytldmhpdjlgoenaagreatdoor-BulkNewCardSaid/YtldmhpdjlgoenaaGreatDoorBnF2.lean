/-
  A closed fact of the program: 'unfollowed' of the law BulkNew. No condition.
-/
import Derived.Test.YtldmhpdjlgoenaaGreatDoorRows
import Derived.Test.YtldmhpdjlgoenaaGreatDoorBnG2
namespace Go.Proofs.YtldmhpdjlgoenaaGreatDoor.bulkNew
theorem fUn : Tryz.checked.prog.unfollowed 3 = Rows.bulkNewRow.unfollowed := gUn
end Go.Proofs.YtldmhpdjlgoenaaGreatDoor.bulkNew
