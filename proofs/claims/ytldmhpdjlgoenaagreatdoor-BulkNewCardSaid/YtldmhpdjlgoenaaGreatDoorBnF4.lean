/-
  A closed fact of the program: 'varsNamed' of the law BulkNew. No condition.
-/
import Derived.Test.YtldmhpdjlgoenaaGreatDoorRows
import Derived.Test.YtldmhpdjlgoenaaGreatDoorBnG4
namespace Go.Proofs.YtldmhpdjlgoenaaGreatDoor.bulkNew
theorem fVa : Tryz.checked.prog.varsNamed 3 = Rows.bulkNewRow.named := gVa
end Go.Proofs.YtldmhpdjlgoenaaGreatDoor.bulkNew
