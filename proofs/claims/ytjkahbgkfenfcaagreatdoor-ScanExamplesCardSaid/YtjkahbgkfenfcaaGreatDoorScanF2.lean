/-
  A closed fact of the program: 'unfollowed' of the law ScanExamples. No condition.
-/
import Derived.Test.YtjkahbgkfenfcaaGreatDoorRows
import Derived.Test.YtjkahbgkfenfcaaGreatDoorScanG2
namespace Go.Proofs.YtjkahbgkfenfcaaGreatDoor.scanExamples
theorem fUn : Tryz.checked.prog.unfollowed 3 = Rows.scanExamplesRow.unfollowed := gUn
end Go.Proofs.YtjkahbgkfenfcaaGreatDoor.scanExamples
