/-
  A closed fact of the program: 'recurses' of the law ScanExamples. No condition.
-/
import Derived.Test.YtjkahbgkfenfcaaGreatDoorRows
import Derived.Test.YtjkahbgkfenfcaaGreatDoorScanG3
namespace Go.Proofs.YtjkahbgkfenfcaaGreatDoor.scanExamples
theorem fRe : Tryz.checked.prog.recurses 3 = Rows.scanExamplesRow.recurses := gRe
end Go.Proofs.YtjkahbgkfenfcaaGreatDoor.scanExamples
