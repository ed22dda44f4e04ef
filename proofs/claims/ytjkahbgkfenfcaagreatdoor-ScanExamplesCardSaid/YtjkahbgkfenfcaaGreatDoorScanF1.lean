/-
  A closed fact of the program: 'inPlace' of the law ScanExamples. No condition.
-/
import Derived.Test.YtjkahbgkfenfcaaGreatDoorRows
import Derived.Test.YtjkahbgkfenfcaaGreatDoorScanG1
namespace Go.Proofs.YtjkahbgkfenfcaaGreatDoor.scanExamples
theorem fIn : Tryz.checked.prog.inPlace 3 = Rows.scanExamplesRow.inPlace := gIn
end Go.Proofs.YtjkahbgkfenfcaaGreatDoor.scanExamples
