/-
  A closed fact of the program: 'varsNamed' of the law ScanExamples. No condition.
-/
import Derived.Test.YtjkahbgkfenfcaaGreatDoorRows
import Derived.Test.YtjkahbgkfenfcaaGreatDoorScanG4
namespace Go.Proofs.YtjkahbgkfenfcaaGreatDoor.scanExamples
theorem fVa : Tryz.checked.prog.varsNamed 3 = Rows.scanExamplesRow.named := gVa
end Go.Proofs.YtjkahbgkfenfcaaGreatDoor.scanExamples
