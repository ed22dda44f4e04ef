/-
  A closed fact of the card of the law ScanExamples. No condition.
-/
import Derived.Test.YtjkahbgkfenfcaaGreatDoorRows
import Derived.Stop.Joined
import Derived.SevenTiedAt
import Derived.KernelRfl
namespace Go.Proofs.YtjkahbgkfenfcaaGreatDoor.scanExamples
theorem cText : Rows.scanExamplesRow.wfByText (OpenSpec.ofChange Rows.scanExamplesSpec) = true := by kernel_rfl
end Go.Proofs.YtjkahbgkfenfcaaGreatDoor.scanExamples
