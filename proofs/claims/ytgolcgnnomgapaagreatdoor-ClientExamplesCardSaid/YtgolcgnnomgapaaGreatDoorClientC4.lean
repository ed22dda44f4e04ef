/-
  A closed fact of the card of the law ClientExamples. No condition.
-/
import Derived.Test.YtgolcgnnomgapaaGreatDoorCards
import Derived.Test.YtgolcgnnomgapaaGreatDoorTie
import Derived.Stop.Joined
import Derived.SevenTiedAt
import Derived.KernelRfl
namespace Go.Proofs.YtgolcgnnomgapaaGreatDoor.clientExamples
theorem cText : Rows.clientExamplesRow.wfByText (OpenSpec.ofChange Rows.clientExamplesSpec) = true := by kernel_rfl
end Go.Proofs.YtgolcgnnomgapaaGreatDoor.clientExamples
