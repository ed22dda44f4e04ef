/-
  A closed fact of the program: 'recurses' of the law ClientExamples. No condition.
-/
import Derived.Test.YtgolcgnnomgapaaGreatDoorRows
import Derived.JoinedOf
import Derived.KernelRfl
namespace Go.Proofs.YtgolcgnnomgapaaGreatDoor.clientExamples
theorem fRe : Tryz.checked.prog.recurses 3 = Rows.clientExamplesRow.recurses := by kernel_rfl
end Go.Proofs.YtgolcgnnomgapaaGreatDoor.clientExamples
