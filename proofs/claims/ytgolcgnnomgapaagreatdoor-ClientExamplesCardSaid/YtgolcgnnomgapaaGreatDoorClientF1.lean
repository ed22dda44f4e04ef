/-
  A closed fact of the program: 'inPlace' of the law ClientExamples. No condition.
-/
import Derived.Test.YtgolcgnnomgapaaGreatDoorRows
import Derived.JoinedOf
import Derived.KernelRfl
namespace Go.Proofs.YtgolcgnnomgapaaGreatDoor.clientExamples
theorem fIn : Tryz.checked.prog.inPlace 3 = Rows.clientExamplesRow.inPlace := by kernel_rfl
end Go.Proofs.YtgolcgnnomgapaaGreatDoor.clientExamples
