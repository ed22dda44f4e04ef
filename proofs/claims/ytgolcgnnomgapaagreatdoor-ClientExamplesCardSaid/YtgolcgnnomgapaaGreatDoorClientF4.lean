/-
  A closed fact of the program: 'varsNamed' of the law ClientExamples. No condition.
-/
import Derived.Test.YtgolcgnnomgapaaGreatDoorRows
import Derived.JoinedOf
import Derived.KernelRfl
namespace Go.Proofs.YtgolcgnnomgapaaGreatDoor.clientExamples
theorem fVa : Tryz.checked.prog.varsNamed 3 = Rows.clientExamplesRow.named := by kernel_rfl
end Go.Proofs.YtgolcgnnomgapaaGreatDoor.clientExamples
