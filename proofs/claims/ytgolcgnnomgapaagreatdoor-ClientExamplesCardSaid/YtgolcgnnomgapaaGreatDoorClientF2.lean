/-
  A closed fact of the program: 'unfollowed' of the law ClientExamples. No condition.
-/
import Derived.Test.YtgolcgnnomgapaaGreatDoorRows
import Derived.JoinedOf
import Derived.KernelRfl
namespace Go.Proofs.YtgolcgnnomgapaaGreatDoor.clientExamples
theorem fUn : Tryz.checked.prog.unfollowed 3 = Rows.clientExamplesRow.unfollowed := by kernel_rfl
end Go.Proofs.YtgolcgnnomgapaaGreatDoor.clientExamples
