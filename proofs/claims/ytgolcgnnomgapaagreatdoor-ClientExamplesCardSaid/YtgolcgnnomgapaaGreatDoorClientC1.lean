/-
  A closed fact of the card of the law ClientExamples. No condition.
-/
import Derived.Test.YtgolcgnnomgapaaGreatDoorCards
import Derived.Test.YtgolcgnnomgapaaGreatDoorTie
import Derived.Stop.Joined
import Derived.SevenTiedAt
import Derived.KernelRfl
namespace Go.Proofs.YtgolcgnnomgapaaGreatDoor.clientExamples
theorem cMain : Tryz.pinned.checked.prog.mainIs = some (true, "2e4151cabcf031622be3f9bbcc0b14e51ab41973e0c8f06062dd371da9e05020".toList) := by kernel_rfl
end Go.Proofs.YtgolcgnnomgapaaGreatDoor.clientExamples
