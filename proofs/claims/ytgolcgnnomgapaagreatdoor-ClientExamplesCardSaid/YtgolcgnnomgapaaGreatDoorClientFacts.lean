/-
  Closed facts of the program and of the row of the law ClientExamples. No condition.
-/
import Derived.Test.YtgolcgnnomgapaaGreatDoorClientF1
import Derived.Test.YtgolcgnnomgapaaGreatDoorClientF2
import Derived.Test.YtgolcgnnomgapaaGreatDoorClientF3
import Derived.Test.YtgolcgnnomgapaaGreatDoorClientF4
set_option linter.unusedVariables false
namespace Go.Proofs.YtgolcgnnomgapaaGreatDoor.clientExamples
theorem factNamed : Tryz.prog.funcNamed "leapfrog/leapfroglaw36.ClientExamples" = some 3 := by kernel_rfl
theorem factInst : Tryz.f3.isInstance Tryz.prog Rows.clientExamplesRow.origin Rows.clientExamplesRow.targs := of_decide_eq_true (by kernel_rfl)
theorem factWrap : Tryz.f3.isWrapper Tryz.prog Rows.clientExamplesRow.wrapper Rows.clientExamplesRow.mainSum := by unfold Func.isWrapper; first | (rw [if_pos (by decide +kernel)]; kernel_rfl) | (rw [if_neg (by decide +kernel)]; exact ⟨rfl, rfl⟩)
theorem factJoined : joinedFacts Tryz.checked.prog 3 Tryz.f3 Rows.clientExamplesSpec Rows.clientExamplesRow = true := by
  unfold joinedFacts
  rw [fIn, fUn, fRe, fVa]
  kernel_rfl
end Go.Proofs.YtgolcgnnomgapaaGreatDoor.clientExamples
