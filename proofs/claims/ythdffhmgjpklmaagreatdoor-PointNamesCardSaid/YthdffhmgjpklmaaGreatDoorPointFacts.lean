/-
  Closed facts of the program and of the row of the law PointNames. No condition.
-/
import Derived.Test.YthdffhmgjpklmaaGreatDoorRows
import Derived.JoinedOf
import Derived.KernelRfl
set_option linter.unusedVariables false
namespace Go.Proofs.YthdffhmgjpklmaaGreatDoor.pointNames
theorem factNamed : Tryz.prog.funcNamed "leapfrog/leapfroglaw32.PointNames" = some 3 := by kernel_rfl
theorem factInst : Tryz.f3.isInstance Tryz.prog Rows.pointNamesRow.origin Rows.pointNamesRow.targs := of_decide_eq_true (by kernel_rfl)
theorem factWrap : Tryz.f3.isWrapper Tryz.prog Rows.pointNamesRow.wrapper Rows.pointNamesRow.mainSum := by unfold Func.isWrapper; first | (rw [if_pos (by decide +kernel)]; kernel_rfl) | (rw [if_neg (by decide +kernel)]; exact ⟨rfl, rfl⟩)
theorem factJoined : joinedFacts Tryz.checked.prog 3 Tryz.f3 Rows.pointNamesSpec Rows.pointNamesRow = true := by kernel_rfl
end Go.Proofs.YthdffhmgjpklmaaGreatDoor.pointNames
