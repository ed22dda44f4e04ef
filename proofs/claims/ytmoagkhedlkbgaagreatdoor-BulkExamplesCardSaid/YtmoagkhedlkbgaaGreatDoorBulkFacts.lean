/-
  Closed facts of the program and of the row of the law BulkExamples. No condition.
-/
import Derived.Test.YtmoagkhedlkbgaaGreatDoorBulkF1
import Derived.Test.YtmoagkhedlkbgaaGreatDoorBulkF2
import Derived.Test.YtmoagkhedlkbgaaGreatDoorBulkF3
import Derived.Test.YtmoagkhedlkbgaaGreatDoorBulkF4
import Derived.Test.YtmoagkhedlkbgaaGreatDoorBulkG5
import Derived.Test.YtmoagkhedlkbgaaGreatDoorBulkG6
import Derived.Test.YtmoagkhedlkbgaaGreatDoorBulkG9
import Derived.Test.YtmoagkhedlkbgaaGreatDoorBulkG8a
import Derived.Test.YtmoagkhedlkbgaaGreatDoorBulkG8b
import Derived.Test.YtmoagkhedlkbgaaGreatDoorBulkG8c
import Derived.Test.YtmoagkhedlkbgaaGreatDoorBulkG8d
set_option linter.unusedVariables false
namespace Go.Proofs.YtmoagkhedlkbgaaGreatDoor.bulkExamples
theorem factNamed : Tryz.prog.funcNamed "leapfrog/leapfroglaw33.BulkExamples" = some 3 := gNamed
theorem factInst : Tryz.f3.isInstance Tryz.prog Rows.bulkExamplesRow.origin Rows.bulkExamplesRow.targs := of_decide_eq_true (by kernel_rfl)
theorem factWrap : Tryz.f3.isWrapper Tryz.prog Rows.bulkExamplesRow.wrapper Rows.bulkExamplesRow.mainSum := by unfold Func.isWrapper; first | (rw [if_pos (by decide +kernel)]; kernel_rfl) | (rw [if_neg (by decide +kernel)]; exact ⟨rfl, rfl⟩)
theorem hLaid : laidOutB Tryz.checked.prog = true := by
  show laidOutB Tryz.prog = true
  unfold laidOutB
  rw [gGlob, gPars, gSize]
  have e : List.range 564 = List.range' 0 141 ++ List.range' 141 141 ++ List.range' 282 141 ++ List.range' 423 141 := by kernel_rfl
  rw [e]
  simp only [List.all_append, gLaid0, gLaid1, gLaid2, gLaid3, Bool.and_true]
theorem hMaps : mapsRowed Tryz.checked.prog = true := gMaps
theorem factJoined : joinedFacts Tryz.checked.prog 3 Tryz.f3 Rows.bulkExamplesSpec Rows.bulkExamplesRow = true := by
  unfold joinedFacts
  rw [fIn, fUn, fRe, fVa, hLaid, hMaps]
  kernel_rfl
end Go.Proofs.YtmoagkhedlkbgaaGreatDoor.bulkExamples
