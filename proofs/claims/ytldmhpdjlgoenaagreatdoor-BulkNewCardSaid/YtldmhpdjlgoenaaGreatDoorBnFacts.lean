/-
  Closed facts of the program and of the row of the law BulkNew. No condition.
-/
import Derived.Test.YtldmhpdjlgoenaaGreatDoorBnF1
import Derived.Test.YtldmhpdjlgoenaaGreatDoorBnF2
import Derived.Test.YtldmhpdjlgoenaaGreatDoorBnF3
import Derived.Test.YtldmhpdjlgoenaaGreatDoorBnF4
import Derived.Test.YtldmhpdjlgoenaaGreatDoorBnJ
import Derived.Test.YtldmhpdjlgoenaaGreatDoorBnG5
import Derived.Test.YtldmhpdjlgoenaaGreatDoorBnG6
import Derived.Test.YtldmhpdjlgoenaaGreatDoorBnG9
import Derived.Test.YtldmhpdjlgoenaaGreatDoorBnG8a
import Derived.Test.YtldmhpdjlgoenaaGreatDoorBnG8b
import Derived.Test.YtldmhpdjlgoenaaGreatDoorBnG8c
import Derived.Test.YtldmhpdjlgoenaaGreatDoorBnG8d
set_option linter.unusedVariables false
namespace Go.Proofs.YtldmhpdjlgoenaaGreatDoor.bulkNew
theorem factNamed : Tryz.prog.funcNamed "leapfrog/leapfroglaw33.BulkNew" = some 3 := gNamed
theorem factInst : Tryz.f3.isInstance Tryz.prog Rows.bulkNewRow.origin Rows.bulkNewRow.targs := of_decide_eq_true (by kernel_rfl)
theorem factWrap : Tryz.f3.isWrapper Tryz.prog Rows.bulkNewRow.wrapper Rows.bulkNewRow.mainSum := by unfold Func.isWrapper; first | (rw [if_pos (by decide +kernel)]; kernel_rfl) | (rw [if_neg (by decide +kernel)]; exact ⟨rfl, rfl⟩)
theorem hLaid : laidOutB Tryz.checked.prog = true := by
  show laidOutB Tryz.prog = true
  unfold laidOutB
  rw [gGlob, gPars, gSize]
  have e : List.range 723 = List.range' 0 181 ++ List.range' 181 181 ++ List.range' 362 181 ++ List.range' 543 180 := by kernel_rfl
  rw [e]
  simp only [List.all_append, gLaid0, gLaid1, gLaid2, gLaid3, Bool.and_true]
theorem hMaps : mapsRowed Tryz.checked.prog = true := gMaps
theorem factJoined : joinedFacts Tryz.checked.prog 3 Tryz.f3 Rows.bulkNewSpec Rows.bulkNewRow = true := by
  unfold joinedFacts
  rw [fIn, fUn, fRe, fVa, hLaid, hMaps, jWf, jTie, jStops, jKnobs, jPlain, jHeard, jMay, jLift, jMake, jPin]
  kernel_rfl
end Go.Proofs.YtldmhpdjlgoenaaGreatDoor.bulkNew
