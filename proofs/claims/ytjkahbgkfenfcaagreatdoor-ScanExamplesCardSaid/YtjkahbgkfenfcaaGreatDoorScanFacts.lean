/-
  Closed facts of the program and of the row of the law ScanExamples. No condition.
-/
import Derived.Test.YtjkahbgkfenfcaaGreatDoorScanF1
import Derived.Test.YtjkahbgkfenfcaaGreatDoorScanF2
import Derived.Test.YtjkahbgkfenfcaaGreatDoorScanF3
import Derived.Test.YtjkahbgkfenfcaaGreatDoorScanF4
import Derived.Test.YtjkahbgkfenfcaaGreatDoorScanJ
import Derived.Test.YtjkahbgkfenfcaaGreatDoorScanG5
import Derived.Test.YtjkahbgkfenfcaaGreatDoorScanG6
import Derived.Test.YtjkahbgkfenfcaaGreatDoorScanG9
import Derived.Test.YtjkahbgkfenfcaaGreatDoorScanG8a
import Derived.Test.YtjkahbgkfenfcaaGreatDoorScanG8b
import Derived.Test.YtjkahbgkfenfcaaGreatDoorScanG8c
import Derived.Test.YtjkahbgkfenfcaaGreatDoorScanG8d
set_option linter.unusedVariables false
namespace Go.Proofs.YtjkahbgkfenfcaaGreatDoor.scanExamples
theorem factNamed : Tryz.prog.funcNamed "leapfrog/leapfroglaw35.ScanExamples" = some 3 := gNamed
theorem factInst : Tryz.f3.isInstance Tryz.prog Rows.scanExamplesRow.origin Rows.scanExamplesRow.targs := of_decide_eq_true (by kernel_rfl)
theorem factWrap : Tryz.f3.isWrapper Tryz.prog Rows.scanExamplesRow.wrapper Rows.scanExamplesRow.mainSum := by unfold Func.isWrapper; first | (rw [if_pos (by decide +kernel)]; kernel_rfl) | (rw [if_neg (by decide +kernel)]; exact ⟨rfl, rfl⟩)
theorem hLaid : laidOutB Tryz.checked.prog = true := by
  show laidOutB Tryz.prog = true
  unfold laidOutB
  rw [gGlob, gPars, gSize]
  have e : List.range 649 = List.range' 0 163 ++ List.range' 163 163 ++ List.range' 326 163 ++ List.range' 489 160 := by kernel_rfl
  rw [e]
  simp only [List.all_append, gLaid0, gLaid1, gLaid2, gLaid3, Bool.and_true]
theorem hMaps : mapsRowed Tryz.checked.prog = true := gMaps
theorem factJoined : joinedFacts Tryz.checked.prog 3 Tryz.f3 Rows.scanExamplesSpec Rows.scanExamplesRow = true := by
  unfold joinedFacts
  rw [fIn, fUn, fRe, fVa, hLaid, hMaps, jWf, jTie, jStops, jKnobs, jPlain, jHeard, jMay, jLift, jMake, jPin]
  kernel_rfl
end Go.Proofs.YtjkahbgkfenfcaaGreatDoor.scanExamples
