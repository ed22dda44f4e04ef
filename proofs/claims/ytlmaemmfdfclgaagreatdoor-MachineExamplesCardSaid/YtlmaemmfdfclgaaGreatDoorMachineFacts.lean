/-
  Closed facts of the program and of the row of the law MachineExamples. No condition.
-/
import Derived.Test.YtlmaemmfdfclgaaGreatDoorMachineF1
import Derived.Test.YtlmaemmfdfclgaaGreatDoorMachineF2
import Derived.Test.YtlmaemmfdfclgaaGreatDoorMachineF3
import Derived.Test.YtlmaemmfdfclgaaGreatDoorMachineF4
import Derived.Test.YtlmaemmfdfclgaaGreatDoorMachineJ
import Derived.Test.YtlmaemmfdfclgaaGreatDoorMachineG5
import Derived.Test.YtlmaemmfdfclgaaGreatDoorMachineG6
import Derived.Test.YtlmaemmfdfclgaaGreatDoorMachineG9
import Derived.Test.YtlmaemmfdfclgaaGreatDoorMachineG8a
import Derived.Test.YtlmaemmfdfclgaaGreatDoorMachineG8b
import Derived.Test.YtlmaemmfdfclgaaGreatDoorMachineG8c
import Derived.Test.YtlmaemmfdfclgaaGreatDoorMachineG8d
set_option linter.unusedVariables false
namespace Go.Proofs.YtlmaemmfdfclgaaGreatDoor.machineExamples
theorem factNamed : Tryz.prog.funcNamed "leapfrog/leapfroglaw37.MachineExamples" = some 3 := gNamed
theorem factInst : Tryz.f3.isInstance Tryz.prog Rows.machineExamplesRow.origin Rows.machineExamplesRow.targs := of_decide_eq_true (by kernel_rfl)
theorem factWrap : Tryz.f3.isWrapper Tryz.prog Rows.machineExamplesRow.wrapper Rows.machineExamplesRow.mainSum := by unfold Func.isWrapper; first | (rw [if_pos (by decide +kernel)]; kernel_rfl) | (rw [if_neg (by decide +kernel)]; exact ⟨rfl, rfl⟩)
theorem hLaid : laidOutB Tryz.checked.prog = true := by
  show laidOutB Tryz.prog = true
  unfold laidOutB
  rw [gGlob, gPars, gSize]
  have e : List.range 702 = List.range' 0 176 ++ List.range' 176 176 ++ List.range' 352 176 ++ List.range' 528 174 := by kernel_rfl
  rw [e]
  simp only [List.all_append, gLaid0, gLaid1, gLaid2, gLaid3, Bool.and_true]
theorem hMaps : mapsRowed Tryz.checked.prog = true := gMaps
theorem factJoined : joinedFacts Tryz.checked.prog 3 Tryz.f3 Rows.machineExamplesSpec Rows.machineExamplesRow = true := by
  unfold joinedFacts
  rw [fIn, fUn, fRe, fVa, hLaid, hMaps, jWf, jTie, jStops, jKnobs, jPlain, jHeard, jMay, jLift, jMake, jPin]
  kernel_rfl
end Go.Proofs.YtlmaemmfdfclgaaGreatDoor.machineExamples
