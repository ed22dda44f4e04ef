/-
  Closed facts of the program and of the row of the law ScanExamples, one by one. No condition.
-/
import Derived.Test.YtjkahbgkfenfcaaGreatDoorRows
import Derived.JoinedOf
import Derived.KernelRfl
namespace Go.Proofs.YtjkahbgkfenfcaaGreatDoor.scanExamples
theorem jWf : Rows.scanExamplesRow.wf (OpenSpec.ofChange Rows.scanExamplesSpec) = true := by kernel_rfl
theorem jTie : namedTie Tryz.checked.prog Rows.scanExamplesRow.named Rows.scanExamplesSpec.vars = true := by kernel_rfl
theorem jStops : (Tryz.checked.prog.stops == []) = true := by kernel_rfl
theorem jKnobs : (Tryz.checked.prog.stopKnobs == []) = true := by kernel_rfl
theorem jPlain : (Rows.scanExamplesRow.plainKeys == Tryz.checked.prog.plainKeys) = true := by kernel_rfl
theorem jHeard : Tryz.checked.prog.stopsHeard = true := by kernel_rfl
theorem jMay : Tryz.checked.prog.mayEnter = true := by kernel_rfl
theorem jLift : (Rows.scanExamplesRow.lifted == Tryz.checked.prog.liftsFinal) = true := by kernel_rfl
theorem jMake : (Tryz.checked.prog.make == some Rows.scanExamplesRow.make) = true := by kernel_rfl
theorem jPin : (Rows.scanExamplesRow.pinned == Rows.scanExamplesRow.pinnedBy) = true := by kernel_rfl
end Go.Proofs.YtjkahbgkfenfcaaGreatDoor.scanExamples
