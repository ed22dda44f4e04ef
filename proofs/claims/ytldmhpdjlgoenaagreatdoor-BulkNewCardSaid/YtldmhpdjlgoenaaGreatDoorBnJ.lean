/-
  Closed facts of the program and of the row of the law BulkNew, one by one. No condition.
-/
import Derived.Test.YtldmhpdjlgoenaaGreatDoorRows
import Derived.JoinedOf
import Derived.KernelRfl
namespace Go.Proofs.YtldmhpdjlgoenaaGreatDoor.bulkNew
theorem jWf : Rows.bulkNewRow.wf (OpenSpec.ofChange Rows.bulkNewSpec) = true := by kernel_rfl
theorem jTie : namedTie Tryz.checked.prog Rows.bulkNewRow.named Rows.bulkNewSpec.vars = true := by kernel_rfl
theorem jStops : (Tryz.checked.prog.stops == []) = true := by kernel_rfl
theorem jKnobs : (Tryz.checked.prog.stopKnobs == []) = true := by kernel_rfl
theorem jPlain : (Rows.bulkNewRow.plainKeys == Tryz.checked.prog.plainKeys) = true := by kernel_rfl
theorem jHeard : Tryz.checked.prog.stopsHeard = true := by kernel_rfl
theorem jMay : Tryz.checked.prog.mayEnter = true := by kernel_rfl
theorem jLift : (Rows.bulkNewRow.lifted == Tryz.checked.prog.liftsFinal) = true := by kernel_rfl
theorem jMake : (Tryz.checked.prog.make == some Rows.bulkNewRow.make) = true := by kernel_rfl
theorem jPin : (Rows.bulkNewRow.pinned == Rows.bulkNewRow.pinnedBy) = true := by kernel_rfl
end Go.Proofs.YtldmhpdjlgoenaaGreatDoor.bulkNew
