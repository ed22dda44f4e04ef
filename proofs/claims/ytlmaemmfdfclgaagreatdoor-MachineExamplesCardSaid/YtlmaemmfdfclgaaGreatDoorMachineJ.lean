/-
  Closed facts of the program and of the row of the law MachineExamples, one by one. No condition.
-/
import Derived.Test.YtlmaemmfdfclgaaGreatDoorRows
import Derived.JoinedOf
import Derived.KernelRfl
namespace Go.Proofs.YtlmaemmfdfclgaaGreatDoor.machineExamples
theorem jWf : Rows.machineExamplesRow.wf (OpenSpec.ofChange Rows.machineExamplesSpec) = true := by kernel_rfl
theorem jTie : namedTie Tryz.checked.prog Rows.machineExamplesRow.named Rows.machineExamplesSpec.vars = true := by kernel_rfl
theorem jStops : (Tryz.checked.prog.stops == []) = true := by kernel_rfl
theorem jKnobs : (Tryz.checked.prog.stopKnobs == []) = true := by kernel_rfl
theorem jPlain : (Rows.machineExamplesRow.plainKeys == Tryz.checked.prog.plainKeys) = true := by kernel_rfl
theorem jHeard : Tryz.checked.prog.stopsHeard = true := by kernel_rfl
theorem jMay : Tryz.checked.prog.mayEnter = true := by kernel_rfl
theorem jLift : (Rows.machineExamplesRow.lifted == Tryz.checked.prog.liftsFinal) = true := by kernel_rfl
theorem jMake : (Tryz.checked.prog.make == some Rows.machineExamplesRow.make) = true := by kernel_rfl
theorem jPin : (Rows.machineExamplesRow.pinned == Rows.machineExamplesRow.pinnedBy) = true := by kernel_rfl
end Go.Proofs.YtlmaemmfdfclgaaGreatDoor.machineExamples
