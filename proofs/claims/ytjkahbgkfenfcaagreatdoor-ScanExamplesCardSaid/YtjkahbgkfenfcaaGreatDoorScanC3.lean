/-
  A closed fact of the card of the law ScanExamples: no function of the program starts a goroutine. No condition.
-/
import Derived.Test.YtjkahbgkfenfcaaGreatDoorRows
import Derived.Test.YtjkahbgkfenfcaaGreatDoorScanG7
import Derived.Stop.Joined
import Derived.SevenTiedAt
import Derived.KernelRfl
namespace Go.Proofs.YtjkahbgkfenfcaaGreatDoor.scanExamples
theorem still_at (f : FuncId) : Tryz.prog.goes f = false := by
  have one : ∀ (g : Nat) (fn : Func), Tryz.prog.funcs[g]? = some fn → fn.goes = false := fun g fn hg => by
    have := List.all_eq_true.1 gStill fn (by simpa using Array.mem_of_getElem? hg)
    simpa using this
  unfold Program.goes
  rw [Bool.or_eq_false_iff]
  constructor
  · rw [List.any_eq_false]
    intro g _
    cases hg : Tryz.prog.funcs[g]? with
    | none => simp
    | some fn => simp [one g fn hg]
  · have : Tryz.prog.funcs.any Func.goes = false := by
      rw [Array.any_eq_false]
      intro i hi
      have := one i Tryz.prog.funcs[i] (by simp [hi])
      simp [this]
    rw [this, Bool.and_false]
theorem cGoes : false = Rows.scanExamplesRow.goesBy Tryz.pinned.checked.prog := by
  show false = Tryz.prog.goesAt .entering Rows.scanExamplesRow.func
  unfold Program.goesAt Program.goesFrom
  cases Tryz.prog.funcNamed Rows.scanExamplesRow.func with
  | none => rfl
  | some f => simp [still_at f]
end Go.Proofs.YtjkahbgkfenfcaaGreatDoor.scanExamples
