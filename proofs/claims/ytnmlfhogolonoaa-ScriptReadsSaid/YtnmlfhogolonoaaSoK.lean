/-
  What the evaluator says of the law's 'known': it returns true. No condition.
-/
import Derived.Test.YtnmlfhogolonoaaEvT
import Derived.Test.YtnmlfhogolonoaaEvZd
import Derived.Test.YtnmlfhogolonoaaRows
import Derived.Below
import Derived.KernelRfl
set_option linter.unusedVariables false
namespace Go.Proofs.Ytnmlfhogolonoaa
open Go.RowKit
set_option maxRecDepth 100000 in
/-- what the evaluator says of 'known', evaluated by the kernel -/
theorem saysKnown : Ev.saysE Try.prog (Ev.drawE Try.prog) (fun _ => none) (fun _ => none) 100000 (59 + 1) 11 = some true := by
  decide +kernel
theorem hasKnown : Ev.hasE Try.prog 11 = true := by kernel_rfl
theorem known11 (W : World) : Calls Try.prog 11 #[] W fun e W' => e = .returned (.bool true) ∧ Below W.heap.size W W' :=
  (Ev.says_closed (Ev.drawE_ok Try.checked.mixed) (fun _ _ h => by cases h) (fun _ _ h => by cases h) hasKnown saysKnown W).mono fun e w' hh =>
    ⟨hh.1, hh.2.1.os, hh.2.1.tape, hh.2.1.output, hh.2.2.1, hh.2.2.2⟩
end Go.Proofs.Ytnmlfhogolonoaa
