/-
  What the evaluator says of the function 'examples' of the chapter's laws (evaluated by the kernel): it returns true and leaves old memory as it was. Condition: the table of package math/bits is as the program's text lays it.
-/
import Derived.Test.YthdffhmgjpklmaaGreatDoorPointS1
set_option linter.unusedVariables false
namespace Go.Proofs.YthdffhmgjpklmaaGreatDoor.pointNames
open Ev
set_option maxRecDepth 100000
theorem saysExamples : saysF Tryz.prog (drawE Tryz.prog) (lookX xl) (addS 10 true chk (noS)) 100000 (59 + 1) 9 h0 = some true := by
  decide +kernel
theorem hasExamples : hasE Tryz.prog 9 = true := by kernel_rfl
theorem known2 : KnownS Tryz.prog (addS 9 true chk (addS 10 true chk (noS))) :=
  addS_known known1 hasExamples fun ρ h w hc hr =>
    says_closed (drawE_ok Tryz.checked.mixed) (lookX_known xk) known1 hasExamples (by kernel_rfl) rfl tabH_mut ((saysF_eq hNG _ _ _ _ _ _ _).symm.trans saysExamples) w (tabH_hr g0 (hasTab_w g0 hc hr))
end Go.Proofs.YthdffhmgjpklmaaGreatDoor.pointNames
