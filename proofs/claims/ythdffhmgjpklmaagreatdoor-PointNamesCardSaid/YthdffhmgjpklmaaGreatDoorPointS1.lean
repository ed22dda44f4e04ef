/-
  What the evaluator says of the function 'awake' of the chapter's laws (evaluated by the kernel): it returns true and leaves old memory as it was. Condition: the table of package math/bits is as the program's text lays it.
-/
import Derived.Test.YthdffhmgjpklmaaGreatDoorPointKnown
set_option linter.unusedVariables false
namespace Go.Proofs.YthdffhmgjpklmaaGreatDoor.pointNames
open Ev
set_option maxRecDepth 100000
theorem saysAwake : saysF Tryz.prog (drawE Tryz.prog) (lookX xl) (noS) 100000 (59 + 1) 10 h0 = some true := by
  decide +kernel
theorem hasAwake : hasE Tryz.prog 10 = true := by kernel_rfl
theorem known1 : KnownS Tryz.prog (addS 10 true chk (noS)) :=
  addS_known known0 hasAwake fun ρ h w hc hr =>
    says_closed (drawE_ok Tryz.checked.mixed) (lookX_known xk) known0 hasAwake (by kernel_rfl) rfl tabH_mut ((saysF_eq hNG _ _ _ _ _ _ _).symm.trans saysAwake) w (tabH_hr g0 (hasTab_w g0 hc hr))
end Go.Proofs.YthdffhmgjpklmaaGreatDoor.pointNames
