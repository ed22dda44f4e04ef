/-
  What the evaluator says of the law ScanExamples (evaluated by the kernel): it returns true. Condition: the table of package math/bits is as the program's text lays it.
-/
import Derived.Test.YtjkahbgkfenfcaaGreatDoorScanB1
import Derived.Test.YtjkahbgkfenfcaaGreatDoorScanB2
import Derived.Test.YtjkahbgkfenfcaaGreatDoorScanB3
import Derived.Test.YtjkahbgkfenfcaaGreatDoorScanB4
import Derived.Test.YtjkahbgkfenfcaaGreatDoorScanB5
import Derived.Test.YtjkahbgkfenfcaaGreatDoorScanB6
import Derived.Test.YtjkahbgkfenfcaaGreatDoorScanB7
import Derived.Test.YtjkahbgkfenfcaaGreatDoorScanB8
import Derived.Test.YtjkahbgkfenfcaaGreatDoorRows
set_option linter.unusedVariables false
namespace Go.Proofs.YtjkahbgkfenfcaaGreatDoor.scanExamples
open Ev
set_option maxRecDepth 100000
theorem callW_ok : CallOK true Tryz.prog callW := callG_ok hNG (drawE_ok Tryz.checked.mixed) (lookX_known xk) known0 _ _
theorem toEnd : RoundsTo Tryz.prog pieceB pieceN s0.tm s0.h s810.tm s810.h := ((((((((roundsB_sound (drawE_ok Tryz.checked.mixed) callW_ok b1).trans (roundsB_sound (drawE_ok Tryz.checked.mixed) callW_ok b2)).trans (roundsB_sound (drawE_ok Tryz.checked.mixed) callW_ok b3)).trans (roundsB_sound (drawE_ok Tryz.checked.mixed) callW_ok b4)).trans (roundsB_sound (drawE_ok Tryz.checked.mixed) callW_ok b5)).trans (roundsB_sound (drawE_ok Tryz.checked.mixed) callW_ok b6)).trans (roundsB_sound (drawE_ok Tryz.checked.mixed) callW_ok b7)).trans (roundsB_sound (drawE_ok Tryz.checked.mixed) callW_ok b8))
noncomputable def callT : CallE := withP 4 (pieceF Tryz.prog (drawE Tryz.prog) callW 100000 s0 s810 sE args0 Tryz.f4) callW
theorem callT_ok : CallOK true Tryz.prog callT :=
  withP_okF (drawE_ok Tryz.checked.mixed) callW_ok Tryz.func4 (by kernel_rfl) (by kernel_rfl) (by kernel_rfl) (by kernel_rfl) toEnd
theorem says : saysP Tryz.prog (drawE Tryz.prog) callT 100000 Tryz.f3 h0 = some true := by
  decide +kernel
theorem said (W : World) (hW : TabW 0 .u8 tab W) : Calls Tryz.prog 3 #[] W fun e w' => e = .returned (.bool true) ∧ Env W w' ∧ W.heap.size ≤ w'.heap.size ∧ ∀ r, r < W.heap.size → w'.heap[r]? = W.heap[r]? :=
  saysP_closed (drawE_ok Tryz.checked.mixed) callT_ok Tryz.func3 (by kernel_rfl) rfl tabH_mut says W (tabH_hr g0 hW)
end Go.Proofs.YtjkahbgkfenfcaaGreatDoor.scanExamples
