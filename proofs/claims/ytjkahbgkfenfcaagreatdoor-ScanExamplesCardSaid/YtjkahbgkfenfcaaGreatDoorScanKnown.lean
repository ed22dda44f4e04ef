/-
  What the evaluator needs to know of the program: its atomic operations, the table of package math/bits. No condition.
-/
import Derived.Test.YtjkahbgkfenfcaaGreatDoorEvFa
import Derived.Test.YtjkahbgkfenfcaaGreatDoorEvZd
import Derived.Test.YtjkahbgkfenfcaaGreatDoorProg
import Derived.KernelRfl
import Derived.Eval
set_option linter.unusedVariables false
namespace Go.Proofs.YtjkahbgkfenfcaaGreatDoor.scanExamples
open Ev
/-- the atomic operations that the code reaches, by their numbers -/
noncomputable def xl : List (Nat × ATag) := [(136, .load), (142, .store), (179, .cas), (303, .swap), (483, .add)]
/-- the table of package math/bits -/
noncomputable def tab : List Int := [0, 1, 56, 2, 57, 49, 28, 3, 61, 58, 42, 50, 38, 29, 17, 4, 62, 47, 59, 36, 45, 43, 51, 22, 53, 39, 33, 30, 24, 18, 12, 5, 63, 55, 48, 27, 60, 41, 37, 16, 46, 35, 44, 21, 52, 32, 23, 11, 54, 26, 40, 15, 34, 20, 31, 10, 25, 14, 19, 9, 13, 8, 7, 6]
noncomputable def h0 : H := tabH 0 .u8 tab
noncomputable def chk : H → Bool := hasTab 0 .u8 tab
set_option maxRecDepth 100000
theorem xk : ∀ p ∈ xl, okX Tryz.prog p := by
  intro p hp
  simp only [xl, List.mem_cons, List.not_mem_nil, or_false] at hp
  rcases hp with rfl | rfl | rfl | rfl | rfl <;> exact ⟨by kernel_rfl, by kernel_rfl⟩
theorem g0 : 0 < glob := by decide
theorem hNG : noNG Tryz.prog = true := by decide +kernel
theorem known0 : KnownS Tryz.prog noS := noS_known
end Go.Proofs.YtjkahbgkfenfcaaGreatDoor.scanExamples
