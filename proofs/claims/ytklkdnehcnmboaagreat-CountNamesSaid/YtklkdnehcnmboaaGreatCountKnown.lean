/-
  What the evaluator says of the function 'awake' of the chapter's laws (evaluated by the kernel): it returns true and leaves old memory as it was. No condition.
-/
import Derived.Test.YtklkdnehcnmboaaGreatEvFa
import Derived.Test.YtklkdnehcnmboaaGreatEvZd
import Derived.Test.YtklkdnehcnmboaaGreatRows
import Derived.Eval
set_option linter.unusedVariables false
namespace Go.Proofs.YtklkdnehcnmboaaGreat.countNames
open Ev
/-- the atomic operations that the code reaches, by their numbers -/
noncomputable def xl : List (Nat × ATag) := [(144, .load), (146, .swap), (147, .store), (179, .cas), (291, .add)]
set_option maxRecDepth 100000
theorem xk : ∀ p ∈ xl, okX Tryz.prog p := by
  intro p hp
  simp only [xl, List.mem_cons, List.not_mem_nil, or_false] at hp
  rcases hp with rfl | rfl | rfl | rfl | rfl <;> exact ⟨by kernel_rfl, by kernel_rfl⟩
theorem saysAwake : saysF Tryz.prog (drawE Tryz.prog) (lookX xl) (fun _ => none) 100000 (59 + 1) 14 = some true := by
  decide +kernel
theorem hasAwake : hasE Tryz.prog 14 = true := by kernel_rfl
theorem known : KnownS Tryz.prog (addS 14 true fun _ => none) :=
  addS_known (fun _ _ h => by cases h) hasAwake
    (says_closed (drawE_ok Tryz.checked.mixed) (lookX_known xk) (fun _ _ h => by cases h) hasAwake ((saysF_eq _ _ _ _ _ _ _).symm.trans saysAwake))
end Go.Proofs.YtklkdnehcnmboaaGreat.countNames
