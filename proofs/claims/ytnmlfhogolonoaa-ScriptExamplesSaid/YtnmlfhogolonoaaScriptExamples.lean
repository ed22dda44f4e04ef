/-
  The law ScriptExamples, which has no arguments, returns true: the examples of the chapter hold. No condition.
-/
import Derived.Test.YtnmlfhogolonoaaEvT
import Derived.Test.YtnmlfhogolonoaaEvZd
import Derived.Test.YtnmlfhogolonoaaRows
import Derived.Eval
import Derived.WalkKit
import Derived.ProofKit
import Derived.OpenShut
import Derived.ShutString
import Derived.Lib.SmallJoins
import Derived.Deep.QuietTactic
import Derived.BigQuiet
set_option linter.unusedVariables false
set_option linter.unusedSimpArgs false
namespace Go.Proofs.Ytnmlfhogolonoaa.scriptExamples
open Go.ChangeShapes Go.WideShapes Go.ChangeAt Go.RowKit Go.Joins
open Go.ChangeMaps (open_string shut_string)

theorem own : ownKnob Try.prog.godebug = none := by kernel_rfl
theorem laidOut : laidOutB Try.prog = true := by kernel_rfl

set_option maxRecDepth 100000 in
/-- what the evaluator says of the function, evaluated by the kernel -/
theorem says : Ev.saysE Try.prog (Ev.drawE Try.prog) (fun _ => none) (fun _ => none) 100000 (59 + 1) 9 = some true := by
  decide +kernel
theorem has : Ev.hasE Try.prog 9 = true := by kernel_rfl
theorem walk (W : World) : Calls Try.prog 9 #[] W fun e W' => e = .returned (.bool true) ∧ Below W.heap.size W W' :=
  (Ev.says_closed (Ev.drawE_ok Try.checked.mixed) (fun _ _ h => by cases h) (fun _ _ h => by cases h) has says W).mono fun e w' hh =>
    ⟨hh.1, hh.2.1.os, hh.2.1.tape, hh.2.1.output, hh.2.2.1, hh.2.2.2⟩

set_option maxRecDepth 100000 in
theorem lifted (os : Os) (started : os.Started) (H : Type) (enc : TypeId × Value → H) :
    ReturnsInHanded {} Try.checked os 9 .any (Rows.scriptExamplesSpec.pre6 enc Try.prog Try.f9 Rows.scriptExamplesRow.domain false) (Rows.scriptExamplesSpec.post enc Try.prog Try.f9 false true false false) := by
  refine returnsInHanded_of_change (C := Try.checked) own started (by kernel_rfl) Try.func9
    (ChangeSpec.witness6 (enc := enc) (C := Try.checked) false ⟨#[], #[], []⟩ 12 (by kernel_rfl) (by kernel_rfl) (by kernel_rfl) (by kernel_rfl)) ?_
  intro W base args ds gs before hval0 hW hcnd _
  have hval : ∀ (j : Nat) t v, Try.f9.params[j]? = some t → args[j]? = some v → Value.okWide Try.prog W .any base t v := hval0
  have hW' := hW
  obtain ⟨p, q, hA0, hV, rfl, hfz, hnd⟩ := hW
  have hA : DataW.TrodAll enc Try.prog W 0 (fun _ => true) true Try.f9.params.toList args.toList ds p := hA0
  rw [Try.params9] at hA hval
  obtain ⟨hargs, rfl, rfl⟩ := trodAll_nil hA
  obtain rfl : args = #[] := by cases args; simp_all
  obtain ⟨rfl, rfl⟩ := trodVars_none hV
  have k := walk W 
  clear hA0 hval0
  refine k.mono fun e W' ⟨he, bel⟩ => ?_
  subst he
  exact ⟨_, rfl, _, _, _, [], [], [], hW', trodAll_mk1 (shut_bool Try.underlying4 _), trodAll_mk0, rfl, bel.frame _, fun h => by cases h⟩

theorem over : Rows.scriptExamplesRow.holds Try.pinned (OpenSpec.ofChange Rows.scriptExamplesSpec) :=
  OpenClaim.holds_of_wide 9 Try.f9 rfl rfl rfl rfl rfl rfl rfl ⟨rfl, rfl, rfl, rfl, rfl⟩ rfl rfl rfl rfl rfl (by kernel_rfl) Try.func9 (by kernel_rfl)
    (of_decide_eq_true (by kernel_rfl)) (by unfold Func.isWrapper; first | (rw [if_pos (by decide +kernel)]; kernel_rfl) | (rw [if_neg (by decide +kernel)]; exact ⟨rfl, rfl⟩))
    (fun os started H enc _ => lifted os started H enc)

/-- THE STATEMENT -/
theorem proved : Rows.ScriptExamplesSaid := over
#print axioms proved
end Go.Proofs.Ytnmlfhogolonoaa.scriptExamples
