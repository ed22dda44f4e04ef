/-
  The law MachineExamples, which has no arguments, returns true: the examples of the chapter hold. No condition beyond the card's own: the table of package math/bits starts as the program's text lays it.
-/
import Derived.Test.YtlmaemmfdfclgaaGreatDoorMachineOver
import Derived.Test.YtlmaemmfdfclgaaGreatDoorCards
import Derived.Test.YtlmaemmfdfclgaaGreatDoorTie
import Derived.Test.YtlmaemmfdfclgaaGreatDoorMachineC1
import Derived.Test.YtlmaemmfdfclgaaGreatDoorMachineC2
import Derived.Test.YtlmaemmfdfclgaaGreatDoorMachineC3
import Derived.Test.YtlmaemmfdfclgaaGreatDoorMachineC4
import Derived.WalkKit
import Derived.ProofKit
import Derived.LaidMore
import Derived.OpenShut
import Derived.Stop.Joined
import Derived.SevenTiedAt
set_option linter.unusedVariables false
set_option linter.unusedSimpArgs false
namespace Go.Proofs.YtlmaemmfdfclgaaGreatDoor.machineExamples
open Go.ChangeShapes Go.WideShapes Go.ChangeAt Go.RowKit Go.Joins
/-- THE STATEMENT -/
theorem proved : Rows.MachineExamplesCardSaid :=
  Claim7.holds_tied_plain_at .later [] [.data] true (true, "0cc4f4601ac30492b399a4b8bd56f03dccfe4cc379563cc7fe9335665b1d8d85") true
    over (fun _ h => by cases h) cText (fun _ h => by cases h) machineExamples_row_tie rfl ⟨rfl, rfl⟩ cMain rfl
    (fun f fn hf hfn => by
      obtain rfl : f = 3 := Option.some.inj (factNamed.symm.trans hf) |>.symm
      obtain rfl : fn = Tryz.f3 := (Option.some.inj (Tryz.func3.symm.trans hfn)).symm
      exact ⟨cLooks, fun j t ht => by
        rw [Tryz.params3] at ht
        simp at ht⟩)
    cGoes
#print axioms proved
end Go.Proofs.YtlmaemmfdfclgaaGreatDoor.machineExamples
