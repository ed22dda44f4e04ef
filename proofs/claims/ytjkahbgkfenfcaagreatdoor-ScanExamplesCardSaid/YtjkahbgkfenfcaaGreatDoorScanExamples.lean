/-
  The law ScanExamples, which has no arguments, returns true: the examples of the chapter hold. No condition beyond the card's own: the table of package math/bits starts as the program's text lays it.
-/
import Derived.Test.YtjkahbgkfenfcaaGreatDoorScanOver
import Derived.Test.YtjkahbgkfenfcaaGreatDoorCards
import Derived.Test.YtjkahbgkfenfcaaGreatDoorTie
import Derived.Test.YtjkahbgkfenfcaaGreatDoorScanC1
import Derived.Test.YtjkahbgkfenfcaaGreatDoorScanC2
import Derived.Test.YtjkahbgkfenfcaaGreatDoorScanC3
import Derived.Test.YtjkahbgkfenfcaaGreatDoorScanC4
import Derived.WalkKit
import Derived.ProofKit
import Derived.LaidMore
import Derived.OpenShut
import Derived.Stop.Joined
import Derived.SevenTiedAt
set_option linter.unusedVariables false
set_option linter.unusedSimpArgs false
namespace Go.Proofs.YtjkahbgkfenfcaaGreatDoor.scanExamples
open Go.ChangeShapes Go.WideShapes Go.ChangeAt Go.RowKit Go.Joins
/-- THE STATEMENT -/
theorem proved : Rows.ScanExamplesCardSaid :=
  Claim7.holds_tied_plain_at .later [] [.data] true (true, "01cd5262505fbd9bb744749c57230db3d500909731fbf238f39c94d79f6301c3") true
    over (fun _ h => by cases h) cText (fun _ h => by cases h) scanExamples_row_tie rfl ⟨rfl, rfl⟩ cMain rfl
    (fun f fn hf hfn => by
      obtain rfl : f = 3 := Option.some.inj (factNamed.symm.trans hf) |>.symm
      obtain rfl : fn = Tryz.f3 := (Option.some.inj (Tryz.func3.symm.trans hfn)).symm
      exact ⟨cLooks, fun j t ht => by
        rw [Tryz.params3] at ht
        simp at ht⟩)
    cGoes
#print axioms proved
end Go.Proofs.YtjkahbgkfenfcaaGreatDoor.scanExamples
