/-
  The law BulkExamples, which has no arguments, returns true: the examples of the chapter hold. No condition beyond the card's own: the table of package math/bits starts as the program's text lays it.
-/
import Derived.Test.YtmoagkhedlkbgaaGreatDoorBulkOver
import Derived.Test.YtmoagkhedlkbgaaGreatDoorCards
import Derived.Test.YtmoagkhedlkbgaaGreatDoorTie
import Derived.Test.YtmoagkhedlkbgaaGreatDoorBulkC1
import Derived.Test.YtmoagkhedlkbgaaGreatDoorBulkC2
import Derived.Test.YtmoagkhedlkbgaaGreatDoorBulkC3
import Derived.Test.YtmoagkhedlkbgaaGreatDoorBulkC4
import Derived.WalkKit
import Derived.ProofKit
import Derived.LaidMore
import Derived.OpenShut
import Derived.Stop.Joined
import Derived.SevenTiedAt
set_option linter.unusedVariables false
set_option linter.unusedSimpArgs false
namespace Go.Proofs.YtmoagkhedlkbgaaGreatDoor.bulkExamples
open Go.ChangeShapes Go.WideShapes Go.ChangeAt Go.RowKit Go.Joins
/-- THE STATEMENT -/
theorem proved : Rows.BulkExamplesCardSaid :=
  Claim7.holds_tied_plain_at .later [] [.data] true (true, "dfa40843557e452eb6bcd6b1293389ab1ee600f5885c29550607b582f8cecafa") false
    over (fun _ h => by cases h) cText (fun _ h => by cases h) bulkExamples_row_tie rfl ⟨rfl, rfl⟩ cMain rfl
    (fun f fn hf hfn => by
      obtain rfl : f = 3 := Option.some.inj (factNamed.symm.trans hf) |>.symm
      obtain rfl : fn = Tryz.f3 := (Option.some.inj (Tryz.func3.symm.trans hfn)).symm
      exact ⟨cLooks, fun j t ht => by
        rw [Tryz.params3] at ht
        simp at ht⟩)
    cGoes
#print axioms proved
end Go.Proofs.YtmoagkhedlkbgaaGreatDoor.bulkExamples
