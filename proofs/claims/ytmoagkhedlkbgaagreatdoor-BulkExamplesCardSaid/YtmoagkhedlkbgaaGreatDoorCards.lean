/-
  DERIVED. GIVEN WITH THE SEED: THE CARDS: each row of YtmoagkhedlkbgaaGreatDoorRows.lean that lists a variable, with what it lists TIED to the program's text (the seventh form; the later family's looks); each row that meets fmt, with fmt's text TOLD by the authors' own Lean function (tested against real Go, not proved from fmt's source: count such statements apart). THE CARD IS WHAT COUNTS. Prove the row's statement (the work); the ties are given (YtmoagkhedlkbgaaGreatDoorTie.lean); close each card by the builder's one call (the guide's Derived/Test/ToyasCard.lean, 'card_holds'). Laid BY PROGRAM, IN A SANDBOX (cutbox-door.mjs). By AI agents, Wed Nov 11 2026. No macro, syntax, notation, axiom, sorry.
-/
import Derived.Test.YtmoagkhedlkbgaaGreatDoorRows
import GoSem.ClaimSeven
namespace Go.Proofs.YtmoagkhedlkbgaaGreatDoor
namespace Rows

/-- THE TIED CARD OF 'leapfroglaw33.BulkExamples'. -/
def bulkExamplesCard : Claim7 := { stood := { row := bulkExamplesRow, standIns := [], harness := (true, "dfa40843557e452eb6bcd6b1293389ab1ee600f5885c29550607b582f8cecafa"), looks := false }, kinds := [], alts := [], laidByText := true, laidKinds := [.data], laidTests := true, laidLooks := .later }
def BulkExamplesCardSaid : Prop := Claim7.holds Tryz.pinned (.plain (OpenSpec.ofChange bulkExamplesSpec)) bulkExamplesCard

/-- THE SECOND FORM's CARD OF 'leapfroglaw33.BulkExamples'. -/
def bulkExamplesUptoCard : Claim7 := { stood := { row := bulkExamplesUptoRow, standIns := [], harness := (true, "dfa40843557e452eb6bcd6b1293389ab1ee600f5885c29550607b582f8cecafa"), looks := false }, kinds := [], alts := [], laidByText := true, laidKinds := [.data], laidTests := true, laidLooks := .later }
def BulkExamplesUptoCardSaid : Prop := Claim7.holds Tryz.pinned (.plain (OpenSpec.upto bulkExamplesSpec)) bulkExamplesUptoCard
end Rows
end Go.Proofs.YtmoagkhedlkbgaaGreatDoor
