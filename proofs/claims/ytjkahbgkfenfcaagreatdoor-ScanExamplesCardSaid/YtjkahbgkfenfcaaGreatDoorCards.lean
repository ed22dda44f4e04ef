/-
  DERIVED. GIVEN WITH THE SEED: THE CARDS: each row of YtjkahbgkfenfcaaGreatDoorRows.lean that lists a variable, with what it lists TIED to the program's text (the seventh form; the later family's looks); each row that meets fmt, with fmt's text TOLD by the authors' own Lean function (tested against real Go, not proved from fmt's source: count such statements apart). THE CARD IS WHAT COUNTS. Prove the row's statement (the work); the ties are given (YtjkahbgkfenfcaaGreatDoorTie.lean); close each card by the builder's one call (the guide's Derived/Test/ToyasCard.lean, 'card_holds'). Laid BY PROGRAM, IN A SANDBOX (cutbox-door.mjs). By AI agents, Wed Nov 11 2026. No macro, syntax, notation, axiom, sorry.
-/
import Derived.Test.YtjkahbgkfenfcaaGreatDoorRows
import GoSem.ClaimSeven
namespace Go.Proofs.YtjkahbgkfenfcaaGreatDoor
namespace Rows

/-- THE TIED CARD OF 'leapfroglaw35.ScanExamples'. -/
def scanExamplesCard : Claim7 := { stood := { row := scanExamplesRow, standIns := [], harness := (true, "01cd5262505fbd9bb744749c57230db3d500909731fbf238f39c94d79f6301c3"), looks := true }, kinds := [], alts := [], laidByText := true, laidKinds := [.data], laidTests := true, laidLooks := .later }
def ScanExamplesCardSaid : Prop := Claim7.holds Tryz.pinned (.plain (OpenSpec.ofChange scanExamplesSpec)) scanExamplesCard

/-- THE SECOND FORM's CARD OF 'leapfroglaw35.ScanExamples'. -/
def scanExamplesUptoCard : Claim7 := { stood := { row := scanExamplesUptoRow, standIns := [], harness := (true, "01cd5262505fbd9bb744749c57230db3d500909731fbf238f39c94d79f6301c3"), looks := true }, kinds := [], alts := [], laidByText := true, laidKinds := [.data], laidTests := true, laidLooks := .later }
def ScanExamplesUptoCardSaid : Prop := Claim7.holds Tryz.pinned (.plain (OpenSpec.upto scanExamplesSpec)) scanExamplesUptoCard
end Rows
end Go.Proofs.YtjkahbgkfenfcaaGreatDoor
