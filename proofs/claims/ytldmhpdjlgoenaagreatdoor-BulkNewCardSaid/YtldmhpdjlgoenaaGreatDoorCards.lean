/-
  DERIVED. GIVEN WITH THE SEED: THE CARDS: each row of YtldmhpdjlgoenaaGreatDoorRows.lean that lists a variable, with what it lists TIED to the program's text (the seventh form; the later family's looks); each row that meets fmt, with fmt's text TOLD by the authors' own Lean function (tested against real Go, not proved from fmt's source: count such statements apart). THE CARD IS WHAT COUNTS. Prove the row's statement (the work); the ties are given (YtldmhpdjlgoenaaGreatDoorTie.lean); close each card by the builder's one call (the guide's Derived/Test/ToyasCard.lean, 'card_holds'). Laid BY PROGRAM, IN A SANDBOX (cutbox-door.mjs). By AI agents, Wed Nov 11 2026. No macro, syntax, notation, axiom, sorry.
-/
import Derived.Test.YtldmhpdjlgoenaaGreatDoorRows
import GoSem.ClaimSeven
namespace Go.Proofs.YtldmhpdjlgoenaaGreatDoor
namespace Rows

/-- THE TIED CARD OF 'leapfroglaw33.BulkNew'. -/
def bulkNewCard : Claim7 := { stood := { row := bulkNewRow, standIns := [], harness := (true, "e9dd4f3b8e153685c7755659f77938ffba5d96fd16a50934a6e134d44867b336"), looks := false }, kinds := [], alts := [], laidByText := true, laidKinds := [.data], laidTests := true, laidLooks := .later }
def BulkNewCardSaid : Prop := Claim7.holds Tryz.pinned (.plain (OpenSpec.ofChange bulkNewSpec)) bulkNewCard

/-- THE SECOND FORM's CARD OF 'leapfroglaw33.BulkNew'. -/
def bulkNewUptoCard : Claim7 := { stood := { row := bulkNewUptoRow, standIns := [], harness := (true, "e9dd4f3b8e153685c7755659f77938ffba5d96fd16a50934a6e134d44867b336"), looks := false }, kinds := [], alts := [], laidByText := true, laidKinds := [.data], laidTests := true, laidLooks := .later }
def BulkNewUptoCardSaid : Prop := Claim7.holds Tryz.pinned (.plain (OpenSpec.upto bulkNewSpec)) bulkNewUptoCard
end Rows
end Go.Proofs.YtldmhpdjlgoenaaGreatDoor
