/-
  DERIVED. GIVEN WITH THE SEED: THE CARDS: each row of YtgolcgnnomgapaaGreatDoorRows.lean that lists a variable, with what it lists TIED to the program's text (the seventh form; the later family's looks); each row that meets fmt, with fmt's text TOLD by the authors' own Lean function (tested against real Go, not proved from fmt's source: count such statements apart). THE CARD IS WHAT COUNTS. Prove the row's statement (the work); the ties are given (YtgolcgnnomgapaaGreatDoorTie.lean); close each card by the builder's one call (the guide's Derived/Test/ToyasCard.lean, 'card_holds'). Laid BY PROGRAM, IN A SANDBOX (cutbox-door.mjs). By AI agents, Wed Nov 11 2026. No macro, syntax, notation, axiom, sorry.
-/
import Derived.Test.YtgolcgnnomgapaaGreatDoorRows
import GoSem.ClaimSeven
namespace Go.Proofs.YtgolcgnnomgapaaGreatDoor
namespace Rows

/-- THE TIED CARD OF 'leapfroglaw36.ClientExamples'. -/
def clientExamplesCard : Claim7 := { stood := { row := clientExamplesRow, standIns := [], harness := (true, "2e4151cabcf031622be3f9bbcc0b14e51ab41973e0c8f06062dd371da9e05020"), looks := true }, kinds := [], alts := [], laidByText := true, laidKinds := [.data], laidTests := true, laidLooks := .later }
def ClientExamplesCardSaid : Prop := Claim7.holds Tryz.pinned (.plain (OpenSpec.ofChange clientExamplesSpec)) clientExamplesCard

/-- THE SECOND FORM's CARD OF 'leapfroglaw36.ClientExamples'. -/
def clientExamplesUptoCard : Claim7 := { stood := { row := clientExamplesUptoRow, standIns := [], harness := (true, "2e4151cabcf031622be3f9bbcc0b14e51ab41973e0c8f06062dd371da9e05020"), looks := true }, kinds := [], alts := [], laidByText := true, laidKinds := [.data], laidTests := true, laidLooks := .later }
def ClientExamplesUptoCardSaid : Prop := Claim7.holds Tryz.pinned (.plain (OpenSpec.upto clientExamplesSpec)) clientExamplesUptoCard
end Rows
end Go.Proofs.YtgolcgnnomgapaaGreatDoor
