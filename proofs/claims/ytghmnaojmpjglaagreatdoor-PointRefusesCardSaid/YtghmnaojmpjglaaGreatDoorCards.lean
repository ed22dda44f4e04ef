/-
  DERIVED. GIVEN WITH THE SEED: THE CARDS: each row of YtghmnaojmpjglaaGreatDoorRows.lean that lists a variable, with what it lists TIED to the program's text (the seventh form; the later family's looks); each row that meets fmt, with fmt's text TOLD by the authors' own Lean function (tested against real Go, not proved from fmt's source: count such statements apart). THE CARD IS WHAT COUNTS. Prove the row's statement (the work); the ties are given (YtghmnaojmpjglaaGreatDoorTie.lean); close each card by the builder's one call (the guide's Derived/Test/ToyasCard.lean, 'card_holds'). Laid BY PROGRAM, IN A SANDBOX (cutbox-door.mjs). By AI agents, Wed Nov 11 2026. No macro, syntax, notation, axiom, sorry.
-/
import Derived.Test.YtghmnaojmpjglaaGreatDoorRows
import GoSem.ClaimSeven
namespace Go.Proofs.YtghmnaojmpjglaaGreatDoor
namespace Rows

/-- THE TIED CARD OF 'leapfroglaw32.PointRefuses'. -/
def pointRefusesCard : Claim7 := { stood := { row := pointRefusesRow, standIns := [], harness := (true, "33f3a8c1aed0f0f7ade1f5589833f236b7a0bb4e1332e6b80a3fe86b89bd9045"), looks := false }, kinds := [], alts := [], laidByText := true, laidKinds := [.data], laidTests := true, laidLooks := .later }
def PointRefusesCardSaid : Prop := Claim7.holds Tryz.pinned (.plain (OpenSpec.ofChange pointRefusesSpec)) pointRefusesCard

/-- THE SECOND FORM's CARD OF 'leapfroglaw32.PointRefuses'. -/
def pointRefusesUptoCard : Claim7 := { stood := { row := pointRefusesUptoRow, standIns := [], harness := (true, "33f3a8c1aed0f0f7ade1f5589833f236b7a0bb4e1332e6b80a3fe86b89bd9045"), looks := false }, kinds := [], alts := [], laidByText := true, laidKinds := [.data], laidTests := true, laidLooks := .later }
def PointRefusesUptoCardSaid : Prop := Claim7.holds Tryz.pinned (.plain (OpenSpec.upto pointRefusesSpec)) pointRefusesUptoCard
end Rows
end Go.Proofs.YtghmnaojmpjglaaGreatDoor
