/-
  DERIVED. GIVEN WITH THE SEED: THE CARDS: each row of YthdffhmgjpklmaaGreatDoorRows.lean that lists a variable, with what it lists TIED to the program's text (the seventh form; the later family's looks); each row that meets fmt, with fmt's text TOLD by the authors' own Lean function (tested against real Go, not proved from fmt's source: count such statements apart). THE CARD IS WHAT COUNTS. Prove the row's statement (the work); the ties are given (YthdffhmgjpklmaaGreatDoorTie.lean); close each card by the builder's one call (the guide's Derived/Test/ToyasCard.lean, 'card_holds'). Laid BY PROGRAM, IN A SANDBOX (cutbox-door.mjs). By AI agents, Wed Nov 11 2026. No macro, syntax, notation, axiom, sorry.
-/
import Derived.Test.YthdffhmgjpklmaaGreatDoorRows
import GoSem.ClaimSeven
namespace Go.Proofs.YthdffhmgjpklmaaGreatDoor
namespace Rows

/-- THE TIED CARD OF 'leapfroglaw32.PointNames'. -/
def pointNamesCard : Claim7 := { stood := { row := pointNamesRow, standIns := [], harness := (true, "46837744c927919a4629d05d49dcb2538f5b53ee38c045a5ecd28113fe48038e"), looks := false }, kinds := [], alts := [], laidByText := true, laidKinds := [.data], laidTests := true, laidLooks := .later }
def PointNamesCardSaid : Prop := Claim7.holds Tryz.pinned (.plain (OpenSpec.ofChange pointNamesSpec)) pointNamesCard

/-- THE SECOND FORM's CARD OF 'leapfroglaw32.PointNames'. -/
def pointNamesUptoCard : Claim7 := { stood := { row := pointNamesUptoRow, standIns := [], harness := (true, "46837744c927919a4629d05d49dcb2538f5b53ee38c045a5ecd28113fe48038e"), looks := false }, kinds := [], alts := [], laidByText := true, laidKinds := [.data], laidTests := true, laidLooks := .later }
def PointNamesUptoCardSaid : Prop := Claim7.holds Tryz.pinned (.plain (OpenSpec.upto pointNamesSpec)) pointNamesUptoCard
end Rows
end Go.Proofs.YthdffhmgjpklmaaGreatDoor
