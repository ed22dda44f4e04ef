/-
  DERIVED. GIVEN WITH THE SEED: THE CARDS: each row of YtlmaemmfdfclgaaGreatDoorRows.lean that lists a variable, with what it lists TIED to the program's text (the seventh form; the later family's looks); each row that meets fmt, with fmt's text TOLD by the authors' own Lean function (tested against real Go, not proved from fmt's source: count such statements apart). THE CARD IS WHAT COUNTS. Prove the row's statement (the work); the ties are given (YtlmaemmfdfclgaaGreatDoorTie.lean); close each card by the builder's one call (the guide's Derived/Test/ToyasCard.lean, 'card_holds'). Laid BY PROGRAM, IN A SANDBOX (cutbox-door.mjs). By AI agents, Wed Nov 11 2026. No macro, syntax, notation, axiom, sorry.
-/
import Derived.Test.YtlmaemmfdfclgaaGreatDoorRows
import GoSem.ClaimSeven
namespace Go.Proofs.YtlmaemmfdfclgaaGreatDoor
namespace Rows

/-- THE TIED CARD OF 'leapfroglaw37.MachineExamples'. -/
def machineExamplesCard : Claim7 := { stood := { row := machineExamplesRow, standIns := [], harness := (true, "0cc4f4601ac30492b399a4b8bd56f03dccfe4cc379563cc7fe9335665b1d8d85"), looks := true }, kinds := [], alts := [], laidByText := true, laidKinds := [.data], laidTests := true, laidLooks := .later }
def MachineExamplesCardSaid : Prop := Claim7.holds Tryz.pinned (.plain (OpenSpec.ofChange machineExamplesSpec)) machineExamplesCard

/-- THE SECOND FORM's CARD OF 'leapfroglaw37.MachineExamples'. -/
def machineExamplesUptoCard : Claim7 := { stood := { row := machineExamplesUptoRow, standIns := [], harness := (true, "0cc4f4601ac30492b399a4b8bd56f03dccfe4cc379563cc7fe9335665b1d8d85"), looks := true }, kinds := [], alts := [], laidByText := true, laidKinds := [.data], laidTests := true, laidLooks := .later }
def MachineExamplesUptoCardSaid : Prop := Claim7.holds Tryz.pinned (.plain (OpenSpec.upto machineExamplesSpec)) machineExamplesUptoCard
end Rows
end Go.Proofs.YtlmaemmfdfclgaaGreatDoor
