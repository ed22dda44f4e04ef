/-
  No cell of these rows narrows 'for every input' (looked for: loops, veiled, ifaces, maps, wideKeys, modest, calm, conditions, laid).
  DERIVED. THE GIVEN ROWS OF THIS SEAT. 9 by the template 'for every input the law returns true; each argument reads behind the call as it read before'; 0 by the template 'total and deterministic' (their statements: YtiopfakeajofdaaTotals.lean).
  GIVEN WITH THE SEED: the statements are not yours to turn. If you find one false, say at which input.
  Laid BY PROGRAM, IN A SANDBOX (cutbox-rows.mjs): the forced cells as the released guide's own fill.sh prints them over the translation cb8d3fda96edb9b9… (all of the seat's roots in one cut). By AI agents, Wed Nov 11 2026. No macro, syntax, notation, axiom, sorry.
-/
import Derived.Test.YtiopfakeajofdaaChecked
import GoSem.Claim
import GoSem.ClaimJoined
import GoSem.ClaimMapViews
import Derived.JoinedTies
import Derived.KernelRfl
namespace Go.Proofs.Ytiopfakeajofdaa
/- THE CELL 'sum', in the pinned program and in every row, IS THE sha256 OF THE DUMP (.gsa) THAT YtiopfakeajofdaaProg.lean LOADS. Nothing in Lean hashes anything: it is a label: what it is worth is what the hold of that sum in a sandbox is worth. -/
noncomputable def Try.pinned : Pinned := { name := "ytiopfakeajofdaa", sum := "cb8d3fda96edb9b9d9f78dc9ddfc1d8d82ce1ca67daac3ce573d3d951767f49f", checked := Try.checked }
namespace Rows
def none {H : Type} : Left H := { results := [], args := [] }

/-- 'leapfroglaw01.FieldTops': WHATEVER THE INPUT: true; the input reads as it did. -/
def fieldTopsSpec : ChangeSpec := { name := "fieldTops", fn := fun _ => fun
  | [d1, d2, d3] => { results := [.lit (.bool true)], args := [d1, d2, d3] }
  | _ => none }
def fieldTopsRow : OpenClaim := { program := "ytiopfakeajofdaa", sum := "cb8d3fda96edb9b9d9f78dc9ddfc1d8d82ce1ca67daac3ce573d3d951767f49f", func := "leapfrog/leapfroglaw01.FieldTops", spec := "fieldTops", apart := false }
def FieldTopsSaid : Prop := fieldTopsRow.holds Try.pinned (OpenSpec.ofChange fieldTopsSpec)

/-- ITS FALSE NEIGHBOUR: 'it returns false'. Refute it at one input. -/
def fieldTopsWrong : ChangeSpec := { name := "fieldTops", fn := fun _ => fun
  | [d1, d2, d3] => { results := [.lit (.bool false)], args := [d1, d2, d3] }
  | _ => none }
def FieldTopsWrongFalsely : Prop := fieldTopsRow.holds Try.pinned (OpenSpec.ofChange fieldTopsWrong)

/-- 'leapfroglaw01.FieldDescs': WHATEVER THE INPUT: true; the input reads as it did. -/
def fieldDescsSpec : ChangeSpec := { name := "fieldDescs", fn := fun _ => fun
  | [d1, d2, d3] => { results := [.lit (.bool true)], args := [d1, d2, d3] }
  | _ => none }
def fieldDescsRow : OpenClaim := { program := "ytiopfakeajofdaa", sum := "cb8d3fda96edb9b9d9f78dc9ddfc1d8d82ce1ca67daac3ce573d3d951767f49f", func := "leapfrog/leapfroglaw01.FieldDescs", spec := "fieldDescs", apart := false }
def FieldDescsSaid : Prop := fieldDescsRow.holds Try.pinned (OpenSpec.ofChange fieldDescsSpec)

/-- ITS FALSE NEIGHBOUR: 'it returns false'. Refute it at one input. -/
def fieldDescsWrong : ChangeSpec := { name := "fieldDescs", fn := fun _ => fun
  | [d1, d2, d3] => { results := [.lit (.bool false)], args := [d1, d2, d3] }
  | _ => none }
def FieldDescsWrongFalsely : Prop := fieldDescsRow.holds Try.pinned (OpenSpec.ofChange fieldDescsWrong)

/-- 'leapfroglaw36.ClientChecks': WHATEVER THE INPUT: true; the input reads as it did. -/
def clientChecksSpec : ChangeSpec := { name := "clientChecks", fn := fun _ => fun
  | [d] => { results := [.lit (.bool true)], args := [d] }
  | _ => none }
def clientChecksRow : OpenClaim := { program := "ytiopfakeajofdaa", sum := "cb8d3fda96edb9b9d9f78dc9ddfc1d8d82ce1ca67daac3ce573d3d951767f49f", func := "leapfrog/leapfroglaw36.ClientChecks", spec := "clientChecks", apart := false }
def ClientChecksSaid : Prop := clientChecksRow.holds Try.pinned (OpenSpec.ofChange clientChecksSpec)

/-- ITS FALSE NEIGHBOUR: 'it returns false'. Refute it at one input. -/
def clientChecksWrong : ChangeSpec := { name := "clientChecks", fn := fun _ => fun
  | [d] => { results := [.lit (.bool false)], args := [d] }
  | _ => none }
def ClientChecksWrongFalsely : Prop := clientChecksRow.holds Try.pinned (OpenSpec.ofChange clientChecksWrong)

/-- 'leapfroglaw01.FieldStates': WHATEVER THE INPUT: true; the input reads as it did. -/
def fieldStatesSpec : ChangeSpec := { name := "fieldStates", fn := fun _ => fun
  | [d1, d2, d3] => { results := [.lit (.bool true)], args := [d1, d2, d3] }
  | _ => none }
def fieldStatesRow : OpenClaim := { program := "ytiopfakeajofdaa", sum := "cb8d3fda96edb9b9d9f78dc9ddfc1d8d82ce1ca67daac3ce573d3d951767f49f", func := "leapfrog/leapfroglaw01.FieldStates", spec := "fieldStates", apart := false }
def FieldStatesSaid : Prop := fieldStatesRow.holds Try.pinned (OpenSpec.ofChange fieldStatesSpec)

/-- ITS FALSE NEIGHBOUR: 'it returns false'. Refute it at one input. -/
def fieldStatesWrong : ChangeSpec := { name := "fieldStates", fn := fun _ => fun
  | [d1, d2, d3] => { results := [.lit (.bool false)], args := [d1, d2, d3] }
  | _ => none }
def FieldStatesWrongFalsely : Prop := fieldStatesRow.holds Try.pinned (OpenSpec.ofChange fieldStatesWrong)

/-- 'leapfroglaw01.FieldDecides': WHATEVER THE INPUT: true; the input reads as it did. -/
def fieldDecidesSpec : ChangeSpec := { name := "fieldDecides", fn := fun _ => fun
  | [d1, d2] => { results := [.lit (.bool true)], args := [d1, d2] }
  | _ => none }
def fieldDecidesRow : OpenClaim := { program := "ytiopfakeajofdaa", sum := "cb8d3fda96edb9b9d9f78dc9ddfc1d8d82ce1ca67daac3ce573d3d951767f49f", func := "leapfrog/leapfroglaw01.FieldDecides", spec := "fieldDecides", apart := false }
def FieldDecidesSaid : Prop := fieldDecidesRow.holds Try.pinned (OpenSpec.ofChange fieldDecidesSpec)

/-- ITS FALSE NEIGHBOUR: 'it returns false'. Refute it at one input. -/
def fieldDecidesWrong : ChangeSpec := { name := "fieldDecides", fn := fun _ => fun
  | [d1, d2] => { results := [.lit (.bool false)], args := [d1, d2] }
  | _ => none }
def FieldDecidesWrongFalsely : Prop := fieldDecidesRow.holds Try.pinned (OpenSpec.ofChange fieldDecidesWrong)

/-- 'leapfroglaw01.FieldWords': WHATEVER THE INPUT: true; the input reads as it did. -/
def fieldWordsSpec : ChangeSpec := { name := "fieldWords", fn := fun _ => fun
  | [d] => { results := [.lit (.bool true)], args := [d] }
  | _ => none }
def fieldWordsRow : OpenClaim := { program := "ytiopfakeajofdaa", sum := "cb8d3fda96edb9b9d9f78dc9ddfc1d8d82ce1ca67daac3ce573d3d951767f49f", func := "leapfrog/leapfroglaw01.FieldWords", spec := "fieldWords", apart := false }
def FieldWordsSaid : Prop := fieldWordsRow.holds Try.pinned (OpenSpec.ofChange fieldWordsSpec)

/-- ITS FALSE NEIGHBOUR: 'it returns false'. Refute it at one input. -/
def fieldWordsWrong : ChangeSpec := { name := "fieldWords", fn := fun _ => fun
  | [d] => { results := [.lit (.bool false)], args := [d] }
  | _ => none }
def FieldWordsWrongFalsely : Prop := fieldWordsRow.holds Try.pinned (OpenSpec.ofChange fieldWordsWrong)

/-- 'leapfroglaw01.FieldCommits': WHATEVER THE INPUT: true; the input reads as it did. -/
def fieldCommitsSpec : ChangeSpec := { name := "fieldCommits", fn := fun _ => fun
  | [d1, d2, d3] => { results := [.lit (.bool true)], args := [d1, d2, d3] }
  | _ => none }
def fieldCommitsRow : OpenClaim := { program := "ytiopfakeajofdaa", sum := "cb8d3fda96edb9b9d9f78dc9ddfc1d8d82ce1ca67daac3ce573d3d951767f49f", func := "leapfrog/leapfroglaw01.FieldCommits", spec := "fieldCommits", apart := false }
def FieldCommitsSaid : Prop := fieldCommitsRow.holds Try.pinned (OpenSpec.ofChange fieldCommitsSpec)

/-- ITS FALSE NEIGHBOUR: 'it returns false'. Refute it at one input. -/
def fieldCommitsWrong : ChangeSpec := { name := "fieldCommits", fn := fun _ => fun
  | [d1, d2, d3] => { results := [.lit (.bool false)], args := [d1, d2, d3] }
  | _ => none }
def FieldCommitsWrongFalsely : Prop := fieldCommitsRow.holds Try.pinned (OpenSpec.ofChange fieldCommitsWrong)

/-- 'leapfroglaw01.FieldExamples': WHATEVER THE INPUT: true; the input reads as it did. -/
def fieldExamplesSpec : ChangeSpec := { name := "fieldExamples", fn := fun _ => fun
  | [] => { results := [.lit (.bool true)], args := [] }
  | _ => none }
def fieldExamplesRow : OpenClaim := { program := "ytiopfakeajofdaa", sum := "cb8d3fda96edb9b9d9f78dc9ddfc1d8d82ce1ca67daac3ce573d3d951767f49f", func := "leapfrog/leapfroglaw01.FieldExamples", spec := "fieldExamples", apart := false }
def FieldExamplesSaid : Prop := fieldExamplesRow.holds Try.pinned (OpenSpec.ofChange fieldExamplesSpec)

/-- ITS FALSE NEIGHBOUR: 'it returns false'. Refute it at one input. -/
def fieldExamplesWrong : ChangeSpec := { name := "fieldExamples", fn := fun _ => fun
  | [] => { results := [.lit (.bool false)], args := [] }
  | _ => none }
def FieldExamplesWrongFalsely : Prop := fieldExamplesRow.holds Try.pinned (OpenSpec.ofChange fieldExamplesWrong)

/-- 'leapfroglaw01.FieldParts': WHATEVER THE INPUT: true; the input reads as it did. -/
def fieldPartsSpec : ChangeSpec := { name := "fieldParts", fn := fun _ => fun
  | [d1, d2, d3] => { results := [.lit (.bool true)], args := [d1, d2, d3] }
  | _ => none }
def fieldPartsRow : OpenClaim := { program := "ytiopfakeajofdaa", sum := "cb8d3fda96edb9b9d9f78dc9ddfc1d8d82ce1ca67daac3ce573d3d951767f49f", func := "leapfrog/leapfroglaw01.FieldParts", spec := "fieldParts", apart := false }
def FieldPartsSaid : Prop := fieldPartsRow.holds Try.pinned (OpenSpec.ofChange fieldPartsSpec)

/-- ITS FALSE NEIGHBOUR: 'it returns false'. Refute it at one input. -/
def fieldPartsWrong : ChangeSpec := { name := "fieldParts", fn := fun _ => fun
  | [d1, d2, d3] => { results := [.lit (.bool false)], args := [d1, d2, d3] }
  | _ => none }
def FieldPartsWrongFalsely : Prop := fieldPartsRow.holds Try.pinned (OpenSpec.ofChange fieldPartsWrong)

/- THE SECOND FORM. 'bulk': how many values and letters a reading holds, each counted each time it is reached (what is shared counts as often as it is met; a slice's spare places count too). A statement '..UptoSaid' is the law's where the arguments, and the package variables that the reading takes, are together of bulk at most 1048576: NARROWER than '..Said'. Prove '..Said' where nothing that the law and all that it calls make is longer than what came in: it says more and counts as full. Else prove '..UptoSaid'. A law counts once. -/
mutual
def uptoBulk {H : Type} : DataW H → Nat
  | .lit (.string bytes) => bytes.length + 1
  | .lit _ => 1
  | .nil => 1
  | .ptr d => uptoBulk d + 1
  | .slice elems spare => uptoBulkAll elems + uptoBulkAll spare + 1
  | .agg parts => uptoBulkAll parts + 1
  | .iface _ d => uptoBulk d + 1
  | .map entries => uptoBulkEntries entries + 1
  | .held _ => 1
def uptoBulkAll {H : Type} : List (DataW H) → Nat
  | [] => 0
  | d :: r => uptoBulk d + uptoBulkAll r
def uptoBulkEntries {H : Type} : List (Lit × DataW H) → Nat
  | [] => 0
  | x :: r => uptoBulkEntry x + uptoBulkEntries r
def uptoBulkEntry {H : Type} : Lit × DataW H → Nat
  | (.string bytes, d) => bytes.length + uptoBulk d + 1
  | (_, d) => uptoBulk d + 1
 end
def uptoSmall : (H : Type) → List (DataW H) → Bool := fun _ ds => decide (uptoBulkAll ds ≤ 1048576)
def OpenSpec.upto (s : _root_.Go.ChangeSpec) : _root_.Go.OpenSpec := { _root_.Go.OpenSpec.ofChange s with cond := some uptoSmall }

/-- 'leapfroglaw01.FieldTops', WHERE WHAT IT READS IS OF BULK AT MOST 1048576: true; the input reads as it did. -/
def fieldTopsUptoRow : OpenClaim := { program := "ytiopfakeajofdaa", sum := "cb8d3fda96edb9b9d9f78dc9ddfc1d8d82ce1ca67daac3ce573d3d951767f49f", func := "leapfrog/leapfroglaw01.FieldTops", spec := "fieldTops", apart := false, narrowed := true }
def FieldTopsUptoSaid : Prop := fieldTopsUptoRow.holds Try.pinned (OpenSpec.upto fieldTopsSpec)

/-- 'leapfroglaw01.FieldDescs', WHERE WHAT IT READS IS OF BULK AT MOST 1048576: true; the input reads as it did. -/
def fieldDescsUptoRow : OpenClaim := { program := "ytiopfakeajofdaa", sum := "cb8d3fda96edb9b9d9f78dc9ddfc1d8d82ce1ca67daac3ce573d3d951767f49f", func := "leapfrog/leapfroglaw01.FieldDescs", spec := "fieldDescs", apart := false, narrowed := true }
def FieldDescsUptoSaid : Prop := fieldDescsUptoRow.holds Try.pinned (OpenSpec.upto fieldDescsSpec)

/-- 'leapfroglaw36.ClientChecks', WHERE WHAT IT READS IS OF BULK AT MOST 1048576: true; the input reads as it did. -/
def clientChecksUptoRow : OpenClaim := { program := "ytiopfakeajofdaa", sum := "cb8d3fda96edb9b9d9f78dc9ddfc1d8d82ce1ca67daac3ce573d3d951767f49f", func := "leapfrog/leapfroglaw36.ClientChecks", spec := "clientChecks", apart := false, narrowed := true }
def ClientChecksUptoSaid : Prop := clientChecksUptoRow.holds Try.pinned (OpenSpec.upto clientChecksSpec)

/-- 'leapfroglaw01.FieldStates', WHERE WHAT IT READS IS OF BULK AT MOST 1048576: true; the input reads as it did. -/
def fieldStatesUptoRow : OpenClaim := { program := "ytiopfakeajofdaa", sum := "cb8d3fda96edb9b9d9f78dc9ddfc1d8d82ce1ca67daac3ce573d3d951767f49f", func := "leapfrog/leapfroglaw01.FieldStates", spec := "fieldStates", apart := false, narrowed := true }
def FieldStatesUptoSaid : Prop := fieldStatesUptoRow.holds Try.pinned (OpenSpec.upto fieldStatesSpec)

/-- 'leapfroglaw01.FieldDecides', WHERE WHAT IT READS IS OF BULK AT MOST 1048576: true; the input reads as it did. -/
def fieldDecidesUptoRow : OpenClaim := { program := "ytiopfakeajofdaa", sum := "cb8d3fda96edb9b9d9f78dc9ddfc1d8d82ce1ca67daac3ce573d3d951767f49f", func := "leapfrog/leapfroglaw01.FieldDecides", spec := "fieldDecides", apart := false, narrowed := true }
def FieldDecidesUptoSaid : Prop := fieldDecidesUptoRow.holds Try.pinned (OpenSpec.upto fieldDecidesSpec)

/-- 'leapfroglaw01.FieldWords', WHERE WHAT IT READS IS OF BULK AT MOST 1048576: true; the input reads as it did. -/
def fieldWordsUptoRow : OpenClaim := { program := "ytiopfakeajofdaa", sum := "cb8d3fda96edb9b9d9f78dc9ddfc1d8d82ce1ca67daac3ce573d3d951767f49f", func := "leapfrog/leapfroglaw01.FieldWords", spec := "fieldWords", apart := false, narrowed := true }
def FieldWordsUptoSaid : Prop := fieldWordsUptoRow.holds Try.pinned (OpenSpec.upto fieldWordsSpec)

/-- 'leapfroglaw01.FieldCommits', WHERE WHAT IT READS IS OF BULK AT MOST 1048576: true; the input reads as it did. -/
def fieldCommitsUptoRow : OpenClaim := { program := "ytiopfakeajofdaa", sum := "cb8d3fda96edb9b9d9f78dc9ddfc1d8d82ce1ca67daac3ce573d3d951767f49f", func := "leapfrog/leapfroglaw01.FieldCommits", spec := "fieldCommits", apart := false, narrowed := true }
def FieldCommitsUptoSaid : Prop := fieldCommitsUptoRow.holds Try.pinned (OpenSpec.upto fieldCommitsSpec)

/-- 'leapfroglaw01.FieldExamples', WHERE WHAT IT READS IS OF BULK AT MOST 1048576: true; the input reads as it did. -/
def fieldExamplesUptoRow : OpenClaim := { program := "ytiopfakeajofdaa", sum := "cb8d3fda96edb9b9d9f78dc9ddfc1d8d82ce1ca67daac3ce573d3d951767f49f", func := "leapfrog/leapfroglaw01.FieldExamples", spec := "fieldExamples", apart := false, narrowed := true }
def FieldExamplesUptoSaid : Prop := fieldExamplesUptoRow.holds Try.pinned (OpenSpec.upto fieldExamplesSpec)

/-- 'leapfroglaw01.FieldParts', WHERE WHAT IT READS IS OF BULK AT MOST 1048576: true; the input reads as it did. -/
def fieldPartsUptoRow : OpenClaim := { program := "ytiopfakeajofdaa", sum := "cb8d3fda96edb9b9d9f78dc9ddfc1d8d82ce1ca67daac3ce573d3d951767f49f", func := "leapfrog/leapfroglaw01.FieldParts", spec := "fieldParts", apart := false, narrowed := true }
def FieldPartsUptoSaid : Prop := fieldPartsUptoRow.holds Try.pinned (OpenSpec.upto fieldPartsSpec)

end Rows
end Go.Proofs.Ytiopfakeajofdaa
