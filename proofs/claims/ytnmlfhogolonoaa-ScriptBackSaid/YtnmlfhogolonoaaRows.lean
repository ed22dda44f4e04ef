/-
  No cell of these rows narrows 'for every input' (looked for: loops, veiled, ifaces, maps, wideKeys, modest, calm, conditions, laid).
  DERIVED. THE GIVEN ROWS OF THIS SEAT. 7 by the template 'for every input the law returns true; each argument reads behind the call as it read before'; 0 by the template 'total and deterministic' (their statements: YtnmlfhogolonoaaTotals.lean).
  GIVEN WITH THE SEED: the statements are not yours to turn. If you find one false, say at which input.
  Laid BY PROGRAM, IN A SANDBOX (cutbox-rows.mjs): the forced cells as the released guide's own fill.sh prints them over the translation 67cc4af3781a4176… (all of the seat's roots in one cut). By AI agents, Wed Nov 11 2026. No macro, syntax, notation, axiom, sorry.
-/
import Derived.Test.YtnmlfhogolonoaaChecked
import GoSem.Claim
import GoSem.ClaimJoined
import GoSem.ClaimMapViews
import Derived.JoinedTies
import Derived.KernelRfl
namespace Go.Proofs.Ytnmlfhogolonoaa
/- THE CELL 'sum', in the pinned program and in every row, IS THE sha256 OF THE DUMP (.gsa) THAT YtnmlfhogolonoaaProg.lean LOADS. Nothing in Lean hashes anything: it is a label: what it is worth is what the hold of that sum in a sandbox is worth. -/
noncomputable def Try.pinned : Pinned := { name := "ytnmlfhogolonoaa", sum := "67cc4af3781a4176b242cc82e017563ae87bec31356202766f2a24ff802d9187", checked := Try.checked }
namespace Rows
def none {H : Type} : Left H := { results := [], args := [] }

/-- 'leapfroglaw43.ScriptChecks': WHATEVER THE INPUT: true; the input reads as it did. -/
def scriptChecksSpec : ChangeSpec := { name := "scriptChecks", fn := fun _ => fun
  | [d] => { results := [.lit (.bool true)], args := [d] }
  | _ => none }
def scriptChecksRow : OpenClaim := { program := "ytnmlfhogolonoaa", sum := "67cc4af3781a4176b242cc82e017563ae87bec31356202766f2a24ff802d9187", func := "leapfrog/leapfroglaw43.ScriptChecks", spec := "scriptChecks", unfollowed := true, recurses := true, apart := false }
def ScriptChecksSaid : Prop := scriptChecksRow.holds Try.pinned (OpenSpec.ofChange scriptChecksSpec)

/-- ITS FALSE NEIGHBOUR: 'it returns false'. Refute it at one input. -/
def scriptChecksWrong : ChangeSpec := { name := "scriptChecks", fn := fun _ => fun
  | [d] => { results := [.lit (.bool false)], args := [d] }
  | _ => none }
def ScriptChecksWrongFalsely : Prop := scriptChecksRow.holds Try.pinned (OpenSpec.ofChange scriptChecksWrong)

/-- 'leapfroglaw43.ScriptReads': WHATEVER THE INPUT: true; the input reads as it did. -/
def scriptReadsSpec : ChangeSpec := { name := "scriptReads", fn := fun _ => fun
  | [d] => { results := [.lit (.bool true)], args := [d] }
  | _ => none }
def scriptReadsRow : OpenClaim := { program := "ytnmlfhogolonoaa", sum := "67cc4af3781a4176b242cc82e017563ae87bec31356202766f2a24ff802d9187", func := "leapfrog/leapfroglaw43.ScriptReads", spec := "scriptReads", unfollowed := true, recurses := true, apart := false }
def ScriptReadsSaid : Prop := scriptReadsRow.holds Try.pinned (OpenSpec.ofChange scriptReadsSpec)

/-- ITS FALSE NEIGHBOUR: 'it returns false'. Refute it at one input. -/
def scriptReadsWrong : ChangeSpec := { name := "scriptReads", fn := fun _ => fun
  | [d] => { results := [.lit (.bool false)], args := [d] }
  | _ => none }
def ScriptReadsWrongFalsely : Prop := scriptReadsRow.holds Try.pinned (OpenSpec.ofChange scriptReadsWrong)

/-- 'leapfroglaw43.ScriptAny': WHATEVER THE INPUT: true; the input reads as it did. -/
def scriptAnySpec : ChangeSpec := { name := "scriptAny", fn := fun _ => fun
  | [d] => { results := [.lit (.bool true)], args := [d] }
  | _ => none }
def scriptAnyRow : OpenClaim := { program := "ytnmlfhogolonoaa", sum := "67cc4af3781a4176b242cc82e017563ae87bec31356202766f2a24ff802d9187", func := "leapfrog/leapfroglaw43.ScriptAny", spec := "scriptAny", unfollowed := true, recurses := true, apart := false }
def ScriptAnySaid : Prop := scriptAnyRow.holds Try.pinned (OpenSpec.ofChange scriptAnySpec)

/-- ITS FALSE NEIGHBOUR: 'it returns false'. Refute it at one input. -/
def scriptAnyWrong : ChangeSpec := { name := "scriptAny", fn := fun _ => fun
  | [d] => { results := [.lit (.bool false)], args := [d] }
  | _ => none }
def ScriptAnyWrongFalsely : Prop := scriptAnyRow.holds Try.pinned (OpenSpec.ofChange scriptAnyWrong)

/-- 'leapfroglaw43.ScriptEquals': WHATEVER THE INPUT: true; the input reads as it did. -/
def scriptEqualsSpec : ChangeSpec := { name := "scriptEquals", fn := fun _ => fun
  | [d1, d2] => { results := [.lit (.bool true)], args := [d1, d2] }
  | _ => none }
def scriptEqualsRow : OpenClaim := { program := "ytnmlfhogolonoaa", sum := "67cc4af3781a4176b242cc82e017563ae87bec31356202766f2a24ff802d9187", func := "leapfrog/leapfroglaw43.ScriptEquals", spec := "scriptEquals", unfollowed := true, recurses := true, apart := false }
def ScriptEqualsSaid : Prop := scriptEqualsRow.holds Try.pinned (OpenSpec.ofChange scriptEqualsSpec)

/-- ITS FALSE NEIGHBOUR: 'it returns false'. Refute it at one input. -/
def scriptEqualsWrong : ChangeSpec := { name := "scriptEquals", fn := fun _ => fun
  | [d1, d2] => { results := [.lit (.bool false)], args := [d1, d2] }
  | _ => none }
def ScriptEqualsWrongFalsely : Prop := scriptEqualsRow.holds Try.pinned (OpenSpec.ofChange scriptEqualsWrong)

/-- 'leapfroglaw43.ScriptDecodes': WHATEVER THE INPUT: true; the input reads as it did. -/
def scriptDecodesSpec : ChangeSpec := { name := "scriptDecodes", fn := fun _ => fun
  | [d] => { results := [.lit (.bool true)], args := [d] }
  | _ => none }
def scriptDecodesRow : OpenClaim := { program := "ytnmlfhogolonoaa", sum := "67cc4af3781a4176b242cc82e017563ae87bec31356202766f2a24ff802d9187", func := "leapfrog/leapfroglaw43.ScriptDecodes", spec := "scriptDecodes", unfollowed := true, recurses := true, apart := false }
def ScriptDecodesSaid : Prop := scriptDecodesRow.holds Try.pinned (OpenSpec.ofChange scriptDecodesSpec)

/-- ITS FALSE NEIGHBOUR: 'it returns false'. Refute it at one input. -/
def scriptDecodesWrong : ChangeSpec := { name := "scriptDecodes", fn := fun _ => fun
  | [d] => { results := [.lit (.bool false)], args := [d] }
  | _ => none }
def ScriptDecodesWrongFalsely : Prop := scriptDecodesRow.holds Try.pinned (OpenSpec.ofChange scriptDecodesWrong)

/-- 'leapfroglaw43.ScriptBack': WHATEVER THE INPUT: true; the input reads as it did. -/
def scriptBackSpec : ChangeSpec := { name := "scriptBack", fn := fun _ => fun
  | [d1, d2, d3] => { results := [.lit (.bool true)], args := [d1, d2, d3] }
  | _ => none }
def scriptBackRow : OpenClaim := { program := "ytnmlfhogolonoaa", sum := "67cc4af3781a4176b242cc82e017563ae87bec31356202766f2a24ff802d9187", func := "leapfrog/leapfroglaw43.ScriptBack", spec := "scriptBack", unfollowed := true, recurses := true, apart := false }
def ScriptBackSaid : Prop := scriptBackRow.holds Try.pinned (OpenSpec.ofChange scriptBackSpec)

/-- ITS FALSE NEIGHBOUR: 'it returns false'. Refute it at one input. -/
def scriptBackWrong : ChangeSpec := { name := "scriptBack", fn := fun _ => fun
  | [d1, d2, d3] => { results := [.lit (.bool false)], args := [d1, d2, d3] }
  | _ => none }
def ScriptBackWrongFalsely : Prop := scriptBackRow.holds Try.pinned (OpenSpec.ofChange scriptBackWrong)

/-- 'leapfroglaw43.ScriptExamples': WHATEVER THE INPUT: true; the input reads as it did. -/
def scriptExamplesSpec : ChangeSpec := { name := "scriptExamples", fn := fun _ => fun
  | [] => { results := [.lit (.bool true)], args := [] }
  | _ => none }
def scriptExamplesRow : OpenClaim := { program := "ytnmlfhogolonoaa", sum := "67cc4af3781a4176b242cc82e017563ae87bec31356202766f2a24ff802d9187", func := "leapfrog/leapfroglaw43.ScriptExamples", spec := "scriptExamples", unfollowed := true, recurses := true, apart := false }
def ScriptExamplesSaid : Prop := scriptExamplesRow.holds Try.pinned (OpenSpec.ofChange scriptExamplesSpec)

/-- ITS FALSE NEIGHBOUR: 'it returns false'. Refute it at one input. -/
def scriptExamplesWrong : ChangeSpec := { name := "scriptExamples", fn := fun _ => fun
  | [] => { results := [.lit (.bool false)], args := [] }
  | _ => none }
def ScriptExamplesWrongFalsely : Prop := scriptExamplesRow.holds Try.pinned (OpenSpec.ofChange scriptExamplesWrong)

/- THE SECOND FORM. 'bulk': how many values and letters a reading holds, each counted each time it is reached (what is shared counts as often as it is met; a slice's spare places count too). A statement '..UptoSaid' is the law's where the arguments, and the package variables that the reading takes, are together of bulk at most 1048576: NARROWER than '..Said'. Prove '..Said' where nothing that the law and all that it calls make is longer than what came in: it says more and counts as full. Else prove '..UptoSaid'. A law counts once. -/
mutual
def uptoBulk {H : Type} : DataW H → Nat
  | .lit (.string bytes) => bytes.length + 1
  | .lit _ => 1
  | .nil => 1
  | .ptr d => uptoBulk d + 1
  | .slice elems spare => uptoBulkAll elems + uptoBulkAll spare + 1
  | .agg parts => uptoBulkAll parts + 1
  | .iface _ d => uptoBulk d + 1
  | .map entries => uptoBulkEntries entries + 1
  | .held _ => 1
def uptoBulkAll {H : Type} : List (DataW H) → Nat
  | [] => 0
  | d :: r => uptoBulk d + uptoBulkAll r
def uptoBulkEntries {H : Type} : List (Lit × DataW H) → Nat
  | [] => 0
  | x :: r => uptoBulkEntry x + uptoBulkEntries r
def uptoBulkEntry {H : Type} : Lit × DataW H → Nat
  | (.string bytes, d) => bytes.length + uptoBulk d + 1
  | (_, d) => uptoBulk d + 1
 end
def uptoSmall : (H : Type) → List (DataW H) → Bool := fun _ ds => decide (uptoBulkAll ds ≤ 1048576)
def OpenSpec.upto (s : _root_.Go.ChangeSpec) : _root_.Go.OpenSpec := { _root_.Go.OpenSpec.ofChange s with cond := some uptoSmall }

/-- 'leapfroglaw43.ScriptChecks', WHERE WHAT IT READS IS OF BULK AT MOST 1048576: true; the input reads as it did. -/
def scriptChecksUptoRow : OpenClaim := { program := "ytnmlfhogolonoaa", sum := "67cc4af3781a4176b242cc82e017563ae87bec31356202766f2a24ff802d9187", func := "leapfrog/leapfroglaw43.ScriptChecks", spec := "scriptChecks", unfollowed := true, recurses := true, apart := false, narrowed := true }
def ScriptChecksUptoSaid : Prop := scriptChecksUptoRow.holds Try.pinned (OpenSpec.upto scriptChecksSpec)

/-- 'leapfroglaw43.ScriptReads', WHERE WHAT IT READS IS OF BULK AT MOST 1048576: true; the input reads as it did. -/
def scriptReadsUptoRow : OpenClaim := { program := "ytnmlfhogolonoaa", sum := "67cc4af3781a4176b242cc82e017563ae87bec31356202766f2a24ff802d9187", func := "leapfrog/leapfroglaw43.ScriptReads", spec := "scriptReads", unfollowed := true, recurses := true, apart := false, narrowed := true }
def ScriptReadsUptoSaid : Prop := scriptReadsUptoRow.holds Try.pinned (OpenSpec.upto scriptReadsSpec)

/-- 'leapfroglaw43.ScriptAny', WHERE WHAT IT READS IS OF BULK AT MOST 1048576: true; the input reads as it did. -/
def scriptAnyUptoRow : OpenClaim := { program := "ytnmlfhogolonoaa", sum := "67cc4af3781a4176b242cc82e017563ae87bec31356202766f2a24ff802d9187", func := "leapfrog/leapfroglaw43.ScriptAny", spec := "scriptAny", unfollowed := true, recurses := true, apart := false, narrowed := true }
def ScriptAnyUptoSaid : Prop := scriptAnyUptoRow.holds Try.pinned (OpenSpec.upto scriptAnySpec)

/-- 'leapfroglaw43.ScriptEquals', WHERE WHAT IT READS IS OF BULK AT MOST 1048576: true; the input reads as it did. -/
def scriptEqualsUptoRow : OpenClaim := { program := "ytnmlfhogolonoaa", sum := "67cc4af3781a4176b242cc82e017563ae87bec31356202766f2a24ff802d9187", func := "leapfrog/leapfroglaw43.ScriptEquals", spec := "scriptEquals", unfollowed := true, recurses := true, apart := false, narrowed := true }
def ScriptEqualsUptoSaid : Prop := scriptEqualsUptoRow.holds Try.pinned (OpenSpec.upto scriptEqualsSpec)

/-- 'leapfroglaw43.ScriptDecodes', WHERE WHAT IT READS IS OF BULK AT MOST 1048576: true; the input reads as it did. -/
def scriptDecodesUptoRow : OpenClaim := { program := "ytnmlfhogolonoaa", sum := "67cc4af3781a4176b242cc82e017563ae87bec31356202766f2a24ff802d9187", func := "leapfrog/leapfroglaw43.ScriptDecodes", spec := "scriptDecodes", unfollowed := true, recurses := true, apart := false, narrowed := true }
def ScriptDecodesUptoSaid : Prop := scriptDecodesUptoRow.holds Try.pinned (OpenSpec.upto scriptDecodesSpec)

/-- 'leapfroglaw43.ScriptBack', WHERE WHAT IT READS IS OF BULK AT MOST 1048576: true; the input reads as it did. -/
def scriptBackUptoRow : OpenClaim := { program := "ytnmlfhogolonoaa", sum := "67cc4af3781a4176b242cc82e017563ae87bec31356202766f2a24ff802d9187", func := "leapfrog/leapfroglaw43.ScriptBack", spec := "scriptBack", unfollowed := true, recurses := true, apart := false, narrowed := true }
def ScriptBackUptoSaid : Prop := scriptBackUptoRow.holds Try.pinned (OpenSpec.upto scriptBackSpec)

/-- 'leapfroglaw43.ScriptExamples', WHERE WHAT IT READS IS OF BULK AT MOST 1048576: true; the input reads as it did. -/
def scriptExamplesUptoRow : OpenClaim := { program := "ytnmlfhogolonoaa", sum := "67cc4af3781a4176b242cc82e017563ae87bec31356202766f2a24ff802d9187", func := "leapfrog/leapfroglaw43.ScriptExamples", spec := "scriptExamples", unfollowed := true, recurses := true, apart := false, narrowed := true }
def ScriptExamplesUptoSaid : Prop := scriptExamplesUptoRow.holds Try.pinned (OpenSpec.upto scriptExamplesSpec)

end Rows
end Go.Proofs.Ytnmlfhogolonoaa
