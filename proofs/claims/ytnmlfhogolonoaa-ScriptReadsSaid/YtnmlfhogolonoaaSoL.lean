/-
  The law ScriptReads: what it does with a string.
-/
import Derived.Test.YtnmlfhogolonoaaSoH
import Derived.Test.YtnmlfhogolonoaaSoK
set_option linter.unusedVariables false
set_option linter.unusedSimpArgs false
namespace Go.Proofs.Ytnmlfhogolonoaa
open Go.Proofs.Ytnmlfhogolonoaa.Eo Go.RowKit
noncomputable section
/-- the call of 'known' alone -/
def call11 : CallE := fun f args h => match args with
  | [] => if f = 11 then some (.bool true, h) else none
  | _ => none
theorem call11_some {f : FuncId} {args : List AV} {h : H} {v : AV} {h' : H} (e : call11 f args h = some (v, h')) : f = 11 ∧ args = [] ∧ v = .bool true ∧ h' = h := by
  unfold call11 at e
  split at e
  · split at e
    · rename_i hf
      simp only [Option.some.injEq, Prod.mk.injEq] at e
      exact ⟨hf, rfl, e.1.symm, e.2.symm⟩
    · simp at e
  · simp at e
theorem call11_plain : Plain call11 := by
  intro f args h hb
  cases e : call11 f args h with
  | none => rfl
  | some r =>
    obtain ⟨rfl, _⟩ := call11_some (v := r.1) (h' := r.2) e
    exact absurd hb (by decide)
theorem has11 : hasE Try.prog 11 = true := by kernel_rfl
theorem call11_ok : CallOK true Try.prog call11 := by
  intro f args h v h' e ρ w ARGS ha hr hf
  obtain ⟨rfl, rfl, rfl, rfl⟩ := call11_some e
  simp only [VRs] at ha
  subst ha
  obtain ⟨fn, c, g1, g2, g3⟩ := hasE_of has11
  refine .inl ⟨by decide, .inr ⟨11, #[], run_callFunc_enter g1 g2 g3 _ _, (known11 w).mono fun e w' hh => ?_⟩⟩
  obtain ⟨rfl, bl⟩ := hh
  refine ⟨ρ, _, rfl, rfl, ⟨?_, Le.refl _, ⟨bl.os, bl.tape, bl.output⟩, bl.size, fun r hr _ => bl.block r hr, fun a o l h1 h2 h3 _ => ⟨a, o, l, h1, h2, h3, rfl⟩⟩, hf, Kp.refl _ _⟩
  exact ⟨fun a o l h1 h2 h3 => by
    obtain ⟨j1, j2⟩ := hr.obj a o l h1 h2 h3
    exact ⟨Nat.lt_of_lt_of_le j1 bl.size, OIn.congr (bl.block _ j1) j2⟩, hr.inj⟩
theorem w4' {h : H} {s : ByteArray} (hs : 5000 < s.size) : WF Try.prog call11 c4 [.str s] h fun v h' => v = .bool true := by
  have e1 : (5000 : Int) < (s.size : Int) := by omega
  simp only [go_sem, ↓reduceIte, ↓reduceDIte, Nat.reduceAdd, Nat.reduceMul, Nat.reduceLT, Nat.reduceEqDiff, Nat.reduceLeDiff, Int.reduceAdd, Int.reduceLE, Int.reduceLT, Int.reduceEq, Int.reduceToNat, reduceCtorEq, c4, c4_s0, c4_s1, c4_s2, c4_s3, e1]
  refine opt_some (x := (.bool true, h)) rfl ?_
  simp only [go_sem, ↓reduceIte, ↓reduceDIte, Nat.reduceAdd, Nat.reduceMul, Nat.reduceLT, Nat.reduceEqDiff, Nat.reduceLeDiff, Int.reduceAdd, Int.reduceLE, Int.reduceLT, Int.reduceEq, Int.reduceToNat, reduceCtorEq]
/-- THE LAW -/
theorem law4 (s : ByteArray) (W : World) : Calls Try.prog 4 #[.string s] W fun e W' => e = .returned (.bool true) ∧ Below W.heap.size W W' := by
  by_cases hs : s.size ≤ 5000
  · exact calls_of (cW_ok 8) (callW_plain 8) (args := [.str s]) (ARGS := [.string s]) ⟨_, [], rfl, rfl, rfl⟩ rfl (by kernel_rfl) (by kernel_rfl) c4_eq (w4 4 hs) W
  · exact calls_of call11_ok call11_plain (args := [.str s]) (ARGS := [.string s]) ⟨_, [], rfl, rfl, rfl⟩ rfl (by kernel_rfl) (by kernel_rfl) c4_eq (w4' (by omega)) W
end
end Go.Proofs.Ytnmlfhogolonoaa
