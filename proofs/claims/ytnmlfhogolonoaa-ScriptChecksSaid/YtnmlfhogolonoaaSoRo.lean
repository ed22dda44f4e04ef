/-
  What is known of the reference's Check and Encode at a depth.
-/
import Derived.Test.YtnmlfhogolonoaaSoRf
set_option linter.unusedVariables false
set_option linter.unusedSimpArgs false
namespace Go.Proofs.Ytnmlfhogolonoaa
open Go.Proofs.Ytnmlfhogolonoaa.Eo
open Nat renaming reduceAdd → zA, reduceMul → zM, reduceLT → zL, reduceEqDiff → zE, reduceLeDiff → zD
open Int renaming reduceAdd → yA, reduceLE → yE, reduceLT → yL, reduceEq → yQ, reduceToNat → yT
noncomputable section
theorem H60 (n : Nat) : ∀ h k n1 v (l : List Int), RdL none 1 h v (l.map fun x : Int => AV.int .u64 x) → (∀ a, own v = some a → a < h.next) → (∀ x ∈ l, inU x) → ∃ v' h', cW (n + 1) 60 [.agg [.int .u8 k, .int .i64 n1, v]] h = some (v', h') ∧ SaysE (domB k n1 l) h v' h' :=
  fun h k n1 v l hv hl hi => callW_of (by kernel_rfl) (by kernel_rfl) c60_eq (w60 Try.prog hv hl hi)
theorem H35 (n : Nat) : ∀ h (c : CfgT) v, RdL none 1 h v (c.cuts.map fun x : Int => AV.int .u64 x) → (∀ a, own v = some a → a < h.next) → (∀ x ∈ c.cuts, inU x) → ∃ v' h', cW (n + 2) 35 [.agg (cfgC c v)] h = some (v', h') ∧ SaysE (layB c) h v' h' :=
  fun h c v hv hl hi => callW_of (by kernel_rfl) (by kernel_rfl) c35_eq (w35 (H60 n) hv hl hi)
theorem H16 (n : Nat) : ∀ h v c ps ks, IsS h v c ps ks → (∀ x ∈ c.cuts, inU x) → ∃ v' h', cW (n + 3) 16 [v] h = some (v', h') ∧ SaysX (chkE c ps ks) h v' h' :=
  fun h v c ps ks hs hi => callW_of (by kernel_rfl) (by kernel_rfl) c16_eq (w16 Try.prog (H35 n) hs hi)
theorem H56 (n : Nat) : F56 (cW (n + 1)) := fun h x => callW_of (by kernel_rfl) (by kernel_rfl) c56_eq (w56 Try.prog)
theorem H55 (n : Nat) : F55 (cW (n + 2)) := fun h x => callW_of (by kernel_rfl) (by kernel_rfl) c55_eq (w55 Try.prog (H56 n))
theorem H57 (n : Nat) : F57 (cW (n + 1)) := fun h v l hl hv ho => callW_of (by kernel_rfl) (by kernel_rfl) c57_eq (w57 Try.prog hl hv ho)
theorem H33 (n : Nat) : ∀ h v c ps ks, IsS h v c ps ks → chkB c ps ks → (∀ p ∈ ps, ∀ x ∈ p, opR x) → (∀ x ∈ c.cuts, inU x) → ∃ v' h', cW (n + 3) 33 [v] h = some (v', h') ∧ Post33 (numsS c ps ks) h v' h' :=
  fun h v c ps ks hs hc hp hu => callW_of (by kernel_rfl) (by kernel_rfl) c33_eq (w33 Try.prog (H55 n) (H56 (n + 1)) (H57 (n + 1)) hs hc hp hu)
theorem H32 (n : Nat) : ∀ h v (l : List Int), l.length ≤ 10000000 → (∀ x ∈ l, inU x) → RdL none 1 h v (l.map fun x : Int => AV.int .u64 x) → (∀ a, own v = some a → a < h.next) → ∃ v' h', cW (n + 1) 32 [v] h = some (v', h') ∧ (v' = .str (strOf (bytesF l)) ∧ StepN h h') :=
  fun h v l hl hi hv ho => callW_of (by kernel_rfl) (by kernel_rfl) c32_eq (w32 Try.prog hl hi hv ho)
theorem H14 (n : Nat) : ∀ h v c ps ks, IsS h v c ps ks → (∀ p ∈ ps, ∀ x ∈ p, opR x) → (∀ x ∈ c.cuts, inU x) → ∃ v' h', cW (n + 4) 14 [v] h = some (v', h') ∧ PostEnc c ps ks h v' h' :=
  fun h v c ps ks hs hp hu => callW_of (by kernel_rfl) (by kernel_rfl) c14_eq (w14 Try.prog (H16 n) (H33 n) (H32 (n + 2)) hs hp hu)
end
end Go.Proofs.Ytnmlfhogolonoaa
