/-
  What is known of Decode at a depth.
-/
import Derived.Test.YtnmlfhogolonoaaSoZg
set_option linter.unusedVariables false
set_option linter.unusedSimpArgs false
namespace Go.Proofs.Ytnmlfhogolonoaa
open Go.Proofs.Ytnmlfhogolonoaa.Eo
open Nat renaming reduceAdd → zA, reduceMul → zM, reduceLT → zL, reduceEqDiff → zE, reduceLeDiff → zD
open Int renaming reduceAdd → yA, reduceLE → yE, reduceLT → yL, reduceEq → yQ, reduceToNat → yT
noncomputable section
theorem H67 (n : Nat) : F67 (cW (n + 3)) := fun h a s ga ha hs => callW_of (by kernel_rfl) (by kernel_rfl) c67_eq (w67 Try.prog (H66 (n + 1)) (H65 n) (H30 (n + 1)) ga ha hs)
theorem H74 (n : Nat) {m : Nat} (hm : m < 4294967296) : ∀ h, cW (n + 1) 74 [.int .u64 1, .int .u64 (m : Int)] h = some (.tup [.int .u64 0, .int .u64 (m : Int)], h) := fun h => by
  obtain ⟨v', h', e, rfl, rfl⟩ := callW_of (n := n) (f := 74) (args := [.int .u64 1, .int .u64 (m : Int)]) (h := h) (by kernel_rfl) (by kernel_rfl) c74_eq (w74 Try.prog hm)
  exact e
theorem H72 (n : Nat) {m : Nat} (hm : m < 4294967296) : ∀ h, cW (n + 2) 72 [.int .u64 1, .int .u64 (m : Int)] h = some (.tup [.int .u64 0, .int .u64 (m : Int)], h) := fun h => by
  obtain ⟨v', h', e, rfl, rfl⟩ := callW_of (n := n + 1) (f := 72) (args := [.int .u64 1, .int .u64 (m : Int)]) (h := h) (by kernel_rfl) (by kernel_rfl) c72_eq (w72 Try.prog (H74 n hm h))
  exact e
theorem H68 (n : Nat) : F68 (cW (n + 3)) := fun h b m p gb hb hm => callW_of (by kernel_rfl) (by kernel_rfl) c68_eq (w68 Try.prog gb hb hm (H72 n (by omega)))
theorem H49 (n : Nat) : ∀ h a s, h.t.get a = some (rdA s) → a < h.next → s.1.size ≤ 9223372036854775807 → ∃ v h', cW (n + 4) 49 [.ptr a 0] h = some (v, h') ∧ Post49 (anyD s) a h v h' :=
  fun h a s ga ha hs => callW_of (by kernel_rfl) (by kernel_rfl) c49_eq (w49 Try.prog (H65 (n + 1)) (H66 (n + 2)) (H67 n) (H68 n) ga ha hs)
theorem H22 (n : Nat) : ∀ h (s : ByteArray), ∃ v h', cW (n + 6) 22 [.str s] h = some (v, h') ∧ PostDec s (Acc s (anyD (s, false))) (anyD (s, false)) h v h' :=
  fun h s => callW_of (by kernel_rfl) (by kernel_rfl) c22_eq (w22 Try.prog (H49 (n + 1)) (H13 n))
end
end Go.Proofs.Ytnmlfhogolonoaa
