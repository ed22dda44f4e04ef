/-
  What is known of Decode of both at a depth.
-/
import Derived.Test.YtnmlfhogolonoaaSoRk
set_option linter.unusedVariables false
set_option linter.unusedSimpArgs false
namespace Go.Proofs.Ytnmlfhogolonoaa
open Go.Proofs.Ytnmlfhogolonoaa.Eo
open Nat renaming reduceAdd → zA, reduceMul → zM, reduceLT → zL, reduceEqDiff → zE, reduceLeDiff → zD
open Int renaming reduceAdd → yA, reduceLE → yE, reduceLT → yL, reduceEq → yQ, reduceToNat → yT
noncomputable section
theorem H67 (n : Nat) : F67 (cW (n + 3)) := fun h a s ga ha hs => callW_of (by kernel_rfl) (by kernel_rfl) c67_eq (w67 Try.prog (H66 (n + 1)) (H65 n) (H30 (n + 1)) ga ha hs)
theorem H74 (n : Nat) {m : Nat} (hm : m < 4294967296) : ∀ h, cW (n + 1) 74 [.int .u64 1, .int .u64 (m : Int)] h = some (.tup [.int .u64 0, .int .u64 (m : Int)], h) := fun h => by
  obtain ⟨v', h', e, rfl, rfl⟩ := callW_of (n := n) (f := 74) (args := [.int .u64 1, .int .u64 (m : Int)]) (h := h) (by kernel_rfl) (by kernel_rfl) c74_eq (w74 Try.prog hm)
  exact e
theorem H72 (n : Nat) {m : Nat} (hm : m < 4294967296) : ∀ h, cW (n + 2) 72 [.int .u64 1, .int .u64 (m : Int)] h = some (.tup [.int .u64 0, .int .u64 (m : Int)], h) := fun h => by
  obtain ⟨v', h', e, rfl, rfl⟩ := callW_of (n := n + 1) (f := 72) (args := [.int .u64 1, .int .u64 (m : Int)]) (h := h) (by kernel_rfl) (by kernel_rfl) c72_eq (w72 Try.prog (H74 n hm h))
  exact e
theorem H68 (n : Nat) : F68 (cW (n + 3)) := fun h b m p gb hb hm => callW_of (by kernel_rfl) (by kernel_rfl) c68_eq (w68 Try.prog gb hb hm (H72 n (by omega)))
theorem H49 (n : Nat) : ∀ h a s, h.t.get a = some (rdA s) → a < h.next → s.1.size ≤ 9223372036854775807 → ∃ v h', cW (n + 4) 49 [.ptr a 0] h = some (v, h') ∧ Post49 (anyD s) a h v h' :=
  fun h a s ga ha hs => callW_of (by kernel_rfl) (by kernel_rfl) c49_eq (w49 Try.prog (H65 (n + 1)) (H66 (n + 2)) (H67 n) (H68 n) ga ha hs)
theorem H22 (n : Nat) : ∀ h (s : ByteArray), ∃ v h', cW (n + 6) 22 [.str s] h = some (v, h') ∧ PostDec s (Acc s (anyD (s, false))) (anyD (s, false)) h v h' :=
  fun h s => callW_of (by kernel_rfl) (by kernel_rfl) c22_eq (w22 Try.prog (H49 (n + 1)) (H13 n))
theorem H60 (n : Nat) : ∀ h k n1 v (l : List Int), RdL none 1 h v (l.map fun x : Int => AV.int .u64 x) → (∀ a, own v = some a → a < h.next) → (∀ x ∈ l, inU x) → ∃ v' h', cW (n + 1) 60 [.agg [.int .u8 k, .int .i64 n1, v]] h = some (v', h') ∧ SaysE (domB k n1 l) h v' h' :=
  fun h k n1 v l hv hl hi => callW_of (by kernel_rfl) (by kernel_rfl) c60_eq (w60 Try.prog hv hl hi)
theorem H35 (n : Nat) : ∀ h (c : CfgT) v, RdL none 1 h v (c.cuts.map fun x : Int => AV.int .u64 x) → (∀ a, own v = some a → a < h.next) → (∀ x ∈ c.cuts, inU x) → ∃ v' h', cW (n + 2) 35 [.agg (cfgC c v)] h = some (v', h') ∧ SaysE (layB c) h v' h' :=
  fun h c v hv hl hi => callW_of (by kernel_rfl) (by kernel_rfl) c35_eq (w35 (H60 n) hv hl hi)
theorem H16 (n : Nat) : ∀ h v c ps ks, IsS h v c ps ks → (∀ x ∈ c.cuts, inU x) → ∃ v' h', cW (n + 3) 16 [v] h = some (v', h') ∧ SaysX (chkE c ps ks) h v' h' :=
  fun h v c ps ks hs hi => callW_of (by kernel_rfl) (by kernel_rfl) c16_eq (w16 Try.prog (H35 n) hs hi)
theorem H56 (n : Nat) : F56 (cW (n + 1)) := fun h x => callW_of (by kernel_rfl) (by kernel_rfl) c56_eq (w56 Try.prog)
theorem H55 (n : Nat) : F55 (cW (n + 2)) := fun h x => callW_of (by kernel_rfl) (by kernel_rfl) c55_eq (w55 Try.prog (H56 n))
theorem H57 (n : Nat) : F57 (cW (n + 1)) := fun h v l hl hv ho => callW_of (by kernel_rfl) (by kernel_rfl) c57_eq (w57 Try.prog hl hv ho)
theorem H33 (n : Nat) : ∀ h v c ps ks, IsS h v c ps ks → chkB c ps ks → (∀ p ∈ ps, ∀ x ∈ p, opR x) → (∀ x ∈ c.cuts, inU x) → ∃ v' h', cW (n + 3) 33 [v] h = some (v', h') ∧ Post33 (numsS c ps ks) h v' h' :=
  fun h v c ps ks hs hc hp hu => callW_of (by kernel_rfl) (by kernel_rfl) c33_eq (w33 Try.prog (H55 n) (H56 (n + 1)) (H57 (n + 1)) hs hc hp hu)
theorem H32 (n : Nat) : ∀ h v (l : List Int), l.length ≤ 10000000 → (∀ x ∈ l, inU x) → RdL none 1 h v (l.map fun x : Int => AV.int .u64 x) → (∀ a, own v = some a → a < h.next) → ∃ v' h', cW (n + 1) 32 [v] h = some (v', h') ∧ (v' = .str (strOf (bytesF l)) ∧ StepN h h') :=
  fun h v l hl hi hv ho => callW_of (by kernel_rfl) (by kernel_rfl) c32_eq (w32 Try.prog hl hi hv ho)
theorem H14 (n : Nat) : ∀ h v c ps ks, IsS h v c ps ks → (∀ p ∈ ps, ∀ x ∈ p, opR x) → (∀ x ∈ c.cuts, inU x) → ∃ v' h', cW (n + 4) 14 [v] h = some (v', h') ∧ PostEnc c ps ks h v' h' :=
  fun h v c ps ks hs hp hu => callW_of (by kernel_rfl) (by kernel_rfl) c14_eq (w14 Try.prog (H16 n) (H33 n) (H32 (n + 2)) hs hp hu)
theorem H51 (n : Nat) : F51 (cW (n + 1)) := fun h a s m ga hs h0 h1 => by
  obtain ⟨v, h', e, rfl, rfl⟩ := callW_of (n := n) (f := 51) (args := [.ptr a 0, .int .u64 m]) (h := h) (by kernel_rfl) (by kernel_rfl) c51_eq (w51 Try.prog ga hs ⟨h0, h1⟩)
  exact e
theorem H50 (n : Nat) : F50 (cW (n + 2)) := fun h a s m ga hs h0 h1 => by
  obtain ⟨v, h', e, rfl, rfl⟩ := callW_of (n := n + 1) (f := 50) (args := [.ptr a 0, .int .i64 m]) (h := h) (by kernel_rfl) (by kernel_rfl) c50_eq (w50 Try.prog (H51 n) ga hs ⟨h0, h1⟩)
  exact e
theorem H52 (n : Nat) : F52 (cW (n + 3)) := fun h a s ga ha hs => callW_of (by kernel_rfl) (by kernel_rfl) c52_eq (w52 Try.prog (H51 (n + 1)) (H50 n) ga ha hs)
theorem H23 (n : Nat) : ∀ h (s : ByteArray), ∃ v h', cW (n + 5) 23 [.str s] h = some (v, h') ∧ PostDec s (accT s (anyT (s, false))) (anyT (s, false)) h v h' :=
  fun h s => callW_of (by kernel_rfl) (by kernel_rfl) c23_eq (w23 Try.prog (H50 (n + 2)) (H51 (n + 3)) (H52 (n + 1)) (H14 n))
end
end Go.Proofs.Ytnmlfhogolonoaa
