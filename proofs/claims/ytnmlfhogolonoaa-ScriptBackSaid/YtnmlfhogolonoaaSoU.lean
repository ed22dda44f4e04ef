/-
  What is known of Check and Encode at a depth.
-/
import Derived.Test.YtnmlfhogolonoaaSoT
set_option linter.unusedVariables false
set_option linter.unusedSimpArgs false
namespace Go.Proofs.Ytnmlfhogolonoaa
open Go.Proofs.Ytnmlfhogolonoaa.Eo
open Nat renaming reduceAdd → zA, reduceMul → zM, reduceLT → zL, reduceEqDiff → zE, reduceLeDiff → zD
open Int renaming reduceAdd → yA, reduceLE → yE, reduceLT → yL, reduceEq → yQ, reduceToNat → yT
noncomputable section
theorem putF_of {call : CallE} {f : FuncId} {k : IntKind} (hw : ∀ {h : H} {b : AV} {bs : List Int} {len n : Nat}, Own 1 5 h b len (byV bs) → n < 18446744073709551616 → len + (putB n).length ≤ 1099511627776 → ∃ v h', call f [b, .int k (n : Int)] h = some (v, h') ∧ PostPut b len bs n h v h') : PutF call f k := by
  intro h b bs x ob h0 h1 hl
  obtain ⟨n, rfl⟩ : ∃ n : Nat, x = n := ⟨x.toNat, by omega⟩
  have hp := putB_len10 (n := n) (by omega)
  obtain ⟨v, h', e, p⟩ := hw ob (n := n) (by omega) (by omega)
  exact ⟨v, h', e, p.pb⟩
theorem H27 (n : Nat) : PutF (cW (n + 1)) 27 .i64 := putF_of fun ob hn hl => callW_of (by kernel_rfl) (by kernel_rfl) c27_eq (w27 Try.prog ob hn hl)
theorem H28 (n : Nat) : PutF (cW (n + 1)) 28 .u8 := putF_of fun ob hn hl => callW_of (by kernel_rfl) (by kernel_rfl) c28_eq (w28 Try.prog ob hn hl)
theorem H29 (n : Nat) : PutF (cW (n + 1)) 29 .u64 := putF_of fun ob hn hl => callW_of (by kernel_rfl) (by kernel_rfl) c29_eq (w29 Try.prog ob hn hl)
theorem H58 (n : Nat) : ∀ h k a b, cW (n + 1) 58 [.int .i64 k, .int .i64 a, .int .i64 b] h = some (.bool (decide (a ≤ k ∧ k ≤ b)), h) := fun h k a b => by
  obtain ⟨v', h', e, rfl, rfl⟩ := callW_of (n := n) (f := 58) (args := [.int .i64 k, .int .i64 a, .int .i64 b]) (h := h) (by kernel_rfl) (by kernel_rfl) c58_eq (w58 Try.prog k a b)
  exact e
theorem H70 (n : Nat) : ∀ h v (l : List Int), RdL none 1 h v (l.map fun x : Int => AV.int .u64 x) → cW (n + 1) 70 [v] h = some (.bool (ascB 0 l), h) := fun h v l hv => by
  obtain ⟨v', h', e, rfl, rfl⟩ := callW_of (n := n) (f := 70) (args := [v]) (h := h) (by kernel_rfl) (by kernel_rfl) c70_eq (w70 Try.prog hv)
  exact e
theorem H59 (n : Nat) : ∀ h k n1 v (l : List Int), RdL none 1 h v (l.map fun x : Int => AV.int .u64 x) → (∀ a, own v = some a → a < h.next) → ∃ v' h', cW (n + 2) 59 [.agg [.int .u8 k, .int .i64 n1, v]] h = some (v', h') ∧ SaysE (domB k n1 l) h v' h' :=
  fun h k n1 v l hv hl => callW_of (by kernel_rfl) (by kernel_rfl) c59_eq (w59 Try.prog (H70 n) hv hl)
theorem H34 (n : Nat) : ∀ h (c : CfgT) v, RdL none 1 h v (c.cuts.map fun x : Int => AV.int .u64 x) → (∀ a, own v = some a → a < h.next) → ∃ v' h', cW (n + 3) 34 [.agg (cfgC c v)] h = some (v', h') ∧ SaysE (layB c) h v' h' :=
  fun h c v hv hl => callW_of (by kernel_rfl) (by kernel_rfl) c34_eq (w34 (H58 (n + 1)) (H59 n) hv hl)
theorem H15 (n : Nat) : ∀ h v c ps ks, IsS h v c ps ks → ∃ v' h', cW (n + 4) 15 [v] h = some (v', h') ∧ SaysX (chkE c ps ks) h v' h' :=
  fun h v c ps ks hs => callW_of (by kernel_rfl) (by kernel_rfl) c15_eq (w15 Try.prog (H34 n) hs)
theorem H30 (n : Nat) : F30 (cW (n + 1)) := fun h a => by
  obtain ⟨v, h', e, st, r, o⟩ := callW_of (n := n) (f := 30) (args := [.ptr a 0]) (h := h) (by kernel_rfl) (by kernel_rfl) c30_eq (w30 Try.prog)
  exact ⟨v, h', e, st, r, o⟩
theorem H31 (n : Nat) : F31 (cW (n + 1)) := fun h v l hl hv ho => callW_of (by kernel_rfl) (by kernel_rfl) c31_eq (w31 Try.prog hl hv ho)
theorem H13 (n : Nat) : ∀ h v c ps ks, IsS h v c ps ks → (∀ p ∈ ps, ∀ x ∈ p, opR x) → (∀ x ∈ c.cuts, x < 18446744073709551616) → ∃ v' h', cW (n + 5) 13 [v] h = some (v', h') ∧ Post13 c ps ks h v' h' :=
  fun h v c ps ks hs hop hcu => callW_of (by kernel_rfl) (by kernel_rfl) c13_eq (w13h (tailF (H27 (n + 3)) (H28 (n + 3)) (H29 (n + 3)) (H30 (n + 3)) (H31 (n + 3))) (H15 n) (H27 (n + 3)) (H28 (n + 3)) (H29 (n + 3)) hs hop hcu)
end
end Go.Proofs.Ytnmlfhogolonoaa
