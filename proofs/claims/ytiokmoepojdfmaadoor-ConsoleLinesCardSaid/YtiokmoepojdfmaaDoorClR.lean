/-
  What is known of the calls at a depth.
-/
import Derived.Test.YtiokmoepojdfmaaDoorClQ
set_option linter.unusedVariables false
set_option linter.unusedSimpArgs false
namespace Go.Proofs.YtiokmoepojdfmaaDoor
open Go.Proofs.YtiokmoepojdfmaaDoor.Eo
open Nat renaming reduceAdd → zA, reduceMul → zM, reduceLT → zL, reduceEqDiff → zE, reduceLeDiff → zD
open Int renaming reduceAdd → yA, reduceLE → yE, reduceLT → yL, reduceEq → yQ, reduceToNat → yT
open Go.Lib (decDigits itoa)
noncomputable section
theorem exX {n : Nat} {f : FuncId} {args : List AV} {h : H} {v : AV} {h0 : H} (e : ∃ v' h', cX n f args h = some (v', h') ∧ (v' = v ∧ h' = h0)) : cX n f args h = some (v, h0) := by
  obtain ⟨v', h', e, rfl, rfl⟩ := e
  exact e
theorem X32 (n : Nat) : ∀ h (u : Nat), u < 18446744073709551616 → cX (n + 1) 32 [.int .u64 (u : Int)] h = some (.str (strB (decDigits u)), h) :=
  fun h u hu => exX (callX_of (lib_none (by decide) (by decide) (by decide) _ _) (by kernel_rfl) (by kernel_rfl) c32_eq (w32 Tryd.prog hu))
theorem X24 (n : Nat) : ∀ h (v : Int), -9223372036854775807 ≤ v → v ≤ 9223372036854775807 → cX (n + 2) 24 [.int .i64 v] h = some (.str (strB (itoa v)), h) :=
  fun h v h0 h1 => exX (callX_of (lib_none (by decide) (by decide) (by decide) _ _) (by kernel_rfl) (by kernel_rfl) c24_eq (w24 Tryd.prog (X32 n) h0 h1))
theorem X16 (n : Nat) : ∀ h (u : Int), TabH h → inI u → cX (n + 1) 16 [.int .i64 u] h = some (strA u, h) :=
  fun h u hT hu => exX (callX_of (lib_none (by decide) (by decide) (by decide) _ _) (by kernel_rfl) (by kernel_rfl) c16_eq (w16 Tryd.prog (X26 n hT (by have := hu.1; omega) hu.2)))
theorem X14 (n : Nat) : ∀ h w v (l : List Int), TabH h → Own 1 22 h v l.length (l.map (AV.int .u64)) → (∀ x ∈ l, inU x) → w.length ≤ 1000000 → l.length ≤ 1000000 → cX (n + 1) 14 [.str (strB w), v] h = some (.str (strB (joinL w l)), h) :=
  fun h w v l hT hv hl hw hl2 => exX (callX_of (lib_none (by decide) (by decide) (by decide) _ _) (by kernel_rfl) (by kernel_rfl) c14_eq (w14 Tryd.prog hv hl hw hl2 (fun u hu => X25 n hT hu.1 hu.2)))
theorem X20 (n : Nat) : ∀ h (u : Nat), u < 18446744073709551616 → ∃ v h', cX (n + 1) 20 [.int .u64 (u : Int)] h = some (v, h') ∧ (v = .str (strB (decDigits u)) ∧ StepN h h') :=
  fun h u hu => callX_of (lib_none (by decide) (by decide) (by decide) _ _) (by kernel_rfl) (by kernel_rfl) c20_eq (w20 Tryd.prog hu)
theorem X19 (n : Nat) : ∀ h w v (l : List Int), Own 1 22 h v l.length (l.map (AV.int .u64)) → (∀ x ∈ l, inU x) → w.length ≤ 1000000 → l.length ≤ 1000000 → ∃ v' h', cX (n + 2) 19 [.str (strB w), v] h = some (v', h') ∧ (v' = .str (strB (joinL w l)) ∧ StepN h h') :=
  fun h w v l hv hl hw hl2 => callX_of (lib_none (by decide) (by decide) (by decide) _ _) (by kernel_rfl) (by kernel_rfl) c19_eq (w19 Tryd.prog hv hl hw hl2 (X20 n))
theorem X11 (n : Nat) : ∀ h v (l : List Int), Own 1 3 h v l.length (l.map (AV.int .i64)) → (∀ x ∈ l, inI x) → l.length ≤ 1000000 → cX (n + 3) 11 [v] h = some (.str (strB (rowB l)), h) :=
  fun h v l hv hl hl2 => exX (callX_of (lib_none (by decide) (by decide) (by decide) _ _) (by kernel_rfl) (by kernel_rfl) c11_eq (w11 Tryd.prog hv hl hl2 (fun u hu => X24 n h u hu.1 hu.2)))
theorem X8 (n : Nat) : ∀ h v (l : List Int), TabH h → 0 < h.next → Own 1 3 h v l.length (l.map (AV.int .i64)) → (∀ x ∈ l, inI x) → l ≠ [] → l.length ≤ 1000000 → ∃ v' h', cX (n + 2) 8 [v] h = some (v', h') ∧ (v' = .str (strB (rowB l)) ∧ StepN h h') :=
  fun h v l hT hp hv hl hne hl2 => callX_of (lib_none (by decide) (by decide) (by decide) _ _) (by kernel_rfl) (by kernel_rfl) c8_eq (w8 Tryd.prog hT hp hv hl hne hl2 (X16 n) (fun h v sep xs hj => X17 (n + 1) hj))
theorem X12 (n : Nat) : ∀ h (k : Int), cX (n + 1) 12 [.int .u8 k] h = some (.str (strB (wordB k)), h) :=
  fun h k => exX (callX_of (lib_none (by decide) (by decide) (by decide) _ _) (by kernel_rfl) (by kernel_rfl) c12_eq (w12 Tryd.prog))
theorem X22 (n : Nat) : ∀ h (k : Int), cX (n + 1) 22 [.int .u8 k] h = some (.str (strB (wordB k)), h) :=
  fun h k => exX (callX_of (lib_none (by decide) (by decide) (by decide) _ _) (by kernel_rfl) (by kernel_rfl) c22_eq (w22 Tryd.prog))
theorem X31 (n : Nat) : ∀ h (k : Int), cX (n + 1) 31 [.int .u8 k] h = some (.int .i64 (useM k), h) :=
  fun h k => exX (callX_of (lib_none (by decide) (by decide) (by decide) _ _) (by kernel_rfl) (by kernel_rfl) c31_eq (w31 Tryd.prog))
theorem X15 (n : Nat) : ∀ h A (x : OpT), h.t.get A = some (.row (putList 0 (opC x) T.e) 7 24) → ∃ v h', cX (n + 1) 15 [.ptr A 0] h = some (v, h') ∧ PostF A (useL x.1) h v h' :=
  fun h A x gA => callX_of (lib_none (by decide) (by decide) (by decide) _ _) (by kernel_rfl) (by kernel_rfl) c15_eq (w15 Tryd.prog gA)
theorem X23 (n : Nat) : ∀ h (x : OpT), ∃ v h', cX (n + 1) 23 [.agg (opC x)] h = some (v, h') ∧ PostO x (useL x.1) h v h' :=
  fun h x => callX_of (lib_none (by decide) (by decide) (by decide) _ _) (by kernel_rfl) (by kernel_rfl) c23_eq (w23 Tryd.prog)
theorem X21 (n : Nat) : ∀ h (x : OpT), ∃ v h', cX (n + 1) 21 [.agg (opC x)] h = some (v, h') ∧ PostO x [0, 1, 2, 3, 4, 5] h v h' :=
  fun h x => callX_of (lib_none (by decide) (by decide) (by decide) _ _) (by kernel_rfl) (by kernel_rfl) c21_eq (w21 Tryd.prog)
theorem X30 (n : Nat) : ∀ h (x : OpT), ∃ v h', cX (n + 2) 30 [.agg (opC x)] h = some (v, h') ∧ (v = .int .i64 (maskN x 6) ∧ StepN h h') :=
  fun h x => callX_of (lib_none (by decide) (by decide) (by decide) _ _) (by kernel_rfl) (by kernel_rfl) c30_eq (w30 Tryd.prog (X21 n))
theorem X18 (n : Nat) : ∀ h (x : OpT), ∃ v h', cX (n + 3) 18 [.agg (opC x)] h = some (v, h') ∧ SaysF x h v h' :=
  fun h x => callX_of (lib_none (by decide) (by decide) (by decide) _ _) (by kernel_rfl) (by kernel_rfl) c18_eq (w18 Tryd.prog (X30 n) (X31 (n + 1)))
theorem X13 (n : Nat) : ∀ h (x : OpT), ∃ v h', cX (n + 2) 13 [.agg (opC x)] h = some (v, h') ∧ (v = .agg (opC (usedT x)) ∧ StepN h h') :=
  fun h x => callX_of (lib_none (by decide) (by decide) (by decide) _ _) (by kernel_rfl) (by kernel_rfl) c13_eq (w13 Tryd.prog (X15 n))
theorem X6 (n : Nat) : ∀ h (x : OpT), TabH h → 0 < h.next → opR x → ∃ v h', cX (n + 3) 6 [.agg (opC x)] h = some (v, h') ∧ PostT (opB x) h v h' :=
  fun h x hT hp hx => callX_of (lib_none (by decide) (by decide) (by decide) _ _) (by kernel_rfl) (by kernel_rfl) c6_eq (w6 (X12 (n + 1)) (X13 n) (X15 (n + 1)) (X14 (n + 1)) hT hp hx)
theorem X7 (n : Nat) : ∀ h (r : ResT), TabH h → 0 < h.next → ResR r → ∃ v h', cX (n + 2) 7 [.agg (resC r)] h = some (v, h') ∧ PostE r h v h' :=
  fun h r hT hp hr => callX_of (lib_none (by decide) (by decide) (by decide) _ _) (by kernel_rfl) (by kernel_rfl) c7_eq (w7 Tryd.prog (X14 n) hT hp hr)
theorem X10 (n : Nat) : ∀ h (r : ResT), ResR r → ∃ v h', cX (n + 2) 10 [.agg (resC r)] h = some (v, h') ∧ PostE r h v h' :=
  fun h r hr => callX_of (lib_none (by decide) (by decide) (by decide) _ _) (by kernel_rfl) (by kernel_rfl) c10_eq (w10 Tryd.prog (X20 n) hr)
theorem X9 (n : Nat) : ∀ h (x : OpT), opR x → ∃ v h', cX (n + 4) 9 [.agg (opC x)] h = some (v, h') ∧ PostL (opB x) h v h' :=
  fun h x hx => callX_of (lib_none (by decide) (by decide) (by decide) _ _) (by kernel_rfl) (by kernel_rfl) c9_eq (w9 Tryd.prog (X18 n) (X20 (n + 2)) (X21 (n + 2)) (X22 (n + 2)) (X23 (n + 2)) (X19 (n + 1)) hx)
theorem X4 (n : Nat) : ∀ h (c : CallT), TabH h → 0 < h.next → CallR c → ∃ v h', cX (n + 4) 4 [.agg (callC c)] h = some (v, h') ∧ PostLn c h v h' :=
  fun h c hT hp hc => callX_of (lib_none (by decide) (by decide) (by decide) _ _) (by kernel_rfl) (by kernel_rfl) c4_eq (w4 Tryd.prog (X6 n) (X7 (n + 1)) (X8 (n + 1)) hT hp hc)
theorem X5 (n : Nat) : ∀ h (c : CallT), CallR c → ∃ v h', cX (n + 5) 5 [.agg (callC c)] h = some (v, h') ∧ PostLn c h v h' :=
  fun h c hc => callX_of (lib_none (by decide) (by decide) (by decide) _ _) (by kernel_rfl) (by kernel_rfl) c5_eq (w5 Tryd.prog (X9 n) (X10 (n + 2)) (X11 (n + 1)) hc)
end
end Go.Proofs.YtiokmoepojdfmaaDoor
