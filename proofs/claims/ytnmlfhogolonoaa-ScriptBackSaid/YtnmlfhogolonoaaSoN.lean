/-
  Checks of a configuration.
-/
import Derived.Test.YtnmlfhogolonoaaSoM
set_option linter.unusedVariables false
set_option linter.unusedSimpArgs false
namespace Go.Proofs.Ytnmlfhogolonoaa
open Go.Proofs.Ytnmlfhogolonoaa.Eo
open Nat renaming reduceAdd → zA, reduceMul → zM, reduceLT → zL, reduceEqDiff → zE, reduceLeDiff → zD
open Int renaming reduceAdd → yA, reduceLE → yE, reduceLT → yL, reduceEq → yQ, reduceToNat → yT
noncomputable section
/-! 58: leapfrog/layout.within -/
@[go_sem] def c58_s0 : List SQ := [⟨some 6, none, .p (.mv (.c (.bool false)))⟩]
@[go_sem] def c58_s1 : List SQ := [⟨some 7, none, .p (.mv (.t 0))⟩, ⟨some 8, none, .p (.mv (.t 1))⟩, ⟨some 9, none, .p (.bin .geq 3 false false (.t 7) (.t 8))⟩, ⟨some 10, none, .p (.mv (.t 9))⟩, ⟨some 11, some (10, true), .p (.mv (.t 0))⟩, ⟨some 12, some (10, true), .p (.mv (.t 2))⟩, ⟨some 13, some (10, true), .p (.bin .leq 3 false false (.t 11) (.t 12))⟩, ⟨some 14, none, .p (.pick (.t 10) (.t 13) (.c (.bool false)))⟩, ⟨some 6, none, .p (.mv (.t 14))⟩]
@[go_sem] def c58 : CF := ⟨3, (.seq (.ops c58_s0) (.seq (.ops c58_s1) .ret)), [.tmp 6]⟩
theorem c58_eq : cCF Try.prog 58 3 = some c58 := by kernel_rfl
/-! 70: leapfrog/domain.ascending -/
@[go_sem] def c70_s0 : List SQ := [⟨some 2, none, .p (.mv (.c (.bool false)))⟩]
@[go_sem] def c70_s1 : List SQ := [⟨some 3, none, .p (.mv (.c (.int .u64 0)))⟩]
@[go_sem] def c70_s2 : List SQ := [⟨some 6, none, .p (.mv (.t 0))⟩, ⟨some 7, none, .p (.lenv (.t 6))⟩, ⟨some 8, none, .p (.mv (.c (.int .i64 0)))⟩]
@[go_sem] def c70_s3 : List SQ := [⟨some 9, none, .p (.bin .lss 3 false false (.t 8) (.t 7))⟩]
@[go_sem] def c70_s4 : List SQ := [⟨some 10, none, .p (.iadrS 1 (.t 6) (.t 8))⟩, ⟨some 11, none, .r (.ld none (.t 10))⟩, ⟨some 5, none, .p (.mv (.t 11))⟩]
@[go_sem] def c70_s5 : List SQ := [⟨some 12, none, .p (.mv (.t 5))⟩, ⟨some 13, none, .p (.mv (.t 3))⟩, ⟨some 14, none, .p (.bin .leq 43 false false (.t 12) (.t 13))⟩]
@[go_sem] def c70_s6 : List SQ := [⟨some 2, none, .p (.mv (.c (.bool false)))⟩]
@[go_sem] def c70_s7 : List SQ := [⟨some 15, none, .p (.mv (.t 5))⟩, ⟨some 3, none, .p (.mv (.t 15))⟩]
@[go_sem] def c70_s8 : List SQ := [⟨some 16, none, .p (.bin .add 3 false true (.t 8) (.c (.int .i64 1)))⟩, ⟨some 8, none, .p (.mv (.t 16))⟩]
def c70_l9 : CC := (.seq (.ops c70_s3) (.seq (.cond (.t 9) .skip (.exit 0)) (.seq (.block 1 (.seq (.ops c70_s4) (.seq (.seq (.ops c70_s5) (.cond (.t 14) (.seq (.ops c70_s6) .ret) .skip)) (.ops c70_s7)))) (.ops c70_s8))))
@[go_sem] def c70_s10 : List SQ := [⟨some 2, none, .p (.mv (.c (.bool true)))⟩]
@[go_sem] def c70 : CF := ⟨1, (.seq (.ops c70_s0) (.seq (.ops c70_s1) (.seq (.seq (.ops c70_s2) (.block 0 (.loop c70_l9))) (.seq (.ops c70_s10) .ret)))), [.tmp 2]⟩
theorem c70_eq : cCF Try.prog 70 1 = some c70 := by kernel_rfl
/-! 59: leapfrog/domain.Check -/
@[go_sem] def c59_s0 : List SQ := [⟨some 1, none, .n (.box 24 (.t 0))⟩, ⟨some 2, none, .p (.mv (.c (.int .i64 0)))⟩]
@[go_sem] def c59_s1 : List SQ := [⟨some 3, none, .p (.mv (.c (.bool false)))⟩]
@[go_sem] def c59_s2 : List SQ := [⟨some 4, none, .p (.fadr 0 (.t 1))⟩, ⟨some 5, none, .r (.ld none (.t 4))⟩]
@[go_sem] def c59_s3 : List SQ := [⟨some 7, none, .p (.bin .eql 5 false true (.t 5) (.c (.int .u8 1)))⟩, ⟨some 6, none, .p (.mv (.t 7))⟩]
@[go_sem] def c59_s4 : List SQ := [⟨some 8, none, .p (.fadr 1 (.t 1))⟩, ⟨some 9, none, .r (.ld none (.t 8))⟩, ⟨some 10, none, .p (.bin .eql 3 false true (.t 9) (.c (.int .i64 0)))⟩, ⟨some 11, none, .p (.mv (.t 10))⟩, ⟨some 12, some (11, true), .p (.fadr 2 (.t 1))⟩, ⟨some 13, some (11, true), .r (.ld none (.t 12))⟩, ⟨some 14, some (11, true), .p (.lenv (.t 13))⟩, ⟨some 15, some (11, true), .p (.bin .eql 3 false true (.t 14) (.c (.int .i64 0)))⟩, ⟨some 16, none, .p (.pick (.t 11) (.t 15) (.c (.bool false)))⟩, ⟨some 3, none, .p (.mv (.t 16))⟩]
@[go_sem] def c59_s5 : List SQ := [⟨some 18, none, .p (.bin .eql 5 false true (.t 5) (.c (.int .u8 2)))⟩, ⟨some 17, none, .p (.mv (.t 18))⟩]
@[go_sem] def c59_s6 : List SQ := [⟨some 19, none, .p (.fadr 1 (.t 1))⟩, ⟨some 20, none, .r (.ld none (.t 19))⟩, ⟨some 21, none, .p (.bin .geq 3 false true (.t 20) (.c (.int .i64 1)))⟩, ⟨some 22, none, .p (.mv (.t 21))⟩, ⟨some 23, some (22, true), .p (.fadr 1 (.t 1))⟩, ⟨some 24, some (22, true), .r (.ld none (.t 23))⟩, ⟨some 25, some (22, true), .p (.bin .leq 3 false true (.t 24) (.c (.int .i64 64)))⟩, ⟨some 26, none, .p (.pick (.t 22) (.t 25) (.c (.bool false)))⟩, ⟨some 27, none, .p (.mv (.t 26))⟩, ⟨some 28, some (27, true), .p (.fadr 2 (.t 1))⟩, ⟨some 29, some (27, true), .r (.ld none (.t 28))⟩, ⟨some 30, some (27, true), .p (.lenv (.t 29))⟩, ⟨some 31, some (27, true), .p (.bin .eql 3 false true (.t 30) (.c (.int .i64 0)))⟩, ⟨some 32, none, .p (.pick (.t 27) (.t 31) (.c (.bool false)))⟩, ⟨some 3, none, .p (.mv (.t 32))⟩]
@[go_sem] def c59_s7 : List SQ := [⟨some 34, none, .p (.bin .eql 5 false true (.t 5) (.c (.int .u8 3)))⟩, ⟨some 33, none, .p (.mv (.t 34))⟩]
@[go_sem] def c59_s8 : List SQ := [⟨some 35, none, .p (.fadr 1 (.t 1))⟩, ⟨some 36, none, .r (.ld none (.t 35))⟩, ⟨some 37, none, .p (.bin .eql 3 false true (.t 36) (.c (.int .i64 0)))⟩, ⟨some 38, none, .p (.mv (.t 37))⟩, ⟨some 39, some (38, true), .p (.fadr 2 (.t 1))⟩, ⟨some 40, some (38, true), .r (.ld none (.t 39))⟩, ⟨some 41, some (38, true), .p (.lenv (.t 40))⟩, ⟨some 42, some (38, true), .p (.bin .geq 3 false true (.t 41) (.c (.int .i64 1)))⟩, ⟨some 43, none, .p (.pick (.t 38) (.t 42) (.c (.bool false)))⟩, ⟨some 44, none, .p (.mv (.t 43))⟩, ⟨some 45, some (44, true), .p (.fadr 2 (.t 1))⟩, ⟨some 46, some (44, true), .r (.ld none (.t 45))⟩, ⟨some 47, some (44, true), .p (.lenv (.t 46))⟩, ⟨some 48, some (44, true), .p (.bin .lss 3 false true (.t 47) (.c (.int .i64 64)))⟩, ⟨some 49, none, .p (.pick (.t 44) (.t 48) (.c (.bool false)))⟩, ⟨some 50, none, .p (.mv (.t 49))⟩, ⟨some 51, some (50, true), .p (.fadr 2 (.t 1))⟩, ⟨some 52, some (50, true), .r (.ld none (.t 51))⟩, ⟨some 53, some (50, true), .cv (.c (.fn (.func 70) [] [])) [(.t 52)]⟩, ⟨some 54, none, .p (.pick (.t 50) (.t 53) (.c (.bool false)))⟩, ⟨some 3, none, .p (.mv (.t 54))⟩]
@[go_sem] def c59_s9 : List SQ := [⟨some 55, none, .p (.mv (.t 3))⟩, ⟨some 56, none, .p (.un .not (.t 55))⟩]
@[go_sem] def c59_s10 : List SQ := [⟨some 2, none, .p (.mv (.c (.int .i64 2)))⟩]
@[go_sem] def c59_s11 : List SQ := [⟨some 2, none, .p (.mv (.c (.int .i64 0)))⟩]
@[go_sem] def c59 : CF := ⟨1, (.seq (.ops c59_s0) (.seq (.ops c59_s1) (.seq (.seq (.ops c59_s2) (.block 0 (.seq (.ops c59_s3) (.cond (.t 6) (.ops c59_s4) (.seq (.ops c59_s5) (.cond (.t 17) (.ops c59_s6) (.seq (.ops c59_s7) (.cond (.t 33) (.ops c59_s8) .skip)))))))) (.seq (.seq (.ops c59_s9) (.cond (.t 56) (.seq (.ops c59_s10) .ret) .skip)) (.seq (.ops c59_s11) .ret))))), [.tmp 2]⟩
theorem c59_eq : cCF Try.prog 59 1 = some c59 := by kernel_rfl
/-! 34: leapfrog/layout.Check -/
@[go_sem] def c34_s0 : List SQ := [⟨some 1, none, .n (.box 27 (.t 0))⟩, ⟨some 2, none, .p (.mv (.c (.int .i64 0)))⟩]
@[go_sem] def c34_s1 : List SQ := [⟨some 7, none, .p (.fadr 3 (.t 1))⟩, ⟨some 8, none, .r (.ld none (.t 7))⟩, ⟨some 9, none, .p (.bin .eql 3 false true (.t 8) (.c (.int .i64 0)))⟩, ⟨some 3, none, .p (.mv (.t 9))⟩]
@[go_sem] def c34_s2 : List SQ := [⟨some 10, none, .p (.fadr 2 (.t 1))⟩, ⟨some 11, none, .r (.ld none (.t 10))⟩, ⟨some 12, none, .p (.bin .eql 5 false true (.t 11) (.c (.int .u8 3)))⟩]
@[go_sem] def c34_s3 : List SQ := [⟨some 13, none, .p (.fadr 3 (.t 1))⟩, ⟨some 14, none, .r (.ld none (.t 13))⟩, ⟨some 15, none, .cv (.c (.fn (.func 58) [] [])) [(.t 14), (.c (.int .i64 1)), (.c (.int .i64 16))]⟩, ⟨some 3, none, .p (.mv (.t 15))⟩]
@[go_sem] def c34_s4 : List SQ := [⟨some 4, none, .p (.mv (.c (.int .i64 1024)))⟩]
@[go_sem] def c34_s5 : List SQ := [⟨some 16, none, .p (.fadr 7 (.t 1))⟩, ⟨some 17, none, .r (.ld (some 6) (.t 16))⟩, ⟨some 18, none, .p (.mv (.c (.int .i64 0)))⟩]
@[go_sem] def c34_s6 : List SQ := [⟨some 19, none, .p (.bin .lss 3 false true (.t 18) (.c (.int .i64 6)))⟩]
@[go_sem] def c34_s7 : List SQ := [⟨some 20, none, .p (.idxA 6 3 1 (.t 17) (.t 18))⟩, ⟨some 6, none, .p (.mv (.t 20))⟩]
@[go_sem] def c34_s8 : List SQ := [⟨some 21, none, .p (.mv (.t 6))⟩, ⟨some 22, none, .p (.bin .lss 3 false true (.t 21) (.c (.int .i64 0)))⟩, ⟨some 23, none, .p (.mv (.t 22))⟩, ⟨some 24, some (23, false), .p (.mv (.t 6))⟩, ⟨some 25, some (23, false), .p (.mv (.t 4))⟩, ⟨some 26, some (23, false), .p (.bin .gtr 3 false false (.t 24) (.t 25))⟩, ⟨some 27, none, .p (.pick (.t 23) (.c (.bool true)) (.t 26))⟩]
@[go_sem] def c34_s9 : List SQ := [⟨some 2, none, .p (.mv (.c (.int .i64 2)))⟩]
@[go_sem] def c34_s10 : List SQ := [⟨some 28, none, .p (.mv (.t 4))⟩, ⟨some 29, none, .p (.mv (.t 6))⟩, ⟨some 30, none, .p (.bin .sub 3 false false (.t 28) (.t 29))⟩, ⟨some 4, none, .p (.mv (.t 30))⟩]
@[go_sem] def c34_s11 : List SQ := [⟨some 31, none, .p (.bin .add 3 false true (.t 18) (.c (.int .i64 1)))⟩, ⟨some 18, none, .p (.mv (.t 31))⟩]
def c34_l12 : CC := (.seq (.ops c34_s6) (.seq (.cond (.t 19) .skip (.exit 0)) (.seq (.block 1 (.seq (.ops c34_s7) (.seq (.seq (.ops c34_s8) (.cond (.t 27) (.seq (.ops c34_s9) .ret) .skip)) (.ops c34_s10)))) (.ops c34_s11))))
@[go_sem] def c34_s13 : List SQ := [⟨some 32, none, .p (.fadr 0 (.t 1))⟩, ⟨some 33, none, .r (.ld none (.t 32))⟩, ⟨some 34, none, .cv (.c (.fn (.func 58) [] [])) [(.t 33), (.c (.int .i64 1)), (.c (.int .i64 64))]⟩, ⟨some 35, none, .p (.un .not (.t 34))⟩, ⟨some 36, none, .p (.mv (.t 35))⟩, ⟨some 37, some (36, false), .p (.fadr 1 (.t 1))⟩, ⟨some 38, some (36, false), .r (.ld none (.t 37))⟩, ⟨some 39, some (36, false), .cv (.c (.fn (.func 58) [] [])) [(.t 38), (.c (.int .i64 1)), (.c (.int .i64 64))]⟩, ⟨some 40, some (36, false), .p (.un .not (.t 39))⟩, ⟨some 41, none, .p (.pick (.t 36) (.c (.bool true)) (.t 40))⟩, ⟨some 42, none, .p (.mv (.t 41))⟩, ⟨some 43, some (42, false), .p (.fadr 2 (.t 1))⟩, ⟨some 44, some (42, false), .r (.ld none (.t 43))⟩, ⟨some 45, some (42, false), .p (.bin .lss 5 false true (.t 44) (.c (.int .u8 1)))⟩, ⟨some 46, none, .p (.pick (.t 42) (.c (.bool true)) (.t 45))⟩, ⟨some 47, none, .p (.mv (.t 46))⟩, ⟨some 48, some (47, false), .p (.fadr 2 (.t 1))⟩, ⟨some 49, some (47, false), .r (.ld none (.t 48))⟩, ⟨some 50, some (47, false), .p (.bin .gtr 5 false true (.t 49) (.c (.int .u8 3)))⟩, ⟨some 51, none, .p (.pick (.t 47) (.c (.bool true)) (.t 50))⟩, ⟨some 52, none, .p (.mv (.t 51))⟩, ⟨some 53, some (52, false), .p (.mv (.t 3))⟩, ⟨some 54, some (52, false), .p (.un .not (.t 53))⟩, ⟨some 55, none, .p (.pick (.t 52) (.c (.bool true)) (.t 54))⟩, ⟨some 56, none, .p (.mv (.t 55))⟩, ⟨some 57, some (56, false), .p (.fadr 4 (.t 1))⟩, ⟨some 58, some (56, false), .r (.ld (some 3) (.t 57))⟩, ⟨some 59, some (56, false), .cv (.c (.fn (.func 59) [] [])) [(.t 58)]⟩, ⟨some 60, some (56, false), .p (.bin .neq 35 false true (.t 59) (.c (.int .i64 0)))⟩, ⟨some 61, none, .p (.pick (.t 56) (.c (.bool true)) (.t 60))⟩, ⟨some 62, none, .p (.mv (.t 61))⟩, ⟨some 63, some (62, false), .p (.fadr 13 (.t 1))⟩, ⟨some 64, some (62, false), .r (.ld none (.t 63))⟩, ⟨some 65, some (62, false), .cv (.c (.fn (.func 58) [] [])) [(.t 64), (.c (.int .i64 1)), (.c (.int .i64 16))]⟩, ⟨some 66, some (62, false), .p (.un .not (.t 65))⟩, ⟨some 67, none, .p (.pick (.t 62) (.c (.bool true)) (.t 66))⟩, ⟨some 68, none, .p (.mv (.t 67))⟩, ⟨some 69, some (68, false), .p (.fadr 14 (.t 1))⟩, ⟨some 70, some (68, false), .r (.ld none (.t 69))⟩, ⟨some 71, some (68, false), .cv (.c (.fn (.func 58) [] [])) [(.t 70), (.c (.int .i64 1)), (.c (.int .i64 255))]⟩, ⟨some 72, some (68, false), .p (.un .not (.t 71))⟩, ⟨some 73, none, .p (.pick (.t 68) (.c (.bool true)) (.t 72))⟩, ⟨some 74, none, .p (.mv (.t 73))⟩, ⟨some 75, some (74, false), .p (.fadr 15 (.t 1))⟩, ⟨some 76, some (74, false), .r (.ld none (.t 75))⟩, ⟨some 77, some (74, false), .cv (.c (.fn (.func 58) [] [])) [(.t 76), (.c (.int .i64 0)), (.c (.int .i64 64))]⟩, ⟨some 78, some (74, false), .p (.un .not (.t 77))⟩, ⟨some 79, none, .p (.pick (.t 74) (.c (.bool true)) (.t 78))⟩]
@[go_sem] def c34_s14 : List SQ := [⟨some 2, none, .p (.mv (.c (.int .i64 2)))⟩]
@[go_sem] def c34_s15 : List SQ := [⟨some 2, none, .p (.mv (.c (.int .i64 0)))⟩]
@[go_sem] def c34 : CF := ⟨1, (.seq (.ops c34_s0) (.seq (.ops c34_s1) (.seq (.seq (.ops c34_s2) (.cond (.t 12) (.ops c34_s3) .skip)) (.seq (.ops c34_s4) (.seq (.seq (.ops c34_s5) (.block 0 (.loop c34_l12))) (.seq (.seq (.ops c34_s13) (.cond (.t 79) (.seq (.ops c34_s14) .ret) .skip)) (.seq (.ops c34_s15) .ret))))))), [.tmp 2]⟩
theorem c34_eq : cCF Try.prog 34 1 = some c34 := by kernel_rfl

theorem w58 (P : Program) {call : CallE} {h : H} (n a b : Int) : WF P call c58 [.int .i64 n, .int .i64 a, .int .i64 b] h fun v h' => v = .bool (decide (a ≤ n ∧ n ≤ b)) ∧ h' = h := by
  simp only [go_sem, ↓reduceIte, ↓reduceDIte, zA, zM, zL, zE, zD, yA, yE, yL, yQ, yT, reduceCtorEq, c58]
  by_cases h1 : n < a
  · have h3 : ¬ (a ≤ n ∧ n ≤ b) := by omega
    simp only [go_sem, ↓reduceIte, ↓reduceDIte, zA, zM, zL, zE, zD, yA, yE, yL, yQ, yT, reduceCtorEq, h1, h3]
  · by_cases h2 : b < n
    · have h3 : ¬ (a ≤ n ∧ n ≤ b) := by omega
      simp only [go_sem, ↓reduceIte, ↓reduceDIte, zA, zM, zL, zE, zD, yA, yE, yL, yQ, yT, reduceCtorEq, h1, h2, h3]
    · have h3 : a ≤ n ∧ n ≤ b := by omega
      simp only [go_sem, ↓reduceIte, ↓reduceDIte, zA, zM, zL, zE, zD, yA, yE, yL, yQ, yT, reduceCtorEq, h1, h2, h3]
/-- strictly increasing, above the first -/
def ascB : Int → List Int → Bool
  | _, [] => true
  | a, x :: l => if x ≤ a then false else ascB x l
def I70 (h0 : H) (v : AV) (l : List Int) (k : Nat) (tm : T AV) (h : H) : Prop :=
  h = h0 ∧ ∃ (i : Nat) (a : Int), i + k = l.length ∧ tm.get 6 = some v ∧ tm.get 7 = some (.int .i64 (l.length : Int)) ∧ tm.get 8 = some (.int .i64 (i : Int)) ∧ tm.get 3 = some (.int .u64 a) ∧ ascB 0 l = ascB a (l.drop i)
theorem step70 (P : Program) {call : CallE} {h0 : H} {v : AV} {l : List Int} (hv : RdL none 1 h0 v (l.map fun x : Int => AV.int .u64 x)) (k : Nat) (tm : T AV) (h : H) (hI : I70 h0 v l k tm h) :
    WC P call c70_l9 (loopQ 0 (fun tm h => ∃ j, j < k ∧ I70 h0 v l j tm h) (fun tm h => h = h0 ∧ ascB 0 l = true) (fun tm h => h = h0 ∧ ascB 0 l = false ∧ tm.get 2 = some (.bool false))) tm h := by
  obtain ⟨rfl, i, a, hik, t6, t7, t8, t3, hasc⟩ := hI
  have hle := hv.le
  rw [List.length_map] at hle
  cases k with
  | zero =>
    have e1 : ¬ (i : Int) < (l.length : Int) := by omega
    simp only [go_sem, ↓reduceIte, ↓reduceDIte, zA, zM, zL, zE, zD, yA, yE, yL, yQ, yT, reduceCtorEq, c70_l9, t7, t8, e1]
    rw [hasc, List.drop_eq_nil_of_le (by omega)]
    rfl
  | succ k =>
    have e1 : (i : Int) < (l.length : Int) := by omega
    have hi : i < l.length := by omega
    rcases hv with ⟨_, hh⟩ | ⟨b, o, cap, rfl, _, ra⟩
    · rw [List.map_eq_nil_iff] at hh; subst hh; simp at hi
    have ha := ra i (.int .u64 l[i]) (by simp [hi])
    rw [rLdA, Nat.mul_one] at ha
    rw [List.length_map] at t6
    rw [List.drop_eq_getElem_cons hi] at hasc
    have f1 : fw .i64 ((i : Int) + 1) = (i : Int) + 1 := fwI (by omega) (by omega)
    have e3 : ((i + 1 : Nat) : Int) = (i : Int) + 1 := rfl
    simp only [go_sem, ↓reduceIte, ↓reduceDIte, zA, zM, zL, zE, zD, yA, yE, yL, yQ, yT, reduceCtorEq, c70_l9, t6, t7, t8, t3, e1, Nat.mul_one, ha]
    by_cases hx : l[i] ≤ a
    · have hx2 : ¬ a < l[i] := by omega
      simp only [go_sem, ↓reduceIte, ↓reduceDIte, zA, zM, zL, zE, zD, yA, yE, yL, yQ, yT, reduceCtorEq, hx2]
      rw [hasc, ascB, if_pos hx]
    · have hx2 : a < l[i] := by omega
      simp only [go_sem, ↓reduceIte, ↓reduceDIte, zA, zM, zL, zE, zD, yA, yE, yL, yQ, yT, reduceCtorEq, hx2, t8, f1]
      refine ⟨k, Nat.lt_succ_self k, rfl, i + 1, l[i], by omega, ?_, ?_, ?_, ?_, by rw [hasc, ascB, if_neg hx]⟩
      · simp only [go_sem, ↓reduceIte, ↓reduceDIte, zA, zM, zL, zE, zD, yA, yE, yL, yQ, yT, reduceCtorEq, t6, List.length_map]
      · simp only [go_sem, ↓reduceIte, ↓reduceDIte, zA, zM, zL, zE, zD, yA, yE, yL, yQ, yT, reduceCtorEq, t7]
      · simp only [go_sem, ↓reduceIte, ↓reduceDIte, zA, zM, zL, zE, zD, yA, yE, yL, yQ, yT, reduceCtorEq, e3]
      · simp only [go_sem, ↓reduceIte, ↓reduceDIte, zA, zM, zL, zE, zD, yA, yE, yL, yQ, yT, reduceCtorEq]
theorem w70 (P : Program) {call : CallE} {h : H} {v : AV} {l : List Int} (hv : RdL none 1 h v (l.map fun x : Int => AV.int .u64 x)) : WF P call c70 [v] h fun v' h' => v' = .bool (ascB 0 l) ∧ h' = h := by
  have hvl := hv.lenA
  rw [List.length_map] at hvl
  simp only [go_sem, ↓reduceIte, ↓reduceDIte, zA, zM, zL, zE, zD, yA, yE, yL, yQ, yT, reduceCtorEq, c70, hvl]
  refine loop_in (I70 h v l) (fun tm h' => h' = h ∧ ascB 0 l = true) (fun tm h' => h' = h ∧ ascB 0 l = false ∧ tm.get 2 = some (.bool false)) (fun k tm h' hI => step70 P hv k tm h' hI) (fun tm2 h2 hR => ?_) (fun tm2 h2 hS => ?_) l.length _ _
    ⟨rfl, 0, 0, by omega, ?_, ?_, ?_, ?_, rfl⟩
  · obtain ⟨rfl, e⟩ := hR
    simp only [go_sem, ↓reduceIte, ↓reduceDIte, zA, zM, zL, zE, zD, yA, yE, yL, yQ, yT, reduceCtorEq, e]
  · obtain ⟨rfl, e, t2⟩ := hS
    simp only [go_sem, ↓reduceIte, ↓reduceDIte, zA, zM, zL, zE, zD, yA, yE, yL, yQ, yT, reduceCtorEq, t2, e]
  · simp only [go_sem, ↓reduceIte, ↓reduceDIte, zA, zM, zL, zE, zD, yA, yE, yL, yQ, yT, reduceCtorEq]
  · simp only [go_sem, ↓reduceIte, ↓reduceDIte, zA, zM, zL, zE, zD, yA, yE, yL, yQ, yT, reduceCtorEq]
  · simp only [go_sem, ↓reduceIte, ↓reduceDIte, zA, zM, zL, zE, zD, yA, yE, yL, yQ, yT, reduceCtorEq]
  · simp only [go_sem, ↓reduceIte, ↓reduceDIte, zA, zM, zL, zE, zD, yA, yE, yL, yQ, yT, reduceCtorEq]
/-- says by an error whether something is so -/
def SaysE (p : Prop) (h : H) (v : AV) (h' : H) : Prop := ∃ e : Int, v = .int .i64 e ∧ (e = 0 ↔ p) ∧ StepN h h'
def domB (k n : Int) (cuts : List Int) : Prop := (k = 1 ∧ n = 0 ∧ cuts = []) ∨ (k = 2 ∧ (1 ≤ n ∧ n ≤ 64) ∧ cuts = []) ∨ (k = 3 ∧ n = 0 ∧ 1 ≤ cuts.length ∧ cuts.length < 64 ∧ ascB 0 cuts = true)
theorem w59 (P : Program) {call : CallE} (h70 : ∀ h v (l : List Int), RdL none 1 h v (l.map fun x : Int => AV.int .u64 x) → call 70 [v] h = some (.bool (ascB 0 l), h))
    {h : H} {k n : Int} {v : AV} {l : List Int} (hv : RdL none 1 h v (l.map fun x : Int => AV.int .u64 x)) (hlv : ∀ a, own v = some a → a < h.next) :
    WF P call c59 [.agg [.int .u8 k, .int .i64 n, v]] h (SaysE (domB k n l) h) := by
  have ov := hv.one
  have hvl := hv.lenA
  rw [List.length_map] at hvl
  have st : ∀ x, StepN h ⟨h.next + 1, h.t.set h.next x⟩ := fun x => ⟨Nat.le_add_right _ _, fun b hb => by
    have e1 : ¬ b = h.next := by omega
    simp only [go_sem, ↓reduceIte, ↓reduceDIte, zA, zM, zL, zE, zD, yA, yE, yL, yQ, yT, reduceCtorEq, e1]⟩
  have h70' := fun x => h70 ⟨h.next + 1, h.t.set h.next x⟩ v l (hv.keep fun b hb => (st x).old b (hlv b hb))
  have ln : ((l.length : Int) = 0) = (l = []) := by rw [← List.length_eq_zero_iff]; apply propext; omega
  by_cases k1 : k = 1
  · subst k1
    by_cases n0 : n = 0
    · by_cases l0 : l = []
      · simp only [go_sem, ↓reduceIte, ↓reduceDIte, zA, zM, zL, zE, zD, yA, yE, yL, yQ, yT, reduceCtorEq, c59, ov, hvl, n0, ln, l0]
        exact ⟨0, rfl, by simp [domB], st _⟩
      · simp only [go_sem, ↓reduceIte, ↓reduceDIte, zA, zM, zL, zE, zD, yA, yE, yL, yQ, yT, reduceCtorEq, c59, ov, hvl, n0, ln, l0]
        exact ⟨2, rfl, by simp [domB, l0], st _⟩
    · simp only [go_sem, ↓reduceIte, ↓reduceDIte, zA, zM, zL, zE, zD, yA, yE, yL, yQ, yT, reduceCtorEq, c59, ov, hvl, n0, ln]
      exact ⟨2, rfl, by simp [domB, n0], st _⟩
  by_cases k2 : k = 2
  · subst k2
    by_cases n1 : n < 1
    · simp only [go_sem, ↓reduceIte, ↓reduceDIte, zA, zM, zL, zE, zD, yA, yE, yL, yQ, yT, reduceCtorEq, c59, ov, hvl, n1, ln]
      exact ⟨2, rfl, by simp [domB]; intro h1 h2 h3; omega, st _⟩
    · by_cases n2 : 64 < n
      · simp only [go_sem, ↓reduceIte, ↓reduceDIte, zA, zM, zL, zE, zD, yA, yE, yL, yQ, yT, reduceCtorEq, c59, ov, hvl, n1, n2, ln]
        exact ⟨2, rfl, by simp [domB]; intro h1 h2 h3; omega, st _⟩
      · by_cases l0 : l = []
        · simp only [go_sem, ↓reduceIte, ↓reduceDIte, zA, zM, zL, zE, zD, yA, yE, yL, yQ, yT, reduceCtorEq, c59, ov, hvl, n1, n2, ln, l0]
          exact ⟨0, rfl, by simp [domB]; omega, st _⟩
        · simp only [go_sem, ↓reduceIte, ↓reduceDIte, zA, zM, zL, zE, zD, yA, yE, yL, yQ, yT, reduceCtorEq, c59, ov, hvl, n1, n2, ln, l0]
          exact ⟨2, rfl, by simp [domB, l0], st _⟩
  by_cases k3 : k = 3
  · subst k3
    by_cases n0 : n = 0
    · by_cases l1 : (l.length : Int) < 1
      · simp only [go_sem, ↓reduceIte, ↓reduceDIte, zA, zM, zL, zE, zD, yA, yE, yL, yQ, yT, reduceCtorEq, c59, ov, hvl, n0, l1]
        have hn : ¬ domB 3 0 l := by rintro (⟨h1, _⟩ | ⟨h1, _⟩ | ⟨_, _, h3, h4, _⟩) <;> omega
        exact ⟨2, rfl, by simp [hn], st _⟩
      · by_cases l2 : (l.length : Int) < 64
        · simp only [go_sem, ↓reduceIte, ↓reduceDIte, zA, zM, zL, zE, zD, yA, yE, yL, yQ, yT, reduceCtorEq, c59, ov, hvl, n0, l1, l2]
          refine opt_some (h70' _) ?_
          cases ha : ascB 0 l with
          | true =>
            simp only [go_sem, ↓reduceIte, ↓reduceDIte, zA, zM, zL, zE, zD, yA, yE, yL, yQ, yT, reduceCtorEq]
            exact ⟨0, rfl, by simp [domB, ha]; omega, st _⟩
          | false =>
            simp only [go_sem, ↓reduceIte, ↓reduceDIte, zA, zM, zL, zE, zD, yA, yE, yL, yQ, yT, reduceCtorEq]
            exact ⟨2, rfl, by simp [domB, ha], st _⟩
        · simp only [go_sem, ↓reduceIte, ↓reduceDIte, zA, zM, zL, zE, zD, yA, yE, yL, yQ, yT, reduceCtorEq, c59, ov, hvl, n0, l1, l2]
          have hn : ¬ domB 3 0 l := by rintro (⟨h1, _⟩ | ⟨h1, _⟩ | ⟨_, _, h3, h4, _⟩) <;> omega
          exact ⟨2, rfl, by simp [hn], st _⟩
    · simp only [go_sem, ↓reduceIte, ↓reduceDIte, zA, zM, zL, zE, zD, yA, yE, yL, yQ, yT, reduceCtorEq, c59, ov, hvl, n0]
      exact ⟨2, rfl, by simp [domB, n0], st _⟩
  simp only [go_sem, ↓reduceIte, ↓reduceDIte, zA, zM, zL, zE, zD, yA, yE, yL, yQ, yT, reduceCtorEq, c59, ov, hvl, k1, k2, k3]
  exact ⟨2, rfl, by simp [domB, k1, k2, k3], st _⟩

def towB : Int → List Int → Prop
  | _, [] => True
  | a, t :: l => (0 ≤ t ∧ t ≤ a) ∧ towB (a - t) l
def layB (c : CfgT) : Prop := towB 1024 [c.t0, c.t1, c.t2, c.t3, c.t4, c.t5] ∧ (1 ≤ c.threads ∧ c.threads ≤ 64) ∧ (1 ≤ c.slots ∧ c.slots ≤ 64) ∧ 1 ≤ c.engine ∧ c.engine ≤ 3 ∧ (c.engine = 3 → 1 ≤ c.buckets ∧ c.buckets ≤ 16) ∧ (c.engine ≠ 3 → c.buckets = 0) ∧ domB c.kind c.n c.cuts ∧ (1 ≤ c.locks ∧ c.locks ≤ 16) ∧ (1 ≤ c.tries ∧ c.tries ≤ 255) ∧ 0 ≤ c.batch ∧ c.batch ≤ 64
theorem agg3 : aggOf Try.prog 3 = some none := by kernel_rfl
theorem fl1 : fw .i64 1 = 1 := rfl
theorem fl2 : fw .i64 2 = 2 := rfl
theorem fl3 : fw .i64 3 = 3 := rfl
theorem fl4 : fw .i64 4 = 4 := rfl
theorem fl5 : fw .i64 5 = 5 := rfl
theorem fl6 : fw .i64 6 = 6 := rfl
theorem part3 (l : List AV) (i : Nat) : partA Try.prog 3 l i = l[i]? := by unfold partA; rw [agg3]

set_option maxRecDepth 10000 in
theorem w34_0 {call : CallE} (h58 : ∀ h n a b, call 58 [.int .i64 n, .int .i64 a, .int .i64 b] h = some (.bool (decide (a ≤ n ∧ n ≤ b)), h))
    (h59 : ∀ h k n v (l : List Int), RdL none 1 h v (l.map fun x : Int => AV.int .u64 x) → (∀ a, own v = some a → a < h.next) → ∃ v' h', call 59 [.agg [.int .u8 k, .int .i64 n, v]] h = some (v', h') ∧ SaysE (domB k n l) h v' h')
    {h : H} {c : CfgT} {v : AV} (hv : RdL none 1 h v (c.cuts.map fun x : Int => AV.int .u64 x)) (hlv : ∀ a, own v = some a → a < h.next) (hg : ¬ c.engine = 3) :
    WF Try.prog call c34 [.agg (cfgC c v)] h (SaysE (layB c) h) := by
  have ov := hv.one
  have st : ∀ x, StepN h ⟨h.next + 1, h.t.set h.next x⟩ := fun x => ⟨Nat.le_add_right _ _, fun b hb => by
    have e1 : ¬ b = h.next := by omega
    simp only [go_sem, ↓reduceIte, ↓reduceDIte, zA, zM, zL, zE, zD, yA, yE, yL, yQ, yT, reduceCtorEq, e1]⟩
  have bad : ∀ (p : Prop) x, ¬ p → SaysE p h (.int .i64 2) ⟨h.next + 1, h.t.set h.next x⟩ := fun p x hp => ⟨2, rfl, by simp [hp], st x⟩
  simp only [go_sem, ↓reduceIte, ↓reduceDIte, zA, zM, zL, zE, zD, yA, yE, yL, yQ, yT, reduceCtorEq, c34, ov, cfgC, hg, h58]
  refine unroll 7 ?_
  simp only [go_sem, ↓reduceIte, ↓reduceDIte, zA, zM, zL, zE, zD, yA, yE, yL, yQ, yT, reduceCtorEq, c34_l12, part3]
  by_cases a0 : c.t0 < 0
  case pos =>
    simp only [go_sem, ↓reduceIte, ↓reduceDIte, zA, zM, zL, zE, zD, yA, yE, yL, yQ, yT, reduceCtorEq, c34_l12, part3, fl1, fl2, fl3, fl4, fl5, fl6, a0]
    exact bad _ _ (by rintro ⟨ht, _⟩; simp only [towB] at ht; omega)
  by_cases b0 : 1024 < c.t0
  case pos =>
    simp only [go_sem, ↓reduceIte, ↓reduceDIte, zA, zM, zL, zE, zD, yA, yE, yL, yQ, yT, reduceCtorEq, c34_l12, part3, fl1, fl2, fl3, fl4, fl5, fl6, a0, b0]
    exact bad _ _ (by rintro ⟨ht, _⟩; simp only [towB] at ht; omega)
  have f0 : fw .i64 (1024 - c.t0) = 1024 - c.t0 := fwI (by omega) (by omega)
  simp only [go_sem, ↓reduceIte, ↓reduceDIte, zA, zM, zL, zE, zD, yA, yE, yL, yQ, yT, reduceCtorEq, c34_l12, part3, fl1, fl2, fl3, fl4, fl5, fl6, a0, b0, f0]
  by_cases a1 : c.t1 < 0
  case pos =>
    simp only [go_sem, ↓reduceIte, ↓reduceDIte, zA, zM, zL, zE, zD, yA, yE, yL, yQ, yT, reduceCtorEq, c34_l12, part3, fl1, fl2, fl3, fl4, fl5, fl6, a0, b0, f0, a1]
    exact bad _ _ (by rintro ⟨ht, _⟩; simp only [towB] at ht; omega)
  by_cases b1 : 1024 - c.t0 < c.t1
  case pos =>
    simp only [go_sem, ↓reduceIte, ↓reduceDIte, zA, zM, zL, zE, zD, yA, yE, yL, yQ, yT, reduceCtorEq, c34_l12, part3, fl1, fl2, fl3, fl4, fl5, fl6, a0, b0, f0, a1, b1]
    exact bad _ _ (by rintro ⟨ht, _⟩; simp only [towB] at ht; omega)
  have f1 : fw .i64 (1024 - c.t0 - c.t1) = 1024 - c.t0 - c.t1 := fwI (by omega) (by omega)
  simp only [go_sem, ↓reduceIte, ↓reduceDIte, zA, zM, zL, zE, zD, yA, yE, yL, yQ, yT, reduceCtorEq, c34_l12, part3, fl1, fl2, fl3, fl4, fl5, fl6, a0, b0, f0, a1, b1, f1]
  by_cases a2 : c.t2 < 0
  case pos =>
    simp only [go_sem, ↓reduceIte, ↓reduceDIte, zA, zM, zL, zE, zD, yA, yE, yL, yQ, yT, reduceCtorEq, c34_l12, part3, fl1, fl2, fl3, fl4, fl5, fl6, a0, b0, f0, a1, b1, f1, a2]
    exact bad _ _ (by rintro ⟨ht, _⟩; simp only [towB] at ht; omega)
  by_cases b2 : 1024 - c.t0 - c.t1 < c.t2
  case pos =>
    simp only [go_sem, ↓reduceIte, ↓reduceDIte, zA, zM, zL, zE, zD, yA, yE, yL, yQ, yT, reduceCtorEq, c34_l12, part3, fl1, fl2, fl3, fl4, fl5, fl6, a0, b0, f0, a1, b1, f1, a2, b2]
    exact bad _ _ (by rintro ⟨ht, _⟩; simp only [towB] at ht; omega)
  have f2 : fw .i64 (1024 - c.t0 - c.t1 - c.t2) = 1024 - c.t0 - c.t1 - c.t2 := fwI (by omega) (by omega)
  simp only [go_sem, ↓reduceIte, ↓reduceDIte, zA, zM, zL, zE, zD, yA, yE, yL, yQ, yT, reduceCtorEq, c34_l12, part3, fl1, fl2, fl3, fl4, fl5, fl6, a0, b0, f0, a1, b1, f1, a2, b2, f2]
  by_cases a3 : c.t3 < 0
  case pos =>
    simp only [go_sem, ↓reduceIte, ↓reduceDIte, zA, zM, zL, zE, zD, yA, yE, yL, yQ, yT, reduceCtorEq, c34_l12, part3, fl1, fl2, fl3, fl4, fl5, fl6, a0, b0, f0, a1, b1, f1, a2, b2, f2, a3]
    exact bad _ _ (by rintro ⟨ht, _⟩; simp only [towB] at ht; omega)
  by_cases b3 : 1024 - c.t0 - c.t1 - c.t2 < c.t3
  case pos =>
    simp only [go_sem, ↓reduceIte, ↓reduceDIte, zA, zM, zL, zE, zD, yA, yE, yL, yQ, yT, reduceCtorEq, c34_l12, part3, fl1, fl2, fl3, fl4, fl5, fl6, a0, b0, f0, a1, b1, f1, a2, b2, f2, a3, b3]
    exact bad _ _ (by rintro ⟨ht, _⟩; simp only [towB] at ht; omega)
  have f3 : fw .i64 (1024 - c.t0 - c.t1 - c.t2 - c.t3) = 1024 - c.t0 - c.t1 - c.t2 - c.t3 := fwI (by omega) (by omega)
  simp only [go_sem, ↓reduceIte, ↓reduceDIte, zA, zM, zL, zE, zD, yA, yE, yL, yQ, yT, reduceCtorEq, c34_l12, part3, fl1, fl2, fl3, fl4, fl5, fl6, a0, b0, f0, a1, b1, f1, a2, b2, f2, a3, b3, f3]
  by_cases a4 : c.t4 < 0
  case pos =>
    simp only [go_sem, ↓reduceIte, ↓reduceDIte, zA, zM, zL, zE, zD, yA, yE, yL, yQ, yT, reduceCtorEq, c34_l12, part3, fl1, fl2, fl3, fl4, fl5, fl6, a0, b0, f0, a1, b1, f1, a2, b2, f2, a3, b3, f3, a4]
    exact bad _ _ (by rintro ⟨ht, _⟩; simp only [towB] at ht; omega)
  by_cases b4 : 1024 - c.t0 - c.t1 - c.t2 - c.t3 < c.t4
  case pos =>
    simp only [go_sem, ↓reduceIte, ↓reduceDIte, zA, zM, zL, zE, zD, yA, yE, yL, yQ, yT, reduceCtorEq, c34_l12, part3, fl1, fl2, fl3, fl4, fl5, fl6, a0, b0, f0, a1, b1, f1, a2, b2, f2, a3, b3, f3, a4, b4]
    exact bad _ _ (by rintro ⟨ht, _⟩; simp only [towB] at ht; omega)
  have f4 : fw .i64 (1024 - c.t0 - c.t1 - c.t2 - c.t3 - c.t4) = 1024 - c.t0 - c.t1 - c.t2 - c.t3 - c.t4 := fwI (by omega) (by omega)
  simp only [go_sem, ↓reduceIte, ↓reduceDIte, zA, zM, zL, zE, zD, yA, yE, yL, yQ, yT, reduceCtorEq, c34_l12, part3, fl1, fl2, fl3, fl4, fl5, fl6, a0, b0, f0, a1, b1, f1, a2, b2, f2, a3, b3, f3, a4, b4, f4]
  by_cases a5 : c.t5 < 0
  case pos =>
    simp only [go_sem, ↓reduceIte, ↓reduceDIte, zA, zM, zL, zE, zD, yA, yE, yL, yQ, yT, reduceCtorEq, c34_l12, part3, fl1, fl2, fl3, fl4, fl5, fl6, a0, b0, f0, a1, b1, f1, a2, b2, f2, a3, b3, f3, a4, b4, f4, a5]
    exact bad _ _ (by rintro ⟨ht, _⟩; simp only [towB] at ht; omega)
  by_cases b5 : 1024 - c.t0 - c.t1 - c.t2 - c.t3 - c.t4 < c.t5
  case pos =>
    simp only [go_sem, ↓reduceIte, ↓reduceDIte, zA, zM, zL, zE, zD, yA, yE, yL, yQ, yT, reduceCtorEq, c34_l12, part3, fl1, fl2, fl3, fl4, fl5, fl6, a0, b0, f0, a1, b1, f1, a2, b2, f2, a3, b3, f3, a4, b4, f4, a5, b5]
    exact bad _ _ (by rintro ⟨ht, _⟩; simp only [towB] at ht; omega)
  have f5 : fw .i64 (1024 - c.t0 - c.t1 - c.t2 - c.t3 - c.t4 - c.t5) = 1024 - c.t0 - c.t1 - c.t2 - c.t3 - c.t4 - c.t5 := fwI (by omega) (by omega)
  simp only [go_sem, ↓reduceIte, ↓reduceDIte, zA, zM, zL, zE, zD, yA, yE, yL, yQ, yT, reduceCtorEq, c34_l12, part3, fl1, fl2, fl3, fl4, fl5, fl6, a0, b0, f0, a1, b1, f1, a2, b2, f2, a3, b3, f3, a4, b4, f4, a5, b5, f5]
  have ht : towB 1024 [c.t0, c.t1, c.t2, c.t3, c.t4, c.t5] := by simp only [towB, and_true]; omega
  by_cases c1 : 1 ≤ c.threads ∧ c.threads ≤ 64
  case neg =>
    simp only [go_sem, ↓reduceIte, ↓reduceDIte, zA, zM, zL, zE, zD, yA, yE, yL, yQ, yT, reduceCtorEq, h58, c1]
    exact bad _ _ (by rintro ⟨_, q1, q2, q3, q4, q5, q6, q7, q8, q9, q10⟩; omega)
  by_cases c2 : 1 ≤ c.slots ∧ c.slots ≤ 64
  case neg =>
    simp only [go_sem, ↓reduceIte, ↓reduceDIte, zA, zM, zL, zE, zD, yA, yE, yL, yQ, yT, reduceCtorEq, h58, c1, c2]
    exact bad _ _ (by rintro ⟨_, q1, q2, q3, q4, q5, q6, q7, q8, q9, q10⟩; omega)
  by_cases c3 : c.engine < 1
  case pos =>
    simp only [go_sem, ↓reduceIte, ↓reduceDIte, zA, zM, zL, zE, zD, yA, yE, yL, yQ, yT, reduceCtorEq, h58, c1, c2, c3]
    exact bad _ _ (by rintro ⟨_, q1, q2, q3, q4, q5, q6, q7, q8, q9, q10⟩; omega)
  by_cases c4 : 3 < c.engine
  case pos =>
    simp only [go_sem, ↓reduceIte, ↓reduceDIte, zA, zM, zL, zE, zD, yA, yE, yL, yQ, yT, reduceCtorEq, h58, c1, c2, c3, c4]
    exact bad _ _ (by rintro ⟨_, q1, q2, q3, q4, q5, q6, q7, q8, q9, q10⟩; omega)
  by_cases c5 : c.buckets = 0
  case neg =>
    simp only [go_sem, ↓reduceIte, ↓reduceDIte, zA, zM, zL, zE, zD, yA, yE, yL, yQ, yT, reduceCtorEq, h58, c1, c2, c3, c4, c5]
    exact bad _ _ (by rintro ⟨_, q1, q2, q3, q4, q5, q6, q7, q8, q9, q10⟩; exact c5 (q6 hg))
  simp only [go_sem, ↓reduceIte, ↓reduceDIte, zA, zM, zL, zE, zD, yA, yE, yL, yQ, yT, reduceCtorEq, h58, c1, c2, c3, c4, c5]
  refine opt_by (h59 _ c.kind c.n v c.cuts (hv.keep fun b hb => (st _).old b (hlv b hb)) (fun a ha => Nat.lt_of_lt_of_le (hlv a ha) (st _).next)) fun v1 h1 p1 => ?_
  obtain ⟨e, rfl, he, st1⟩ := p1
  have stn := (st _).trans st1
  have g0 := st1.old h.next (by show h.next < h.next + 1; omega)
  simp only [go_sem, ↓reduceIte, ↓reduceDIte, zA, zM, zL, zE, zD, yA, yE, yL, yQ, yT, reduceCtorEq] at g0
  have bad2 : ∀ p : Prop, ¬ p → SaysE p h (.int .i64 2) h1 := fun p hp => ⟨2, rfl, by simp [hp], stn⟩
  by_cases d0 : e = 0
  case neg =>
    simp only [go_sem, ↓reduceIte, ↓reduceDIte, zA, zM, zL, zE, zD, yA, yE, yL, yQ, yT, reduceCtorEq, d0, g0, h58]
    exact bad2 _ (by rintro ⟨_, q1, q2, q3, q4, q5, q6, q7, q8, q9, q10⟩; exact d0 (he.2 q7))
  have dd := he.1 d0
  by_cases d1 : 1 ≤ c.locks ∧ c.locks ≤ 16
  case neg =>
    simp only [go_sem, ↓reduceIte, ↓reduceDIte, zA, zM, zL, zE, zD, yA, yE, yL, yQ, yT, reduceCtorEq, g0, h58, d0, d1]
    exact bad2 _ (by rintro ⟨_, q1, q2, q3, q4, q5, q6, q7, q8, q9, q10, q11⟩; omega)
  by_cases d2 : 1 ≤ c.tries ∧ c.tries ≤ 255
  case neg =>
    simp only [go_sem, ↓reduceIte, ↓reduceDIte, zA, zM, zL, zE, zD, yA, yE, yL, yQ, yT, reduceCtorEq, g0, h58, d0, d1, d2]
    exact bad2 _ (by rintro ⟨_, q1, q2, q3, q4, q5, q6, q7, q8, q9, q10, q11⟩; omega)
  by_cases d3 : 0 ≤ c.batch ∧ c.batch ≤ 64
  case neg =>
    simp only [go_sem, ↓reduceIte, ↓reduceDIte, zA, zM, zL, zE, zD, yA, yE, yL, yQ, yT, reduceCtorEq, g0, h58, d0, d1, d2, d3]
    exact bad2 _ (by rintro ⟨_, q1, q2, q3, q4, q5, q6, q7, q8, q9, q10, q11⟩; omega)
  simp only [go_sem, ↓reduceIte, ↓reduceDIte, zA, zM, zL, zE, zD, yA, yE, yL, yQ, yT, reduceCtorEq, g0, h58, d0, d1, d2, d3]
  exact ⟨0, rfl, by simp only [true_iff]; exact ⟨ht, c1, c2, by omega, by omega, by intro q; exact absurd q hg, by intro _; exact c5, dd, d1, d2, d3.1, d3.2⟩, stn⟩

set_option maxRecDepth 10000 in
theorem w34_1 {call : CallE} (h58 : ∀ h n a b, call 58 [.int .i64 n, .int .i64 a, .int .i64 b] h = some (.bool (decide (a ≤ n ∧ n ≤ b)), h))
    (h59 : ∀ h k n v (l : List Int), RdL none 1 h v (l.map fun x : Int => AV.int .u64 x) → (∀ a, own v = some a → a < h.next) → ∃ v' h', call 59 [.agg [.int .u8 k, .int .i64 n, v]] h = some (v', h') ∧ SaysE (domB k n l) h v' h')
    {h : H} {c : CfgT} {v : AV} (hv : RdL none 1 h v (c.cuts.map fun x : Int => AV.int .u64 x)) (hlv : ∀ a, own v = some a → a < h.next) (hg : c.engine = 3) :
    WF Try.prog call c34 [.agg (cfgC c v)] h (SaysE (layB c) h) := by
  have ov := hv.one
  have st : ∀ x, StepN h ⟨h.next + 1, h.t.set h.next x⟩ := fun x => ⟨Nat.le_add_right _ _, fun b hb => by
    have e1 : ¬ b = h.next := by omega
    simp only [go_sem, ↓reduceIte, ↓reduceDIte, zA, zM, zL, zE, zD, yA, yE, yL, yQ, yT, reduceCtorEq, e1]⟩
  have bad : ∀ (p : Prop) x, ¬ p → SaysE p h (.int .i64 2) ⟨h.next + 1, h.t.set h.next x⟩ := fun p x hp => ⟨2, rfl, by simp [hp], st x⟩
  simp only [go_sem, ↓reduceIte, ↓reduceDIte, zA, zM, zL, zE, zD, yA, yE, yL, yQ, yT, reduceCtorEq, c34, ov, cfgC, hg, h58]
  refine unroll 7 ?_
  simp only [go_sem, ↓reduceIte, ↓reduceDIte, zA, zM, zL, zE, zD, yA, yE, yL, yQ, yT, reduceCtorEq, c34_l12, part3]
  by_cases a0 : c.t0 < 0
  case pos =>
    simp only [go_sem, ↓reduceIte, ↓reduceDIte, zA, zM, zL, zE, zD, yA, yE, yL, yQ, yT, reduceCtorEq, c34_l12, part3, fl1, fl2, fl3, fl4, fl5, fl6, a0]
    exact bad _ _ (by rintro ⟨ht, _⟩; simp only [towB] at ht; omega)
  by_cases b0 : 1024 < c.t0
  case pos =>
    simp only [go_sem, ↓reduceIte, ↓reduceDIte, zA, zM, zL, zE, zD, yA, yE, yL, yQ, yT, reduceCtorEq, c34_l12, part3, fl1, fl2, fl3, fl4, fl5, fl6, a0, b0]
    exact bad _ _ (by rintro ⟨ht, _⟩; simp only [towB] at ht; omega)
  have f0 : fw .i64 (1024 - c.t0) = 1024 - c.t0 := fwI (by omega) (by omega)
  simp only [go_sem, ↓reduceIte, ↓reduceDIte, zA, zM, zL, zE, zD, yA, yE, yL, yQ, yT, reduceCtorEq, c34_l12, part3, fl1, fl2, fl3, fl4, fl5, fl6, a0, b0, f0]
  by_cases a1 : c.t1 < 0
  case pos =>
    simp only [go_sem, ↓reduceIte, ↓reduceDIte, zA, zM, zL, zE, zD, yA, yE, yL, yQ, yT, reduceCtorEq, c34_l12, part3, fl1, fl2, fl3, fl4, fl5, fl6, a0, b0, f0, a1]
    exact bad _ _ (by rintro ⟨ht, _⟩; simp only [towB] at ht; omega)
  by_cases b1 : 1024 - c.t0 < c.t1
  case pos =>
    simp only [go_sem, ↓reduceIte, ↓reduceDIte, zA, zM, zL, zE, zD, yA, yE, yL, yQ, yT, reduceCtorEq, c34_l12, part3, fl1, fl2, fl3, fl4, fl5, fl6, a0, b0, f0, a1, b1]
    exact bad _ _ (by rintro ⟨ht, _⟩; simp only [towB] at ht; omega)
  have f1 : fw .i64 (1024 - c.t0 - c.t1) = 1024 - c.t0 - c.t1 := fwI (by omega) (by omega)
  simp only [go_sem, ↓reduceIte, ↓reduceDIte, zA, zM, zL, zE, zD, yA, yE, yL, yQ, yT, reduceCtorEq, c34_l12, part3, fl1, fl2, fl3, fl4, fl5, fl6, a0, b0, f0, a1, b1, f1]
  by_cases a2 : c.t2 < 0
  case pos =>
    simp only [go_sem, ↓reduceIte, ↓reduceDIte, zA, zM, zL, zE, zD, yA, yE, yL, yQ, yT, reduceCtorEq, c34_l12, part3, fl1, fl2, fl3, fl4, fl5, fl6, a0, b0, f0, a1, b1, f1, a2]
    exact bad _ _ (by rintro ⟨ht, _⟩; simp only [towB] at ht; omega)
  by_cases b2 : 1024 - c.t0 - c.t1 < c.t2
  case pos =>
    simp only [go_sem, ↓reduceIte, ↓reduceDIte, zA, zM, zL, zE, zD, yA, yE, yL, yQ, yT, reduceCtorEq, c34_l12, part3, fl1, fl2, fl3, fl4, fl5, fl6, a0, b0, f0, a1, b1, f1, a2, b2]
    exact bad _ _ (by rintro ⟨ht, _⟩; simp only [towB] at ht; omega)
  have f2 : fw .i64 (1024 - c.t0 - c.t1 - c.t2) = 1024 - c.t0 - c.t1 - c.t2 := fwI (by omega) (by omega)
  simp only [go_sem, ↓reduceIte, ↓reduceDIte, zA, zM, zL, zE, zD, yA, yE, yL, yQ, yT, reduceCtorEq, c34_l12, part3, fl1, fl2, fl3, fl4, fl5, fl6, a0, b0, f0, a1, b1, f1, a2, b2, f2]
  by_cases a3 : c.t3 < 0
  case pos =>
    simp only [go_sem, ↓reduceIte, ↓reduceDIte, zA, zM, zL, zE, zD, yA, yE, yL, yQ, yT, reduceCtorEq, c34_l12, part3, fl1, fl2, fl3, fl4, fl5, fl6, a0, b0, f0, a1, b1, f1, a2, b2, f2, a3]
    exact bad _ _ (by rintro ⟨ht, _⟩; simp only [towB] at ht; omega)
  by_cases b3 : 1024 - c.t0 - c.t1 - c.t2 < c.t3
  case pos =>
    simp only [go_sem, ↓reduceIte, ↓reduceDIte, zA, zM, zL, zE, zD, yA, yE, yL, yQ, yT, reduceCtorEq, c34_l12, part3, fl1, fl2, fl3, fl4, fl5, fl6, a0, b0, f0, a1, b1, f1, a2, b2, f2, a3, b3]
    exact bad _ _ (by rintro ⟨ht, _⟩; simp only [towB] at ht; omega)
  have f3 : fw .i64 (1024 - c.t0 - c.t1 - c.t2 - c.t3) = 1024 - c.t0 - c.t1 - c.t2 - c.t3 := fwI (by omega) (by omega)
  simp only [go_sem, ↓reduceIte, ↓reduceDIte, zA, zM, zL, zE, zD, yA, yE, yL, yQ, yT, reduceCtorEq, c34_l12, part3, fl1, fl2, fl3, fl4, fl5, fl6, a0, b0, f0, a1, b1, f1, a2, b2, f2, a3, b3, f3]
  by_cases a4 : c.t4 < 0
  case pos =>
    simp only [go_sem, ↓reduceIte, ↓reduceDIte, zA, zM, zL, zE, zD, yA, yE, yL, yQ, yT, reduceCtorEq, c34_l12, part3, fl1, fl2, fl3, fl4, fl5, fl6, a0, b0, f0, a1, b1, f1, a2, b2, f2, a3, b3, f3, a4]
    exact bad _ _ (by rintro ⟨ht, _⟩; simp only [towB] at ht; omega)
  by_cases b4 : 1024 - c.t0 - c.t1 - c.t2 - c.t3 < c.t4
  case pos =>
    simp only [go_sem, ↓reduceIte, ↓reduceDIte, zA, zM, zL, zE, zD, yA, yE, yL, yQ, yT, reduceCtorEq, c34_l12, part3, fl1, fl2, fl3, fl4, fl5, fl6, a0, b0, f0, a1, b1, f1, a2, b2, f2, a3, b3, f3, a4, b4]
    exact bad _ _ (by rintro ⟨ht, _⟩; simp only [towB] at ht; omega)
  have f4 : fw .i64 (1024 - c.t0 - c.t1 - c.t2 - c.t3 - c.t4) = 1024 - c.t0 - c.t1 - c.t2 - c.t3 - c.t4 := fwI (by omega) (by omega)
  simp only [go_sem, ↓reduceIte, ↓reduceDIte, zA, zM, zL, zE, zD, yA, yE, yL, yQ, yT, reduceCtorEq, c34_l12, part3, fl1, fl2, fl3, fl4, fl5, fl6, a0, b0, f0, a1, b1, f1, a2, b2, f2, a3, b3, f3, a4, b4, f4]
  by_cases a5 : c.t5 < 0
  case pos =>
    simp only [go_sem, ↓reduceIte, ↓reduceDIte, zA, zM, zL, zE, zD, yA, yE, yL, yQ, yT, reduceCtorEq, c34_l12, part3, fl1, fl2, fl3, fl4, fl5, fl6, a0, b0, f0, a1, b1, f1, a2, b2, f2, a3, b3, f3, a4, b4, f4, a5]
    exact bad _ _ (by rintro ⟨ht, _⟩; simp only [towB] at ht; omega)
  by_cases b5 : 1024 - c.t0 - c.t1 - c.t2 - c.t3 - c.t4 < c.t5
  case pos =>
    simp only [go_sem, ↓reduceIte, ↓reduceDIte, zA, zM, zL, zE, zD, yA, yE, yL, yQ, yT, reduceCtorEq, c34_l12, part3, fl1, fl2, fl3, fl4, fl5, fl6, a0, b0, f0, a1, b1, f1, a2, b2, f2, a3, b3, f3, a4, b4, f4, a5, b5]
    exact bad _ _ (by rintro ⟨ht, _⟩; simp only [towB] at ht; omega)
  have f5 : fw .i64 (1024 - c.t0 - c.t1 - c.t2 - c.t3 - c.t4 - c.t5) = 1024 - c.t0 - c.t1 - c.t2 - c.t3 - c.t4 - c.t5 := fwI (by omega) (by omega)
  simp only [go_sem, ↓reduceIte, ↓reduceDIte, zA, zM, zL, zE, zD, yA, yE, yL, yQ, yT, reduceCtorEq, c34_l12, part3, fl1, fl2, fl3, fl4, fl5, fl6, a0, b0, f0, a1, b1, f1, a2, b2, f2, a3, b3, f3, a4, b4, f4, a5, b5, f5]
  have ht : towB 1024 [c.t0, c.t1, c.t2, c.t3, c.t4, c.t5] := by simp only [towB, and_true]; omega
  by_cases c1 : 1 ≤ c.threads ∧ c.threads ≤ 64
  case neg =>
    simp only [go_sem, ↓reduceIte, ↓reduceDIte, zA, zM, zL, zE, zD, yA, yE, yL, yQ, yT, reduceCtorEq, h58, c1]
    exact bad _ _ (by rintro ⟨_, q1, q2, q3, q4, q5, q6, q7, q8, q9, q10⟩; omega)
  by_cases c2 : 1 ≤ c.slots ∧ c.slots ≤ 64
  case neg =>
    simp only [go_sem, ↓reduceIte, ↓reduceDIte, zA, zM, zL, zE, zD, yA, yE, yL, yQ, yT, reduceCtorEq, h58, c1, c2]
    exact bad _ _ (by rintro ⟨_, q1, q2, q3, q4, q5, q6, q7, q8, q9, q10⟩; omega)
  have c3 : ¬ c.engine < 1 := by omega
  have c4 : ¬ 3 < c.engine := by omega
  by_cases c5 : 1 ≤ c.buckets ∧ c.buckets ≤ 16
  case neg =>
    simp only [go_sem, ↓reduceIte, ↓reduceDIte, zA, zM, zL, zE, zD, yA, yE, yL, yQ, yT, reduceCtorEq, h58, c1, c2, c3, c4, hg, c5]
    exact bad _ _ (by rintro ⟨_, q1, q2, q3, q4, q5, q6, q7, q8, q9, q10⟩; exact c5 (q5 hg))
  simp only [go_sem, ↓reduceIte, ↓reduceDIte, zA, zM, zL, zE, zD, yA, yE, yL, yQ, yT, reduceCtorEq, h58, c1, c2, c3, c4, hg, c5]
  refine opt_by (h59 _ c.kind c.n v c.cuts (hv.keep fun b hb => (st _).old b (hlv b hb)) (fun a ha => Nat.lt_of_lt_of_le (hlv a ha) (st _).next)) fun v1 h1 p1 => ?_
  obtain ⟨e, rfl, he, st1⟩ := p1
  have stn := (st _).trans st1
  have g0 := st1.old h.next (by show h.next < h.next + 1; omega)
  simp only [go_sem, ↓reduceIte, ↓reduceDIte, zA, zM, zL, zE, zD, yA, yE, yL, yQ, yT, reduceCtorEq] at g0
  have bad2 : ∀ p : Prop, ¬ p → SaysE p h (.int .i64 2) h1 := fun p hp => ⟨2, rfl, by simp [hp], stn⟩
  by_cases d0 : e = 0
  case neg =>
    simp only [go_sem, ↓reduceIte, ↓reduceDIte, zA, zM, zL, zE, zD, yA, yE, yL, yQ, yT, reduceCtorEq, d0, g0, h58]
    exact bad2 _ (by rintro ⟨_, q1, q2, q3, q4, q5, q6, q7, q8, q9, q10⟩; exact d0 (he.2 q7))
  have dd := he.1 d0
  by_cases d1 : 1 ≤ c.locks ∧ c.locks ≤ 16
  case neg =>
    simp only [go_sem, ↓reduceIte, ↓reduceDIte, zA, zM, zL, zE, zD, yA, yE, yL, yQ, yT, reduceCtorEq, g0, h58, d0, d1]
    exact bad2 _ (by rintro ⟨_, q1, q2, q3, q4, q5, q6, q7, q8, q9, q10, q11⟩; omega)
  by_cases d2 : 1 ≤ c.tries ∧ c.tries ≤ 255
  case neg =>
    simp only [go_sem, ↓reduceIte, ↓reduceDIte, zA, zM, zL, zE, zD, yA, yE, yL, yQ, yT, reduceCtorEq, g0, h58, d0, d1, d2]
    exact bad2 _ (by rintro ⟨_, q1, q2, q3, q4, q5, q6, q7, q8, q9, q10, q11⟩; omega)
  by_cases d3 : 0 ≤ c.batch ∧ c.batch ≤ 64
  case neg =>
    simp only [go_sem, ↓reduceIte, ↓reduceDIte, zA, zM, zL, zE, zD, yA, yE, yL, yQ, yT, reduceCtorEq, g0, h58, d0, d1, d2, d3]
    exact bad2 _ (by rintro ⟨_, q1, q2, q3, q4, q5, q6, q7, q8, q9, q10, q11⟩; omega)
  simp only [go_sem, ↓reduceIte, ↓reduceDIte, zA, zM, zL, zE, zD, yA, yE, yL, yQ, yT, reduceCtorEq, g0, h58, d0, d1, d2, d3]
  exact ⟨0, rfl, by simp only [true_iff]; exact ⟨ht, c1, c2, by omega, by omega, by intro _; exact c5, by intro q; exact absurd hg q, dd, d1, d2, d3.1, d3.2⟩, stn⟩

theorem w34 {call : CallE} (h58 : ∀ h n a b, call 58 [.int .i64 n, .int .i64 a, .int .i64 b] h = some (.bool (decide (a ≤ n ∧ n ≤ b)), h))
    (h59 : ∀ h k n v (l : List Int), RdL none 1 h v (l.map fun x : Int => AV.int .u64 x) → (∀ a, own v = some a → a < h.next) → ∃ v' h', call 59 [.agg [.int .u8 k, .int .i64 n, v]] h = some (v', h') ∧ SaysE (domB k n l) h v' h')
    {h : H} {c : CfgT} {v : AV} (hv : RdL none 1 h v (c.cuts.map fun x : Int => AV.int .u64 x)) (hlv : ∀ a, own v = some a → a < h.next) :
    WF Try.prog call c34 [.agg (cfgC c v)] h (SaysE (layB c) h) := by
  by_cases hg : c.engine = 3
  · exact w34_1 h58 h59 hv hlv hg
  · exact w34_0 h58 h59 hv hlv hg
end
end Go.Proofs.Ytnmlfhogolonoaa
