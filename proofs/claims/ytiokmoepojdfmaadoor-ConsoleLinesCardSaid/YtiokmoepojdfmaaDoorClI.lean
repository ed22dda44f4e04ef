/-
  Which fields are not nought; well formed operations.
-/
import Derived.Test.YtiokmoepojdfmaaDoorClH
set_option linter.unusedVariables false
set_option linter.unusedSimpArgs false
namespace Go.Proofs.YtiokmoepojdfmaaDoor
open Go.Proofs.YtiokmoepojdfmaaDoor.Eo
open Nat renaming reduceAdd → zA, reduceMul → zM, reduceLT → zL, reduceEqDiff → zE, reduceLeDiff → zD
open Int renaming reduceAdd → yA, reduceLE → yE, reduceLT → yL, reduceEq → yQ, reduceToNat → yT
open Go.Lib (decDigits itoa)
noncomputable section
/-! 30: leapfrog/leapfrogref38.Mask -/
@[go_sem] def c30_s0 : List SQ := [⟨some 1, none, .n (.box 24 (.t 0))⟩, ⟨some 2, none, .p (.mv (.c (.int .i64 0)))⟩]
@[go_sem] def c30_s1 : List SQ := [⟨some 3, none, .p (.mv (.c (.int .i64 0)))⟩]
@[go_sem] def c30_s2 : List SQ := [⟨some 6, none, .r (.ld (some 7) (.t 1))⟩, ⟨some 7, none, .cv (.c (.fn (.func 21) [] [])) [(.t 6)]⟩, ⟨some 4, none, .p (.mv (.t 7))⟩]
@[go_sem] def c30_s3 : List SQ := [⟨some 5, none, .p (.mv (.c (.int .i64 0)))⟩]
@[go_sem] def c30_s4 : List SQ := [⟨some 8, none, .p (.mv (.t 5))⟩, ⟨some 9, none, .p (.mv (.t 4))⟩, ⟨some 10, none, .p (.lenv (.t 9))⟩, ⟨some 11, none, .p (.bin .lss 3 false false (.t 8) (.t 10))⟩]
@[go_sem] def c30_s5 : List SQ := [⟨some 14, none, .p (.mv (.t 4))⟩, ⟨some 15, none, .p (.mv (.t 5))⟩, ⟨some 16, none, .p (.iadrS 1 (.t 14) (.t 15))⟩, ⟨some 17, none, .r (.ld none (.t 16))⟩, ⟨some 18, none, .p (.bin .neq 22 false true (.t 17) (.c (.int .u64 0)))⟩]
@[go_sem] def c30_s6 : List SQ := [⟨some 19, none, .p (.mv (.t 3))⟩, ⟨some 20, none, .p (.mv (.t 5))⟩, ⟨some 21, none, .p (.conv .u64 (.t 20))⟩, ⟨some 22, none, .p (.bin .shl 3 true false (.c (.int .i64 1)) (.t 21))⟩, ⟨some 23, none, .p (.bin .add 3 false false (.t 19) (.t 22))⟩, ⟨some 3, none, .p (.mv (.t 23))⟩]
@[go_sem] def c30_s7 : List SQ := [⟨some 12, none, .p (.mv (.t 5))⟩, ⟨some 13, none, .p (.bin .add 3 false true (.t 12) (.c (.int .i64 1)))⟩, ⟨some 5, none, .p (.mv (.t 13))⟩]
def c30_l8 : CC := (.seq (.seq (.ops c30_s4) (.cond (.t 11) .skip (.exit 0))) (.seq (.block 1 (.seq (.ops c30_s5) (.cond (.t 18) (.ops c30_s6) .skip))) (.ops c30_s7)))
@[go_sem] def c30_s9 : List SQ := [⟨some 24, none, .p (.mv (.t 3))⟩, ⟨some 2, none, .p (.mv (.t 24))⟩]
@[go_sem] def c30 : CF := ⟨1, (.seq (.ops c30_s0) (.seq (.ops c30_s1) (.seq (.ops c30_s2) (.seq (.seq (.ops c30_s3) (.block 0 (.loop c30_l8))) (.seq (.ops c30_s9) .ret))))), [.tmp 2]⟩
theorem c30_eq : cCF Tryd.prog 30 1 = some c30 := by kernel_rfl
/-! 18: leapfrog/leapfrogref38.Formed -/
@[go_sem] def c18_s0 : List SQ := [⟨some 1, none, .n (.box 24 (.t 0))⟩, ⟨some 2, none, .p (.mv (.c (.bool false)))⟩]
@[go_sem] def c18_p1 : List (List DQ × Option DQ) := [([⟨0, [(1, none)], none, .p (.fadr 0 (.t 1))⟩, ⟨1, [(3, (some 0))], none, .r (.ld none (.t 3))⟩, ⟨2, [(4, (some 1))], none, .p (.bin .geq 5 false true (.t 4) (.c (.int .u8 1)))⟩, ⟨3, [(5, (some 2))], none, .p (.mv (.t 5))⟩, ⟨4, [(6, (some 3)), (1, none)], some (6, true), .p (.fadr 0 (.t 1))⟩, ⟨5, [(6, (some 3)), (7, (some 4))], some (6, true), .r (.ld none (.t 7))⟩, ⟨6, [(6, (some 3)), (8, (some 5))], some (6, true), .p (.bin .leq 5 false true (.t 8) (.c (.int .u8 15)))⟩, ⟨7, [(6, (some 3)), (9, (some 6))], none, .p (.pick (.t 6) (.t 9) (.c (.bool false)))⟩, ⟨8, [(10, (some 7))], none, .p (.mv (.t 10))⟩, ⟨9, [(11, (some 8)), (1, none)], some (11, true), .r (.ld (some 7) (.t 1))⟩, ⟨11, [(11, (some 8)), (1, none)], some (11, true), .p (.fadr 0 (.t 1))⟩, ⟨12, [(11, (some 8)), (14, (some 11))], some (11, true), .r (.ld none (.t 14))⟩], (some ⟨10, [(11, (some 8)), (12, (some 9))], some (11, true), .cv (.c (.fn (.func 30) [] [])) [(.t 12)]⟩)), ([], (some ⟨13, [(11, (some 8)), (15, (some 12))], some (11, true), .cv (.c (.fn (.func 31) [] [])) [(.t 15)]⟩)), ([⟨14, [(11, (some 8)), (13, (some 10)), (16, (some 13))], some (11, true), .p (.bin .andNot 3 false false (.t 13) (.t 16))⟩, ⟨15, [(11, (some 8)), (17, (some 14))], some (11, true), .p (.bin .eql 3 false true (.t 17) (.c (.int .i64 0)))⟩, ⟨16, [(11, (some 8)), (18, (some 15))], none, .p (.pick (.t 11) (.t 18) (.c (.bool false)))⟩, ⟨17, [(19, (some 16))], none, .p (.mv (.t 19))⟩], none)]
@[go_sem] def c18 : CF := ⟨1, (.seq (.ops c18_s0) (.seq (.drw ⟨c18_p1, [(0, 3), (1, 4), (2, 5), (3, 6), (4, 7), (5, 8), (6, 9), (7, 10), (8, 11), (9, 12), (10, 13), (11, 14), (12, 15), (13, 16), (14, 17), (15, 18), (16, 19), (17, 2)], [(⟨12, [(11, (some 8)), (14, (some 11))], some (11, true), .r (.ld none (.t 14))⟩, [1])]⟩) .ret)), [.tmp 2]⟩
theorem c18_eq : cCF Tryd.prog 18 1 = some c18 := by kernel_rfl

@[go_sem] theorem opC_len (x : OpT) : (opC x).length = 7 := by unfold opC; rfl
@[go_sem] theorem opC_all (x : OpT) : (opC x).all oneA = true := by unfold opC; rfl
@[go_sem] theorem opC_take (x : OpT) : (opC x).take 7 = opC x := by unfold opC; rfl
@[go_sem] theorem opC_get0 (x : OpT) : (opC x)[0]? = some (.int .u8 x.1) := by unfold opC; rfl
@[go_sem] theorem opC_get1 (x : OpT) : (opC x)[1]? = some (.int .u64 (fld x 0)) := by unfold opC; rfl
@[go_sem] theorem opC_get2 (x : OpT) : (opC x)[2]? = some (.int .u64 (fld x 1)) := by unfold opC; rfl
@[go_sem] theorem opC_get3 (x : OpT) : (opC x)[3]? = some (.int .u64 (fld x 2)) := by unfold opC; rfl
@[go_sem] theorem opC_get4 (x : OpT) : (opC x)[4]? = some (.int .u64 (fld x 3)) := by unfold opC; rfl
@[go_sem] theorem opC_get5 (x : OpT) : (opC x)[5]? = some (.int .u64 (fld x 4)) := by unfold opC; rfl
@[go_sem] theorem opC_get6 (x : OpT) : (opC x)[6]? = some (.int .u64 (fld x 5)) := by unfold opC; rfl
theorem fI1 : fw .i64 1 = 1 := rfl
theorem fI2 : fw .i64 2 = 2 := rfl
theorem fI3 : fw .i64 3 = 3 := rfl
theorem fI4 : fw .i64 4 = 4 := rfl
theorem fI5 : fw .i64 5 = 5 := rfl
theorem fI6 : fw .i64 6 = 6 := rfl
theorem fI8 : fw .i64 8 = 8 := rfl
theorem fI16 : fw .i64 16 = 16 := rfl
theorem fI32 : fw .i64 32 = 32 := rfl
theorem fU0 : fw .u64 0 = 0 := rfl
theorem fU1 : fw .u64 1 = 1 := rfl
theorem fU2 : fw .u64 2 = 2 := rfl
theorem fU3 : fw .u64 3 = 3 := rfl
theorem fU4 : fw .u64 4 = 4 := rfl
theorem fU5 : fw .u64 5 = 5 := rfl
theorem mn0 : min 0 64 = 0 := rfl
theorem mn1 : min 1 64 = 1 := rfl
theorem mn2 : min 2 64 = 2 := rfl
theorem mn3 : min 3 64 = 3 := rfl
theorem mn4 : min 4 64 = 4 := rfl
theorem mn5 : min 5 64 = 5 := rfl
theorem bits64 : IntKind.bits .i64 = 64 := rfl
def maskN (x : OpT) : Nat → Int
  | 0 => 0
  | i + 1 => maskN x i + if fld x i = 0 then 0 else 2 ^ i
theorem maskN_bd (x : OpT) : ∀ i, 0 ≤ maskN x i ∧ maskN x i < 2 ^ i
  | 0 => ⟨Int.le_refl _, by show (0 : Int) < 2 ^ 0; decide⟩
  | i + 1 => by
    have ih := maskN_bd x i
    have hp : (0 : Int) < 2 ^ i := Int.pow_pos (by decide)
    rw [maskN, Int.pow_succ]
    split <;> omega
def I30 (h0 : H) (x : OpT) (v : AV) (k : Nat) (tm : T AV) (h : H) : Prop :=
  h = h0 ∧ tm.get 4 = some v ∧ ∃ i : Nat, i + k = 6 ∧ tm.get 5 = some (.int .i64 (i : Int)) ∧ tm.get 3 = some (.int .i64 (maskN x i))
set_option maxRecDepth 4000 in
theorem step30 (P : Program) {call : CallE} {h0 : H} {x : OpT} {v : AV} (hv : Own 1 22 h0 v 6 (([0, 1, 2, 3, 4, 5].map (fld x)).map (AV.int .u64))) (k : Nat) (tm : T AV) (h : H) (hI : I30 h0 x v k tm h) :
    WC P call c30_l8 (loopQ 0 (fun tm h => ∃ j, j < k ∧ I30 h0 x v j tm h) (fun tm h => h = h0 ∧ tm.get 3 = some (.int .i64 (maskN x 6))) (fun _ _ => False)) tm h := by
  obtain ⟨rfl, t4, i, hik, t5, t3⟩ := hI
  have hla := hv.lenA
  cases k with
  | zero =>
    have hi : i = 6 := by omega
    subst hi
    have t5 : tm.get 5 = some (.int .i64 6) := t5
    have hla : lenA v = some (.int .i64 6) := hla
    simp only [go_sem, ↓reduceIte, ↓reduceDIte, zA, zM, zL, zE, zD, yA, yE, yL, yQ, yT, reduceCtorEq, c30_l8, t4, t5, hla]
    exact t3
  | succ k =>
    have hb := maskN_bd x i
    have hla : lenA v = some (.int .i64 6) := hla
    generalize hcs : ([0, 1, 2, 3, 4, 5].map (fld x)).map (AV.int .u64) = cs at hv
    generalize hln : 6 = n at hv
    cases hv with
    | nil => omega
    | sl a len cs cap hc0 hp hcl ha hg =>
    subst hln
    rw [← hcs] at hg
    rcases (by omega : i = 0 ∨ i = 1 ∨ i = 2 ∨ i = 3 ∨ i = 4 ∨ i = 5) with rfl | rfl | rfl | rfl | rfl | rfl
    · have f0 : fw .i64 (maskN x 0 + 1) = maskN x 0 + 1 := fwI (by omega) (by omega)
      have hm : maskN x (0 + 1) = maskN x 0 + if fld x 0 = 0 then 0 else 1 := rfl
      have t5 : tm.get 5 = some (.int .i64 0) := t5
      have hget : ([0, 1, 2, 3, 4, 5].map (fld x))[0]? = some (fld x 0) := rfl
      by_cases hz : fld x 0 = 0
      · rw [if_pos hz, Int.add_zero] at hm
        simp only [go_sem, ↓reduceIte, ↓reduceDIte, zA, zM, zL, zE, zD, yA, yE, yL, yQ, yT, reduceCtorEq, c30_l8, t3, t4, t5, hla, Nat.mul_one, hg, List.map_cons, List.map_nil, hz, fI1, fI2, fI3, fI4, fI5, fI6, fI8, fI16, fI32, fU0, fU1, fU2, fU3, fU4, fU5, bits64, Int.reducePow, mn0, mn1, mn2, mn3, mn4, mn5]
        exact ⟨k, Nat.lt_succ_self k, rfl, by simp [go_sem, t4], 1, by omega, by simp [go_sem], by simp [go_sem, t3, hm]⟩
      · rw [if_neg hz] at hm
        simp only [go_sem, ↓reduceIte, ↓reduceDIte, zA, zM, zL, zE, zD, yA, yE, yL, yQ, yT, reduceCtorEq, c30_l8, t3, t4, t5, hla, Nat.mul_one, hg, List.map_cons, List.map_nil, hz, f0, fI1, fI2, fI3, fI4, fI5, fI6, fI8, fI16, fI32, fU0, fU1, fU2, fU3, fU4, fU5, bits64, Int.reducePow, mn0, mn1, mn2, mn3, mn4, mn5]
        exact ⟨k, Nat.lt_succ_self k, rfl, by simp [go_sem, t4], 1, by omega, by simp [go_sem], by simp [go_sem, hm, f0, fI1, fI2, fI4, fI8, fI16, fI32]⟩
    · have f0 : fw .i64 (maskN x 1 + 2) = maskN x 1 + 2 := fwI (by omega) (by omega)
      have hm : maskN x (1 + 1) = maskN x 1 + if fld x 1 = 0 then 0 else 2 := rfl
      have t5 : tm.get 5 = some (.int .i64 1) := t5
      have hget : ([0, 1, 2, 3, 4, 5].map (fld x))[1]? = some (fld x 1) := rfl
      by_cases hz : fld x 1 = 0
      · rw [if_pos hz, Int.add_zero] at hm
        simp only [go_sem, ↓reduceIte, ↓reduceDIte, zA, zM, zL, zE, zD, yA, yE, yL, yQ, yT, reduceCtorEq, c30_l8, t3, t4, t5, hla, Nat.mul_one, hg, List.map_cons, List.map_nil, hz, fI1, fI2, fI3, fI4, fI5, fI6, fI8, fI16, fI32, fU0, fU1, fU2, fU3, fU4, fU5, bits64, Int.reducePow, mn0, mn1, mn2, mn3, mn4, mn5]
        exact ⟨k, Nat.lt_succ_self k, rfl, by simp [go_sem, t4], 2, by omega, by simp [go_sem], by simp [go_sem, t3, hm]⟩
      · rw [if_neg hz] at hm
        simp only [go_sem, ↓reduceIte, ↓reduceDIte, zA, zM, zL, zE, zD, yA, yE, yL, yQ, yT, reduceCtorEq, c30_l8, t3, t4, t5, hla, Nat.mul_one, hg, List.map_cons, List.map_nil, hz, f0, fI1, fI2, fI3, fI4, fI5, fI6, fI8, fI16, fI32, fU0, fU1, fU2, fU3, fU4, fU5, bits64, Int.reducePow, mn0, mn1, mn2, mn3, mn4, mn5]
        exact ⟨k, Nat.lt_succ_self k, rfl, by simp [go_sem, t4], 2, by omega, by simp [go_sem], by simp [go_sem, hm, f0, fI1, fI2, fI4, fI8, fI16, fI32]⟩
    · have f0 : fw .i64 (maskN x 2 + 4) = maskN x 2 + 4 := fwI (by omega) (by omega)
      have hm : maskN x (2 + 1) = maskN x 2 + if fld x 2 = 0 then 0 else 4 := rfl
      have t5 : tm.get 5 = some (.int .i64 2) := t5
      have hget : ([0, 1, 2, 3, 4, 5].map (fld x))[2]? = some (fld x 2) := rfl
      by_cases hz : fld x 2 = 0
      · rw [if_pos hz, Int.add_zero] at hm
        simp only [go_sem, ↓reduceIte, ↓reduceDIte, zA, zM, zL, zE, zD, yA, yE, yL, yQ, yT, reduceCtorEq, c30_l8, t3, t4, t5, hla, Nat.mul_one, hg, List.map_cons, List.map_nil, hz, fI1, fI2, fI3, fI4, fI5, fI6, fI8, fI16, fI32, fU0, fU1, fU2, fU3, fU4, fU5, bits64, Int.reducePow, mn0, mn1, mn2, mn3, mn4, mn5]
        exact ⟨k, Nat.lt_succ_self k, rfl, by simp [go_sem, t4], 3, by omega, by simp [go_sem], by simp [go_sem, t3, hm]⟩
      · rw [if_neg hz] at hm
        simp only [go_sem, ↓reduceIte, ↓reduceDIte, zA, zM, zL, zE, zD, yA, yE, yL, yQ, yT, reduceCtorEq, c30_l8, t3, t4, t5, hla, Nat.mul_one, hg, List.map_cons, List.map_nil, hz, f0, fI1, fI2, fI3, fI4, fI5, fI6, fI8, fI16, fI32, fU0, fU1, fU2, fU3, fU4, fU5, bits64, Int.reducePow, mn0, mn1, mn2, mn3, mn4, mn5]
        exact ⟨k, Nat.lt_succ_self k, rfl, by simp [go_sem, t4], 3, by omega, by simp [go_sem], by simp [go_sem, hm, f0, fI1, fI2, fI4, fI8, fI16, fI32]⟩
    · have f0 : fw .i64 (maskN x 3 + 8) = maskN x 3 + 8 := fwI (by omega) (by omega)
      have hm : maskN x (3 + 1) = maskN x 3 + if fld x 3 = 0 then 0 else 8 := rfl
      have t5 : tm.get 5 = some (.int .i64 3) := t5
      have hget : ([0, 1, 2, 3, 4, 5].map (fld x))[3]? = some (fld x 3) := rfl
      by_cases hz : fld x 3 = 0
      · rw [if_pos hz, Int.add_zero] at hm
        simp only [go_sem, ↓reduceIte, ↓reduceDIte, zA, zM, zL, zE, zD, yA, yE, yL, yQ, yT, reduceCtorEq, c30_l8, t3, t4, t5, hla, Nat.mul_one, hg, List.map_cons, List.map_nil, hz, fI1, fI2, fI3, fI4, fI5, fI6, fI8, fI16, fI32, fU0, fU1, fU2, fU3, fU4, fU5, bits64, Int.reducePow, mn0, mn1, mn2, mn3, mn4, mn5]
        exact ⟨k, Nat.lt_succ_self k, rfl, by simp [go_sem, t4], 4, by omega, by simp [go_sem], by simp [go_sem, t3, hm]⟩
      · rw [if_neg hz] at hm
        simp only [go_sem, ↓reduceIte, ↓reduceDIte, zA, zM, zL, zE, zD, yA, yE, yL, yQ, yT, reduceCtorEq, c30_l8, t3, t4, t5, hla, Nat.mul_one, hg, List.map_cons, List.map_nil, hz, f0, fI1, fI2, fI3, fI4, fI5, fI6, fI8, fI16, fI32, fU0, fU1, fU2, fU3, fU4, fU5, bits64, Int.reducePow, mn0, mn1, mn2, mn3, mn4, mn5]
        exact ⟨k, Nat.lt_succ_self k, rfl, by simp [go_sem, t4], 4, by omega, by simp [go_sem], by simp [go_sem, hm, f0, fI1, fI2, fI4, fI8, fI16, fI32]⟩
    · have f0 : fw .i64 (maskN x 4 + 16) = maskN x 4 + 16 := fwI (by omega) (by omega)
      have hm : maskN x (4 + 1) = maskN x 4 + if fld x 4 = 0 then 0 else 16 := rfl
      have t5 : tm.get 5 = some (.int .i64 4) := t5
      have hget : ([0, 1, 2, 3, 4, 5].map (fld x))[4]? = some (fld x 4) := rfl
      by_cases hz : fld x 4 = 0
      · rw [if_pos hz, Int.add_zero] at hm
        simp only [go_sem, ↓reduceIte, ↓reduceDIte, zA, zM, zL, zE, zD, yA, yE, yL, yQ, yT, reduceCtorEq, c30_l8, t3, t4, t5, hla, Nat.mul_one, hg, List.map_cons, List.map_nil, hz, fI1, fI2, fI3, fI4, fI5, fI6, fI8, fI16, fI32, fU0, fU1, fU2, fU3, fU4, fU5, bits64, Int.reducePow, mn0, mn1, mn2, mn3, mn4, mn5]
        exact ⟨k, Nat.lt_succ_self k, rfl, by simp [go_sem, t4], 5, by omega, by simp [go_sem], by simp [go_sem, t3, hm]⟩
      · rw [if_neg hz] at hm
        simp only [go_sem, ↓reduceIte, ↓reduceDIte, zA, zM, zL, zE, zD, yA, yE, yL, yQ, yT, reduceCtorEq, c30_l8, t3, t4, t5, hla, Nat.mul_one, hg, List.map_cons, List.map_nil, hz, f0, fI1, fI2, fI3, fI4, fI5, fI6, fI8, fI16, fI32, fU0, fU1, fU2, fU3, fU4, fU5, bits64, Int.reducePow, mn0, mn1, mn2, mn3, mn4, mn5]
        exact ⟨k, Nat.lt_succ_self k, rfl, by simp [go_sem, t4], 5, by omega, by simp [go_sem], by simp [go_sem, hm, f0, fI1, fI2, fI4, fI8, fI16, fI32]⟩
    · have f0 : fw .i64 (maskN x 5 + 32) = maskN x 5 + 32 := fwI (by omega) (by omega)
      have hm : maskN x (5 + 1) = maskN x 5 + if fld x 5 = 0 then 0 else 32 := rfl
      have t5 : tm.get 5 = some (.int .i64 5) := t5
      have hget : ([0, 1, 2, 3, 4, 5].map (fld x))[5]? = some (fld x 5) := rfl
      by_cases hz : fld x 5 = 0
      · rw [if_pos hz, Int.add_zero] at hm
        simp only [go_sem, ↓reduceIte, ↓reduceDIte, zA, zM, zL, zE, zD, yA, yE, yL, yQ, yT, reduceCtorEq, c30_l8, t3, t4, t5, hla, Nat.mul_one, hg, List.map_cons, List.map_nil, hz, fI1, fI2, fI3, fI4, fI5, fI6, fI8, fI16, fI32, fU0, fU1, fU2, fU3, fU4, fU5, bits64, Int.reducePow, mn0, mn1, mn2, mn3, mn4, mn5]
        exact ⟨k, Nat.lt_succ_self k, rfl, by simp [go_sem, t4], 6, by omega, by simp [go_sem], by simp [go_sem, t3, hm]⟩
      · rw [if_neg hz] at hm
        simp only [go_sem, ↓reduceIte, ↓reduceDIte, zA, zM, zL, zE, zD, yA, yE, yL, yQ, yT, reduceCtorEq, c30_l8, t3, t4, t5, hla, Nat.mul_one, hg, List.map_cons, List.map_nil, hz, f0, fI1, fI2, fI3, fI4, fI5, fI6, fI8, fI16, fI32, fU0, fU1, fU2, fU3, fU4, fU5, bits64, Int.reducePow, mn0, mn1, mn2, mn3, mn4, mn5]
        exact ⟨k, Nat.lt_succ_self k, rfl, by simp [go_sem, t4], 6, by omega, by simp [go_sem], by simp [go_sem, hm, f0, fI1, fI2, fI4, fI8, fI16, fI32]⟩
theorem w30 (P : Program) {call : CallE} (h21 : ∀ h (x : OpT), ∃ v h', call 21 [.agg (opC x)] h = some (v, h') ∧ PostO x [0, 1, 2, 3, 4, 5] h v h') {h : H} {x : OpT} : WF P call c30 [.agg (opC x)] h fun v h' => v = .int .i64 (maskN x 6) ∧ StepN h h' := by
  simp only [go_sem, ↓reduceIte, ↓reduceDIte, zA, zM, zL, zE, zD, yA, yE, yL, yQ, yT, reduceCtorEq, c30]
  refine opt_by (h21 _ x) fun v1 h1 p1 => ?_
  have hla := p1.ow.lenA
  simp only [go_sem, ↓reduceIte, ↓reduceDIte, zA, zM, zL, zE, zD, yA, yE, yL, yQ, yT, reduceCtorEq]
  refine loop_in (I30 h1 x v1) _ _ (fun k tm h' hI => step30 P p1.ow k tm h' hI) (fun tm2 h2 hR => ?_) (fun _ _ hh => hh.elim) 6 _ _
    ⟨rfl, by simp [go_sem], 0, rfl, by simp [go_sem], by simp [go_sem, maskN]⟩
  obtain ⟨rfl, t3⟩ := hR
  simp only [go_sem, ↓reduceIte, ↓reduceDIte, zA, zM, zL, zE, zD, yA, yE, yL, yQ, yT, reduceCtorEq, t3]
  exact (StepN.new h _).trans p1.st
/-- an operation whose fields that its kind does not use are nought -/
def formed (x : OpT) : Prop := (1 ≤ x.1 ∧ x.1 ≤ 15) ∧ ∀ i, i < 6 → i ∉ useL x.1 → fld x i = 0
def mb (a b c d e f : Bool) : Int := (if a then 0 else 1) + (if b then 0 else 2) + (if c then 0 else 4) + (if d then 0 else 8) + (if e then 0 else 16) + (if f then 0 else 32)
theorem mb_mask (x : OpT) : maskN x 6 = mb (decide (fld x 0 = 0)) (decide (fld x 1 = 0)) (decide (fld x 2 = 0)) (decide (fld x 3 = 0)) (decide (fld x 4 = 0)) (decide (fld x 5 = 0)) := by
  simp only [maskN, mb, decide_eq_true_eq, Int.zero_add]
  rfl
theorem an0 : ∀ a b c d e f : Bool, andNotI .i64 (mb a b c d e f) 0 = 0 ↔ a = true ∧ b = true ∧ c = true ∧ d = true ∧ e = true ∧ f = true := by decide
theorem an1 : ∀ a b c d e f : Bool, andNotI .i64 (mb a b c d e f) 1 = 0 ↔ b = true ∧ c = true ∧ d = true ∧ e = true ∧ f = true := by decide
theorem an3 : ∀ a b c d e f : Bool, andNotI .i64 (mb a b c d e f) 3 = 0 ↔ c = true ∧ d = true ∧ e = true ∧ f = true := by decide
theorem an13 : ∀ a b c d e f : Bool, andNotI .i64 (mb a b c d e f) 13 = 0 ↔ b = true ∧ e = true ∧ f = true := by decide
theorem an37 : ∀ a b c d e f : Bool, andNotI .i64 (mb a b c d e f) 37 = 0 ↔ b = true ∧ d = true ∧ e = true := by decide
theorem an51 : ∀ a b c d e f : Bool, andNotI .i64 (mb a b c d e f) 51 = 0 ↔ c = true ∧ d = true := by decide
theorem formed_iff (x : OpT) (hk : 1 ≤ x.1 ∧ x.1 ≤ 15) : andNotI .i64 (maskN x 6) (useM x.1) = 0 ↔ ∀ i, i < 6 → i ∉ useL x.1 → fld x i = 0 := by
  rw [mb_mask]
  generalize x.1 = k at hk
  rcases kind_cases k with rfl | rfl | rfl | rfl | rfl | rfl | rfl | rfl | rfl | rfl | rfl | rfl | rfl | rfl | rfl | ⟨n1, n2, n3, n4, n5, n6, n7, n8, n9, n10, n11, n12, n13, n14, n15⟩
  · have e : useL 1 = [] := rfl
    have e2 : useM 1 = 0 := rfl
    rw [e, e2, an0]
    simp only [decide_eq_true_eq]
    exact ⟨fun hh i hi hn => by
      match i, hi with
      | 0, _ => exact hh.1
      | 1, _ => exact hh.2.1
      | 2, _ => exact hh.2.2.1
      | 3, _ => exact hh.2.2.2.1
      | 4, _ => exact hh.2.2.2.2.1
      | 5, _ => exact hh.2.2.2.2.2, fun hh => ⟨hh 0 (by decide) (by decide), hh 1 (by decide) (by decide), hh 2 (by decide) (by decide), hh 3 (by decide) (by decide), hh 4 (by decide) (by decide), hh 5 (by decide) (by decide)⟩⟩
  · have e : useL 2 = [] := rfl
    have e2 : useM 2 = 0 := rfl
    rw [e, e2, an0]
    simp only [decide_eq_true_eq]
    exact ⟨fun hh i hi hn => by
      match i, hi with
      | 0, _ => exact hh.1
      | 1, _ => exact hh.2.1
      | 2, _ => exact hh.2.2.1
      | 3, _ => exact hh.2.2.2.1
      | 4, _ => exact hh.2.2.2.2.1
      | 5, _ => exact hh.2.2.2.2.2, fun hh => ⟨hh 0 (by decide) (by decide), hh 1 (by decide) (by decide), hh 2 (by decide) (by decide), hh 3 (by decide) (by decide), hh 4 (by decide) (by decide), hh 5 (by decide) (by decide)⟩⟩
  · have e : useL 3 = [0] := rfl
    have e2 : useM 3 = 1 := rfl
    rw [e, e2, an1]
    simp only [decide_eq_true_eq]
    exact ⟨fun hh i hi hn => by
      match i, hi with
      | 0, _ => exact absurd (by decide) hn
      | 1, _ => exact hh.1
      | 2, _ => exact hh.2.1
      | 3, _ => exact hh.2.2.1
      | 4, _ => exact hh.2.2.2.1
      | 5, _ => exact hh.2.2.2.2, fun hh => ⟨hh 1 (by decide) (by decide), hh 2 (by decide) (by decide), hh 3 (by decide) (by decide), hh 4 (by decide) (by decide), hh 5 (by decide) (by decide)⟩⟩
  · have e : useL 4 = [0, 2, 5] := rfl
    have e2 : useM 4 = 37 := rfl
    rw [e, e2, an37]
    simp only [decide_eq_true_eq]
    exact ⟨fun hh i hi hn => by
      match i, hi with
      | 0, _ => exact absurd (by decide) hn
      | 1, _ => exact hh.1
      | 2, _ => exact absurd (by decide) hn
      | 3, _ => exact hh.2.1
      | 4, _ => exact hh.2.2
      | 5, _ => exact absurd (by decide) hn, fun hh => ⟨hh 1 (by decide) (by decide), hh 3 (by decide) (by decide), hh 4 (by decide) (by decide)⟩⟩
  · have e : useL 5 = [0, 2, 5] := rfl
    have e2 : useM 5 = 37 := rfl
    rw [e, e2, an37]
    simp only [decide_eq_true_eq]
    exact ⟨fun hh i hi hn => by
      match i, hi with
      | 0, _ => exact absurd (by decide) hn
      | 1, _ => exact hh.1
      | 2, _ => exact absurd (by decide) hn
      | 3, _ => exact hh.2.1
      | 4, _ => exact hh.2.2
      | 5, _ => exact absurd (by decide) hn, fun hh => ⟨hh 1 (by decide) (by decide), hh 3 (by decide) (by decide), hh 4 (by decide) (by decide)⟩⟩
  · have e : useL 6 = [0] := rfl
    have e2 : useM 6 = 1 := rfl
    rw [e, e2, an1]
    simp only [decide_eq_true_eq]
    exact ⟨fun hh i hi hn => by
      match i, hi with
      | 0, _ => exact absurd (by decide) hn
      | 1, _ => exact hh.1
      | 2, _ => exact hh.2.1
      | 3, _ => exact hh.2.2.1
      | 4, _ => exact hh.2.2.2.1
      | 5, _ => exact hh.2.2.2.2, fun hh => ⟨hh 1 (by decide) (by decide), hh 2 (by decide) (by decide), hh 3 (by decide) (by decide), hh 4 (by decide) (by decide), hh 5 (by decide) (by decide)⟩⟩
  · have e : useL 7 = [0, 3, 2] := rfl
    have e2 : useM 7 = 13 := rfl
    rw [e, e2, an13]
    simp only [decide_eq_true_eq]
    exact ⟨fun hh i hi hn => by
      match i, hi with
      | 0, _ => exact absurd (by decide) hn
      | 1, _ => exact hh.1
      | 2, _ => exact absurd (by decide) hn
      | 3, _ => exact absurd (by decide) hn
      | 4, _ => exact hh.2.1
      | 5, _ => exact hh.2.2, fun hh => ⟨hh 1 (by decide) (by decide), hh 4 (by decide) (by decide), hh 5 (by decide) (by decide)⟩⟩
  · have e : useL 8 = [0, 1, 4, 5] := rfl
    have e2 : useM 8 = 51 := rfl
    rw [e, e2, an51]
    simp only [decide_eq_true_eq]
    exact ⟨fun hh i hi hn => by
      match i, hi with
      | 0, _ => exact absurd (by decide) hn
      | 1, _ => exact absurd (by decide) hn
      | 2, _ => exact hh.1
      | 3, _ => exact hh.2
      | 4, _ => exact absurd (by decide) hn
      | 5, _ => exact absurd (by decide) hn, fun hh => ⟨hh 2 (by decide) (by decide), hh 3 (by decide) (by decide)⟩⟩
  · have e : useL 9 = [0, 1] := rfl
    have e2 : useM 9 = 3 := rfl
    rw [e, e2, an3]
    simp only [decide_eq_true_eq]
    exact ⟨fun hh i hi hn => by
      match i, hi with
      | 0, _ => exact absurd (by decide) hn
      | 1, _ => exact absurd (by decide) hn
      | 2, _ => exact hh.1
      | 3, _ => exact hh.2.1
      | 4, _ => exact hh.2.2.1
      | 5, _ => exact hh.2.2.2, fun hh => ⟨hh 2 (by decide) (by decide), hh 3 (by decide) (by decide), hh 4 (by decide) (by decide), hh 5 (by decide) (by decide)⟩⟩
  · have e : useL 10 = [] := rfl
    have e2 : useM 10 = 0 := rfl
    rw [e, e2, an0]
    simp only [decide_eq_true_eq]
    exact ⟨fun hh i hi hn => by
      match i, hi with
      | 0, _ => exact hh.1
      | 1, _ => exact hh.2.1
      | 2, _ => exact hh.2.2.1
      | 3, _ => exact hh.2.2.2.1
      | 4, _ => exact hh.2.2.2.2.1
      | 5, _ => exact hh.2.2.2.2.2, fun hh => ⟨hh 0 (by decide) (by decide), hh 1 (by decide) (by decide), hh 2 (by decide) (by decide), hh 3 (by decide) (by decide), hh 4 (by decide) (by decide), hh 5 (by decide) (by decide)⟩⟩
  · have e : useL 11 = [0, 1] := rfl
    have e2 : useM 11 = 3 := rfl
    rw [e, e2, an3]
    simp only [decide_eq_true_eq]
    exact ⟨fun hh i hi hn => by
      match i, hi with
      | 0, _ => exact absurd (by decide) hn
      | 1, _ => exact absurd (by decide) hn
      | 2, _ => exact hh.1
      | 3, _ => exact hh.2.1
      | 4, _ => exact hh.2.2.1
      | 5, _ => exact hh.2.2.2, fun hh => ⟨hh 2 (by decide) (by decide), hh 3 (by decide) (by decide), hh 4 (by decide) (by decide), hh 5 (by decide) (by decide)⟩⟩
  · have e : useL 12 = [] := rfl
    have e2 : useM 12 = 0 := rfl
    rw [e, e2, an0]
    simp only [decide_eq_true_eq]
    exact ⟨fun hh i hi hn => by
      match i, hi with
      | 0, _ => exact hh.1
      | 1, _ => exact hh.2.1
      | 2, _ => exact hh.2.2.1
      | 3, _ => exact hh.2.2.2.1
      | 4, _ => exact hh.2.2.2.2.1
      | 5, _ => exact hh.2.2.2.2.2, fun hh => ⟨hh 0 (by decide) (by decide), hh 1 (by decide) (by decide), hh 2 (by decide) (by decide), hh 3 (by decide) (by decide), hh 4 (by decide) (by decide), hh 5 (by decide) (by decide)⟩⟩
  · have e : useL 13 = [0] := rfl
    have e2 : useM 13 = 1 := rfl
    rw [e, e2, an1]
    simp only [decide_eq_true_eq]
    exact ⟨fun hh i hi hn => by
      match i, hi with
      | 0, _ => exact absurd (by decide) hn
      | 1, _ => exact hh.1
      | 2, _ => exact hh.2.1
      | 3, _ => exact hh.2.2.1
      | 4, _ => exact hh.2.2.2.1
      | 5, _ => exact hh.2.2.2.2, fun hh => ⟨hh 1 (by decide) (by decide), hh 2 (by decide) (by decide), hh 3 (by decide) (by decide), hh 4 (by decide) (by decide), hh 5 (by decide) (by decide)⟩⟩
  · have e : useL 14 = [] := rfl
    have e2 : useM 14 = 0 := rfl
    rw [e, e2, an0]
    simp only [decide_eq_true_eq]
    exact ⟨fun hh i hi hn => by
      match i, hi with
      | 0, _ => exact hh.1
      | 1, _ => exact hh.2.1
      | 2, _ => exact hh.2.2.1
      | 3, _ => exact hh.2.2.2.1
      | 4, _ => exact hh.2.2.2.2.1
      | 5, _ => exact hh.2.2.2.2.2, fun hh => ⟨hh 0 (by decide) (by decide), hh 1 (by decide) (by decide), hh 2 (by decide) (by decide), hh 3 (by decide) (by decide), hh 4 (by decide) (by decide), hh 5 (by decide) (by decide)⟩⟩
  · have e : useL 15 = [] := rfl
    have e2 : useM 15 = 0 := rfl
    rw [e, e2, an0]
    simp only [decide_eq_true_eq]
    exact ⟨fun hh i hi hn => by
      match i, hi with
      | 0, _ => exact hh.1
      | 1, _ => exact hh.2.1
      | 2, _ => exact hh.2.2.1
      | 3, _ => exact hh.2.2.2.1
      | 4, _ => exact hh.2.2.2.2.1
      | 5, _ => exact hh.2.2.2.2.2, fun hh => ⟨hh 0 (by decide) (by decide), hh 1 (by decide) (by decide), hh 2 (by decide) (by decide), hh 3 (by decide) (by decide), hh 4 (by decide) (by decide), hh 5 (by decide) (by decide)⟩⟩
  · omega
def SaysF (x : OpT) (h : H) (v : AV) (h' : H) : Prop := (∃ b : Bool, v = .bool b ∧ (b = true ↔ formed x)) ∧ StepN h h'
theorem w18 (P : Program) {call : CallE} (h30 : ∀ h (x : OpT), ∃ v h', call 30 [.agg (opC x)] h = some (v, h') ∧ (v = .int .i64 (maskN x 6) ∧ StepN h h')) (h31 : ∀ h (k : Int), call 31 [.int .u8 k] h = some (.int .i64 (useM k), h)) {h : H} {x : OpT} : WF P call c18 [.agg (opC x)] h (SaysF x h) := by
  by_cases h1 : 1 ≤ x.1
  case neg =>
    have e1 : x.1 < 1 := by omega
    simp only [go_sem, ↓reduceIte, ↓reduceDIte, zA, zM, zL, zE, zD, yA, yE, yL, yQ, yT, reduceCtorEq, c18, e1]
    exact ⟨⟨false, rfl, ⟨fun hh => (by cases hh), fun hh => absurd hh.1.1 h1⟩⟩, StepN.new _ _⟩
  by_cases h2 : x.1 ≤ 15
  case neg =>
    have e1 : ¬ x.1 < 1 := by omega
    have e2 : 15 < x.1 := by omega
    simp only [go_sem, ↓reduceIte, ↓reduceDIte, zA, zM, zL, zE, zD, yA, yE, yL, yQ, yT, reduceCtorEq, c18, e1, e2]
    exact ⟨⟨false, rfl, ⟨fun hh => (by cases hh), fun hh => absurd hh.1.2 h2⟩⟩, StepN.new _ _⟩
  have e1 : ¬ x.1 < 1 := by omega
  have e2 : ¬ 15 < x.1 := by omega
  simp only [go_sem, ↓reduceIte, ↓reduceDIte, zA, zM, zL, zE, zD, yA, yE, yL, yQ, yT, reduceCtorEq, c18, e1, e2]
  refine opt_by (h30 _ x) fun v1 h3 p1 => ?_
  obtain ⟨rfl, st1⟩ := p1
  have le1 : h.next + 1 ≤ h3.next := st1.next
  have g1 := st1.old h.next (Nat.lt_succ_self _)
  simp only [go_sem, ↓reduceIte, ↓reduceDIte, zA, zM, zL, zE, zD, yA, yE, yL, yQ, yT, reduceCtorEq] at g1
  have hc := h31 h3 x.1
  simp only [go_sem, ↓reduceIte, ↓reduceDIte, zA, zM, zL, zE, zD, yA, yE, yL, yQ, yT, reduceCtorEq, le1, g1, hc]
  exact ⟨⟨_, rfl, by rw [decide_eq_true_iff, formed_iff x ⟨h1, h2⟩]; exact ⟨fun hh => ⟨⟨h1, h2⟩, hh⟩, fun hh => hh.2⟩⟩, (StepN.new _ _).trans st1⟩
end
end Go.Proofs.YtiokmoepojdfmaaDoor
