/-
  Fields, mask, runs and bytes: the references.
-/
import Derived.Test.YtnmlfhogolonoaaSoRb
set_option linter.unusedVariables false
set_option linter.unusedSimpArgs false
namespace Go.Proofs.Ytnmlfhogolonoaa
open Go.Proofs.Ytnmlfhogolonoaa.Eo
open Nat renaming reduceAdd → zA, reduceMul → zM, reduceLT → zL, reduceEqDiff → zE, reduceLeDiff → zD
open Int renaming reduceAdd → yA, reduceLE → yE, reduceLT → yL, reduceEq → yQ, reduceToNat → yT
noncomputable section
/-! 56: leapfrog/leapfrogref38.Fields -/
@[go_sem] def c56_s0 : List SQ := [⟨some 1, none, .n (.box 45 (.t 0))⟩, ⟨some 2, none, .p (.mv (.c .nils))⟩]
@[go_sem] def c56_s1 : List SQ := [⟨some 3, none, .p (.fadr 1 (.t 1))⟩, ⟨some 4, none, .r (.ld none (.t 3))⟩, ⟨some 5, none, .p (.fadr 2 (.t 1))⟩, ⟨some 6, none, .r (.ld none (.t 5))⟩, ⟨some 7, none, .p (.fadr 3 (.t 1))⟩, ⟨some 8, none, .r (.ld none (.t 7))⟩, ⟨some 9, none, .p (.fadr 4 (.t 1))⟩, ⟨some 10, none, .r (.ld none (.t 9))⟩, ⟨some 11, none, .p (.fadr 5 (.t 1))⟩, ⟨some 12, none, .r (.ld none (.t 11))⟩, ⟨some 13, none, .p (.fadr 6 (.t 1))⟩, ⟨some 14, none, .r (.ld none (.t 13))⟩, ⟨some 15, none, .n (.buildS 43 1 6 [.int .u64 0, .int .u64 0, .int .u64 0, .int .u64 0, .int .u64 0, .int .u64 0] [(0, 1, (.t 4)), (1, 1, (.t 6)), (2, 1, (.t 8)), (3, 1, (.t 10)), (4, 1, (.t 12)), (5, 1, (.t 14))])⟩, ⟨some 2, none, .p (.mv (.t 15))⟩]
@[go_sem] def c56 : CF := ⟨1, (.seq (.ops c56_s0) (.seq (.ops c56_s1) .ret)), [.tmp 2]⟩
theorem c56_eq : cCF Try.prog 56 1 = some c56 := by kernel_rfl
/-! 55: leapfrog/leapfrogref38.Mask -/
@[go_sem] def c55_s0 : List SQ := [⟨some 1, none, .n (.box 45 (.t 0))⟩, ⟨some 2, none, .p (.mv (.c (.int .i64 0)))⟩]
@[go_sem] def c55_s1 : List SQ := [⟨some 3, none, .p (.mv (.c (.int .i64 0)))⟩]
@[go_sem] def c55_s2 : List SQ := [⟨some 6, none, .r (.ld (some 7) (.t 1))⟩, ⟨some 7, none, .cv (.c (.fn (.func 56) [] [])) [(.t 6)]⟩, ⟨some 4, none, .p (.mv (.t 7))⟩]
@[go_sem] def c55_s3 : List SQ := [⟨some 5, none, .p (.mv (.c (.int .i64 0)))⟩]
@[go_sem] def c55_s4 : List SQ := [⟨some 8, none, .p (.mv (.t 5))⟩, ⟨some 9, none, .p (.mv (.t 4))⟩, ⟨some 10, none, .p (.lenv (.t 9))⟩, ⟨some 11, none, .p (.bin .lss 3 false false (.t 8) (.t 10))⟩]
@[go_sem] def c55_s5 : List SQ := [⟨some 14, none, .p (.mv (.t 4))⟩, ⟨some 15, none, .p (.mv (.t 5))⟩, ⟨some 16, none, .p (.iadrS 1 (.t 14) (.t 15))⟩, ⟨some 17, none, .r (.ld none (.t 16))⟩, ⟨some 18, none, .p (.bin .neq 43 false true (.t 17) (.c (.int .u64 0)))⟩]
@[go_sem] def c55_s6 : List SQ := [⟨some 19, none, .p (.mv (.t 3))⟩, ⟨some 20, none, .p (.mv (.t 5))⟩, ⟨some 21, none, .p (.conv .u64 (.t 20))⟩, ⟨some 22, none, .p (.bin .shl 3 true false (.c (.int .i64 1)) (.t 21))⟩, ⟨some 23, none, .p (.bin .add 3 false false (.t 19) (.t 22))⟩, ⟨some 3, none, .p (.mv (.t 23))⟩]
@[go_sem] def c55_s7 : List SQ := [⟨some 12, none, .p (.mv (.t 5))⟩, ⟨some 13, none, .p (.bin .add 3 false true (.t 12) (.c (.int .i64 1)))⟩, ⟨some 5, none, .p (.mv (.t 13))⟩]
def c55_l8 : CC := (.seq (.seq (.ops c55_s4) (.cond (.t 11) .skip (.exit 0))) (.seq (.block 1 (.seq (.ops c55_s5) (.cond (.t 18) (.ops c55_s6) .skip))) (.ops c55_s7)))
@[go_sem] def c55_s9 : List SQ := [⟨some 24, none, .p (.mv (.t 3))⟩, ⟨some 2, none, .p (.mv (.t 24))⟩]
@[go_sem] def c55 : CF := ⟨1, (.seq (.ops c55_s0) (.seq (.ops c55_s1) (.seq (.ops c55_s2) (.seq (.seq (.ops c55_s3) (.block 0 (.loop c55_l8))) (.seq (.ops c55_s9) .ret))))), [.tmp 2]⟩
theorem c55_eq : cCF Try.prog 55 1 = some c55 := by kernel_rfl
/-! 57: leapfrog/leapfrogref43.Runs -/
@[go_sem] def c57_s0 : List SQ := [⟨some 2, none, .p (.mv (.c .nils))⟩]
@[go_sem] def c57_s1 : List SQ := [⟨some 3, none, .p (.mv (.c .nils))⟩]
@[go_sem] def c57_s2 : List SQ := [⟨some 4, none, .p (.mv (.c (.int .i64 0)))⟩]
@[go_sem] def c57_s3 : List SQ := [⟨some 6, none, .p (.mv (.t 4))⟩, ⟨some 7, none, .p (.mv (.t 0))⟩, ⟨some 8, none, .p (.lenv (.t 7))⟩, ⟨some 9, none, .p (.bin .lss 3 false false (.t 6) (.t 8))⟩]
@[go_sem] def c57_s4 : List SQ := [⟨some 12, none, .p (.mv (.t 3))⟩, ⟨some 13, none, .p (.lenv (.t 12))⟩, ⟨some 5, none, .p (.mv (.t 13))⟩]
@[go_sem] def c57_p5 : List (List DQ × Option DQ) := [([⟨0, [(5, none)], none, .p (.mv (.t 5))⟩, ⟨1, [(14, (some 0))], none, .p (.bin .gtr 3 false true (.t 14) (.c (.int .i64 0)))⟩, ⟨2, [(15, (some 1))], none, .p (.mv (.t 15))⟩, ⟨3, [(16, (some 2)), (3, none)], some (16, true), .p (.mv (.t 3))⟩, ⟨4, [(16, (some 2)), (5, none)], some (16, true), .p (.mv (.t 5))⟩, ⟨5, [(16, (some 2)), (18, (some 4))], some (16, true), .p (.bin .sub 3 false true (.t 18) (.c (.int .i64 1)))⟩, ⟨6, [(16, (some 2)), (17, (some 3)), (19, (some 5))], some (16, true), .p (.iadrS 2 (.t 17) (.t 19))⟩, ⟨7, [(16, (some 2)), (20, (some 6))], some (16, true), .p (.fadr 0 (.t 20))⟩, ⟨8, [(16, (some 2)), (21, (some 7))], some (16, true), .r (.ld none (.t 21))⟩, ⟨9, [(16, (some 2)), (0, none)], some (16, true), .p (.mv (.t 0))⟩, ⟨10, [(16, (some 2)), (4, none)], some (16, true), .p (.mv (.t 4))⟩, ⟨11, [(16, (some 2)), (23, (some 9)), (24, (some 10))], some (16, true), .p (.iadrS 1 (.t 23) (.t 24))⟩, ⟨12, [(16, (some 2)), (25, (some 11))], some (16, true), .r (.ld none (.t 25))⟩, ⟨13, [(16, (some 2)), (22, (some 8)), (26, (some 12))], some (16, true), .p (.bin .eql 3 false false (.t 22) (.t 26))⟩, ⟨14, [(16, (some 2)), (27, (some 13))], none, .p (.pick (.t 16) (.t 27) (.c (.bool false)))⟩], none)]
@[go_sem] def c57_s6 : List SQ := [⟨some 29, none, .p (.mv (.t 3))⟩, ⟨some 30, none, .p (.mv (.t 5))⟩, ⟨some 31, none, .p (.bin .sub 3 false true (.t 30) (.c (.int .i64 1)))⟩, ⟨some 32, none, .p (.iadrS 2 (.t 29) (.t 31))⟩, ⟨some 33, none, .p (.fadr 1 (.t 32))⟩, ⟨some 34, none, .r (.ld none (.t 33))⟩, ⟨some 35, none, .p (.bin .add 3 false true (.t 34) (.c (.int .i64 1)))⟩, ⟨some 36, none, .p (.iadrS 2 (.t 29) (.t 31))⟩, ⟨some 37, none, .p (.fadr 1 (.t 36))⟩, ⟨none, none, .e (.st 1 (.t 37) (.t 35))⟩]
@[go_sem] def c57_s7 : List SQ := [⟨some 38, none, .p (.mv (.t 3))⟩, ⟨some 39, none, .p (.mv (.t 0))⟩, ⟨some 40, none, .p (.mv (.t 4))⟩, ⟨some 41, none, .p (.iadrS 1 (.t 39) (.t 40))⟩, ⟨some 42, none, .r (.ld none (.t 41))⟩, ⟨some 43, none, .p (.build [.int .i64 0, .int .i64 0] [(0, 1, (.t 42)), (1, 1, (.c (.int .i64 1)))])⟩, ⟨some 44, none, .n (.buildS 98 2 1 [.int .i64 0, .int .i64 0] [(0, 2, (.t 43))])⟩, ⟨some 45, none, .e (.app 98 2 16 (.t 38) (.t 44))⟩, ⟨some 3, none, .p (.mv (.t 45))⟩]
@[go_sem] def c57_s8 : List SQ := [⟨some 10, none, .p (.mv (.t 4))⟩, ⟨some 11, none, .p (.bin .add 3 false true (.t 10) (.c (.int .i64 1)))⟩, ⟨some 4, none, .p (.mv (.t 11))⟩]
def c57_l9 : CC := (.seq (.seq (.ops c57_s3) (.cond (.t 9) .skip (.exit 0))) (.seq (.block 1 (.seq (.ops c57_s4) (.seq (.drw ⟨c57_p5, [(0, 14), (1, 15), (2, 16), (3, 17), (4, 18), (5, 19), (6, 20), (7, 21), (8, 22), (9, 23), (10, 24), (11, 25), (12, 26), (13, 27), (14, 28)], []⟩) (.cond (.t 28) (.ops c57_s6) (.ops c57_s7))))) (.ops c57_s8)))
@[go_sem] def c57_s10 : List SQ := [⟨some 46, none, .p (.mv (.t 3))⟩, ⟨some 2, none, .p (.mv (.t 46))⟩]
@[go_sem] def c57 : CF := ⟨1, (.seq (.ops c57_s0) (.seq (.ops c57_s1) (.seq (.seq (.ops c57_s2) (.block 0 (.loop c57_l9))) (.seq (.ops c57_s10) .ret)))), [.tmp 2]⟩
theorem c57_eq : cCF Try.prog 57 1 = some c57 := by kernel_rfl
/-! 32: leapfrog/leapfrogref43.Bytes -/
@[go_sem] def c32_s0 : List SQ := [⟨some 2, none, .p (.mv (.c (.str ⟨#[]⟩)))⟩]
@[go_sem] def c32_s1 : List SQ := [⟨some 3, none, .p (.mv (.c .nils))⟩]
@[go_sem] def c32_s2 : List SQ := [⟨some 4, none, .p (.mv (.c (.int .i64 0)))⟩]
@[go_sem] def c32_s3 : List SQ := [⟨some 6, none, .p (.mv (.t 4))⟩, ⟨some 7, none, .p (.mv (.t 0))⟩, ⟨some 8, none, .p (.lenv (.t 7))⟩, ⟨some 9, none, .p (.bin .lss 3 false false (.t 6) (.t 8))⟩]
@[go_sem] def c32_s4 : List SQ := [⟨some 12, none, .p (.mv (.t 0))⟩, ⟨some 13, none, .p (.mv (.t 4))⟩, ⟨some 14, none, .p (.iadrS 1 (.t 12) (.t 13))⟩, ⟨some 15, none, .r (.ld none (.t 14))⟩, ⟨some 5, none, .p (.mv (.t 15))⟩]
@[go_sem] def c32_s5 : List SQ := [⟨some 16, none, .p (.mv (.t 5))⟩, ⟨some 17, none, .p (.bin .geq 43 false true (.t 16) (.c (.int .u64 128)))⟩]
@[go_sem] def c32_s6 : List SQ := [⟨some 18, none, .p (.mv (.t 3))⟩, ⟨some 19, none, .p (.mv (.t 5))⟩, ⟨some 20, none, .p (.bin .rem 43 false true (.t 19) (.c (.int .u64 128)))⟩, ⟨some 21, none, .p (.bin .add 43 true false (.c (.int .u64 128)) (.t 20))⟩, ⟨some 22, none, .p (.conv .u8 (.t 21))⟩, ⟨some 23, none, .n (.buildS 5 1 1 [.int .u8 0] [(0, 1, (.t 22))])⟩, ⟨some 24, none, .e (.app 5 1 1 (.t 18) (.t 23))⟩, ⟨some 3, none, .p (.mv (.t 24))⟩]
@[go_sem] def c32_s7 : List SQ := [⟨some 25, none, .p (.mv (.t 5))⟩, ⟨some 26, none, .p (.bin .quo 43 false true (.t 25) (.c (.int .u64 128)))⟩, ⟨some 5, none, .p (.mv (.t 26))⟩]
def c32_l8 : CC := (.seq (.seq (.ops c32_s5) (.cond (.t 17) .skip (.exit 2))) (.block 3 (.seq (.ops c32_s6) (.ops c32_s7))))
@[go_sem] def c32_s9 : List SQ := [⟨some 27, none, .p (.mv (.t 3))⟩, ⟨some 28, none, .p (.mv (.t 5))⟩, ⟨some 29, none, .p (.conv .u8 (.t 28))⟩, ⟨some 30, none, .n (.buildS 5 1 1 [.int .u8 0] [(0, 1, (.t 29))])⟩, ⟨some 31, none, .e (.app 5 1 1 (.t 27) (.t 30))⟩, ⟨some 3, none, .p (.mv (.t 31))⟩]
@[go_sem] def c32_s10 : List SQ := [⟨some 10, none, .p (.mv (.t 4))⟩, ⟨some 11, none, .p (.bin .add 3 false true (.t 10) (.c (.int .i64 1)))⟩, ⟨some 4, none, .p (.mv (.t 11))⟩]
def c32_l11 : CC := (.seq (.seq (.ops c32_s3) (.cond (.t 9) .skip (.exit 0))) (.seq (.block 1 (.seq (.ops c32_s4) (.seq (.block 2 (.loop c32_l8)) (.ops c32_s9)))) (.ops c32_s10)))
@[go_sem] def c32_s12 : List SQ := [⟨some 32, none, .p (.mv (.t 3))⟩, ⟨some 33, none, .s (.b2s (.t 32))⟩, ⟨some 2, none, .p (.mv (.t 33))⟩]
@[go_sem] def c32 : CF := ⟨1, (.seq (.ops c32_s0) (.seq (.ops c32_s1) (.seq (.seq (.ops c32_s2) (.block 0 (.loop c32_l11))) (.seq (.ops c32_s12) .ret)))), [.tmp 2]⟩
theorem c32_eq : cCF Try.prog 32 1 = some c32 := by kernel_rfl

def fldL (x : OpT) : List Int := [fld x 0, fld x 1, fld x 2, fld x 3, fld x 4, fld x 5]
structure Post56 (x : OpT) (h : H) (v : AV) (h' : H) : Prop where
  st : StepN h h'
  rd : RdL none 1 h' v ((fldL x).map fun x : Int => AV.int .u64 x)
  own : ∀ b, own v = some b → h.next ≤ b ∧ b < h'.next
theorem w56 (P : Program) {call : CallE} {h : H} {x : OpT} : WF P call c56 [.agg (opC x)] h (Post56 x h) := by
  simp only [go_sem, ↓reduceIte, ↓reduceDIte, zA, zM, zL, zE, zD, yA, yE, yL, yQ, yT, reduceCtorEq, c56, opC]
  refine ⟨(StepN.new h _).trans (StepN.new _ _), .inr ⟨h.next + 1, 0, some 6, rfl, by show 6 ≤ _; decide, fun i y hi => ?_⟩, fun b hb => by simp only [own, Option.some.injEq] at hb; exact ⟨by omega, by show b < h.next + 2; omega⟩⟩
  rw [rLdA, Nat.mul_one, Nat.zero_add]
  simp only [go_sem, ↓reduceIte, ↓reduceDIte, zA, zM, zL, zE, zD, yA, yE, yL, yQ, yT, reduceCtorEq]
  exact hi
def F56 (call : CallE) : Prop := ∀ h x, ∃ v h', call 56 [.agg (opC x)] h = some (v, h') ∧ Post56 x h v h'
def I55 (h0 : H) (x : OpT) (v : AV) (k : Nat) (tm : T AV) (h : H) : Prop :=
  h = h0 ∧ tm.get 4 = some v ∧ ∃ i : Nat, i + k = 6 ∧ tm.get 5 = some (.int .i64 (i : Int)) ∧ tm.get 3 = some (.int .i64 (mk x i))
theorem fldL_get (x : OpT) : ∀ i, i < 6 → (fldL x)[i]? = some (fld x i)
  | 0, _ => rfl
  | 1, _ => rfl
  | 2, _ => rfl
  | 3, _ => rfl
  | 4, _ => rfl
  | 5, _ => rfl
  | n + 6, h => by omega
theorem step55 (P : Program) {call : CallE} {h0 : H} {x : OpT} {v : AV} (hv : RdL none 1 h0 v ((fldL x).map fun x : Int => AV.int .u64 x)) (k : Nat) (tm : T AV) (h : H) (hI : I55 h0 x v k tm h) :
    WC P call c55_l8 (loopQ 0 (fun tm h => ∃ j, j < k ∧ I55 h0 x v j tm h) (fun tm h => h = h0 ∧ tm.get 3 = some (.int .i64 (mk x 6))) (fun _ _ => False)) tm h := by
  obtain ⟨rfl, t4, i, hik, t5, t3⟩ := hI
  have vl := hv.lenA
  rw [List.length_map] at vl
  have hl6 : ((fldL x).length : Int) = 6 := rfl
  rw [hl6] at vl
  cases k with
  | zero =>
    have e1 : ¬ (i : Int) < 6 := by omega
    obtain rfl : i = 6 := by omega
    simp only [go_sem, ↓reduceIte, ↓reduceDIte, zA, zM, zL, zE, zD, yA, yE, yL, yQ, yT, reduceCtorEq, c55_l8, t4, t5, vl, e1, t3]
  | succ k =>
    have e1 : (i : Int) < 6 := by omega
    rcases id hv with ⟨_, hh⟩ | ⟨b, o, cap, rfl, _, ra⟩
    · cases hh
    have ha := ra i (.int .u64 (fld x i)) (by rw [List.getElem?_map, fldL_get x i (by omega)]; rfl)
    rw [rLdA, Nat.mul_one] at ha
    have e5 : (i : Int) < ((List.map (fun x : Int => AV.int .u64 x) (fldL x)).length : Int) := by rw [List.length_map, hl6]; exact e1
    have f1 : fw .i64 ((i : Int) + 1) = (i : Int) + 1 := fwI (by omega) (by omega)
    have f2 : fw .u64 (i : Int) = (i : Int) := fwU (by omega) (by omega)
    have e3 : ((i + 1 : Nat) : Int) = (i : Int) + 1 := rfl
    have e6 : ¬ (i : Int) < 0 := by omega
    have k7 : min i 64 = i := by omega
    obtain ⟨m1, m2⟩ := mk_bound x i
    have hp : (2 : Int) ^ i ≤ 32 := by
      have h1 : (2 : Nat) ^ i ≤ 2 ^ 5 := Nat.pow_le_pow_right (by decide) (by omega)
      have h2 : ((2 : Int) ^ i) = ((2 ^ i : Nat) : Int) := by push_cast; rfl
      rw [h2]
      have h3 : (2 : Nat) ^ 5 = 32 := rfl
      omega
    have f3 : fw .i64 (1 * 2 ^ i) = 2 ^ i := by rw [Int.one_mul]; exact fwI (by omega) (by omega)
    have f3' : fw .i64 (2 ^ i) = 2 ^ i := fwI (by omega) (by omega)
    have f4 : fw .i64 (mk x i + 2 ^ i) = mk x i + 2 ^ i := fwI (by omega) (by omega)
    by_cases h0 : fld x i = 0
    · simp only [go_sem, ↓reduceIte, ↓reduceDIte, zA, zM, zL, zE, zD, yA, yE, yL, yQ, yT, reduceCtorEq, c55_l8, t4, t5, vl, e1, e5, Nat.mul_one, ha, h0, f1]
      exact ⟨k, Nat.lt_succ_self k, rfl, by simp [go_sem, t4], i + 1, by omega, by simp [go_sem, e3], by simp only [go_sem, ↓reduceIte, ↓reduceDIte, zA, zM, zL, zE, zD, yA, yE, yL, yQ, yT, reduceCtorEq, t3]; rw [mk, if_pos h0]⟩
    · simp only [go_sem, ↓reduceIte, ↓reduceDIte, zA, zM, zL, zE, zD, yA, yE, yL, yQ, yT, reduceCtorEq, c55_l8, t3, t4, t5, vl, e1, e5, e6, Nat.mul_one, ha, h0, f1, f2, f3, f3', f4, k7, Int.toNat_natCast, Int.one_mul]
      exact ⟨k, Nat.lt_succ_self k, rfl, by simp [go_sem, t4], i + 1, by omega, by simp [go_sem, e3], by simp only [go_sem, ↓reduceIte, ↓reduceDIte, zA, zM, zL, zE, zD, yA, yE, yL, yQ, yT, reduceCtorEq]; rw [mk, if_neg h0]⟩
theorem w55 (P : Program) {call : CallE} (h56 : F56 call) {h : H} {x : OpT} : WF P call c55 [.agg (opC x)] h fun v h' => v = .int .i64 (mk x 6) ∧ StepN h h' := by
  simp only [go_sem, ↓reduceIte, ↓reduceDIte, zA, zM, zL, zE, zD, yA, yE, yL, yQ, yT, reduceCtorEq, c55]
  refine opt_by (h56 _ x) fun v1 h1 p1 => ?_
  obtain ⟨st1, rd, ow⟩ := p1
  simp only [go_sem, ↓reduceIte, ↓reduceDIte, zA, zM, zL, zE, zD, yA, yE, yL, yQ, yT, reduceCtorEq]
  refine loop_in (I55 h1 x v1) _ _ (fun k tm h'' hI => step55 P rd k tm h'' hI) (fun tm2 h2 hR => ?_) (fun _ _ hh => hh.elim) 6 _ _
    ⟨rfl, by simp [go_sem], 0, rfl, by simp [go_sem], by simp only [go_sem, ↓reduceIte, ↓reduceDIte, zA, zM, zL, zE, zD, yA, yE, yL, yQ, yT, reduceCtorEq]; rfl⟩
  obtain ⟨rfl, t3⟩ := hR
  simp only [go_sem, ↓reduceIte, ↓reduceDIte, zA, zM, zL, zE, zD, yA, yE, yL, yQ, yT, reduceCtorEq, t3]
  exact (StepN.new h _).trans st1
def I57 (h0 : H) (v : AV) (l : List Int) (k : Nat) (tm : T AV) (h : H) : Prop :=
  StepN h0 h ∧ ∃ (i : Nat) (w : AV) (r : List (Int × Int)), i + k = l.length ∧ tm.get 0 = some v ∧ tm.get 4 = some (.int .i64 (i : Int)) ∧ tm.get 3 = some w ∧ Own 2 98 h w r.length (runC r.reverse) ∧ (∀ a, own w = some a → h0.next ≤ a) ∧ r.length ≤ i ∧ runsF l = (runR r (l.drop i)).reverse ∧
    (r = [] ∨ ∃ y n t, r = (y, n) :: t ∧ 1 ≤ n ∧ n ≤ i)
theorem step57 (P : Program) {call : CallE} {h0 : H} {v : AV} {l : List Int} (hl : l.length ≤ 65536) (hv : RdL none 1 h0 v (l.map fun x : Int => AV.int .i64 x)) (hvl : ∀ a, own v = some a → a < h0.next) (k : Nat) (tm : T AV) (h : H) (hI : I57 h0 v l k tm h) :
    WC P call c57_l9 (loopQ 0 (fun tm h => ∃ j, j < k ∧ I57 h0 v l j tm h) (fun tm h => StepN h0 h ∧ ∃ w, tm.get 3 = some w ∧ Own 2 98 h w (runsF l).length (runC (runsF l)) ∧ ∀ a, own w = some a → h0.next ≤ a) (fun _ _ => False)) tm h := by
  obtain ⟨st, i, w, r, hik, t0, t4, t3, ow, hw, hri, hrun, hlast⟩ := hI
  have hv' := hv.keep (h' := h) fun b hb => st.old b (hvl b hb)
  have wl := ow.lenA
  have vl := hv.lenA
  rw [List.length_map] at vl
  cases k with
  | zero =>
    have e1 : ¬ (i : Int) < (l.length : Int) := by omega
    simp only [go_sem, ↓reduceIte, ↓reduceDIte, zA, zM, zL, zE, zD, yA, yE, yL, yQ, yT, reduceCtorEq, c57_l9, t0, t3, t4, vl, e1]
    rw [hrun, List.drop_eq_nil_of_le (by omega)]
    exact ⟨st, w, rfl, by rw [List.length_reverse]; exact ow, hw⟩
  | succ k =>
    have e1 : (i : Int) < (l.length : Int) := by omega
    have hi : i < l.length := by omega
    rcases id hv' with ⟨_, hh⟩ | ⟨a', o, cap, rfl, _, ra⟩
    · rw [List.map_eq_nil_iff] at hh; subst hh; simp at hi
    have ha := ra i (.int .i64 l[i]) (by simp [hi])
    rw [rLdA, Nat.mul_one] at ha
    have t0' := t0
    rw [List.length_map] at t0' vl
    have f1 : fw .i64 ((i : Int) + 1) = (i : Int) + 1 := fwI (by omega) (by omega)
    have e3 : ((i + 1 : Nat) : Int) = (i : Int) + 1 := rfl
    rw [List.drop_eq_getElem_cons hi, runR] at hrun
    have hgrow : r.length ≤ 65536 := by omega
    have ov1 := ow.keep (h' := ⟨h.next + 1, h.t.set h.next (.row (putList 0 [.int .i64 l[i], .int .i64 1] T.e) 2 98)⟩) (Nat.le_succ _) (fun b hb => by
      have := ow.lt hb
      have e0 : ¬ b = h.next := by omega
      simp only [go_sem, ↓reduceIte, ↓reduceDIte, zA, zM, zL, zE, zD, yA, yE, yL, yQ, yT, reduceCtorEq, e0])
    have ov2 := own_app (src := [.int .i64 l[i], .int .i64 1]) ov1 (n := 1) (by decide) rfl
    obtain rfl | ⟨y, n, t, rfl, hn1, hn2⟩ := hlast
    · have wl0 : lenA w = some (.int .i64 0) := wl
      simp only [go_sem, ↓reduceIte, ↓reduceDIte, zA, zM, zL, zE, zD, yA, yE, yL, yQ, yT, reduceCtorEq, c57_l9, t0', t3, t4, vl, wl0, e1, Nat.mul_one, ha]
      refine opt_some (appA_own ov1 (by decide) (by decide) (by simp) (by simp)) ?_
      simp only [go_sem, ↓reduceIte, ↓reduceDIte, zA, zM, zL, zE, zD, yA, yE, yL, yQ, yT, reduceCtorEq, t4, f1]
      exact ⟨k, Nat.lt_succ_self k, st.app _ hw _ _, i + 1, _, [(l[i], 1)], by omega, by simp [go_sem, t0], by simp [go_sem, e3], by simp [go_sem], ov2, appV_own (Nat.le_succ_of_le st.next), by simp, hrun, .inr ⟨l[i], 1, [], rfl, Int.le_refl _, by omega⟩⟩
    · have hgt : t.length ≤ 65535 := by have := hgrow; rw [List.length_cons] at this; omega
      generalize hlen : ((y, n) :: t).length = len at ow wl ov1 ov2
      generalize hcs : runC ((y, n) :: t).reverse = cs at ow ov1 ov2
      have hlen' := hlen
      rw [List.length_cons] at hlen'
      subst hlen'
      rw [List.reverse_cons, runC_snoc] at hcs
      have hcl2 := runC_len t.reverse
      rw [List.length_reverse] at hcl2
      have f3 : fw .i64 (((t.length + 1 : Nat) : Int) - 1) = (t.length : Int) := by rw [show ((t.length + 1 : Nat) : Int) - 1 = (t.length : Int) by omega]; exact fwI (by omega) (by omega)
      have e5 : (t.length : Int) < ((t.length + 1 : Nat) : Int) := by omega
      have e7 : (0 : Int) < ((t.length + 1 : Nat) : Int) := by omega
      have hcslen : cs.length = t.length * 2 + 2 := by rw [← hcs, List.length_append, hcl2]; rfl
      have ow' := ow
      generalize hg0 : t.length + 1 = len at ow'
      cases ow' with
      | nil => cases hg0
      | sl a len cs cap' hc h0 hcl hlt hg =>
      subst hg0
      have c0 : cs[t.length * 2]? = some (AV.int .i64 y) := by rw [← hcs, List.getElem?_append_right (by omega), hcl2]; simp
      have e6 : t.length * 2 + 2 ≤ cs.length := by omega
      have e8 : t.length * 2 ≤ cs.length := by omega
      by_cases hx : y = l[i]
      · subst hx
        subst hcs
        have c1 : (runC t.reverse ++ [AV.int .i64 l[i], AV.int .i64 n])[t.length * 2 + 1]? = some (AV.int .i64 n) := by rw [List.getElem?_append_right (by omega), hcl2]; simp
        have c2 : ∀ x, (runC t.reverse ++ [AV.int .i64 l[i], AV.int .i64 n]).set (t.length * 2 + 1) x = runC t.reverse ++ [AV.int .i64 l[i], x] := fun x => by rw [List.set_append_right (h := by omega), hcl2]; simp
        have c3 : ∀ x, putList (t.length * 2 + 1) [x] (putList 0 (runC t.reverse ++ [AV.int .i64 l[i], AV.int .i64 n]) T.e) = putList 0 (runC t.reverse ++ [AV.int .i64 l[i], x]) T.e := fun x => by rw [rowPut1 _ _ _ (by rw [List.length_append, hcl2]; simp), c2]
        have fn : fw .i64 (n + 1) = n + 1 := fwI (by omega) (by omega)
        have e6 : t.length * 2 ≤ (runC t.reverse).length := by omega
        simp only [go_sem, ↓reduceIte, ↓reduceDIte, zA, zM, zL, zE, zD, yA, yE, yL, yQ, yT, reduceCtorEq, c57_l9, t0', t3, t4, vl, wl, e1, Nat.mul_one, ha, hg, c0, c1, c3, f3, e5, e6, e7, fn, f1]
        have hpush : pushR ((l[i], n) :: t) l[i] = (l[i], n + 1) :: t := by rw [pushR, if_pos rfl]
        rw [hpush] at hrun
        have hwa := hw a rfl
        refine ⟨k, Nat.lt_succ_self k, ⟨st.next, fun b hb => ?_⟩, i + 1, _, (l[i], n + 1) :: t, by omega, by simp [go_sem, t0], by simp [go_sem, e3], by simp [go_sem, t3], ?_, hw, ?_, hrun, .inr ⟨l[i], n + 1, t, rfl, by omega, by omega⟩⟩
        · have e0 : ¬ b = a := by omega
          rw [← st.old b hb]
          simp only [go_sem, ↓reduceIte, ↓reduceDIte, zA, zM, zL, zE, zD, yA, yE, yL, yQ, yT, reduceCtorEq, e0]
        · rw [List.reverse_cons, runC_snoc]
          refine .sl a _ _ cap' hc (Nat.succ_pos _) (by rw [List.length_append, hcl2, List.length_cons]; simp; omega) hlt ?_
          simp only [go_sem, ↓reduceIte, ↓reduceDIte, zA, zM, zL, zE, zD, yA, yE, yL, yQ, yT, reduceCtorEq]
          simp only [rowL, List.length_append, List.length_cons, List.length_nil]
        · rw [List.length_cons] at hri ⊢
          omega
      · simp only [go_sem, ↓reduceIte, ↓reduceDIte, zA, zM, zL, zE, zD, yA, yE, yL, yQ, yT, reduceCtorEq, c57_l9, t0', t3, t4, vl, wl, e1, Nat.mul_one, ha, hg, c0, f3, e5, e7, hx]
        refine opt_some (appA_own ov1 (by decide) (by decide) (by omega) (by omega)) ?_
        simp only [go_sem, ↓reduceIte, ↓reduceDIte, zA, zM, zL, zE, zD, yA, yE, yL, yQ, yT, reduceCtorEq, t4, f1]
        have hpush : pushR ((y, n) :: t) l[i] = (l[i], 1) :: (y, n) :: t := by rw [pushR, if_neg hx]
        rw [hpush] at hrun
        have hcs2 : cs ++ [.int .i64 l[i], .int .i64 1] = runC ((l[i], 1) :: (y, n) :: t).reverse := by rw [List.reverse_cons, runC_snoc, List.reverse_cons, runC_snoc, hcs]
        refine ⟨k, Nat.lt_succ_self k, st.app _ hw _ _, i + 1, appV ⟨h.next + 1, h.t.set h.next (.row (putList 0 [.int .i64 l[i], .int .i64 1] T.e) 2 98)⟩ 2 (t.length + 1 + 1), (l[i], 1) :: (y, n) :: t, by omega, by simp [go_sem, t0], by simp [go_sem, e3], by simp [go_sem], ?_, appV_own (Nat.le_succ_of_le st.next), Nat.succ_le_succ hri, hrun, .inr ⟨l[i], 1, (y, n) :: t, rfl, Int.le_refl _, by omega⟩⟩
        rw [← hcs2]
        exact ov2
def Post57 (l : List Int) (h : H) (v : AV) (h' : H) : Prop := StepN h h' ∧ Own 2 98 h' v (runsF l).length (runC (runsF l)) ∧ ∀ a, own v = some a → h.next ≤ a
theorem w57 (P : Program) {call : CallE} {h : H} {v : AV} {l : List Int} (hl : l.length ≤ 65536) (hv : RdL none 1 h v (l.map fun x : Int => AV.int .i64 x)) (hvl : ∀ a, own v = some a → a < h.next) : WF P call c57 [v] h (Post57 l h) := by
  have ov := hv.one
  simp only [go_sem, ↓reduceIte, ↓reduceDIte, zA, zM, zL, zE, zD, yA, yE, yL, yQ, yT, reduceCtorEq, c57, ov]
  refine loop_in (I57 h v l) _ _ (fun k tm h'' hI => step57 P hl hv hvl k tm h'' hI) (fun tm2 h2 hR => ?_) (fun _ _ hh => hh.elim) l.length _ _
    ⟨⟨Nat.le_refl _, fun _ _ => rfl⟩, 0, .nils, [], by omega, by simp [go_sem], by simp [go_sem], by simp [go_sem], .nil, by intro a ha; simp [own] at ha, Nat.le_refl _, rfl, .inl rfl⟩
  obtain ⟨st, w, t3, ow, hw⟩ := hR
  simp only [go_sem, ↓reduceIte, ↓reduceDIte, zA, zM, zL, zE, zD, yA, yE, yL, yQ, yT, reduceCtorEq, t3]
  exact ⟨st, ow, hw⟩
/-- an append of n elements -/
theorem Grow.stepG {es n len : Nat} {e : TypeId} {h : H} {b : AV} {cs : List AV} (o : Own es e h b len cs) (x : AO) (src : List AV) : Grow h b (appT ⟨h.next + 1, h.t.set h.next x⟩ e b (cs ++ src)) (appV ⟨h.next + 1, h.t.set h.next x⟩ es (len + n)) := by
  refine ⟨by rw [app_next]; show h.next ≤ h.next + 1 + 1; omega, fun c hc ho => ?_, fun a ha => ?_⟩
  · rw [app_get (by show c < h.next + 1; omega) ho]
    have e0 : ¬ c = h.next := by omega
    simp only [go_sem, ↓reduceIte, ↓reduceDIte, zA, zM, zL, zE, zD, yA, yE, yL, yQ, yT, reduceCtorEq, e0]
  · rw [own_appV] at ha
    simp only [Option.some.injEq] at ha
    exact .inr (by omega)
/-- the inner loop of Bytes -/
def K32 (h0 : H) (b : AV) (bs : List Int) (n : Nat) (v0 : AV) (i : Int) (k : Nat) (tm : T AV) (h : H) : Prop :=
  tm.get 0 = some v0 ∧ tm.get 4 = some (.int .i64 i) ∧ ∃ (x : Nat) (ds : List Int) (v : AV), k = x ∧ x < 18446744073709551616 ∧ tm.get 3 = some v ∧ tm.get 5 = some (.int .u64 (x : Int)) ∧ PB h0 b ds h v ∧ ds ++ putB x = bs ++ putB n ∧ ds.length ≤ 1099511627776
def L32 (h0 : H) (b : AV) (bs : List Int) (n : Nat) (v0 : AV) (i : Int) (tm : T AV) (h : H) : Prop :=
  tm.get 0 = some v0 ∧ tm.get 4 = some (.int .i64 i) ∧ ∃ (x : Nat) (ds : List Int) (v : AV), x < 128 ∧ tm.get 3 = some v ∧ tm.get 5 = some (.int .u64 (x : Int)) ∧ PB h0 b ds h v ∧ ds ++ putB x = bs ++ putB n
theorem step32i (P : Program) {call : CallE} {h0 : H} {b : AV} {bs : List Int} {n : Nat} {v0 : AV} {i : Int} (hlen : (bs ++ putB n).length ≤ 1099511627776) (k : Nat) (tm : T AV) (h : H) (hI : K32 h0 b bs n v0 i k tm h) :
    WC P call c32_l8 (loopQ 2 (fun tm h => ∃ j, j < k ∧ K32 h0 b bs n v0 i j tm h) (L32 h0 b bs n v0 i) (fun _ _ => False)) tm h := by
  obtain ⟨t0, t4, x, ds, v, rfl, hx, t3, t5, pb, hb, hdl⟩ := hI
  by_cases e1 : k < 128
  · have e2 : (k : Int) < 128 := by omega
    simp only [go_sem, ↓reduceIte, ↓reduceDIte, zA, zM, zL, zE, zD, yA, yE, yL, yQ, yT, reduceCtorEq, c32_l8, t5, e2]
    exact ⟨by simp [go_sem, t0], by simp [go_sem, t4], k, ds, v, e1, by simp [go_sem, t3], by simp [go_sem, t5], pb, hb⟩
  · have e2 : ¬ (k : Int) < 128 := by omega
    have e3 : (k : Int).tmod 128 = ((k % 128 : Nat) : Int) := rfl
    have e4 : (k : Int).tdiv 128 = ((k / 128 : Nat) : Int) := rfl
    have f1 : fw .u64 (128 + ((k % 128 : Nat) : Int)) = 128 + ((k % 128 : Nat) : Int) := fwU (by omega) (by omega)
    have f2 : fw .u8 (128 + ((k % 128 : Nat) : Int)) = 128 + ((k % 128 : Nat) : Int) := fwB (by omega) (by omega)
    have f3 : fw .u64 ((k / 128 : Nat) : Int) = ((k / 128 : Nat) : Int) := fwU (by omega) (by omega)
    have hd2 : ds.length + (putB k).length ≤ 1099511627776 := by rw [← List.length_append, hb]; exact hlen
    have hpk : putB k = (128 + (k % 128 : Nat) : Int) :: putB (k / 128) := putB_ge e1
    have hp1 : (putB k).length = (putB (k / 128)).length + 1 := by rw [hpk, List.length_cons]
    have ov1 := pb.ow.keep (h' := ⟨h.next + 1, h.t.set h.next (.row (putList 0 [.int .u8 (128 + ((k % 128 : Nat) : Int))] T.e) 1 5)⟩) (Nat.le_succ _) (fun b hb => by
      have := pb.ow.lt hb
      have e0 : ¬ b = h.next := by omega
      simp only [go_sem, ↓reduceIte, ↓reduceDIte, zA, zM, zL, zE, zD, yA, yE, yL, yQ, yT, reduceCtorEq, e0])
    have ov2 := own_app (src := [.int .u8 (128 + ((k % 128 : Nat) : Int))]) ov1 (n := 1) (by decide) rfl
    have gr2 := Grow.stepG (n := 1) pb.ow (.row (putList 0 [.int .u8 (128 + ((k % 128 : Nat) : Int))] T.e) 1 5) [.int .u8 (128 + ((k % 128 : Nat) : Int))]
    simp only [go_sem, ↓reduceIte, ↓reduceDIte, zA, zM, zL, zE, zD, yA, yE, yL, yQ, yT, reduceCtorEq, c32_l8, t3, t5, e2, e3, f1, f2]
    refine opt_some (appA_own ov1 (by decide) (by decide) (by omega) (by omega)) ?_
    simp only [go_sem, ↓reduceIte, ↓reduceDIte, zA, zM, zL, zE, zD, yA, yE, yL, yQ, yT, reduceCtorEq, t5, e4, f3]
    refine ⟨k / 128, by omega, by simp [go_sem, t0], by simp [go_sem, t4], k / 128, ds ++ [128 + ((k % 128 : Nat) : Int)], _, rfl, by omega, by simp [go_sem], by simp [go_sem], ⟨?_, pb.gr.trans gr2⟩, ?_, ?_⟩
    · rw [List.length_append, byV_append]
      exact ov2
    · rw [List.append_assoc, ← hb, hpk]
      rfl
    · rw [List.length_append, List.length_cons, List.length_nil]
      omega
/-- the bytes of numbers -/
def bytesF (l : List Int) : List Int := l.flatMap pI
theorem bytesF_len {l : List Int} (h : ∀ x ∈ l, inU x) : (bytesF l).length ≤ 10 * l.length := by
  induction l with
  | nil => exact Nat.le_refl _
  | cons x l ih =>
    have h1 := ih fun y hy => h y (List.mem_cons_of_mem _ hy)
    have h2 := pI_len (h x (List.mem_cons_self ..)).2
    show (pI x ++ bytesF l).length ≤ _
    rw [List.length_append, List.length_cons]
    omega
def I32 (h0 : H) (v : AV) (l : List Int) (k : Nat) (tm : T AV) (h : H) : Prop :=
  tm.get 0 = some v ∧ ∃ (i : Nat) (w : AV) (ds : List Int), i + k = l.length ∧ tm.get 4 = some (.int .i64 (i : Int)) ∧ tm.get 3 = some w ∧ PB h0 .nils ds h w ∧ ds ++ bytesF (l.drop i) = bytesF l
theorem step32 (P : Program) {call : CallE} {h0 : H} {v : AV} {l : List Int} (hl : l.length ≤ 10000000) (hin : ∀ x ∈ l, inU x) (hv : RdL none 1 h0 v (l.map fun x : Int => AV.int .u64 x)) (hvl : ∀ a, own v = some a → a < h0.next) (k : Nat) (tm : T AV) (h : H) (hI : I32 h0 v l k tm h) :
    WC P call c32_l11 (loopQ 0 (fun tm h => ∃ j, j < k ∧ I32 h0 v l j tm h) (fun tm h => ∃ w, tm.get 3 = some w ∧ PB h0 .nils (bytesF l) h w) (fun _ _ => False)) tm h := by
  obtain ⟨t0, i, w, ds, hik, t4, t3, pb, hb⟩ := hI
  have vl := hv.lenA
  rw [List.length_map] at vl
  cases k with
  | zero =>
    have e1 : ¬ (i : Int) < (l.length : Int) := by omega
    simp only [go_sem, ↓reduceIte, ↓reduceDIte, zA, zM, zL, zE, zD, yA, yE, yL, yQ, yT, reduceCtorEq, c32_l11, t0, t3, t4, vl, e1]
    rw [List.drop_eq_nil_of_le (by omega)] at hb
    have hb2 : ds = bytesF l := by rw [← hb]; exact (List.append_nil ds).symm
    rw [← hb2]
    exact ⟨w, rfl, pb⟩
  | succ k =>
    have e1 : (i : Int) < (l.length : Int) := by omega
    have hi : i < l.length := by omega
    have hv' := hv.keep (h' := h) fun b hb => pb.gr.old b (hvl b hb) (by simp [own])
    rcases id hv' with ⟨_, hh⟩ | ⟨a', o, cap, rfl, _, ra⟩
    · rw [List.map_eq_nil_iff] at hh; subst hh; simp at hi
    have ha := ra i (.int .u64 l[i]) (by simp [hi])
    rw [rLdA, Nat.mul_one] at ha
    have t0' := t0
    rw [List.length_map] at t0' vl
    have f1 : fw .i64 ((i : Int) + 1) = (i : Int) + 1 := fwI (by omega) (by omega)
    have e3 : ((i + 1 : Nat) : Int) = (i : Int) + 1 := rfl
    obtain ⟨x1, x2⟩ := hin l[i] (List.getElem_mem hi)
    obtain ⟨n, hn⟩ : ∃ n : Nat, l[i] = n := ⟨l[i].toNat, by omega⟩
    have hpI : pI l[i] = putB n := by unfold pI; rw [hn]; rfl
    rw [List.drop_eq_getElem_cons hi] at hb
    have hb' : ds ++ (pI l[i] ++ bytesF (l.drop (i + 1))) = bytesF l := hb
    rw [hpI] at hb'
    have htot := bytesF_len hin
    have hdl : (ds ++ putB n).length ≤ 1099511627776 := by
      have := congrArg List.length hb'
      simp only [List.length_append] at this ⊢
      omega
    rw [hn] at ha
    simp only [go_sem, ↓reduceIte, ↓reduceDIte, zA, zM, zL, zE, zD, yA, yE, yL, yQ, yT, reduceCtorEq, c32_l11, t0', t4, vl, e1, Nat.mul_one, ha]
    refine loop_in (K32 h0 .nils ds n (.sl a' o (l.map fun x : Int => AV.int .u64 x).length 1 cap) (i : Int)) _ _ (fun k tm h hI => step32i P hdl k tm h hI) (fun tm2 h2 hR => ?_) (fun _ _ hh => hh.elim) n _ _
      ⟨by simp [go_sem, t0], by simp [go_sem, t4], n, ds, w, rfl, by omega, by simp [go_sem, t3], by simp [go_sem], pb, rfl, by rw [List.length_append] at hdl; omega⟩
    obtain ⟨u0, u4, x, cs, w2, hx, u3, u5, pb2, hb2⟩ := hR
    have f2 : fw .u8 (x : Int) = (x : Int) := fwB (by omega) (by omega)
    have hpx : putB x = [(x : Int)] := putB_lt hx
    rw [hpx] at hb2
    have ov1 := pb2.ow.keep (h' := ⟨h2.next + 1, h2.t.set h2.next (.row (putList 0 [.int .u8 (x : Int)] T.e) 1 5)⟩) (Nat.le_succ _) (fun b hb => by
      have := pb2.ow.lt hb
      have e0 : ¬ b = h2.next := by omega
      simp only [go_sem, ↓reduceIte, ↓reduceDIte, zA, zM, zL, zE, zD, yA, yE, yL, yQ, yT, reduceCtorEq, e0])
    have ov2 := own_app (src := [.int .u8 (x : Int)]) ov1 (n := 1) (by decide) rfl
    have gr2 := Grow.stepG (n := 1) pb2.ow (.row (putList 0 [.int .u8 (x : Int)] T.e) 1 5) [.int .u8 (x : Int)]
    have hcl : cs.length + 1 ≤ 1099511627776 := by
      have := congrArg List.length hb2
      simp only [List.length_append, List.length_cons, List.length_nil] at this hdl
      omega
    simp only [go_sem, ↓reduceIte, ↓reduceDIte, zA, zM, zL, zE, zD, yA, yE, yL, yQ, yT, reduceCtorEq, u3, u5, f2]
    refine opt_some (appA_own ov1 (by decide) (by decide) (by omega) (by omega)) ?_
    simp only [go_sem, ↓reduceIte, ↓reduceDIte, zA, zM, zL, zE, zD, yA, yE, yL, yQ, yT, reduceCtorEq, u4, f1]
    refine ⟨k, Nat.lt_succ_self k, by simp [go_sem, u0], i + 1, _, cs ++ [(x : Int)], by omega, by simp [go_sem, e3], by simp [go_sem], ⟨?_, pb2.gr.trans gr2⟩, ?_⟩
    · rw [List.length_append, byV_append]
      exact ov2
    · rw [← hb', ← List.append_assoc, ← hb2]
theorem w32 (P : Program) {call : CallE} {h : H} {v : AV} {l : List Int} (hl : l.length ≤ 10000000) (hin : ∀ x ∈ l, inU x) (hv : RdL none 1 h v (l.map fun x : Int => AV.int .u64 x)) (hvl : ∀ a, own v = some a → a < h.next) : WF P call c32 [v] h fun v' h' => v' = .str (strOf (bytesF l)) ∧ StepN h h' := by
  simp only [go_sem, ↓reduceIte, ↓reduceDIte, zA, zM, zL, zE, zD, yA, yE, yL, yQ, yT, reduceCtorEq, c32]
  refine loop_in (I32 h v l) _ _ (fun k tm h'' hI => step32 P hl hin hv hvl k tm h'' hI) (fun tm2 h2 hR => ?_) (fun _ _ hh => hh.elim) l.length _ _
    ⟨by simp [go_sem], 0, .nils, [], by omega, by simp [go_sem], by simp [go_sem], ⟨.nil, Grow.refl _ _⟩, rfl⟩
  obtain ⟨w, t3, pb⟩ := hR
  have hb2 : evS (tm2.set 32 w) h2.t.get (.b2s (.t 32)) = some (.str (strOf (bytesF l))) := b2s_own pb.ow (by simp [go_sem])
  simp only [go_sem, ↓reduceIte, ↓reduceDIte, zA, zM, zL, zE, zD, yA, yE, yL, yQ, yT, reduceCtorEq, t3, hb2]
  exact pb.stepN0
end
end Go.Proofs.Ytnmlfhogolonoaa
