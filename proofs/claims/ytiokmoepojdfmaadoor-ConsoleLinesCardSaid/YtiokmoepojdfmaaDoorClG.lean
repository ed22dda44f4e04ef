/-
  Kinds of operations: their words, the fields that they use.
-/
import Derived.Test.YtiokmoepojdfmaaDoorClE
set_option linter.unusedVariables false
set_option linter.unusedSimpArgs false
namespace Go.Proofs.YtiokmoepojdfmaaDoor
open Go.Proofs.YtiokmoepojdfmaaDoor.Eo
open Nat renaming reduceAdd → zA, reduceMul → zM, reduceLT → zL, reduceEqDiff → zE, reduceLeDiff → zD
open Int renaming reduceAdd → yA, reduceLE → yE, reduceLT → yL, reduceEq → yQ, reduceToNat → yT
open Go.Lib (decDigits itoa)
noncomputable section
/-! 12: leapfrog/text.word -/
@[go_sem] def c12_s0 : List SQ := [⟨some 2, none, .p (.mv (.c (.str ⟨#[]⟩)))⟩]
@[go_sem] def c12_s1 : List SQ := [⟨some 3, none, .p (.mv (.t 0))⟩]
@[go_sem] def c12_s2 : List SQ := [⟨some 5, none, .p (.bin .eql 5 false true (.t 3) (.c (.int .u8 1)))⟩, ⟨some 4, none, .p (.mv (.t 5))⟩]
@[go_sem] def c12_s3 : List SQ := [⟨some 2, none, .p (.mv (.c (.str ⟨#[111, 112, 101, 110]⟩)))⟩]
@[go_sem] def c12_s4 : List SQ := [⟨some 7, none, .p (.bin .eql 5 false true (.t 3) (.c (.int .u8 2)))⟩, ⟨some 6, none, .p (.mv (.t 7))⟩]
@[go_sem] def c12_s5 : List SQ := [⟨some 2, none, .p (.mv (.c (.str ⟨#[115, 104, 117, 116]⟩)))⟩]
@[go_sem] def c12_s6 : List SQ := [⟨some 9, none, .p (.bin .eql 5 false true (.t 3) (.c (.int .u8 3)))⟩, ⟨some 8, none, .p (.mv (.t 9))⟩]
@[go_sem] def c12_s7 : List SQ := [⟨some 2, none, .p (.mv (.c (.str ⟨#[103, 101, 116]⟩)))⟩]
@[go_sem] def c12_s8 : List SQ := [⟨some 11, none, .p (.bin .eql 5 false true (.t 3) (.c (.int .u8 4)))⟩, ⟨some 10, none, .p (.mv (.t 11))⟩]
@[go_sem] def c12_s9 : List SQ := [⟨some 2, none, .p (.mv (.c (.str ⟨#[112, 117, 116]⟩)))⟩]
@[go_sem] def c12_s10 : List SQ := [⟨some 13, none, .p (.bin .eql 5 false true (.t 3) (.c (.int .u8 5)))⟩, ⟨some 12, none, .p (.mv (.t 13))⟩]
@[go_sem] def c12_s11 : List SQ := [⟨some 2, none, .p (.mv (.c (.str ⟨#[97, 100, 100]⟩)))⟩]
@[go_sem] def c12_s12 : List SQ := [⟨some 15, none, .p (.bin .eql 5 false true (.t 3) (.c (.int .u8 6)))⟩, ⟨some 14, none, .p (.mv (.t 15))⟩]
@[go_sem] def c12_s13 : List SQ := [⟨some 2, none, .p (.mv (.c (.str ⟨#[100, 101, 108, 101, 116, 101]⟩)))⟩]
@[go_sem] def c12_s14 : List SQ := [⟨some 17, none, .p (.bin .eql 5 false true (.t 3) (.c (.int .u8 7)))⟩, ⟨some 16, none, .p (.mv (.t 17))⟩]
@[go_sem] def c12_s15 : List SQ := [⟨some 2, none, .p (.mv (.c (.str ⟨#[115, 119, 97, 112]⟩)))⟩]
@[go_sem] def c12_s16 : List SQ := [⟨some 19, none, .p (.bin .eql 5 false true (.t 3) (.c (.int .u8 8)))⟩, ⟨some 18, none, .p (.mv (.t 19))⟩]
@[go_sem] def c12_s17 : List SQ := [⟨some 2, none, .p (.mv (.c (.str ⟨#[109, 111, 118, 101]⟩)))⟩]
@[go_sem] def c12_s18 : List SQ := [⟨some 21, none, .p (.bin .eql 5 false true (.t 3) (.c (.int .u8 9)))⟩, ⟨some 20, none, .p (.mv (.t 21))⟩]
@[go_sem] def c12_s19 : List SQ := [⟨some 2, none, .p (.mv (.c (.str ⟨#[100, 114, 111, 112]⟩)))⟩]
@[go_sem] def c12_s20 : List SQ := [⟨some 23, none, .p (.bin .eql 5 false true (.t 3) (.c (.int .u8 10)))⟩, ⟨some 22, none, .p (.mv (.t 23))⟩]
@[go_sem] def c12_s21 : List SQ := [⟨some 2, none, .p (.mv (.c (.str ⟨#[108, 101, 110]⟩)))⟩]
@[go_sem] def c12_s22 : List SQ := [⟨some 25, none, .p (.bin .eql 5 false true (.t 3) (.c (.int .u8 11)))⟩, ⟨some 24, none, .p (.mv (.t 25))⟩]
@[go_sem] def c12_s23 : List SQ := [⟨some 2, none, .p (.mv (.c (.str ⟨#[115, 99, 97, 110]⟩)))⟩]
@[go_sem] def c12_s24 : List SQ := [⟨some 27, none, .p (.bin .eql 5 false true (.t 3) (.c (.int .u8 12)))⟩, ⟨some 26, none, .p (.mv (.t 27))⟩]
@[go_sem] def c12_s25 : List SQ := [⟨some 2, none, .p (.mv (.c (.str ⟨#[110, 101, 120, 116]⟩)))⟩]
@[go_sem] def c12_s26 : List SQ := [⟨some 29, none, .p (.bin .eql 5 false true (.t 3) (.c (.int .u8 13)))⟩, ⟨some 28, none, .p (.mv (.t 29))⟩]
@[go_sem] def c12_s27 : List SQ := [⟨some 2, none, .p (.mv (.c (.str ⟨#[115, 101, 101, 107]⟩)))⟩]
@[go_sem] def c12_s28 : List SQ := [⟨some 31, none, .p (.bin .eql 5 false true (.t 3) (.c (.int .u8 14)))⟩, ⟨some 30, none, .p (.mv (.t 31))⟩]
@[go_sem] def c12_s29 : List SQ := [⟨some 2, none, .p (.mv (.c (.str ⟨#[101, 110, 100]⟩)))⟩]
@[go_sem] def c12_s30 : List SQ := [⟨some 33, none, .p (.bin .eql 5 false true (.t 3) (.c (.int .u8 15)))⟩, ⟨some 32, none, .p (.mv (.t 33))⟩]
@[go_sem] def c12_s31 : List SQ := [⟨some 2, none, .p (.mv (.c (.str ⟨#[114, 101, 99, 108, 97, 105, 109]⟩)))⟩]
@[go_sem] def c12_s32 : List SQ := [⟨some 2, none, .p (.mv (.c (.str ⟨#[]⟩)))⟩]
@[go_sem] def c12 : CF := ⟨1, (.seq (.ops c12_s0) (.seq (.seq (.ops c12_s1) (.block 0 (.seq (.ops c12_s2) (.cond (.t 4) (.seq (.ops c12_s3) .ret) (.seq (.ops c12_s4) (.cond (.t 6) (.seq (.ops c12_s5) .ret) (.seq (.ops c12_s6) (.cond (.t 8) (.seq (.ops c12_s7) .ret) (.seq (.ops c12_s8) (.cond (.t 10) (.seq (.ops c12_s9) .ret) (.seq (.ops c12_s10) (.cond (.t 12) (.seq (.ops c12_s11) .ret) (.seq (.ops c12_s12) (.cond (.t 14) (.seq (.ops c12_s13) .ret) (.seq (.ops c12_s14) (.cond (.t 16) (.seq (.ops c12_s15) .ret) (.seq (.ops c12_s16) (.cond (.t 18) (.seq (.ops c12_s17) .ret) (.seq (.ops c12_s18) (.cond (.t 20) (.seq (.ops c12_s19) .ret) (.seq (.ops c12_s20) (.cond (.t 22) (.seq (.ops c12_s21) .ret) (.seq (.ops c12_s22) (.cond (.t 24) (.seq (.ops c12_s23) .ret) (.seq (.ops c12_s24) (.cond (.t 26) (.seq (.ops c12_s25) .ret) (.seq (.ops c12_s26) (.cond (.t 28) (.seq (.ops c12_s27) .ret) (.seq (.ops c12_s28) (.cond (.t 30) (.seq (.ops c12_s29) .ret) (.seq (.ops c12_s30) (.cond (.t 32) (.seq (.ops c12_s31) .ret) .skip)))))))))))))))))))))))))))))))) (.seq (.ops c12_s32) .ret))), [.tmp 2]⟩
theorem c12_eq : cCF Tryd.prog 12 1 = some c12 := by kernel_rfl
/-! 22: leapfrog/leapfrogref44.Word -/
@[go_sem] def c22_s0 : List SQ := [⟨some 2, none, .p (.mv (.c (.str ⟨#[]⟩)))⟩]
@[go_sem] def c22_s1 : List SQ := [⟨some 3, none, .p (.mv (.t 0))⟩]
@[go_sem] def c22_s2 : List SQ := [⟨some 5, none, .p (.bin .eql 5 false true (.t 3) (.c (.int .u8 1)))⟩, ⟨some 4, none, .p (.mv (.t 5))⟩]
@[go_sem] def c22_s3 : List SQ := [⟨some 2, none, .p (.mv (.c (.str ⟨#[111, 112, 101, 110]⟩)))⟩]
@[go_sem] def c22_s4 : List SQ := [⟨some 7, none, .p (.bin .eql 5 false true (.t 3) (.c (.int .u8 2)))⟩, ⟨some 6, none, .p (.mv (.t 7))⟩]
@[go_sem] def c22_s5 : List SQ := [⟨some 2, none, .p (.mv (.c (.str ⟨#[115, 104, 117, 116]⟩)))⟩]
@[go_sem] def c22_s6 : List SQ := [⟨some 9, none, .p (.bin .eql 5 false true (.t 3) (.c (.int .u8 3)))⟩, ⟨some 8, none, .p (.mv (.t 9))⟩]
@[go_sem] def c22_s7 : List SQ := [⟨some 2, none, .p (.mv (.c (.str ⟨#[103, 101, 116]⟩)))⟩]
@[go_sem] def c22_s8 : List SQ := [⟨some 11, none, .p (.bin .eql 5 false true (.t 3) (.c (.int .u8 4)))⟩, ⟨some 10, none, .p (.mv (.t 11))⟩]
@[go_sem] def c22_s9 : List SQ := [⟨some 2, none, .p (.mv (.c (.str ⟨#[112, 117, 116]⟩)))⟩]
@[go_sem] def c22_s10 : List SQ := [⟨some 13, none, .p (.bin .eql 5 false true (.t 3) (.c (.int .u8 5)))⟩, ⟨some 12, none, .p (.mv (.t 13))⟩]
@[go_sem] def c22_s11 : List SQ := [⟨some 2, none, .p (.mv (.c (.str ⟨#[97, 100, 100]⟩)))⟩]
@[go_sem] def c22_s12 : List SQ := [⟨some 15, none, .p (.bin .eql 5 false true (.t 3) (.c (.int .u8 6)))⟩, ⟨some 14, none, .p (.mv (.t 15))⟩]
@[go_sem] def c22_s13 : List SQ := [⟨some 2, none, .p (.mv (.c (.str ⟨#[100, 101, 108, 101, 116, 101]⟩)))⟩]
@[go_sem] def c22_s14 : List SQ := [⟨some 17, none, .p (.bin .eql 5 false true (.t 3) (.c (.int .u8 7)))⟩, ⟨some 16, none, .p (.mv (.t 17))⟩]
@[go_sem] def c22_s15 : List SQ := [⟨some 2, none, .p (.mv (.c (.str ⟨#[115, 119, 97, 112]⟩)))⟩]
@[go_sem] def c22_s16 : List SQ := [⟨some 19, none, .p (.bin .eql 5 false true (.t 3) (.c (.int .u8 8)))⟩, ⟨some 18, none, .p (.mv (.t 19))⟩]
@[go_sem] def c22_s17 : List SQ := [⟨some 2, none, .p (.mv (.c (.str ⟨#[109, 111, 118, 101]⟩)))⟩]
@[go_sem] def c22_s18 : List SQ := [⟨some 21, none, .p (.bin .eql 5 false true (.t 3) (.c (.int .u8 9)))⟩, ⟨some 20, none, .p (.mv (.t 21))⟩]
@[go_sem] def c22_s19 : List SQ := [⟨some 2, none, .p (.mv (.c (.str ⟨#[100, 114, 111, 112]⟩)))⟩]
@[go_sem] def c22_s20 : List SQ := [⟨some 23, none, .p (.bin .eql 5 false true (.t 3) (.c (.int .u8 10)))⟩, ⟨some 22, none, .p (.mv (.t 23))⟩]
@[go_sem] def c22_s21 : List SQ := [⟨some 2, none, .p (.mv (.c (.str ⟨#[108, 101, 110]⟩)))⟩]
@[go_sem] def c22_s22 : List SQ := [⟨some 25, none, .p (.bin .eql 5 false true (.t 3) (.c (.int .u8 11)))⟩, ⟨some 24, none, .p (.mv (.t 25))⟩]
@[go_sem] def c22_s23 : List SQ := [⟨some 2, none, .p (.mv (.c (.str ⟨#[115, 99, 97, 110]⟩)))⟩]
@[go_sem] def c22_s24 : List SQ := [⟨some 27, none, .p (.bin .eql 5 false true (.t 3) (.c (.int .u8 12)))⟩, ⟨some 26, none, .p (.mv (.t 27))⟩]
@[go_sem] def c22_s25 : List SQ := [⟨some 2, none, .p (.mv (.c (.str ⟨#[110, 101, 120, 116]⟩)))⟩]
@[go_sem] def c22_s26 : List SQ := [⟨some 29, none, .p (.bin .eql 5 false true (.t 3) (.c (.int .u8 13)))⟩, ⟨some 28, none, .p (.mv (.t 29))⟩]
@[go_sem] def c22_s27 : List SQ := [⟨some 2, none, .p (.mv (.c (.str ⟨#[115, 101, 101, 107]⟩)))⟩]
@[go_sem] def c22_s28 : List SQ := [⟨some 31, none, .p (.bin .eql 5 false true (.t 3) (.c (.int .u8 14)))⟩, ⟨some 30, none, .p (.mv (.t 31))⟩]
@[go_sem] def c22_s29 : List SQ := [⟨some 2, none, .p (.mv (.c (.str ⟨#[101, 110, 100]⟩)))⟩]
@[go_sem] def c22_s30 : List SQ := [⟨some 33, none, .p (.bin .eql 5 false true (.t 3) (.c (.int .u8 15)))⟩, ⟨some 32, none, .p (.mv (.t 33))⟩]
@[go_sem] def c22_s31 : List SQ := [⟨some 2, none, .p (.mv (.c (.str ⟨#[114, 101, 99, 108, 97, 105, 109]⟩)))⟩]
@[go_sem] def c22_s32 : List SQ := [⟨some 2, none, .p (.mv (.c (.str ⟨#[]⟩)))⟩]
@[go_sem] def c22 : CF := ⟨1, (.seq (.ops c22_s0) (.seq (.seq (.ops c22_s1) (.block 0 (.seq (.ops c22_s2) (.cond (.t 4) (.seq (.ops c22_s3) .ret) (.seq (.ops c22_s4) (.cond (.t 6) (.seq (.ops c22_s5) .ret) (.seq (.ops c22_s6) (.cond (.t 8) (.seq (.ops c22_s7) .ret) (.seq (.ops c22_s8) (.cond (.t 10) (.seq (.ops c22_s9) .ret) (.seq (.ops c22_s10) (.cond (.t 12) (.seq (.ops c22_s11) .ret) (.seq (.ops c22_s12) (.cond (.t 14) (.seq (.ops c22_s13) .ret) (.seq (.ops c22_s14) (.cond (.t 16) (.seq (.ops c22_s15) .ret) (.seq (.ops c22_s16) (.cond (.t 18) (.seq (.ops c22_s17) .ret) (.seq (.ops c22_s18) (.cond (.t 20) (.seq (.ops c22_s19) .ret) (.seq (.ops c22_s20) (.cond (.t 22) (.seq (.ops c22_s21) .ret) (.seq (.ops c22_s22) (.cond (.t 24) (.seq (.ops c22_s23) .ret) (.seq (.ops c22_s24) (.cond (.t 26) (.seq (.ops c22_s25) .ret) (.seq (.ops c22_s26) (.cond (.t 28) (.seq (.ops c22_s27) .ret) (.seq (.ops c22_s28) (.cond (.t 30) (.seq (.ops c22_s29) .ret) (.seq (.ops c22_s30) (.cond (.t 32) (.seq (.ops c22_s31) .ret) .skip)))))))))))))))))))))))))))))))) (.seq (.ops c22_s32) .ret))), [.tmp 2]⟩
theorem c22_eq : cCF Tryd.prog 22 1 = some c22 := by kernel_rfl
/-! 31: leapfrog/leapfrogref38.Uses -/
@[go_sem] def c31_s0 : List SQ := [⟨some 2, none, .p (.mv (.c (.int .i64 0)))⟩]
@[go_sem] def c31_s1 : List SQ := [⟨some 3, none, .p (.mv (.t 0))⟩]
@[go_sem] def c31_s2 : List SQ := [⟨some 5, none, .p (.bin .eql 5 false true (.t 3) (.c (.int .u8 3)))⟩, ⟨some 4, none, .p (.mv (.t 5))⟩]
@[go_sem] def c31_s3 : List SQ := [⟨some 6, none, .p (.bin .eql 5 false true (.t 3) (.c (.int .u8 6)))⟩, ⟨some 4, none, .p (.mv (.t 6))⟩]
@[go_sem] def c31_s4 : List SQ := [⟨some 7, none, .p (.bin .eql 5 false true (.t 3) (.c (.int .u8 13)))⟩, ⟨some 4, none, .p (.mv (.t 7))⟩]
@[go_sem] def c31_s5 : List SQ := [⟨some 2, none, .p (.mv (.c (.int .i64 1)))⟩]
@[go_sem] def c31_s6 : List SQ := [⟨some 9, none, .p (.bin .eql 5 false true (.t 3) (.c (.int .u8 4)))⟩, ⟨some 8, none, .p (.mv (.t 9))⟩]
@[go_sem] def c31_s7 : List SQ := [⟨some 10, none, .p (.bin .eql 5 false true (.t 3) (.c (.int .u8 5)))⟩, ⟨some 8, none, .p (.mv (.t 10))⟩]
@[go_sem] def c31_s8 : List SQ := [⟨some 2, none, .p (.mv (.c (.int .i64 37)))⟩]
@[go_sem] def c31_s9 : List SQ := [⟨some 12, none, .p (.bin .eql 5 false true (.t 3) (.c (.int .u8 7)))⟩, ⟨some 11, none, .p (.mv (.t 12))⟩]
@[go_sem] def c31_s10 : List SQ := [⟨some 2, none, .p (.mv (.c (.int .i64 13)))⟩]
@[go_sem] def c31_s11 : List SQ := [⟨some 14, none, .p (.bin .eql 5 false true (.t 3) (.c (.int .u8 8)))⟩, ⟨some 13, none, .p (.mv (.t 14))⟩]
@[go_sem] def c31_s12 : List SQ := [⟨some 2, none, .p (.mv (.c (.int .i64 51)))⟩]
@[go_sem] def c31_s13 : List SQ := [⟨some 16, none, .p (.bin .eql 5 false true (.t 3) (.c (.int .u8 9)))⟩, ⟨some 15, none, .p (.mv (.t 16))⟩]
@[go_sem] def c31_s14 : List SQ := [⟨some 17, none, .p (.bin .eql 5 false true (.t 3) (.c (.int .u8 11)))⟩, ⟨some 15, none, .p (.mv (.t 17))⟩]
@[go_sem] def c31_s15 : List SQ := [⟨some 2, none, .p (.mv (.c (.int .i64 3)))⟩]
@[go_sem] def c31_s16 : List SQ := [⟨some 2, none, .p (.mv (.c (.int .i64 0)))⟩]
@[go_sem] def c31 : CF := ⟨1, (.seq (.ops c31_s0) (.seq (.seq (.ops c31_s1) (.block 0 (.seq (.seq (.ops c31_s2) (.cond (.t 4) .skip (.seq (.ops c31_s3) (.cond (.t 4) .skip (.ops c31_s4))))) (.cond (.t 4) (.seq (.ops c31_s5) .ret) (.seq (.seq (.ops c31_s6) (.cond (.t 8) .skip (.ops c31_s7))) (.cond (.t 8) (.seq (.ops c31_s8) .ret) (.seq (.ops c31_s9) (.cond (.t 11) (.seq (.ops c31_s10) .ret) (.seq (.ops c31_s11) (.cond (.t 13) (.seq (.ops c31_s12) .ret) (.seq (.seq (.ops c31_s13) (.cond (.t 15) .skip (.ops c31_s14))) (.cond (.t 15) (.seq (.ops c31_s15) .ret) .skip)))))))))))) (.seq (.ops c31_s16) .ret))), [.tmp 2]⟩
theorem c31_eq : cCF Tryd.prog 31 1 = some c31 := by kernel_rfl
/-! 15: leapfrog/text.fields -/
@[go_sem] def c15_s0 : List SQ := [⟨some 2, none, .p (.mv (.c .nils))⟩]
@[go_sem] def c15_s1 : List SQ := [⟨some 3, none, .p (.mv (.t 0))⟩, ⟨some 4, none, .p (.nilck (.t 3))⟩, ⟨some 5, none, .p (.fadr 0 (.t 4))⟩, ⟨some 6, none, .r (.ld none (.t 5))⟩]
@[go_sem] def c15_s2 : List SQ := [⟨some 8, none, .p (.bin .eql 5 false true (.t 6) (.c (.int .u8 3)))⟩, ⟨some 7, none, .p (.mv (.t 8))⟩]
@[go_sem] def c15_s3 : List SQ := [⟨some 9, none, .p (.bin .eql 5 false true (.t 6) (.c (.int .u8 6)))⟩, ⟨some 7, none, .p (.mv (.t 9))⟩]
@[go_sem] def c15_s4 : List SQ := [⟨some 10, none, .p (.bin .eql 5 false true (.t 6) (.c (.int .u8 13)))⟩, ⟨some 7, none, .p (.mv (.t 10))⟩]
@[go_sem] def c15_s5 : List SQ := [⟨some 11, none, .p (.mv (.t 0))⟩, ⟨some 12, none, .p (.nilck (.t 11))⟩, ⟨some 13, none, .p (.fadr 1 (.t 12))⟩, ⟨some 14, none, .n (.buildS 45 1 1 [.nilp] [(0, 1, (.t 13))])⟩, ⟨some 2, none, .p (.mv (.t 14))⟩]
@[go_sem] def c15_s6 : List SQ := [⟨some 16, none, .p (.bin .eql 5 false true (.t 6) (.c (.int .u8 4)))⟩, ⟨some 15, none, .p (.mv (.t 16))⟩]
@[go_sem] def c15_s7 : List SQ := [⟨some 17, none, .p (.bin .eql 5 false true (.t 6) (.c (.int .u8 5)))⟩, ⟨some 15, none, .p (.mv (.t 17))⟩]
@[go_sem] def c15_p8 : List (List DQ × Option DQ) := [([⟨0, [(0, none)], none, .p (.mv (.t 0))⟩, ⟨1, [(18, (some 0))], none, .p (.nilck (.t 18))⟩, ⟨2, [(19, (some 1))], none, .p (.fadr 1 (.t 19))⟩, ⟨3, [(0, none)], none, .p (.mv (.t 0))⟩, ⟨4, [(21, (some 3))], none, .p (.nilck (.t 21))⟩, ⟨5, [(22, (some 4))], none, .p (.fadr 3 (.t 22))⟩, ⟨6, [(0, none)], none, .p (.mv (.t 0))⟩, ⟨7, [(24, (some 6))], none, .p (.nilck (.t 24))⟩, ⟨8, [(25, (some 7))], none, .p (.fadr 6 (.t 25))⟩, ⟨9, [(20, (some 2)), (23, (some 5)), (26, (some 8))], none, .n (.buildS 45 1 3 [.nilp, .nilp, .nilp] [(0, 1, (.t 20)), (1, 1, (.t 23)), (2, 1, (.t 26))])⟩, ⟨10, [(27, (some 9))], none, .p (.mv (.t 27))⟩], none)]
@[go_sem] def c15_s9 : List SQ := [⟨some 29, none, .p (.bin .eql 5 false true (.t 6) (.c (.int .u8 7)))⟩, ⟨some 28, none, .p (.mv (.t 29))⟩]
@[go_sem] def c15_p10 : List (List DQ × Option DQ) := [([⟨0, [(0, none)], none, .p (.mv (.t 0))⟩, ⟨1, [(30, (some 0))], none, .p (.nilck (.t 30))⟩, ⟨2, [(31, (some 1))], none, .p (.fadr 1 (.t 31))⟩, ⟨3, [(0, none)], none, .p (.mv (.t 0))⟩, ⟨4, [(33, (some 3))], none, .p (.nilck (.t 33))⟩, ⟨5, [(34, (some 4))], none, .p (.fadr 4 (.t 34))⟩, ⟨6, [(0, none)], none, .p (.mv (.t 0))⟩, ⟨7, [(36, (some 6))], none, .p (.nilck (.t 36))⟩, ⟨8, [(37, (some 7))], none, .p (.fadr 3 (.t 37))⟩, ⟨9, [(32, (some 2)), (35, (some 5)), (38, (some 8))], none, .n (.buildS 45 1 3 [.nilp, .nilp, .nilp] [(0, 1, (.t 32)), (1, 1, (.t 35)), (2, 1, (.t 38))])⟩, ⟨10, [(39, (some 9))], none, .p (.mv (.t 39))⟩], none)]
@[go_sem] def c15_s11 : List SQ := [⟨some 41, none, .p (.bin .eql 5 false true (.t 6) (.c (.int .u8 8)))⟩, ⟨some 40, none, .p (.mv (.t 41))⟩]
@[go_sem] def c15_p12 : List (List DQ × Option DQ) := [([⟨0, [(0, none)], none, .p (.mv (.t 0))⟩, ⟨1, [(42, (some 0))], none, .p (.nilck (.t 42))⟩, ⟨2, [(43, (some 1))], none, .p (.fadr 1 (.t 43))⟩, ⟨3, [(0, none)], none, .p (.mv (.t 0))⟩, ⟨4, [(45, (some 3))], none, .p (.nilck (.t 45))⟩, ⟨5, [(46, (some 4))], none, .p (.fadr 2 (.t 46))⟩, ⟨6, [(0, none)], none, .p (.mv (.t 0))⟩, ⟨7, [(48, (some 6))], none, .p (.nilck (.t 48))⟩, ⟨8, [(49, (some 7))], none, .p (.fadr 5 (.t 49))⟩, ⟨9, [(0, none)], none, .p (.mv (.t 0))⟩, ⟨10, [(51, (some 9))], none, .p (.nilck (.t 51))⟩, ⟨11, [(52, (some 10))], none, .p (.fadr 6 (.t 52))⟩, ⟨12, [(44, (some 2)), (47, (some 5)), (50, (some 8)), (53, (some 11))], none, .n (.buildS 45 1 4 [.nilp, .nilp, .nilp, .nilp] [(0, 1, (.t 44)), (1, 1, (.t 47)), (2, 1, (.t 50)), (3, 1, (.t 53))])⟩, ⟨13, [(54, (some 12))], none, .p (.mv (.t 54))⟩], none)]
@[go_sem] def c15_s13 : List SQ := [⟨some 56, none, .p (.bin .eql 5 false true (.t 6) (.c (.int .u8 9)))⟩, ⟨some 55, none, .p (.mv (.t 56))⟩]
@[go_sem] def c15_s14 : List SQ := [⟨some 57, none, .p (.bin .eql 5 false true (.t 6) (.c (.int .u8 11)))⟩, ⟨some 55, none, .p (.mv (.t 57))⟩]
@[go_sem] def c15_p15 : List (List DQ × Option DQ) := [([⟨0, [(0, none)], none, .p (.mv (.t 0))⟩, ⟨1, [(58, (some 0))], none, .p (.nilck (.t 58))⟩, ⟨2, [(59, (some 1))], none, .p (.fadr 1 (.t 59))⟩, ⟨3, [(0, none)], none, .p (.mv (.t 0))⟩, ⟨4, [(61, (some 3))], none, .p (.nilck (.t 61))⟩, ⟨5, [(62, (some 4))], none, .p (.fadr 2 (.t 62))⟩, ⟨6, [(60, (some 2)), (63, (some 5))], none, .n (.buildS 45 1 2 [.nilp, .nilp] [(0, 1, (.t 60)), (1, 1, (.t 63))])⟩, ⟨7, [(64, (some 6))], none, .p (.mv (.t 64))⟩], none)]
@[go_sem] def c15_s16 : List SQ := [⟨some 2, none, .p (.mv (.c .nils))⟩]
@[go_sem] def c15 : CF := ⟨1, (.seq (.ops c15_s0) (.seq (.seq (.ops c15_s1) (.block 0 (.seq (.seq (.ops c15_s2) (.cond (.t 7) .skip (.seq (.ops c15_s3) (.cond (.t 7) .skip (.ops c15_s4))))) (.cond (.t 7) (.seq (.ops c15_s5) .ret) (.seq (.seq (.ops c15_s6) (.cond (.t 15) .skip (.ops c15_s7))) (.cond (.t 15) (.seq (.drw ⟨c15_p8, [(0, 18), (1, 19), (2, 20), (3, 21), (4, 22), (5, 23), (6, 24), (7, 25), (8, 26), (9, 27), (10, 2)], []⟩) .ret) (.seq (.ops c15_s9) (.cond (.t 28) (.seq (.drw ⟨c15_p10, [(0, 30), (1, 31), (2, 32), (3, 33), (4, 34), (5, 35), (6, 36), (7, 37), (8, 38), (9, 39), (10, 2)], []⟩) .ret) (.seq (.ops c15_s11) (.cond (.t 40) (.seq (.drw ⟨c15_p12, [(0, 42), (1, 43), (2, 44), (3, 45), (4, 46), (5, 47), (6, 48), (7, 49), (8, 50), (9, 51), (10, 52), (11, 53), (12, 54), (13, 2)], []⟩) .ret) (.seq (.seq (.ops c15_s13) (.cond (.t 55) .skip (.ops c15_s14))) (.cond (.t 55) (.seq (.drw ⟨c15_p15, [(0, 58), (1, 59), (2, 60), (3, 61), (4, 62), (5, 63), (6, 64), (7, 2)], []⟩) .ret) .skip)))))))))))) (.seq (.ops c15_s16) .ret))), [.tmp 2]⟩
theorem c15_eq : cCF Tryd.prog 15 1 = some c15 := by kernel_rfl
/-! 23: leapfrog/leapfrogref44.order -/
@[go_sem] def c23_s0 : List SQ := [⟨some 1, none, .n (.box 24 (.t 0))⟩, ⟨some 2, none, .p (.mv (.c .nils))⟩]
@[go_sem] def c23_s1 : List SQ := [⟨some 3, none, .p (.fadr 0 (.t 1))⟩, ⟨some 4, none, .r (.ld none (.t 3))⟩]
@[go_sem] def c23_s2 : List SQ := [⟨some 6, none, .p (.bin .eql 5 false true (.t 4) (.c (.int .u8 3)))⟩, ⟨some 5, none, .p (.mv (.t 6))⟩]
@[go_sem] def c23_s3 : List SQ := [⟨some 7, none, .p (.bin .eql 5 false true (.t 4) (.c (.int .u8 6)))⟩, ⟨some 5, none, .p (.mv (.t 7))⟩]
@[go_sem] def c23_s4 : List SQ := [⟨some 8, none, .p (.bin .eql 5 false true (.t 4) (.c (.int .u8 13)))⟩, ⟨some 5, none, .p (.mv (.t 8))⟩]
@[go_sem] def c23_s5 : List SQ := [⟨some 9, none, .p (.fadr 1 (.t 1))⟩, ⟨some 10, none, .r (.ld none (.t 9))⟩, ⟨some 11, none, .n (.buildS 22 1 1 [.int .u64 0] [(0, 1, (.t 10))])⟩, ⟨some 2, none, .p (.mv (.t 11))⟩]
@[go_sem] def c23_s6 : List SQ := [⟨some 13, none, .p (.bin .eql 5 false true (.t 4) (.c (.int .u8 4)))⟩, ⟨some 12, none, .p (.mv (.t 13))⟩]
@[go_sem] def c23_s7 : List SQ := [⟨some 14, none, .p (.bin .eql 5 false true (.t 4) (.c (.int .u8 5)))⟩, ⟨some 12, none, .p (.mv (.t 14))⟩]
@[go_sem] def c23_s8 : List SQ := [⟨some 15, none, .p (.fadr 1 (.t 1))⟩, ⟨some 16, none, .r (.ld none (.t 15))⟩, ⟨some 17, none, .p (.fadr 3 (.t 1))⟩, ⟨some 18, none, .r (.ld none (.t 17))⟩, ⟨some 19, none, .p (.fadr 6 (.t 1))⟩, ⟨some 20, none, .r (.ld none (.t 19))⟩, ⟨some 21, none, .n (.buildS 22 1 3 [.int .u64 0, .int .u64 0, .int .u64 0] [(0, 1, (.t 16)), (1, 1, (.t 18)), (2, 1, (.t 20))])⟩, ⟨some 2, none, .p (.mv (.t 21))⟩]
@[go_sem] def c23_s9 : List SQ := [⟨some 23, none, .p (.bin .eql 5 false true (.t 4) (.c (.int .u8 7)))⟩, ⟨some 22, none, .p (.mv (.t 23))⟩]
@[go_sem] def c23_s10 : List SQ := [⟨some 24, none, .p (.fadr 1 (.t 1))⟩, ⟨some 25, none, .r (.ld none (.t 24))⟩, ⟨some 26, none, .p (.fadr 4 (.t 1))⟩, ⟨some 27, none, .r (.ld none (.t 26))⟩, ⟨some 28, none, .p (.fadr 3 (.t 1))⟩, ⟨some 29, none, .r (.ld none (.t 28))⟩, ⟨some 30, none, .n (.buildS 22 1 3 [.int .u64 0, .int .u64 0, .int .u64 0] [(0, 1, (.t 25)), (1, 1, (.t 27)), (2, 1, (.t 29))])⟩, ⟨some 2, none, .p (.mv (.t 30))⟩]
@[go_sem] def c23_s11 : List SQ := [⟨some 32, none, .p (.bin .eql 5 false true (.t 4) (.c (.int .u8 8)))⟩, ⟨some 31, none, .p (.mv (.t 32))⟩]
@[go_sem] def c23_s12 : List SQ := [⟨some 33, none, .p (.fadr 1 (.t 1))⟩, ⟨some 34, none, .r (.ld none (.t 33))⟩, ⟨some 35, none, .p (.fadr 2 (.t 1))⟩, ⟨some 36, none, .r (.ld none (.t 35))⟩, ⟨some 37, none, .p (.fadr 5 (.t 1))⟩, ⟨some 38, none, .r (.ld none (.t 37))⟩, ⟨some 39, none, .p (.fadr 6 (.t 1))⟩, ⟨some 40, none, .r (.ld none (.t 39))⟩, ⟨some 41, none, .n (.buildS 22 1 4 [.int .u64 0, .int .u64 0, .int .u64 0, .int .u64 0] [(0, 1, (.t 34)), (1, 1, (.t 36)), (2, 1, (.t 38)), (3, 1, (.t 40))])⟩, ⟨some 2, none, .p (.mv (.t 41))⟩]
@[go_sem] def c23_s13 : List SQ := [⟨some 43, none, .p (.bin .eql 5 false true (.t 4) (.c (.int .u8 9)))⟩, ⟨some 42, none, .p (.mv (.t 43))⟩]
@[go_sem] def c23_s14 : List SQ := [⟨some 44, none, .p (.bin .eql 5 false true (.t 4) (.c (.int .u8 11)))⟩, ⟨some 42, none, .p (.mv (.t 44))⟩]
@[go_sem] def c23_s15 : List SQ := [⟨some 45, none, .p (.fadr 1 (.t 1))⟩, ⟨some 46, none, .r (.ld none (.t 45))⟩, ⟨some 47, none, .p (.fadr 2 (.t 1))⟩, ⟨some 48, none, .r (.ld none (.t 47))⟩, ⟨some 49, none, .n (.buildS 22 1 2 [.int .u64 0, .int .u64 0] [(0, 1, (.t 46)), (1, 1, (.t 48))])⟩, ⟨some 2, none, .p (.mv (.t 49))⟩]
@[go_sem] def c23_s16 : List SQ := [⟨some 2, none, .p (.mv (.c .nils))⟩]
@[go_sem] def c23 : CF := ⟨1, (.seq (.ops c23_s0) (.seq (.seq (.ops c23_s1) (.block 0 (.seq (.seq (.ops c23_s2) (.cond (.t 5) .skip (.seq (.ops c23_s3) (.cond (.t 5) .skip (.ops c23_s4))))) (.cond (.t 5) (.seq (.ops c23_s5) .ret) (.seq (.seq (.ops c23_s6) (.cond (.t 12) .skip (.ops c23_s7))) (.cond (.t 12) (.seq (.ops c23_s8) .ret) (.seq (.ops c23_s9) (.cond (.t 22) (.seq (.ops c23_s10) .ret) (.seq (.ops c23_s11) (.cond (.t 31) (.seq (.ops c23_s12) .ret) (.seq (.seq (.ops c23_s13) (.cond (.t 42) .skip (.ops c23_s14))) (.cond (.t 42) (.seq (.ops c23_s15) .ret) .skip)))))))))))) (.seq (.ops c23_s16) .ret))), [.tmp 2]⟩
theorem c23_eq : cCF Tryd.prog 23 1 = some c23 := by kernel_rfl
/-! 21: leapfrog/leapfrogref38.Fields -/
@[go_sem] def c21_s0 : List SQ := [⟨some 1, none, .n (.box 24 (.t 0))⟩, ⟨some 2, none, .p (.mv (.c .nils))⟩]
@[go_sem] def c21_s1 : List SQ := [⟨some 3, none, .p (.fadr 1 (.t 1))⟩, ⟨some 4, none, .r (.ld none (.t 3))⟩, ⟨some 5, none, .p (.fadr 2 (.t 1))⟩, ⟨some 6, none, .r (.ld none (.t 5))⟩, ⟨some 7, none, .p (.fadr 3 (.t 1))⟩, ⟨some 8, none, .r (.ld none (.t 7))⟩, ⟨some 9, none, .p (.fadr 4 (.t 1))⟩, ⟨some 10, none, .r (.ld none (.t 9))⟩, ⟨some 11, none, .p (.fadr 5 (.t 1))⟩, ⟨some 12, none, .r (.ld none (.t 11))⟩, ⟨some 13, none, .p (.fadr 6 (.t 1))⟩, ⟨some 14, none, .r (.ld none (.t 13))⟩, ⟨some 15, none, .n (.buildS 22 1 6 [.int .u64 0, .int .u64 0, .int .u64 0, .int .u64 0, .int .u64 0, .int .u64 0] [(0, 1, (.t 4)), (1, 1, (.t 6)), (2, 1, (.t 8)), (3, 1, (.t 10)), (4, 1, (.t 12)), (5, 1, (.t 14))])⟩, ⟨some 2, none, .p (.mv (.t 15))⟩]
@[go_sem] def c21 : CF := ⟨1, (.seq (.ops c21_s0) (.seq (.ops c21_s1) .ret)), [.tmp 2]⟩
theorem c21_eq : cCF Tryd.prog 21 1 = some c21 := by kernel_rfl

theorem kind_cases (k : Int) : k = 1 ∨ k = 2 ∨ k = 3 ∨ k = 4 ∨ k = 5 ∨ k = 6 ∨ k = 7 ∨ k = 8 ∨ k = 9 ∨ k = 10 ∨ k = 11 ∨ k = 12 ∨ k = 13 ∨ k = 14 ∨ k = 15 ∨ (¬ k = 1 ∧ ¬ k = 2 ∧ ¬ k = 3 ∧ ¬ k = 4 ∧ ¬ k = 5 ∧ ¬ k = 6 ∧ ¬ k = 7 ∧ ¬ k = 8 ∧ ¬ k = 9 ∧ ¬ k = 10 ∧ ¬ k = 11 ∧ ¬ k = 12 ∧ ¬ k = 13 ∧ ¬ k = 14 ∧ ¬ k = 15) := by omega
/-- the word of a kind -/
def wordB (k : Int) : List UInt8 := if k = 1 then [111, 112, 101, 110] else if k = 2 then [115, 104, 117, 116] else if k = 3 then [103, 101, 116] else if k = 4 then [112, 117, 116] else if k = 5 then [97, 100, 100] else if k = 6 then [100, 101, 108, 101, 116, 101] else if k = 7 then [115, 119, 97, 112] else if k = 8 then [109, 111, 118, 101] else if k = 9 then [100, 114, 111, 112] else if k = 10 then [108, 101, 110] else if k = 11 then [115, 99, 97, 110] else if k = 12 then [110, 101, 120, 116] else if k = 13 then [115, 101, 101, 107] else if k = 14 then [101, 110, 100] else if k = 15 then [114, 101, 99, 108, 97, 105, 109] else []
/-- the fields that a kind uses, in the order of its line -/
def useL (k : Int) : List Nat := if k = 3 then [0] else if k = 4 then [0, 2, 5] else if k = 5 then [0, 2, 5] else if k = 6 then [0] else if k = 7 then [0, 3, 2] else if k = 8 then [0, 1, 4, 5] else if k = 9 then [0, 1] else if k = 11 then [0, 1] else if k = 13 then [0] else []
def useM (k : Int) : Int := if k = 3 then 1 else if k = 4 then 37 else if k = 5 then 37 else if k = 6 then 1 else if k = 7 then 13 else if k = 8 then 51 else if k = 9 then 3 else if k = 11 then 3 else if k = 13 then 1 else 0
def OpT := Int × Int × Int × Int × Int × Int × Int
def opC (x : OpT) : List AV := [.int .u8 x.1, .int .u64 x.2.1, .int .u64 x.2.2.1, .int .u64 x.2.2.2.1, .int .u64 x.2.2.2.2.1, .int .u64 x.2.2.2.2.2.1, .int .u64 x.2.2.2.2.2.2]
def fld (x : OpT) : Nat → Int
  | 0 => x.2.1 | 1 => x.2.2.1 | 2 => x.2.2.2.1 | 3 => x.2.2.2.2.1 | 4 => x.2.2.2.2.2.1 | 5 => x.2.2.2.2.2.2 | _ => 0
theorem w12 (P : Program) {call : CallE} {h : H} {k : Int} : WF P call c12 [.int .u8 k] h fun v h' => v = .str (strB (wordB k)) ∧ h' = h := by
  rcases kind_cases k with rfl | rfl | rfl | rfl | rfl | rfl | rfl | rfl | rfl | rfl | rfl | rfl | rfl | rfl | rfl | ⟨n1, n2, n3, n4, n5, n6, n7, n8, n9, n10, n11, n12, n13, n14, n15⟩
  · simp only [go_sem, ↓reduceIte, ↓reduceDIte, zA, zM, zL, zE, zD, yA, yE, yL, yQ, yT, reduceCtorEq, c12]; rfl
  · simp only [go_sem, ↓reduceIte, ↓reduceDIte, zA, zM, zL, zE, zD, yA, yE, yL, yQ, yT, reduceCtorEq, c12]; rfl
  · simp only [go_sem, ↓reduceIte, ↓reduceDIte, zA, zM, zL, zE, zD, yA, yE, yL, yQ, yT, reduceCtorEq, c12]; rfl
  · simp only [go_sem, ↓reduceIte, ↓reduceDIte, zA, zM, zL, zE, zD, yA, yE, yL, yQ, yT, reduceCtorEq, c12]; rfl
  · simp only [go_sem, ↓reduceIte, ↓reduceDIte, zA, zM, zL, zE, zD, yA, yE, yL, yQ, yT, reduceCtorEq, c12]; rfl
  · simp only [go_sem, ↓reduceIte, ↓reduceDIte, zA, zM, zL, zE, zD, yA, yE, yL, yQ, yT, reduceCtorEq, c12]; rfl
  · simp only [go_sem, ↓reduceIte, ↓reduceDIte, zA, zM, zL, zE, zD, yA, yE, yL, yQ, yT, reduceCtorEq, c12]; rfl
  · simp only [go_sem, ↓reduceIte, ↓reduceDIte, zA, zM, zL, zE, zD, yA, yE, yL, yQ, yT, reduceCtorEq, c12]; rfl
  · simp only [go_sem, ↓reduceIte, ↓reduceDIte, zA, zM, zL, zE, zD, yA, yE, yL, yQ, yT, reduceCtorEq, c12]; rfl
  · simp only [go_sem, ↓reduceIte, ↓reduceDIte, zA, zM, zL, zE, zD, yA, yE, yL, yQ, yT, reduceCtorEq, c12]; rfl
  · simp only [go_sem, ↓reduceIte, ↓reduceDIte, zA, zM, zL, zE, zD, yA, yE, yL, yQ, yT, reduceCtorEq, c12]; rfl
  · simp only [go_sem, ↓reduceIte, ↓reduceDIte, zA, zM, zL, zE, zD, yA, yE, yL, yQ, yT, reduceCtorEq, c12]; rfl
  · simp only [go_sem, ↓reduceIte, ↓reduceDIte, zA, zM, zL, zE, zD, yA, yE, yL, yQ, yT, reduceCtorEq, c12]; rfl
  · simp only [go_sem, ↓reduceIte, ↓reduceDIte, zA, zM, zL, zE, zD, yA, yE, yL, yQ, yT, reduceCtorEq, c12]; rfl
  · simp only [go_sem, ↓reduceIte, ↓reduceDIte, zA, zM, zL, zE, zD, yA, yE, yL, yQ, yT, reduceCtorEq, c12]; rfl
  · simp only [go_sem, ↓reduceIte, ↓reduceDIte, zA, zM, zL, zE, zD, yA, yE, yL, yQ, yT, reduceCtorEq, c12, n1, n2, n3, n4, n5, n6, n7, n8, n9, n10, n11, n12, n13, n14, n15]
    unfold wordB
    rw [if_neg n1, if_neg n2, if_neg n3, if_neg n4, if_neg n5, if_neg n6, if_neg n7, if_neg n8, if_neg n9, if_neg n10, if_neg n11, if_neg n12, if_neg n13, if_neg n14, if_neg n15]
    rfl
theorem w22 (P : Program) {call : CallE} {h : H} {k : Int} : WF P call c22 [.int .u8 k] h fun v h' => v = .str (strB (wordB k)) ∧ h' = h := by
  rcases kind_cases k with rfl | rfl | rfl | rfl | rfl | rfl | rfl | rfl | rfl | rfl | rfl | rfl | rfl | rfl | rfl | ⟨n1, n2, n3, n4, n5, n6, n7, n8, n9, n10, n11, n12, n13, n14, n15⟩
  · simp only [go_sem, ↓reduceIte, ↓reduceDIte, zA, zM, zL, zE, zD, yA, yE, yL, yQ, yT, reduceCtorEq, c22]; rfl
  · simp only [go_sem, ↓reduceIte, ↓reduceDIte, zA, zM, zL, zE, zD, yA, yE, yL, yQ, yT, reduceCtorEq, c22]; rfl
  · simp only [go_sem, ↓reduceIte, ↓reduceDIte, zA, zM, zL, zE, zD, yA, yE, yL, yQ, yT, reduceCtorEq, c22]; rfl
  · simp only [go_sem, ↓reduceIte, ↓reduceDIte, zA, zM, zL, zE, zD, yA, yE, yL, yQ, yT, reduceCtorEq, c22]; rfl
  · simp only [go_sem, ↓reduceIte, ↓reduceDIte, zA, zM, zL, zE, zD, yA, yE, yL, yQ, yT, reduceCtorEq, c22]; rfl
  · simp only [go_sem, ↓reduceIte, ↓reduceDIte, zA, zM, zL, zE, zD, yA, yE, yL, yQ, yT, reduceCtorEq, c22]; rfl
  · simp only [go_sem, ↓reduceIte, ↓reduceDIte, zA, zM, zL, zE, zD, yA, yE, yL, yQ, yT, reduceCtorEq, c22]; rfl
  · simp only [go_sem, ↓reduceIte, ↓reduceDIte, zA, zM, zL, zE, zD, yA, yE, yL, yQ, yT, reduceCtorEq, c22]; rfl
  · simp only [go_sem, ↓reduceIte, ↓reduceDIte, zA, zM, zL, zE, zD, yA, yE, yL, yQ, yT, reduceCtorEq, c22]; rfl
  · simp only [go_sem, ↓reduceIte, ↓reduceDIte, zA, zM, zL, zE, zD, yA, yE, yL, yQ, yT, reduceCtorEq, c22]; rfl
  · simp only [go_sem, ↓reduceIte, ↓reduceDIte, zA, zM, zL, zE, zD, yA, yE, yL, yQ, yT, reduceCtorEq, c22]; rfl
  · simp only [go_sem, ↓reduceIte, ↓reduceDIte, zA, zM, zL, zE, zD, yA, yE, yL, yQ, yT, reduceCtorEq, c22]; rfl
  · simp only [go_sem, ↓reduceIte, ↓reduceDIte, zA, zM, zL, zE, zD, yA, yE, yL, yQ, yT, reduceCtorEq, c22]; rfl
  · simp only [go_sem, ↓reduceIte, ↓reduceDIte, zA, zM, zL, zE, zD, yA, yE, yL, yQ, yT, reduceCtorEq, c22]; rfl
  · simp only [go_sem, ↓reduceIte, ↓reduceDIte, zA, zM, zL, zE, zD, yA, yE, yL, yQ, yT, reduceCtorEq, c22]; rfl
  · simp only [go_sem, ↓reduceIte, ↓reduceDIte, zA, zM, zL, zE, zD, yA, yE, yL, yQ, yT, reduceCtorEq, c22, n1, n2, n3, n4, n5, n6, n7, n8, n9, n10, n11, n12, n13, n14, n15]
    unfold wordB
    rw [if_neg n1, if_neg n2, if_neg n3, if_neg n4, if_neg n5, if_neg n6, if_neg n7, if_neg n8, if_neg n9, if_neg n10, if_neg n11, if_neg n12, if_neg n13, if_neg n14, if_neg n15]
    rfl
theorem w31 (P : Program) {call : CallE} {h : H} {k : Int} : WF P call c31 [.int .u8 k] h fun v h' => v = .int .i64 (useM k) ∧ h' = h := by
  rcases kind_cases k with rfl | rfl | rfl | rfl | rfl | rfl | rfl | rfl | rfl | rfl | rfl | rfl | rfl | rfl | rfl | ⟨n1, n2, n3, n4, n5, n6, n7, n8, n9, n10, n11, n12, n13, n14, n15⟩
  · simp only [go_sem, ↓reduceIte, ↓reduceDIte, zA, zM, zL, zE, zD, yA, yE, yL, yQ, yT, reduceCtorEq, c31]; rfl
  · simp only [go_sem, ↓reduceIte, ↓reduceDIte, zA, zM, zL, zE, zD, yA, yE, yL, yQ, yT, reduceCtorEq, c31]; rfl
  · simp only [go_sem, ↓reduceIte, ↓reduceDIte, zA, zM, zL, zE, zD, yA, yE, yL, yQ, yT, reduceCtorEq, c31]; rfl
  · simp only [go_sem, ↓reduceIte, ↓reduceDIte, zA, zM, zL, zE, zD, yA, yE, yL, yQ, yT, reduceCtorEq, c31]; rfl
  · simp only [go_sem, ↓reduceIte, ↓reduceDIte, zA, zM, zL, zE, zD, yA, yE, yL, yQ, yT, reduceCtorEq, c31]; rfl
  · simp only [go_sem, ↓reduceIte, ↓reduceDIte, zA, zM, zL, zE, zD, yA, yE, yL, yQ, yT, reduceCtorEq, c31]; rfl
  · simp only [go_sem, ↓reduceIte, ↓reduceDIte, zA, zM, zL, zE, zD, yA, yE, yL, yQ, yT, reduceCtorEq, c31]; rfl
  · simp only [go_sem, ↓reduceIte, ↓reduceDIte, zA, zM, zL, zE, zD, yA, yE, yL, yQ, yT, reduceCtorEq, c31]; rfl
  · simp only [go_sem, ↓reduceIte, ↓reduceDIte, zA, zM, zL, zE, zD, yA, yE, yL, yQ, yT, reduceCtorEq, c31]; rfl
  · simp only [go_sem, ↓reduceIte, ↓reduceDIte, zA, zM, zL, zE, zD, yA, yE, yL, yQ, yT, reduceCtorEq, c31]; rfl
  · simp only [go_sem, ↓reduceIte, ↓reduceDIte, zA, zM, zL, zE, zD, yA, yE, yL, yQ, yT, reduceCtorEq, c31]; rfl
  · simp only [go_sem, ↓reduceIte, ↓reduceDIte, zA, zM, zL, zE, zD, yA, yE, yL, yQ, yT, reduceCtorEq, c31]; rfl
  · simp only [go_sem, ↓reduceIte, ↓reduceDIte, zA, zM, zL, zE, zD, yA, yE, yL, yQ, yT, reduceCtorEq, c31]; rfl
  · simp only [go_sem, ↓reduceIte, ↓reduceDIte, zA, zM, zL, zE, zD, yA, yE, yL, yQ, yT, reduceCtorEq, c31]; rfl
  · simp only [go_sem, ↓reduceIte, ↓reduceDIte, zA, zM, zL, zE, zD, yA, yE, yL, yQ, yT, reduceCtorEq, c31]; rfl
  · simp only [go_sem, ↓reduceIte, ↓reduceDIte, zA, zM, zL, zE, zD, yA, yE, yL, yQ, yT, reduceCtorEq, c31, n1, n2, n3, n4, n5, n6, n7, n8, n9, n10, n11, n12, n13, n14, n15]
    unfold useM
    rw [if_neg n3, if_neg n4, if_neg n5, if_neg n6, if_neg n7, if_neg n8, if_neg n9, if_neg n11, if_neg n13]
end
end Go.Proofs.YtiokmoepojdfmaaDoor
