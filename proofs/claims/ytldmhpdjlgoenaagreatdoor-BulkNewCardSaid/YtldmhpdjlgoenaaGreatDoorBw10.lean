/-
  The reference's errors; its operations on ranges.
  The reference's operations on ranges: New, Next.
-/
import Derived.Test.YtldmhpdjlgoenaaGreatDoorBw9
set_option linter.unusedVariables false
set_option linter.unusedSimpArgs false
namespace Go.Proofs.YtldmhpdjlgoenaaGreatDoor.BN
open Go.Proofs.YtldmhpdjlgoenaaGreatDoor.Eo
open Nat renaming reduceAdd → zA, reduceMul → zM, reduceLT → zL, reduceEqDiff → zE, reduceLeDiff → zD
open Int renaming reduceAdd → yA, reduceLE → yE, reduceLT → yL, reduceEq → yQ, reduceToNat → yT
noncomputable section
/-! 93: leapfrog/leapfrogref30.Has -/
@[go_sem] def c93_s0 : List SQ := [⟨some 6, none, .p (.mv (.c (.bool false)))⟩]
@[go_sem] def c93_p1 : List (List DQ × Option DQ) := [([⟨0, [(0, none)], none, .p (.mv (.t 0))⟩, ⟨1, [(7, (some 0))], none, .p (.nilck (.t 7))⟩, ⟨2, [(8, (some 1))], none, .p (.fadr 1 (.t 8))⟩, ⟨3, [(9, (some 2))], none, .r (.ld none (.t 9))⟩, ⟨4, [(10, (some 3))], none, .p (.nilck (.t 10))⟩, ⟨5, [(11, (some 4))], none, .p (.fadr 0 (.t 11))⟩, ⟨6, [(12, (some 5))], none, .r (.ld none (.t 12))⟩, ⟨7, [(0, none)], none, .p (.mv (.t 0))⟩, ⟨8, [(14, (some 7))], none, .p (.nilck (.t 14))⟩, ⟨9, [(15, (some 8))], none, .p (.fadr 0 (.t 15))⟩, ⟨10, [(16, (some 9))], none, .r (.ld none (.t 16))⟩, ⟨11, [(17, (some 10))], none, .p (.nilck (.t 17))⟩, ⟨12, [(18, (some 11))], none, .p (.fadr 16 (.t 18))⟩, ⟨13, [(19, (some 12))], none, .p (.fadr 0 (.t 19))⟩, ⟨14, [(20, (some 13))], none, .r (.ld none (.t 20))⟩, ⟨15, [(2, none)], none, .p (.mv (.t 2))⟩, ⟨16, [(21, (some 14)), (22, (some 15))], none, .p (.bin .add 3 false false (.t 21) (.t 22))⟩, ⟨17, [(13, (some 6)), (23, (some 16))], none, .p (.iadrS 1 (.t 13) (.t 23))⟩, ⟨18, [(24, (some 17))], none, .r (.ld none (.t 24))⟩, ⟨19, [(1, none)], none, .p (.mv (.t 1))⟩, ⟨20, [(26, (some 19))], none, .p (.conv .u64 (.t 26))⟩, ⟨21, [(27, (some 20))], none, .p (.bin .add 28 false true (.t 27) (.c (.int .u64 1)))⟩, ⟨22, [(25, (some 18)), (28, (some 21))], none, .p (.bin .eql 28 false false (.t 25) (.t 28))⟩, ⟨23, [(29, (some 22))], none, .p (.mv (.t 29))⟩], none)]
@[go_sem] def c93 : CF := ⟨3, (.seq (.ops c93_s0) (.seq (.drw ⟨c93_p1, [(0, 7), (1, 8), (2, 9), (3, 10), (4, 11), (5, 12), (6, 13), (7, 14), (8, 15), (9, 16), (10, 17), (11, 18), (12, 19), (13, 20), (14, 21), (15, 22), (16, 23), (17, 24), (18, 25), (19, 26), (20, 27), (21, 28), (22, 29), (23, 6)], []⟩) .ret)), [.tmp 6]⟩
/-! 135: (*leapfrog/leapfrogref16.Engine).Open -/
@[go_sem] def c135_s0 : List SQ := [⟨some 2, none, .p (.mv (.c .nils))⟩]
@[go_sem] def c135_s1 : List SQ := [⟨some 3, none, .p (.mv (.c .nils))⟩]
@[go_sem] def c135_s2 : List SQ := [⟨some 4, none, .p (.mv (.c (.int .i64 0)))⟩]
@[go_sem] def c135_s3 : List SQ := [⟨some 5, none, .p (.mv (.t 0))⟩, ⟨some 6, none, .p (.bin .neq 228 false true (.t 5) (.c .nilp))⟩, ⟨some 7, none, .p (.mv (.t 6))⟩, ⟨some 8, some (7, true), .p (.mv (.t 4))⟩, ⟨some 9, some (7, true), .p (.mv (.t 0))⟩, ⟨some 10, some (7, true), .p (.nilck (.t 9))⟩, ⟨some 11, some (7, true), .p (.fadr 2 (.t 10))⟩, ⟨some 12, some (7, true), .r (.ld none (.t 11))⟩, ⟨some 13, some (7, true), .p (.lenv (.t 12))⟩, ⟨some 14, some (7, true), .p (.bin .lss 3 false false (.t 8) (.t 13))⟩, ⟨some 15, none, .p (.pick (.t 7) (.t 14) (.c (.bool false)))⟩]
@[go_sem] def c135_s4 : List SQ := [⟨some 18, none, .p (.mv (.t 0))⟩, ⟨some 19, none, .p (.nilck (.t 18))⟩, ⟨some 20, none, .p (.fadr 2 (.t 19))⟩, ⟨some 21, none, .r (.ld none (.t 20))⟩, ⟨some 22, none, .p (.mv (.t 4))⟩, ⟨some 23, none, .p (.iadrS 3 (.t 21) (.t 22))⟩, ⟨some 24, none, .p (.fadr 2 (.t 23))⟩, ⟨some 25, none, .r (.ld none (.t 24))⟩]
@[go_sem] def c135_s5 : List SQ := [⟨some 26, none, .p (.mv (.t 3))⟩, ⟨some 27, none, .p (.mv (.t 4))⟩, ⟨some 28, none, .n (.buildS 3 1 1 [.int .i64 0] [(0, 1, (.t 27))])⟩, ⟨some 29, none, .e (.app 3 1 8 (.t 26) (.t 28))⟩, ⟨some 3, none, .p (.mv (.t 29))⟩]
@[go_sem] def c135_s6 : List SQ := [⟨some 16, none, .p (.mv (.t 4))⟩, ⟨some 17, none, .p (.bin .add 3 false true (.t 16) (.c (.int .i64 1)))⟩, ⟨some 4, none, .p (.mv (.t 17))⟩]
def c135_l7 : CC := (.seq (.seq (.ops c135_s3) (.cond (.t 15) .skip (.exit 0))) (.seq (.block 1 (.seq (.ops c135_s4) (.cond (.t 25) (.ops c135_s5) .skip))) (.ops c135_s6)))
@[go_sem] def c135_s8 : List SQ := [⟨some 30, none, .p (.mv (.t 3))⟩, ⟨some 2, none, .p (.mv (.t 30))⟩]
@[go_sem] def c135 : CF := ⟨1, (.seq (.ops c135_s0) (.seq (.ops c135_s1) (.seq (.seq (.ops c135_s2) (.block 0 (.loop c135_l7))) (.seq (.ops c135_s8) .ret)))), [.tmp 2]⟩
/-! 136: (*leapfrog/leapfrogref17.Engine).Open -/
@[go_sem] def c136_s0 : List SQ := [⟨some 2, none, .p (.mv (.c .nils))⟩]
@[go_sem] def c136_s1 : List SQ := [⟨some 3, none, .p (.mv (.c .nils))⟩]
@[go_sem] def c136_s2 : List SQ := [⟨some 4, none, .p (.mv (.c (.int .i64 0)))⟩]
@[go_sem] def c136_s3 : List SQ := [⟨some 5, none, .p (.mv (.t 0))⟩, ⟨some 6, none, .p (.bin .neq 229 false true (.t 5) (.c .nilp))⟩, ⟨some 7, none, .p (.mv (.t 6))⟩, ⟨some 8, some (7, true), .p (.mv (.t 4))⟩, ⟨some 9, some (7, true), .p (.mv (.t 0))⟩, ⟨some 10, some (7, true), .p (.nilck (.t 9))⟩, ⟨some 11, some (7, true), .p (.fadr 2 (.t 10))⟩, ⟨some 12, some (7, true), .r (.ld none (.t 11))⟩, ⟨some 13, some (7, true), .p (.lenv (.t 12))⟩, ⟨some 14, some (7, true), .p (.bin .lss 3 false false (.t 8) (.t 13))⟩, ⟨some 15, none, .p (.pick (.t 7) (.t 14) (.c (.bool false)))⟩]
@[go_sem] def c136_s4 : List SQ := [⟨some 18, none, .p (.mv (.t 0))⟩, ⟨some 19, none, .p (.nilck (.t 18))⟩, ⟨some 20, none, .p (.fadr 2 (.t 19))⟩, ⟨some 21, none, .r (.ld none (.t 20))⟩, ⟨some 22, none, .p (.mv (.t 4))⟩, ⟨some 23, none, .p (.iadrS 3 (.t 21) (.t 22))⟩, ⟨some 24, none, .p (.fadr 2 (.t 23))⟩, ⟨some 25, none, .r (.ld none (.t 24))⟩]
@[go_sem] def c136_s5 : List SQ := [⟨some 26, none, .p (.mv (.t 3))⟩, ⟨some 27, none, .p (.mv (.t 4))⟩, ⟨some 28, none, .n (.buildS 3 1 1 [.int .i64 0] [(0, 1, (.t 27))])⟩, ⟨some 29, none, .e (.app 3 1 8 (.t 26) (.t 28))⟩, ⟨some 3, none, .p (.mv (.t 29))⟩]
@[go_sem] def c136_s6 : List SQ := [⟨some 16, none, .p (.mv (.t 4))⟩, ⟨some 17, none, .p (.bin .add 3 false true (.t 16) (.c (.int .i64 1)))⟩, ⟨some 4, none, .p (.mv (.t 17))⟩]
def c136_l7 : CC := (.seq (.seq (.ops c136_s3) (.cond (.t 15) .skip (.exit 0))) (.seq (.block 1 (.seq (.ops c136_s4) (.cond (.t 25) (.ops c136_s5) .skip))) (.ops c136_s6)))
@[go_sem] def c136_s8 : List SQ := [⟨some 30, none, .p (.mv (.t 3))⟩, ⟨some 2, none, .p (.mv (.t 30))⟩]
@[go_sem] def c136 : CF := ⟨1, (.seq (.ops c136_s0) (.seq (.ops c136_s1) (.seq (.seq (.ops c136_s2) (.block 0 (.loop c136_l7))) (.seq (.ops c136_s8) .ret)))), [.tmp 2]⟩
/-! 137: (*leapfrog/leapfrogref18.Engine).Open -/
@[go_sem] def c137_s0 : List SQ := [⟨some 2, none, .p (.mv (.c .nils))⟩]
@[go_sem] def c137_s1 : List SQ := [⟨some 3, none, .p (.mv (.c .nils))⟩]
@[go_sem] def c137_s2 : List SQ := [⟨some 4, none, .p (.mv (.c (.int .i64 0)))⟩]
@[go_sem] def c137_s3 : List SQ := [⟨some 5, none, .p (.mv (.t 0))⟩, ⟨some 6, none, .p (.bin .neq 230 false true (.t 5) (.c .nilp))⟩, ⟨some 7, none, .p (.mv (.t 6))⟩, ⟨some 8, some (7, true), .p (.mv (.t 4))⟩, ⟨some 9, some (7, true), .p (.bin .lss 3 false true (.t 8) (.c (.int .i64 64)))⟩, ⟨some 10, none, .p (.pick (.t 7) (.t 9) (.c (.bool false)))⟩]
@[go_sem] def c137_s4 : List SQ := [⟨some 13, none, .p (.mv (.t 0))⟩, ⟨some 14, none, .p (.mv (.t 4))⟩, ⟨some 15, none, .p (.nilck (.t 13))⟩, ⟨some 16, none, .p (.fadr 3 (.t 15))⟩, ⟨some 17, none, .p (.iadrA 64 4 (.t 16) (.t 14))⟩, ⟨some 18, none, .p (.fadr 1 (.t 17))⟩, ⟨some 19, none, .r (.ld none (.t 18))⟩]
@[go_sem] def c137_s5 : List SQ := [⟨some 20, none, .p (.mv (.t 3))⟩, ⟨some 21, none, .p (.mv (.t 4))⟩, ⟨some 22, none, .n (.buildS 3 1 1 [.int .i64 0] [(0, 1, (.t 21))])⟩, ⟨some 23, none, .e (.app 3 1 8 (.t 20) (.t 22))⟩, ⟨some 3, none, .p (.mv (.t 23))⟩]
@[go_sem] def c137_s6 : List SQ := [⟨some 11, none, .p (.mv (.t 4))⟩, ⟨some 12, none, .p (.bin .add 3 false true (.t 11) (.c (.int .i64 1)))⟩, ⟨some 4, none, .p (.mv (.t 12))⟩]
def c137_l7 : CC := (.seq (.seq (.ops c137_s3) (.cond (.t 10) .skip (.exit 0))) (.seq (.block 1 (.seq (.ops c137_s4) (.cond (.t 19) (.ops c137_s5) .skip))) (.ops c137_s6)))
@[go_sem] def c137_s8 : List SQ := [⟨some 24, none, .p (.mv (.t 3))⟩, ⟨some 2, none, .p (.mv (.t 24))⟩]
@[go_sem] def c137 : CF := ⟨1, (.seq (.ops c137_s0) (.seq (.ops c137_s1) (.seq (.seq (.ops c137_s2) (.block 0 (.loop c137_l7))) (.seq (.ops c137_s8) .ret)))), [.tmp 2]⟩
/-! 94: (*leapfrog/leapfrogref19.Prcu).Open -/
@[go_sem] def c94_s0 : List SQ := [⟨some 2, none, .p (.mv (.c .nils))⟩]
@[go_sem] def c94_s1 : List SQ := [⟨some 3, none, .p (.mv (.t 0))⟩, ⟨some 4, none, .p (.bin .eql 100 false true (.t 3) (.c .nilp))⟩]
@[go_sem] def c94_s2 : List SQ := [⟨some 2, none, .p (.mv (.c .nils))⟩]
@[go_sem] def c94_s3 : List SQ := [⟨some 5, none, .p (.mv (.t 0))⟩, ⟨some 6, none, .p (.nilck (.t 5))⟩, ⟨some 7, none, .p (.fadr 0 (.t 6))⟩, ⟨some 8, none, .r (.ld none (.t 7))⟩]
@[go_sem] def c94_s4 : List SQ := [⟨some 10, none, .p (.bin .eql 5 false true (.t 8) (.c (.int .u8 1)))⟩, ⟨some 9, none, .p (.mv (.t 10))⟩]
@[go_sem] def c94_s5 : List SQ := [⟨some 11, none, .p (.mv (.t 0))⟩, ⟨some 12, none, .p (.nilck (.t 11))⟩, ⟨some 13, none, .p (.fadr 2 (.t 12))⟩, ⟨some 14, none, .r (.ld none (.t 13))⟩, ⟨some 15, none, .cv (.c (.fn (.func 135) [] [])) [(.t 14)]⟩, ⟨some 2, none, .p (.mv (.t 15))⟩]
@[go_sem] def c94_s6 : List SQ := [⟨some 17, none, .p (.bin .eql 5 false true (.t 8) (.c (.int .u8 2)))⟩, ⟨some 16, none, .p (.mv (.t 17))⟩]
@[go_sem] def c94_s7 : List SQ := [⟨some 18, none, .p (.mv (.t 0))⟩, ⟨some 19, none, .p (.nilck (.t 18))⟩, ⟨some 20, none, .p (.fadr 3 (.t 19))⟩, ⟨some 21, none, .r (.ld none (.t 20))⟩, ⟨some 22, none, .cv (.c (.fn (.func 136) [] [])) [(.t 21)]⟩, ⟨some 2, none, .p (.mv (.t 22))⟩]
@[go_sem] def c94_s8 : List SQ := [⟨some 23, none, .p (.mv (.t 0))⟩, ⟨some 24, none, .p (.nilck (.t 23))⟩, ⟨some 25, none, .p (.fadr 4 (.t 24))⟩, ⟨some 26, none, .r (.ld none (.t 25))⟩, ⟨some 27, none, .cv (.c (.fn (.func 137) [] [])) [(.t 26)]⟩, ⟨some 2, none, .p (.mv (.t 27))⟩]
@[go_sem] def c94 : CF := ⟨1, (.seq (.ops c94_s0) (.seq (.seq (.ops c94_s1) (.cond (.t 4) (.seq (.ops c94_s2) .ret) .skip)) (.seq (.seq (.ops c94_s3) (.block 0 (.seq (.ops c94_s4) (.cond (.t 9) (.seq (.ops c94_s5) .ret) (.seq (.ops c94_s6) (.cond (.t 16) (.seq (.ops c94_s7) .ret) .skip)))))) (.seq (.ops c94_s8) .ret)))), [.tmp 2]⟩
/-! 46: leapfrog/leapfrogref30.Free -/
@[go_sem] def c46_s0 : List SQ := [⟨some 6, none, .p (.mv (.c (.int .i64 0)))⟩]
@[go_sem] def c46_s1 : List SQ := [⟨some 10, none, .p (.mv (.t 1))⟩, ⟨some 11, none, .cv (.c (.fn (.func 36) [] [])) [(.t 10)]⟩, ⟨some 12, none, .p (.un .not (.t 11))⟩, ⟨some 9, none, .p (.mv (.t 12))⟩]
@[go_sem] def c46_s2 : List SQ := [⟨some 6, none, .p (.mv (.c (.int .i64 2)))⟩]
@[go_sem] def c46_s3 : List SQ := [⟨some 14, none, .p (.mv (.t 2))⟩, ⟨some 15, none, .p (.bin .lss 3 false true (.t 14) (.c (.int .i64 0)))⟩, ⟨some 16, none, .p (.mv (.t 15))⟩, ⟨some 17, some (16, false), .p (.mv (.t 2))⟩, ⟨some 18, some (16, false), .p (.mv (.t 0))⟩, ⟨some 19, some (16, false), .p (.nilck (.t 18))⟩, ⟨some 20, some (16, false), .p (.fadr 0 (.t 19))⟩, ⟨some 21, some (16, false), .r (.ld none (.t 20))⟩, ⟨some 22, some (16, false), .p (.nilck (.t 21))⟩, ⟨some 23, some (16, false), .p (.fadr 0 (.t 22))⟩, ⟨some 24, some (16, false), .p (.fadr 1 (.t 23))⟩, ⟨some 25, some (16, false), .r (.ld none (.t 24))⟩, ⟨some 26, some (16, false), .p (.bin .geq 3 false false (.t 17) (.t 25))⟩, ⟨some 27, none, .p (.pick (.t 16) (.c (.bool true)) (.t 26))⟩, ⟨some 13, none, .p (.mv (.t 27))⟩]
@[go_sem] def c46_s4 : List SQ := [⟨some 6, none, .p (.mv (.c (.int .i64 3)))⟩]
@[go_sem] def c46_s5 : List SQ := [⟨some 29, none, .p (.mv (.t 0))⟩, ⟨some 30, none, .p (.mv (.t 1))⟩, ⟨some 31, none, .p (.mv (.t 2))⟩, ⟨some 32, none, .cv (.c (.fn (.func 93) [] [])) [(.t 29), (.t 30), (.t 31)]⟩, ⟨some 33, none, .p (.un .not (.t 32))⟩, ⟨some 28, none, .p (.mv (.t 33))⟩]
@[go_sem] def c46_s6 : List SQ := [⟨some 6, none, .p (.mv (.c (.int .i64 8)))⟩]
@[go_sem] def c46_s7 : List SQ := [⟨some 34, none, .p (.mv (.t 0))⟩, ⟨some 35, none, .p (.nilck (.t 34))⟩, ⟨some 36, none, .p (.fadr 4 (.t 35))⟩, ⟨some 37, none, .r (.ld none (.t 36))⟩, ⟨some 38, none, .cv (.c (.fn (.func 94) [] [])) [(.t 37)]⟩, ⟨some 7, none, .p (.mv (.t 38))⟩]
@[go_sem] def c46_s8 : List SQ := [⟨some 8, none, .p (.mv (.c (.int .i64 0)))⟩]
@[go_sem] def c46_s9 : List SQ := [⟨some 39, none, .p (.mv (.t 8))⟩, ⟨some 40, none, .p (.mv (.t 7))⟩, ⟨some 41, none, .p (.lenv (.t 40))⟩, ⟨some 42, none, .p (.bin .lss 3 false false (.t 39) (.t 41))⟩]
@[go_sem] def c46_s10 : List SQ := [⟨some 45, none, .p (.mv (.t 7))⟩, ⟨some 46, none, .p (.mv (.t 8))⟩, ⟨some 47, none, .p (.iadrS 1 (.t 45) (.t 46))⟩, ⟨some 48, none, .r (.ld none (.t 47))⟩, ⟨some 49, none, .p (.mv (.t 2))⟩, ⟨some 50, none, .p (.bin .eql 3 false false (.t 48) (.t 49))⟩]
@[go_sem] def c46_s11 : List SQ := [⟨some 6, none, .p (.mv (.c (.int .i64 8)))⟩]
@[go_sem] def c46_s12 : List SQ := [⟨some 43, none, .p (.mv (.t 8))⟩, ⟨some 44, none, .p (.bin .add 3 false true (.t 43) (.c (.int .i64 1)))⟩, ⟨some 8, none, .p (.mv (.t 44))⟩]
def c46_l13 : CC := (.seq (.seq (.ops c46_s9) (.cond (.t 42) .skip (.exit 1))) (.seq (.block 2 (.seq (.ops c46_s10) (.cond (.t 50) (.seq (.ops c46_s11) .ret) .skip))) (.ops c46_s12)))
@[go_sem] def c46_s14 : List SQ := [⟨some 6, none, .p (.mv (.c (.int .i64 0)))⟩]
@[go_sem] def c46 : CF := ⟨3, (.seq (.ops c46_s0) (.seq (.block 0 (.seq (.ops c46_s1) (.cond (.t 9) (.seq (.ops c46_s2) .ret) (.seq (.ops c46_s3) (.cond (.t 13) (.seq (.ops c46_s4) .ret) (.seq (.ops c46_s5) (.cond (.t 28) (.seq (.ops c46_s6) .ret) .skip))))))) (.seq (.ops c46_s7) (.seq (.seq (.ops c46_s8) (.block 1 (.loop c46_l13))) (.seq (.ops c46_s14) .ret))))), [.tmp 6]⟩
/-! 47: leapfrog/leapfrogref33.Check -/
@[go_sem] def c47_s0 : List SQ := [⟨some 1, none, .n (.box 30 (.t 0))⟩, ⟨some 2, none, .p (.mv (.c (.int .i64 0)))⟩]
@[go_sem] def c47_s1 : List SQ := [⟨some 4, none, .p (.fadr 1 (.t 1))⟩, ⟨some 5, none, .r (.ld none (.t 4))⟩, ⟨some 6, none, .p (.fadr 2 (.t 1))⟩, ⟨some 7, none, .r (.ld none (.t 6))⟩, ⟨some 8, none, .p (.bin .gtr 28 false false (.t 5) (.t 7))⟩, ⟨some 9, none, .p (.mv (.t 8))⟩, ⟨some 10, some (9, false), .p (.fadr 0 (.t 1))⟩, ⟨some 11, some (9, false), .r (.ld none (.t 10))⟩, ⟨some 12, some (9, false), .p (.bin .eql 5 false true (.t 11) (.c (.int .u8 8)))⟩, ⟨some 13, some (9, false), .p (.mv (.t 12))⟩, ⟨some 14, some (13, true), .p (.fadr 5 (.t 1))⟩, ⟨some 15, some (13, true), .r (.ld none (.t 14))⟩, ⟨some 16, some (13, true), .p (.bin .eql 28 false true (.t 15) (.c (.int .u64 0)))⟩, ⟨some 17, some (9, false), .p (.pick (.t 13) (.t 16) (.c (.bool false)))⟩, ⟨some 18, none, .p (.pick (.t 9) (.c (.bool true)) (.t 17))⟩, ⟨some 3, none, .p (.mv (.t 18))⟩]
@[go_sem] def c47_s2 : List SQ := [⟨some 2, none, .p (.mv (.c (.int .i64 13)))⟩]
@[go_sem] def c47_s3 : List SQ := [⟨some 20, none, .p (.fadr 0 (.t 1))⟩, ⟨some 21, none, .r (.ld none (.t 20))⟩, ⟨some 22, none, .p (.bin .eql 5 false true (.t 21) (.c (.int .u8 8)))⟩, ⟨some 23, none, .p (.mv (.t 22))⟩, ⟨some 24, some (23, true), .p (.fadr 2 (.t 1))⟩, ⟨some 25, some (23, true), .r (.ld none (.t 24))⟩, ⟨some 26, some (23, true), .p (.fadr 5 (.t 1))⟩, ⟨some 27, some (23, true), .r (.ld none (.t 26))⟩, ⟨some 28, some (23, true), .p (.bin .sub 28 true false (.c (.int .u64 18446744073709551615)) (.t 27))⟩, ⟨some 29, some (23, true), .p (.bin .gtr 28 false false (.t 25) (.t 28))⟩, ⟨some 30, none, .p (.pick (.t 23) (.t 29) (.c (.bool false)))⟩, ⟨some 19, none, .p (.mv (.t 30))⟩]
@[go_sem] def c47_s4 : List SQ := [⟨some 2, none, .p (.mv (.c (.int .i64 12)))⟩]
@[go_sem] def c47_s5 : List SQ := [⟨some 2, none, .p (.mv (.c (.int .i64 0)))⟩]
@[go_sem] def c47 : CF := ⟨1, (.seq (.ops c47_s0) (.seq (.block 0 (.seq (.ops c47_s1) (.cond (.t 3) (.seq (.ops c47_s2) .ret) (.seq (.ops c47_s3) (.cond (.t 19) (.seq (.ops c47_s4) .ret) .skip))))) (.seq (.ops c47_s5) .ret))), [.tmp 2]⟩
/-! 189: leapfrog/leapfrogref02.Check -/
@[go_sem] def c189_s0 : List SQ := [⟨some 1, none, .n (.box 132 (.t 0))⟩, ⟨some 2, none, .p (.mv (.c (.int .i64 0)))⟩]
@[go_sem] def c189_s1 : List SQ := [⟨some 3, none, .p (.fadr 0 (.t 1))⟩, ⟨some 4, none, .r (.ld none (.t 3))⟩, ⟨some 5, none, .p (.fadr 1 (.t 1))⟩, ⟨some 6, none, .r (.ld none (.t 5))⟩, ⟨some 7, none, .p (.bin .gtr 28 false false (.t 4) (.t 6))⟩]
@[go_sem] def c189_s2 : List SQ := [⟨some 2, none, .p (.mv (.c (.int .i64 13)))⟩]
@[go_sem] def c189_s3 : List SQ := [⟨some 2, none, .p (.mv (.c (.int .i64 0)))⟩]
@[go_sem] def c189 : CF := ⟨1, (.seq (.ops c189_s0) (.seq (.seq (.ops c189_s1) (.cond (.t 7) (.seq (.ops c189_s2) .ret) .skip)) (.seq (.ops c189_s3) .ret))), [.tmp 2]⟩
/-! 138: leapfrog/leapfrogref31.New -/
@[go_sem] def c138_s0 : List SQ := [⟨some 6, none, .n (.box 132 (.t 2))⟩, ⟨some 8, none, .p (.mv (.c .nilp))⟩, ⟨some 9, none, .p (.mv (.c (.int .i64 0)))⟩]
@[go_sem] def c138_s1 : List SQ := [⟨some 10, none, .p (.mv (.t 0))⟩, ⟨some 11, none, .p (.bin .eql 39 false true (.t 10) (.c .nilp))⟩]
@[go_sem] def c138_s2 : List SQ := [⟨some 8, none, .p (.mv (.c .nilp))⟩, ⟨some 9, none, .p (.mv (.c (.int .i64 1)))⟩]
@[go_sem] def c138_s3 : List SQ := [⟨some 12, none, .p (.mv (.t 1))⟩, ⟨some 13, none, .cv (.c (.fn (.func 36) [] [])) [(.t 12)]⟩, ⟨some 14, none, .p (.un .not (.t 13))⟩, ⟨some 15, none, .p (.mv (.t 14))⟩, ⟨some 16, some (15, false), .p (.mv (.t 3))⟩, ⟨some 17, some (15, false), .p (.bin .lss 3 false true (.t 16) (.c (.int .i64 0)))⟩, ⟨some 18, none, .p (.pick (.t 15) (.c (.bool true)) (.t 17))⟩, ⟨some 19, none, .p (.mv (.t 18))⟩, ⟨some 20, some (19, false), .p (.mv (.t 3))⟩, ⟨some 21, some (19, false), .p (.bin .gtr 3 false true (.t 20) (.c (.int .i64 255)))⟩, ⟨some 22, none, .p (.pick (.t 19) (.c (.bool true)) (.t 21))⟩]
@[go_sem] def c138_s4 : List SQ := [⟨some 8, none, .p (.mv (.c .nilp))⟩, ⟨some 9, none, .p (.mv (.c (.int .i64 2)))⟩]
@[go_sem] def c138_s5 : List SQ := [⟨some 23, none, .r (.ld (some 2) (.t 6))⟩, ⟨some 24, none, .cv (.c (.fn (.func 189) [] [])) [(.t 23)]⟩, ⟨some 25, none, .p (.bin .neq 34 false true (.t 24) (.c (.int .i64 0)))⟩]
@[go_sem] def c138_s6 : List SQ := [⟨some 8, none, .p (.mv (.c .nilp))⟩, ⟨some 9, none, .p (.mv (.c (.int .i64 13)))⟩]
@[go_sem] def c138_s7 : List SQ := [⟨some 26, none, .p (.mv (.t 0))⟩, ⟨some 27, none, .p (.mv (.t 1))⟩, ⟨some 28, none, .r (.ld (some 2) (.t 6))⟩, ⟨some 29, none, .p (.mv (.t 3))⟩, ⟨some 30, none, .p (.build [.nilp, .int .i64 0, .int .i64 0, .int .u64 0, .int .u64 0, .int .u8 0, .int .i64 0, .int .i64 0, .int .u64 0, .bool false, .int .i64 0, .int .i64 0] [(0, 1, (.t 26)), (1, 1, (.t 27)), (3, 2, (.t 28)), (2, 1, (.t 29)), (5, 1, (.c (.int .u8 2)))])⟩, ⟨some 31, none, .n (.box 257 (.t 30))⟩, ⟨some 8, none, .p (.mv (.t 31))⟩, ⟨some 9, none, .p (.mv (.c (.int .i64 0)))⟩]
@[go_sem] def c138 : CF := ⟨4, (.seq (.ops c138_s0) (.seq (.seq (.ops c138_s1) (.cond (.t 11) (.seq (.ops c138_s2) .ret) .skip)) (.seq (.seq (.ops c138_s3) (.cond (.t 22) (.seq (.ops c138_s4) .ret) .skip)) (.seq (.seq (.ops c138_s5) (.cond (.t 25) (.seq (.ops c138_s6) .ret) .skip)) (.seq (.ops c138_s7) .ret))))), [.tmp 8, .tmp 9]⟩
/-! 139: (*leapfrog/leapfrogref33.Bulk).span -/
@[go_sem] def c139_s0 : List SQ := [⟨some 2, none, .n (.new 132 [.int .u64 0, .int .u64 0])⟩]
@[go_sem] def c139_p1 : List (List DQ × Option DQ) := [([⟨0, [(0, none)], none, .p (.mv (.t 0))⟩, ⟨1, [(4, (some 0))], none, .p (.nilck (.t 4))⟩, ⟨2, [(5, (some 1))], none, .p (.fadr 3 (.t 5))⟩, ⟨3, [(6, (some 2))], none, .p (.fadr 1 (.t 6))⟩, ⟨4, [(7, (some 3))], none, .r (.ld none (.t 7))⟩, ⟨5, [(0, none)], none, .p (.mv (.t 0))⟩, ⟨6, [(9, (some 5))], none, .p (.nilck (.t 9))⟩, ⟨7, [(10, (some 6))], none, .p (.fadr 3 (.t 10))⟩, ⟨8, [(11, (some 7))], none, .p (.fadr 2 (.t 11))⟩, ⟨9, [(12, (some 8))], none, .r (.ld none (.t 12))⟩, ⟨10, [(8, (some 4)), (13, (some 9))], none, .p (.build [.int .u64 0, .int .u64 0] [(0, 1, (.t 8)), (1, 1, (.t 13))])⟩, ⟨11, [], none, .n (.new 132 [.int .u64 0, .int .u64 0])⟩], (some ⟨12, [(3, (some 11)), (14, (some 10))], none, .e (.st 2 (.t 3) (.t 14))⟩)), ([], none)]
@[go_sem] def c139_s2 : List SQ := [⟨some 15, none, .p (.mv (.t 0))⟩, ⟨some 16, none, .p (.nilck (.t 15))⟩, ⟨some 17, none, .p (.fadr 3 (.t 16))⟩, ⟨some 18, none, .p (.fadr 0 (.t 17))⟩, ⟨some 19, none, .r (.ld none (.t 18))⟩, ⟨some 20, none, .p (.bin .eql 5 false true (.t 19) (.c (.int .u8 8)))⟩]
@[go_sem] def c139_p3 : List (List DQ × Option DQ) := [([⟨0, [(3, none)], none, .p (.fadr 1 (.t 3))⟩, ⟨1, [(21, (some 0))], none, .r (.ld none (.t 21))⟩, ⟨2, [(0, none)], none, .p (.mv (.t 0))⟩, ⟨3, [(23, (some 2))], none, .p (.nilck (.t 23))⟩, ⟨4, [(24, (some 3))], none, .p (.fadr 3 (.t 24))⟩, ⟨5, [(25, (some 4))], none, .p (.fadr 5 (.t 25))⟩, ⟨6, [(26, (some 5))], none, .r (.ld none (.t 26))⟩, ⟨7, [(22, (some 1)), (27, (some 6))], none, .p (.bin .add 28 false false (.t 22) (.t 27))⟩, ⟨8, [(3, none)], none, .p (.fadr 1 (.t 3))⟩], (some ⟨9, [(29, (some 8)), (28, (some 7))], none, .e (.st 1 (.t 29) (.t 28))⟩)), ([], none)]
@[go_sem] def c139_s4 : List SQ := [⟨some 30, none, .r (.ld (some 2) (.t 3))⟩, ⟨none, none, .e (.st 2 (.t 2) (.t 30))⟩]
@[go_sem] def c139 : CF := ⟨1, (.seq (.ops c139_s0) (.seq (.drw ⟨c139_p1, [(0, 4), (1, 5), (2, 6), (3, 7), (4, 8), (5, 9), (6, 10), (7, 11), (8, 12), (9, 13), (10, 14), (11, 3)], [(⟨4, [(7, (some 3))], none, .r (.ld none (.t 7))⟩, [0]), (⟨9, [(12, (some 8))], none, .r (.ld none (.t 12))⟩, [0])]⟩) (.seq (.seq (.ops c139_s2) (.cond (.t 20) (.drw ⟨c139_p3, [(0, 21), (1, 22), (2, 23), (3, 24), (4, 25), (5, 26), (6, 27), (7, 28), (8, 29)], []⟩) .skip)) (.seq (.ops c139_s4) .ret)))), [(.cell 2 (some 2))]⟩
/-! 49: (*leapfrog/leapfrogref31.Lock).Next -/
@[go_sem] def c49_s0 : List SQ := [⟨some 2, none, .p (.mv (.c (.int .u8 0)))⟩]
@[go_sem] def c49_s1 : List SQ := [⟨some 3, none, .p (.mv (.t 0))⟩, ⟨some 4, none, .p (.bin .eql 146 false true (.t 3) (.c .nilp))⟩]
@[go_sem] def c49_s2 : List SQ := [⟨some 2, none, .p (.mv (.c (.int .u8 0)))⟩]
@[go_sem] def c49_s3 : List SQ := [⟨some 5, none, .p (.mv (.t 0))⟩, ⟨some 6, none, .p (.nilck (.t 5))⟩, ⟨some 7, none, .p (.fadr 5 (.t 6))⟩, ⟨some 8, none, .r (.ld none (.t 7))⟩, ⟨some 2, none, .p (.mv (.t 8))⟩]
@[go_sem] def c49 : CF := ⟨1, (.seq (.ops c49_s0) (.seq (.seq (.ops c49_s1) (.cond (.t 4) (.seq (.ops c49_s2) .ret) .skip)) (.seq (.ops c49_s3) .ret))), [.tmp 2]⟩

theorem w93 (P : Program) {call : CallE} {h : H} {B : Nat} {c : CfgT} {p : PlT} {M W R : Nat} {ws : List Int} {lg : AV} {n : Nat} (hb : RBaseH h B c p M W R) (ho : p.ow = 0) (m : RMem h M W ws lg) (hn2 : n ≤ 64) (hw : OwnW ws n) {t : Int} (t0 : 0 ≤ t) (t1 : t < 64) {i : Nat} (hi : i < n) :
    WF P call c93 [.ptr B 0, .int .i64 t, .int .i64 (i : Int)] h fun v h' => v = .bool (decide ((i : Int) = 0 ∧ t = 0)) ∧ h' = h := by
  obtain ⟨⟨L, P', Tw, vv, lv, cv', gB, hL⟩, _, lt⟩ := hb
  obtain ⟨cv, hv, wv, wl, wcs, gL, o1, oh, ow, ew⟩ := hL.ex
  have gM := m.g
  have gW := m.w
  have hx := hw i hi
  have hlt := (List.getElem?_eq_some_iff.1 hx).1
  have e1 : (i : Int) < (ws.length : Int) := by omega
  have f1 : fw .u64 t = t := fwU (by omega) (by omega)
  have f2 : fw .u64 (t + 1) = t + 1 := fwU (by omega) (by omega)
  have f3 : fw .i64 (i : Int) = (i : Int) := fwI (by omega) (by omega)
  cases i with
  | zero =>
    have hx1 : (uL ws)[0]? = some (.int .u64 1) := by unfold uL; rw [List.getElem?_map, hx]; rfl
    have e1' : (0 : Int) < (ws.length : Int) := by omega
    have f3' : fw .i64 0 = 0 := rfl
    simp only [go_sem, ↓reduceIte, ↓reduceDIte, zA, zM, zL, zE, zD, yA, yE, yL, yQ, yT, reduceCtorEq, c93, gM, gW, gB, gL, cfgC, plC, ho, f1, f2, f3', Int.zero_add, e1', Nat.mul_one, hx1]
    by_cases z : t = 0
    · subst z; rfl
    · have z1 : ¬ (1 : Int) = t + 1 := by omega
      simp [z, z1]
  | succ i =>
    have hx1 : (uL ws)[i + 1]? = some (.int .u64 0) := by unfold uL; rw [List.getElem?_map, hx]; rfl
    have z1 : ¬ (0 : Int) = t + 1 := by omega
    have z2 : ¬ (((i + 1 : Nat) : Int) = 0) := by omega
    simp only [go_sem, ↓reduceIte, ↓reduceDIte, zA, zM, zL, zE, zD, yA, yE, yL, yQ, yT, reduceCtorEq, c93, gM, gW, gB, gL, cfgC, plC, ho, f1, f2, f3, Int.zero_add, e1, Nat.mul_one, hx1, z1, z2]
def IRO (h0 : H) (G n : Nat) (k : Nat) (tm : T AV) (h : H) : Prop := h = h0 ∧ tm.get 0 = some (.ptr G 0) ∧ tm.get 3 = some .nils ∧ ∃ i : Nat, i + k = n ∧ tm.get 4 = some (.int .i64 (i : Int))

theorem w135 (P : Program) [PT P] {call : CallE} {h : H} {G N M n : Nat} {base : Int} (gG : h.t.get G = some (rowL [.ptr M 0, .int .i64 base, .sl N 0 n 3 (some n)] 302)) (gN : h.t.get N = some (.row (putList 0 (rep [.int .u64 0, .bool false, .bool false] (n * 3)) T.e) (n * 3) 396)) (hn : n ≤ 64) :
    WF P call c135 [.ptr G 0] h fun v h' => v = .nils ∧ h' = h := by
  simp only [go_sem, ↓reduceIte, ↓reduceDIte, zA, zM, zL, zE, zD, yA, yE, yL, yQ, yT, reduceCtorEq, c135]
  refine loop_in (IRO h G n) (fun tm h' => h' = h ∧ tm.get 3 = some .nils) (fun _ _ => False) (fun k tm h' hI => ?_) (fun tm2 h2 hR => ?_) (fun _ _ hh => hh.elim) n _ _
    ⟨rfl, by simp [go_sem], by simp [go_sem], 0, by omega, by simp [go_sem]⟩
  · obtain ⟨rfl, t0, t3, i, hik, t4⟩ := hI
    cases k with
    | zero =>
      have e1 : ¬ (i : Int) < (n : Int) := by omega
      simp only [go_sem, ↓reduceIte, ↓reduceDIte, zA, zM, zL, zE, zD, yA, yE, yL, yQ, yT, reduceCtorEq, c135_l7, t0, t4, gG, e1, t3]
    | succ k =>
      have e1 : (i : Int) < (n : Int) := by omega
      have f1 : fw .i64 ((i : Int) + 1) = (i : Int) + 1 := fwI (by omega) (by omega)
      have e3 : ((i + 1 : Nat) : Int) = (i : Int) + 1 := rfl
      have hg := rep_get [.int .u64 0, .bool false, .bool false] 3 rfl n i 2 (by omega) (by decide)
      simp only [go_sem, ↓reduceIte, ↓reduceDIte, zA, zM, zL, zE, zD, yA, yE, yL, yQ, yT, reduceCtorEq, c135_l7, t0, t3, t4, gG, gN, e1, hg, f1]
      exact ⟨k, Nat.lt_succ_self k, rfl, by simp [go_sem, t0], by simp [go_sem, t3], i + 1, by omega, by simp [go_sem, e3]⟩
  · obtain ⟨rfl, t3⟩ := hR
    simp only [go_sem, ↓reduceIte, ↓reduceDIte, zA, zM, zL, zE, zD, yA, yE, yL, yQ, yT, reduceCtorEq, t3]

theorem w136 (P : Program) [PT P] {call : CallE} {h : H} {G N M n : Nat} {base : Int} (gG : h.t.get G = some (rowL [.ptr M 0, .int .i64 base, .sl N 0 n 3 (some n)] 303)) (gN : h.t.get N = some (.row (putList 0 (rep [.int .u64 0, .bool false, .bool false] (n * 3)) T.e) (n * 3) 396)) (hn : n ≤ 64) :
    WF P call c136 [.ptr G 0] h fun v h' => v = .nils ∧ h' = h := by
  simp only [go_sem, ↓reduceIte, ↓reduceDIte, zA, zM, zL, zE, zD, yA, yE, yL, yQ, yT, reduceCtorEq, c136]
  refine loop_in (IRO h G n) (fun tm h' => h' = h ∧ tm.get 3 = some .nils) (fun _ _ => False) (fun k tm h' hI => ?_) (fun tm2 h2 hR => ?_) (fun _ _ hh => hh.elim) n _ _
    ⟨rfl, by simp [go_sem], by simp [go_sem], 0, by omega, by simp [go_sem]⟩
  · obtain ⟨rfl, t0, t3, i, hik, t4⟩ := hI
    cases k with
    | zero =>
      have e1 : ¬ (i : Int) < (n : Int) := by omega
      simp only [go_sem, ↓reduceIte, ↓reduceDIte, zA, zM, zL, zE, zD, yA, yE, yL, yQ, yT, reduceCtorEq, c136_l7, t0, t4, gG, e1, t3]
    | succ k =>
      have e1 : (i : Int) < (n : Int) := by omega
      have f1 : fw .i64 ((i : Int) + 1) = (i : Int) + 1 := fwI (by omega) (by omega)
      have e3 : ((i + 1 : Nat) : Int) = (i : Int) + 1 := rfl
      have hg := rep_get [.int .u64 0, .bool false, .bool false] 3 rfl n i 2 (by omega) (by decide)
      simp only [go_sem, ↓reduceIte, ↓reduceDIte, zA, zM, zL, zE, zD, yA, yE, yL, yQ, yT, reduceCtorEq, c136_l7, t0, t3, t4, gG, gN, e1, hg, f1]
      exact ⟨k, Nat.lt_succ_self k, rfl, by simp [go_sem, t0], by simp [go_sem, t3], i + 1, by omega, by simp [go_sem, e3]⟩
  · obtain ⟨rfl, t3⟩ := hR
    simp only [go_sem, ↓reduceIte, ↓reduceDIte, zA, zM, zL, zE, zD, yA, yE, yL, yQ, yT, reduceCtorEq, t3]

theorem w137 (P : Program) [PT P] {call : CallE} {h : H} {G M : Nat} {ty : TypeId} {base nb : Int} (gG : h.t.get G = some (.row (putList 0 ([.ptr M 0, .int .i64 base, .int .i64 nb] ++ quads 64 [.bool false, .bool false, .int .i64 0, .int .u64 0]) T.e) 259 ty)) :
    WF P call c137 [.ptr G 0] h fun v h' => v = .nils ∧ h' = h := by
  simp only [go_sem, ↓reduceIte, ↓reduceDIte, zA, zM, zL, zE, zD, yA, yE, yL, yQ, yT, reduceCtorEq, c137]
  refine loop_in (IRO h G 64) (fun tm h' => h' = h ∧ tm.get 3 = some .nils) (fun _ _ => False) (fun k tm h' hI => ?_) (fun tm2 h2 hR => ?_) (fun _ _ hh => hh.elim) 64 _ _
    ⟨rfl, by simp [go_sem], by simp [go_sem], 0, by omega, by simp [go_sem]⟩
  · obtain ⟨rfl, t0, t3, i, hik, t4⟩ := hI
    cases k with
    | zero =>
      have e1 : ¬ (i : Int) < 64 := by omega
      simp only [go_sem, ↓reduceIte, ↓reduceDIte, zA, zM, zL, zE, zD, yA, yE, yL, yQ, yT, reduceCtorEq, c137_l7, t0, t4, gG, e1, t3]
    | succ k =>
      have e1 : (i : Int) < 64 := by omega
      have f1 : fw .i64 ((i : Int) + 1) = (i : Int) + 1 := fwI (by omega) (by omega)
      have e3 : ((i + 1 : Nat) : Int) = (i : Int) + 1 := rfl
      have hg : ([.ptr M 0, .int .i64 base, .int .i64 nb] ++ quads 64 [.bool false, .bool false, .int .i64 0, .int .u64 0])[3 + (i * 4 + 1)]? = some (.bool false) := by
        rw [List.getElem?_append_right (by simp)]
        have := quads_get [.bool false, .bool false, .int .i64 0, .int .u64 0] 4 rfl 1 (by decide) 64 i (by omega)
        simpa using this
      generalize [AV.ptr M 0, .int .i64 base, .int .i64 nb] ++ quads 64 [.bool false, .bool false, .int .i64 0, .int .u64 0] = gcs at gG hg
      simp only [go_sem, ↓reduceIte, ↓reduceDIte, zA, zM, zL, zE, zD, yA, yE, yL, yQ, yT, reduceCtorEq, c137_l7, t0, t3, t4, gG, e1, hg, f1]
      exact ⟨k, Nat.lt_succ_self k, rfl, by simp [go_sem, t0], by simp [go_sem, t3], i + 1, by omega, by simp [go_sem, e3]⟩
  · obtain ⟨rfl, t3⟩ := hR
    simp only [go_sem, ↓reduceIte, ↓reduceDIte, zA, zM, zL, zE, zD, yA, yE, yL, yQ, yT, reduceCtorEq, t3]
theorem w94 (P : Program) [PT P] {call : CallE} (h135 : ∀ h G N M n base, h.t.get G = some (rowL [.ptr M 0, .int .i64 base, .sl N 0 n 3 (some n)] 302) → h.t.get N = some (.row (putList 0 (rep [.int .u64 0, .bool false, .bool false] (n * 3)) T.e) (n * 3) 396) → n ≤ 64 → call 135 [.ptr G 0] h = some (.nils, h))
    (h136 : ∀ h G N M n base, h.t.get G = some (rowL [.ptr M 0, .int .i64 base, .sl N 0 n 3 (some n)] 303) → h.t.get N = some (.row (putList 0 (rep [.int .u64 0, .bool false, .bool false] (n * 3)) T.e) (n * 3) 396) → n ≤ 64 → call 136 [.ptr G 0] h = some (.nils, h))
    (h137 : ∀ h G M ty base nb, h.t.get G = some (.row (putList 0 ([.ptr M 0, .int .i64 base, .int .i64 nb] ++ quads 64 [.bool false, .bool false, .int .i64 0, .int .u64 0]) T.e) 259 ty) → call 137 [.ptr G 0] h = some (.nils, h))
    {h : H} {R n : Nat} (hR : RPrcu h R n) (hn : n ≤ 64) : WF P call c94 [.ptr R 0] h fun v h' => v = .nils ∧ h' = h := by
  cases hR with
  | a G N M base gR gG gN lR lG lN =>
    have k := h135 h G N M n base gG gN hn
    simp only [go_sem, ↓reduceIte, ↓reduceDIte, zA, zM, zL, zE, zD, yA, yE, yL, yQ, yT, reduceCtorEq, c94, gR, k]
  | b G N M base gR gG gN lR lG lN =>
    have k := h136 h G N M n base gG gN hn
    simp only [go_sem, ↓reduceIte, ↓reduceDIte, zA, zM, zL, zE, zD, yA, yE, yL, yQ, yT, reduceCtorEq, c94, gR, k]
  | c G M base nb ty gR gG hty lR lG =>
    have k := h137 h G M ty base nb gG
    simp only [go_sem, ↓reduceIte, ↓reduceDIte, zA, zM, zL, zE, zD, yA, yE, yL, yQ, yT, reduceCtorEq, c94, gR, k]
/-- the errors that the thread and the slot give -/
def errF (n : Nat) (t s : Int) : Int := if t < 0 ∨ 64 ≤ t then 2 else if s < 0 ∨ (n : Int) ≤ s then 3 else if ¬ (s = 0 ∧ t = 0) then 8 else 0
def F93 (call : CallE) : Prop := ∀ h B c p M W R (ws : List Int) lg (n : Nat) (t : Int) (i : Nat), RBaseH h B c p M W R → p.ow = 0 → RMem h M W ws lg → n ≤ 64 → OwnW ws n → 0 ≤ t → t < 64 → i < n → call 93 [.ptr B 0, .int .i64 t, .int .i64 (i : Int)] h = some (.bool (decide ((i : Int) = 0 ∧ t = 0)), h)
def F94 (call : CallE) : Prop := ∀ h R n, RPrcu h R n → n ≤ 64 → call 94 [.ptr R 0] h = some (.nils, h)
theorem w46 (P : Program) {call : CallE} (h36 : F36 call) (h93 : F93 call) (h94 : F94 call) {h : H} {B : Nat} {c : CfgT} {p : PlT} {M W R : Nat} {ws : List Int} {lg : AV} {n : Nat} (hs : c.slots = (n : Int)) (hb : RBaseH h B c p M W R) (ho : p.ow = 0) (m : RMem h M W ws lg) (hn2 : n ≤ 64) (hw : OwnW ws n) {t s : Int} :
    WF P call c46 [.ptr B 0, .int .i64 t, .int .i64 s] h fun v h' => v = .int .i64 (errF n t s) ∧ h' = h := by
  have hb0 := hb
  obtain ⟨⟨L, P', Tw, vv, lv, cv', gB, hL⟩, ⟨n', hn', hR⟩, lt⟩ := hb
  obtain ⟨cv, hv, wv, wl, wcs, gL, o1, oh, ow, ew⟩ := hL.ex
  have k36 := h36 h t
  by_cases a0 : 0 ≤ t ∧ t < 64
  case neg =>
    have eF : errF n t s = 2 := by unfold errF; rw [if_pos (by omega)]
    rw [eF]
    simp only [go_sem, ↓reduceIte, ↓reduceDIte, zA, zM, zL, zE, zD, yA, yE, yL, yQ, yT, reduceCtorEq, c46, k36, a0]
  by_cases b0 : s < 0
  · have eF : errF n t s = 3 := by unfold errF; rw [if_neg (by omega), if_pos (by omega)]
    rw [eF]
    simp only [go_sem, ↓reduceIte, ↓reduceDIte, zA, zM, zL, zE, zD, yA, yE, yL, yQ, yT, reduceCtorEq, c46, k36, a0, b0]
  by_cases b1 : s < (n : Int)
  case neg =>
    have eF : errF n t s = 3 := by unfold errF; rw [if_neg (by omega), if_pos (by omega)]
    rw [eF]
    simp only [go_sem, ↓reduceIte, ↓reduceDIte, zA, zM, zL, zE, zD, yA, yE, yL, yQ, yT, reduceCtorEq, c46, k36, a0, b0, b1, gB, gL, cfgC, plC, hs]
  obtain ⟨i, rfl⟩ : ∃ i : Nat, s = (i : Int) := ⟨s.toNat, by omega⟩
  have k93 := h93 h B c p M W R ws lg n t i hb0 ho m hn2 hw a0.1 a0.2 (by omega)
  have k94 := h94 h R n' hR (by omega)
  by_cases z : (i : Int) = 0 ∧ t = 0
  case neg =>
    have eF : errF n t (i : Int) = 8 := by unfold errF; rw [if_neg (by omega), if_neg (by omega), if_pos z]
    rw [decide_eq_false z] at k93
    rw [eF]
    simp only [go_sem, ↓reduceIte, ↓reduceDIte, zA, zM, zL, zE, zD, yA, yE, yL, yQ, yT, reduceCtorEq, c46, k36, a0, b0, b1, gB, gL, cfgC, plC, hs, k93]
  have eF : errF n t (i : Int) = 0 := by unfold errF; rw [if_neg (by omega), if_neg (by omega), if_neg (by omega)]
  rw [eF]
  obtain ⟨z1, rfl⟩ := z
  obtain rfl : i = 0 := by omega
  rw [show ((0 : Nat) : Int) = 0 from rfl] at k93
  have b1' : (0 : Int) < (n : Int) := by omega
  have b2 : ¬ (n : Int) ≤ 0 := by omega
  simp only [go_sem, ↓reduceIte, ↓reduceDIte, zA, zM, zL, zE, zD, yA, yE, yL, yQ, yT, reduceCtorEq, c46, k36, b1', b2, gB, gL, cfgC, plC, hs, k93, k94]
  refine unroll 1 ?_
  simp only [go_sem, ↓reduceIte, ↓reduceDIte, zA, zM, zL, zE, zD, yA, yE, yL, yQ, yT, reduceCtorEq, c46_l13]
/-- the errors that the operation gives -/
def errO (o : OpT) : Int := if o.hi < o.key ∨ o.kd = 8 ∧ o.bY = 0 then 13 else if o.kd = 8 ∧ 18446744073709551615 - o.hi < o.bY then 12 else 0
theorem w47 (P : Program) {call : CallE} {h : H} {o : OpT} (ou : OpU o) : WF P call c47 [.agg (opC o)] h fun v h' => v = .int .i64 (errO o) ∧ StepN h h' := by
  have b1 := ou.bY
  unfold inU at b1
  have f1 : fw .u64 (18446744073709551615 - o.bY) = 18446744073709551615 - o.bY := fwU (by omega) (by omega)
  have st := StepN.new h (.row (putList 0 (opC o) T.e) 7 30)
  unfold errO
  by_cases a : o.hi < o.key
  · simp only [go_sem, ↓reduceIte, ↓reduceDIte, zA, zM, zL, zE, zD, yA, yE, yL, yQ, yT, reduceCtorEq, c47, opC, a]
    exact StepN.new h _
  by_cases k8 : o.kd = 8
  · by_cases b0 : o.bY = 0
    · simp only [go_sem, ↓reduceIte, ↓reduceDIte, zA, zM, zL, zE, zD, yA, yE, yL, yQ, yT, reduceCtorEq, c47, opC, a, k8, b0]
      exact StepN.new h _
    · by_cases d : 18446744073709551615 - o.hi < o.bY
      · have d' : 18446744073709551615 - o.bY < o.hi := by omega
        simp only [go_sem, ↓reduceIte, ↓reduceDIte, zA, zM, zL, zE, zD, yA, yE, yL, yQ, yT, reduceCtorEq, c47, opC, a, k8, b0, f1, d, d']
        exact StepN.new h _
      · have d' : ¬ 18446744073709551615 - o.bY < o.hi := by omega
        simp only [go_sem, ↓reduceIte, ↓reduceDIte, zA, zM, zL, zE, zD, yA, yE, yL, yQ, yT, reduceCtorEq, c47, opC, a, k8, b0, f1, d, d']
        exact StepN.new h _
  · simp only [go_sem, ↓reduceIte, ↓reduceDIte, zA, zM, zL, zE, zD, yA, yE, yL, yQ, yT, reduceCtorEq, c47, opC, a, k8]
    exact StepN.new h _
theorem w189 (P : Program) {call : CallE} {h : H} (lo hi : Int) (hv : ¬ hi < lo) : WF P call c189 [.agg [.int .u64 lo, .int .u64 hi]] h fun v h' => v = .int .i64 0 ∧ StepN h h' := by
  simp only [go_sem, ↓reduceIte, ↓reduceDIte, zA, zM, zL, zE, zD, yA, yE, yL, yQ, yT, reduceCtorEq, c189, hv]
  exact StepN.new h _
/-- the reference's lock of a range, at its first step -/
def RLockO (h : H) (L : Nat) : Prop := ∃ lc n, h.t.get L = some (.row (putList 0 lc T.e) n 257) ∧ lc[5]? = some (.int .u8 2)
def F189 (call : CallE) : Prop := ∀ h (lo hi : Int), ¬ hi < lo → ∃ v h', call 189 [.agg [.int .u64 lo, .int .u64 hi]] h = some (v, h') ∧ (v = .int .i64 0 ∧ StepN h h')
theorem w138 (P : Program) [PT P] {call : CallE} (h36 : F36 call) (h189 : F189 call) {h : H} {B : Nat} {t lo hi tr : Int} (t0 : 0 ≤ t) (t1 : t < 64) (r0 : 0 ≤ tr) (r1 : tr ≤ 255) (hv : ¬ hi < lo) :
    WF P call c138 [.ptr B 0, .int .i64 t, .agg [.int .u64 lo, .int .u64 hi], .int .i64 tr] h fun v h' => StepN h h' ∧ ∃ L, v = .tup [.ptr L 0, .int .i64 0] ∧ L < h'.next ∧ h.next ≤ L ∧ RLockO h' L := by
  have e1 : 0 ≤ t ∧ t < 64 := ⟨t0, t1⟩
  have e2 : ¬ tr < 0 := by omega
  have e3 : ¬ 255 < tr := by omega
  have k36 := h36 ⟨h.next + 1, h.t.set h.next (.row (putList 0 [.int .u64 lo, .int .u64 hi] T.e) 2 132)⟩ t
  simp only [go_sem, ↓reduceIte, ↓reduceDIte, zA, zM, zL, zE, zD, yA, yE, yL, yQ, yT, reduceCtorEq, c138, k36, e1, e2, e3]
  refine opt_by (h189 _ lo hi hv) fun v1 h1 p1 => ?_
  obtain ⟨rfl, st⟩ := p1
  have g0 := st.old h.next (Nat.lt_succ_self _)
  simp only [go_sem, ↓reduceIte, ↓reduceDIte, zA, zM, zL, zE, zD, yA, yE, yL, yQ, yT, reduceCtorEq] at g0
  have nx : h.next + 1 ≤ h1.next := st.next
  simp only [go_sem, ↓reduceIte, ↓reduceDIte, zA, zM, zL, zE, zD, yA, yE, yL, yQ, yT, reduceCtorEq, g0]
  refine ⟨⟨by show h.next ≤ h1.next + 1; omega, fun b hb => ?_⟩, h1.next, rfl, Nat.lt_succ_self _, by omega, _, _, by simp only [go_sem, ↓reduceIte, ↓reduceDIte, zA, zM, zL, zE, zD, yA, yE, yL, yQ, yT, reduceCtorEq]; rfl, rfl⟩
  have q1 : ¬ b = h1.next := by omega
  have q3 : ¬ b = h.next := by omega
  have := st.old b (by show b < h.next + 1; omega)
  simp only [go_sem, ↓reduceIte, ↓reduceDIte, zA, zM, zL, zE, zD, yA, yE, yL, yQ, yT, reduceCtorEq, q3] at this
  simp only [go_sem, ↓reduceIte, ↓reduceDIte, zA, zM, zL, zE, zD, yA, yE, yL, yQ, yT, reduceCtorEq, q1, this]
theorem w139 (P : Program) {call : CallE} {h : H} {D : Nat} {dc : List AV} {o : OpT} {x0 x1 x2 : AV} {rest : List AV} (hD : D < h.next) (g : h.t.get D = some (.row (putList 0 ([x0, x1, x2] ++ (opC o ++ rest)) T.e) 35 156)) (ou : OpU o) (hov : ¬ (o.kd = 8 ∧ 18446744073709551615 - o.hi < o.bY)) :
    WF P call c139 [.ptr D 0] h fun v h' => v = .agg [.int .u64 o.key, .int .u64 (if o.kd = 8 then o.hi + o.bY else o.hi)] ∧ StepN h h' := by
  have q1 : ¬ D = h.next := by omega
  have q2 : ¬ D = h.next + 1 := by omega
  have n1 : ¬ h.next = h.next + 1 := by omega
  have n2 : ¬ h.next + 1 = h.next := by omega
  have b1 := ou.bY
  have b2 := ou.hi
  unfold inU at b1 b2
  have st3 : ∀ x y z, StepN h ⟨h.next + 2, (((h.t.set h.next x).set (h.next + 1) y).set h.next z)⟩ := fun x y z => ⟨Nat.le_add_right _ _, fun b hb => by
    have e1 : ¬ b = h.next := by omega
    have e2 : ¬ b = h.next + 1 := by omega
    simp only [go_sem, ↓reduceIte, ↓reduceDIte, zA, zM, zL, zE, zD, yA, yE, yL, yQ, yT, reduceCtorEq, e1, e2]⟩
  by_cases k8 : o.kd = 8
  · have f1 : fw .u64 (o.hi + o.bY) = o.hi + o.bY := fwU (by omega) (by omega)
    simp only [go_sem, ↓reduceIte, ↓reduceDIte, zA, zM, zL, zE, zD, yA, yE, yL, yQ, yT, reduceCtorEq, c139, g, opC, q1, q2, n1, n2, k8, f1]
    exact st3 _ _ _
  · simp only [go_sem, ↓reduceIte, ↓reduceDIte, zA, zM, zL, zE, zD, yA, yE, yL, yQ, yT, reduceCtorEq, c139, g, opC, q1, q2, n1, n2, k8]
    exact st3 _ _ _
theorem w49 (P : Program) [PT P] {call : CallE} {h : H} {L : Nat} (hL : RLockO h L) : WF P call c49 [.ptr L 0] h fun v h' => v = .int .u8 2 ∧ h' = h := by
  obtain ⟨lc, n, gl, l5⟩ := hL
  simp only [go_sem, ↓reduceIte, ↓reduceDIte, zA, zM, zL, zE, zD, yA, yE, yL, yQ, yT, reduceCtorEq, c49, gl, l5]
end
end Go.Proofs.YtldmhpdjlgoenaaGreatDoor.BN

namespace Go.Proofs.YtldmhpdjlgoenaaGreatDoor.BN
open Go.Proofs.YtldmhpdjlgoenaaGreatDoor.Eo
open Nat renaming reduceAdd → zA, reduceMul → zM, reduceLT → zL, reduceEqDiff → zE, reduceLeDiff → zD
open Int renaming reduceAdd → yA, reduceLE → yE, reduceLT → yL, reduceEq → yQ, reduceToNat → yT
noncomputable section
/-! 95: (*leapfrog/leapfrogref33.Bulk).begin -/
@[go_sem] def c95_s0 : List SQ := [⟨some 6, none, .p (.mv (.t 0))⟩, ⟨some 7, none, .p (.nilck (.t 6))⟩, ⟨some 8, none, .p (.fadr 11 (.t 7))⟩, ⟨some 9, none, .r (.ld none (.t 8))⟩, ⟨some 10, none, .p (.lenv (.t 9))⟩, ⟨some 11, none, .p (.bin .eql 3 false true (.t 10) (.c (.int .i64 0)))⟩]
@[go_sem] def c95_p1 : List (List DQ × Option DQ) := [([⟨0, [(0, none)], none, .p (.mv (.t 0))⟩, ⟨1, [(12, (some 0))], none, .p (.nilck (.t 12))⟩, ⟨2, [(13, (some 1))], none, .p (.fadr 11 (.t 13))⟩, ⟨3, [(14, (some 2))], none, .r (.ld none (.t 14))⟩, ⟨4, [(15, (some 3))], none, .p (.iadrS 6 (.t 15) (.c (.int .i64 0)))⟩, ⟨5, [(16, (some 4))], none, .r (.ld (some 6) (.t 16))⟩, ⟨6, [(0, none)], none, .p (.mv (.t 0))⟩, ⟨7, [(18, (some 6))], none, .p (.nilck (.t 18))⟩, ⟨8, [(19, (some 7))], none, .p (.fadr 0 (.t 19))⟩, ⟨9, [(20, (some 8))], none, .r (.ld none (.t 20))⟩, ⟨10, [(0, none)], none, .p (.mv (.t 0))⟩, ⟨11, [(22, (some 10))], none, .p (.nilck (.t 22))⟩, ⟨12, [(23, (some 11))], none, .p (.fadr 1 (.t 23))⟩, ⟨13, [(24, (some 12))], none, .r (.ld none (.t 24))⟩, ⟨14, [(0, none)], none, .p (.mv (.t 0))⟩, ⟨15, [(26, (some 14))], none, .p (.nilck (.t 26))⟩, ⟨16, [(27, (some 15))], none, .p (.fadr 0 (.t 27))⟩, ⟨17, [(28, (some 16))], none, .r (.ld none (.t 28))⟩, ⟨18, [(29, (some 17))], none, .p (.nilck (.t 29))⟩, ⟨19, [(30, (some 18))], none, .p (.fadr 0 (.t 30))⟩, ⟨20, [(31, (some 19))], none, .r (.ld none (.t 31))⟩, ⟨21, [(32, (some 20))], none, .p (.nilck (.t 32))⟩, ⟨22, [(33, (some 21))], none, .p (.fadr 0 (.t 33))⟩, ⟨23, [(34, (some 22))], none, .r (.ld (some 16) (.t 34))⟩, ⟨24, [], none, .n (.new 159 [.int .i64 0, .int .i64 0, .int .u64 0, .int .u8 0, .int .i64 0, .int .u64 0])⟩, ⟨25, [], none, .n (.new 27 [.int .i64 0, .int .i64 0, .int .u8 0, .int .i64 0, .int .u8 0, .int .i64 0, .nils, .int .i64 0, .int .i64 0, .int .i64 0, .int .i64 0, .int .i64 0, .int .i64 0, .int .i64 0, .int .i64 0, .int .i64 0])⟩], (some ⟨26, [(2, (some 24)), (17, (some 5))], none, .e (.st 6 (.t 2) (.t 17))⟩)), ([⟨27, [(21, (some 9))], none, .p (.mv (.t 21))⟩, ⟨28, [(25, (some 13))], none, .p (.mv (.t 25))⟩], (some ⟨29, [(5, (some 25)), (35, (some 23))], none, .e (.st 16 (.t 5) (.t 35))⟩)), ([], none)]
@[go_sem] def c95_s2 : List SQ := [⟨some 36, none, .p (.fadr 0 (.t 2))⟩, ⟨some 37, none, .r (.ld none (.t 36))⟩]
@[go_sem] def c95_s3 : List SQ := [⟨some 39, none, .p (.bin .eql 3 false true (.t 37) (.c (.int .i64 1)))⟩, ⟨some 38, none, .p (.mv (.t 39))⟩]
@[go_sem] def c95_p4 : List (List DQ × Option DQ) := [([⟨0, [(0, none)], none, .p (.mv (.t 0))⟩, ⟨1, [(3, none)], none, .p (.mv (.t 3))⟩, ⟨2, [(4, none)], none, .p (.mv (.t 4))⟩, ⟨3, [(0, none)], none, .p (.mv (.t 0))⟩, ⟨5, [(5, none)], none, .p (.fadr 14 (.t 5))⟩, ⟨6, [(46, (some 5))], none, .r (.ld none (.t 46))⟩], (some ⟨4, [(44, (some 3))], none, .cv (.c (.fn (.func 139) [] [])) [(.t 44)]⟩)), ([], (some ⟨7, [(42, (some 1)), (43, (some 2)), (45, (some 4)), (47, (some 6))], none, .cv (.c (.fn (.func 138) [] [])) [(.t 42), (.t 43), (.t 45), (.t 47)]⟩)), ([⟨8, [(48, (some 7))], none, .p (.mv (.t 48))⟩, ⟨9, [(40, (some 8))], none, .p (.extr (.t 40) 0)⟩, ⟨10, [(40, (some 8))], none, .p (.extr (.t 40) 1)⟩, ⟨11, [(41, (some 0))], none, .p (.nilck (.t 41))⟩, ⟨12, [(51, (some 11))], none, .p (.fadr 12 (.t 51))⟩], (some ⟨13, [(52, (some 12)), (49, (some 9))], none, .e (.st 1 (.t 52) (.t 49))⟩)), ([], none)]
@[go_sem] def c95_s5 : List SQ := [⟨some 54, none, .p (.bin .eql 3 false true (.t 37) (.c (.int .i64 2)))⟩, ⟨some 53, none, .p (.mv (.t 54))⟩]
@[go_sem] def c95_p6 : List (List DQ × Option DQ) := [([⟨0, [(0, none)], none, .p (.mv (.t 0))⟩, ⟨1, [(3, none)], none, .p (.mv (.t 3))⟩, ⟨2, [(4, none)], none, .p (.mv (.t 4))⟩, ⟨3, [(0, none)], none, .p (.mv (.t 0))⟩, ⟨4, [(59, (some 3))], none, .p (.nilck (.t 59))⟩, ⟨5, [(60, (some 4))], none, .p (.fadr 2 (.t 60))⟩, ⟨6, [(61, (some 5))], none, .r (.ld none (.t 61))⟩, ⟨7, [(2, none)], none, .p (.fadr 1 (.t 2))⟩, ⟨8, [(63, (some 7))], none, .r (.ld none (.t 63))⟩], (some ⟨9, [(57, (some 1)), (58, (some 2)), (62, (some 6)), (64, (some 8))], none, .cv (.c (.fn (.func 140) [] [])) [(.t 57), (.t 58), (.t 62), (.t 64)]⟩)), ([⟨10, [(65, (some 9))], none, .p (.mv (.t 65))⟩, ⟨11, [(55, (some 10))], none, .p (.extr (.t 55) 0)⟩, ⟨12, [(55, (some 10))], none, .p (.extr (.t 55) 1)⟩, ⟨13, [(56, (some 0))], none, .p (.nilck (.t 56))⟩, ⟨14, [(68, (some 13))], none, .p (.fadr 13 (.t 68))⟩], (some ⟨15, [(69, (some 14)), (66, (some 11))], none, .e (.st 1 (.t 69) (.t 66))⟩)), ([], none)]
@[go_sem] def c95_s7 : List SQ := [⟨some 71, none, .p (.bin .eql 3 false true (.t 37) (.c (.int .i64 3)))⟩, ⟨some 70, none, .p (.mv (.t 71))⟩]
@[go_sem] def c95_p8 : List (List DQ × Option DQ) := [([⟨0, [(0, none)], none, .p (.mv (.t 0))⟩, ⟨1, [(3, none)], none, .p (.mv (.t 3))⟩, ⟨2, [(4, none)], none, .p (.mv (.t 4))⟩, ⟨3, [(2, none)], none, .p (.fadr 1 (.t 2))⟩, ⟨4, [(76, (some 3))], none, .r (.ld none (.t 76))⟩, ⟨5, [(0, none)], none, .p (.mv (.t 0))⟩, ⟨6, [(78, (some 5))], none, .p (.nilck (.t 78))⟩, ⟨7, [(79, (some 6))], none, .p (.fadr 3 (.t 79))⟩, ⟨8, [(80, (some 7))], none, .p (.fadr 1 (.t 80))⟩, ⟨9, [(81, (some 8))], none, .r (.ld none (.t 81))⟩], (some ⟨10, [(74, (some 1)), (75, (some 2)), (77, (some 4)), (82, (some 9))], none, .cv (.c (.fn (.func 141) [] [])) [(.t 74), (.t 75), (.t 77), (.t 82)]⟩)), ([⟨11, [(83, (some 10))], none, .p (.mv (.t 83))⟩, ⟨12, [(72, (some 11))], none, .p (.extr (.t 72) 0)⟩, ⟨13, [(72, (some 11))], none, .p (.extr (.t 72) 1)⟩, ⟨14, [(73, (some 0))], none, .p (.nilck (.t 73))⟩, ⟨15, [(86, (some 14))], none, .p (.fadr 14 (.t 86))⟩], (some ⟨16, [(87, (some 15)), (84, (some 12))], none, .e (.st 1 (.t 87) (.t 84))⟩)), ([], none)]
@[go_sem] def c95_s9 : List SQ := [⟨some 89, none, .p (.bin .eql 3 false true (.t 37) (.c (.int .i64 8)))⟩, ⟨some 88, none, .p (.mv (.t 89))⟩]
@[go_sem] def c95_p10 : List (List DQ × Option DQ) := [([⟨0, [(0, none)], none, .p (.mv (.t 0))⟩, ⟨1, [(3, none)], none, .p (.mv (.t 3))⟩, ⟨2, [(92, (some 1))], none, .p (.nilck (.t 92))⟩, ⟨3, [(93, (some 2))], none, .p (.fadr 2 (.t 93))⟩, ⟨4, [(94, (some 3))], none, .r (.ld none (.t 94))⟩, ⟨5, [(4, none)], none, .p (.mv (.t 4))⟩, ⟨6, [(2, none)], none, .p (.fadr 1 (.t 2))⟩, ⟨7, [(97, (some 6))], none, .r (.ld none (.t 97))⟩, ⟨8, [(5, none)], none, .p (.fadr 14 (.t 5))⟩, ⟨9, [(99, (some 8))], none, .r (.ld none (.t 99))⟩], (some ⟨10, [(95, (some 4)), (96, (some 5)), (98, (some 7)), (100, (some 9))], none, .cv (.c (.fn (.func 142) [] [])) [(.t 95), (.t 96), (.t 98), (.t 100)]⟩)), ([⟨11, [(101, (some 10))], none, .p (.mv (.t 101))⟩, ⟨12, [(90, (some 11))], none, .p (.extr (.t 90) 0)⟩, ⟨13, [(90, (some 11))], none, .p (.extr (.t 90) 1)⟩, ⟨14, [(91, (some 0))], none, .p (.nilck (.t 91))⟩, ⟨15, [(104, (some 14))], none, .p (.fadr 15 (.t 104))⟩], (some ⟨16, [(105, (some 15)), (102, (some 12))], none, .e (.st 1 (.t 105) (.t 102))⟩)), ([], none)]
@[go_sem] def c95_s11 : List SQ := [⟨some 107, none, .p (.bin .eql 3 false true (.t 37) (.c (.int .i64 9)))⟩, ⟨some 106, none, .p (.mv (.t 107))⟩]
@[go_sem] def c95_p12 : List (List DQ × Option DQ) := [([⟨0, [(0, none)], none, .p (.mv (.t 0))⟩, ⟨1, [(3, none)], none, .p (.mv (.t 3))⟩, ⟨2, [(110, (some 1))], none, .p (.nilck (.t 110))⟩, ⟨3, [(111, (some 2))], none, .p (.fadr 2 (.t 111))⟩, ⟨4, [(112, (some 3))], none, .r (.ld none (.t 112))⟩, ⟨5, [(4, none)], none, .p (.mv (.t 4))⟩, ⟨6, [(2, none)], none, .p (.fadr 1 (.t 2))⟩, ⟨7, [(115, (some 6))], none, .r (.ld none (.t 115))⟩], (some ⟨8, [(113, (some 4)), (114, (some 5)), (116, (some 7))], none, .cv (.c (.fn (.func 143) [] [])) [(.t 113), (.t 114), (.t 116)]⟩)), ([⟨9, [(117, (some 8))], none, .p (.mv (.t 117))⟩, ⟨10, [(108, (some 9))], none, .p (.extr (.t 108) 0)⟩, ⟨11, [(108, (some 9))], none, .p (.extr (.t 108) 1)⟩, ⟨12, [(109, (some 0))], none, .p (.nilck (.t 109))⟩, ⟨13, [(120, (some 12))], none, .p (.fadr 15 (.t 120))⟩], (some ⟨14, [(121, (some 13)), (118, (some 10))], none, .e (.st 1 (.t 121) (.t 118))⟩)), ([], none)]
@[go_sem] def c95_s13 : List SQ := [⟨some 123, none, .p (.bin .eql 3 false true (.t 37) (.c (.int .i64 12)))⟩, ⟨some 122, none, .p (.mv (.t 123))⟩]
@[go_sem] def c95_p14 : List (List DQ × Option DQ) := [([⟨0, [(0, none)], none, .p (.mv (.t 0))⟩, ⟨1, [(3, none)], none, .p (.mv (.t 3))⟩, ⟨2, [(126, (some 1))], none, .p (.nilck (.t 126))⟩, ⟨3, [(127, (some 2))], none, .p (.fadr 3 (.t 127))⟩, ⟨4, [(128, (some 3))], none, .r (.ld none (.t 128))⟩, ⟨5, [(4, none)], none, .p (.mv (.t 4))⟩, ⟨6, [(2, none)], none, .p (.fadr 1 (.t 2))⟩, ⟨7, [(131, (some 6))], none, .r (.ld none (.t 131))⟩, ⟨8, [(2, none)], none, .p (.fadr 2 (.t 2))⟩, ⟨9, [(133, (some 8))], none, .r (.ld none (.t 133))⟩, ⟨10, [(2, none)], none, .p (.fadr 5 (.t 2))⟩, ⟨11, [(135, (some 10))], none, .r (.ld none (.t 135))⟩, ⟨12, [(134, (some 9)), (136, (some 11))], none, .p (.build [.int .u64 0, .int .u64 0] [(0, 1, (.t 134)), (1, 1, (.t 136))])⟩, ⟨13, [(0, none)], none, .p (.mv (.t 0))⟩], (some ⟨14, [(138, (some 13))], none, .cv (.c (.fn (.func 145) [] [])) [(.t 138), (.c (.int .u8 3))]⟩)), ([], (some ⟨15, [(129, (some 4)), (130, (some 5)), (132, (some 7)), (137, (some 12)), (139, (some 14))], none, .cv (.c (.fn (.func 144) [] [])) [(.t 129), (.t 130), (.t 132), (.t 137), (.t 139)]⟩)), ([⟨16, [(140, (some 15))], none, .p (.mv (.t 140))⟩, ⟨17, [(124, (some 16))], none, .p (.extr (.t 124) 0)⟩, ⟨18, [(124, (some 16))], none, .p (.extr (.t 124) 1)⟩, ⟨19, [(125, (some 0))], none, .p (.nilck (.t 125))⟩, ⟨20, [(143, (some 19))], none, .p (.fadr 16 (.t 143))⟩], (some ⟨21, [(144, (some 20)), (141, (some 17))], none, .e (.st 1 (.t 144) (.t 141))⟩)), ([], none)]
@[go_sem] def c95_s15 : List SQ := [⟨some 146, none, .p (.bin .eql 3 false true (.t 37) (.c (.int .i64 13)))⟩, ⟨some 145, none, .p (.mv (.t 146))⟩]
@[go_sem] def c95_s16 : List SQ := [⟨some 148, none, .p (.mv (.t 0))⟩, ⟨some 149, none, .p (.mv (.t 3))⟩, ⟨some 150, none, .p (.mv (.t 4))⟩, ⟨some 151, none, .p (.fadr 1 (.t 2))⟩, ⟨some 152, none, .r (.ld none (.t 151))⟩, ⟨some 153, none, .p (.fadr 2 (.t 2))⟩, ⟨some 154, none, .r (.ld none (.t 153))⟩, ⟨some 155, none, .cv (.c (.fn (.func 146) [] [])) [(.t 149), (.t 150), (.t 152), (.t 154), (.c (.bool false)), (.c (.int .i64 0))]⟩, ⟨some 147, none, .p (.mv (.t 155))⟩, ⟨some 156, none, .p (.extr (.t 147) 0)⟩, ⟨some 157, none, .p (.extr (.t 147) 1)⟩, ⟨some 158, none, .p (.nilck (.t 148))⟩, ⟨some 159, none, .p (.fadr 17 (.t 158))⟩, ⟨none, none, .e (.st 1 (.t 159) (.t 156))⟩]
@[go_sem] def c95_s17 : List SQ := [⟨some 161, none, .p (.bin .eql 3 false true (.t 37) (.c (.int .i64 14)))⟩, ⟨some 160, none, .p (.mv (.t 161))⟩]
@[go_sem] def c95_s18 : List SQ := [⟨some 163, none, .p (.mv (.t 0))⟩, ⟨some 164, none, .p (.mv (.t 3))⟩, ⟨some 165, none, .p (.mv (.t 4))⟩, ⟨some 166, none, .p (.fadr 1 (.t 2))⟩, ⟨some 167, none, .r (.ld none (.t 166))⟩, ⟨some 168, none, .p (.fadr 2 (.t 2))⟩, ⟨some 169, none, .r (.ld none (.t 168))⟩, ⟨some 170, none, .cv (.c (.fn (.func 147) [] [])) [(.t 164), (.t 165), (.t 167), (.t 169), (.c (.int .i64 0))]⟩, ⟨some 162, none, .p (.mv (.t 170))⟩, ⟨some 171, none, .p (.extr (.t 162) 0)⟩, ⟨some 172, none, .p (.extr (.t 162) 1)⟩, ⟨some 173, none, .p (.nilck (.t 163))⟩, ⟨some 174, none, .p (.fadr 18 (.t 173))⟩, ⟨none, none, .e (.st 1 (.t 174) (.t 171))⟩]
@[go_sem] def c95_s19 : List SQ := [⟨some 176, none, .p (.bin .eql 3 false true (.t 37) (.c (.int .i64 16)))⟩, ⟨some 175, none, .p (.mv (.t 176))⟩]
@[go_sem] def c95_s20 : List SQ := [⟨some 178, none, .p (.mv (.t 0))⟩, ⟨some 179, none, .p (.mv (.t 0))⟩, ⟨some 180, none, .p (.nilck (.t 179))⟩, ⟨some 181, none, .p (.fadr 10 (.t 180))⟩, ⟨some 182, none, .r (.ld none (.t 181))⟩, ⟨some 183, none, .cv (.c (.fn (.func 148) [] [])) [(.t 182)]⟩, ⟨some 177, none, .p (.mv (.t 183))⟩, ⟨some 184, none, .p (.extr (.t 177) 0)⟩, ⟨some 185, none, .p (.extr (.t 177) 1)⟩, ⟨some 186, none, .p (.nilck (.t 178))⟩, ⟨some 187, none, .p (.fadr 19 (.t 186))⟩, ⟨none, none, .e (.st 1 (.t 187) (.t 184))⟩]
@[go_sem] def c95 : CF := ⟨1, (.seq (.seq (.ops c95_s0) (.cond (.t 11) .ret .skip)) (.seq (.drw ⟨c95_p1, [(0, 12), (1, 13), (2, 14), (3, 15), (4, 16), (5, 17), (6, 18), (7, 19), (8, 20), (9, 21), (10, 22), (11, 23), (12, 24), (13, 25), (14, 26), (15, 27), (16, 28), (17, 29), (18, 30), (19, 31), (20, 32), (21, 33), (22, 34), (23, 35), (24, 2), (25, 5), (27, 3), (28, 4)], [(⟨3, [(14, (some 2))], none, .r (.ld none (.t 14))⟩, [0]), (⟨5, [(16, (some 4))], none, .r (.ld (some 6) (.t 16))⟩, [0]), (⟨9, [(20, (some 8))], none, .r (.ld none (.t 20))⟩, [0, 1]), (⟨13, [(24, (some 12))], none, .r (.ld none (.t 24))⟩, [0, 1]), (⟨17, [(28, (some 16))], none, .r (.ld none (.t 28))⟩, [0, 1]), (⟨20, [(31, (some 19))], none, .r (.ld none (.t 31))⟩, [0, 1]), (⟨23, [(34, (some 22))], none, .r (.ld (some 16) (.t 34))⟩, [0, 1])]⟩) (.seq (.ops c95_s2) (.block 0 (.seq (.ops c95_s3) (.cond (.t 38) (.drw ⟨c95_p4, [(0, 41), (1, 42), (2, 43), (3, 44), (4, 45), (5, 46), (6, 47), (7, 48), (8, 40), (9, 49), (10, 50), (11, 51), (12, 52)], [(⟨6, [(46, (some 5))], none, .r (.ld none (.t 46))⟩, [1])]⟩) (.seq (.ops c95_s5) (.cond (.t 53) (.drw ⟨c95_p6, [(0, 56), (1, 57), (2, 58), (3, 59), (4, 60), (5, 61), (6, 62), (7, 63), (8, 64), (9, 65), (10, 55), (11, 66), (12, 67), (13, 68), (14, 69)], []⟩) (.seq (.ops c95_s7) (.cond (.t 70) (.drw ⟨c95_p8, [(0, 73), (1, 74), (2, 75), (3, 76), (4, 77), (5, 78), (6, 79), (7, 80), (8, 81), (9, 82), (10, 83), (11, 72), (12, 84), (13, 85), (14, 86), (15, 87)], []⟩) (.seq (.ops c95_s9) (.cond (.t 88) (.drw ⟨c95_p10, [(0, 91), (1, 92), (2, 93), (3, 94), (4, 95), (5, 96), (6, 97), (7, 98), (8, 99), (9, 100), (10, 101), (11, 90), (12, 102), (13, 103), (14, 104), (15, 105)], []⟩) (.seq (.ops c95_s11) (.cond (.t 106) (.drw ⟨c95_p12, [(0, 109), (1, 110), (2, 111), (3, 112), (4, 113), (5, 114), (6, 115), (7, 116), (8, 117), (9, 108), (10, 118), (11, 119), (12, 120), (13, 121)], []⟩) (.seq (.ops c95_s13) (.cond (.t 122) (.drw ⟨c95_p14, [(0, 125), (1, 126), (2, 127), (3, 128), (4, 129), (5, 130), (6, 131), (7, 132), (8, 133), (9, 134), (10, 135), (11, 136), (12, 137), (13, 138), (14, 139), (15, 140), (16, 124), (17, 141), (18, 142), (19, 143), (20, 144)], [(⟨4, [(128, (some 3))], none, .r (.ld none (.t 128))⟩, [1]), (⟨7, [(131, (some 6))], none, .r (.ld none (.t 131))⟩, [1]), (⟨9, [(133, (some 8))], none, .r (.ld none (.t 133))⟩, [1]), (⟨11, [(135, (some 10))], none, .r (.ld none (.t 135))⟩, [1])]⟩) (.seq (.ops c95_s15) (.cond (.t 145) (.ops c95_s16) (.seq (.ops c95_s17) (.cond (.t 160) (.ops c95_s18) (.seq (.ops c95_s19) (.cond (.t 175) (.ops c95_s20) .skip)))))))))))))))))))))), []⟩

/-- an operation of the reference: its first cells, and the others -/
def dcL (B : Nat) (t s : Int) (o : OpT) (ba todo lock : AV) : List AV := [.ptr B 0, .int .i64 t, .int .i64 s] ++ (opC o ++ [ba, todo, lock, .nilp, .nilp, .nilp, .nilp, .nilp, .nilp, .nilp, .int .i64 0, .int .u64 0, .nils, .nils, .nils, .int .i64 0, .bool false, .bool false, .bool false, .bool false, .int .i64 0, .bool false, .int .u64 0, .int .u64 0, .int .i64 0])
def partC : List AV := [.int .i64 1, .int .i64 0, .int .u64 0, .int .u8 0, .int .i64 0, .int .u64 0]
/-- the end of the range that is locked -/
def hiL (o : OpT) : Int := if o.kd = 8 then o.hi + o.bY else o.hi
def F139 (call : CallE) : Prop := ∀ h D (o : OpT) x0 x1 x2 rest, D < h.next → h.t.get D = some (.row (putList 0 ([x0, x1, x2] ++ (opC o ++ rest)) T.e) 35 156) → OpU o → ¬ (o.kd = 8 ∧ 18446744073709551615 - o.hi < o.bY) → ∃ v h', call 139 [.ptr D 0] h = some (v, h') ∧ (v = .agg [.int .u64 o.key, .int .u64 (if o.kd = 8 then o.hi + o.bY else o.hi)] ∧ StepN h h')
def F138 (call : CallE) : Prop := ∀ h B (t lo hi tr : Int), 0 ≤ t → t < 64 → 0 ≤ tr → tr ≤ 255 → ¬ hi < lo → ∃ v h', call 138 [.ptr B 0, .int .i64 t, .agg [.int .u64 lo, .int .u64 hi], .int .i64 tr] h = some (v, h') ∧ (StepN h h' ∧ ∃ L, v = .tup [.ptr L 0, .int .i64 0] ∧ L < h'.next ∧ h.next ≤ L ∧ RLockO h' L)
def RBulkO (h : H) (D : Nat) : Prop := ∃ B t s o ba Q L, h.t.get D = some (.row (putList 0 (dcL B t s o ba (.sl Q 0 1 6 none) (.ptr L 0)) T.e) 35 156) ∧ h.t.get Q = some (.row (putList 0 partC T.e) 6 159) ∧ Q < h.next ∧ D < h.next ∧ L < h.next ∧ RLockO h L
theorem w95 (P : Program) {call : CallE} (h139 : F139 call) (h138 : F138 call) {h : H} {D B Q : Nat} {c : CfgT} {p : PlT} {M W R : Nat} {t s : Int} {o : OpT} {ba : AV} (hb : RBaseH h B c p M W R) (r0 : 0 ≤ c.tries) (r1 : c.tries ≤ 255) (hD : D < h.next) (hQ : Q < h.next) (ob : oneA ba = true)
    (g : h.t.get D = some (.row (putList 0 (dcL B t s o ba (.sl Q 0 1 6 none) .nilp) T.e) 35 156)) (gQ : h.t.get Q = some (.row (putList 0 partC T.e) 6 159)) (ou : OpU o) (hov : ¬ (o.kd = 8 ∧ 18446744073709551615 - o.hi < o.bY)) (hlh : ¬ o.hi < o.key) (t0 : 0 ≤ t) (t1 : t < 64) :
    WF P call c95 [.ptr D 0] h fun v h' => v = .tup [] ∧ StepX D D h h' ∧ RBulkO h' D := by
  have hb0 := hb
  obtain ⟨⟨L, P', Tw, vv, lv, cv', gB, hL⟩, ⟨n', hn', hR⟩, lt⟩ := hb
  obtain ⟨cv, hv, wv, wl, wcs, gL, o1, oh, ow, ew⟩ := hL.ex
  have hLl := hL.lt
  have g0 := g
  have d1 : ¬ D = h.next := by omega
  have d2 : ¬ D = h.next + 1 := by omega
  have q1 : ¬ Q = h.next := by omega
  have q2 : ¬ Q = h.next + 1 := by omega
  have b1 : ¬ B = h.next := by omega
  have b2 : ¬ B = h.next + 1 := by omega
  have l1 : ¬ L = h.next := by omega
  have l2 : ¬ L = h.next + 1 := by omega
  have n1 : ¬ h.next = h.next + 1 := by omega
  have n2 : ¬ h.next + 1 = h.next := by omega
  simp only [go_sem, ↓reduceIte, ↓reduceDIte, zA, zM, zL, zE, zD, yA, yE, yL, yQ, yT, reduceCtorEq, c95, g, gQ, gB, gL, dcL, partC, opC, cfgC, plC, d1, d2, q1, q2, b1, b2, l1, l2, n1, n2, o1]
  have st4 : ∀ x y z u, StepN h ⟨h.next + 2, ((((h.t.set h.next x).set (h.next + 1) y).set h.next z).set (h.next + 1) u)⟩ := fun x y z u => ⟨Nat.le_add_right _ _, fun b hb => by
    have e1 : ¬ b = h.next := by omega
    have e2 : ¬ b = h.next + 1 := by omega
    simp only [go_sem, ↓reduceIte, ↓reduceDIte, zA, zM, zL, zE, zD, yA, yE, yL, yQ, yT, reduceCtorEq, e1, e2]⟩
  refine opt_by (h139 _ D o (.ptr B 0) (.int .i64 t) (.int .i64 s) [ba, .sl Q 0 1 6 none, .nilp, .nilp, .nilp, .nilp, .nilp, .nilp, .nilp, .nilp, .int .i64 0, .int .u64 0, .nils, .nils, .nils, .int .i64 0, .bool false, .bool false, .bool false, .bool false, .int .i64 0, .bool false, .int .u64 0, .int .u64 0, .int .i64 0] ?_ ?_ ou hov) fun v1 h1 p1 => ?_
  · show D < h.next + 2
    omega
  · simp only [go_sem, ↓reduceIte, ↓reduceDIte, zA, zM, zL, zE, zD, yA, yE, yL, yQ, yT, reduceCtorEq, d1, d2]
    exact g0
  obtain ⟨rfl, st1⟩ := p1
  have nx1 : h.next + 2 ≤ h1.next := st1.next
  have gY1 := st1.old (h.next + 1) (by show h.next + 1 < h.next + 2; omega)
  have oldE : ∀ b, b < h.next → h1.t.get b = h.t.get b := fun b hb => (st1.old b (by show b < h.next + 2; omega)).trans ((st4 _ _ _ _).old b hb)
  have gD1 := (oldE D hD).trans g0
  simp only [go_sem, ↓reduceIte, ↓reduceDIte, zA, zM, zL, zE, zD, yA, yE, yL, yQ, yT, reduceCtorEq, n1, n2] at gY1
  have hv2 : ¬ (if o.kd = 8 then o.hi + o.bY else o.hi) < o.key := by
    have := ou.bY.1
    by_cases k8 : o.kd = 8
    · rw [if_pos k8]; omega
    · rw [if_neg k8]; exact hlh
  simp only [go_sem, ↓reduceIte, ↓reduceDIte, zA, zM, zL, zE, zD, yA, yE, yL, yQ, yT, reduceCtorEq, gY1, nx1]
  refine opt_by (h138 h1 B t o.key _ c.tries t0 t1 r0 r1 hv2) fun v2 h2 p2 => ?_
  obtain ⟨st2, Lk, rfl, lL, lL1, lo2⟩ := p2
  have nx2 : h1.next ≤ h2.next := st2.next
  have gD2 := (st2.old D (by omega)).trans gD1
  have gY2 := (st2.old (h.next + 1) (by omega)).trans gY1
  simp only [dcL, opC, List.cons_append, List.nil_append] at gD2
  simp only [go_sem, ↓reduceIte, ↓reduceDIte, zA, zM, zL, zE, zD, yA, yE, yL, yQ, yT, reduceCtorEq, gD2, gY2, gY1, nx2]
  have LD : ¬ Lk = D := by omega
  refine ⟨⟨by show h.next ≤ h2.next; omega, fun b hb b1 _ => ?_⟩, B, t, s, o, ba, Q, Lk, ?_, ?_, ?_, by show D < h2.next; omega, lL, ?_⟩
  · simp only [go_sem, ↓reduceIte, ↓reduceDIte, zA, zM, zL, zE, zD, yA, yE, yL, yQ, yT, reduceCtorEq, b1]
    exact (st2.old b (by omega)).trans (oldE b hb)
  · simp only [go_sem, ↓reduceIte, ↓reduceDIte, zA, zM, zL, zE, zD, yA, yE, yL, yQ, yT, reduceCtorEq, dcL, opC]
  · have QD : ¬ Q = D := fun e => by
      subst e
      rw [g0] at gQ
      simp at gQ
    simp only [go_sem, ↓reduceIte, ↓reduceDIte, zA, zM, zL, zE, zD, yA, yE, yL, yQ, yT, reduceCtorEq, QD]
    exact (st2.old Q (by omega)).trans ((oldE Q hQ).trans gQ)
  · show Q < h2.next
    omega
  · obtain ⟨lc, n, gl, l5⟩ := lo2
    exact ⟨lc, n, by simp only [go_sem, ↓reduceIte, ↓reduceDIte, zA, zM, zL, zE, zD, yA, yE, yL, yQ, yT, reduceCtorEq, LD]; exact gl, l5⟩
end
end Go.Proofs.YtldmhpdjlgoenaaGreatDoor.BN
