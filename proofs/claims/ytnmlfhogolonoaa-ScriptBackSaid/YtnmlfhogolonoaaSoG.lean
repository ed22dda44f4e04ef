/-
  Comparisons of package leapfrogkit.
-/
import Derived.Test.YtnmlfhogolonoaaSoD
set_option linter.unusedVariables false
set_option linter.unusedSimpArgs false
namespace Go.Proofs.Ytnmlfhogolonoaa
open Go.Proofs.Ytnmlfhogolonoaa.Eo
open Nat renaming reduceAdd → zA, reduceMul → zM, reduceLT → zL, reduceEqDiff → zE, reduceLeDiff → zD
open Int renaming reduceAdd → yA, reduceLE → yE, reduceLT → yL, reduceEq → yQ, reduceToNat → yT
noncomputable section
/-! 71: leapfrog/leapfrogkit.EqualUints -/
@[go_sem] def c71_s0 : List SQ := [⟨some 4, none, .p (.mv (.c (.bool false)))⟩]
@[go_sem] def c71_s1 : List SQ := [⟨some 6, none, .p (.mv (.t 0))⟩, ⟨some 7, none, .p (.lenv (.t 6))⟩, ⟨some 8, none, .p (.mv (.t 1))⟩, ⟨some 9, none, .p (.lenv (.t 8))⟩, ⟨some 10, none, .p (.bin .neq 3 false false (.t 7) (.t 9))⟩]
@[go_sem] def c71_s2 : List SQ := [⟨some 4, none, .p (.mv (.c (.bool false)))⟩]
@[go_sem] def c71_s3 : List SQ := [⟨some 5, none, .p (.mv (.c (.int .i64 0)))⟩]
@[go_sem] def c71_s4 : List SQ := [⟨some 11, none, .p (.mv (.t 5))⟩, ⟨some 12, none, .p (.mv (.t 0))⟩, ⟨some 13, none, .p (.lenv (.t 12))⟩, ⟨some 14, none, .p (.bin .lss 3 false false (.t 11) (.t 13))⟩]
@[go_sem] def c71_p5 : List (List DQ × Option DQ) := [([⟨0, [(0, none)], none, .p (.mv (.t 0))⟩, ⟨1, [(5, none)], none, .p (.mv (.t 5))⟩, ⟨2, [(17, (some 0)), (18, (some 1))], none, .p (.iadrS 1 (.t 17) (.t 18))⟩, ⟨3, [(19, (some 2))], none, .r (.ld none (.t 19))⟩, ⟨4, [(1, none)], none, .p (.mv (.t 1))⟩, ⟨5, [(5, none)], none, .p (.mv (.t 5))⟩, ⟨6, [(21, (some 4)), (22, (some 5))], none, .p (.iadrS 1 (.t 21) (.t 22))⟩, ⟨7, [(23, (some 6))], none, .r (.ld none (.t 23))⟩, ⟨8, [(20, (some 3)), (24, (some 7))], none, .p (.bin .neq 43 false false (.t 20) (.t 24))⟩], none)]
@[go_sem] def c71_s6 : List SQ := [⟨some 4, none, .p (.mv (.c (.bool false)))⟩]
@[go_sem] def c71_s7 : List SQ := [⟨some 15, none, .p (.mv (.t 5))⟩, ⟨some 16, none, .p (.bin .add 3 false true (.t 15) (.c (.int .i64 1)))⟩, ⟨some 5, none, .p (.mv (.t 16))⟩]
def c71_l8 : CC := (.seq (.seq (.ops c71_s4) (.cond (.t 14) .skip (.exit 0))) (.seq (.block 1 (.seq (.drw ⟨c71_p5, [(0, 17), (1, 18), (2, 19), (3, 20), (4, 21), (5, 22), (6, 23), (7, 24), (8, 25)], []⟩) (.cond (.t 25) (.seq (.ops c71_s6) .ret) .skip))) (.ops c71_s7)))
@[go_sem] def c71_s9 : List SQ := [⟨some 4, none, .p (.mv (.c (.bool true)))⟩]
@[go_sem] def c71 : CF := ⟨2, (.seq (.ops c71_s0) (.seq (.seq (.ops c71_s1) (.cond (.t 10) (.seq (.ops c71_s2) .ret) .skip)) (.seq (.seq (.ops c71_s3) (.block 0 (.loop c71_l8))) (.seq (.ops c71_s9) .ret)))), [.tmp 4]⟩
theorem c71_eq : cCF Try.prog 71 2 = some c71 := by kernel_rfl
/-! 38: leapfrog/leapfrogkit.EqualInts -/
@[go_sem] def c38_s0 : List SQ := [⟨some 4, none, .p (.mv (.c (.bool false)))⟩]
@[go_sem] def c38_s1 : List SQ := [⟨some 6, none, .p (.mv (.t 0))⟩, ⟨some 7, none, .p (.lenv (.t 6))⟩, ⟨some 8, none, .p (.mv (.t 1))⟩, ⟨some 9, none, .p (.lenv (.t 8))⟩, ⟨some 10, none, .p (.bin .neq 3 false false (.t 7) (.t 9))⟩]
@[go_sem] def c38_s2 : List SQ := [⟨some 4, none, .p (.mv (.c (.bool false)))⟩]
@[go_sem] def c38_s3 : List SQ := [⟨some 5, none, .p (.mv (.c (.int .i64 0)))⟩]
@[go_sem] def c38_s4 : List SQ := [⟨some 11, none, .p (.mv (.t 5))⟩, ⟨some 12, none, .p (.mv (.t 0))⟩, ⟨some 13, none, .p (.lenv (.t 12))⟩, ⟨some 14, none, .p (.bin .lss 3 false false (.t 11) (.t 13))⟩]
@[go_sem] def c38_p5 : List (List DQ × Option DQ) := [([⟨0, [(0, none)], none, .p (.mv (.t 0))⟩, ⟨1, [(5, none)], none, .p (.mv (.t 5))⟩, ⟨2, [(17, (some 0)), (18, (some 1))], none, .p (.iadrS 1 (.t 17) (.t 18))⟩, ⟨3, [(19, (some 2))], none, .r (.ld none (.t 19))⟩, ⟨4, [(1, none)], none, .p (.mv (.t 1))⟩, ⟨5, [(5, none)], none, .p (.mv (.t 5))⟩, ⟨6, [(21, (some 4)), (22, (some 5))], none, .p (.iadrS 1 (.t 21) (.t 22))⟩, ⟨7, [(23, (some 6))], none, .r (.ld none (.t 23))⟩, ⟨8, [(20, (some 3)), (24, (some 7))], none, .p (.bin .neq 3 false false (.t 20) (.t 24))⟩], none)]
@[go_sem] def c38_s6 : List SQ := [⟨some 4, none, .p (.mv (.c (.bool false)))⟩]
@[go_sem] def c38_s7 : List SQ := [⟨some 15, none, .p (.mv (.t 5))⟩, ⟨some 16, none, .p (.bin .add 3 false true (.t 15) (.c (.int .i64 1)))⟩, ⟨some 5, none, .p (.mv (.t 16))⟩]
def c38_l8 : CC := (.seq (.seq (.ops c38_s4) (.cond (.t 14) .skip (.exit 0))) (.seq (.block 1 (.seq (.drw ⟨c38_p5, [(0, 17), (1, 18), (2, 19), (3, 20), (4, 21), (5, 22), (6, 23), (7, 24), (8, 25)], []⟩) (.cond (.t 25) (.seq (.ops c38_s6) .ret) .skip))) (.ops c38_s7)))
@[go_sem] def c38_s9 : List SQ := [⟨some 4, none, .p (.mv (.c (.bool true)))⟩]
@[go_sem] def c38 : CF := ⟨2, (.seq (.ops c38_s0) (.seq (.seq (.ops c38_s1) (.cond (.t 10) (.seq (.ops c38_s2) .ret) .skip)) (.seq (.seq (.ops c38_s3) (.block 0 (.loop c38_l8))) (.seq (.ops c38_s9) .ret)))), [.tmp 4]⟩
theorem c38_eq : cCF Try.prog 38 2 = some c38 := by kernel_rfl
/-! 62: leapfrog/leapfrogkit.EqualOps -/
@[go_sem] def c62_s0 : List SQ := [⟨some 4, none, .p (.mv (.c (.bool false)))⟩]
@[go_sem] def c62_s1 : List SQ := [⟨some 6, none, .p (.mv (.t 0))⟩, ⟨some 7, none, .p (.lenv (.t 6))⟩, ⟨some 8, none, .p (.mv (.t 1))⟩, ⟨some 9, none, .p (.lenv (.t 8))⟩, ⟨some 10, none, .p (.bin .neq 3 false false (.t 7) (.t 9))⟩]
@[go_sem] def c62_s2 : List SQ := [⟨some 4, none, .p (.mv (.c (.bool false)))⟩]
@[go_sem] def c62_s3 : List SQ := [⟨some 5, none, .p (.mv (.c (.int .i64 0)))⟩]
@[go_sem] def c62_s4 : List SQ := [⟨some 11, none, .p (.mv (.t 5))⟩, ⟨some 12, none, .p (.mv (.t 0))⟩, ⟨some 13, none, .p (.lenv (.t 12))⟩, ⟨some 14, none, .p (.bin .lss 3 false false (.t 11) (.t 13))⟩]
@[go_sem] def c62_p5 : List (List DQ × Option DQ) := [([⟨0, [(0, none)], none, .p (.mv (.t 0))⟩, ⟨1, [(5, none)], none, .p (.mv (.t 5))⟩, ⟨2, [(17, (some 0)), (18, (some 1))], none, .p (.iadrS 7 (.t 17) (.t 18))⟩, ⟨3, [(19, (some 2))], none, .r (.ld (some 7) (.t 19))⟩, ⟨4, [(1, none)], none, .p (.mv (.t 1))⟩, ⟨5, [(5, none)], none, .p (.mv (.t 5))⟩, ⟨6, [(21, (some 4)), (22, (some 5))], none, .p (.iadrS 7 (.t 21) (.t 22))⟩, ⟨7, [(23, (some 6))], none, .r (.ld (some 7) (.t 23))⟩, ⟨8, [(20, (some 3)), (24, (some 7))], none, .p (.bin .neq 45 false false (.t 20) (.t 24))⟩], none)]
@[go_sem] def c62_s6 : List SQ := [⟨some 4, none, .p (.mv (.c (.bool false)))⟩]
@[go_sem] def c62_s7 : List SQ := [⟨some 15, none, .p (.mv (.t 5))⟩, ⟨some 16, none, .p (.bin .add 3 false true (.t 15) (.c (.int .i64 1)))⟩, ⟨some 5, none, .p (.mv (.t 16))⟩]
def c62_l8 : CC := (.seq (.seq (.ops c62_s4) (.cond (.t 14) .skip (.exit 0))) (.seq (.block 1 (.seq (.drw ⟨c62_p5, [(0, 17), (1, 18), (2, 19), (3, 20), (4, 21), (5, 22), (6, 23), (7, 24), (8, 25)], []⟩) (.cond (.t 25) (.seq (.ops c62_s6) .ret) .skip))) (.ops c62_s7)))
@[go_sem] def c62_s9 : List SQ := [⟨some 4, none, .p (.mv (.c (.bool true)))⟩]
@[go_sem] def c62 : CF := ⟨2, (.seq (.ops c62_s0) (.seq (.seq (.ops c62_s1) (.cond (.t 10) (.seq (.ops c62_s2) .ret) .skip)) (.seq (.seq (.ops c62_s3) (.block 0 (.loop c62_l8))) (.seq (.ops c62_s9) .ret)))), [.tmp 4]⟩
theorem c62_eq : cCF Try.prog 62 2 = some c62 := by kernel_rfl
/-! 37: leapfrog/leapfrogkit.EqualPrograms -/
@[go_sem] def c37_s0 : List SQ := [⟨some 4, none, .p (.mv (.c (.bool false)))⟩]
@[go_sem] def c37_s1 : List SQ := [⟨some 6, none, .p (.mv (.t 0))⟩, ⟨some 7, none, .p (.lenv (.t 6))⟩, ⟨some 8, none, .p (.mv (.t 1))⟩, ⟨some 9, none, .p (.lenv (.t 8))⟩, ⟨some 10, none, .p (.bin .neq 3 false false (.t 7) (.t 9))⟩]
@[go_sem] def c37_s2 : List SQ := [⟨some 4, none, .p (.mv (.c (.bool false)))⟩]
@[go_sem] def c37_s3 : List SQ := [⟨some 5, none, .p (.mv (.c (.int .i64 0)))⟩]
@[go_sem] def c37_s4 : List SQ := [⟨some 11, none, .p (.mv (.t 5))⟩, ⟨some 12, none, .p (.mv (.t 0))⟩, ⟨some 13, none, .p (.lenv (.t 12))⟩, ⟨some 14, none, .p (.bin .lss 3 false false (.t 11) (.t 13))⟩]
@[go_sem] def c37_p5 : List (List DQ × Option DQ) := [([⟨0, [(0, none)], none, .p (.mv (.t 0))⟩, ⟨1, [(5, none)], none, .p (.mv (.t 5))⟩, ⟨2, [(17, (some 0)), (18, (some 1))], none, .p (.iadrS 1 (.t 17) (.t 18))⟩, ⟨3, [(19, (some 2))], none, .r (.ld none (.t 19))⟩, ⟨4, [(1, none)], none, .p (.mv (.t 1))⟩, ⟨5, [(5, none)], none, .p (.mv (.t 5))⟩, ⟨6, [(21, (some 4)), (22, (some 5))], none, .p (.iadrS 1 (.t 21) (.t 22))⟩, ⟨7, [(23, (some 6))], none, .r (.ld none (.t 23))⟩], (some ⟨8, [(20, (some 3)), (24, (some 7))], none, .cv (.c (.fn (.func 62) [] [])) [(.t 20), (.t 24)]⟩)), ([⟨9, [(25, (some 8))], none, .p (.un .not (.t 25))⟩], none)]
@[go_sem] def c37_s6 : List SQ := [⟨some 4, none, .p (.mv (.c (.bool false)))⟩]
@[go_sem] def c37_s7 : List SQ := [⟨some 15, none, .p (.mv (.t 5))⟩, ⟨some 16, none, .p (.bin .add 3 false true (.t 15) (.c (.int .i64 1)))⟩, ⟨some 5, none, .p (.mv (.t 16))⟩]
def c37_l8 : CC := (.seq (.seq (.ops c37_s4) (.cond (.t 14) .skip (.exit 0))) (.seq (.block 1 (.seq (.drw ⟨c37_p5, [(0, 17), (1, 18), (2, 19), (3, 20), (4, 21), (5, 22), (6, 23), (7, 24), (8, 25), (9, 26)], []⟩) (.cond (.t 26) (.seq (.ops c37_s6) .ret) .skip))) (.ops c37_s7)))
@[go_sem] def c37_s9 : List SQ := [⟨some 4, none, .p (.mv (.c (.bool true)))⟩]
@[go_sem] def c37 : CF := ⟨2, (.seq (.ops c37_s0) (.seq (.seq (.ops c37_s1) (.cond (.t 10) (.seq (.ops c37_s2) .ret) .skip)) (.seq (.seq (.ops c37_s3) (.block 0 (.loop c37_l8))) (.seq (.ops c37_s9) .ret)))), [.tmp 4]⟩
theorem c37_eq : cCF Try.prog 37 2 = some c37 := by kernel_rfl
/-! 61: leapfrog/leapfrogkit.EqualDomain -/
@[go_sem] def c61_s0 : List SQ := [⟨some 2, none, .n (.box 24 (.t 0))⟩, ⟨some 3, none, .n (.box 24 (.t 1))⟩, ⟨some 4, none, .p (.mv (.c (.bool false)))⟩]
@[go_sem] def c61_s1 : List SQ := [⟨some 5, none, .p (.fadr 0 (.t 2))⟩, ⟨some 6, none, .r (.ld none (.t 5))⟩, ⟨some 7, none, .p (.fadr 0 (.t 3))⟩, ⟨some 8, none, .r (.ld none (.t 7))⟩, ⟨some 9, none, .p (.bin .eql 5 false false (.t 6) (.t 8))⟩, ⟨some 10, none, .p (.mv (.t 9))⟩, ⟨some 11, some (10, true), .p (.fadr 1 (.t 2))⟩, ⟨some 12, some (10, true), .r (.ld none (.t 11))⟩, ⟨some 13, some (10, true), .p (.fadr 1 (.t 3))⟩, ⟨some 14, some (10, true), .r (.ld none (.t 13))⟩, ⟨some 15, some (10, true), .p (.bin .eql 3 false false (.t 12) (.t 14))⟩, ⟨some 16, none, .p (.pick (.t 10) (.t 15) (.c (.bool false)))⟩, ⟨some 17, none, .p (.mv (.t 16))⟩, ⟨some 18, some (17, true), .p (.fadr 2 (.t 2))⟩, ⟨some 19, some (17, true), .r (.ld none (.t 18))⟩, ⟨some 20, some (17, true), .p (.fadr 2 (.t 3))⟩, ⟨some 21, some (17, true), .r (.ld none (.t 20))⟩, ⟨some 22, some (17, true), .cv (.c (.fn (.func 71) [] [])) [(.t 19), (.t 21)]⟩, ⟨some 23, none, .p (.pick (.t 17) (.t 22) (.c (.bool false)))⟩, ⟨some 4, none, .p (.mv (.t 23))⟩]
@[go_sem] def c61 : CF := ⟨2, (.seq (.ops c61_s0) (.seq (.ops c61_s1) .ret)), [.tmp 4]⟩
theorem c61_eq : cCF Try.prog 61 2 = some c61 := by kernel_rfl
/-! 36: leapfrog/leapfrogkit.EqualConfig -/
@[go_sem] def c36_s0 : List SQ := [⟨some 2, none, .n (.box 27 (.t 0))⟩, ⟨some 3, none, .n (.box 27 (.t 1))⟩, ⟨some 4, none, .p (.mv (.c (.bool false)))⟩]
@[go_sem] def c36_s1 : List SQ := [⟨some 5, none, .p (.fadr 0 (.t 2))⟩, ⟨some 6, none, .r (.ld none (.t 5))⟩, ⟨some 7, none, .p (.fadr 0 (.t 3))⟩, ⟨some 8, none, .r (.ld none (.t 7))⟩, ⟨some 9, none, .p (.bin .eql 3 false false (.t 6) (.t 8))⟩, ⟨some 10, none, .p (.mv (.t 9))⟩, ⟨some 11, some (10, true), .p (.fadr 1 (.t 2))⟩, ⟨some 12, some (10, true), .r (.ld none (.t 11))⟩, ⟨some 13, some (10, true), .p (.fadr 1 (.t 3))⟩, ⟨some 14, some (10, true), .r (.ld none (.t 13))⟩, ⟨some 15, some (10, true), .p (.bin .eql 3 false false (.t 12) (.t 14))⟩, ⟨some 16, none, .p (.pick (.t 10) (.t 15) (.c (.bool false)))⟩, ⟨some 17, none, .p (.mv (.t 16))⟩, ⟨some 18, some (17, true), .p (.fadr 2 (.t 2))⟩, ⟨some 19, some (17, true), .r (.ld none (.t 18))⟩, ⟨some 20, some (17, true), .p (.fadr 2 (.t 3))⟩, ⟨some 21, some (17, true), .r (.ld none (.t 20))⟩, ⟨some 22, some (17, true), .p (.bin .eql 5 false false (.t 19) (.t 21))⟩, ⟨some 23, none, .p (.pick (.t 17) (.t 22) (.c (.bool false)))⟩, ⟨some 24, none, .p (.mv (.t 23))⟩, ⟨some 25, some (24, true), .p (.fadr 3 (.t 2))⟩, ⟨some 26, some (24, true), .r (.ld none (.t 25))⟩, ⟨some 27, some (24, true), .p (.fadr 3 (.t 3))⟩, ⟨some 28, some (24, true), .r (.ld none (.t 27))⟩, ⟨some 29, some (24, true), .p (.bin .eql 3 false false (.t 26) (.t 28))⟩, ⟨some 30, none, .p (.pick (.t 24) (.t 29) (.c (.bool false)))⟩, ⟨some 31, none, .p (.mv (.t 30))⟩, ⟨some 32, some (31, true), .p (.fadr 4 (.t 2))⟩, ⟨some 33, some (31, true), .r (.ld (some 3) (.t 32))⟩, ⟨some 34, some (31, true), .p (.fadr 4 (.t 3))⟩, ⟨some 35, some (31, true), .r (.ld (some 3) (.t 34))⟩, ⟨some 36, some (31, true), .cv (.c (.fn (.func 61) [] [])) [(.t 33), (.t 35)]⟩, ⟨some 37, none, .p (.pick (.t 31) (.t 36) (.c (.bool false)))⟩, ⟨some 38, none, .p (.mv (.t 37))⟩, ⟨some 39, some (38, true), .p (.fadr 7 (.t 2))⟩, ⟨some 40, some (38, true), .r (.ld (some 6) (.t 39))⟩, ⟨some 41, some (38, true), .p (.fadr 7 (.t 3))⟩, ⟨some 42, some (38, true), .r (.ld (some 6) (.t 41))⟩, ⟨some 43, some (38, true), .p (.bin .eql 25 false false (.t 40) (.t 42))⟩, ⟨some 44, none, .p (.pick (.t 38) (.t 43) (.c (.bool false)))⟩, ⟨some 45, none, .p (.mv (.t 44))⟩, ⟨some 46, some (45, true), .p (.fadr 13 (.t 2))⟩, ⟨some 47, some (45, true), .r (.ld none (.t 46))⟩, ⟨some 48, some (45, true), .p (.fadr 13 (.t 3))⟩, ⟨some 49, some (45, true), .r (.ld none (.t 48))⟩, ⟨some 50, some (45, true), .p (.bin .eql 3 false false (.t 47) (.t 49))⟩, ⟨some 51, none, .p (.pick (.t 45) (.t 50) (.c (.bool false)))⟩, ⟨some 52, none, .p (.mv (.t 51))⟩, ⟨some 53, some (52, true), .p (.fadr 14 (.t 2))⟩, ⟨some 54, some (52, true), .r (.ld none (.t 53))⟩, ⟨some 55, some (52, true), .p (.fadr 14 (.t 3))⟩, ⟨some 56, some (52, true), .r (.ld none (.t 55))⟩, ⟨some 57, some (52, true), .p (.bin .eql 3 false false (.t 54) (.t 56))⟩, ⟨some 58, none, .p (.pick (.t 52) (.t 57) (.c (.bool false)))⟩, ⟨some 59, none, .p (.mv (.t 58))⟩, ⟨some 60, some (59, true), .p (.fadr 15 (.t 2))⟩, ⟨some 61, some (59, true), .r (.ld none (.t 60))⟩, ⟨some 62, some (59, true), .p (.fadr 15 (.t 3))⟩, ⟨some 63, some (59, true), .r (.ld none (.t 62))⟩, ⟨some 64, some (59, true), .p (.bin .eql 3 false false (.t 61) (.t 63))⟩, ⟨some 65, none, .p (.pick (.t 59) (.t 64) (.c (.bool false)))⟩, ⟨some 4, none, .p (.mv (.t 65))⟩]
@[go_sem] def c36 : CF := ⟨2, (.seq (.ops c36_s0) (.seq (.ops c36_s1) .ret)), [.tmp 4]⟩
theorem c36_eq : cCF Try.prog 36 2 = some c36 := by kernel_rfl
/-! 17: leapfrog/leapfrogkit.EqualScript -/
@[go_sem] def c17_s0 : List SQ := [⟨some 2, none, .n (.box 31 (.t 0))⟩, ⟨some 3, none, .n (.box 31 (.t 1))⟩, ⟨some 4, none, .p (.mv (.c (.bool false)))⟩]
@[go_sem] def c17_s1 : List SQ := [⟨some 5, none, .p (.fadr 0 (.t 2))⟩, ⟨some 6, none, .r (.ld (some 16) (.t 5))⟩, ⟨some 7, none, .p (.fadr 0 (.t 3))⟩, ⟨some 8, none, .r (.ld (some 16) (.t 7))⟩, ⟨some 9, none, .cv (.c (.fn (.func 36) [] [])) [(.t 6), (.t 8)]⟩, ⟨some 10, none, .p (.mv (.t 9))⟩, ⟨some 11, some (10, true), .p (.fadr 16 (.t 2))⟩, ⟨some 12, some (10, true), .r (.ld none (.t 11))⟩, ⟨some 13, some (10, true), .p (.fadr 16 (.t 3))⟩, ⟨some 14, some (10, true), .r (.ld none (.t 13))⟩, ⟨some 15, some (10, true), .cv (.c (.fn (.func 37) [] [])) [(.t 12), (.t 14)]⟩, ⟨some 16, none, .p (.pick (.t 10) (.t 15) (.c (.bool false)))⟩, ⟨some 17, none, .p (.mv (.t 16))⟩, ⟨some 18, some (17, true), .p (.fadr 17 (.t 2))⟩, ⟨some 19, some (17, true), .r (.ld none (.t 18))⟩, ⟨some 20, some (17, true), .p (.fadr 17 (.t 3))⟩, ⟨some 21, some (17, true), .r (.ld none (.t 20))⟩, ⟨some 22, some (17, true), .cv (.c (.fn (.func 38) [] [])) [(.t 19), (.t 21)]⟩, ⟨some 23, none, .p (.pick (.t 17) (.t 22) (.c (.bool false)))⟩, ⟨some 4, none, .p (.mv (.t 23))⟩]
@[go_sem] def c17 : CF := ⟨2, (.seq (.ops c17_s0) (.seq (.ops c17_s1) .ret)), [.tmp 4]⟩
theorem c17_eq : cCF Try.prog 17 2 = some c17 := by kernel_rfl

instance decOp : DecidableEq OpT := fun a b =>
  if h : a.1 = b.1 ∧ a.2.1 = b.2.1 ∧ a.2.2.1 = b.2.2.1 ∧ a.2.2.2.1 = b.2.2.2.1 ∧ a.2.2.2.2.1 = b.2.2.2.2.1 ∧ a.2.2.2.2.2.1 = b.2.2.2.2.2.1 ∧ a.2.2.2.2.2.2 = b.2.2.2.2.2.2 then
    .isTrue (by obtain ⟨x0, x1, x2, x3, x4, x5, x6⟩ := a; obtain ⟨y0, y1, y2, y3, y4, y5, y6⟩ := b; simp only at h; obtain ⟨rfl, rfl, rfl, rfl, rfl, rfl, rfl⟩ := h; rfl)
  else .isFalse (by intro e; subst e; simp at h)
instance decOps : DecidableEq (List OpT) := @instDecidableEqList OpT decOp
instance decProgs : DecidableEq (List (List OpT)) := @instDecidableEqList (List OpT) decOps
/-- a slice whose elements read as these values -/
def RdL (agg : Option Nat) (es : Nat) (h : H) (v : AV) (xs : List AV) : Prop :=
  (v = .nils ∧ xs = []) ∨ ∃ a o cap, v = .sl a o xs.length es cap ∧ xs.length ≤ 281474976710656 ∧ ∀ (i : Nat) x, xs[i]? = some x → ldA h.t.get agg a (o + i * es) = some x
theorem RdL.lenA {agg : Option Nat} {es : Nat} {h : H} {v : AV} {xs : List AV} (r : RdL agg es h v xs) : lenA v = some (.int .i64 (xs.length : Int)) := by
  rcases r with ⟨rfl, rfl⟩ | ⟨a, o, cap, rfl, _⟩ <;> rfl
theorem RdL.le {agg : Option Nat} {es : Nat} {h : H} {v : AV} {xs : List AV} (r : RdL agg es h v xs) : xs.length ≤ 281474976710656 := by
  rcases r with ⟨rfl, rfl⟩ | ⟨a, o, cap, rfl, h1, _⟩
  · exact Nat.zero_le _
  · exact h1
theorem Own.rdl1 {e : TypeId} {h : H} {v : AV} {len : Nat} {cs : List AV} (o : Own 1 e h v len cs) (hl : len ≤ 281474976710656) : RdL none 1 h v cs := by
  cases o with
  | nil => exact .inl ⟨rfl, rfl⟩
  | sl a len cs cap hc h0 hlen ha hg =>
    refine .inr ⟨a, 0, cap, by rw [hlen, Nat.mul_one], by omega, fun i x hi => ?_⟩
    rw [rLdA, hg, rBoth1, rLdO, rowGet, Nat.zero_add, Nat.mul_one]
    exact hi
theorem flat_get : ∀ (l : List OpT) (i : Nat) (x : OpT), l[i]? = some x → ((l.flatMap opC).drop (i * 7)).take 7 = opC x ∧ i * 7 + 7 ≤ (l.flatMap opC).length
  | [], i, x, h => by simp at h
  | y :: l, 0, x, h => by
    simp at h; subst h
    refine ⟨?_, ?_⟩
    · rw [List.flatMap_cons, Nat.zero_mul, List.drop_zero, List.take_append_of_le_length (by rw [opC_len]; exact Nat.le_refl _), opC_take]
    · rw [List.flatMap_cons, List.length_append, opC_len]; omega
  | y :: l, i + 1, x, h => by
    obtain ⟨h1, h2⟩ := flat_get l i x (by simpa using h)
    have e : (i + 1) * 7 = 7 + i * 7 := by omega
    refine ⟨?_, ?_⟩
    · rw [List.flatMap_cons, e, ← List.drop_drop, List.drop_left' (opC_len y)]
      exact h1
    · rw [List.flatMap_cons, List.length_append, opC_len]; omega
theorem Own.rdl7 {e : TypeId} {h : H} {v : AV} {l : List OpT} (o : Own 7 e h v l.length (l.flatMap opC)) (hl : l.length ≤ 281474976710656) : RdL (some 7) 7 h v (l.map fun x => .agg (opC x)) := by
  generalize hcs : l.flatMap opC = cs at o
  generalize hlen : l.length = n at o
  cases o with
  | nil =>
    have : l = [] := List.eq_nil_of_length_eq_zero hlen
    subst this
    exact .inl ⟨rfl, rfl⟩
  | sl a len cs cap hc h0 hlen2 ha hg =>
    refine .inr ⟨a, 0, cap, by rw [List.length_map, hlen], by rw [List.length_map]; omega, fun i x hi => ?_⟩
    rw [List.getElem?_map] at hi
    cases hx : l[i]? with
    | none => rw [hx] at hi; simp at hi
    | some y =>
      rw [hx] at hi
      simp at hi; subst hi
      obtain ⟨h1, h2⟩ := flat_get l i y hx
      rw [hcs] at h1 h2
      rw [rLdA, hg, rBoth1, rLdOn, Nat.zero_add, rowList cs (i * 7) 7 h2, rBoth1, h1]
theorem eq_of_prefix {α : Type} {l m : List α} (hl : l.length = m.length) (h : ∀ i, i < l.length → l[i]? = m[i]?) : l = m := List.ext_getElem? fun i => by
  by_cases hi : i < l.length
  · exact h i hi
  · rw [List.getElem?_eq_none (by omega), List.getElem?_eq_none (by omega)]

/-- the loop of function 71 -/
def J71 (h0 : H) (v w : AV) (l m : List Int) (k : Nat) (tm : T AV) (h : H) : Prop :=
  h = h0 ∧ ∃ i : Nat, i + k = l.length ∧ tm.get 0 = some v ∧ tm.get 1 = some w ∧ tm.get 5 = some (.int .i64 (i : Int)) ∧ ∀ j, j < i → l[j]? = m[j]?
theorem eqstep71 (P : Program) {call : CallE} {h0 : H} {v w : AV} {l m : List Int} (hv : RdL none 1 h0 v (l.map (fun x : Int => AV.int .u64 x))) (hw : RdL none 1 h0 w (m.map (fun x : Int => AV.int .u64 x))) (hlm : l.length = m.length) (k : Nat) (tm : T AV) (h : H) (hI : J71 h0 v w l m k tm h) :
    WC P call c71_l8 (loopQ 0 (fun tm h => ∃ j, j < k ∧ J71 h0 v w l m j tm h) (fun tm h => h = h0 ∧ l = m) (fun tm h => h = h0 ∧ l ≠ m ∧ tm.get 4 = some (.bool false))) tm h := by
  obtain ⟨rfl, i, hik, t0, t1, t5, hpre⟩ := hI
  have hvl := hv.lenA
  have hle := hv.le
  rw [List.length_map] at hvl hle
  cases k with
  | zero =>
    have e1 : ¬ (i : Int) < (l.length : Int) := by omega
    simp only [go_sem, ↓reduceIte, ↓reduceDIte, zA, zM, zL, zE, zD, yA, yE, yL, yQ, yT, reduceCtorEq, c71_l8, t0, t5, hvl, e1]
    exact eq_of_prefix hlm fun j hj => hpre j (by omega)
  | succ k =>
    have e1 : (i : Int) < (l.length : Int) := by omega
    have e2 : (i : Int) < (m.length : Int) := by omega
    have hi : i < l.length := by omega
    have hi2 : i < m.length := by omega
    rcases hv with ⟨_, hh⟩ | ⟨a, o, cap, rfl, _, ra⟩
    · rw [List.map_eq_nil_iff] at hh; subst hh; simp at hi
    rcases hw with ⟨_, hh⟩ | ⟨b, p, cap', rfl, _, rb⟩
    · rw [List.map_eq_nil_iff] at hh; subst hh; simp at hi2
    have ha := ra i ((fun x : Int => AV.int .u64 x) l[i]) (by simp [hi])
    have hb := rb i ((fun x : Int => AV.int .u64 x) m[i]) (by simp [hi2])
    rw [List.length_map] at t0 t1
    have f1 : fw .i64 ((i : Int) + 1) = (i : Int) + 1 := fwI (by omega) (by omega)
    have e3 : ((i + 1 : Nat) : Int) = (i : Int) + 1 := rfl
    rw [rLdA, Nat.mul_one] at ha hb
    simp only [go_sem, ↓reduceIte, ↓reduceDIte, zA, zM, zL, zE, zD, yA, yE, yL, yQ, yT, reduceCtorEq, c71_l8, t0, t1, t5, e1, e2, List.length_map, Nat.mul_one, ha, hb]
    by_cases hx : l[i] = m[i]
    · simp only [go_sem, ↓reduceIte, ↓reduceDIte, zA, zM, zL, zE, zD, yA, yE, yL, yQ, yT, reduceCtorEq, hx, t5, f1]
      refine ⟨k, Nat.lt_succ_self k, rfl, i + 1, by omega, ?_, ?_, ?_, fun j hj => ?_⟩
      · simp only [go_sem, ↓reduceIte, ↓reduceDIte, zA, zM, zL, zE, zD, yA, yE, yL, yQ, yT, reduceCtorEq, t0, List.length_map]
      · simp only [go_sem, ↓reduceIte, ↓reduceDIte, zA, zM, zL, zE, zD, yA, yE, yL, yQ, yT, reduceCtorEq, t1, List.length_map]
      · simp only [go_sem, ↓reduceIte, ↓reduceDIte, zA, zM, zL, zE, zD, yA, yE, yL, yQ, yT, reduceCtorEq, e3]
      · by_cases hj2 : j = i
        · subst hj2; rw [List.getElem?_eq_getElem hi, List.getElem?_eq_getElem hi2, hx]
        · exact hpre j (by omega)
    · simp only [go_sem, ↓reduceIte, ↓reduceDIte, zA, zM, zL, zE, zD, yA, yE, yL, yQ, yT, reduceCtorEq, hx]
      intro hlm2
      subst hlm2
      exact hx rfl

theorem w71 (P : Program) {call : CallE} {h : H} {v w : AV} {l m : List Int} (hv : RdL none 1 h v (l.map (fun x : Int => AV.int .u64 x))) (hw : RdL none 1 h w (m.map (fun x : Int => AV.int .u64 x))) :
    WF P call c71 [v, w] h fun v' h' => v' = .bool (decide (l = m)) ∧ h' = h := by
  have hvl := hv.lenA
  have hwl := hw.lenA
  rw [List.length_map] at hvl hwl
  simp only [go_sem, ↓reduceIte, ↓reduceDIte, zA, zM, zL, zE, zD, yA, yE, yL, yQ, yT, reduceCtorEq, c71, hvl, hwl]
  by_cases hlm : l.length = m.length
  · have e1 : (l.length : Int) = (m.length : Int) := by omega
    simp only [go_sem, ↓reduceIte, ↓reduceDIte, zA, zM, zL, zE, zD, yA, yE, yL, yQ, yT, reduceCtorEq, e1]
    refine loop_in (J71 h v w l m) (fun tm h' => h' = h ∧ l = m) (fun tm h' => h' = h ∧ l ≠ m ∧ tm.get 4 = some (.bool false)) (fun k tm h' hI => eqstep71 P hv hw hlm k tm h' hI) (fun tm2 h2 hR => ?_) (fun tm2 h2 hS => ?_) l.length _ _
      ⟨rfl, 0, by omega, ?_, ?_, ?_, fun j hj => by omega⟩
    · obtain ⟨rfl, rfl⟩ := hR
      simp only [go_sem, ↓reduceIte, ↓reduceDIte, zA, zM, zL, zE, zD, yA, yE, yL, yQ, yT, reduceCtorEq]
    · obtain ⟨rfl, hne, t4⟩ := hS
      simp only [go_sem, ↓reduceIte, ↓reduceDIte, zA, zM, zL, zE, zD, yA, yE, yL, yQ, yT, reduceCtorEq, t4, hne]
    · simp only [go_sem, ↓reduceIte, ↓reduceDIte, zA, zM, zL, zE, zD, yA, yE, yL, yQ, yT, reduceCtorEq]
    · simp only [go_sem, ↓reduceIte, ↓reduceDIte, zA, zM, zL, zE, zD, yA, yE, yL, yQ, yT, reduceCtorEq]
    · simp only [go_sem, ↓reduceIte, ↓reduceDIte, zA, zM, zL, zE, zD, yA, yE, yL, yQ, yT, reduceCtorEq]
  · have e1 : ¬ (l.length : Int) = (m.length : Int) := by omega
    have e2 : ¬ l = m := fun e => hlm (by rw [e])
    simp only [go_sem, ↓reduceIte, ↓reduceDIte, zA, zM, zL, zE, zD, yA, yE, yL, yQ, yT, reduceCtorEq, e1, e2]

/-- the loop of function 38 -/
def J38 (h0 : H) (v w : AV) (l m : List Int) (k : Nat) (tm : T AV) (h : H) : Prop :=
  h = h0 ∧ ∃ i : Nat, i + k = l.length ∧ tm.get 0 = some v ∧ tm.get 1 = some w ∧ tm.get 5 = some (.int .i64 (i : Int)) ∧ ∀ j, j < i → l[j]? = m[j]?
theorem eqstep38 (P : Program) {call : CallE} {h0 : H} {v w : AV} {l m : List Int} (hv : RdL none 1 h0 v (l.map (fun x : Int => AV.int .i64 x))) (hw : RdL none 1 h0 w (m.map (fun x : Int => AV.int .i64 x))) (hlm : l.length = m.length) (k : Nat) (tm : T AV) (h : H) (hI : J38 h0 v w l m k tm h) :
    WC P call c38_l8 (loopQ 0 (fun tm h => ∃ j, j < k ∧ J38 h0 v w l m j tm h) (fun tm h => h = h0 ∧ l = m) (fun tm h => h = h0 ∧ l ≠ m ∧ tm.get 4 = some (.bool false))) tm h := by
  obtain ⟨rfl, i, hik, t0, t1, t5, hpre⟩ := hI
  have hvl := hv.lenA
  have hle := hv.le
  rw [List.length_map] at hvl hle
  cases k with
  | zero =>
    have e1 : ¬ (i : Int) < (l.length : Int) := by omega
    simp only [go_sem, ↓reduceIte, ↓reduceDIte, zA, zM, zL, zE, zD, yA, yE, yL, yQ, yT, reduceCtorEq, c38_l8, t0, t5, hvl, e1]
    exact eq_of_prefix hlm fun j hj => hpre j (by omega)
  | succ k =>
    have e1 : (i : Int) < (l.length : Int) := by omega
    have e2 : (i : Int) < (m.length : Int) := by omega
    have hi : i < l.length := by omega
    have hi2 : i < m.length := by omega
    rcases hv with ⟨_, hh⟩ | ⟨a, o, cap, rfl, _, ra⟩
    · rw [List.map_eq_nil_iff] at hh; subst hh; simp at hi
    rcases hw with ⟨_, hh⟩ | ⟨b, p, cap', rfl, _, rb⟩
    · rw [List.map_eq_nil_iff] at hh; subst hh; simp at hi2
    have ha := ra i ((fun x : Int => AV.int .i64 x) l[i]) (by simp [hi])
    have hb := rb i ((fun x : Int => AV.int .i64 x) m[i]) (by simp [hi2])
    rw [List.length_map] at t0 t1
    have f1 : fw .i64 ((i : Int) + 1) = (i : Int) + 1 := fwI (by omega) (by omega)
    have e3 : ((i + 1 : Nat) : Int) = (i : Int) + 1 := rfl
    rw [rLdA, Nat.mul_one] at ha hb
    simp only [go_sem, ↓reduceIte, ↓reduceDIte, zA, zM, zL, zE, zD, yA, yE, yL, yQ, yT, reduceCtorEq, c38_l8, t0, t1, t5, e1, e2, List.length_map, Nat.mul_one, ha, hb]
    by_cases hx : l[i] = m[i]
    · simp only [go_sem, ↓reduceIte, ↓reduceDIte, zA, zM, zL, zE, zD, yA, yE, yL, yQ, yT, reduceCtorEq, hx, t5, f1]
      refine ⟨k, Nat.lt_succ_self k, rfl, i + 1, by omega, ?_, ?_, ?_, fun j hj => ?_⟩
      · simp only [go_sem, ↓reduceIte, ↓reduceDIte, zA, zM, zL, zE, zD, yA, yE, yL, yQ, yT, reduceCtorEq, t0, List.length_map]
      · simp only [go_sem, ↓reduceIte, ↓reduceDIte, zA, zM, zL, zE, zD, yA, yE, yL, yQ, yT, reduceCtorEq, t1, List.length_map]
      · simp only [go_sem, ↓reduceIte, ↓reduceDIte, zA, zM, zL, zE, zD, yA, yE, yL, yQ, yT, reduceCtorEq, e3]
      · by_cases hj2 : j = i
        · subst hj2; rw [List.getElem?_eq_getElem hi, List.getElem?_eq_getElem hi2, hx]
        · exact hpre j (by omega)
    · simp only [go_sem, ↓reduceIte, ↓reduceDIte, zA, zM, zL, zE, zD, yA, yE, yL, yQ, yT, reduceCtorEq, hx]
      intro hlm2
      subst hlm2
      exact hx rfl

theorem w38 (P : Program) {call : CallE} {h : H} {v w : AV} {l m : List Int} (hv : RdL none 1 h v (l.map (fun x : Int => AV.int .i64 x))) (hw : RdL none 1 h w (m.map (fun x : Int => AV.int .i64 x))) :
    WF P call c38 [v, w] h fun v' h' => v' = .bool (decide (l = m)) ∧ h' = h := by
  have hvl := hv.lenA
  have hwl := hw.lenA
  rw [List.length_map] at hvl hwl
  simp only [go_sem, ↓reduceIte, ↓reduceDIte, zA, zM, zL, zE, zD, yA, yE, yL, yQ, yT, reduceCtorEq, c38, hvl, hwl]
  by_cases hlm : l.length = m.length
  · have e1 : (l.length : Int) = (m.length : Int) := by omega
    simp only [go_sem, ↓reduceIte, ↓reduceDIte, zA, zM, zL, zE, zD, yA, yE, yL, yQ, yT, reduceCtorEq, e1]
    refine loop_in (J38 h v w l m) (fun tm h' => h' = h ∧ l = m) (fun tm h' => h' = h ∧ l ≠ m ∧ tm.get 4 = some (.bool false)) (fun k tm h' hI => eqstep38 P hv hw hlm k tm h' hI) (fun tm2 h2 hR => ?_) (fun tm2 h2 hS => ?_) l.length _ _
      ⟨rfl, 0, by omega, ?_, ?_, ?_, fun j hj => by omega⟩
    · obtain ⟨rfl, rfl⟩ := hR
      simp only [go_sem, ↓reduceIte, ↓reduceDIte, zA, zM, zL, zE, zD, yA, yE, yL, yQ, yT, reduceCtorEq]
    · obtain ⟨rfl, hne, t4⟩ := hS
      simp only [go_sem, ↓reduceIte, ↓reduceDIte, zA, zM, zL, zE, zD, yA, yE, yL, yQ, yT, reduceCtorEq, t4, hne]
    · simp only [go_sem, ↓reduceIte, ↓reduceDIte, zA, zM, zL, zE, zD, yA, yE, yL, yQ, yT, reduceCtorEq]
    · simp only [go_sem, ↓reduceIte, ↓reduceDIte, zA, zM, zL, zE, zD, yA, yE, yL, yQ, yT, reduceCtorEq]
    · simp only [go_sem, ↓reduceIte, ↓reduceDIte, zA, zM, zL, zE, zD, yA, yE, yL, yQ, yT, reduceCtorEq]
  · have e1 : ¬ (l.length : Int) = (m.length : Int) := by omega
    have e2 : ¬ l = m := fun e => hlm (by rw [e])
    simp only [go_sem, ↓reduceIte, ↓reduceDIte, zA, zM, zL, zE, zD, yA, yE, yL, yQ, yT, reduceCtorEq, e1, e2]
def all7 (a0 b0 a1 b1 a2 b2 a3 b3 a4 b4 a5 b5 a6 b6 : Int) : Option Bool := (match some (iEq a0 b0) with | some true => (match some (iEq a1 b1) with | some true => (match some (iEq a2 b2) with | some true => (match some (iEq a3 b3) with | some true => (match some (iEq a4 b4) with | some true => (match some (iEq a5 b5) with | some true => (match some (iEq a6 b6) with | some true => some true | some false => some false | none => none) | some false => some false | none => none) | some false => some false | none => none) | some false => some false | none => none) | some false => some false | none => none) | some false => some false | none => none) | some false => some false | none => none)
theorem all7_eq (a0 b0 a1 b1 a2 b2 a3 b3 a4 b4 a5 b5 a6 b6 : Int) : all7 a0 b0 a1 b1 a2 b2 a3 b3 a4 b4 a5 b5 a6 b6 = some (decide (a0 = b0 ∧ a1 = b1 ∧ a2 = b2 ∧ a3 = b3 ∧ a4 = b4 ∧ a5 = b5 ∧ a6 = b6)) := by
  unfold all7
  simp only [rIEq]
  by_cases h0 : a0 = b0
  case neg => simp [h0]
  rw [decide_eq_true h0]
  by_cases h1 : a1 = b1
  case neg => simp [h1]
  rw [decide_eq_true h1]
  by_cases h2 : a2 = b2
  case neg => simp [h2]
  rw [decide_eq_true h2]
  by_cases h3 : a3 = b3
  case neg => simp [h3]
  rw [decide_eq_true h3]
  by_cases h4 : a4 = b4
  case neg => simp [h4]
  rw [decide_eq_true h4]
  by_cases h5 : a5 = b5
  case neg => simp [h5]
  rw [decide_eq_true h5]
  by_cases h6 : a6 = b6
  case neg => simp [h6]
  rw [decide_eq_true h6]
  simp [h0, h1, h2, h3, h4, h5, h6]
def all6 (a0 b0 a1 b1 a2 b2 a3 b3 a4 b4 a5 b5 : Int) : Option Bool := (match some (iEq a0 b0) with | some true => (match some (iEq a1 b1) with | some true => (match some (iEq a2 b2) with | some true => (match some (iEq a3 b3) with | some true => (match some (iEq a4 b4) with | some true => (match some (iEq a5 b5) with | some true => some true | some false => some false | none => none) | some false => some false | none => none) | some false => some false | none => none) | some false => some false | none => none) | some false => some false | none => none) | some false => some false | none => none)
theorem all6_eq (a0 b0 a1 b1 a2 b2 a3 b3 a4 b4 a5 b5 : Int) : all6 a0 b0 a1 b1 a2 b2 a3 b3 a4 b4 a5 b5 = some (decide (a0 = b0 ∧ a1 = b1 ∧ a2 = b2 ∧ a3 = b3 ∧ a4 = b4 ∧ a5 = b5)) := by
  unfold all6
  simp only [rIEq]
  by_cases h0 : a0 = b0
  case neg => simp [h0]
  rw [decide_eq_true h0]
  by_cases h1 : a1 = b1
  case neg => simp [h1]
  rw [decide_eq_true h1]
  by_cases h2 : a2 = b2
  case neg => simp [h2]
  rw [decide_eq_true h2]
  by_cases h3 : a3 = b3
  case neg => simp [h3]
  rw [decide_eq_true h3]
  by_cases h4 : a4 = b4
  case neg => simp [h4]
  rw [decide_eq_true h4]
  by_cases h5 : a5 = b5
  case neg => simp [h5]
  rw [decide_eq_true h5]
  simp [h0, h1, h2, h3, h4, h5]
theorem eqA45 (a0 b0 a1 b1 a2 b2 a3 b3 a4 b4 a5 b5 a6 b6 : Int) : eqA Try.prog 10000 45 (.agg [.int .u8 a0, .int .u64 a1, .int .u64 a2, .int .u64 a3, .int .u64 a4, .int .u64 a5, .int .u64 a6]) (.agg [.int .u8 b0, .int .u64 b1, .int .u64 b2, .int .u64 b3, .int .u64 b4, .int .u64 b5, .int .u64 b6]) = all7 a0 b0 a1 b1 a2 b2 a3 b3 a4 b4 a5 b5 a6 b6 := by kernel_rfl
theorem guard45 : Try.prog.eqGuardType Try.prog.depth 45 = false := by kernel_rfl
theorem eqA25 (a0 b0 a1 b1 a2 b2 a3 b3 a4 b4 a5 b5 : Int) : eqA Try.prog 10000 25 (.agg [.int .i64 a0, .int .i64 a1, .int .i64 a2, .int .i64 a3, .int .i64 a4, .int .i64 a5]) (.agg [.int .i64 b0, .int .i64 b1, .int .i64 b2, .int .i64 b3, .int .i64 b4, .int .i64 b5]) = all6 a0 b0 a1 b1 a2 b2 a3 b3 a4 b4 a5 b5 := by kernel_rfl
theorem guard25 : Try.prog.eqGuardType Try.prog.depth 25 = false := by kernel_rfl
theorem ne45 (x y : OpT) : evBin Try.prog .neq 45 false false (.agg (opC x)) (.agg (opC y)) = some (.bool (!decide (x = y))) := by
  have e : (x = y) = (x.1 = y.1 ∧ x.2.1 = y.2.1 ∧ x.2.2.1 = y.2.2.1 ∧ x.2.2.2.1 = y.2.2.2.1 ∧ x.2.2.2.2.1 = y.2.2.2.2.1 ∧ x.2.2.2.2.2.1 = y.2.2.2.2.2.1 ∧ x.2.2.2.2.2.2 = y.2.2.2.2.2.2) := by
    apply propext
    constructor
    · rintro rfl; simp
    · rintro ⟨h0, h1, h2, h3, h4, h5, h6⟩
      exact Prod.ext h0 (Prod.ext h1 (Prod.ext h2 (Prod.ext h3 (Prod.ext h4 (Prod.ext h5 h6)))))
  unfold evBin opC
  simp only [guard45, cond_false, eqA45, all7_eq, e]
theorem eq25 (a0 b0 a1 b1 a2 b2 a3 b3 a4 b4 a5 b5 : Int) : evBin Try.prog .eql 25 false false (.agg [.int .i64 a0, .int .i64 a1, .int .i64 a2, .int .i64 a3, .int .i64 a4, .int .i64 a5]) (.agg [.int .i64 b0, .int .i64 b1, .int .i64 b2, .int .i64 b3, .int .i64 b4, .int .i64 b5]) = some (.bool (decide (a0 = b0 ∧ a1 = b1 ∧ a2 = b2 ∧ a3 = b3 ∧ a4 = b4 ∧ a5 = b5))) := by
  unfold evBin
  simp only [guard25, cond_false, eqA25, all6_eq]

/-- the loop of function 62 -/
def J62 (h0 : H) (v w : AV) (l m : List OpT) (k : Nat) (tm : T AV) (h : H) : Prop :=
  h = h0 ∧ ∃ i : Nat, i + k = l.length ∧ tm.get 0 = some v ∧ tm.get 1 = some w ∧ tm.get 5 = some (.int .i64 (i : Int)) ∧ ∀ j, j < i → l[j]? = m[j]?
theorem eqstep62 {call : CallE} {h0 : H} {v w : AV} {l m : List OpT} (hv : RdL (some 7) 7 h0 v (l.map (fun x : OpT => AV.agg (opC x)))) (hw : RdL (some 7) 7 h0 w (m.map (fun x : OpT => AV.agg (opC x)))) (hlm : l.length = m.length) (k : Nat) (tm : T AV) (h : H) (hI : J62 h0 v w l m k tm h) :
    WC Try.prog call c62_l8 (loopQ 0 (fun tm h => ∃ j, j < k ∧ J62 h0 v w l m j tm h) (fun tm h => h = h0 ∧ l = m) (fun tm h => h = h0 ∧ l ≠ m ∧ tm.get 4 = some (.bool false))) tm h := by
  obtain ⟨rfl, i, hik, t0, t1, t5, hpre⟩ := hI
  have hvl := hv.lenA
  have hle := hv.le
  rw [List.length_map] at hvl hle
  cases k with
  | zero =>
    have e1 : ¬ (i : Int) < (l.length : Int) := by omega
    simp only [go_sem, ↓reduceIte, ↓reduceDIte, zA, zM, zL, zE, zD, yA, yE, yL, yQ, yT, reduceCtorEq, c62_l8, t0, t5, hvl, e1]
    exact eq_of_prefix hlm fun j hj => hpre j (by omega)
  | succ k =>
    have e1 : (i : Int) < (l.length : Int) := by omega
    have e2 : (i : Int) < (m.length : Int) := by omega
    have hi : i < l.length := by omega
    have hi2 : i < m.length := by omega
    rcases hv with ⟨_, hh⟩ | ⟨a, o, cap, rfl, _, ra⟩
    · rw [List.map_eq_nil_iff] at hh; subst hh; simp at hi
    rcases hw with ⟨_, hh⟩ | ⟨b, p, cap', rfl, _, rb⟩
    · rw [List.map_eq_nil_iff] at hh; subst hh; simp at hi2
    have ha := ra i ((fun x : OpT => AV.agg (opC x)) l[i]) (by simp [hi])
    have hb := rb i ((fun x : OpT => AV.agg (opC x)) m[i]) (by simp [hi2])
    rw [List.length_map] at t0 t1
    have f1 : fw .i64 ((i : Int) + 1) = (i : Int) + 1 := fwI (by omega) (by omega)
    have e3 : ((i + 1 : Nat) : Int) = (i : Int) + 1 := rfl
    rw [rLdA] at ha hb
    have hne := ne45 l[i] m[i]
    simp only [go_sem, ↓reduceIte, ↓reduceDIte, zA, zM, zL, zE, zD, yA, yE, yL, yQ, yT, reduceCtorEq, c62_l8, t0, t1, t5, e1, e2, List.length_map, ha, hb, hne]
    by_cases hx : l[i] = m[i]
    · simp only [go_sem, ↓reduceIte, ↓reduceDIte, zA, zM, zL, zE, zD, yA, yE, yL, yQ, yT, reduceCtorEq, hx, t5, f1]
      refine ⟨k, Nat.lt_succ_self k, rfl, i + 1, by omega, ?_, ?_, ?_, fun j hj => ?_⟩
      · simp only [go_sem, ↓reduceIte, ↓reduceDIte, zA, zM, zL, zE, zD, yA, yE, yL, yQ, yT, reduceCtorEq, t0, List.length_map]
      · simp only [go_sem, ↓reduceIte, ↓reduceDIte, zA, zM, zL, zE, zD, yA, yE, yL, yQ, yT, reduceCtorEq, t1, List.length_map]
      · simp only [go_sem, ↓reduceIte, ↓reduceDIte, zA, zM, zL, zE, zD, yA, yE, yL, yQ, yT, reduceCtorEq, e3]
      · by_cases hj2 : j = i
        · subst hj2; rw [List.getElem?_eq_getElem hi, List.getElem?_eq_getElem hi2, hx]
        · exact hpre j (by omega)
    · simp only [go_sem, ↓reduceIte, ↓reduceDIte, zA, zM, zL, zE, zD, yA, yE, yL, yQ, yT, reduceCtorEq, hx]
      intro hlm2
      subst hlm2
      exact hx rfl

theorem w62 {call : CallE} {h : H} {v w : AV} {l m : List OpT} (hv : RdL (some 7) 7 h v (l.map (fun x : OpT => AV.agg (opC x)))) (hw : RdL (some 7) 7 h w (m.map (fun x : OpT => AV.agg (opC x)))) :
    WF Try.prog call c62 [v, w] h fun v' h' => v' = .bool (decide (l = m)) ∧ h' = h := by
  have hvl := hv.lenA
  have hwl := hw.lenA
  rw [List.length_map] at hvl hwl
  simp only [go_sem, ↓reduceIte, ↓reduceDIte, zA, zM, zL, zE, zD, yA, yE, yL, yQ, yT, reduceCtorEq, c62, hvl, hwl]
  by_cases hlm : l.length = m.length
  · have e1 : (l.length : Int) = (m.length : Int) := by omega
    simp only [go_sem, ↓reduceIte, ↓reduceDIte, zA, zM, zL, zE, zD, yA, yE, yL, yQ, yT, reduceCtorEq, e1]
    refine loop_in (J62 h v w l m) (fun tm h' => h' = h ∧ l = m) (fun tm h' => h' = h ∧ l ≠ m ∧ tm.get 4 = some (.bool false)) (fun k tm h' hI => eqstep62 hv hw hlm k tm h' hI) (fun tm2 h2 hR => ?_) (fun tm2 h2 hS => ?_) l.length _ _
      ⟨rfl, 0, by omega, ?_, ?_, ?_, fun j hj => by omega⟩
    · obtain ⟨rfl, rfl⟩ := hR
      simp only [go_sem, ↓reduceIte, ↓reduceDIte, zA, zM, zL, zE, zD, yA, yE, yL, yQ, yT, reduceCtorEq]
    · obtain ⟨rfl, hne, t4⟩ := hS
      simp only [go_sem, ↓reduceIte, ↓reduceDIte, zA, zM, zL, zE, zD, yA, yE, yL, yQ, yT, reduceCtorEq, t4, hne]
    · simp only [go_sem, ↓reduceIte, ↓reduceDIte, zA, zM, zL, zE, zD, yA, yE, yL, yQ, yT, reduceCtorEq]
    · simp only [go_sem, ↓reduceIte, ↓reduceDIte, zA, zM, zL, zE, zD, yA, yE, yL, yQ, yT, reduceCtorEq]
    · simp only [go_sem, ↓reduceIte, ↓reduceDIte, zA, zM, zL, zE, zD, yA, yE, yL, yQ, yT, reduceCtorEq]
  · have e1 : ¬ (l.length : Int) = (m.length : Int) := by omega
    have e2 : ¬ l = m := fun e => hlm (by rw [e])
    simp only [go_sem, ↓reduceIte, ↓reduceDIte, zA, zM, zL, zE, zD, yA, yE, yL, yQ, yT, reduceCtorEq, e1, e2]

/-- a slice of programs -/
def RdP (h : H) (v : AV) (ps : List (List OpT)) : Prop := ∃ vs, RdL none 1 h v vs ∧ vs.length = ps.length ∧ (∀ (i : Nat) x p, vs[i]? = some x → ps[i]? = some p → RdL (some 7) 7 h x (p.map fun x => AV.agg (opC x))) ∧ (∀ a, own v = some a → a < h.next) ∧ ∀ (i : Nat) x, vs[i]? = some x → ∀ a, own x = some a → a < h.next
theorem PR.rdp {lo hi : Nat} {h : H} {v : AV} {ps : List (List OpT)} (p : PR lo hi h v ps) (hl : ps.length ≤ 281474976710656) (hl2 : ∀ q ∈ ps, q.length ≤ 281474976710656) : RdP h v ps := by
  obtain ⟨vs, p1, p2, p3⟩ := p.ex
  have hvl : vs.length = ps.length := by have := p1.length; omega
  exact ⟨vs, Own.rdl1 p1 hl, hvl, fun i x q hx hq => Own.rdl7 (p3 i x q hx hq).1 (hl2 q (List.mem_of_getElem? hq)), fun a ha => p1.lt ha, fun i x hx a ha => by
    have hi : i < ps.length := by have := (List.getElem?_eq_some_iff.1 hx).1; omega
    exact (p3 i x ps[i] hx (by simp [hi])).1.lt ha⟩
/-- the loop of function 37 -/
def J37 (h0 : H) (v w : AV) (vs : List AV) (l m : List (List OpT)) (k : Nat) (tm : T AV) (h : H) : Prop :=
  h = h0 ∧ ∃ i : Nat, i + k = l.length ∧ tm.get 0 = some v ∧ tm.get 1 = some w ∧ tm.get 5 = some (.int .i64 (i : Int)) ∧ ∀ j, j < i → l[j]? = m[j]?
theorem eqstep37 (P : Program) {call : CallE} (h62 : ∀ h v w (l m : List OpT), RdL (some 7) 7 h v (l.map fun x : OpT => AV.agg (opC x)) → RdL (some 7) 7 h w (m.map fun x : OpT => AV.agg (opC x)) → call 62 [v, w] h = some (.bool (decide (l = m)), h))
    {h0 : H} {v w : AV} {vs ws : List AV} {l m : List (List OpT)} (hv : RdL none 1 h0 v vs) (hw : RdL none 1 h0 w ws) (hvl : vs.length = l.length) (hwl : ws.length = m.length)
    (hve : ∀ (i : Nat) x p, vs[i]? = some x → l[i]? = some p → RdL (some 7) 7 h0 x (p.map fun x => AV.agg (opC x))) (hwe : ∀ (i : Nat) x p, ws[i]? = some x → m[i]? = some p → RdL (some 7) 7 h0 x (p.map fun x => AV.agg (opC x)))
    (hlm : l.length = m.length) (k : Nat) (tm : T AV) (h : H) (hI : J37 h0 v w vs l m k tm h) :
    WC P call c37_l8 (loopQ 0 (fun tm h => ∃ j, j < k ∧ J37 h0 v w vs l m j tm h) (fun tm h => h = h0 ∧ l = m) (fun tm h => h = h0 ∧ l ≠ m ∧ tm.get 4 = some (.bool false))) tm h := by
  obtain ⟨rfl, i, hik, t0, t1, t5, hpre⟩ := hI
  have hla := hv.lenA
  have hle := hv.le
  rw [hvl] at hla hle
  cases k with
  | zero =>
    have e1 : ¬ (i : Int) < (l.length : Int) := by omega
    simp only [go_sem, ↓reduceIte, ↓reduceDIte, zA, zM, zL, zE, zD, yA, yE, yL, yQ, yT, reduceCtorEq, c37_l8, t0, t5, hla, e1]
    exact eq_of_prefix hlm fun j hj => hpre j (by omega)
  | succ k =>
    have e1 : (i : Int) < (l.length : Int) := by omega
    have e2 : (i : Int) < (m.length : Int) := by omega
    have hi : i < l.length := by omega
    have hi2 : i < m.length := by omega
    have hiv : i < vs.length := by omega
    have hiw : i < ws.length := by omega
    rcases hv with ⟨_, hh⟩ | ⟨a, o, cap, rfl, _, ra⟩
    · subst hh; simp at hiv
    rcases hw with ⟨_, hh⟩ | ⟨b, p, cap', rfl, _, rb⟩
    · subst hh; simp at hiw
    have ha := ra i vs[i] (by simp [hiv])
    have hb := rb i ws[i] (by simp [hiw])
    have hcall := h62 h vs[i] ws[i] l[i] m[i] (hve i _ _ (by simp [hiv]) (by simp [hi])) (hwe i _ _ (by simp [hiw]) (by simp [hi2]))
    rw [hvl] at t0
    rw [hwl] at t1
    rw [rLdA, Nat.mul_one] at ha hb
    have f1 : fw .i64 ((i : Int) + 1) = (i : Int) + 1 := fwI (by omega) (by omega)
    have e3 : ((i + 1 : Nat) : Int) = (i : Int) + 1 := rfl
    simp only [go_sem, ↓reduceIte, ↓reduceDIte, zA, zM, zL, zE, zD, yA, yE, yL, yQ, yT, reduceCtorEq, c37_l8, t0, t1, t5, e1, e2, Nat.mul_one, ha, hb, hcall]
    by_cases hx : l[i] = m[i]
    · simp only [go_sem, ↓reduceIte, ↓reduceDIte, zA, zM, zL, zE, zD, yA, yE, yL, yQ, yT, reduceCtorEq, hx, t5, f1]
      refine ⟨k, Nat.lt_succ_self k, rfl, i + 1, by omega, ?_, ?_, ?_, fun j hj => ?_⟩
      · simp only [go_sem, ↓reduceIte, ↓reduceDIte, zA, zM, zL, zE, zD, yA, yE, yL, yQ, yT, reduceCtorEq, t0, hvl]
      · simp only [go_sem, ↓reduceIte, ↓reduceDIte, zA, zM, zL, zE, zD, yA, yE, yL, yQ, yT, reduceCtorEq, t1, hwl]
      · simp only [go_sem, ↓reduceIte, ↓reduceDIte, zA, zM, zL, zE, zD, yA, yE, yL, yQ, yT, reduceCtorEq, e3]
      · by_cases hj2 : j = i
        · subst hj2; rw [List.getElem?_eq_getElem hi, List.getElem?_eq_getElem hi2, hx]
        · exact hpre j (by omega)
    · simp only [go_sem, ↓reduceIte, ↓reduceDIte, zA, zM, zL, zE, zD, yA, yE, yL, yQ, yT, reduceCtorEq, hx]
      intro hlm2
      subst hlm2
      exact hx rfl
theorem w37 (P : Program) {call : CallE} (h62 : ∀ h v w (l m : List OpT), RdL (some 7) 7 h v (l.map fun x : OpT => AV.agg (opC x)) → RdL (some 7) 7 h w (m.map fun x : OpT => AV.agg (opC x)) → call 62 [v, w] h = some (.bool (decide (l = m)), h))
    {h : H} {v w : AV} {l m : List (List OpT)} (hv : RdP h v l) (hw : RdP h w m) : WF P call c37 [v, w] h fun v' h' => v' = .bool (decide (l = m)) ∧ h' = h := by
  obtain ⟨vs, hv, hvl, hve, _⟩ := hv
  obtain ⟨ws, hw, hwl, hwe, _⟩ := hw
  have hva := hv.lenA
  have hwa := hw.lenA
  rw [hvl] at hva
  rw [hwl] at hwa
  simp only [go_sem, ↓reduceIte, ↓reduceDIte, zA, zM, zL, zE, zD, yA, yE, yL, yQ, yT, reduceCtorEq, c37, hva, hwa]
  by_cases hlm : l.length = m.length
  · have e1 : (l.length : Int) = (m.length : Int) := by omega
    simp only [go_sem, ↓reduceIte, ↓reduceDIte, zA, zM, zL, zE, zD, yA, yE, yL, yQ, yT, reduceCtorEq, e1]
    refine loop_in (J37 h v w vs l m) (fun tm h' => h' = h ∧ l = m) (fun tm h' => h' = h ∧ l ≠ m ∧ tm.get 4 = some (.bool false)) (fun k tm h' hI => eqstep37 P h62 hv hw hvl hwl hve hwe hlm k tm h' hI) (fun tm2 h2 hR => ?_) (fun tm2 h2 hS => ?_) l.length _ _
      ⟨rfl, 0, by omega, ?_, ?_, ?_, fun j hj => by omega⟩
    · obtain ⟨rfl, rfl⟩ := hR
      simp only [go_sem, ↓reduceIte, ↓reduceDIte, zA, zM, zL, zE, zD, yA, yE, yL, yQ, yT, reduceCtorEq]
    · obtain ⟨rfl, hne, t4⟩ := hS
      simp only [go_sem, ↓reduceIte, ↓reduceDIte, zA, zM, zL, zE, zD, yA, yE, yL, yQ, yT, reduceCtorEq, t4, hne]
    · simp only [go_sem, ↓reduceIte, ↓reduceDIte, zA, zM, zL, zE, zD, yA, yE, yL, yQ, yT, reduceCtorEq]
    · simp only [go_sem, ↓reduceIte, ↓reduceDIte, zA, zM, zL, zE, zD, yA, yE, yL, yQ, yT, reduceCtorEq]
    · simp only [go_sem, ↓reduceIte, ↓reduceDIte, zA, zM, zL, zE, zD, yA, yE, yL, yQ, yT, reduceCtorEq]
  · have e1 : ¬ (l.length : Int) = (m.length : Int) := by omega
    have e2 : ¬ l = m := fun e => hlm (by rw [e])
    simp only [go_sem, ↓reduceIte, ↓reduceDIte, zA, zM, zL, zE, zD, yA, yE, yL, yQ, yT, reduceCtorEq, e1, e2]
/-- nothing old is changed -/
structure StepN (h h' : H) : Prop where
  next : h.next ≤ h'.next
  old : ∀ b, b < h.next → h'.t.get b = h.t.get b
/-- says whether something is so -/
def SaysB (p : Prop) (h : H) (v : AV) (h' : H) : Prop := ∃ b : Bool, v = .bool b ∧ (b = true ↔ p) ∧ StepN h h'
theorem RdL.keep {agg : Option Nat} {es : Nat} {h h' : H} {v : AV} {xs : List AV} (r : RdL agg es h v xs) (hk : ∀ b, own v = some b → h'.t.get b = h.t.get b) : RdL agg es h' v xs := by
  rcases r with ⟨rfl, rfl⟩ | ⟨a, o, cap, rfl, h1, h2⟩
  · exact .inl ⟨rfl, rfl⟩
  · exact .inr ⟨a, o, cap, rfl, h1, fun i x hi => by have := h2 i x hi; rw [rLdA] at this ⊢; rw [hk a rfl]; exact this⟩

theorem RdL.one {agg : Option Nat} {es : Nat} {h : H} {v : AV} {xs : List AV} (r : RdL agg es h v xs) : oneA v = true := by
  rcases r with ⟨rfl, rfl⟩ | ⟨a, o, cap, rfl, _⟩ <;> rfl
theorem w61 (P : Program) {call : CallE} (h71 : ∀ h v w (l m : List Int), RdL none 1 h v (l.map fun x : Int => AV.int .u64 x) → RdL none 1 h w (m.map fun x : Int => AV.int .u64 x) → call 71 [v, w] h = some (.bool (decide (l = m)), h))
    {h : H} {k k' n n' : Int} {v w : AV} {l m : List Int} (hv : RdL none 1 h v (l.map fun x : Int => AV.int .u64 x)) (hw : RdL none 1 h w (m.map fun x : Int => AV.int .u64 x)) (hlv : ∀ a, own v = some a → a < h.next) (hlw : ∀ a, own w = some a → a < h.next) :
    WF P call c61 [.agg [.int .u8 k, .int .i64 n, v], .agg [.int .u8 k', .int .i64 n', w]] h (SaysB (k = k' ∧ n = n' ∧ l = m) h) := by
  have ov := hv.one
  have ow := hw.one
  have st : ∀ x y, StepN h ⟨h.next + 2, (h.t.set h.next x).set (h.next + 1) y⟩ := fun x y => ⟨Nat.le_add_right _ _, fun b hb => by
    have e1 : ¬ b = h.next := by omega
    have e2 : ¬ b = h.next + 1 := by omega
    simp only [go_sem, ↓reduceIte, ↓reduceDIte, zA, zM, zL, zE, zD, yA, yE, yL, yQ, yT, reduceCtorEq, e1, e2]⟩
  simp only [go_sem, ↓reduceIte, ↓reduceDIte, zA, zM, zL, zE, zD, yA, yE, yL, yQ, yT, reduceCtorEq, c61, ov, ow]
  by_cases h1 : k = k'
  case neg =>
    simp only [go_sem, ↓reduceIte, ↓reduceDIte, zA, zM, zL, zE, zD, yA, yE, yL, yQ, yT, reduceCtorEq, h1]
    exact ⟨false, rfl, by simp [h1], st _ _⟩
  by_cases h2 : n = n'
  case neg =>
    simp only [go_sem, ↓reduceIte, ↓reduceDIte, zA, zM, zL, zE, zD, yA, yE, yL, yQ, yT, reduceCtorEq, h1, h2]
    exact ⟨false, rfl, by simp [h2], st _ _⟩
  simp only [go_sem, ↓reduceIte, ↓reduceDIte, zA, zM, zL, zE, zD, yA, yE, yL, yQ, yT, reduceCtorEq, h1, h2]
  refine opt_some (h71 _ v w l m (hv.keep fun b hb => (st _ _).old b (hlv b hb)) (hw.keep fun b hb => (st _ _).old b (hlw b hb))) ?_
  simp only [go_sem, ↓reduceIte, ↓reduceDIte, zA, zM, zL, zE, zD, yA, yE, yL, yQ, yT, reduceCtorEq]
  exact ⟨decide (l = m), rfl, by simp [h1, h2], st _ _⟩

theorem cfg_ext {a b : CfgT} : a = b ↔ a.threads = b.threads ∧ a.slots = b.slots ∧ a.engine = b.engine ∧ a.buckets = b.buckets ∧ (a.kind = b.kind ∧ a.n = b.n ∧ a.cuts = b.cuts) ∧ (a.t0 = b.t0 ∧ a.t1 = b.t1 ∧ a.t2 = b.t2 ∧ a.t3 = b.t3 ∧ a.t4 = b.t4 ∧ a.t5 = b.t5) ∧ a.locks = b.locks ∧ a.tries = b.tries ∧ a.batch = b.batch := by
  constructor
  · rintro rfl; simp
  · intro h
    cases a; cases b
    simp only at h
    obtain ⟨rfl, rfl, rfl, rfl, ⟨rfl, rfl, rfl⟩, ⟨rfl, rfl, rfl, rfl, rfl, rfl⟩, rfl, rfl, rfl⟩ := h
    rfl
theorem StepN.trans {a b c : H} (h : StepN a b) (k : StepN b c) : StepN a c := ⟨Nat.le_trans h.next k.next, fun x hx => (k.old x (Nat.lt_of_lt_of_le hx h.next)).trans (h.old x hx)⟩
set_option maxRecDepth 4000 in
theorem w36 {call : CallE} (h61 : ∀ h k k' n n' v w (l m : List Int), RdL none 1 h v (l.map fun x : Int => AV.int .u64 x) → RdL none 1 h w (m.map fun x : Int => AV.int .u64 x) → (∀ a, own v = some a → a < h.next) → (∀ a, own w = some a → a < h.next) →
      ∃ v' h', call 61 [.agg [.int .u8 k, .int .i64 n, v], .agg [.int .u8 k', .int .i64 n', w]] h = some (v', h') ∧ SaysB (k = k' ∧ n = n' ∧ l = m) h v' h')
    {h : H} {a b : CfgT} {v w : AV} (hv : RdL none 1 h v (a.cuts.map fun x : Int => AV.int .u64 x)) (hw : RdL none 1 h w (b.cuts.map fun x : Int => AV.int .u64 x)) (hlv : ∀ x, own v = some x → x < h.next) (hlw : ∀ x, own w = some x → x < h.next) :
    WF Try.prog call c36 [.agg (cfgC a v), .agg (cfgC b w)] h (SaysB (a = b) h) := by
  have ov := hv.one
  have ow := hw.one
  have st : ∀ x y, StepN h ⟨h.next + 2, (h.t.set h.next x).set (h.next + 1) y⟩ := fun x y => ⟨Nat.le_add_right _ _, fun b hb => by
    have e1 : ¬ b = h.next := by omega
    have e2 : ¬ b = h.next + 1 := by omega
    simp only [go_sem, ↓reduceIte, ↓reduceDIte, zA, zM, zL, zE, zD, yA, yE, yL, yQ, yT, reduceCtorEq, e1, e2]⟩
  simp only [go_sem, ↓reduceIte, ↓reduceDIte, zA, zM, zL, zE, zD, yA, yE, yL, yQ, yT, reduceCtorEq, c36, ov, ow, cfgC]
  by_cases h0 : a.threads = b.threads
  case neg =>
    simp only [go_sem, ↓reduceIte, ↓reduceDIte, zA, zM, zL, zE, zD, yA, yE, yL, yQ, yT, reduceCtorEq, h0, ov, ow, cfgC]
    exact ⟨false, rfl, by simp [cfg_ext, h0], st _ _⟩
  by_cases h1 : a.slots = b.slots
  case neg =>
    simp only [go_sem, ↓reduceIte, ↓reduceDIte, zA, zM, zL, zE, zD, yA, yE, yL, yQ, yT, reduceCtorEq, h0, h1, ov, ow, cfgC]
    exact ⟨false, rfl, by simp [cfg_ext, h1], st _ _⟩
  by_cases h2 : a.engine = b.engine
  case neg =>
    simp only [go_sem, ↓reduceIte, ↓reduceDIte, zA, zM, zL, zE, zD, yA, yE, yL, yQ, yT, reduceCtorEq, h0, h1, h2, ov, ow, cfgC]
    exact ⟨false, rfl, by simp [cfg_ext, h2], st _ _⟩
  by_cases h3 : a.buckets = b.buckets
  case neg =>
    simp only [go_sem, ↓reduceIte, ↓reduceDIte, zA, zM, zL, zE, zD, yA, yE, yL, yQ, yT, reduceCtorEq, h0, h1, h2, h3, ov, ow, cfgC]
    exact ⟨false, rfl, by simp [cfg_ext, h3], st _ _⟩
  simp only [go_sem, ↓reduceIte, ↓reduceDIte, zA, zM, zL, zE, zD, yA, yE, yL, yQ, yT, reduceCtorEq, h0, h1, h2, h3, ov, ow, cfgC]
  refine opt_by (h61 _ _ _ _ _ v w a.cuts b.cuts (hv.keep fun b hb => (st _ _).old b (hlv b hb)) (hw.keep fun b hb => (st _ _).old b (hlw b hb)) (fun x hx => Nat.lt_of_lt_of_le (hlv x hx) (st _ _).next) (fun x hx => Nat.lt_of_lt_of_le (hlw x hx) (st _ _).next)) fun v1 h1' p1 => ?_
  obtain ⟨bd, rfl, hbd, st1⟩ := p1
  have stn := (st _ _).trans st1
  have g0 := st1.old h.next (by show h.next < h.next + 2; omega)
  have g1 := st1.old (h.next + 1) (by show h.next + 1 < h.next + 2; omega)
  simp only [go_sem, ↓reduceIte, ↓reduceDIte, zA, zM, zL, zE, zD, yA, yE, yL, yQ, yT, reduceCtorEq] at g0 g1
  cases bd with
  | false =>
    simp only [go_sem, ↓reduceIte, ↓reduceDIte, zA, zM, zL, zE, zD, yA, yE, yL, yQ, yT, reduceCtorEq, g0, g1]
    refine ⟨false, rfl, ?_, stn⟩
    rw [cfg_ext]
    constructor
    · intro e; simp at e
    · rintro ⟨_, _, _, _, e, _⟩; exact hbd.2 e
  | true =>
    have hd := hbd.1 rfl
    simp only [go_sem, ↓reduceIte, ↓reduceDIte, zA, zM, zL, zE, zD, yA, yE, yL, yQ, yT, reduceCtorEq, g0, g1, eq25]
    by_cases h5 : a.t0 = b.t0 ∧ a.t1 = b.t1 ∧ a.t2 = b.t2 ∧ a.t3 = b.t3 ∧ a.t4 = b.t4 ∧ a.t5 = b.t5
    case neg =>
      rw [decide_eq_false h5]
      simp only [go_sem, ↓reduceIte, ↓reduceDIte, zA, zM, zL, zE, zD, yA, yE, yL, yQ, yT, reduceCtorEq, g0, g1]
      refine ⟨false, rfl, ?_, stn⟩
      rw [cfg_ext]
      constructor
      · intro e; simp at e
      · rintro ⟨_, _, _, _, _, e, _⟩; exact absurd e h5
    rw [decide_eq_true h5]
    by_cases h6 : a.locks = b.locks
    case neg =>
      simp only [go_sem, ↓reduceIte, ↓reduceDIte, zA, zM, zL, zE, zD, yA, yE, yL, yQ, yT, reduceCtorEq, h6, g0, g1]
      exact ⟨false, rfl, by rw [cfg_ext]; simp [h6], stn⟩
    by_cases h7 : a.tries = b.tries
    case neg =>
      simp only [go_sem, ↓reduceIte, ↓reduceDIte, zA, zM, zL, zE, zD, yA, yE, yL, yQ, yT, reduceCtorEq, h6, h7, g0, g1]
      exact ⟨false, rfl, by rw [cfg_ext]; simp [h7], stn⟩
    simp only [go_sem, ↓reduceIte, ↓reduceDIte, zA, zM, zL, zE, zD, yA, yE, yL, yQ, yT, reduceCtorEq, h6, h7, g0, g1]
    exact ⟨decide (a.batch = b.batch), rfl, by rw [cfg_ext]; simp [h0, h1, h2, h3, hd, h5, h6, h7], stn⟩

theorem RdP.keep {h h' : H} {v : AV} {ps : List (List OpT)} (r : RdP h v ps) (st : StepN h h') : RdP h' v ps := by
  obtain ⟨vs, h1, h2, h3, h4, h5⟩ := r
  exact ⟨vs, h1.keep fun b hb => st.old b (h4 b hb), h2, fun i x p hx hp => (h3 i x p hx hp).keep fun b hb => st.old b (h5 i x hx b hb), fun a ha => Nat.lt_of_lt_of_le (h4 a ha) st.next, fun i x hx a ha => Nat.lt_of_lt_of_le (h5 i x hx a ha) st.next⟩
theorem RdP.one {h : H} {v : AV} {ps : List (List OpT)} (r : RdP h v ps) : oneA v = true := by
  obtain ⟨vs, h1, _⟩ := r
  exact h1.one
section
variable (c : CfgT) (cv a b : AV)
@[go_sem] theorem cfg_take16 : (cfgC c cv ++ [a, b]).take 16 = cfgC c cv := by unfold cfgC; rfl
end
set_option maxRecDepth 4000 in
theorem w17 (P : Program) {call : CallE} (h36 : ∀ h (a b : CfgT) v w, RdL none 1 h v (a.cuts.map fun x : Int => AV.int .u64 x) → RdL none 1 h w (b.cuts.map fun x : Int => AV.int .u64 x) → (∀ x, own v = some x → x < h.next) → (∀ x, own w = some x → x < h.next) → ∃ v' h', call 36 [.agg (cfgC a v), .agg (cfgC b w)] h = some (v', h') ∧ SaysB (a = b) h v' h')
    (h37 : ∀ h v w (l m : List (List OpT)), RdP h v l → RdP h w m → call 37 [v, w] h = some (.bool (decide (l = m)), h))
    (h38 : ∀ h v w (l m : List Int), RdL none 1 h v (l.map fun x : Int => AV.int .i64 x) → RdL none 1 h w (m.map fun x : Int => AV.int .i64 x) → call 38 [v, w] h = some (.bool (decide (l = m)), h))
    {h : H} {a b : CfgT} {v w : AV} (hv : RdL none 1 h v (a.cuts.map fun x : Int => AV.int .u64 x)) (hw : RdL none 1 h w (b.cuts.map fun x : Int => AV.int .u64 x)) (hlv : ∀ x, own v = some x → x < h.next) (hlw : ∀ x, own w = some x → x < h.next)
    {pa pb ka kb : AV} {la lb : List (List OpT)} {ma mb : List Int} (hpa : RdP h pa la) (hpb : RdP h pb lb) (hka : RdL none 1 h ka (ma.map fun x : Int => AV.int .i64 x)) (hkb : RdL none 1 h kb (mb.map fun x : Int => AV.int .i64 x)) (hla : ∀ x, own ka = some x → x < h.next) (hlb : ∀ x, own kb = some x → x < h.next) :
    WF P call c17 [.agg (cfgC a v ++ [pa, ka]), .agg (cfgC b w ++ [pb, kb])] h (SaysB (a = b ∧ la = lb ∧ ma = mb) h) := by
  have ov := hv.one
  have ow := hw.one
  have opa := hpa.one
  have opb := hpb.one
  have oka := hka.one
  have okb := hkb.one
  have st : ∀ x y, StepN h ⟨h.next + 2, (h.t.set h.next x).set (h.next + 1) y⟩ := fun x y => ⟨Nat.le_add_right _ _, fun b hb => by
    have e1 : ¬ b = h.next := by omega
    have e2 : ¬ b = h.next + 1 := by omega
    simp only [go_sem, ↓reduceIte, ↓reduceDIte, zA, zM, zL, zE, zD, yA, yE, yL, yQ, yT, reduceCtorEq, e1, e2]⟩
  simp only [go_sem, ↓reduceIte, ↓reduceDIte, zA, zM, zL, zE, zD, yA, yE, yL, yQ, yT, reduceCtorEq, c17, ov, ow, opa, opb, oka, okb]
  refine opt_by (h36 _ a b v w (hv.keep fun b hb => (st _ _).old b (hlv b hb)) (hw.keep fun b hb => (st _ _).old b (hlw b hb)) (fun x hx => Nat.lt_of_lt_of_le (hlv x hx) (st _ _).next) (fun x hx => Nat.lt_of_lt_of_le (hlw x hx) (st _ _).next)) fun v1 h1 p1 => ?_
  obtain ⟨bd, rfl, hbd, st1⟩ := p1
  have stn := (st _ _).trans st1
  have g0 := st1.old h.next (by show h.next < h.next + 2; omega)
  have g1 := st1.old (h.next + 1) (by show h.next + 1 < h.next + 2; omega)
  simp only [go_sem, ↓reduceIte, ↓reduceDIte, zA, zM, zL, zE, zD, yA, yE, yL, yQ, yT, reduceCtorEq] at g0 g1
  cases bd with
  | false =>
    simp only [go_sem, ↓reduceIte, ↓reduceDIte, zA, zM, zL, zE, zD, yA, yE, yL, yQ, yT, reduceCtorEq, g0, g1]
    refine ⟨false, rfl, ?_, stn⟩
    constructor
    · intro e; simp at e
    · rintro ⟨e, _⟩; exact hbd.2 e
  | true =>
    have hd := hbd.1 rfl
    simp only [go_sem, ↓reduceIte, ↓reduceDIte, zA, zM, zL, zE, zD, yA, yE, yL, yQ, yT, reduceCtorEq, g0, g1]
    refine opt_some (h37 _ pa pb la lb (hpa.keep stn) (hpb.keep stn)) ?_
    by_cases h5 : la = lb
    case neg =>
      rw [decide_eq_false h5]
      simp only [go_sem, ↓reduceIte, ↓reduceDIte, zA, zM, zL, zE, zD, yA, yE, yL, yQ, yT, reduceCtorEq, g0, g1]
      exact ⟨false, rfl, by simp [h5], stn⟩
    rw [decide_eq_true h5]
    simp only [go_sem, ↓reduceIte, ↓reduceDIte, zA, zM, zL, zE, zD, yA, yE, yL, yQ, yT, reduceCtorEq, g0, g1]
    refine opt_some (h38 _ ka kb ma mb (hka.keep fun b hb => stn.old b (hla b hb)) (hkb.keep fun b hb => stn.old b (hlb b hb))) ?_
    simp only [go_sem, ↓reduceIte, ↓reduceDIte, zA, zM, zL, zE, zD, yA, yE, yL, yQ, yT, reduceCtorEq, g0, g1]
    exact ⟨decide (ma = mb), rfl, by simp [hd, h5], stn⟩
end
end Go.Proofs.Ytnmlfhogolonoaa
