/-
  The reference's operations on ranges: New, Next.
  The law BulkNew: what it does with a configuration and arguments.
  The law BulkNew: what it does with a configuration and arguments.
-/
import Derived.Test.YtldmhpdjlgoenaaGreatDoorBw10
set_option linter.unusedVariables false
set_option linter.unusedSimpArgs false
namespace Go.Proofs.YtldmhpdjlgoenaaGreatDoor.BN
open Go.Proofs.YtldmhpdjlgoenaaGreatDoor.Eo
open Nat renaming reduceAdd → zA, reduceMul → zM, reduceLT → zL, reduceEqDiff → zE, reduceLeDiff → zD
open Int renaming reduceAdd → yA, reduceLE → yE, reduceLT → yL, reduceEq → yQ, reduceToNat → yT
noncomputable section
/-! 48: (*leapfrog/leapfrogref33.Bulk).then -/
@[go_sem] def c48_p0 : List (List DQ × Option DQ) := [([⟨0, [(0, none)], none, .p (.mv (.t 0))⟩, ⟨1, [], none, .n (.buildS 159 6 0 [] [])⟩, ⟨2, [(1, none)], none, .p (.mv (.t 1))⟩, ⟨4, [(0, none)], none, .p (.mv (.t 0))⟩, ⟨5, [(8, (some 4))], none, .p (.nilck (.t 8))⟩, ⟨6, [(9, (some 5))], none, .p (.fadr 11 (.t 9))⟩, ⟨7, [(10, (some 6))], none, .r (.ld none (.t 10))⟩], (some ⟨3, [(5, (some 1)), (6, (some 2))], none, .e (.app 159 6 48 (.t 5) (.t 6))⟩)), ([], (some ⟨8, [(7, (some 3)), (11, (some 7))], none, .e (.app 159 6 48 (.t 7) (.t 11))⟩)), ([⟨9, [(4, (some 0))], none, .p (.nilck (.t 4))⟩, ⟨10, [(13, (some 9))], none, .p (.fadr 11 (.t 13))⟩], (some ⟨11, [(14, (some 10)), (12, (some 8))], none, .e (.st 1 (.t 14) (.t 12))⟩)), ([], none)]
@[go_sem] def c48_s1 : List SQ := [⟨some 15, none, .p (.mv (.t 0))⟩, ⟨some 16, none, .cv (.c (.fn (.func 95) [] [])) [(.t 15)]⟩]
@[go_sem] def c48 : CF := ⟨2, (.seq (.drw ⟨c48_p0, [(0, 4), (1, 5), (2, 6), (3, 7), (4, 8), (5, 9), (6, 10), (7, 11), (8, 12), (9, 13), (10, 14)], [(⟨7, [(10, (some 6))], none, .r (.ld none (.t 10))⟩, [0, 1])]⟩) (.ops c48_s1)), []⟩
/-! 16: leapfrog/leapfrogref33.New -/
@[go_sem] def c16_s0 : List SQ := [⟨some 8, none, .n (.box 30 (.t 3))⟩, ⟨some 10, none, .p (.mv (.c .nilp))⟩, ⟨some 11, none, .p (.mv (.c (.int .i64 0)))⟩]
@[go_sem] def c16_s1 : List SQ := [⟨some 15, none, .p (.mv (.t 0))⟩, ⟨some 16, none, .p (.bin .eql 39 false true (.t 15) (.c .nilp))⟩, ⟨some 17, none, .p (.mv (.t 16))⟩, ⟨some 18, some (17, false), .p (.mv (.t 4))⟩, ⟨some 19, some (17, false), .p (.bin .eql 53 false true (.t 18) (.c .nilp))⟩, ⟨some 20, none, .p (.pick (.t 17) (.c (.bool true)) (.t 19))⟩]
@[go_sem] def c16_s2 : List SQ := [⟨some 10, none, .p (.mv (.c .nilp))⟩, ⟨some 11, none, .p (.mv (.c (.int .i64 1)))⟩]
@[go_sem] def c16_s3 : List SQ := [⟨some 21, none, .p (.fadr 0 (.t 8))⟩, ⟨some 22, none, .r (.ld none (.t 21))⟩, ⟨some 23, none, .p (.bin .neq 5 false true (.t 22) (.c (.int .u8 8)))⟩, ⟨some 24, none, .p (.mv (.t 23))⟩, ⟨some 25, some (24, true), .p (.fadr 0 (.t 8))⟩, ⟨some 26, some (24, true), .r (.ld none (.t 25))⟩, ⟨some 27, some (24, true), .p (.bin .neq 5 false true (.t 26) (.c (.int .u8 9)))⟩, ⟨some 28, none, .p (.pick (.t 24) (.t 27) (.c (.bool false)))⟩]
@[go_sem] def c16_s4 : List SQ := [⟨some 10, none, .p (.mv (.c .nilp))⟩, ⟨some 11, none, .p (.mv (.c (.int .i64 2)))⟩]
@[go_sem] def c16_s5 : List SQ := [⟨some 29, none, .p (.mv (.t 0))⟩, ⟨some 30, none, .p (.mv (.t 1))⟩, ⟨some 31, none, .p (.mv (.t 2))⟩, ⟨some 32, none, .cv (.c (.fn (.func 46) [] [])) [(.t 29), (.t 30), (.t 31)]⟩, ⟨some 12, none, .p (.mv (.t 32))⟩]
@[go_sem] def c16_s6 : List SQ := [⟨some 33, none, .p (.mv (.t 12))⟩, ⟨some 34, none, .p (.bin .neq 34 false true (.t 33) (.c (.int .i64 0)))⟩]
@[go_sem] def c16_s7 : List SQ := [⟨some 35, none, .p (.mv (.t 12))⟩, ⟨some 10, none, .p (.mv (.c .nilp))⟩, ⟨some 11, none, .p (.mv (.t 35))⟩]
@[go_sem] def c16_s8 : List SQ := [⟨some 36, none, .r (.ld (some 7) (.t 8))⟩, ⟨some 37, none, .cv (.c (.fn (.func 47) [] [])) [(.t 36)]⟩, ⟨some 13, none, .p (.mv (.t 37))⟩]
@[go_sem] def c16_s9 : List SQ := [⟨some 38, none, .p (.mv (.t 13))⟩, ⟨some 39, none, .p (.bin .neq 34 false true (.t 38) (.c (.int .i64 0)))⟩]
@[go_sem] def c16_s10 : List SQ := [⟨some 40, none, .p (.mv (.t 13))⟩, ⟨some 10, none, .p (.mv (.c .nilp))⟩, ⟨some 11, none, .p (.mv (.t 40))⟩]
@[go_sem] def c16_s11 : List SQ := [⟨some 41, none, .p (.mv (.t 0))⟩, ⟨some 42, none, .p (.mv (.t 1))⟩, ⟨some 43, none, .p (.mv (.t 2))⟩, ⟨some 44, none, .r (.ld (some 7) (.t 8))⟩, ⟨some 45, none, .p (.mv (.t 4))⟩, ⟨some 46, none, .p (.build [.nilp, .int .i64 0, .int .i64 0, .int .u8 0, .int .u64 0, .int .u64 0, .int .u64 0, .int .u64 0, .int .u64 0, .int .u64 0, .nilp, .nils, .nilp, .nilp, .nilp, .nilp, .nilp, .nilp, .nilp, .nilp, .int .i64 0, .int .u64 0, .nils, .nils, .nils, .int .i64 0, .bool false, .bool false, .bool false, .bool false, .int .i64 0, .bool false, .int .u64 0, .int .u64 0, .int .i64 0] [(0, 1, (.t 41)), (1, 1, (.t 42)), (2, 1, (.t 43)), (3, 7, (.t 44)), (10, 1, (.t 45))])⟩, ⟨some 47, none, .n (.box 156 (.t 46))⟩, ⟨some 14, none, .p (.mv (.t 47))⟩]
@[go_sem] def c16_s12 : List SQ := [⟨some 48, none, .p (.mv (.t 14))⟩, ⟨some 49, none, .p (.build [.int .i64 0, .int .i64 0, .int .u64 0, .int .u8 0, .int .i64 0, .int .u64 0] [(0, 1, (.c (.int .i64 1)))])⟩, ⟨some 50, none, .n (.buildS 159 6 1 [.int .i64 0, .int .i64 0, .int .u64 0, .int .u8 0, .int .i64 0, .int .u64 0] [(0, 6, (.t 49))])⟩, ⟨some 51, none, .cv (.c (.fn (.func 48) [] [])) [(.t 48), (.t 50)]⟩]
@[go_sem] def c16_s13 : List SQ := [⟨some 52, none, .p (.mv (.t 14))⟩, ⟨some 10, none, .p (.mv (.t 52))⟩, ⟨some 11, none, .p (.mv (.c (.int .i64 0)))⟩]
@[go_sem] def c16 : CF := ⟨5, (.seq (.ops c16_s0) (.seq (.seq (.ops c16_s1) (.cond (.t 20) (.seq (.ops c16_s2) .ret) .skip)) (.seq (.seq (.ops c16_s3) (.cond (.t 28) (.seq (.ops c16_s4) .ret) .skip)) (.seq (.seq (.ops c16_s5) (.seq (.ops c16_s6) (.cond (.t 34) (.seq (.ops c16_s7) .ret) .skip))) (.seq (.seq (.ops c16_s8) (.seq (.ops c16_s9) (.cond (.t 39) (.seq (.ops c16_s10) .ret) .skip))) (.seq (.ops c16_s11) (.seq (.ops c16_s12) (.seq (.ops c16_s13) .ret)))))))), [.tmp 10, .tmp 11]⟩
/-! 18: (*leapfrog/leapfrogref33.Bulk).Next -/
@[go_sem] def c18_s0 : List SQ := [⟨some 2, none, .p (.mv (.c (.int .u8 0)))⟩]
@[go_sem] def c18_s1 : List SQ := [⟨some 4, none, .p (.mv (.t 0))⟩, ⟨some 5, none, .p (.bin .eql 59 false true (.t 4) (.c .nilp))⟩, ⟨some 6, none, .p (.mv (.t 5))⟩, ⟨some 7, some (6, false), .p (.mv (.t 0))⟩, ⟨some 8, some (6, false), .p (.nilck (.t 7))⟩, ⟨some 9, some (6, false), .p (.fadr 11 (.t 8))⟩, ⟨some 10, some (6, false), .r (.ld none (.t 9))⟩, ⟨some 11, some (6, false), .p (.lenv (.t 10))⟩, ⟨some 12, some (6, false), .p (.bin .eql 3 false true (.t 11) (.c (.int .i64 0)))⟩, ⟨some 13, none, .p (.pick (.t 6) (.c (.bool true)) (.t 12))⟩]
@[go_sem] def c18_s2 : List SQ := [⟨some 2, none, .p (.mv (.c (.int .u8 0)))⟩]
@[go_sem] def c18_s3 : List SQ := [⟨some 14, none, .p (.mv (.t 0))⟩, ⟨some 15, none, .p (.nilck (.t 14))⟩, ⟨some 16, none, .p (.fadr 11 (.t 15))⟩, ⟨some 17, none, .r (.ld none (.t 16))⟩, ⟨some 18, none, .p (.iadrS 6 (.t 17) (.c (.int .i64 0)))⟩, ⟨some 19, none, .r (.ld (some 6) (.t 18))⟩, ⟨some 3, none, .n (.new 159 [.int .i64 0, .int .i64 0, .int .u64 0, .int .u8 0, .int .i64 0, .int .u64 0])⟩, ⟨none, none, .e (.st 6 (.t 3) (.t 19))⟩]
@[go_sem] def c18_s4 : List SQ := [⟨some 20, none, .p (.fadr 0 (.t 3))⟩, ⟨some 21, none, .r (.ld none (.t 20))⟩]
@[go_sem] def c18_s5 : List SQ := [⟨some 23, none, .p (.bin .eql 3 false true (.t 21) (.c (.int .i64 1)))⟩, ⟨some 22, none, .p (.mv (.t 23))⟩]
@[go_sem] def c18_s6 : List SQ := [⟨some 24, none, .p (.mv (.t 0))⟩, ⟨some 25, none, .p (.nilck (.t 24))⟩, ⟨some 26, none, .p (.fadr 12 (.t 25))⟩, ⟨some 27, none, .r (.ld none (.t 26))⟩, ⟨some 28, none, .cv (.c (.fn (.func 49) [] [])) [(.t 27)]⟩, ⟨some 2, none, .p (.mv (.t 28))⟩]
@[go_sem] def c18_s7 : List SQ := [⟨some 30, none, .p (.bin .eql 3 false true (.t 21) (.c (.int .i64 2)))⟩, ⟨some 29, none, .p (.mv (.t 30))⟩]
@[go_sem] def c18_s8 : List SQ := [⟨some 31, none, .p (.mv (.t 0))⟩, ⟨some 32, none, .p (.nilck (.t 31))⟩, ⟨some 33, none, .p (.fadr 13 (.t 32))⟩, ⟨some 34, none, .r (.ld none (.t 33))⟩, ⟨some 35, none, .cv (.c (.fn (.func 50) [] [])) [(.t 34)]⟩, ⟨some 2, none, .p (.mv (.t 35))⟩]
@[go_sem] def c18_s9 : List SQ := [⟨some 37, none, .p (.bin .eql 3 false true (.t 21) (.c (.int .i64 3)))⟩, ⟨some 36, none, .p (.mv (.t 37))⟩]
@[go_sem] def c18_s10 : List SQ := [⟨some 38, none, .p (.mv (.t 0))⟩, ⟨some 39, none, .p (.nilck (.t 38))⟩, ⟨some 40, none, .p (.fadr 14 (.t 39))⟩, ⟨some 41, none, .r (.ld none (.t 40))⟩, ⟨some 42, none, .cv (.c (.fn (.func 51) [] [])) [(.t 41)]⟩, ⟨some 2, none, .p (.mv (.t 42))⟩]
@[go_sem] def c18_s11 : List SQ := [⟨some 44, none, .p (.bin .eql 3 false true (.t 21) (.c (.int .i64 4)))⟩, ⟨some 43, none, .p (.mv (.t 44))⟩]
@[go_sem] def c18_s12 : List SQ := [⟨some 2, none, .p (.mv (.c (.int .u8 22)))⟩]
@[go_sem] def c18_s13 : List SQ := [⟨some 46, none, .p (.bin .eql 3 false true (.t 21) (.c (.int .i64 5)))⟩, ⟨some 45, none, .p (.mv (.t 46))⟩]
@[go_sem] def c18_s14 : List SQ := [⟨some 2, none, .p (.mv (.c (.int .u8 25)))⟩]
@[go_sem] def c18_s15 : List SQ := [⟨some 48, none, .p (.bin .eql 3 false true (.t 21) (.c (.int .i64 6)))⟩, ⟨some 47, none, .p (.mv (.t 48))⟩]
@[go_sem] def c18_s16 : List SQ := [⟨some 2, none, .p (.mv (.c (.int .u8 21)))⟩]
@[go_sem] def c18_s17 : List SQ := [⟨some 50, none, .p (.bin .eql 3 false true (.t 21) (.c (.int .i64 7)))⟩, ⟨some 49, none, .p (.mv (.t 50))⟩]
@[go_sem] def c18_s18 : List SQ := [⟨some 51, none, .p (.mv (.t 0))⟩, ⟨some 52, none, .p (.nilck (.t 51))⟩, ⟨some 53, none, .p (.fadr 0 (.t 52))⟩, ⟨some 54, none, .r (.ld none (.t 53))⟩, ⟨some 55, none, .cv (.c (.fn (.func 52) [] [])) [(.t 54)]⟩, ⟨some 2, none, .p (.mv (.t 55))⟩]
@[go_sem] def c18_s19 : List SQ := [⟨some 57, none, .p (.bin .eql 3 false true (.t 21) (.c (.int .i64 8)))⟩, ⟨some 56, none, .p (.mv (.t 57))⟩]
@[go_sem] def c18_s20 : List SQ := [⟨some 58, none, .p (.bin .eql 3 false true (.t 21) (.c (.int .i64 9)))⟩, ⟨some 56, none, .p (.mv (.t 58))⟩]
@[go_sem] def c18_s21 : List SQ := [⟨some 59, none, .p (.mv (.t 0))⟩, ⟨some 60, none, .p (.nilck (.t 59))⟩, ⟨some 61, none, .p (.fadr 15 (.t 60))⟩, ⟨some 62, none, .r (.ld none (.t 61))⟩, ⟨some 63, none, .cv (.c (.fn (.func 53) [] [])) [(.t 62)]⟩, ⟨some 2, none, .p (.mv (.t 63))⟩]
@[go_sem] def c18_s22 : List SQ := [⟨some 65, none, .p (.bin .eql 3 false true (.t 21) (.c (.int .i64 10)))⟩, ⟨some 64, none, .p (.mv (.t 65))⟩]
@[go_sem] def c18_s23 : List SQ := [⟨some 2, none, .p (.mv (.c (.int .u8 24)))⟩]
@[go_sem] def c18_s24 : List SQ := [⟨some 67, none, .p (.bin .eql 3 false true (.t 21) (.c (.int .i64 12)))⟩, ⟨some 66, none, .p (.mv (.t 67))⟩]
@[go_sem] def c18_s25 : List SQ := [⟨some 68, none, .p (.mv (.t 0))⟩, ⟨some 69, none, .p (.nilck (.t 68))⟩, ⟨some 70, none, .p (.fadr 16 (.t 69))⟩, ⟨some 71, none, .r (.ld none (.t 70))⟩, ⟨some 72, none, .cv (.c (.fn (.func 54) [] [])) [(.t 71)]⟩, ⟨some 2, none, .p (.mv (.t 72))⟩]
@[go_sem] def c18_s26 : List SQ := [⟨some 74, none, .p (.bin .eql 3 false true (.t 21) (.c (.int .i64 13)))⟩, ⟨some 73, none, .p (.mv (.t 74))⟩]
@[go_sem] def c18_s27 : List SQ := [⟨some 75, none, .p (.mv (.t 0))⟩, ⟨some 76, none, .p (.nilck (.t 75))⟩, ⟨some 77, none, .p (.fadr 17 (.t 76))⟩, ⟨some 78, none, .r (.ld none (.t 77))⟩, ⟨some 79, none, .cv (.c (.fn (.func 55) [] [])) [(.t 78)]⟩, ⟨some 2, none, .p (.mv (.t 79))⟩]
@[go_sem] def c18_s28 : List SQ := [⟨some 81, none, .p (.bin .eql 3 false true (.t 21) (.c (.int .i64 14)))⟩, ⟨some 80, none, .p (.mv (.t 81))⟩]
@[go_sem] def c18_s29 : List SQ := [⟨some 82, none, .p (.mv (.t 0))⟩, ⟨some 83, none, .p (.nilck (.t 82))⟩, ⟨some 84, none, .p (.fadr 18 (.t 83))⟩, ⟨some 85, none, .r (.ld none (.t 84))⟩, ⟨some 86, none, .cv (.c (.fn (.func 56) [] [])) [(.t 85)]⟩, ⟨some 2, none, .p (.mv (.t 86))⟩]
@[go_sem] def c18_s30 : List SQ := [⟨some 88, none, .p (.bin .eql 3 false true (.t 21) (.c (.int .i64 15)))⟩, ⟨some 87, none, .p (.mv (.t 88))⟩]
@[go_sem] def c18_s31 : List SQ := [⟨some 2, none, .p (.mv (.c (.int .u8 43)))⟩]
@[go_sem] def c18_s32 : List SQ := [⟨some 90, none, .p (.bin .eql 3 false true (.t 21) (.c (.int .i64 16)))⟩, ⟨some 89, none, .p (.mv (.t 90))⟩]
@[go_sem] def c18_s33 : List SQ := [⟨some 91, none, .p (.mv (.t 0))⟩, ⟨some 92, none, .p (.nilck (.t 91))⟩, ⟨some 93, none, .p (.fadr 19 (.t 92))⟩, ⟨some 94, none, .r (.ld none (.t 93))⟩, ⟨some 95, none, .cv (.c (.fn (.func 57) [] [])) [(.t 94)]⟩, ⟨some 2, none, .p (.mv (.t 95))⟩]
@[go_sem] def c18_s34 : List SQ := [⟨some 96, none, .p (.fadr 3 (.t 3))⟩, ⟨some 97, none, .r (.ld none (.t 96))⟩, ⟨some 2, none, .p (.mv (.t 97))⟩]
@[go_sem] def c18 : CF := ⟨1, (.seq (.ops c18_s0) (.seq (.seq (.ops c18_s1) (.cond (.t 13) (.seq (.ops c18_s2) .ret) .skip)) (.seq (.ops c18_s3) (.seq (.seq (.ops c18_s4) (.block 0 (.seq (.ops c18_s5) (.cond (.t 22) (.seq (.ops c18_s6) .ret) (.seq (.ops c18_s7) (.cond (.t 29) (.seq (.ops c18_s8) .ret) (.seq (.ops c18_s9) (.cond (.t 36) (.seq (.ops c18_s10) .ret) (.seq (.ops c18_s11) (.cond (.t 43) (.seq (.ops c18_s12) .ret) (.seq (.ops c18_s13) (.cond (.t 45) (.seq (.ops c18_s14) .ret) (.seq (.ops c18_s15) (.cond (.t 47) (.seq (.ops c18_s16) .ret) (.seq (.ops c18_s17) (.cond (.t 49) (.seq (.ops c18_s18) .ret) (.seq (.seq (.ops c18_s19) (.cond (.t 56) .skip (.ops c18_s20))) (.cond (.t 56) (.seq (.ops c18_s21) .ret) (.seq (.ops c18_s22) (.cond (.t 64) (.seq (.ops c18_s23) .ret) (.seq (.ops c18_s24) (.cond (.t 66) (.seq (.ops c18_s25) .ret) (.seq (.ops c18_s26) (.cond (.t 73) (.seq (.ops c18_s27) .ret) (.seq (.ops c18_s28) (.cond (.t 80) (.seq (.ops c18_s29) .ret) (.seq (.ops c18_s30) (.cond (.t 87) (.seq (.ops c18_s31) .ret) (.seq (.ops c18_s32) (.cond (.t 89) (.seq (.ops c18_s33) .ret) .skip)))))))))))))))))))))))))))))) (.seq (.ops c18_s34) .ret))))), [.tmp 2]⟩

def F95 (call : CallE) : Prop := ∀ h D B Q c p M W R (t s : Int) o ba, RBaseH h B c p M W R → 0 ≤ c.tries → c.tries ≤ 255 → D < h.next → Q < h.next → oneA ba = true → h.t.get D = some (.row (putList 0 (dcL B t s o ba (.sl Q 0 1 6 none) .nilp) T.e) 35 156) → h.t.get Q = some (.row (putList 0 partC T.e) 6 159) → OpU o → ¬ (o.kd = 8 ∧ 18446744073709551615 - o.hi < o.bY) → ¬ o.hi < o.key → 0 ≤ t → t < 64 → ∃ v h', call 95 [.ptr D 0] h = some (v, h') ∧ (v = .tup [] ∧ StepX D D h h' ∧ RBulkO h' D)
theorem w48 (P : Program) {call : CallE} (h95 : F95 call) {h : H} {D B Q : Nat} {c : CfgT} {p : PlT} {M W R : Nat} {t s : Int} {o : OpT} {ba : AV} (hb : RBaseH h B c p M W R) (r0 : 0 ≤ c.tries) (r1 : c.tries ≤ 255) (hD : D < h.next) (hDB : D ≠ B) (hD2 : ∀ h2, h.next ≤ h2.next → (∀ b, b < h.next → b ≠ D → h2.t.get b = h.t.get b) → RBaseH h2 B c p M W R) (hQ : Q < h.next) (ob : oneA ba = true)
    (g : h.t.get D = some (.row (putList 0 (dcL B t s o ba .nils .nilp) T.e) 35 156)) (gQ : h.t.get Q = some (.row (putList 0 partC T.e) 6 159)) (ou : OpU o) (hov : ¬ (o.kd = 8 ∧ 18446744073709551615 - o.hi < o.bY)) (hlh : ¬ o.hi < o.key) (t0 : 0 ≤ t) (t1 : t < 64) :
    WF P call c48 [.ptr D 0, .sl Q 0 1 6 (some 1)] h fun v h' => v = .tup [] ∧ StepX D D h h' ∧ RBulkO h' D := by
  have g0 := g
  have d1 : ¬ D = h.next := by omega
  have d2 : ¬ D = h.next + 1 := by omega
  have q1 : ¬ Q = h.next := by omega
  have n1 : ¬ h.next = h.next + 1 := by omega
  have n2 : ¬ h.next + 1 = D := by omega
  have hap : ∀ src, appA ⟨h.next + 1, h.t.set h.next (.row (putList 0 [] T.e) 0 159)⟩ 159 6 48 (.sl h.next 0 0 6 (some 0)) 1 src = some (appV ⟨h.next + 1, h.t.set h.next (.row (putList 0 [] T.e) 0 159)⟩ 6 1, appT ⟨h.next + 1, h.t.set h.next (.row (putList 0 [] T.e) 0 159)⟩ 159 .nils src) := fun src => appA_emp (by simp only [go_sem, ↓reduceIte, ↓reduceDIte, zA, zM, zL, zE, zD, yA, yE, yL, yQ, yT, reduceCtorEq]; rfl) (by decide) (by decide) (by decide)
  have hap0 : ∀ (hh hx : H), appA hh 159 6 48 (appV hx 6 1) 0 [] = some (appV hx 6 1, hh) := fun hh hx => rfl
  simp only [go_sem, ↓reduceIte, ↓reduceDIte, zA, zM, zL, zE, zD, yA, yE, yL, yQ, yT, reduceCtorEq, c48, g, gQ, dcL, partC, opC, d1, d2, q1, n1, hap, hap0]
  unfold appT appV
  simp only [go_sem, ↓reduceIte, ↓reduceDIte, zA, zM, zL, zE, zD, yA, yE, yL, yQ, yT, reduceCtorEq, g, dcL, opC, d1, d2, hap0, n1, n2]
  have oldH : ∀ (x y z : AO) b, b < h.next → b ≠ D → (((h.t.set h.next x).set (h.next + 1) y).set D z).get b = h.t.get b := fun x y z b hb hn => by
    have e1 : ¬ b = h.next := by omega
    have e2 : ¬ b = h.next + 1 := by omega
    simp only [go_sem, ↓reduceIte, ↓reduceDIte, zA, zM, zL, zE, zD, yA, yE, yL, yQ, yT, reduceCtorEq, e1, e2, hn]
  refine opt_by (h95 _ D B (h.next + 1) c p M W R t s o ba ?_ r0 r1 ?_ ?_ ob ?_ ?_ ou hov hlh t0 t1) fun v1 h1 p1 => ?_
  · exact hD2 _ (by show h.next ≤ h.next + 2; omega) fun b hb' hn => oldH _ _ _ b hb' hn
  · show D < h.next + 2
    omega
  · exact Nat.lt_succ_self _
  · simp only [go_sem, ↓reduceIte, ↓reduceDIte, zA, zM, zL, zE, zD, yA, yE, yL, yQ, yT, reduceCtorEq, dcL, opC]
  · simp only [go_sem, ↓reduceIte, ↓reduceDIte, zA, zM, zL, zE, zD, yA, yE, yL, yQ, yT, reduceCtorEq, n2]
    rfl
  obtain ⟨rfl, sx, hO⟩ := p1
  simp only [go_sem, ↓reduceIte, ↓reduceDIte, zA, zM, zL, zE, zD, yA, yE, yL, yQ, yT, reduceCtorEq]
  refine ⟨⟨?_, fun b hb' b1 _ => ?_⟩, hO⟩
  · have := sx.next
    have q : h.next + 2 ≤ h1.next := this
    omega
  · exact (sx.old b (by show b < h.next + 2; omega) b1 b1).trans (oldH _ _ _ b hb' b1)
theorem errB_ref (n : Nat) (t s : Int) (o : OpT) : errB n t s o = if ¬ (o.kd = 8 ∨ o.kd = 9) then 2 else if errF n t s = 0 then errO o else errF n t s := by
  unfold errB errF errO
  by_cases k : o.kd = 8 ∨ o.kd = 9
  case neg => rw [if_pos (.inl k), if_pos k]
  rw [if_neg (not_not_intro k)]
  by_cases a : t < 0 ∨ 64 ≤ t
  · rw [if_pos (.inr a), if_pos a, if_neg (by decide)]
  have a' : ¬ (¬ (o.kd = 8 ∨ o.kd = 9) ∨ t < 0 ∨ 64 ≤ t) := fun h => h.elim (fun h => h k) a
  rw [if_neg a', if_neg a]
  by_cases b : s < 0 ∨ (n : Int) ≤ s
  · rw [if_pos b, if_pos b, if_neg (by decide)]
  rw [if_neg b, if_neg b]
  by_cases z : s = 0 ∧ t = 0
  · rw [if_neg (not_not_intro z), if_neg (not_not_intro z), if_pos rfl]
  · rw [if_pos z, if_pos z, if_neg (by decide)]
def F46 (call : CallE) : Prop := ∀ h B c p M W R (ws : List Int) lg (n : Nat) (t s : Int), c.slots = (n : Int) → RBaseH h B c p M W R → p.ow = 0 → RMem h M W ws lg → n ≤ 64 → OwnW ws n → call 46 [.ptr B 0, .int .i64 t, .int .i64 s] h = some (.int .i64 (errF n t s), h)
def F47 (call : CallE) : Prop := ∀ h o, OpU o → ∃ v h', call 47 [.agg (opC o)] h = some (v, h') ∧ (v = .int .i64 (errO o) ∧ StepN h h')
def F48 (call : CallE) : Prop := ∀ h D B Q c p M W R (t s : Int) o ba, RBaseH h B c p M W R → 0 ≤ c.tries → c.tries ≤ 255 → D < h.next → D ≠ B → (∀ h2, h.next ≤ h2.next → (∀ b, b < h.next → b ≠ D → h2.t.get b = h.t.get b) → RBaseH h2 B c p M W R) → Q < h.next → oneA ba = true → h.t.get D = some (.row (putList 0 (dcL B t s o ba .nils .nilp) T.e) 35 156) → h.t.get Q = some (.row (putList 0 partC T.e) 6 159) → OpU o → ¬ (o.kd = 8 ∧ 18446744073709551615 - o.hi < o.bY) → ¬ o.hi < o.key → 0 ≤ t → t < 64 →
  ∃ v h', call 48 [.ptr D 0, .sl Q 0 1 6 (some 1)] h = some (v, h') ∧ (v = .tup [] ∧ StepX D D h h' ∧ RBulkO h' D)
def Post16 (e : Int) (h : H) (v : AV) (h' : H) : Prop := StepN h h' ∧ ((e = 0 ∧ ∃ D, v = .tup [.ptr D 0, .int .i64 0] ∧ RBulkO h' D) ∨ (¬ e = 0 ∧ v = .tup [.nilp, .int .i64 e]))
theorem w16_8 (P : Program) [PT P] {call : CallE} (h46 : F46 call) (h47 : F47 call) (h48 : F48 call)
  {h : H} {B Qb : Nat} {c : CfgT} {p : PlT} {M W R : Nat} {ws : List Int} {lg : AV} {n : Nat} (hn : c.slots = (n : Int)) (hn2 : n ≤ 64) (hb : RBaseH h B c p M W R) (ho : p.ow = 0) (r0 : 0 ≤ c.tries) (r1 : c.tries ≤ 255) (m : RMem h M W ws lg) (hM : M < h.next) (hW : W < h.next) (hw : OwnW ws n) {t s : Int} {o : OpT} (ou : OpU o)
    (hk : o.kd = 8) : WF P call c16 [.ptr B 0, .int .i64 t, .int .i64 s, .agg (opC o), .ptr Qb 0] h (Post16 (errB n t s o) h) := by
  have st0 := StepN.new h (.row (putList 0 [.int .u8 8, .int .u64 o.key, .int .u64 o.hi, .int .u64 o.va, .int .u64 o.ol, .int .u64 o.bY, .int .u64 o.dr] T.e) 7 30)
  have hop : opC o = [.int .u8 8, .int .u64 o.key, .int .u64 o.hi, .int .u64 o.va, .int .u64 o.ol, .int .u64 o.bY, .int .u64 o.dr] := by unfold opC; rw [hk]
  have k46 := h46 _ B c p M W R ws lg n t s hn (hb.step st0) ho (m.step hM hW st0) hn2 hw
  have eB := errB_ref n t s o
  rw [if_neg (not_not_intro (by omega : o.kd = 8 ∨ o.kd = 9))] at eB
  by_cases f : errF n t s = 0
  case neg =>
    rw [if_neg f] at eB
    simp only [go_sem, ↓reduceIte, ↓reduceDIte, zA, zM, zL, zE, zD, yA, yE, yL, yQ, yT, reduceCtorEq, c16, opC, hk, k46, f]
    exact ⟨st0, .inr ⟨by rw [eB]; exact f, by rw [eB]⟩⟩
  rw [if_pos f] at eB
  rw [f] at k46
  simp only [go_sem, ↓reduceIte, ↓reduceDIte, zA, zM, zL, zE, zD, yA, yE, yL, yQ, yT, reduceCtorEq, c16, opC, hk, k46]
  refine opt_by (by have := h47 ⟨h.next + 1, h.t.set h.next (.row (putList 0 [.int .u8 8, .int .u64 o.key, .int .u64 o.hi, .int .u64 o.va, .int .u64 o.ol, .int .u64 o.bY, .int .u64 o.dr] T.e) 7 30)⟩ o ou; rw [hop] at this; exact this) fun v1 h1 p1 => ?_
  obtain ⟨rfl, st1⟩ := p1
  have nx1 : h.next + 1 ≤ h1.next := st1.next
  have gG1 := st1.old h.next (Nat.lt_succ_self _)
  simp only [go_sem, ↓reduceIte, ↓reduceDIte, zA, zM, zL, zE, zD, yA, yE, yL, yQ, yT, reduceCtorEq] at gG1
  have st01 := st0.trans st1
  by_cases e : errO o = 0
  case neg =>
    simp only [go_sem, ↓reduceIte, ↓reduceDIte, zA, zM, zL, zE, zD, yA, yE, yL, yQ, yT, reduceCtorEq, e]
    exact ⟨st01, .inr ⟨by rw [eB]; exact e, by rw [eB]⟩⟩
  have c0 : ¬ o.hi < o.key := fun h => by
    unfold errO at e
    rw [if_pos (.inl h)] at e
    exact absurd e (by decide)
  have c1 : ¬ (o.kd = 8 ∧ 18446744073709551615 - o.hi < o.bY) := fun h => by
    unfold errO at e
    by_cases q : o.hi < o.key ∨ o.kd = 8 ∧ o.bY = 0
    · rw [if_pos q] at e
      exact absurd e (by decide)
    · rw [if_neg q, if_pos h] at e
      exact absurd e (by decide)
  have tz : s = 0 ∧ t = 0 := by
    unfold errF at f
    by_cases a : t < 0 ∨ 64 ≤ t
    · rw [if_pos a] at f
      exact absurd f (by decide)
    rw [if_neg a] at f
    by_cases b : s < 0 ∨ (n : Int) ≤ s
    · rw [if_pos b] at f
      exact absurd f (by decide)
    rw [if_neg b] at f
    by_cases z : s = 0 ∧ t = 0
    · exact z
    · rw [if_pos z] at f
      exact absurd f (by decide)
  simp only [go_sem, ↓reduceIte, ↓reduceDIte, zA, zM, zL, zE, zD, yA, yE, yL, yQ, yT, reduceCtorEq, e, gG1]
  have oldN : ∀ (x y : AO) b, b < h1.next → ((h1.t.set h1.next x).set (h1.next + 1) y).get b = h1.t.get b := fun x y b hb => by
    have e1 : ¬ b = h1.next := by omega
    have e2 : ¬ b = h1.next + 1 := by omega
    simp only [go_sem, ↓reduceIte, ↓reduceDIte, zA, zM, zL, zE, zD, yA, yE, yL, yQ, yT, reduceCtorEq, e1, e2]
  have hB1 : B < h.next := hb.lt
  have n1 : ¬ h1.next = h1.next + 1 := by omega
  refine opt_by (h48 _ h1.next B (h1.next + 1) c p M W R t s o (.ptr Qb 0) ?_ r0 r1 ?_ ?_ ?_ ?_ rfl ?_ ?_ ou c1 c0 (by omega) (by omega)) fun v2 h2 p2 => ?_
  · exact hb.step ⟨by show h.next ≤ h1.next + 2; omega, fun b hb' => (oldN _ _ b (by omega)).trans (st01.old b hb')⟩
  · show h1.next < h1.next + 2
    omega
  · omega
  · intro h3 e1 e2
    exact hb.step ⟨by have q : h1.next + 2 ≤ h3.next := e1; omega, fun b hb' => (e2 b (by show b < h1.next + 2; omega) (by omega)).trans ((oldN _ _ b (by omega)).trans (st01.old b hb'))⟩
  · exact Nat.lt_succ_self _
  · simp only [go_sem, ↓reduceIte, ↓reduceDIte, zA, zM, zL, zE, zD, yA, yE, yL, yQ, yT, reduceCtorEq, n1, dcL, hop]
  · simp only [go_sem, ↓reduceIte, ↓reduceDIte, zA, zM, zL, zE, zD, yA, yE, yL, yQ, yT, reduceCtorEq]
    rfl
  obtain ⟨rfl, sx, hO⟩ := p2
  simp only [go_sem, ↓reduceIte, ↓reduceDIte, zA, zM, zL, zE, zD, yA, yE, yL, yQ, yT, reduceCtorEq]
  refine ⟨⟨by have := sx.next; have q : h1.next + 2 ≤ h2.next := this; omega, fun b hb' => ?_⟩, .inl ⟨by rw [eB]; exact e, h1.next, rfl, hO⟩⟩
  exact (sx.old b (by show b < h1.next + 2; omega) (by omega) (by omega)).trans ((oldN _ _ b (by omega)).trans (st01.old b hb'))
theorem w16_9 (P : Program) [PT P] {call : CallE} (h46 : F46 call) (h47 : F47 call) (h48 : F48 call)
  {h : H} {B Qb : Nat} {c : CfgT} {p : PlT} {M W R : Nat} {ws : List Int} {lg : AV} {n : Nat} (hn : c.slots = (n : Int)) (hn2 : n ≤ 64) (hb : RBaseH h B c p M W R) (ho : p.ow = 0) (r0 : 0 ≤ c.tries) (r1 : c.tries ≤ 255) (m : RMem h M W ws lg) (hM : M < h.next) (hW : W < h.next) (hw : OwnW ws n) {t s : Int} {o : OpT} (ou : OpU o)
    (hk : o.kd = 9) : WF P call c16 [.ptr B 0, .int .i64 t, .int .i64 s, .agg (opC o), .ptr Qb 0] h (Post16 (errB n t s o) h) := by
  have st0 := StepN.new h (.row (putList 0 [.int .u8 9, .int .u64 o.key, .int .u64 o.hi, .int .u64 o.va, .int .u64 o.ol, .int .u64 o.bY, .int .u64 o.dr] T.e) 7 30)
  have hop : opC o = [.int .u8 9, .int .u64 o.key, .int .u64 o.hi, .int .u64 o.va, .int .u64 o.ol, .int .u64 o.bY, .int .u64 o.dr] := by unfold opC; rw [hk]
  have k46 := h46 _ B c p M W R ws lg n t s hn (hb.step st0) ho (m.step hM hW st0) hn2 hw
  have eB := errB_ref n t s o
  rw [if_neg (not_not_intro (by omega : o.kd = 8 ∨ o.kd = 9))] at eB
  by_cases f : errF n t s = 0
  case neg =>
    rw [if_neg f] at eB
    simp only [go_sem, ↓reduceIte, ↓reduceDIte, zA, zM, zL, zE, zD, yA, yE, yL, yQ, yT, reduceCtorEq, c16, opC, hk, k46, f]
    exact ⟨st0, .inr ⟨by rw [eB]; exact f, by rw [eB]⟩⟩
  rw [if_pos f] at eB
  rw [f] at k46
  simp only [go_sem, ↓reduceIte, ↓reduceDIte, zA, zM, zL, zE, zD, yA, yE, yL, yQ, yT, reduceCtorEq, c16, opC, hk, k46]
  refine opt_by (by have := h47 ⟨h.next + 1, h.t.set h.next (.row (putList 0 [.int .u8 9, .int .u64 o.key, .int .u64 o.hi, .int .u64 o.va, .int .u64 o.ol, .int .u64 o.bY, .int .u64 o.dr] T.e) 7 30)⟩ o ou; rw [hop] at this; exact this) fun v1 h1 p1 => ?_
  obtain ⟨rfl, st1⟩ := p1
  have nx1 : h.next + 1 ≤ h1.next := st1.next
  have gG1 := st1.old h.next (Nat.lt_succ_self _)
  simp only [go_sem, ↓reduceIte, ↓reduceDIte, zA, zM, zL, zE, zD, yA, yE, yL, yQ, yT, reduceCtorEq] at gG1
  have st01 := st0.trans st1
  by_cases e : errO o = 0
  case neg =>
    simp only [go_sem, ↓reduceIte, ↓reduceDIte, zA, zM, zL, zE, zD, yA, yE, yL, yQ, yT, reduceCtorEq, e]
    exact ⟨st01, .inr ⟨by rw [eB]; exact e, by rw [eB]⟩⟩
  have c0 : ¬ o.hi < o.key := fun h => by
    unfold errO at e
    rw [if_pos (.inl h)] at e
    exact absurd e (by decide)
  have c1 : ¬ (o.kd = 8 ∧ 18446744073709551615 - o.hi < o.bY) := fun h => by
    unfold errO at e
    by_cases q : o.hi < o.key ∨ o.kd = 8 ∧ o.bY = 0
    · rw [if_pos q] at e
      exact absurd e (by decide)
    · rw [if_neg q, if_pos h] at e
      exact absurd e (by decide)
  have tz : s = 0 ∧ t = 0 := by
    unfold errF at f
    by_cases a : t < 0 ∨ 64 ≤ t
    · rw [if_pos a] at f
      exact absurd f (by decide)
    rw [if_neg a] at f
    by_cases b : s < 0 ∨ (n : Int) ≤ s
    · rw [if_pos b] at f
      exact absurd f (by decide)
    rw [if_neg b] at f
    by_cases z : s = 0 ∧ t = 0
    · exact z
    · rw [if_pos z] at f
      exact absurd f (by decide)
  simp only [go_sem, ↓reduceIte, ↓reduceDIte, zA, zM, zL, zE, zD, yA, yE, yL, yQ, yT, reduceCtorEq, e, gG1]
  have oldN : ∀ (x y : AO) b, b < h1.next → ((h1.t.set h1.next x).set (h1.next + 1) y).get b = h1.t.get b := fun x y b hb => by
    have e1 : ¬ b = h1.next := by omega
    have e2 : ¬ b = h1.next + 1 := by omega
    simp only [go_sem, ↓reduceIte, ↓reduceDIte, zA, zM, zL, zE, zD, yA, yE, yL, yQ, yT, reduceCtorEq, e1, e2]
  have hB1 : B < h.next := hb.lt
  have n1 : ¬ h1.next = h1.next + 1 := by omega
  refine opt_by (h48 _ h1.next B (h1.next + 1) c p M W R t s o (.ptr Qb 0) ?_ r0 r1 ?_ ?_ ?_ ?_ rfl ?_ ?_ ou c1 c0 (by omega) (by omega)) fun v2 h2 p2 => ?_
  · exact hb.step ⟨by show h.next ≤ h1.next + 2; omega, fun b hb' => (oldN _ _ b (by omega)).trans (st01.old b hb')⟩
  · show h1.next < h1.next + 2
    omega
  · omega
  · intro h3 e1 e2
    exact hb.step ⟨by have q : h1.next + 2 ≤ h3.next := e1; omega, fun b hb' => (e2 b (by show b < h1.next + 2; omega) (by omega)).trans ((oldN _ _ b (by omega)).trans (st01.old b hb'))⟩
  · exact Nat.lt_succ_self _
  · simp only [go_sem, ↓reduceIte, ↓reduceDIte, zA, zM, zL, zE, zD, yA, yE, yL, yQ, yT, reduceCtorEq, n1, dcL, hop]
  · simp only [go_sem, ↓reduceIte, ↓reduceDIte, zA, zM, zL, zE, zD, yA, yE, yL, yQ, yT, reduceCtorEq]
    rfl
  obtain ⟨rfl, sx, hO⟩ := p2
  simp only [go_sem, ↓reduceIte, ↓reduceDIte, zA, zM, zL, zE, zD, yA, yE, yL, yQ, yT, reduceCtorEq]
  refine ⟨⟨by have := sx.next; have q : h1.next + 2 ≤ h2.next := this; omega, fun b hb' => ?_⟩, .inl ⟨by rw [eB]; exact e, h1.next, rfl, hO⟩⟩
  exact (sx.old b (by show b < h1.next + 2; omega) (by omega) (by omega)).trans ((oldN _ _ b (by omega)).trans (st01.old b hb'))
theorem w16 (P : Program) [PT P] {call : CallE} (h46 : F46 call) (h47 : F47 call) (h48 : F48 call)
  {h : H} {B Qb : Nat} {c : CfgT} {p : PlT} {M W R : Nat} {ws : List Int} {lg : AV} {n : Nat} (hn : c.slots = (n : Int)) (hn2 : n ≤ 64) (hb : RBaseH h B c p M W R) (ho : p.ow = 0) (r0 : 0 ≤ c.tries) (r1 : c.tries ≤ 255) (m : RMem h M W ws lg) (hM : M < h.next) (hW : W < h.next) (hw : OwnW ws n) {t s : Int} {o : OpT} (ou : OpU o)
    : WF P call c16 [.ptr B 0, .int .i64 t, .int .i64 s, .agg (opC o), .ptr Qb 0] h (Post16 (errB n t s o) h) := by
  by_cases k8 : o.kd = 8
  · exact w16_8 P h46 h47 h48 hn hn2 hb ho r0 r1 m hM hW hw ou k8
  by_cases k9 : o.kd = 9
  · exact w16_9 P h46 h47 h48 hn hn2 hb ho r0 r1 m hM hW hw ou k9
  have st0 := StepN.new h (.row (putList 0 (opC o) T.e) 7 30)
  simp only [go_sem, ↓reduceIte, ↓reduceDIte, zA, zM, zL, zE, zD, yA, yE, yL, yQ, yT, reduceCtorEq, c16, opC, k8, k9]
  refine ⟨st0, .inr ?_⟩
  unfold errB
  rw [if_pos (.inl (by omega))]
  exact ⟨by decide, rfl⟩
theorem w18_0 (P : Program) [PT P] {call : CallE} {h : H} : WF P call c18 [.nilp] h fun v h' => v = .int .u8 0 := by
  simp only [go_sem, ↓reduceIte, ↓reduceDIte, zA, zM, zL, zE, zD, yA, yE, yL, yQ, yT, reduceCtorEq, c18]
def F49 (call : CallE) : Prop := ∀ h L, RLockO h L → call 49 [.ptr L 0] h = some (.int .u8 2, h)
theorem w18 (P : Program) [pt : PT P] {call : CallE} (h49 : F49 call) {h : H} {D : Nat} (hD : RBulkO h D) : WF P call c18 [.ptr D 0] h fun v h' => v = .int .u8 2 := by
  obtain ⟨B, t, s, o, ba, Q, L, g, gQ, lQ, lD, lL, hL⟩ := hD
  have q1 : ¬ Q = h.next := by omega
  have hDn : ¬ D = h.next := by omega
  have st := StepN.new h (.row (putList 0 partC T.e) 6 159)
  have hL2 : RLockO ⟨h.next + 1, h.t.set h.next (.row (putList 0 partC T.e) 6 159)⟩ L := by
    obtain ⟨lc, n, gl, l5⟩ := hL
    exact ⟨lc, n, (st.old L lL).trans gl, l5⟩
  have k49 := h49 _ L hL2
  simp only [partC] at k49
  simp only [go_sem, ↓reduceIte, ↓reduceDIte, zA, zM, zL, zE, zD, yA, yE, yL, yQ, yT, reduceCtorEq, c18, g, gQ, dcL, opC, partC, q1, hDn, k49]
end
end Go.Proofs.YtldmhpdjlgoenaaGreatDoor.BN

namespace Go.Proofs.YtldmhpdjlgoenaaGreatDoor.BN
open Go.Proofs.YtldmhpdjlgoenaaGreatDoor.Eo
open Nat renaming reduceAdd → zA, reduceMul → zM, reduceLT → zL, reduceEqDiff → zE, reduceLeDiff → zD
open Int renaming reduceAdd → yA, reduceLE → yE, reduceLT → yL, reduceEq → yQ, reduceToNat → yT
noncomputable section
/-! 4: leapfrog/leapfroglaw23.Small -/
@[go_sem] def c4_s0 : List SQ := [⟨some 1, none, .n (.box 27 (.t 0))⟩, ⟨some 2, none, .p (.mv (.c (.bool false)))⟩]
@[go_sem] def c4_s1 : List SQ := [⟨some 3, none, .p (.mv (.c (.int .i64 0)))⟩]
@[go_sem] def c4_s2 : List SQ := [⟨some 4, none, .p (.mv (.c (.int .i64 0)))⟩]
@[go_sem] def c4_s3 : List SQ := [⟨some 5, none, .p (.mv (.t 4))⟩, ⟨some 6, none, .p (.bin .lss 3 false true (.t 5) (.c (.int .i64 6)))⟩]
@[go_sem] def c4_s4 : List SQ := [⟨some 9, none, .p (.mv (.t 4))⟩, ⟨some 10, none, .p (.fadr 7 (.t 1))⟩, ⟨some 11, none, .p (.iadrA 6 1 (.t 10) (.t 9))⟩, ⟨some 12, none, .r (.ld none (.t 11))⟩, ⟨some 13, none, .p (.bin .gtr 3 false true (.t 12) (.c (.int .i64 60)))⟩]
@[go_sem] def c4_s5 : List SQ := [⟨some 2, none, .p (.mv (.c (.bool false)))⟩]
@[go_sem] def c4_s6 : List SQ := [⟨some 14, none, .p (.mv (.t 3))⟩, ⟨some 15, none, .p (.mv (.t 4))⟩, ⟨some 16, none, .p (.fadr 7 (.t 1))⟩, ⟨some 17, none, .p (.iadrA 6 1 (.t 16) (.t 15))⟩, ⟨some 18, none, .r (.ld none (.t 17))⟩, ⟨some 19, none, .p (.mm true (.t 18) [(.c (.int .i64 0))])⟩, ⟨some 20, none, .p (.bin .add 3 false false (.t 14) (.t 19))⟩, ⟨some 3, none, .p (.mv (.t 20))⟩]
@[go_sem] def c4_s7 : List SQ := [⟨some 7, none, .p (.mv (.t 4))⟩, ⟨some 8, none, .p (.bin .add 3 false true (.t 7) (.c (.int .i64 1)))⟩, ⟨some 4, none, .p (.mv (.t 8))⟩]
def c4_l8 : CC := (.seq (.seq (.ops c4_s3) (.cond (.t 6) .skip (.exit 0))) (.seq (.block 1 (.seq (.seq (.ops c4_s4) (.cond (.t 13) (.seq (.ops c4_s5) .ret) .skip)) (.ops c4_s6))) (.ops c4_s7)))
@[go_sem] def c4_s9 : List SQ := [⟨some 21, none, .p (.mv (.t 3))⟩, ⟨some 22, none, .p (.bin .leq 3 false true (.t 21) (.c (.int .i64 60)))⟩, ⟨some 23, none, .p (.mv (.t 22))⟩, ⟨some 24, some (23, true), .p (.fadr 4 (.t 1))⟩, ⟨some 25, some (23, true), .p (.fadr 2 (.t 24))⟩, ⟨some 26, some (23, true), .r (.ld none (.t 25))⟩, ⟨some 27, some (23, true), .p (.lenv (.t 26))⟩, ⟨some 28, some (23, true), .p (.bin .leq 3 false true (.t 27) (.c (.int .i64 40)))⟩, ⟨some 29, none, .p (.pick (.t 23) (.t 28) (.c (.bool false)))⟩, ⟨some 2, none, .p (.mv (.t 29))⟩]
@[go_sem] def c4 : CF := ⟨1, (.seq (.ops c4_s0) (.seq (.ops c4_s1) (.seq (.seq (.ops c4_s2) (.block 0 (.loop c4_l8))) (.seq (.ops c4_s9) .ret)))), [.tmp 2]⟩
/-! 12: leapfrog/leapfroglaw33.index -/
@[go_sem] def c12_s0 : List SQ := [⟨some 4, none, .p (.mv (.c (.int .i64 0)))⟩]
@[go_sem] def c12_s1 : List SQ := [⟨some 5, none, .p (.mv (.t 0))⟩, ⟨some 6, none, .p (.mv (.t 1))⟩, ⟨some 7, none, .p (.bin .rem 3 false false (.t 5) (.t 6))⟩, ⟨some 8, none, .p (.mv (.t 1))⟩, ⟨some 9, none, .p (.bin .add 3 false false (.t 7) (.t 8))⟩, ⟨some 10, none, .p (.mv (.t 1))⟩, ⟨some 11, none, .p (.bin .rem 3 false false (.t 9) (.t 10))⟩, ⟨some 4, none, .p (.mv (.t 11))⟩]
@[go_sem] def c12 : CF := ⟨2, (.seq (.ops c12_s0) (.seq (.ops c12_s1) .ret)), [.tmp 4]⟩

def mx (x : Int) : Int := if x < 0 then 0 else x
theorem mx_le (x : Int) : x ≤ mx x ∧ 0 ≤ mx x := by unfold mx; by_cases h : x < 0 <;> simp [h] <;> omega
theorem mx_60 (x : Int) (h : ¬ 60 < x) : mx x ≤ 60 := by unfold mx; by_cases h : x < 0 <;> simp [h] <;> omega
theorem mm0 (x : Int) : mmA true (.int .i64 x) [.int .i64 0] = some (.int .i64 (mx x)) := by
  unfold mmA mmA mx
  simp only [cond_true, iLt_eq]
  by_cases h : x < 0 <;> simp [h]
theorem w12 (P : Program) {call : CallE} {h : H} (i : Int) (h0 : -9223372036854775808 ≤ i) (h1 : i ≤ 9223372036854775807) : WF P call c12 [.int .i64 i, .int .i64 64] h fun v h' => (∃ t : Int, v = .int .i64 t ∧ 0 ≤ t ∧ t < 64) ∧ h' = h := by
  have a1 : -64 < Int.tmod i 64 := Int.lt_tmod_of_pos i (by decide)
  have a2 : Int.tmod i 64 < 64 := Int.tmod_lt_of_pos i (by decide)
  have f1 : fw .i64 (Int.tmod i 64 + 64) = Int.tmod i 64 + 64 := fwI (by omega) (by omega)
  have a3 : 0 ≤ Int.tmod (Int.tmod i 64 + 64) 64 := Int.tmod_nonneg _ (by omega)
  have a4 : Int.tmod (Int.tmod i 64 + 64) 64 < 64 := Int.tmod_lt_of_pos _ (by decide)
  have z : ¬ (64 : Int) = 0 := by decide
  simp only [go_sem, ↓reduceIte, ↓reduceDIte, zA, zM, zL, zE, zD, yA, yE, yL, yQ, yT, reduceCtorEq, c12, f1, z]
  exact ⟨_, rfl, a3, a4⟩
/-- what a small configuration is known by -/
def SmallP (c : CfgT) : Prop := c.t0 + c.t1 + c.t2 + c.t3 + c.t4 + c.t5 ≤ 60 ∧ c.cuts.length ≤ 40
def Post4 (c : CfgT) (h : H) (v : AV) (h' : H) : Prop := StepN h h' ∧ ∃ b, v = .bool b ∧ (b = true → SmallP c)
theorem w4 (P : Program) {call : CallE} {h : H} {c : CfgT} {v : AV} (hv : RdL none 1 h v (uL c.cuts)) : WF P call c4 [.agg (cfgC c v)] h (Post4 c h) := by
  have ov := hv.one
  have hvl := hv.lenA
  rw [uL_len] at hvl
  have st : ∀ x, StepN h ⟨h.next + 1, h.t.set h.next x⟩ := fun x => StepN.new h x
  simp only [go_sem, ↓reduceIte, ↓reduceDIte, zA, zM, zL, zE, zD, yA, yE, yL, yQ, yT, reduceCtorEq, c4, ov, cfgC]
  have no : ∀ x, Post4 c h (.bool false) ⟨h.next + 1, h.t.set h.next x⟩ := fun x => ⟨st x, false, rfl, fun e => by cases e⟩
  refine unroll 7 ?_
  simp only [go_sem, ↓reduceIte, ↓reduceDIte, zA, zM, zL, zE, zD, yA, yE, yL, yQ, yT, reduceCtorEq, c4_l8, fl1, fl2, fl3, fl4, fl5, fl6, mm0]
  by_cases a0 : 60 < c.t0
  · simp only [go_sem, ↓reduceIte, ↓reduceDIte, zA, zM, zL, zE, zD, yA, yE, yL, yQ, yT, reduceCtorEq, c4_l8, fl1, fl2, fl3, fl4, fl5, fl6, mm0, a0]
    exact no _
  have x0 := mx_le c.t0
  have y0 := mx_60 c.t0 a0
  have f0 : fw .i64 (0 + mx c.t0) = 0 + mx c.t0 := fwI (by omega) (by omega)
  simp only [go_sem, ↓reduceIte, ↓reduceDIte, zA, zM, zL, zE, zD, yA, yE, yL, yQ, yT, reduceCtorEq, c4_l8, fl1, fl2, fl3, fl4, fl5, fl6, mm0, a0, f0]
  by_cases a1 : 60 < c.t1
  · simp only [go_sem, ↓reduceIte, ↓reduceDIte, zA, zM, zL, zE, zD, yA, yE, yL, yQ, yT, reduceCtorEq, c4_l8, fl1, fl2, fl3, fl4, fl5, fl6, mm0, a0, f0, a1]
    exact no _
  have x1 := mx_le c.t1
  have y1 := mx_60 c.t1 a1
  have f1 : fw .i64 (0 + mx c.t0 + mx c.t1) = 0 + mx c.t0 + mx c.t1 := fwI (by omega) (by omega)
  simp only [go_sem, ↓reduceIte, ↓reduceDIte, zA, zM, zL, zE, zD, yA, yE, yL, yQ, yT, reduceCtorEq, c4_l8, fl1, fl2, fl3, fl4, fl5, fl6, mm0, a0, f0, a1, f1]
  by_cases a2 : 60 < c.t2
  · simp only [go_sem, ↓reduceIte, ↓reduceDIte, zA, zM, zL, zE, zD, yA, yE, yL, yQ, yT, reduceCtorEq, c4_l8, fl1, fl2, fl3, fl4, fl5, fl6, mm0, a0, f0, a1, f1, a2]
    exact no _
  have x2 := mx_le c.t2
  have y2 := mx_60 c.t2 a2
  have f2 : fw .i64 (0 + mx c.t0 + mx c.t1 + mx c.t2) = 0 + mx c.t0 + mx c.t1 + mx c.t2 := fwI (by omega) (by omega)
  simp only [go_sem, ↓reduceIte, ↓reduceDIte, zA, zM, zL, zE, zD, yA, yE, yL, yQ, yT, reduceCtorEq, c4_l8, fl1, fl2, fl3, fl4, fl5, fl6, mm0, a0, f0, a1, f1, a2, f2]
  by_cases a3 : 60 < c.t3
  · simp only [go_sem, ↓reduceIte, ↓reduceDIte, zA, zM, zL, zE, zD, yA, yE, yL, yQ, yT, reduceCtorEq, c4_l8, fl1, fl2, fl3, fl4, fl5, fl6, mm0, a0, f0, a1, f1, a2, f2, a3]
    exact no _
  have x3 := mx_le c.t3
  have y3 := mx_60 c.t3 a3
  have f3 : fw .i64 (0 + mx c.t0 + mx c.t1 + mx c.t2 + mx c.t3) = 0 + mx c.t0 + mx c.t1 + mx c.t2 + mx c.t3 := fwI (by omega) (by omega)
  simp only [go_sem, ↓reduceIte, ↓reduceDIte, zA, zM, zL, zE, zD, yA, yE, yL, yQ, yT, reduceCtorEq, c4_l8, fl1, fl2, fl3, fl4, fl5, fl6, mm0, a0, f0, a1, f1, a2, f2, a3, f3]
  by_cases a4 : 60 < c.t4
  · simp only [go_sem, ↓reduceIte, ↓reduceDIte, zA, zM, zL, zE, zD, yA, yE, yL, yQ, yT, reduceCtorEq, c4_l8, fl1, fl2, fl3, fl4, fl5, fl6, mm0, a0, f0, a1, f1, a2, f2, a3, f3, a4]
    exact no _
  have x4 := mx_le c.t4
  have y4 := mx_60 c.t4 a4
  have f4 : fw .i64 (0 + mx c.t0 + mx c.t1 + mx c.t2 + mx c.t3 + mx c.t4) = 0 + mx c.t0 + mx c.t1 + mx c.t2 + mx c.t3 + mx c.t4 := fwI (by omega) (by omega)
  simp only [go_sem, ↓reduceIte, ↓reduceDIte, zA, zM, zL, zE, zD, yA, yE, yL, yQ, yT, reduceCtorEq, c4_l8, fl1, fl2, fl3, fl4, fl5, fl6, mm0, a0, f0, a1, f1, a2, f2, a3, f3, a4, f4]
  by_cases a5 : 60 < c.t5
  · simp only [go_sem, ↓reduceIte, ↓reduceDIte, zA, zM, zL, zE, zD, yA, yE, yL, yQ, yT, reduceCtorEq, c4_l8, fl1, fl2, fl3, fl4, fl5, fl6, mm0, a0, f0, a1, f1, a2, f2, a3, f3, a4, f4, a5]
    exact no _
  have x5 := mx_le c.t5
  have y5 := mx_60 c.t5 a5
  have f5 : fw .i64 (0 + mx c.t0 + mx c.t1 + mx c.t2 + mx c.t3 + mx c.t4 + mx c.t5) = 0 + mx c.t0 + mx c.t1 + mx c.t2 + mx c.t3 + mx c.t4 + mx c.t5 := fwI (by omega) (by omega)
  by_cases b0 : 60 < 0 + mx c.t0 + mx c.t1 + mx c.t2 + mx c.t3 + mx c.t4 + mx c.t5
  · simp only [go_sem, ↓reduceIte, ↓reduceDIte, zA, zM, zL, zE, zD, yA, yE, yL, yQ, yT, reduceCtorEq, c4_l8, fl1, fl2, fl3, fl4, fl5, fl6, mm0, a0, f0, a1, f1, a2, f2, a3, f3, a4, f4, a5, f5, b0]
    exact no _
  by_cases b1 : (40 : Int) < (c.cuts.length : Int)
  · simp only [go_sem, ↓reduceIte, ↓reduceDIte, zA, zM, zL, zE, zD, yA, yE, yL, yQ, yT, reduceCtorEq, c4_l8, fl1, fl2, fl3, fl4, fl5, fl6, mm0, a0, f0, a1, f1, a2, f2, a3, f3, a4, f4, a5, f5, b0, hvl, b1]
    exact no _
  · simp only [go_sem, ↓reduceIte, ↓reduceDIte, zA, zM, zL, zE, zD, yA, yE, yL, yQ, yT, reduceCtorEq, c4_l8, fl1, fl2, fl3, fl4, fl5, fl6, mm0, a0, f0, a1, f1, a2, f2, a3, f3, a4, f4, a5, f5, b0, hvl, b1]
    exact ⟨st _, true, rfl, fun _ => ⟨by omega, by omega⟩⟩

/-- the arguments: a thread, a slot, an operation -/
def argC (th sl : Int) (o : OpT) : List AV := .int .i64 th :: .int .i64 sl :: opC o
def F4 (call : CallE) : Prop := ∀ h c v, RdL none 1 h v (uL c.cuts) → ∃ v' h', call 4 [.agg (cfgC c v)] h = some (v', h') ∧ Post4 c h v' h'
def F6 (call : CallE) : Prop := ∀ h c v, RdL none 1 h v (uL c.cuts) → (∀ a, own v = some a → a < h.next) → layB c → (hsL c).length ≤ 60 → ∃ v' h', call 6 [.agg (cfgC c v)] h = some (v', h') ∧ Post6 c h v' h'
def F7 (call : CallE) : Prop := ∀ h c v, RdL none 1 h v (uL c.cuts) → (∀ a, own v = some a → a < h.next) → (∀ x ∈ c.cuts, inU x) → layB c → (hsL c).length ≤ 60 → ∃ v' h', call 7 [.agg (cfgC c v)] h = some (v', h') ∧ Post7 c h v' h'
def F8 (call : CallE) : Prop := ∀ h B c p M W R ws (n : Nat), (∀ h2, StepX M W h h2 → BaseH h2 B c p M W R) → p.ow = 0 → MemG h M W ws .nils → M < h.next → W < h.next → c.cuts.length ≤ 1000 → c.slots = (n : Int) → 0 < n → n ≤ 64 → ws[0]? = some 0 → ∃ v h', call 8 [.ptr B 0, .int .i64 0] h = some (v, h') ∧ Post8 M W ws h v h'
def F9 (call : CallE) : Prop := ∀ h B, ∃ v h', call 9 [.ptr B 0, .int .i64 0] h = some (v, h') ∧ (StepN h h' ∧ ∃ O, v = .tup [.ptr O 0, .int .i64 0] ∧ ROpen h' O B false ∧ h.next ≤ O ∧ O < h'.next)
def F11 (call : CallE) : Prop := ∀ h O B c p M W R (ws : List Int), RBaseH h B c p M W R → p.ow = 0 → RMem h M W ws .nils → M < h.next → W < h.next → O < h.next → ROpen h O B false → O ≠ M → O ≠ W → ws[0]? = some 0 → ∃ v h', call 11 [.ptr O 0] h = some (v, h') ∧ Post11 M W O B (ws.set 0 1) h v h'
def F12 (call : CallE) : Prop := ∀ h (i : Int), -9223372036854775808 ≤ i → i ≤ 9223372036854775807 → ∃ v h', call 12 [.int .i64 i, .int .i64 64] h = some (v, h') ∧ ((∃ t : Int, v = .int .i64 t ∧ 0 ≤ t ∧ t < 64) ∧ h' = h)
def F13 (call : CallE) (f : FuncId) : Prop := ∀ h B (t : Int), 0 ≤ t → t < 64 → ∃ v h', call f [.ptr B 0, .int .i64 t] h = some (v, h') ∧ ((∃ Q, v = .tup [.ptr Q 0, .int .i64 0]) ∧ StepN h h')
def F15 (call : CallE) : Prop := ∀ h B Q c p M W R ws lg (n : Nat) (t s : Int) o, c.slots = (n : Int) → 0 < n → n ≤ 64 → BaseH h B c p M W R → p.ow = 0 → c.cuts.length ≤ 1000 → 0 ≤ c.tries → c.tries ≤ 255 → MemG h M W ws lg → M < h.next → W < h.next → OwnW ws n → OpU o → ∃ v h', call 15 [.ptr B 0, .int .i64 t, .int .i64 s, .agg (opC o), .ptr Q 0] h = some (v, h') ∧ Post15 (errB n t s o) h v h'
def F16 (call : CallE) : Prop := ∀ h B Q c p M W R ws lg (n : Nat) (t s : Int) o, c.slots = (n : Int) → n ≤ 64 → RBaseH h B c p M W R → p.ow = 0 → 0 ≤ c.tries → c.tries ≤ 255 → RMem h M W ws lg → M < h.next → W < h.next → OwnW ws n → OpU o → ∃ v h', call 16 [.ptr B 0, .int .i64 t, .int .i64 s, .agg (opC o), .ptr Q 0] h = some (v, h') ∧ Post16 (errB n t s o) h v h'
theorem zero_own {w : Nat} {s : Int} {ws : List Int} {n : Nat} (z : Zero w s ws) (hs : s = (n : Int)) (hn : 0 < n) : OwnW (ws.set 0 1) n := fun i hi => by
  have h0 := z.zero i (by omega)
  have hl : 0 < ws.length := by
    have := (List.getElem?_eq_some_iff.1 (z.zero 0 (by omega))).1
    omega
  cases i with
  | zero => rw [List.getElem?_set_self hl]
  | succ i => rw [List.getElem?_set_ne (by omega)]; exact h0
end
end Go.Proofs.YtldmhpdjlgoenaaGreatDoor.BN

namespace Go.Proofs.YtldmhpdjlgoenaaGreatDoor.BN
open Go.Proofs.YtldmhpdjlgoenaaGreatDoor.Eo
open Nat renaming reduceAdd → zA, reduceMul → zM, reduceLT → zL, reduceEqDiff → zE, reduceLeDiff → zD
open Int renaming reduceAdd → yA, reduceLE → yE, reduceLT → yL, reduceEq → yQ, reduceToNat → yT
noncomputable section
/-! 3: leapfrog/leapfroglaw33.BulkNew -/
@[go_sem] def c3_s0 : List SQ := [⟨some 2, none, .n (.box 27 (.t 0))⟩, ⟨some 3, none, .n (.box 32 (.t 1))⟩, ⟨some 4, none, .p (.mv (.c (.bool false)))⟩]
@[go_sem] def c3_s1 : List SQ := [⟨some 18, none, .r (.ld (some 16) (.t 2))⟩, ⟨some 19, none, .cv (.c (.fn (.func 4) [] [])) [(.t 18)]⟩, ⟨some 20, none, .p (.un .not (.t 19))⟩, ⟨some 21, none, .p (.mv (.t 20))⟩, ⟨some 22, some (21, false), .r (.ld (some 16) (.t 2))⟩, ⟨some 23, some (21, false), .cv (.c (.fn (.func 5) [] [])) [(.t 22)]⟩, ⟨some 24, some (21, false), .p (.bin .neq 34 false true (.t 23) (.c (.int .i64 0)))⟩, ⟨some 25, none, .p (.pick (.t 21) (.c (.bool true)) (.t 24))⟩, ⟨some 26, none, .p (.mv (.t 25))⟩, ⟨some 27, some (26, false), .p (.fadr 0 (.t 2))⟩, ⟨some 28, some (26, false), .r (.ld none (.t 27))⟩, ⟨some 29, some (26, false), .p (.bin .gtr 3 false true (.t 28) (.c (.int .i64 4)))⟩, ⟨some 30, none, .p (.pick (.t 26) (.c (.bool true)) (.t 29))⟩, ⟨some 31, none, .p (.mv (.t 30))⟩, ⟨some 32, some (31, false), .p (.fadr 1 (.t 2))⟩, ⟨some 33, some (31, false), .r (.ld none (.t 32))⟩, ⟨some 34, some (31, false), .p (.fadr 0 (.t 2))⟩, ⟨some 35, some (31, false), .r (.ld none (.t 34))⟩, ⟨some 36, some (31, false), .p (.bin .lss 3 false false (.t 33) (.t 35))⟩, ⟨some 37, none, .p (.pick (.t 31) (.c (.bool true)) (.t 36))⟩]
@[go_sem] def c3_s2 : List SQ := [⟨some 4, none, .p (.mv (.c (.bool true)))⟩]
@[go_sem] def c3_s3 : List SQ := [⟨some 39, none, .r (.ld (some 16) (.t 2))⟩, ⟨some 40, none, .cv (.c (.fn (.func 6) [] [])) [(.t 39)]⟩, ⟨some 38, none, .p (.mv (.t 40))⟩, ⟨some 41, none, .p (.extr (.t 38) 0)⟩, ⟨some 42, none, .p (.extr (.t 38) 1)⟩, ⟨some 5, none, .p (.mv (.t 41))⟩, ⟨some 6, none, .p (.mv (.t 42))⟩]
@[go_sem] def c3_s4 : List SQ := [⟨some 44, none, .r (.ld (some 16) (.t 2))⟩, ⟨some 45, none, .cv (.c (.fn (.func 7) [] [])) [(.t 44)]⟩, ⟨some 43, none, .p (.mv (.t 45))⟩, ⟨some 46, none, .p (.extr (.t 43) 0)⟩, ⟨some 47, none, .p (.extr (.t 43) 1)⟩, ⟨some 7, none, .p (.mv (.t 46))⟩, ⟨some 8, none, .p (.mv (.t 47))⟩]
@[go_sem] def c3_s5 : List SQ := [⟨some 48, none, .p (.mv (.t 5))⟩, ⟨some 49, none, .p (.bin .eql 36 false true (.t 48) (.c .nilp))⟩, ⟨some 50, none, .p (.mv (.t 49))⟩, ⟨some 51, some (50, false), .p (.mv (.t 6))⟩, ⟨some 52, some (50, false), .p (.bin .neq 34 false true (.t 51) (.c (.int .i64 0)))⟩, ⟨some 53, none, .p (.pick (.t 50) (.c (.bool true)) (.t 52))⟩, ⟨some 54, none, .p (.mv (.t 53))⟩, ⟨some 55, some (54, false), .p (.mv (.t 5))⟩, ⟨some 56, some (54, false), .cv (.c (.fn (.func 8) [] [])) [(.t 55), (.c (.int .i64 0))]⟩, ⟨some 57, some (54, false), .p (.bin .neq 3 false true (.t 56) (.c (.int .i64 0)))⟩, ⟨some 58, none, .p (.pick (.t 54) (.c (.bool true)) (.t 57))⟩]
@[go_sem] def c3_s6 : List SQ := [⟨some 4, none, .p (.mv (.c (.bool false)))⟩]
@[go_sem] def c3_s7 : List SQ := [⟨some 60, none, .p (.mv (.t 7))⟩, ⟨some 61, none, .cv (.c (.fn (.func 9) [] [])) [(.t 60), (.c (.int .i64 0))]⟩, ⟨some 59, none, .p (.mv (.t 61))⟩, ⟨some 62, none, .p (.extr (.t 59) 0)⟩, ⟨some 63, none, .p (.extr (.t 59) 1)⟩, ⟨some 9, none, .p (.mv (.t 62))⟩, ⟨some 10, none, .p (.mv (.t 63))⟩]
@[go_sem] def c3_s8 : List SQ := [⟨some 64, none, .p (.mv (.t 9))⟩, ⟨some 65, none, .cv (.c (.fn (.func 10) [] [])) [(.t 64)]⟩, ⟨some 66, none, .p (.bin .neq 5 false true (.t 65) (.c (.int .u8 0)))⟩]
@[go_sem] def c3_s9 : List SQ := [⟨some 67, none, .p (.mv (.t 9))⟩, ⟨some 68, none, .cv (.c (.fn (.func 11) [] [])) [(.t 67)]⟩]
def c3_l10 : CC := (.seq (.seq (.ops c3_s8) (.cond (.t 66) .skip (.exit 0))) (.block 1 (.ops c3_s9)))
@[go_sem] def c3_s11 : List SQ := [⟨some 69, none, .p (.fadr 0 (.t 3))⟩, ⟨some 70, none, .r (.ld none (.t 69))⟩, ⟨some 71, none, .cv (.c (.fn (.func 12) [] [])) [(.t 70), (.c (.int .i64 64))]⟩, ⟨some 11, none, .p (.mv (.t 71))⟩]
@[go_sem] def c3_s12 : List SQ := [⟨some 73, none, .p (.mv (.t 5))⟩, ⟨some 74, none, .p (.mv (.t 11))⟩, ⟨some 75, none, .cv (.c (.fn (.func 13) [] [])) [(.t 73), (.t 74)]⟩, ⟨some 72, none, .p (.mv (.t 75))⟩, ⟨some 76, none, .p (.extr (.t 72) 0)⟩, ⟨some 77, none, .p (.extr (.t 72) 1)⟩, ⟨some 12, none, .p (.mv (.t 76))⟩, ⟨some 6, none, .p (.mv (.t 77))⟩]
@[go_sem] def c3_s13 : List SQ := [⟨some 79, none, .p (.mv (.t 7))⟩, ⟨some 80, none, .p (.mv (.t 11))⟩, ⟨some 81, none, .cv (.c (.fn (.func 14) [] [])) [(.t 79), (.t 80)]⟩, ⟨some 78, none, .p (.mv (.t 81))⟩, ⟨some 82, none, .p (.extr (.t 78) 0)⟩, ⟨some 83, none, .p (.extr (.t 78) 1)⟩, ⟨some 13, none, .p (.mv (.t 82))⟩, ⟨some 14, none, .p (.mv (.t 83))⟩]
@[go_sem] def c3_s14 : List SQ := [⟨some 84, none, .p (.mv (.t 12))⟩, ⟨some 85, none, .p (.bin .eql 50 false true (.t 84) (.c .nilp))⟩, ⟨some 86, none, .p (.mv (.t 85))⟩, ⟨some 87, some (86, false), .p (.mv (.t 6))⟩, ⟨some 88, some (86, false), .p (.bin .neq 34 false true (.t 87) (.c (.int .i64 0)))⟩, ⟨some 89, none, .p (.pick (.t 86) (.c (.bool true)) (.t 88))⟩]
@[go_sem] def c3_s15 : List SQ := [⟨some 4, none, .p (.mv (.c (.bool false)))⟩]
@[go_sem] def c3_s16 : List SQ := [⟨some 91, none, .p (.mv (.t 5))⟩, ⟨some 92, none, .p (.fadr 0 (.t 3))⟩, ⟨some 93, none, .r (.ld none (.t 92))⟩, ⟨some 94, none, .p (.fadr 1 (.t 3))⟩, ⟨some 95, none, .r (.ld none (.t 94))⟩, ⟨some 96, none, .p (.fadr 2 (.t 3))⟩, ⟨some 97, none, .r (.ld (some 7) (.t 96))⟩, ⟨some 98, none, .p (.mv (.t 12))⟩, ⟨some 99, none, .cv (.c (.fn (.func 15) [] [])) [(.t 91), (.t 93), (.t 95), (.t 97), (.t 98)]⟩, ⟨some 90, none, .p (.mv (.t 99))⟩, ⟨some 100, none, .p (.extr (.t 90) 0)⟩, ⟨some 101, none, .p (.extr (.t 90) 1)⟩, ⟨some 15, none, .p (.mv (.t 100))⟩, ⟨some 6, none, .p (.mv (.t 101))⟩]
@[go_sem] def c3_s17 : List SQ := [⟨some 103, none, .p (.mv (.t 7))⟩, ⟨some 104, none, .p (.fadr 0 (.t 3))⟩, ⟨some 105, none, .r (.ld none (.t 104))⟩, ⟨some 106, none, .p (.fadr 1 (.t 3))⟩, ⟨some 107, none, .r (.ld none (.t 106))⟩, ⟨some 108, none, .p (.fadr 2 (.t 3))⟩, ⟨some 109, none, .r (.ld (some 7) (.t 108))⟩, ⟨some 110, none, .p (.mv (.t 13))⟩, ⟨some 111, none, .cv (.c (.fn (.func 16) [] [])) [(.t 103), (.t 105), (.t 107), (.t 109), (.t 110)]⟩, ⟨some 102, none, .p (.mv (.t 111))⟩, ⟨some 112, none, .p (.extr (.t 102) 0)⟩, ⟨some 113, none, .p (.extr (.t 102) 1)⟩, ⟨some 16, none, .p (.mv (.t 112))⟩, ⟨some 17, none, .p (.mv (.t 113))⟩]
@[go_sem] def c3_s18 : List SQ := [⟨some 114, none, .p (.mv (.t 6))⟩, ⟨some 115, none, .p (.mv (.t 17))⟩, ⟨some 116, none, .p (.bin .eql 34 false false (.t 114) (.t 115))⟩, ⟨some 117, none, .p (.mv (.t 116))⟩, ⟨some 118, some (117, true), .p (.mv (.t 15))⟩, ⟨some 119, some (117, true), .p (.bin .eql 56 false true (.t 118) (.c .nilp))⟩, ⟨some 120, some (117, true), .p (.mv (.t 16))⟩, ⟨some 121, some (117, true), .p (.bin .eql 59 false true (.t 120) (.c .nilp))⟩, ⟨some 122, some (117, true), .p (.bin .eql 4 false false (.t 119) (.t 121))⟩, ⟨some 123, none, .p (.pick (.t 117) (.t 122) (.c (.bool false)))⟩, ⟨some 124, none, .p (.mv (.t 123))⟩, ⟨some 125, some (124, true), .p (.mv (.t 15))⟩, ⟨some 126, some (124, true), .cv (.c (.fn (.func 17) [] [])) [(.t 125)]⟩, ⟨some 127, some (124, true), .p (.mv (.t 16))⟩, ⟨some 128, some (124, true), .cv (.c (.fn (.func 18) [] [])) [(.t 127)]⟩, ⟨some 129, some (124, true), .p (.bin .eql 5 false false (.t 126) (.t 128))⟩, ⟨some 130, none, .p (.pick (.t 124) (.t 129) (.c (.bool false)))⟩, ⟨some 4, none, .p (.mv (.t 130))⟩]
@[go_sem] def c3 : CF := ⟨2, (.seq (.ops c3_s0) (.seq (.seq (.ops c3_s1) (.cond (.t 37) (.seq (.ops c3_s2) .ret) .skip)) (.seq (.ops c3_s3) (.seq (.ops c3_s4) (.seq (.seq (.ops c3_s5) (.cond (.t 58) (.seq (.ops c3_s6) .ret) .skip)) (.seq (.ops c3_s7) (.seq (.block 0 (.loop c3_l10)) (.seq (.ops c3_s11) (.seq (.ops c3_s12) (.seq (.ops c3_s13) (.seq (.seq (.ops c3_s14) (.cond (.t 89) (.seq (.ops c3_s15) .ret) .skip)) (.seq (.ops c3_s16) (.seq (.ops c3_s17) (.seq (.ops c3_s18) .ret)))))))))))))), [.tmp 4]⟩

section
variable {h h' : H} {M W : Nat} {ws : List Int} {lg : AV}
theorem off_k (m : MemG h M W ws lg) (s : StepX M W h h') {b : Nat} {cells : T AV} {len : Nat} {e : TypeId} (hb : b < h.next) (g : h.t.get b = some (.row cells len e)) (n1 : e ≠ 177) (n2 : e ≠ 182) : h'.t.get b = h.t.get b := by
  have gM := m.g
  have gW := m.w
  refine s.old b hb (fun e => ?_) (fun e => ?_)
  · subst e; rw [gM] at g; simp at g; exact n1 g.2.2.symm
  · subst e; rw [gW] at g; simp [rowL] at g; exact n2 g.2.2.symm
theorem own_off (m : MemG h M W ws lg) (s : StepX M W h h') {es : Nat} {e : TypeId} {v : AV} {n : Nat} {cs : List AV} (o : Own es e h v n cs) (n1 : e ≠ 177) (n2 : e ≠ 182) : Own es e h' v n cs := by
  refine o.keep s.next fun b hb => ?_
  cases o with
  | nil => cases hb
  | sl a len cs cap hc h0 hl ha hg =>
    obtain rfl := Option.some.inj hb
    exact off_k m s ha hg n1 n2
theorem RPrcu.off1 {R n : Nat} (p : RPrcu h R n) (m : MemG h M W ws lg) (s : StepX M W h h') : RPrcu h' R n := by
  have l : ∀ {a}, a < h.next → a < h'.next := fun ha => Nat.lt_of_lt_of_le ha s.next
  have k : ∀ {b cells len e}, b < h.next → h.t.get b = some (.row cells len e) → e ≠ 177 → e ≠ 182 → h'.t.get b = some (.row cells len e) := fun hb g n1 n2 => (off_k m s hb g n1 n2).trans g
  cases p with
  | a G N M base gR gG gN lR lG lN => exact .a G N M base (k lR gR (by decide) (by decide)) (k lG gG (by decide) (by decide)) (k lN gN (by decide) (by decide)) (l lR) (l lG) (l lN)
  | b G N M base gR gG gN lR lG lN => exact .b G N M base (k lR gR (by decide) (by decide)) (k lG gG (by decide) (by decide)) (k lN gN (by decide) (by decide)) (l lR) (l lG) (l lN)
  | c G M base nb ty gR gG hty lR lG => exact .c G M base nb ty (k lR gR (by decide) (by decide)) (k lG gG (by rw [hty]; decide) (by rw [hty]; decide)) hty (l lR) (l lG)
theorem RBaseH.off1 {B : Nat} {c : CfgT} {p : PlT} {M2 W2 R : Nat} (b : RBaseH h B c p M2 W2 R) (m : MemG h M W ws lg) (s : StepX M W h h') : RBaseH h' B c p M2 W2 R := by
  obtain ⟨⟨L, P, Tw, vv, lv, cv, g, ⟨cv', hv, wv, wl, wcs, gL, o1, oh, ow, ew⟩, lL⟩, ⟨n, hn, hR⟩, lt⟩ := b
  exact ⟨⟨L, P, Tw, vv, lv, cv, (off_k m s lt g (by decide) (by decide)).trans g, ⟨⟨cv', hv, wv, wl, wcs, (off_k m s lL gL (by decide) (by decide)).trans gL, o1, own_off m s oh (by decide) (by decide), own_off m s ow (by decide) (by decide), ew⟩, Nat.lt_of_lt_of_le lL s.next⟩⟩, ⟨n, hn, hR.off1 m s⟩, Nat.lt_of_lt_of_le lt s.next⟩
end
theorem eqB (P : Program) (u4 : P.underlying 4 = some .bool) (x y : Bool) : evBin P .eql 4 false false (.bool x) (.bool y) = some (.bool (x == y)) := by
  unfold evBin
  simp only [u4]
def F17 (call : CallE) : Prop := (∀ h, call 17 [.nilp] h = some (.int .u8 0, h)) ∧ ∀ h D, BulkO h D → ∃ v h', call 17 [.ptr D 0] h = some (v, h') ∧ (v = .int .u8 2 ∧ StepN h h')
def F18 (call : CallE) : Prop := (∀ h, ∃ v h', call 18 [.nilp] h = some (v, h') ∧ v = .int .u8 0) ∧ ∀ h D, RBulkO h D → ∃ v h', call 18 [.ptr D 0] h = some (v, h') ∧ v = .int .u8 2
theorem BulkO.step {h h' : H} {D : Nat} (b : BulkO h D) (s : StepN h h') : BulkO h' D := by
  obtain ⟨dc, Q, L, g, d27, d17, gQ, ⟨lD, lQ⟩, lL, ⟨lc, gl, l12⟩⟩ := b
  exact ⟨dc, Q, L, (s.old D lD).trans g, d27, d17, (s.old Q lQ).trans gQ, ⟨Nat.lt_of_lt_of_le lD s.next, Nat.lt_of_lt_of_le lQ s.next⟩, Nat.lt_of_lt_of_le lL s.next, ⟨lc, (s.old L lL).trans gl, l12⟩⟩
theorem RBulkO.step {h h' : H} {D : Nat} (b : RBulkO h D) (s : StepN h h') : RBulkO h' D := by
  obtain ⟨B, t, sl, o, ba, Q, L, g, gQ, lQ, lD, lL, ⟨lc, n, gl, l5⟩⟩ := b
  exact ⟨B, t, sl, o, ba, Q, L, (s.old D lD).trans g, (s.old Q lQ).trans gQ, Nat.lt_of_lt_of_le lQ s.next, Nat.lt_of_lt_of_le lD s.next, Nat.lt_of_lt_of_le lL s.next, ⟨lc, n, (s.old L lL).trans gl, l5⟩⟩
set_option maxHeartbeats 1000000 in
theorem w3 (P : Program) [PT P] (u4 : P.underlying 4 = some .bool) {call : CallE} (h4 : F4 call) (h5 : F5 call) (h6 : F6 call) (h7 : F7 call) (h8 : F8 call) (h9 : F9 call) (h10 : F10 call) (h11 : F11 call) (h12 : F12 call) (h13 : F13 call 13) (h14 : F13 call 14) (h15 : F15 call) (h16 : F16 call) (h17 : F17 call) (h18 : F18 call)
    {h : H} {c : CfgT} {v : AV} (hv : RdL none 1 h v (uL c.cuts)) (hlv : ∀ a, own v = some a → a < h.next) (hin : ∀ x ∈ c.cuts, inU x) {th sl : Int} (th0 : -9223372036854775808 ≤ th) (th1 : th ≤ 9223372036854775807) {o : OpT} (ou : OpU o) :
    WF P call c3 [.agg (cfgC c v), .agg (argC th sl o)] h fun v' h' => v' = .bool true := by
  have ov := hv.one
  have n1 : ¬ h.next = h.next + 1 := by omega
  have st0 : ∀ x y, StepN h ⟨h.next + 2, (h.t.set h.next x).set (h.next + 1) y⟩ := fun x y => ⟨Nat.le_add_right _ _, fun b hb => by
    have e1 : ¬ b = h.next := by omega
    have e2 : ¬ b = h.next + 1 := by omega
    simp only [go_sem, ↓reduceIte, ↓reduceDIte, zA, zM, zL, zE, zD, yA, yE, yL, yQ, yT, reduceCtorEq, e1, e2]⟩
  have hv0 := fun x y => hv.keep fun b hb => (st0 x y).old b (hlv b hb)
  simp only [go_sem, ↓reduceIte, ↓reduceDIte, zA, zM, zL, zE, zD, yA, yE, yL, yQ, yT, reduceCtorEq, c3, ov, cfgC, argC, opC, n1]
  refine opt_by (h4 _ c v (hv0 _ _)) fun v1 h1 p1 => ?_
  obtain ⟨st1, b, rfl, hbs⟩ := p1
  have gC1 := st1.old h.next (by show h.next < h.next + 2; omega)
  have gX1 := st1.old (h.next + 1) (by show h.next + 1 < h.next + 2; omega)
  have nx1 : h.next + 2 ≤ h1.next := st1.next
  simp only [go_sem, ↓reduceIte, ↓reduceDIte, zA, zM, zL, zE, zD, yA, yE, yL, yQ, yT, reduceCtorEq, n1] at gC1 gX1
  have st01 := (st0 _ _).trans st1
  cases b with
  | false => simp only [go_sem, ↓reduceIte, ↓reduceDIte, zA, zM, zL, zE, zD, yA, yE, yL, yQ, yT, reduceCtorEq]
  | true =>
  obtain ⟨hsum, hcl⟩ := hbs rfl
  simp only [go_sem, ↓reduceIte, ↓reduceDIte, zA, zM, zL, zE, zD, yA, yE, yL, yQ, yT, reduceCtorEq, gC1, ov]
  refine opt_by (h5 h1 c v (hv.keep fun b hb => st01.old b (hlv b hb)) (fun a ha => by have := hlv a ha; omega) hin) fun v2 h2 p2 => ?_
  obtain ⟨e, rfl, he, st2⟩ := p2
  have nx2 : h1.next ≤ h2.next := st2.next
  have gC2 := (st2.old h.next (by omega)).trans gC1
  have gX2 := (st2.old (h.next + 1) (by omega)).trans gX1
  have st02 := st01.trans st2
  by_cases e0 : e = 0
  case neg => simp only [go_sem, ↓reduceIte, ↓reduceDIte, zA, zM, zL, zE, zD, yA, yE, yL, yQ, yT, reduceCtorEq, e0]
  have hlay := he.1 e0
  subst e0
  by_cases t4 : 4 < c.threads
  · simp only [go_sem, ↓reduceIte, ↓reduceDIte, zA, zM, zL, zE, zD, yA, yE, yL, yQ, yT, reduceCtorEq, gC2, t4]
  by_cases ts : c.slots < c.threads
  · simp only [go_sem, ↓reduceIte, ↓reduceDIte, zA, zM, zL, zE, zD, yA, yE, yL, yQ, yT, reduceCtorEq, gC2, t4, ts]
  have hlay0 := hlay
  obtain ⟨hT, hth, hsl, he1, he2, hb1, hb2, hd, hlo, htr, hba⟩ := hlay
  have hpos := towB_pos _ _ hT
  have hlen := htL_len (twL c) 0 hpos
  have hn60 : (hsL c).length ≤ 60 := by
    have e1 : (twL c).sum = c.t0 + (c.t1 + (c.t2 + (c.t3 + (c.t4 + (c.t5 + 0))))) := rfl
    have e2 : ((hsL c).length : Int) = (twL c).sum := hlen
    omega
  simp only [go_sem, ↓reduceIte, ↓reduceDIte, zA, zM, zL, zE, zD, yA, yE, yL, yQ, yT, reduceCtorEq, gC2, t4, ts, ov]
  refine opt_by (h6 h2 c v (hv.keep fun b hb => st02.old b (hlv b hb)) (fun a ha => by have := hlv a ha; omega) hlay0 hn60) fun v3 h3 p3 => ?_
  obtain ⟨st3, B, p, M, W, R, ws, rfl, po, ⟨w, hw, hz⟩, hsw, hwl, m3, lM, lW, gM0, gW0, hbB⟩ := p3
  have nx3 : h2.next ≤ h3.next := st3.next
  have gC3 := (st3.old h.next (by omega)).trans gC2
  have gX3 := (st3.old (h.next + 1) (by omega)).trans gX2
  have st03 := st02.trans st3
  simp only [go_sem, ↓reduceIte, ↓reduceDIte, zA, zM, zL, zE, zD, yA, yE, yL, yQ, yT, reduceCtorEq, gC3, ov]
  refine opt_by (h7 h3 c v (hv.keep fun b hb => st03.old b (hlv b hb)) (fun a ha => by have := hlv a ha; omega) hin hlay0 hn60) fun v4 h4' p4 => ?_
  obtain ⟨st4, B2, p2, M2, W2, R2, ws2, rfl, po2, ⟨w2, hw2, hz2⟩, hsw2, hwl2, m4, lM2, lW2, gM2, gW2, hbR⟩ := p4
  have nx4 : h3.next ≤ h4'.next := st4.next
  have gX4 := (st4.old (h.next + 1) (by omega)).trans gX3
  obtain ⟨n, hn⟩ : ∃ n : Nat, c.slots = (n : Int) := ⟨c.slots.toNat, by omega⟩
  have hz0 := hz.zero 0 (by omega)
  have hz20 := hz2.zero 0 (by omega)
  simp only [go_sem, ↓reduceIte, ↓reduceDIte, zA, zM, zL, zE, zD, yA, yE, yL, yQ, yT, reduceCtorEq]
  refine opt_by (h8 h4' B c p M W R ws n (fun h' s => hbB h' ((st4.x M W).trans s)) po (m3.step lM lW st4) (by omega) (by omega) (by omega) hn (by omega) (by omega) hz0) fun v5 h5' p5 => ?_
  obtain ⟨rfl, sx5, lg, m5⟩ := p5
  have nx5 := sx5.next
  have gX5 := (sx5.old (h.next + 1) (by omega) (by omega) (by omega)).trans gX4
  have m5r : RMem h5' M2 W2 ws2 .nils := ⟨(sx5.old M2 lM2 (by omega) (by omega)).trans m4.g, rfl, (sx5.old W2 lW2 (by omega) (by omega)).trans m4.w, m4.ne⟩
  have sB5 : StepX M W h3 h5' := (st4.x M W).trans sx5
  have hbR5 : ∀ h', StepX M2 W2 h5' h' → RBaseH h' B2 c p2 M2 W2 R2 := fun h' s => by
    have m4' := m3.step lM lW st4
    have MW : ¬ M = W := m3.ne
    have WM : ¬ W = M := fun e => MW e.symm
    obtain ⟨rM, hrM⟩ : ∃ r, r = AO.row (putList 0 [.sl W 0 ws.length 1 (some ws.length), .nils] T.e) 2 177 := ⟨_, rfl⟩
    have gM4 : h4'.t.get M = some rM := by rw [hrM]; exact m4'.g
    have gW4 := m4'.w
    have kM := s.next
    refine (hbR ⟨h'.next, (h'.t.set M rM).set W (rowL (ws.map (AV.int .u64)) 182)⟩ ⟨by show h4'.next ≤ h'.next; omega, fun b hb q1 q2 => ?_⟩).off1 (M := M) (W := W) (ws := ws) (lg := .nils) ⟨?_, rfl, by simp [go_sem], m3.ne⟩ ⟨Nat.le_refl _, fun b hb q1 q2 => by simp [go_sem, q1, q2]⟩
    · by_cases bW : b = W
      · subst bW; simp only [go_sem, ↓reduceIte, ↓reduceDIte, zA, zM, zL, zE, zD, yA, yE, yL, yQ, yT, reduceCtorEq]; exact gW4.symm
      by_cases bM : b = M
      · subst bM; simp only [go_sem, ↓reduceIte, ↓reduceDIte, zA, zM, zL, zE, zD, yA, yE, yL, yQ, yT, reduceCtorEq, MW]; exact gM4.symm
      simp only [go_sem, ↓reduceIte, ↓reduceDIte, zA, zM, zL, zE, zD, yA, yE, yL, yQ, yT, reduceCtorEq, bW, bM]
      exact (s.old b (by omega) q1 q2).trans (sx5.old b hb bM bW)
    · simp only [go_sem, ↓reduceIte, ↓reduceDIte, zA, zM, zL, zE, zD, yA, yE, yL, yQ, yT, reduceCtorEq, MW, hrM]
  simp only [go_sem, ↓reduceIte, ↓reduceDIte, zA, zM, zL, zE, zD, yA, yE, yL, yQ, yT, reduceCtorEq]
  refine opt_by (h9 h5' B2) fun v6 h6' p6 => ?_
  obtain ⟨st6, O, rfl, ro6, lO, lO2⟩ := p6
  have nx6 := st6.next
  have gX6 := (st6.old (h.next + 1) (by omega)).trans gX5
  simp only [go_sem, ↓reduceIte, ↓reduceDIte, zA, zM, zL, zE, zD, yA, yE, yL, yQ, yT, reduceCtorEq]
  refine unroll 2 ?_
  have k10 := h10 h6' O B2 false ro6
  simp only [go_sem, ↓reduceIte, ↓reduceDIte, zA, zM, zL, zE, zD, yA, yE, yL, yQ, yT, reduceCtorEq, c3_l10, k10]
  refine opt_by (h11 h6' O B2 c p2 M2 W2 R2 ws2 (hbR5 h6' (st6.x _ _)) po2 (m5r.step (by omega) (by omega) st6) (by omega) (by omega) lO2 ro6 (by omega) (by omega) hz20) fun v7 h7' p7 => ?_
  obtain ⟨rfl, nx7, old7, ⟨lg2, m7⟩, ro7⟩ := p7
  have k10b := h10 h7' O B2 true ro7
  have gX7 := (old7 (h.next + 1) (by omega) (by omega) (by omega) (by omega)).trans gX6
  simp only [go_sem, ↓reduceIte, ↓reduceDIte, zA, zM, zL, zE, zD, yA, yE, yL, yQ, yT, reduceCtorEq, c3_l10, k10b, gX7]
  refine opt_by (h12 h7' th th0 th1) fun v8 h8' p8 => ?_
  obtain ⟨⟨t, rfl, ht0, ht1⟩, rfl⟩ := p8
  simp only [go_sem, ↓reduceIte, ↓reduceDIte, zA, zM, zL, zE, zD, yA, yE, yL, yQ, yT, reduceCtorEq]
  have sB7 : StepX M W h3 h8' := ⟨by omega, fun b hb q1 q2 => (old7 b (by omega) (by omega) (by omega) (by omega)).trans ((st6.old b (by omega)).trans (sB5.old b hb q1 q2))⟩
  have hbR7 : RBaseH h8' B2 c p2 M2 W2 R2 := hbR5 h8' ⟨by omega, fun b hb q1 q2 => (old7 b (by omega) q1 q2 (by omega)).trans (st6.old b hb)⟩
  have m7p : MemG h8' M W (ws.set 0 1) lg := ⟨(old7 M (by omega) (by omega) (by omega) (by omega)).trans ((st6.old M (by omega)).trans m5.g), m5.o, (old7 W (by omega) (by omega) (by omega) (by omega)).trans ((st6.old W (by omega)).trans m5.w), m5.ne⟩
  refine opt_by (h13 h8' B t ht0 ht1) fun v9 h9' p9 => ?_
  obtain ⟨⟨Q, rfl⟩, st9⟩ := p9
  simp only [go_sem, ↓reduceIte, ↓reduceDIte, zA, zM, zL, zE, zD, yA, yE, yL, yQ, yT, reduceCtorEq]
  refine opt_by (h14 h9' B2 t ht0 ht1) fun v10 h10' p10 => ?_
  obtain ⟨⟨Q2, rfl⟩, st10⟩ := p10
  have st710 := st9.trans st10
  have nx710 := st710.next
  have gX10 := (st710.old (h.next + 1) (by omega)).trans gX7
  simp only [go_sem, ↓reduceIte, ↓reduceDIte, zA, zM, zL, zE, zD, yA, yE, yL, yQ, yT, reduceCtorEq, gX10]
  refine opt_by (h15 h10' B Q c p M W R (ws.set 0 1) lg n th sl o hn (by omega) (by omega) (hbB h10' (sB7.trans (st710.x _ _))) po (by omega) (by omega) (by omega) (m7p.step (by omega) (by omega) st710) (by omega) (by omega) (zero_own hz hn (by omega)) ou) fun v11 h11' p11 => ?_
  obtain ⟨st11, r11⟩ := p11
  have nx11 := st11.next
  have gX11 := (st11.old (h.next + 1) (by omega)).trans gX10
  have st711 := st710.trans st11
  have fin16 := h16 h11' B2 Q2 c p2 M2 W2 R2 (ws2.set 0 1) lg2 n th sl o hn (by omega) (hbR7.step st711) po2 (by omega) (by omega) (m7.step (by omega) (by omega) st711) (by omega) (by omega) (zero_own hz2 hn (by omega)) ou
  rcases r11 with ⟨e0, D, rfl, hD⟩ | ⟨e0, rfl⟩
  · simp only [go_sem, ↓reduceIte, ↓reduceDIte, zA, zM, zL, zE, zD, yA, yE, yL, yQ, yT, reduceCtorEq, gX11]
    refine opt_by fin16 fun v12 h12' p12 => ?_
    obtain ⟨st12, r12⟩ := p12
    rcases r12 with ⟨f0, D2, rfl, hD2⟩ | ⟨f0, rfl⟩
    · simp only [go_sem, ↓reduceIte, ↓reduceDIte, zA, zM, zL, zE, zD, yA, yE, yL, yQ, yT, reduceCtorEq, eqB P u4, beq_self_eq_true, e0, f0]
      refine opt_by (h17.2 h12' D (hD.step st12)) fun v13 h13' p13 => ?_
      obtain ⟨rfl, st13⟩ := p13
      simp only [go_sem, ↓reduceIte, ↓reduceDIte, zA, zM, zL, zE, zD, yA, yE, yL, yQ, yT, reduceCtorEq]
      refine opt_by (h18.2 h13' D2 (hD2.step st13)) fun v14 h14' p14 => ?_
      subst p14
      simp only [go_sem, ↓reduceIte, ↓reduceDIte, zA, zM, zL, zE, zD, yA, yE, yL, yQ, yT, reduceCtorEq]
    · exact absurd e0 f0
  · simp only [go_sem, ↓reduceIte, ↓reduceDIte, zA, zM, zL, zE, zD, yA, yE, yL, yQ, yT, reduceCtorEq, gX11]
    refine opt_by fin16 fun v12 h12' p12 => ?_
    obtain ⟨st12, r12⟩ := p12
    rcases r12 with ⟨f0, D2, rfl, hD2⟩ | ⟨f0, rfl⟩
    · exact absurd f0 e0
    · have k17 := h17.1 h12'
      simp only [go_sem, ↓reduceIte, ↓reduceDIte, zA, zM, zL, zE, zD, yA, yE, yL, yQ, yT, reduceCtorEq, eqB P u4, beq_self_eq_true, k17]
      refine opt_by (h18.1 h12') fun v13 h13' p13 => ?_
      subst p13
      simp only [go_sem, ↓reduceIte, ↓reduceDIte, zA, zM, zL, zE, zD, yA, yE, yL, yQ, yT, reduceCtorEq]
end
end Go.Proofs.YtldmhpdjlgoenaaGreatDoor.BN
