/-
  Decode of the reference: the numbers in front, the cuts.
-/
import Derived.Test.YtnmlfhogolonoaaSoRh
set_option linter.unusedVariables false
set_option linter.unusedSimpArgs false
namespace Go.Proofs.Ytnmlfhogolonoaa
open Go.Proofs.Ytnmlfhogolonoaa.Eo
open Nat renaming reduceAdd → zA, reduceMul → zM, reduceLT → zL, reduceEqDiff → zE, reduceLeDiff → zD
open Int renaming reduceAdd → yA, reduceLE → yE, reduceLT → yL, reduceEq → yQ, reduceToNat → yT
noncomputable section
/-! 23: leapfrog/leapfrogref43.Decode -/
@[go_sem] def c23_s0 : List SQ := [⟨some 2, none, .n (.new 31 [.int .i64 0, .int .i64 0, .int .u8 0, .int .i64 0, .int .u8 0, .int .i64 0, .nils, .int .i64 0, .int .i64 0, .int .i64 0, .int .i64 0, .int .i64 0, .int .i64 0, .int .i64 0, .int .i64 0, .int .i64 0, .nils, .nils])⟩, ⟨some 3, none, .p (.mv (.c (.int .i64 0)))⟩]
@[go_sem] def c23_s1 : List SQ := [⟨some 22, none, .p (.mv (.t 0))⟩, ⟨some 23, none, .p (.lens (.t 22))⟩, ⟨some 24, none, .p (.bin .gtr 3 false true (.t 23) (.c (.int .i64 65536)))⟩]
@[go_sem] def c23_s2 : List SQ := [⟨some 25, none, .p (.build [.int .i64 0, .int .i64 0, .int .u8 0, .int .i64 0, .int .u8 0, .int .i64 0, .nils, .int .i64 0, .int .i64 0, .int .i64 0, .int .i64 0, .int .i64 0, .int .i64 0, .int .i64 0, .int .i64 0, .int .i64 0, .nils, .nils] [])⟩, ⟨none, none, .e (.st 18 (.t 2) (.t 25))⟩, ⟨some 3, none, .p (.mv (.c (.int .i64 5)))⟩]
@[go_sem] def c23_s3 : List SQ := [⟨some 26, none, .p (.mv (.t 0))⟩, ⟨some 27, none, .p (.build [.str ⟨#[]⟩, .bool false] [(0, 1, (.t 26))])⟩, ⟨some 28, none, .n (.box 89 (.t 27))⟩, ⟨some 4, none, .p (.mv (.t 28))⟩]
@[go_sem] def c23_s4 : List SQ := [⟨some 5, none, .n (.new 31 [.int .i64 0, .int .i64 0, .int .u8 0, .int .i64 0, .int .u8 0, .int .i64 0, .nils, .int .i64 0, .int .i64 0, .int .i64 0, .int .i64 0, .int .i64 0, .int .i64 0, .int .i64 0, .int .i64 0, .int .i64 0, .nils, .nils])⟩]
@[go_sem] def c23_s5 : List SQ := [⟨some 29, none, .p (.fadr 0 (.t 5))⟩, ⟨some 6, none, .p (.mv (.t 29))⟩]
@[go_sem] def c23_s6 : List SQ := [⟨some 30, none, .p (.mv (.t 6))⟩, ⟨some 31, none, .p (.mv (.t 6))⟩, ⟨some 32, none, .p (.mv (.t 6))⟩, ⟨some 33, none, .p (.mv (.t 6))⟩, ⟨some 34, none, .p (.mv (.t 4))⟩, ⟨some 35, none, .cv (.c (.fn (.func 50) [] [])) [(.t 34), (.c (.int .i64 64))]⟩, ⟨some 36, none, .p (.mv (.t 4))⟩, ⟨some 37, none, .cv (.c (.fn (.func 50) [] [])) [(.t 36), (.c (.int .i64 64))]⟩, ⟨some 38, none, .p (.mv (.t 4))⟩, ⟨some 39, none, .cv (.c (.fn (.func 50) [] [])) [(.t 38), (.c (.int .i64 3))]⟩, ⟨some 40, none, .p (.conv .u8 (.t 39))⟩, ⟨some 41, none, .p (.mv (.t 4))⟩, ⟨some 42, none, .cv (.c (.fn (.func 50) [] [])) [(.t 41), (.c (.int .i64 16))]⟩, ⟨some 43, none, .p (.nilck (.t 30))⟩, ⟨some 44, none, .p (.fadr 0 (.t 43))⟩, ⟨none, none, .e (.st 1 (.t 44) (.t 35))⟩, ⟨some 45, none, .p (.nilck (.t 31))⟩, ⟨some 46, none, .p (.fadr 1 (.t 45))⟩, ⟨none, none, .e (.st 1 (.t 46) (.t 37))⟩, ⟨some 47, none, .p (.nilck (.t 32))⟩, ⟨some 48, none, .p (.fadr 2 (.t 47))⟩, ⟨none, none, .e (.st 1 (.t 48) (.t 40))⟩, ⟨some 49, none, .p (.nilck (.t 33))⟩, ⟨some 50, none, .p (.fadr 3 (.t 49))⟩, ⟨none, none, .e (.st 1 (.t 50) (.t 42))⟩]
@[go_sem] def c23_s7 : List SQ := [⟨some 51, none, .p (.mv (.t 6))⟩, ⟨some 52, none, .p (.mv (.t 6))⟩, ⟨some 53, none, .p (.mv (.t 6))⟩, ⟨some 54, none, .p (.mv (.t 4))⟩, ⟨some 55, none, .cv (.c (.fn (.func 50) [] [])) [(.t 54), (.c (.int .i64 16))]⟩, ⟨some 56, none, .p (.mv (.t 4))⟩, ⟨some 57, none, .cv (.c (.fn (.func 50) [] [])) [(.t 56), (.c (.int .i64 255))]⟩, ⟨some 58, none, .p (.mv (.t 4))⟩, ⟨some 59, none, .cv (.c (.fn (.func 50) [] [])) [(.t 58), (.c (.int .i64 64))]⟩, ⟨some 60, none, .p (.nilck (.t 51))⟩, ⟨some 61, none, .p (.fadr 13 (.t 60))⟩, ⟨none, none, .e (.st 1 (.t 61) (.t 55))⟩, ⟨some 62, none, .p (.nilck (.t 52))⟩, ⟨some 63, none, .p (.fadr 14 (.t 62))⟩, ⟨none, none, .e (.st 1 (.t 63) (.t 57))⟩, ⟨some 64, none, .p (.nilck (.t 53))⟩, ⟨some 65, none, .p (.fadr 15 (.t 64))⟩, ⟨none, none, .e (.st 1 (.t 65) (.t 59))⟩]
@[go_sem] def c23_s8 : List SQ := [⟨some 7, none, .p (.mv (.c (.int .i64 0)))⟩]
@[go_sem] def c23_s9 : List SQ := [⟨some 66, none, .p (.mv (.t 7))⟩, ⟨some 67, none, .p (.bin .lss 3 false true (.t 66) (.c (.int .i64 6)))⟩]
@[go_sem] def c23_p10 : List (List DQ × Option DQ) := [([⟨0, [(6, none)], none, .p (.mv (.t 6))⟩, ⟨1, [(7, none)], none, .p (.mv (.t 7))⟩, ⟨2, [(4, none)], none, .p (.mv (.t 4))⟩, ⟨4, [(70, (some 0))], none, .p (.nilck (.t 70))⟩, ⟨5, [(74, (some 4))], none, .p (.fadr 7 (.t 74))⟩], (some ⟨3, [(72, (some 2))], none, .cv (.c (.fn (.func 50) [] [])) [(.t 72), (.c (.int .i64 1024))]⟩)), ([⟨6, [(75, (some 5)), (71, (some 1))], none, .p (.iadrA 6 1 (.t 75) (.t 71))⟩], (some ⟨7, [(76, (some 6)), (73, (some 3))], none, .e (.st 1 (.t 76) (.t 73))⟩)), ([], none)]
@[go_sem] def c23_s11 : List SQ := [⟨some 68, none, .p (.mv (.t 7))⟩, ⟨some 69, none, .p (.bin .add 3 false true (.t 68) (.c (.int .i64 1)))⟩, ⟨some 7, none, .p (.mv (.t 69))⟩]
def c23_l12 : CC := (.seq (.seq (.ops c23_s9) (.cond (.t 67) .skip (.exit 0))) (.seq (.block 1 (.drw ⟨c23_p10, [(0, 70), (1, 71), (2, 72), (3, 73), (4, 74), (5, 75), (6, 76)], []⟩)) (.ops c23_s11)))
@[go_sem] def c23_s13 : List SQ := [⟨some 77, none, .p (.mv (.t 6))⟩, ⟨some 78, none, .p (.mv (.t 4))⟩, ⟨some 79, none, .cv (.c (.fn (.func 50) [] [])) [(.t 78), (.c (.int .i64 3))]⟩, ⟨some 80, none, .p (.conv .u8 (.t 79))⟩, ⟨some 81, none, .p (.nilck (.t 77))⟩, ⟨some 82, none, .p (.fadr 4 (.t 81))⟩, ⟨some 83, none, .p (.fadr 0 (.t 82))⟩, ⟨none, none, .e (.st 1 (.t 83) (.t 80))⟩]
@[go_sem] def c23_s14 : List SQ := [⟨some 84, none, .p (.mv (.t 6))⟩, ⟨some 85, none, .p (.nilck (.t 84))⟩, ⟨some 86, none, .p (.fadr 4 (.t 85))⟩, ⟨some 87, none, .p (.fadr 0 (.t 86))⟩, ⟨some 88, none, .r (.ld none (.t 87))⟩, ⟨some 89, none, .p (.bin .eql 5 false true (.t 88) (.c (.int .u8 2)))⟩]
@[go_sem] def c23_s15 : List SQ := [⟨some 90, none, .p (.mv (.t 6))⟩, ⟨some 91, none, .p (.mv (.t 4))⟩, ⟨some 92, none, .cv (.c (.fn (.func 50) [] [])) [(.t 91), (.c (.int .i64 64))]⟩, ⟨some 93, none, .p (.nilck (.t 90))⟩, ⟨some 94, none, .p (.fadr 4 (.t 93))⟩, ⟨some 95, none, .p (.fadr 1 (.t 94))⟩, ⟨none, none, .e (.st 1 (.t 95) (.t 92))⟩]
@[go_sem] def c23_s16 : List SQ := [⟨some 96, none, .p (.mv (.t 6))⟩, ⟨some 97, none, .p (.nilck (.t 96))⟩, ⟨some 98, none, .p (.fadr 4 (.t 97))⟩, ⟨some 99, none, .p (.fadr 0 (.t 98))⟩, ⟨some 100, none, .r (.ld none (.t 99))⟩, ⟨some 101, none, .p (.bin .eql 5 false true (.t 100) (.c (.int .u8 3)))⟩]
@[go_sem] def c23_s17 : List SQ := [⟨some 102, none, .p (.mv (.t 4))⟩, ⟨some 103, none, .cv (.c (.fn (.func 50) [] [])) [(.t 102), (.c (.int .i64 63))]⟩, ⟨some 8, none, .p (.mv (.t 103))⟩]
@[go_sem] def c23_s18 : List SQ := [⟨some 9, none, .p (.mv (.c (.int .u64 0)))⟩]
@[go_sem] def c23_s19 : List SQ := [⟨some 10, none, .p (.mv (.c (.int .i64 0)))⟩]
@[go_sem] def c23_s20 : List SQ := [⟨some 104, none, .p (.mv (.t 10))⟩, ⟨some 105, none, .p (.mv (.t 8))⟩, ⟨some 106, none, .p (.bin .lss 3 false false (.t 104) (.t 105))⟩, ⟨some 107, none, .p (.mv (.t 106))⟩, ⟨some 108, some (107, true), .p (.mv (.t 4))⟩, ⟨some 109, some (107, true), .p (.nilck (.t 108))⟩, ⟨some 110, some (107, true), .p (.fadr 1 (.t 109))⟩, ⟨some 111, some (107, true), .r (.ld none (.t 110))⟩, ⟨some 112, some (107, true), .p (.un .not (.t 111))⟩, ⟨some 113, none, .p (.pick (.t 107) (.t 112) (.c (.bool false)))⟩]
@[go_sem] def c23_s21 : List SQ := [⟨some 116, none, .p (.mv (.t 9))⟩, ⟨some 117, none, .p (.mv (.t 4))⟩, ⟨some 118, none, .cv (.c (.fn (.func 51) [] [])) [(.t 117), (.c (.int .u64 18446744073709551615))]⟩, ⟨some 119, none, .p (.bin .add 43 false false (.t 116) (.t 118))⟩, ⟨some 9, none, .p (.mv (.t 119))⟩]
@[go_sem] def c23_s22 : List SQ := [⟨some 120, none, .p (.mv (.t 6))⟩, ⟨some 121, none, .p (.mv (.t 6))⟩, ⟨some 122, none, .p (.nilck (.t 121))⟩, ⟨some 123, none, .p (.fadr 4 (.t 122))⟩, ⟨some 124, none, .p (.fadr 2 (.t 123))⟩, ⟨some 125, none, .r (.ld none (.t 124))⟩, ⟨some 126, none, .p (.mv (.t 9))⟩, ⟨some 127, none, .n (.buildS 43 1 1 [.int .u64 0] [(0, 1, (.t 126))])⟩, ⟨some 128, none, .e (.app 43 1 8 (.t 125) (.t 127))⟩, ⟨some 129, none, .p (.nilck (.t 120))⟩, ⟨some 130, none, .p (.fadr 4 (.t 129))⟩, ⟨some 131, none, .p (.fadr 2 (.t 130))⟩, ⟨none, none, .e (.st 1 (.t 131) (.t 128))⟩]
@[go_sem] def c23_s23 : List SQ := [⟨some 114, none, .p (.mv (.t 10))⟩, ⟨some 115, none, .p (.bin .add 3 false true (.t 114) (.c (.int .i64 1)))⟩, ⟨some 10, none, .p (.mv (.t 115))⟩]
def c23_l24 : CC := (.seq (.seq (.ops c23_s20) (.cond (.t 113) .skip (.exit 2))) (.seq (.block 3 (.seq (.ops c23_s21) (.ops c23_s22))) (.ops c23_s23)))
@[go_sem] def c23_s25 : List SQ := [⟨some 11, none, .p (.mv (.c (.int .i64 0)))⟩]
@[go_sem] def c23_s26 : List SQ := [⟨some 132, none, .p (.mv (.t 11))⟩, ⟨some 133, none, .p (.mv (.t 6))⟩, ⟨some 134, none, .p (.nilck (.t 133))⟩, ⟨some 135, none, .p (.fadr 0 (.t 134))⟩, ⟨some 136, none, .r (.ld none (.t 135))⟩, ⟨some 137, none, .p (.bin .lss 3 false false (.t 132) (.t 136))⟩, ⟨some 138, none, .p (.mv (.t 137))⟩, ⟨some 139, some (138, true), .p (.mv (.t 4))⟩, ⟨some 140, some (138, true), .p (.nilck (.t 139))⟩, ⟨some 141, some (138, true), .p (.fadr 1 (.t 140))⟩, ⟨some 142, some (138, true), .r (.ld none (.t 141))⟩, ⟨some 143, some (138, true), .p (.un .not (.t 142))⟩, ⟨some 144, none, .p (.pick (.t 138) (.t 143) (.c (.bool false)))⟩]
@[go_sem] def c23_s27 : List SQ := [⟨some 12, none, .p (.mv (.c .nils))⟩]
@[go_sem] def c23_s28 : List SQ := [⟨some 147, none, .p (.mv (.t 4))⟩, ⟨some 148, none, .cv (.c (.fn (.func 50) [] [])) [(.t 147), (.c (.int .i64 256))]⟩, ⟨some 13, none, .p (.mv (.t 148))⟩]
@[go_sem] def c23_s29 : List SQ := [⟨some 14, none, .p (.mv (.c (.int .i64 0)))⟩]
@[go_sem] def c23_s30 : List SQ := [⟨some 149, none, .p (.mv (.t 14))⟩, ⟨some 150, none, .p (.mv (.t 13))⟩, ⟨some 151, none, .p (.bin .lss 3 false false (.t 149) (.t 150))⟩, ⟨some 152, none, .p (.mv (.t 151))⟩, ⟨some 153, some (152, true), .p (.mv (.t 4))⟩, ⟨some 154, some (152, true), .p (.nilck (.t 153))⟩, ⟨some 155, some (152, true), .p (.fadr 1 (.t 154))⟩, ⟨some 156, some (152, true), .r (.ld none (.t 155))⟩, ⟨some 157, some (152, true), .p (.un .not (.t 156))⟩, ⟨some 158, none, .p (.pick (.t 152) (.t 157) (.c (.bool false)))⟩]
@[go_sem] def c23_s31 : List SQ := [⟨some 161, none, .p (.mv (.t 12))⟩, ⟨some 162, none, .p (.mv (.t 4))⟩, ⟨some 163, none, .cv (.c (.fn (.func 52) [] [])) [(.t 162)]⟩, ⟨some 164, none, .n (.buildS 45 7 1 [.int .u8 0, .int .u64 0, .int .u64 0, .int .u64 0, .int .u64 0, .int .u64 0, .int .u64 0] [(0, 7, (.t 163))])⟩, ⟨some 165, none, .e (.app 45 7 56 (.t 161) (.t 164))⟩, ⟨some 12, none, .p (.mv (.t 165))⟩]
@[go_sem] def c23_s32 : List SQ := [⟨some 159, none, .p (.mv (.t 14))⟩, ⟨some 160, none, .p (.bin .add 3 false true (.t 159) (.c (.int .i64 1)))⟩, ⟨some 14, none, .p (.mv (.t 160))⟩]
def c23_l33 : CC := (.seq (.seq (.ops c23_s30) (.cond (.t 158) .skip (.exit 6))) (.seq (.block 7 (.ops c23_s31)) (.ops c23_s32)))
@[go_sem] def c23_s34 : List SQ := [⟨some 166, none, .p (.fadr 16 (.t 5))⟩, ⟨some 167, none, .r (.ld none (.t 166))⟩, ⟨some 168, none, .p (.mv (.t 12))⟩, ⟨some 169, none, .n (.buildS 42 1 1 [.nils] [(0, 1, (.t 168))])⟩, ⟨some 170, none, .e (.app 42 1 24 (.t 167) (.t 169))⟩, ⟨some 171, none, .p (.fadr 16 (.t 5))⟩, ⟨none, none, .e (.st 1 (.t 171) (.t 170))⟩]
@[go_sem] def c23_s35 : List SQ := [⟨some 145, none, .p (.mv (.t 11))⟩, ⟨some 146, none, .p (.bin .add 3 false true (.t 145) (.c (.int .i64 1)))⟩, ⟨some 11, none, .p (.mv (.t 146))⟩]
def c23_l36 : CC := (.seq (.seq (.ops c23_s26) (.cond (.t 144) .skip (.exit 4))) (.seq (.block 5 (.seq (.ops c23_s27) (.seq (.ops c23_s28) (.seq (.seq (.ops c23_s29) (.block 6 (.loop c23_l33))) (.ops c23_s34))))) (.ops c23_s35)))
@[go_sem] def c23_s37 : List SQ := [⟨some 172, none, .p (.mv (.t 4))⟩, ⟨some 173, none, .cv (.c (.fn (.func 50) [] [])) [(.t 172), (.c (.int .i64 65536))]⟩, ⟨some 15, none, .p (.mv (.t 173))⟩]
@[go_sem] def c23_s38 : List SQ := [⟨some 16, none, .p (.mv (.c (.int .i64 0)))⟩]
@[go_sem] def c23_s39 : List SQ := [⟨some 174, none, .p (.mv (.t 16))⟩, ⟨some 175, none, .p (.mv (.t 15))⟩, ⟨some 176, none, .p (.bin .lss 3 false false (.t 174) (.t 175))⟩, ⟨some 177, none, .p (.mv (.t 176))⟩, ⟨some 178, some (177, true), .p (.mv (.t 4))⟩, ⟨some 179, some (177, true), .p (.nilck (.t 178))⟩, ⟨some 180, some (177, true), .p (.fadr 1 (.t 179))⟩, ⟨some 181, some (177, true), .r (.ld none (.t 180))⟩, ⟨some 182, some (177, true), .p (.un .not (.t 181))⟩, ⟨some 183, none, .p (.pick (.t 177) (.t 182) (.c (.bool false)))⟩]
@[go_sem] def c23_s40 : List SQ := [⟨some 186, none, .p (.mv (.t 4))⟩, ⟨some 187, none, .cv (.c (.fn (.func 50) [] [])) [(.t 186), (.c (.int .i64 64))]⟩, ⟨some 17, none, .p (.mv (.t 187))⟩]
@[go_sem] def c23_s41 : List SQ := [⟨some 188, none, .p (.mv (.t 4))⟩, ⟨some 189, none, .p (.fadr 17 (.t 5))⟩, ⟨some 190, none, .r (.ld none (.t 189))⟩, ⟨some 191, none, .p (.lenv (.t 190))⟩, ⟨some 192, none, .p (.bin .sub 3 true false (.c (.int .i64 65536)) (.t 191))⟩, ⟨some 193, none, .cv (.c (.fn (.func 50) [] [])) [(.t 188), (.t 192)]⟩, ⟨some 18, none, .p (.mv (.t 193))⟩]
@[go_sem] def c23_s42 : List SQ := [⟨some 19, none, .p (.mv (.c (.int .i64 0)))⟩]
@[go_sem] def c23_s43 : List SQ := [⟨some 194, none, .p (.mv (.t 19))⟩, ⟨some 195, none, .p (.mv (.t 18))⟩, ⟨some 196, none, .p (.bin .lss 3 false false (.t 194) (.t 195))⟩]
@[go_sem] def c23_s44 : List SQ := [⟨some 199, none, .p (.fadr 17 (.t 5))⟩, ⟨some 200, none, .r (.ld none (.t 199))⟩, ⟨some 201, none, .p (.mv (.t 17))⟩, ⟨some 202, none, .n (.buildS 3 1 1 [.int .i64 0] [(0, 1, (.t 201))])⟩, ⟨some 203, none, .e (.app 3 1 8 (.t 200) (.t 202))⟩, ⟨some 204, none, .p (.fadr 17 (.t 5))⟩, ⟨none, none, .e (.st 1 (.t 204) (.t 203))⟩]
@[go_sem] def c23_s45 : List SQ := [⟨some 197, none, .p (.mv (.t 19))⟩, ⟨some 198, none, .p (.bin .add 3 false true (.t 197) (.c (.int .i64 1)))⟩, ⟨some 19, none, .p (.mv (.t 198))⟩]
def c23_l46 : CC := (.seq (.seq (.ops c23_s43) (.cond (.t 196) .skip (.exit 10))) (.seq (.block 11 (.ops c23_s44)) (.ops c23_s45)))
@[go_sem] def c23_s47 : List SQ := [⟨some 184, none, .p (.mv (.t 16))⟩, ⟨some 185, none, .p (.bin .add 3 false true (.t 184) (.c (.int .i64 1)))⟩, ⟨some 16, none, .p (.mv (.t 185))⟩]
def c23_l48 : CC := (.seq (.seq (.ops c23_s39) (.cond (.t 183) .skip (.exit 8))) (.seq (.block 9 (.seq (.ops c23_s40) (.seq (.ops c23_s41) (.seq (.ops c23_s42) (.block 10 (.loop c23_l46)))))) (.ops c23_s47)))
@[go_sem] def c23_s49 : List SQ := [⟨some 206, none, .r (.ld (some 18) (.t 5))⟩, ⟨some 207, none, .cv (.c (.fn (.func 14) [] [])) [(.t 206)]⟩, ⟨some 205, none, .p (.mv (.t 207))⟩, ⟨some 208, none, .p (.extr (.t 205) 0)⟩, ⟨some 209, none, .p (.extr (.t 205) 1)⟩, ⟨some 20, none, .p (.mv (.t 208))⟩, ⟨some 21, none, .p (.mv (.t 209))⟩]
@[go_sem] def c23_s50 : List SQ := [⟨some 210, none, .p (.mv (.t 4))⟩, ⟨some 211, none, .p (.nilck (.t 210))⟩, ⟨some 212, none, .p (.fadr 1 (.t 211))⟩, ⟨some 213, none, .r (.ld none (.t 212))⟩, ⟨some 214, none, .p (.mv (.t 213))⟩, ⟨some 215, some (214, false), .p (.mv (.t 21))⟩, ⟨some 216, some (214, false), .p (.bin .neq 35 false true (.t 215) (.c (.int .i64 0)))⟩, ⟨some 217, none, .p (.pick (.t 214) (.c (.bool true)) (.t 216))⟩, ⟨some 218, none, .p (.mv (.t 217))⟩, ⟨some 219, some (218, false), .p (.mv (.t 20))⟩, ⟨some 220, some (218, false), .p (.mv (.t 0))⟩, ⟨some 221, some (218, false), .p (.bin .neq 9 false false (.t 219) (.t 220))⟩, ⟨some 222, none, .p (.pick (.t 218) (.c (.bool true)) (.t 221))⟩]
@[go_sem] def c23_s51 : List SQ := [⟨some 223, none, .p (.build [.int .i64 0, .int .i64 0, .int .u8 0, .int .i64 0, .int .u8 0, .int .i64 0, .nils, .int .i64 0, .int .i64 0, .int .i64 0, .int .i64 0, .int .i64 0, .int .i64 0, .int .i64 0, .int .i64 0, .int .i64 0, .nils, .nils] [])⟩, ⟨none, none, .e (.st 18 (.t 2) (.t 223))⟩, ⟨some 3, none, .p (.mv (.c (.int .i64 4)))⟩]
@[go_sem] def c23_s52 : List SQ := [⟨some 224, none, .r (.ld (some 18) (.t 5))⟩, ⟨none, none, .e (.st 18 (.t 2) (.t 224))⟩, ⟨some 3, none, .p (.mv (.c (.int .i64 0)))⟩]
@[go_sem] def c23 : CF := ⟨1, (.seq (.ops c23_s0) (.seq (.seq (.ops c23_s1) (.cond (.t 24) (.seq (.ops c23_s2) .ret) .skip)) (.seq (.ops c23_s3) (.seq (.ops c23_s4) (.seq (.ops c23_s5) (.seq (.ops c23_s6) (.seq (.ops c23_s7) (.seq (.seq (.ops c23_s8) (.block 0 (.loop c23_l12))) (.seq (.ops c23_s13) (.seq (.seq (.ops c23_s14) (.cond (.t 89) (.ops c23_s15) .skip)) (.seq (.seq (.ops c23_s16) (.cond (.t 101) (.seq (.ops c23_s17) (.seq (.ops c23_s18) (.seq (.ops c23_s19) (.block 2 (.loop c23_l24))))) .skip)) (.seq (.seq (.ops c23_s25) (.block 4 (.loop c23_l36))) (.seq (.ops c23_s37) (.seq (.seq (.ops c23_s38) (.block 8 (.loop c23_l48))) (.seq (.ops c23_s49) (.seq (.seq (.ops c23_s50) (.cond (.t 222) (.seq (.ops c23_s51) .ret) .skip)) (.seq (.ops c23_s52) .ret))))))))))))))))), [(.cell 2 (some 18)), .tmp 3]⟩
theorem c23_eq : cCF Try.prog 23 1 = some c23 := by kernel_rfl

/-- the numbers in front -/
def headT (s : RdT) : CfgT × RdT :=
  let x1 := numT 64 s
  let x2 := numT 64 x1.2
  let x3 := numT 3 x2.2
  let x4 := numT 16 x3.2
  let x5 := numT 16 x4.2
  let x6 := numT 255 x5.2
  let x7 := numT 64 x6.2
  let y0 := numT 1024 x7.2
  let y1 := numT 1024 y0.2
  let y2 := numT 1024 y1.2
  let y3 := numT 1024 y2.2
  let y4 := numT 1024 y3.2
  let y5 := numT 1024 y4.2
  let x8 := numT 3 y5.2
  (⟨x1.1, x2.1, x3.1, x4.1, x8.1, 0, [], y0.1, y1.1, y2.1, y3.1, y4.1, y5.1, x5.1, x6.1, x7.1⟩, x8.2)
/-- the cuts: they end at a fault -/
def cutsT : Nat → Int → RdT → List Int × RdT
  | 0, _, s => ([], s)
  | n + 1, b, s => if s.2 = true then ([], s) else (fw .u64 (b + (numT mxU s).1) :: (cutsT n (fw .u64 (b + (numT mxU s).1)) (numT mxU s).2).1, (cutsT n (fw .u64 (b + (numT mxU s).1)) (numT mxU s).2).2)
def cfgY (x : CfgT × RdT) : CfgT × RdT :=
  if x.1.kind = 2 then ({ x.1 with n := (numT 64 x.2).1 }, (numT 64 x.2).2)
  else if x.1.kind = 3 then ({ x.1 with cuts := (cutsT (numT 63 x.2).1.toNat 0 (numT 63 x.2).2).1 }, (cutsT (numT 63 x.2).1.toNat 0 (numT 63 x.2).2).2)
  else x
def opsT : Nat → RdT → List OpT × RdT
  | 0, s => ([], s)
  | n + 1, s => if s.2 = true then ([], s) else ((opT s).1 :: (opsT n (opT s).2).1, (opsT n (opT s).2).2)
def prT (s : RdT) : List OpT × RdT := opsT (numT 256 s).1.toNat (numT 256 s).2
def progsT : Nat → RdT → List (List OpT) × RdT
  | 0, s => ([], s)
  | n + 1, s => if s.2 = true then ([], s) else ((prT s).1 :: (progsT n (prT s).2).1, (progsT n (prT s).2).2)
def runsT : Nat → RdT → List Int → List Int × RdT
  | 0, s, ks => (ks, s)
  | n + 1, s, ks => if s.2 = true then (ks, s) else runsT n (numT (65536 - (ks.length : Int)) (numT 64 s).2).2 (ks ++ List.replicate (numT (65536 - (ks.length : Int)) (numT 64 s).2).1.toNat (numT 64 s).1)
def anyY (x : CfgT × RdT) : AnyT :=
  let p := progsT x.1.threads.toNat x.2
  let n := numT 65536 p.2
  let k := runsT n.1.toNat n.2 []
  ⟨x.1, p.1, k.1, k.2⟩
def anyT (s : RdT) : AnyT := anyY (cfgY (headT s))
/-- the slots that are used throughout -/
structure At23 (s0 : ByteArray) (R a X : Nat) (tm : T AV) : Prop where
  t0 : tm.get 0 = some (.str s0)
  t2 : tm.get 2 = some (.ptr R 0)
  t4 : tm.get 4 = some (.ptr a 0)
  t5 : tm.get 5 = some (.ptr X 0)
  t6 : tm.get 6 = some (.ptr X 0)
/-- behind the numbers in front -/
structure HdT (s0 : ByteArray) (n0 : Nat) (g0 : Nat → Option AO) (x : CfgT × RdT) (tm : T AV) (h : H) : Prop where
  at' : At23 s0 n0 (n0 + 1) (n0 + 2) tm
  next : h.next = n0 + 3
  ha : h.t.get (n0 + 1) = some (tpA x.2)
  hR : h.t.get n0 = some (rowL zc 31)
  hX : h.t.get (n0 + 2) = some (rowL (cfgC x.1 .nils ++ [.nils, .nils]) 31)
  old : ∀ b, b < n0 → h.t.get b = g0 b
def head23 (X : CC) : CC := .seq (.ops c23_s0) (.seq (.seq (.ops c23_s1) (.cond (.t 24) (.seq (.ops c23_s2) .ret) .skip)) (.seq (.ops c23_s3) (.seq (.ops c23_s4) (.seq (.ops c23_s5) (.seq (.ops c23_s6) (.seq (.ops c23_s7) (.seq (.seq (.ops c23_s8) (.block 0 (.loop c23_l12))) (.seq (.ops c23_s13) X))))))))
set_option maxHeartbeats 1000000 in
set_option maxRecDepth 8000 in
theorem head23_w (P : Program) {call : CallE} (h50 : F50 call) {h : H} {s : ByteArray} (hs : s.size ≤ 65536) {X : CC} {Q : Cont}
    (hX : ∀ tm' h', HdT s h.next h.t.get (headT (s, false)) tm' h' → WC P call X Q tm' h') : WC P call (head23 X) Q (putList 0 [.str s] T.e) h := by
  have e1 : ¬ (65536 : Int) < (s.size : Int) := by omega
  simp only [go_sem, ↓reduceIte, ↓reduceDIte, zA, zM, zL, zE, zD, yA, yE, yL, yQ, yT, reduceCtorEq, head23, e1]
  refine opt50 h50 (s := (s, false)) (by simp only [go_sem, ↓reduceIte, ↓reduceDIte, zA, zM, zL, zE, zD, yA, yE, yL, yQ, yT, reduceCtorEq]; rfl) (by dsimp only; omega) (by decide) (by decide) fun v1 s1 q1 l1 u1 z1 r1 => ?_
  simp only [go_sem, ↓reduceIte, ↓reduceDIte, zA, zM, zL, zE, zD, yA, yE, yL, yQ, yT, reduceCtorEq]
  refine opt50 h50 (s := s1) (by simp [go_sem]) (by omega) (by decide) (by decide) fun v2 s2 q2 l2 u2 z2 r2 => ?_
  simp only [go_sem, ↓reduceIte, ↓reduceDIte, zA, zM, zL, zE, zD, yA, yE, yL, yQ, yT, reduceCtorEq]
  refine opt50 h50 (s := s2) (by simp [go_sem]) (by omega) (by decide) (by decide) fun v3 s3 q3 l3 u3 z3 r3 => ?_
  have fb : fw .u8 v3 = v3 := fwB (by omega) (by omega)
  simp only [go_sem, ↓reduceIte, ↓reduceDIte, zA, zM, zL, zE, zD, yA, yE, yL, yQ, yT, reduceCtorEq, fb]
  refine opt50 h50 (s := s3) (by simp [go_sem]) (by omega) (by decide) (by decide) fun v4 s4 q4 l4 u4 z4 r4 => ?_
  simp only [go_sem, ↓reduceIte, ↓reduceDIte, zA, zM, zL, zE, zD, yA, yE, yL, yQ, yT, reduceCtorEq, fb]
  refine opt50 h50 (s := s4) (by simp [go_sem]) (by omega) (by decide) (by decide) fun v5 s5 q5 l5 u5 z5 r5 => ?_
  simp only [go_sem, ↓reduceIte, ↓reduceDIte, zA, zM, zL, zE, zD, yA, yE, yL, yQ, yT, reduceCtorEq, fb]
  refine opt50 h50 (s := s5) (by simp [go_sem]) (by omega) (by decide) (by decide) fun v6 s6 q6 l6 u6 z6 r6 => ?_
  simp only [go_sem, ↓reduceIte, ↓reduceDIte, zA, zM, zL, zE, zD, yA, yE, yL, yQ, yT, reduceCtorEq, fb]
  refine opt50 h50 (s := s6) (by simp [go_sem]) (by omega) (by decide) (by decide) fun v7 s7 q7 l7 u7 z7 r7 => ?_
  simp only [go_sem, ↓reduceIte, ↓reduceDIte, zA, zM, zL, zE, zD, yA, yE, yL, yQ, yT, reduceCtorEq, fb]
  refine unroll 7 ?_
  simp only [go_sem, ↓reduceIte, ↓reduceDIte, zA, zM, zL, zE, zD, yA, yE, yL, yQ, yT, reduceCtorEq, c23_l12, fl1, fl2, fl3, fl4, fl5, fl6]
  refine opt50 h50 (s := s7) (by simp [go_sem]) (by omega) (by decide) (by decide) fun y0 s8 q8 l8 u8 z8 r8 => ?_
  simp only [go_sem, ↓reduceIte, ↓reduceDIte, zA, zM, zL, zE, zD, yA, yE, yL, yQ, yT, reduceCtorEq, fb, c23_l12, fl1, fl2, fl3, fl4, fl5, fl6]
  refine opt50 h50 (s := s8) (by simp [go_sem]) (by omega) (by decide) (by decide) fun y1 s9 q9 l9 u9 z9 r9 => ?_
  simp only [go_sem, ↓reduceIte, ↓reduceDIte, zA, zM, zL, zE, zD, yA, yE, yL, yQ, yT, reduceCtorEq, fb, c23_l12, fl1, fl2, fl3, fl4, fl5, fl6]
  refine opt50 h50 (s := s9) (by simp [go_sem]) (by omega) (by decide) (by decide) fun y2 s10 q10 l10 u10 z10 r10 => ?_
  simp only [go_sem, ↓reduceIte, ↓reduceDIte, zA, zM, zL, zE, zD, yA, yE, yL, yQ, yT, reduceCtorEq, fb, c23_l12, fl1, fl2, fl3, fl4, fl5, fl6]
  refine opt50 h50 (s := s10) (by simp [go_sem]) (by omega) (by decide) (by decide) fun y3 s11 q11 l11 u11 z11 r11 => ?_
  simp only [go_sem, ↓reduceIte, ↓reduceDIte, zA, zM, zL, zE, zD, yA, yE, yL, yQ, yT, reduceCtorEq, fb, c23_l12, fl1, fl2, fl3, fl4, fl5, fl6]
  refine opt50 h50 (s := s11) (by simp [go_sem]) (by omega) (by decide) (by decide) fun y4 s12 q12 l12 u12 z12 r12 => ?_
  simp only [go_sem, ↓reduceIte, ↓reduceDIte, zA, zM, zL, zE, zD, yA, yE, yL, yQ, yT, reduceCtorEq, fb, c23_l12, fl1, fl2, fl3, fl4, fl5, fl6]
  refine opt50 h50 (s := s12) (by simp [go_sem]) (by omega) (by decide) (by decide) fun y5 s13 q13 l13 u13 z13 r13 => ?_
  simp only [go_sem, ↓reduceIte, ↓reduceDIte, zA, zM, zL, zE, zD, yA, yE, yL, yQ, yT, reduceCtorEq, fb, c23_l12, fl1, fl2, fl3, fl4, fl5, fl6]
  refine opt50 h50 (s := s13) (by simp [go_sem]) (by omega) (by decide) (by decide) fun v8 s14 q14 l14 u14 z14 r14 => ?_
  have fb8 : fw .u8 v8 = v8 := fwB (by omega) (by omega)
  simp only [go_sem, ↓reduceIte, ↓reduceDIte, zA, zM, zL, zE, zD, yA, yE, yL, yQ, yT, reduceCtorEq, fb, fb8, c23_l12, fl1, fl2, fl3, fl4, fl5, fl6]
  have e : headT (s, false) = (⟨v1, v2, v3, v4, v8, 0, [], y0, y1, y2, y3, y4, y5, v5, v6, v7⟩, s14) := by
    unfold headT
    simp only [q1, q2, q3, q4, q5, q6, q7, q8, q9, q10, q11, q12, q13, q14]
  have hc : ∀ x, cfgC (headT (s, false)).1 x = [.int .i64 v1, .int .i64 v2, .int .u8 v3, .int .i64 v4, .int .u8 v8, .int .i64 0, x, .int .i64 y0, .int .i64 y1, .int .i64 y2, .int .i64 y3, .int .i64 y4, .int .i64 y5, .int .i64 v5, .int .i64 v6, .int .i64 v7] := fun x => by rw [e]; rfl
  refine hX _ _ ⟨⟨by simp [go_sem], by simp [go_sem], by simp [go_sem], by simp [go_sem], by simp [go_sem]⟩, rfl, ?_, ?_, ?_, fun b h1 => ?_⟩
  · rw [e]
    simp only [go_sem, ↓reduceIte, ↓reduceDIte, zA, zM, zL, zE, zD, yA, yE, yL, yQ, yT, reduceCtorEq]
  · simp only [go_sem, ↓reduceIte, ↓reduceDIte, zA, zM, zL, zE, zD, yA, yE, yL, yQ, yT, reduceCtorEq]
    rfl
  · rw [hc]
    simp only [go_sem, ↓reduceIte, ↓reduceDIte, zA, zM, zL, zE, zD, yA, yE, yL, yQ, yT, reduceCtorEq]
    rfl
  · have e1 : ¬ b = h.next := by omega
    have e2 : ¬ b = h.next + 1 := by omega
    have e3 : ¬ b = h.next + 2 := by omega
    simp only [go_sem, ↓reduceIte, ↓reduceDIte, zA, zM, zL, zE, zD, yA, yE, yL, yQ, yT, reduceCtorEq, e1, e2, e3]
/-- while the cuts are read -/
structure CtB (n0 : Nat) (g0 : Nat → Option AO) (s : RdT) (c : CfgT) (cv : AV) (h : H) : Prop where
  next : n0 + 3 ≤ h.next
  ha : h.t.get (n0 + 1) = some (tpA s)
  hR : h.t.get n0 = some (rowL zc 31)
  hX : h.t.get (n0 + 2) = some (rowL (cfgC c cv ++ [.nils, .nils]) 31)
  oc : Own 1 43 h cv c.cuts.length (c.cuts.map (AV.int .u64))
  ow : ∀ b, own cv = some b → n0 + 3 ≤ b
  old : ∀ b, b < n0 → h.t.get b = g0 b
def I23c (s0' : ByteArray) (n0 : Nat) (g0 : Nat → Option AO) (c : CfgT) (n : Nat) (s0 : RdT) (k : Nat) (tm : T AV) (h : H) : Prop :=
  At23 s0' n0 (n0 + 1) (n0 + 2) tm ∧ tm.get 8 = some (.int .i64 (n : Int)) ∧ ∃ (i : Nat) (s : RdT) (b : Int) (cv : AV) (l : List Int), i + k = n ∧ l.length = i ∧ tm.get 9 = some (.int .u64 b) ∧ tm.get 10 = some (.int .i64 (i : Int)) ∧
    CtB n0 g0 s { c with cuts := l } cv h ∧ s.1.size ≤ s0.1.size ∧ cutsT n 0 s0 = (l ++ (cutsT k b s).1, (cutsT k b s).2)
set_option maxRecDepth 4000 in
theorem step23c (P : Program) {call : CallE} (h51 : F51 call) {s0' : ByteArray} {n0 : Nat} {g0 : Nat → Option AO} {c : CfgT} {n : Nat} (hn : n ≤ 64) {s0 : RdT} (hs : s0.1.size ≤ 9223372036854775807) (k : Nat) (tm : T AV) (h : H) (hI : I23c s0' n0 g0 c n s0 k tm h) :
    WC P call c23_l24 (loopQ 2 (fun tm h => ∃ j, j < k ∧ I23c s0' n0 g0 c n s0 j tm h) (fun tm h => At23 s0' n0 (n0 + 1) (n0 + 2) tm ∧ ∃ cv, CtB n0 g0 (cutsT n 0 s0).2 { c with cuts := (cutsT n 0 s0).1 } cv h) (fun _ _ => False)) tm h := by
  obtain ⟨⟨t0, t2, t4, t5, t6⟩, t8, i, s, b, cv, l, hik, hli, t9, t10, ct, hsz, ho⟩ := hI
  have ga := ct.ha
  cases k with
  | zero =>
    have e1 : ¬ (i : Int) < (n : Int) := by omega
    simp only [go_sem, ↓reduceIte, ↓reduceDIte, zA, zM, zL, zE, zD, yA, yE, yL, yQ, yT, reduceCtorEq, c23_l24, t8, t10, e1]
    rw [ho]
    simp only [cutsT, List.append_nil]
    exact ⟨⟨by simp [go_sem, t0], by simp [go_sem, t2], by simp [go_sem, t4], by simp [go_sem, t5], by simp [go_sem, t6]⟩, cv, ct⟩
  | succ k =>
    have e1 : (i : Int) < (n : Int) := by omega
    by_cases hb : s.2 = true
    · simp only [go_sem, ↓reduceIte, ↓reduceDIte, zA, zM, zL, zE, zD, yA, yE, yL, yQ, yT, reduceCtorEq, c23_l24, t4, t8, t10, e1, ga, tpA, hb]
      rw [ho]
      simp only [cutsT, if_pos hb, List.append_nil]
      exact ⟨⟨by simp [go_sem, t0], by simp [go_sem, t2], by simp [go_sem, t4], by simp [go_sem, t5], by simp [go_sem, t6]⟩, cv, ct⟩
    have hb' : s.2 = false := by simpa using hb
    have hbs : ∀ b, cutsT (k + 1) b s = (fw .u64 (b + (numT mxU s).1) :: (cutsT k (fw .u64 (b + (numT mxU s).1)) (numT mxU s).2).1, (cutsT k (fw .u64 (b + (numT mxU s).1)) (numT mxU s).2).2) := fun b => by rw [cutsT, if_neg hb]
    rw [hbs] at ho
    have ga' : h.t.get (n0 + 1) = some (rowL [.str s.1, .bool false] 89) := by rw [ga, tpA, hb']
    simp only [go_sem, ↓reduceIte, ↓reduceDIte, zA, zM, zL, zE, zD, yA, yE, yL, yQ, yT, reduceCtorEq, c23_l24, t4, t8, t9, t10, e1, ga']
    refine opt_some (h51 h (n0 + 1) s mxU ga (by omega) (by decide) (by decide)) ?_
    have hle := (numT_bd mxU s (by decide)).2.2
    have hX := ct.hX
    have nx := ct.next
    have x2 : ¬ n0 + 2 = h.next := by omega
    have x3 : ¬ n0 + 1 = h.next := by omega
    have x4 : ¬ n0 = h.next := by omega
    simp only [go_sem, ↓reduceIte, ↓reduceDIte, zA, zM, zL, zE, zD, yA, yE, yL, yQ, yT, reduceCtorEq, t6, x2, hX]
    have ot := ct.oc.keep (h' := ⟨h.next + 1, (h.t.set (n0 + 1) (tpA (numT mxU s).2)).set h.next (.row (putList 0 [.int .u64 (fw .u64 (b + (numT mxU s).1))] T.e) 1 43)⟩) (Nat.le_succ _) (fun q hq => by
      have h1 := ct.ow q hq
      have h2 := ct.oc.lt hq
      have e0 : ¬ q = h.next := by omega
      have e2 : ¬ q = n0 + 1 := by omega
      simp only [go_sem, ↓reduceIte, ↓reduceDIte, zA, zM, zL, zE, zD, yA, yE, yL, yQ, yT, reduceCtorEq, e0, e2])
    refine opt_some (appA_own ot (by decide) (by decide) (by show (2 * (l.length + 1) + 192) * 8 ≤ _; omega) (by show l.length + 1 ≤ _; omega)) ?_
    have oo := own_app (src := [.int .u64 (fw .u64 (b + (numT mxU s).1))]) ot (n := 1) (by decide) rfl
    have onev := oo.one
    have gk : ∀ q, q < h.next → own cv ≠ some q → q ≠ n0 + 1 → (appT ⟨h.next + 1, (h.t.set (n0 + 1) (tpA (numT mxU s).2)).set h.next (.row (putList 0 [.int .u64 (fw .u64 (b + (numT mxU s).1))] T.e) 1 43)⟩ 43 cv (({ c with cuts := l } : CfgT).cuts.map (AV.int .u64) ++ [.int .u64 (fw .u64 (b + (numT mxU s).1))])).t.get q = h.t.get q := fun q h1 h2 h3 => by
      rw [app_get (by show q < h.next + 1; omega) h2]
      have e0 : ¬ q = h.next := by omega
      simp only [go_sem, ↓reduceIte, ↓reduceDIte, zA, zM, zL, zE, zD, yA, yE, yL, yQ, yT, reduceCtorEq, e0, h3]
    have ga2 : (appT ⟨h.next + 1, (h.t.set (n0 + 1) (tpA (numT mxU s).2)).set h.next (.row (putList 0 [.int .u64 (fw .u64 (b + (numT mxU s).1))] T.e) 1 43)⟩ 43 cv (({ c with cuts := l } : CfgT).cuts.map (AV.int .u64) ++ [.int .u64 (fw .u64 (b + (numT mxU s).1))])).t.get (n0 + 1) = some (tpA (numT mxU s).2) := by
      rw [app_get (by show n0 + 1 < h.next + 1; omega) (fun hh => by have := ct.ow _ hh; omega)]
      simp only [go_sem, ↓reduceIte, ↓reduceDIte, zA, zM, zL, zE, zD, yA, yE, yL, yQ, yT, reduceCtorEq, x3]
    have hX2 := (gk (n0 + 2) (by omega) (fun hh => by have := ct.ow _ hh; omega) (by omega)).trans hX
    have f1 : fw .i64 ((i : Int) + 1) = (i : Int) + 1 := fwI (by omega) (by omega)
    have e3 : ((i + 1 : Nat) : Int) = (i : Int) + 1 := rfl
    have ni : (({ c with cuts := l } : CfgT).cuts.length) = i := hli
    rw [ni] at oo onev ⊢
    simp only [go_sem, ↓reduceIte, ↓reduceDIte, zA, zM, zL, zE, zD, yA, yE, yL, yQ, yT, reduceCtorEq, t6, t10, hX2, onev, f1]
    refine ⟨k, Nat.lt_succ_self k, ⟨by simp [go_sem, t0], by simp [go_sem, t2], by simp [go_sem, t4], by simp [go_sem, t5], by simp [go_sem, t6]⟩, by simp [go_sem, t8], i + 1, (numT mxU s).2, fw .u64 (b + (numT mxU s).1), appV ⟨h.next + 1, (h.t.set (n0 + 1) (tpA (numT mxU s).2)).set h.next (.row (putList 0 [.int .u64 (fw .u64 (b + (numT mxU s).1))] T.e) 1 43)⟩ 1 (i + 1), l ++ [fw .u64 (b + (numT mxU s).1)], by omega, by rw [List.length_append, hli]; rfl, by simp [go_sem], by simp [go_sem, e3], ⟨?_, ?_, ?_, ?_, ?_, ?_, ?_⟩, by omega, ?_⟩
    · rw [app_next]; show n0 + 3 ≤ h.next + 1 + 1; omega
    · simp only [go_sem, ↓reduceIte, ↓reduceDIte, zA, zM, zL, zE, zD, yA, yE, yL, yQ, yT, reduceCtorEq]
      exact ga2
    · have e0 : ¬ n0 = n0 + 2 := by omega
      simp only [go_sem, ↓reduceIte, ↓reduceDIte, zA, zM, zL, zE, zD, yA, yE, yL, yQ, yT, reduceCtorEq, e0]
      exact (gk n0 (by omega) (fun hh => by have := ct.ow _ hh; omega) (by omega)).trans ct.hR
    · simp only [go_sem, ↓reduceIte, ↓reduceDIte, zA, zM, zL, zE, zD, yA, yE, yL, yQ, yT, reduceCtorEq, cfg_len]
      rfl
    · have hl2 : (l ++ [fw .u64 (b + (numT mxU s).1)]).length = i + 1 := by rw [List.length_append, hli]; rfl
      show Own 1 43 _ _ (l ++ [fw .u64 (b + (numT mxU s).1)]).length ((l ++ [fw .u64 (b + (numT mxU s).1)]).map (AV.int .u64))
      rw [hl2, List.map_append]
      refine oo.keep (Nat.le_refl _) (fun q hq => ?_)
      rw [own_appV] at hq
      simp only [Option.some.injEq] at hq
      have e0 : ¬ q = n0 + 2 := by omega
      simp only [go_sem, ↓reduceIte, ↓reduceDIte, zA, zM, zL, zE, zD, yA, yE, yL, yQ, yT, reduceCtorEq, e0]
    · intro q hq
      rw [own_appV] at hq
      simp only [Option.some.injEq] at hq
      omega
    · intro q h1
      have e0 : ¬ q = n0 + 2 := by omega
      simp only [go_sem, ↓reduceIte, ↓reduceDIte, zA, zM, zL, zE, zD, yA, yE, yL, yQ, yT, reduceCtorEq, e0]
      rw [gk q (by omega) (fun hh => by have := ct.ow _ hh; omega) (by omega)]
      exact ct.old q h1
    · rw [ho]
      simp
theorem headT_le (s : RdT) : (headT s).2.1.size ≤ s.1.size := by
  have L : ∀ m s, 0 ≤ m → (numT m s).2.1.size ≤ s.1.size := fun m s hm => (numT_bd m s hm).2.2
  unfold headT
  dsimp only
  iterate 13 (refine Nat.le_trans (L _ _ (by decide)) ?_)
  exact L _ _ (by decide)
theorem headT_cuts (s : RdT) : (headT s).1.cuts = [] := rfl
theorem cutsT_le (n : Nat) : ∀ (b : Int) (s : RdT), (cutsT n b s).2.1.size ≤ s.1.size := by
  induction n with
  | zero => intro b s; exact Nat.le_refl _
  | succ n ih =>
    intro b s
    rw [cutsT]
    split
    · exact Nat.le_refl _
    · exact Nat.le_trans (ih _ _) (numT_bd mxU s (by decide)).2.2
theorem cfgY_le (x : CfgT × RdT) : (cfgY x).2.1.size ≤ x.2.1.size := by
  unfold cfgY
  split
  · exact (numT_bd 64 x.2 (by decide)).2.2
  · split
    · exact Nat.le_trans (cutsT_le _ _ _) (numT_bd 63 x.2 (by decide)).2.2
    · exact Nat.le_refl _
def sw23 (X : CC) : CC := .seq (.seq (.ops c23_s14) (.cond (.t 89) (.ops c23_s15) .skip)) (.seq (.seq (.ops c23_s16) (.cond (.t 101) (.seq (.ops c23_s17) (.seq (.ops c23_s18) (.seq (.ops c23_s19) (.block 2 (.loop c23_l24))))) .skip)) X)
set_option maxRecDepth 4000 in
theorem sw23_w (P : Program) {call : CallE} (h50 : F50 call) (h51 : F51 call) {s0' : ByteArray} {n0 : Nat} {g0 : Nat → Option AO} {hd : CfgT × RdT} (hcut : hd.1.cuts = []) (hs : hd.2.1.size ≤ 9223372036854775807) {tm : T AV} {h : H} (hdT : HdT s0' n0 g0 hd tm h) {X : CC} {Q : Cont}
    (hX : ∀ tm' h' cv, At23 s0' n0 (n0 + 1) (n0 + 2) tm' → CtB n0 g0 (cfgY hd).2 (cfgY hd).1 cv h' → WC P call X Q tm' h') : WC P call (sw23 X) Q tm h := by
  obtain ⟨⟨t0, t2, t4, t5, t6⟩, nx, ga, gR, gX, old⟩ := hdT
  have x3 : ¬ n0 = n0 + 1 := by omega
  have x4 : ¬ n0 = n0 + 2 := by omega
  by_cases k2 : hd.1.kind = 2
  · simp only [go_sem, ↓reduceIte, ↓reduceDIte, zA, zM, zL, zE, zD, yA, yE, yL, yQ, yT, reduceCtorEq, sw23, t0, t2, t4, t6, gX, k2]
    refine opt50 h50 (s := hd.2) ga (by omega) (by decide) (by decide) fun v s1 q1 l1 u1 z1 r1 => ?_
    simp only [go_sem, ↓reduceIte, ↓reduceDIte, zA, zM, zL, zE, zD, yA, yE, yL, yQ, yT, reduceCtorEq, t6, gX]
    have e : cfgY hd = ({ hd.1 with n := v }, s1) := by unfold cfgY; rw [if_pos k2, q1]
    have gk : ∀ {x : CfgT}, x = { hd.1 with n := v } → x.kind = 2 := fun hx => by rw [hx]; exact k2
    simp only [go_sem, ↓reduceIte, ↓reduceDIte, zA, zM, zL, zE, zD, yA, yE, yL, yQ, yT, reduceCtorEq, gX, k2]
    refine hX _ _ .nils ⟨by simp [go_sem, t0], by simp [go_sem, t2], by simp [go_sem, t4], by simp [go_sem, t5], by simp [go_sem, t6]⟩ ⟨by show n0 + 3 ≤ h.next; omega, ?_, ?_, ?_, ?_, fun b hb => by simp [own] at hb, fun b h1 => ?_⟩
    · rw [e]
      simp only [go_sem, ↓reduceIte, ↓reduceDIte, zA, zM, zL, zE, zD, yA, yE, yL, yQ, yT, reduceCtorEq]
    · simp only [go_sem, ↓reduceIte, ↓reduceDIte, zA, zM, zL, zE, zD, yA, yE, yL, yQ, yT, reduceCtorEq, x3, x4]
      exact gR
    · rw [e]
      simp only [go_sem, ↓reduceIte, ↓reduceDIte, zA, zM, zL, zE, zD, yA, yE, yL, yQ, yT, reduceCtorEq, cfg_len, k2]
      rfl
    · rw [e]
      show Own 1 43 _ .nils hd.1.cuts.length (hd.1.cuts.map (AV.int .u64))
      rw [hcut]
      exact .nil
    · have e0 : ¬ b = n0 + 1 := by omega
      have e2 : ¬ b = n0 + 2 := by omega
      simp only [go_sem, ↓reduceIte, ↓reduceDIte, zA, zM, zL, zE, zD, yA, yE, yL, yQ, yT, reduceCtorEq, e0, e2]
      exact old b h1
  · by_cases k3 : hd.1.kind = 3
    · simp only [go_sem, ↓reduceIte, ↓reduceDIte, zA, zM, zL, zE, zD, yA, yE, yL, yQ, yT, reduceCtorEq, sw23, t0, t2, t4, t6, gX, k2, k3]
      refine opt50 h50 (s := hd.2) ga (by omega) (by decide) (by decide) fun v s1 q1 l1 u1 z1 r1 => ?_
      obtain ⟨n, rfl⟩ : ∃ n : Nat, v = n := ⟨v.toNat, by omega⟩
      have e : cfgY hd = ({ hd.1 with cuts := (cutsT n 0 s1).1 }, (cutsT n 0 s1).2) := by unfold cfgY; rw [if_neg k2, if_pos k3, q1]; rfl
      simp only [go_sem, ↓reduceIte, ↓reduceDIte, zA, zM, zL, zE, zD, yA, yE, yL, yQ, yT, reduceCtorEq]
      have c0 := cuts_nil hcut
      refine loop_in (I23c s0' n0 g0 hd.1 n s1) _ _ (fun k tm h hI => step23c P h51 (by omega) r1 k tm h hI) (fun tm2 h2 hR => ?_) (fun _ _ hh => hh.elim) n _ _
        ⟨⟨by simp [go_sem, t0], by simp [go_sem, t2], by simp [go_sem, t4], by simp [go_sem, t5], by simp [go_sem, t6]⟩, by simp [go_sem], 0, s1, 0, .nils, [], by omega, rfl, by simp [go_sem], by simp [go_sem], ⟨by show n0 + 3 ≤ h.next; omega, by simp [go_sem], ?_, ?_, .nil, fun b hb => by simp [own] at hb, fun b h1 => ?_⟩, Nat.le_refl _, rfl⟩
      · obtain ⟨a1, cv, ct⟩ := hR
        simp only [go_sem, ↓reduceIte, ↓reduceDIte, zA, zM, zL, zE, zD, yA, yE, yL, yQ, yT, reduceCtorEq]
        exact hX _ _ cv a1 (by rw [e]; exact ct)
      · simp only [go_sem, ↓reduceIte, ↓reduceDIte, zA, zM, zL, zE, zD, yA, yE, yL, yQ, yT, reduceCtorEq, x3]
        exact gR
      · simp only [go_sem, ↓reduceIte, ↓reduceDIte, zA, zM, zL, zE, zD, yA, yE, yL, yQ, yT, reduceCtorEq]
        rw [c0]
        exact gX
      · have e0 : ¬ b = n0 + 1 := by omega
        simp only [go_sem, ↓reduceIte, ↓reduceDIte, zA, zM, zL, zE, zD, yA, yE, yL, yQ, yT, reduceCtorEq, e0]
        exact old b h1
    · simp only [go_sem, ↓reduceIte, ↓reduceDIte, zA, zM, zL, zE, zD, yA, yE, yL, yQ, yT, reduceCtorEq, sw23, t0, t2, t4, t6, gX, k2, k3]
      have e : cfgY hd = hd := by unfold cfgY; rw [if_neg k2, if_neg k3]
      refine hX _ _ .nils ⟨by simp [go_sem, t0], by simp [go_sem, t2], by simp [go_sem, t4], by simp [go_sem, t5], by simp [go_sem, t6]⟩ ⟨by omega, by rw [e]; exact ga, gR, by rw [e]; exact gX, ?_, fun b hb => by simp [own] at hb, old⟩
      rw [e, hcut]
      exact .nil
end
end Go.Proofs.Ytnmlfhogolonoaa
