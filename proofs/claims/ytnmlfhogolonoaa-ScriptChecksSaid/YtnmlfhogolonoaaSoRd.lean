/-
  The numbers of which a script's bytes are made: the reference.
-/
import Derived.Test.YtnmlfhogolonoaaSoRc
set_option linter.unusedVariables false
set_option linter.unusedSimpArgs false
namespace Go.Proofs.Ytnmlfhogolonoaa
open Go.Proofs.Ytnmlfhogolonoaa.Eo
open Nat renaming reduceAdd → zA, reduceMul → zM, reduceLT → zL, reduceEqDiff → zE, reduceLeDiff → zD
open Int renaming reduceAdd → yA, reduceLE → yE, reduceLT → yL, reduceEq → yQ, reduceToNat → yT
noncomputable section
/-! 33: leapfrog/leapfrogref43.Numbers -/
@[go_sem] def c33_s0 : List SQ := [⟨some 1, none, .n (.box 31 (.t 0))⟩, ⟨some 2, none, .p (.mv (.c .nils))⟩]
@[go_sem] def c33_s1 : List SQ := [⟨some 15, none, .p (.fadr 0 (.t 1))⟩, ⟨some 16, none, .r (.ld (some 16) (.t 15))⟩, ⟨some 3, none, .n (.new 27 [.int .i64 0, .int .i64 0, .int .u8 0, .int .i64 0, .int .u8 0, .int .i64 0, .nils, .int .i64 0, .int .i64 0, .int .i64 0, .int .i64 0, .int .i64 0, .int .i64 0, .int .i64 0, .int .i64 0, .int .i64 0])⟩, ⟨none, none, .e (.st 16 (.t 3) (.t 16))⟩]
@[go_sem] def c33_s2 : List SQ := [⟨some 17, none, .p (.fadr 0 (.t 3))⟩, ⟨some 18, none, .r (.ld none (.t 17))⟩, ⟨some 19, none, .p (.conv .u64 (.t 18))⟩, ⟨some 20, none, .p (.fadr 1 (.t 3))⟩, ⟨some 21, none, .r (.ld none (.t 20))⟩, ⟨some 22, none, .p (.conv .u64 (.t 21))⟩, ⟨some 23, none, .p (.fadr 2 (.t 3))⟩, ⟨some 24, none, .r (.ld none (.t 23))⟩, ⟨some 25, none, .p (.conv .u64 (.t 24))⟩, ⟨some 26, none, .p (.fadr 3 (.t 3))⟩, ⟨some 27, none, .r (.ld none (.t 26))⟩, ⟨some 28, none, .p (.conv .u64 (.t 27))⟩, ⟨some 29, none, .p (.fadr 13 (.t 3))⟩, ⟨some 30, none, .r (.ld none (.t 29))⟩, ⟨some 31, none, .p (.conv .u64 (.t 30))⟩, ⟨some 32, none, .p (.fadr 14 (.t 3))⟩, ⟨some 33, none, .r (.ld none (.t 32))⟩, ⟨some 34, none, .p (.conv .u64 (.t 33))⟩, ⟨some 35, none, .p (.fadr 15 (.t 3))⟩, ⟨some 36, none, .r (.ld none (.t 35))⟩, ⟨some 37, none, .p (.conv .u64 (.t 36))⟩, ⟨some 38, none, .n (.buildS 43 1 7 [.int .u64 0, .int .u64 0, .int .u64 0, .int .u64 0, .int .u64 0, .int .u64 0, .int .u64 0] [(0, 1, (.t 19)), (1, 1, (.t 22)), (2, 1, (.t 25)), (3, 1, (.t 28)), (4, 1, (.t 31)), (5, 1, (.t 34)), (6, 1, (.t 37))])⟩, ⟨some 4, none, .p (.mv (.t 38))⟩]
@[go_sem] def c33_s3 : List SQ := [⟨some 5, none, .p (.mv (.c (.int .i64 0)))⟩]
@[go_sem] def c33_s4 : List SQ := [⟨some 39, none, .p (.mv (.t 5))⟩, ⟨some 40, none, .p (.bin .lss 3 false true (.t 39) (.c (.int .i64 6)))⟩]
@[go_sem] def c33_s5 : List SQ := [⟨some 43, none, .p (.mv (.t 4))⟩, ⟨some 44, none, .p (.mv (.t 5))⟩, ⟨some 45, none, .p (.fadr 7 (.t 3))⟩, ⟨some 46, none, .p (.iadrA 6 1 (.t 45) (.t 44))⟩, ⟨some 47, none, .r (.ld none (.t 46))⟩, ⟨some 48, none, .p (.conv .u64 (.t 47))⟩, ⟨some 49, none, .n (.buildS 43 1 1 [.int .u64 0] [(0, 1, (.t 48))])⟩, ⟨some 50, none, .e (.app 43 1 8 (.t 43) (.t 49))⟩, ⟨some 4, none, .p (.mv (.t 50))⟩]
@[go_sem] def c33_s6 : List SQ := [⟨some 41, none, .p (.mv (.t 5))⟩, ⟨some 42, none, .p (.bin .add 3 false true (.t 41) (.c (.int .i64 1)))⟩, ⟨some 5, none, .p (.mv (.t 42))⟩]
def c33_l7 : CC := (.seq (.seq (.ops c33_s4) (.cond (.t 40) .skip (.exit 0))) (.seq (.block 1 (.ops c33_s5)) (.ops c33_s6)))
@[go_sem] def c33_s8 : List SQ := [⟨some 51, none, .p (.mv (.t 4))⟩, ⟨some 52, none, .p (.fadr 4 (.t 3))⟩, ⟨some 53, none, .p (.fadr 0 (.t 52))⟩, ⟨some 54, none, .r (.ld none (.t 53))⟩, ⟨some 55, none, .p (.conv .u64 (.t 54))⟩, ⟨some 56, none, .n (.buildS 43 1 1 [.int .u64 0] [(0, 1, (.t 55))])⟩, ⟨some 57, none, .e (.app 43 1 8 (.t 51) (.t 56))⟩, ⟨some 4, none, .p (.mv (.t 57))⟩]
@[go_sem] def c33_s9 : List SQ := [⟨some 58, none, .p (.fadr 4 (.t 3))⟩, ⟨some 59, none, .p (.fadr 0 (.t 58))⟩, ⟨some 60, none, .r (.ld none (.t 59))⟩, ⟨some 61, none, .p (.bin .eql 5 false true (.t 60) (.c (.int .u8 2)))⟩]
@[go_sem] def c33_s10 : List SQ := [⟨some 62, none, .p (.mv (.t 4))⟩, ⟨some 63, none, .p (.fadr 4 (.t 3))⟩, ⟨some 64, none, .p (.fadr 1 (.t 63))⟩, ⟨some 65, none, .r (.ld none (.t 64))⟩, ⟨some 66, none, .p (.conv .u64 (.t 65))⟩, ⟨some 67, none, .n (.buildS 43 1 1 [.int .u64 0] [(0, 1, (.t 66))])⟩, ⟨some 68, none, .e (.app 43 1 8 (.t 62) (.t 67))⟩, ⟨some 4, none, .p (.mv (.t 68))⟩]
@[go_sem] def c33_s11 : List SQ := [⟨some 69, none, .p (.fadr 4 (.t 3))⟩, ⟨some 70, none, .p (.fadr 0 (.t 69))⟩, ⟨some 71, none, .r (.ld none (.t 70))⟩, ⟨some 72, none, .p (.bin .eql 5 false true (.t 71) (.c (.int .u8 3)))⟩]
@[go_sem] def c33_s12 : List SQ := [⟨some 73, none, .p (.mv (.t 4))⟩, ⟨some 74, none, .p (.fadr 4 (.t 3))⟩, ⟨some 75, none, .p (.fadr 2 (.t 74))⟩, ⟨some 76, none, .r (.ld none (.t 75))⟩, ⟨some 77, none, .p (.lenv (.t 76))⟩, ⟨some 78, none, .p (.conv .u64 (.t 77))⟩, ⟨some 79, none, .n (.buildS 43 1 1 [.int .u64 0] [(0, 1, (.t 78))])⟩, ⟨some 80, none, .e (.app 43 1 8 (.t 73) (.t 79))⟩, ⟨some 4, none, .p (.mv (.t 80))⟩]
@[go_sem] def c33_s13 : List SQ := [⟨some 6, none, .p (.mv (.c (.int .u64 0)))⟩]
@[go_sem] def c33_s14 : List SQ := [⟨some 7, none, .p (.mv (.c (.int .i64 0)))⟩]
@[go_sem] def c33_s15 : List SQ := [⟨some 81, none, .p (.mv (.t 7))⟩, ⟨some 82, none, .p (.fadr 4 (.t 3))⟩, ⟨some 83, none, .p (.fadr 2 (.t 82))⟩, ⟨some 84, none, .r (.ld none (.t 83))⟩, ⟨some 85, none, .p (.lenv (.t 84))⟩, ⟨some 86, none, .p (.bin .lss 3 false false (.t 81) (.t 85))⟩]
@[go_sem] def c33_s16 : List SQ := [⟨some 89, none, .p (.mv (.t 4))⟩, ⟨some 90, none, .p (.fadr 4 (.t 3))⟩, ⟨some 91, none, .p (.fadr 2 (.t 90))⟩, ⟨some 92, none, .r (.ld none (.t 91))⟩, ⟨some 93, none, .p (.mv (.t 7))⟩, ⟨some 94, none, .p (.iadrS 1 (.t 92) (.t 93))⟩, ⟨some 95, none, .r (.ld none (.t 94))⟩, ⟨some 96, none, .p (.mv (.t 6))⟩, ⟨some 97, none, .p (.bin .sub 43 false false (.t 95) (.t 96))⟩, ⟨some 98, none, .n (.buildS 43 1 1 [.int .u64 0] [(0, 1, (.t 97))])⟩, ⟨some 99, none, .e (.app 43 1 8 (.t 89) (.t 98))⟩, ⟨some 4, none, .p (.mv (.t 99))⟩]
@[go_sem] def c33_s17 : List SQ := [⟨some 100, none, .p (.fadr 4 (.t 3))⟩, ⟨some 101, none, .p (.fadr 2 (.t 100))⟩, ⟨some 102, none, .r (.ld none (.t 101))⟩, ⟨some 103, none, .p (.mv (.t 7))⟩, ⟨some 104, none, .p (.iadrS 1 (.t 102) (.t 103))⟩, ⟨some 105, none, .r (.ld none (.t 104))⟩, ⟨some 6, none, .p (.mv (.t 105))⟩]
@[go_sem] def c33_s18 : List SQ := [⟨some 87, none, .p (.mv (.t 7))⟩, ⟨some 88, none, .p (.bin .add 3 false true (.t 87) (.c (.int .i64 1)))⟩, ⟨some 7, none, .p (.mv (.t 88))⟩]
def c33_l19 : CC := (.seq (.seq (.ops c33_s15) (.cond (.t 86) .skip (.exit 2))) (.seq (.block 3 (.seq (.ops c33_s16) (.ops c33_s17))) (.ops c33_s18)))
@[go_sem] def c33_s20 : List SQ := [⟨some 8, none, .p (.mv (.c (.int .i64 0)))⟩]
@[go_sem] def c33_s21 : List SQ := [⟨some 106, none, .p (.mv (.t 8))⟩, ⟨some 107, none, .p (.fadr 16 (.t 1))⟩, ⟨some 108, none, .r (.ld none (.t 107))⟩, ⟨some 109, none, .p (.lenv (.t 108))⟩, ⟨some 110, none, .p (.bin .lss 3 false false (.t 106) (.t 109))⟩]
@[go_sem] def c33_s22 : List SQ := [⟨some 113, none, .p (.mv (.t 4))⟩, ⟨some 114, none, .p (.fadr 16 (.t 1))⟩, ⟨some 115, none, .r (.ld none (.t 114))⟩, ⟨some 116, none, .p (.mv (.t 8))⟩, ⟨some 117, none, .p (.iadrS 1 (.t 115) (.t 116))⟩, ⟨some 118, none, .r (.ld none (.t 117))⟩, ⟨some 119, none, .p (.lenv (.t 118))⟩, ⟨some 120, none, .p (.conv .u64 (.t 119))⟩, ⟨some 121, none, .n (.buildS 43 1 1 [.int .u64 0] [(0, 1, (.t 120))])⟩, ⟨some 122, none, .e (.app 43 1 8 (.t 113) (.t 121))⟩, ⟨some 4, none, .p (.mv (.t 122))⟩]
@[go_sem] def c33_s23 : List SQ := [⟨some 9, none, .p (.mv (.c (.int .i64 0)))⟩]
@[go_sem] def c33_s24 : List SQ := [⟨some 123, none, .p (.mv (.t 9))⟩, ⟨some 124, none, .p (.fadr 16 (.t 1))⟩, ⟨some 125, none, .r (.ld none (.t 124))⟩, ⟨some 126, none, .p (.mv (.t 8))⟩, ⟨some 127, none, .p (.iadrS 1 (.t 125) (.t 126))⟩, ⟨some 128, none, .r (.ld none (.t 127))⟩, ⟨some 129, none, .p (.lenv (.t 128))⟩, ⟨some 130, none, .p (.bin .lss 3 false false (.t 123) (.t 129))⟩]
@[go_sem] def c33_s25 : List SQ := [⟨some 133, none, .p (.fadr 16 (.t 1))⟩, ⟨some 134, none, .r (.ld none (.t 133))⟩, ⟨some 135, none, .p (.mv (.t 8))⟩, ⟨some 136, none, .p (.iadrS 1 (.t 134) (.t 135))⟩, ⟨some 137, none, .r (.ld none (.t 136))⟩, ⟨some 138, none, .p (.mv (.t 9))⟩, ⟨some 139, none, .p (.iadrS 7 (.t 137) (.t 138))⟩, ⟨some 140, none, .r (.ld (some 7) (.t 139))⟩, ⟨some 10, none, .n (.new 45 [.int .u8 0, .int .u64 0, .int .u64 0, .int .u64 0, .int .u64 0, .int .u64 0, .int .u64 0])⟩, ⟨none, none, .e (.st 7 (.t 10) (.t 140))⟩]
@[go_sem] def c33_p26 : List (List DQ × Option DQ) := [([⟨0, [(4, none)], none, .p (.mv (.t 4))⟩, ⟨1, [(10, none)], none, .p (.fadr 0 (.t 10))⟩, ⟨2, [(142, (some 1))], none, .r (.ld none (.t 142))⟩, ⟨3, [(143, (some 2))], none, .p (.conv .u64 (.t 143))⟩, ⟨4, [(10, none)], none, .r (.ld (some 7) (.t 10))⟩], (some ⟨5, [(145, (some 4))], none, .cv (.c (.fn (.func 55) [] [])) [(.t 145)]⟩)), ([⟨6, [(146, (some 5))], none, .p (.conv .u64 (.t 146))⟩, ⟨7, [(144, (some 3)), (147, (some 6))], none, .n (.buildS 43 1 2 [.int .u64 0, .int .u64 0] [(0, 1, (.t 144)), (1, 1, (.t 147))])⟩], (some ⟨8, [(141, (some 0)), (148, (some 7))], none, .e (.app 43 1 8 (.t 141) (.t 148))⟩)), ([⟨9, [(149, (some 8))], none, .p (.mv (.t 149))⟩], none)]
@[go_sem] def c33_s27 : List SQ := [⟨some 150, none, .r (.ld (some 7) (.t 10))⟩, ⟨some 151, none, .cv (.c (.fn (.func 56) [] [])) [(.t 150)]⟩, ⟨some 11, none, .p (.mv (.t 151))⟩]
@[go_sem] def c33_s28 : List SQ := [⟨some 12, none, .p (.mv (.c (.int .i64 0)))⟩]
@[go_sem] def c33_s29 : List SQ := [⟨some 152, none, .p (.mv (.t 12))⟩, ⟨some 153, none, .p (.mv (.t 11))⟩, ⟨some 154, none, .p (.lenv (.t 153))⟩, ⟨some 155, none, .p (.bin .lss 3 false false (.t 152) (.t 154))⟩]
@[go_sem] def c33_s30 : List SQ := [⟨some 158, none, .p (.mv (.t 11))⟩, ⟨some 159, none, .p (.mv (.t 12))⟩, ⟨some 160, none, .p (.iadrS 1 (.t 158) (.t 159))⟩, ⟨some 161, none, .r (.ld none (.t 160))⟩, ⟨some 162, none, .p (.bin .neq 43 false true (.t 161) (.c (.int .u64 0)))⟩]
@[go_sem] def c33_s31 : List SQ := [⟨some 163, none, .p (.mv (.t 4))⟩, ⟨some 164, none, .p (.mv (.t 11))⟩, ⟨some 165, none, .p (.mv (.t 12))⟩, ⟨some 166, none, .p (.iadrS 1 (.t 164) (.t 165))⟩, ⟨some 167, none, .r (.ld none (.t 166))⟩, ⟨some 168, none, .n (.buildS 43 1 1 [.int .u64 0] [(0, 1, (.t 167))])⟩, ⟨some 169, none, .e (.app 43 1 8 (.t 163) (.t 168))⟩, ⟨some 4, none, .p (.mv (.t 169))⟩]
@[go_sem] def c33_s32 : List SQ := [⟨some 156, none, .p (.mv (.t 12))⟩, ⟨some 157, none, .p (.bin .add 3 false true (.t 156) (.c (.int .i64 1)))⟩, ⟨some 12, none, .p (.mv (.t 157))⟩]
def c33_l33 : CC := (.seq (.seq (.ops c33_s29) (.cond (.t 155) .skip (.exit 8))) (.seq (.block 9 (.seq (.ops c33_s30) (.cond (.t 162) (.ops c33_s31) .skip))) (.ops c33_s32)))
@[go_sem] def c33_s34 : List SQ := [⟨some 131, none, .p (.mv (.t 9))⟩, ⟨some 132, none, .p (.bin .add 3 false true (.t 131) (.c (.int .i64 1)))⟩, ⟨some 9, none, .p (.mv (.t 132))⟩]
def c33_l35 : CC := (.seq (.seq (.ops c33_s24) (.cond (.t 130) .skip (.exit 6))) (.seq (.block 7 (.seq (.ops c33_s25) (.seq (.drw ⟨c33_p26, [(0, 141), (1, 142), (2, 143), (3, 144), (4, 145), (5, 146), (6, 147), (7, 148), (8, 149), (9, 4)], [(⟨2, [(142, (some 1))], none, .r (.ld none (.t 142))⟩, [1])]⟩) (.seq (.ops c33_s27) (.seq (.ops c33_s28) (.block 8 (.loop c33_l33))))))) (.ops c33_s34)))
@[go_sem] def c33_s36 : List SQ := [⟨some 111, none, .p (.mv (.t 8))⟩, ⟨some 112, none, .p (.bin .add 3 false true (.t 111) (.c (.int .i64 1)))⟩, ⟨some 8, none, .p (.mv (.t 112))⟩]
def c33_l37 : CC := (.seq (.seq (.ops c33_s21) (.cond (.t 110) .skip (.exit 4))) (.seq (.block 5 (.seq (.ops c33_s22) (.seq (.ops c33_s23) (.block 6 (.loop c33_l35))))) (.ops c33_s36)))
@[go_sem] def c33_s38 : List SQ := [⟨some 170, none, .p (.fadr 17 (.t 1))⟩, ⟨some 171, none, .r (.ld none (.t 170))⟩, ⟨some 172, none, .cv (.c (.fn (.func 57) [] [])) [(.t 171)]⟩, ⟨some 13, none, .p (.mv (.t 172))⟩]
@[go_sem] def c33_s39 : List SQ := [⟨some 173, none, .p (.mv (.t 4))⟩, ⟨some 174, none, .p (.mv (.t 13))⟩, ⟨some 175, none, .p (.lenv (.t 174))⟩, ⟨some 176, none, .p (.conv .u64 (.t 175))⟩, ⟨some 177, none, .n (.buildS 43 1 1 [.int .u64 0] [(0, 1, (.t 176))])⟩, ⟨some 178, none, .e (.app 43 1 8 (.t 173) (.t 177))⟩, ⟨some 4, none, .p (.mv (.t 178))⟩]
@[go_sem] def c33_s40 : List SQ := [⟨some 14, none, .p (.mv (.c (.int .i64 0)))⟩]
@[go_sem] def c33_s41 : List SQ := [⟨some 179, none, .p (.mv (.t 14))⟩, ⟨some 180, none, .p (.mv (.t 13))⟩, ⟨some 181, none, .p (.lenv (.t 180))⟩, ⟨some 182, none, .p (.bin .lss 3 false false (.t 179) (.t 181))⟩]
@[go_sem] def c33_p42 : List (List DQ × Option DQ) := [([⟨0, [(4, none)], none, .p (.mv (.t 4))⟩, ⟨1, [(13, none)], none, .p (.mv (.t 13))⟩, ⟨2, [(14, none)], none, .p (.mv (.t 14))⟩, ⟨3, [(186, (some 1)), (187, (some 2))], none, .p (.iadrS 2 (.t 186) (.t 187))⟩, ⟨4, [(188, (some 3))], none, .p (.fadr 0 (.t 188))⟩, ⟨5, [(189, (some 4))], none, .r (.ld none (.t 189))⟩, ⟨6, [(190, (some 5))], none, .p (.conv .u64 (.t 190))⟩, ⟨7, [(13, none)], none, .p (.mv (.t 13))⟩, ⟨8, [(14, none)], none, .p (.mv (.t 14))⟩, ⟨9, [(192, (some 7)), (193, (some 8))], none, .p (.iadrS 2 (.t 192) (.t 193))⟩, ⟨10, [(194, (some 9))], none, .p (.fadr 1 (.t 194))⟩, ⟨11, [(195, (some 10))], none, .r (.ld none (.t 195))⟩, ⟨12, [(196, (some 11))], none, .p (.conv .u64 (.t 196))⟩, ⟨13, [(191, (some 6)), (197, (some 12))], none, .n (.buildS 43 1 2 [.int .u64 0, .int .u64 0] [(0, 1, (.t 191)), (1, 1, (.t 197))])⟩], (some ⟨14, [(185, (some 0)), (198, (some 13))], none, .e (.app 43 1 8 (.t 185) (.t 198))⟩)), ([⟨15, [(199, (some 14))], none, .p (.mv (.t 199))⟩], none)]
@[go_sem] def c33_s43 : List SQ := [⟨some 183, none, .p (.mv (.t 14))⟩, ⟨some 184, none, .p (.bin .add 3 false true (.t 183) (.c (.int .i64 1)))⟩, ⟨some 14, none, .p (.mv (.t 184))⟩]
def c33_l44 : CC := (.seq (.seq (.ops c33_s41) (.cond (.t 182) .skip (.exit 10))) (.seq (.block 11 (.drw ⟨c33_p42, [(0, 185), (1, 186), (2, 187), (3, 188), (4, 189), (5, 190), (6, 191), (7, 192), (8, 193), (9, 194), (10, 195), (11, 196), (12, 197), (13, 198), (14, 199), (15, 4)], [(⟨5, [(189, (some 4))], none, .r (.ld none (.t 189))⟩, [0]), (⟨11, [(195, (some 10))], none, .r (.ld none (.t 195))⟩, [0])]⟩)) (.ops c33_s43)))
@[go_sem] def c33_s45 : List SQ := [⟨some 200, none, .p (.mv (.t 4))⟩, ⟨some 2, none, .p (.mv (.t 200))⟩]
@[go_sem] def c33 : CF := ⟨1, (.seq (.ops c33_s0) (.seq (.ops c33_s1) (.seq (.ops c33_s2) (.seq (.seq (.ops c33_s3) (.block 0 (.loop c33_l7))) (.seq (.ops c33_s8) (.seq (.seq (.ops c33_s9) (.cond (.t 61) (.ops c33_s10) .skip)) (.seq (.seq (.ops c33_s11) (.cond (.t 72) (.seq (.ops c33_s12) (.seq (.ops c33_s13) (.seq (.ops c33_s14) (.block 2 (.loop c33_l19))))) .skip)) (.seq (.seq (.ops c33_s20) (.block 4 (.loop c33_l37))) (.seq (.ops c33_s38) (.seq (.ops c33_s39) (.seq (.seq (.ops c33_s40) (.block 10 (.loop c33_l44))) (.seq (.ops c33_s45) .ret)))))))))))), [.tmp 2]⟩
theorem c33_eq : cCF Try.prog 33 1 = some c33 := by kernel_rfl

def diffs : Int → List Int → List Int
  | _, [] => []
  | a, x :: l => (x - a) :: diffs x l
def numsO (x : OpT) : List Int := [x.1, mk x 6] ++ (fldL x).filter fun y => decide (y ≠ 0)
def numsP (p : List OpT) : List Int := (p.length : Int) :: p.flatMap numsO
def numsC (c : CfgT) : List Int := [c.threads, c.slots, c.engine, c.buckets, c.locks, c.tries, c.batch, c.t0, c.t1, c.t2, c.t3, c.t4, c.t5, c.kind]
def numsD (c : CfgT) : List Int := if c.kind = 2 then [c.n] else if c.kind = 3 then (c.cuts.length : Int) :: diffs 0 c.cuts else []
def numsR (r : List (Int × Int)) : List Int := r.flatMap fun p => [p.1, p.2]
def numsK (ks : List Int) : List Int := ((runsF ks).length : Int) :: numsR (runsF ks)
def numsS (c : CfgT) (ps : List (List OpT)) (ks : List Int) : List Int := numsC c ++ numsD c ++ ps.flatMap numsP ++ numsK ks
/-- numbers that grew -/
structure PN (h : H) (b : AV) (ns : List Int) (h' : H) (v : AV) : Prop where
  ow : Own 1 43 h' v ns.length (ns.map (AV.int .u64))
  gr : Grow h b h' v
theorem PN.get {h h' : H} {ns : List Int} {v : AV} (p : PN h .nils ns h' v) {c : Nat} (hc : c < h.next) : h'.t.get c = h.t.get c := p.gr.old c hc (by simp [own])
theorem opt_app1 {h0 h : H} {b v : AV} {ns : List Int} {x : Int} (pn : PN h0 b ns h v) (hl : ns.length ≤ 100000000) {K : AV × H → Prop} (hk : ∀ v' h', PN h0 b (ns ++ [x]) h' v' → K (v', h')) :
    @optI _ (appA ⟨h.next + 1, h.t.set h.next (.row (putList 0 [.int .u64 x] T.e) 1 43)⟩ 43 1 8 v 1 [.int .u64 x]) ⟨K⟩ := by
  have ov1 := pn.ow.keep (h' := ⟨h.next + 1, h.t.set h.next (.row (putList 0 [.int .u64 x] T.e) 1 43)⟩) (Nat.le_succ _) (fun b hb => by
    have := pn.ow.lt hb
    have e0 : ¬ b = h.next := by omega
    simp only [go_sem, ↓reduceIte, ↓reduceDIte, zA, zM, zL, zE, zD, yA, yE, yL, yQ, yT, reduceCtorEq, e0])
  refine opt_some (appA_own ov1 (by decide) (by decide) (by omega) (by omega)) (hk _ _ ⟨?_, pn.gr.trans (Grow.stepG (n := 1) pn.ow _ _)⟩)
  rw [List.length_append, List.map_append]
  exact own_app (src := [.int .u64 x]) ov1 (n := 1) (by decide) rfl
theorem opt_app2 {h0 h : H} {b v : AV} {ns : List Int} {x y : Int} (pn : PN h0 b ns h v) (hl : ns.length ≤ 100000000) {K : AV × H → Prop} (hk : ∀ v' h', PN h0 b (ns ++ [x, y]) h' v' → h.next + 1 ≤ h'.next → (∀ c, c < h.next → own v ≠ some c → h'.t.get c = h.t.get c) → (∀ c, own v' = some c → h.next ≤ c) → K (v', h')) :
    @optI _ (appA ⟨h.next + 1, h.t.set h.next (.row (putList 0 [.int .u64 x, .int .u64 y] T.e) 2 43)⟩ 43 1 8 v 2 [.int .u64 x, .int .u64 y]) ⟨K⟩ := by
  have ov1 := pn.ow.keep (h' := ⟨h.next + 1, h.t.set h.next (.row (putList 0 [.int .u64 x, .int .u64 y] T.e) 2 43)⟩) (Nat.le_succ _) (fun b hb => by
    have := pn.ow.lt hb
    have e0 : ¬ b = h.next := by omega
    simp only [go_sem, ↓reduceIte, ↓reduceDIte, zA, zM, zL, zE, zD, yA, yE, yL, yQ, yT, reduceCtorEq, e0])
  have g := Grow.stepG (n := 2) pn.ow (.row (putList 0 [.int .u64 x, .int .u64 y] T.e) 2 43) [.int .u64 x, .int .u64 y]
  refine opt_some (appA_own ov1 (by decide) (by decide) (by omega) (by omega)) (hk _ _ ⟨?_, pn.gr.trans g⟩ (Nat.le_succ _) g.old (fun c hc => by rw [own_appV] at hc; simp only [Option.some.injEq] at hc; omega))
  rw [List.length_append, List.map_append]
  exact own_app (src := [.int .u64 x, .int .u64 y]) ov1 (n := 2) (by decide) rfl
theorem fw_u {x : Int} (h : inU x) : fw .u64 x = x := fwU h.1 (by have := h.2; omega)
/-- the slots that are used throughout -/
structure At33 (A C : Nat) (tm : T AV) : Prop where
  t1 : tm.get 1 = some (.ptr A 0)
  t3 : tm.get 3 = some (.ptr C 0)
/-- the rows of the script and of its configuration -/
structure Sc33 (h1 : H) (A C : Nat) (c : CfgT) (cv pv kv : AV) (ps : List (List OpT)) (ks : List Int) : Prop where
  gA : h1.t.get A = some (.row (putList 0 (cfgC c cv ++ [pv, kv]) T.e) 18 31)
  gC : h1.t.get C = some (.row (putList 0 (cfgC c cv) T.e) 16 27)
  lA : A < h1.next
  lC : C < h1.next
  cu : RdL none 1 h1 cv (c.cuts.map fun x : Int => AV.int .u64 x)
  cul : ∀ a, own cv = some a → a < h1.next
  ps : RdP h1 pv ps
  ks : RdL none 1 h1 kv (ks.map fun x : Int => AV.int .i64 x)
  ksl : ∀ a, own kv = some a → a < h1.next

def I33c (h1 : H) (A C : Nat) (ns : List Int) (l : List Int) (k : Nat) (tm : T AV) (h : H) : Prop :=
  At33 A C tm ∧ ∃ (i : Nat) (a : Int) (w : AV) (ms : List Int), i + k = l.length ∧ tm.get 7 = some (.int .i64 (i : Int)) ∧ tm.get 6 = some (.int .u64 a) ∧ tm.get 4 = some w ∧ PN h1 .nils ms h w ∧ 0 ≤ a ∧ ascB a (l.drop i) = true ∧ ms ++ diffs a (l.drop i) = ns ++ diffs 0 l
def R33 (h1 : H) (A C : Nat) (ns : List Int) (tm : T AV) (h : H) : Prop := At33 A C tm ∧ ∃ w, tm.get 4 = some w ∧ PN h1 .nils ns h w
theorem diffs_len : ∀ (a : Int) (l : List Int), (diffs a l).length = l.length
  | a, [] => rfl
  | a, x :: l => by rw [diffs, List.length_cons, diffs_len x l, List.length_cons]
@[go_sem] theorem cfg16_get4 (c : CfgT) (cv : AV) : (cfgC c cv)[4]? = some (.int .u8 c.kind) := by unfold cfgC; rfl
@[go_sem] theorem cfg16_get5 (c : CfgT) (cv : AV) : (cfgC c cv)[5]? = some (.int .i64 c.n) := by unfold cfgC; rfl
@[go_sem] theorem cfg16_get6 (c : CfgT) (cv : AV) : (cfgC c cv)[6]? = some cv := by unfold cfgC; rfl
set_option maxRecDepth 4000 in
theorem step33c (P : Program) {call : CallE} {h1 : H} {A C : Nat} {c : CfgT} {cv pv kv : AV} {ps : List (List OpT)} {ks : List Int} (sc : Sc33 h1 A C c cv pv kv ps ks) {ns : List Int} (hlt : ∀ x ∈ c.cuts, inU x) (hn : ns.length ≤ 10000) (hc : c.cuts.length ≤ 64) (k : Nat) (tm : T AV) (h : H) (hI : I33c h1 A C ns c.cuts k tm h) :
    WC P call c33_l19 (loopQ 2 (fun tm h => ∃ j, j < k ∧ I33c h1 A C ns c.cuts j tm h) (R33 h1 A C (ns ++ diffs 0 c.cuts)) (fun _ _ => False)) tm h := by
  obtain ⟨⟨t1, t3⟩, i, a, w, ms, hik, t7, t6, t4, pn, ha0, hasc, hns⟩ := hI
  have gC := (pn.get sc.lC).trans sc.gC
  have vl := sc.cu.lenA
  rw [List.length_map] at vl
  cases k with
  | zero =>
    have e1 : ¬ (i : Int) < (c.cuts.length : Int) := by omega
    simp only [go_sem, ↓reduceIte, ↓reduceDIte, zA, zM, zL, zE, zD, yA, yE, yL, yQ, yT, reduceCtorEq, c33_l19, t3, t7, gC, vl, e1]
    rw [List.drop_eq_nil_of_le (by omega)] at hns
    have e2 : ms = ns ++ diffs 0 c.cuts := by rw [← hns]; exact (List.append_nil ms).symm
    rw [← e2]
    exact ⟨⟨by simp [go_sem, t1], by simp [go_sem, t3]⟩, w, by simp [go_sem, t4], pn⟩
  | succ k =>
    have e1 : (i : Int) < (c.cuts.length : Int) := by omega
    have hi : i < c.cuts.length := by omega
    have hcu := sc.cu.keep (h' := h) fun b hb => pn.get (sc.cul b hb)
    rcases id hcu with ⟨_, hh⟩ | ⟨a', o, cap, rfl, _, ra⟩
    · rw [List.map_eq_nil_iff] at hh; rw [hh] at hi; simp at hi
    have hav := ra i (.int .u64 c.cuts[i]) (by simp [hi])
    rw [rLdA, Nat.mul_one] at hav
    rw [List.length_map] at gC vl
    rw [List.drop_eq_getElem_cons hi, ascB] at hasc
    rw [List.drop_eq_getElem_cons hi, diffs] at hns
    have hgt : a < c.cuts[i] := by
      by_cases hx : c.cuts[i] ≤ a
      · rw [if_pos hx] at hasc; cases hasc
      · omega
    rw [if_neg (by omega)] at hasc
    obtain ⟨x1, x2⟩ := hlt c.cuts[i] (List.getElem_mem hi)
    have f1 : fw .i64 ((i : Int) + 1) = (i : Int) + 1 := fwI (by omega) (by omega)
    have f2 : fw .u64 (c.cuts[i] - a) = c.cuts[i] - a := fwU (by omega) (by omega)
    have e3 : ((i + 1 : Nat) : Int) = (i : Int) + 1 := rfl
    have hml : ms.length ≤ 20000 := by
      have := congrArg List.length hns
      rw [List.length_append, List.length_append, diffs_len] at this
      omega
    simp only [go_sem, ↓reduceIte, ↓reduceDIte, zA, zM, zL, zE, zD, yA, yE, yL, yQ, yT, reduceCtorEq, c33_l19, t3, t4, t6, t7, gC, vl, e1, Nat.mul_one, hav, f2]
    refine opt_app1 pn (by omega) fun w' h' pn' => ?_
    have gC' := (pn'.get sc.lC).trans sc.gC
    have hav' : both1 (h'.t.get a') (ldO none (o + i)) = some (.int .u64 c.cuts[i]) := by
      rw [pn'.get (sc.cul a' rfl), ← pn.get (sc.cul a' rfl)]
      exact hav
    rw [List.length_map] at gC'
    simp only [go_sem, ↓reduceIte, ↓reduceDIte, zA, zM, zL, zE, zD, yA, yE, yL, yQ, yT, reduceCtorEq, t3, t7, gC', vl, e1, Nat.mul_one, hav', f1]
    exact ⟨k, Nat.lt_succ_self k, ⟨by simp [go_sem, t1], by simp [go_sem, t3]⟩, i + 1, c.cuts[i], w', _, by omega, by simp [go_sem, e3], by simp [go_sem], by simp [go_sem], pn', x1, hasc, by rw [← hns, List.append_assoc]; rfl⟩

/-- the slots of the loops over programs and operations -/
structure Ti33 (A C : Nat) (i j : Int) (D : Nat) (tm : T AV) : Prop where
  at' : At33 A C tm
  t8 : tm.get 8 = some (.int .i64 i)
  t9 : tm.get 9 = some (.int .i64 j)
def I33f (h1 : H) (A C : Nat) (i j : Int) (D : Nat) (x : OpT) (v : AV) (ns : List Int) (k : Nat) (tm : T AV) (h : H) : Prop :=
  Ti33 A C i j D tm ∧ tm.get 11 = some v ∧ ∃ (q : Nat) (w : AV) (ms : List Int), q + k = 6 ∧ tm.get 12 = some (.int .i64 (q : Int)) ∧ tm.get 4 = some w ∧ PN h1 .nils ms h w ∧ RdL none 1 h v ((fldL x).map fun x : Int => AV.int .u64 x) ∧ (∀ b, own v = some b → own w ≠ some b ∧ b < h.next) ∧ ms.length ≤ ns.length + q ∧
    ms ++ ((fldL x).drop q).filter (fun y => decide (y ≠ 0)) = ns ++ (fldL x).filter fun y => decide (y ≠ 0)
theorem step33f (P : Program) {call : CallE} {h1 : H} {A C : Nat} {i j : Int} {D : Nat} {x : OpT} {v : AV} {ns : List Int} (hn : ns.length ≤ 10000000) (k : Nat) (tm : T AV) (h : H) (hI : I33f h1 A C i j D x v ns k tm h) :
    WC P call c33_l33 (loopQ 8 (fun tm h => ∃ q, q < k ∧ I33f h1 A C i j D x v ns q tm h) (fun tm h => Ti33 A C i j D tm ∧ ∃ w, tm.get 4 = some w ∧ PN h1 .nils (ns ++ (fldL x).filter fun y => decide (y ≠ 0)) h w) (fun _ _ => False)) tm h := by
  obtain ⟨⟨⟨t1, t3⟩, t8, t9⟩, t11, q, w, ms, hqk, t12, t4, pn, hv, hvk, hml, hms⟩ := hI
  have vl := hv.lenA
  rw [List.length_map] at vl
  have hl6 : ((fldL x).length : Int) = 6 := rfl
  have hl6n : (fldL x).length = 6 := rfl
  rw [hl6] at vl
  cases k with
  | zero =>
    have e1 : ¬ (q : Int) < 6 := by omega
    obtain rfl : q = 6 := by omega
    simp only [go_sem, ↓reduceIte, ↓reduceDIte, zA, zM, zL, zE, zD, yA, yE, yL, yQ, yT, reduceCtorEq, c33_l33, t11, t12, vl, e1]
    have e2 : ms = ns ++ (fldL x).filter fun y => decide (y ≠ 0) := by rw [← hms]; exact (List.append_nil ms).symm
    rw [← e2]
    exact ⟨⟨⟨by simp [go_sem, t1], by simp [go_sem, t3]⟩, by simp [go_sem, t8], by simp [go_sem, t9]⟩, w, by simp [go_sem, t4], pn⟩
  | succ k =>
    have e1 : (q : Int) < 6 := by omega
    have hq : q < (fldL x).length := by omega
    rcases id hv with ⟨_, hh⟩ | ⟨b, o, cap, rfl, hle, ra⟩
    · cases hh
    have hfl : (fldL x)[q] = fld x q := by
      have := fldL_get x q (by omega)
      rw [List.getElem?_eq_getElem hq] at this
      exact Option.some.inj this
    have ha := ra q (.int .u64 (fld x q)) (by rw [List.getElem?_map, fldL_get x q (by omega)]; rfl)
    rw [rLdA, Nat.mul_one] at ha
    have e5 : (q : Int) < ((List.map (fun x : Int => AV.int .u64 x) (fldL x)).length : Int) := by rw [List.length_map, hl6]; exact e1
    have f1 : fw .i64 ((q : Int) + 1) = (q : Int) + 1 := fwI (by omega) (by omega)
    have e3 : ((q + 1 : Nat) : Int) = (q : Int) + 1 := rfl
    rw [List.drop_eq_getElem_cons hq, hfl, List.filter_cons] at hms
    by_cases h0 : fld x q = 0
    · simp only [go_sem, ↓reduceIte, ↓reduceDIte, zA, zM, zL, zE, zD, yA, yE, yL, yQ, yT, reduceCtorEq, c33_l33, t11, t12, vl, e1, e5, Nat.mul_one, ha, h0, f1]
      rw [if_neg (by simp [h0])] at hms
      exact ⟨k, Nat.lt_succ_self k, ⟨⟨by simp [go_sem, t1], by simp [go_sem, t3]⟩, by simp [go_sem, t8], by simp [go_sem, t9]⟩, by simp [go_sem, t11], q + 1, w, ms, by omega, by simp [go_sem, e3], by simp [go_sem, t4], pn, hv, hvk, by omega, hms⟩
    · simp only [go_sem, ↓reduceIte, ↓reduceDIte, zA, zM, zL, zE, zD, yA, yE, yL, yQ, yT, reduceCtorEq, c33_l33, t4, t11, t12, vl, e1, e5, Nat.mul_one, ha, h0, f1]
      obtain ⟨hk1, hk2⟩ := hvk b rfl
      have hx := Grow.stepG (n := 1) pn.ow (.row (putList 0 [.int .u64 (fld x q)] T.e) 1 43) [.int .u64 (fld x q)]
      have ov1 := pn.ow.keep (h' := ⟨h.next + 1, h.t.set h.next (.row (putList 0 [.int .u64 (fld x q)] T.e) 1 43)⟩) (Nat.le_succ _) (fun b hb => by
        have := pn.ow.lt hb
        have e0 : ¬ b = h.next := by omega
        simp only [go_sem, ↓reduceIte, ↓reduceDIte, zA, zM, zL, zE, zD, yA, yE, yL, yQ, yT, reduceCtorEq, e0])
      have ov2 := own_app (src := [.int .u64 (fld x q)]) ov1 (n := 1) (by decide) rfl
      refine opt_some (appA_own ov1 (by decide) (by decide) (by omega) (by omega)) ?_
      simp only [go_sem, ↓reduceIte, ↓reduceDIte, zA, zM, zL, zE, zD, yA, yE, yL, yQ, yT, reduceCtorEq, t12, f1]
      rw [if_pos (by simp [h0])] at hms
      refine ⟨k, Nat.lt_succ_self k, ⟨⟨by simp [go_sem, t1], by simp [go_sem, t3]⟩, by simp [go_sem, t8], by simp [go_sem, t9]⟩, by simp [go_sem, t11], q + 1, _, ms ++ [fld x q], by omega, by simp [go_sem, e3], by simp [go_sem], ⟨?_, pn.gr.trans hx⟩, hv.keep (fun c hc => ?_), fun c hc => ?_, by rw [List.length_append, List.length_cons, List.length_nil]; omega, by rw [← hms, List.append_assoc]; rfl⟩
      · rw [List.length_append, List.map_append]
        exact ov2
      · simp only [own, Option.some.injEq] at hc
        subst hc
        exact hx.old b hk2 hk1
      · simp only [own, Option.some.injEq] at hc
        subst hc
        refine ⟨?_, by rw [app_next]; show b < h.next + 1 + 1; omega⟩
        rw [own_appV]
        simp only [ne_eq, Option.some.injEq]
        omega
end
end Go.Proofs.Ytnmlfhogolonoaa
