/-
  The bytes of an operation and of a program: parts of Encode.
-/
import Derived.Test.YtnmlfhogolonoaaSoP
set_option linter.unusedVariables false
set_option linter.unusedSimpArgs false
namespace Go.Proofs.Ytnmlfhogolonoaa
open Go.Proofs.Ytnmlfhogolonoaa.Eo
open Nat renaming reduceAdd → zA, reduceMul → zM, reduceLT → zL, reduceEqDiff → zE, reduceLeDiff → zD
open Int renaming reduceAdd → yA, reduceLE → yE, reduceLT → yL, reduceEq → yQ, reduceToNat → yT
noncomputable section
/-! 13: leapfrog/script.Encode -/
@[go_sem] def c13_s0 : List SQ := [⟨some 1, none, .n (.box 31 (.t 0))⟩, ⟨some 2, none, .p (.mv (.c (.str ⟨#[]⟩)))⟩, ⟨some 3, none, .p (.mv (.c (.int .i64 0)))⟩]
@[go_sem] def c13_s1 : List SQ := [⟨some 24, none, .r (.ld (some 18) (.t 1))⟩, ⟨some 25, none, .cv (.c (.fn (.func 15) [] [])) [(.t 24)]⟩, ⟨some 4, none, .p (.mv (.t 25))⟩]
@[go_sem] def c13_s2 : List SQ := [⟨some 26, none, .p (.mv (.t 4))⟩, ⟨some 27, none, .p (.bin .neq 35 false true (.t 26) (.c (.int .i64 0)))⟩]
@[go_sem] def c13_s3 : List SQ := [⟨some 28, none, .p (.mv (.t 4))⟩, ⟨some 2, none, .p (.mv (.c (.str ⟨#[]⟩)))⟩, ⟨some 3, none, .p (.mv (.t 28))⟩]
@[go_sem] def c13_s4 : List SQ := [⟨some 29, none, .p (.fadr 0 (.t 1))⟩, ⟨some 30, none, .r (.ld (some 16) (.t 29))⟩, ⟨some 5, none, .n (.new 27 [.int .i64 0, .int .i64 0, .int .u8 0, .int .i64 0, .int .u8 0, .int .i64 0, .nils, .int .i64 0, .int .i64 0, .int .i64 0, .int .i64 0, .int .i64 0, .int .i64 0, .int .i64 0, .int .i64 0, .int .i64 0])⟩, ⟨none, none, .e (.st 16 (.t 5) (.t 30))⟩]
@[go_sem] def c13_s5 : List SQ := [⟨some 6, none, .p (.mv (.c .nils))⟩]
@[go_sem] def c13_p6 : List (List DQ × Option DQ) := [([⟨0, [(6, none)], none, .p (.mv (.t 6))⟩, ⟨1, [(5, none)], none, .p (.fadr 0 (.t 5))⟩, ⟨2, [(32, (some 1))], none, .r (.ld none (.t 32))⟩, ⟨4, [(5, none)], none, .p (.fadr 1 (.t 5))⟩, ⟨5, [(35, (some 4))], none, .r (.ld none (.t 35))⟩], (some ⟨3, [(31, (some 0)), (33, (some 2))], none, .cv (.c (.fn (.func 27) [] [])) [(.t 31), (.t 33)]⟩)), ([], (some ⟨6, [(34, (some 3)), (36, (some 5))], none, .cv (.c (.fn (.func 27) [] [])) [(.t 34), (.t 36)]⟩)), ([⟨7, [(37, (some 6))], none, .p (.mv (.t 37))⟩], none)]
@[go_sem] def c13_p7 : List (List DQ × Option DQ) := [([⟨0, [(6, none)], none, .p (.mv (.t 6))⟩, ⟨1, [(5, none)], none, .p (.fadr 2 (.t 5))⟩, ⟨2, [(39, (some 1))], none, .r (.ld none (.t 39))⟩, ⟨4, [(5, none)], none, .p (.fadr 3 (.t 5))⟩, ⟨5, [(42, (some 4))], none, .r (.ld none (.t 42))⟩], (some ⟨3, [(38, (some 0)), (40, (some 2))], none, .cv (.c (.fn (.func 28) [] [])) [(.t 38), (.t 40)]⟩)), ([], (some ⟨6, [(41, (some 3)), (43, (some 5))], none, .cv (.c (.fn (.func 27) [] [])) [(.t 41), (.t 43)]⟩)), ([⟨7, [(44, (some 6))], none, .p (.mv (.t 44))⟩], none)]
@[go_sem] def c13_p8 : List (List DQ × Option DQ) := [([⟨0, [(6, none)], none, .p (.mv (.t 6))⟩, ⟨1, [(5, none)], none, .p (.fadr 13 (.t 5))⟩, ⟨2, [(46, (some 1))], none, .r (.ld none (.t 46))⟩, ⟨4, [(5, none)], none, .p (.fadr 14 (.t 5))⟩, ⟨5, [(49, (some 4))], none, .r (.ld none (.t 49))⟩, ⟨7, [(5, none)], none, .p (.fadr 15 (.t 5))⟩, ⟨8, [(52, (some 7))], none, .r (.ld none (.t 52))⟩], (some ⟨3, [(45, (some 0)), (47, (some 2))], none, .cv (.c (.fn (.func 27) [] [])) [(.t 45), (.t 47)]⟩)), ([], (some ⟨6, [(48, (some 3)), (50, (some 5))], none, .cv (.c (.fn (.func 27) [] [])) [(.t 48), (.t 50)]⟩)), ([], (some ⟨9, [(51, (some 6)), (53, (some 8))], none, .cv (.c (.fn (.func 27) [] [])) [(.t 51), (.t 53)]⟩)), ([⟨10, [(54, (some 9))], none, .p (.mv (.t 54))⟩], none)]
@[go_sem] def c13_s9 : List SQ := [⟨some 55, none, .p (.fadr 7 (.t 5))⟩, ⟨some 56, none, .r (.ld (some 6) (.t 55))⟩, ⟨some 57, none, .p (.mv (.c (.int .i64 0)))⟩]
@[go_sem] def c13_s10 : List SQ := [⟨some 58, none, .p (.bin .lss 3 false true (.t 57) (.c (.int .i64 6)))⟩]
@[go_sem] def c13_s11 : List SQ := [⟨some 59, none, .p (.idxA 6 3 1 (.t 56) (.t 57))⟩, ⟨some 8, none, .p (.mv (.t 59))⟩]
@[go_sem] def c13_s12 : List SQ := [⟨some 60, none, .p (.mv (.t 6))⟩, ⟨some 61, none, .p (.mv (.t 8))⟩, ⟨some 62, none, .cv (.c (.fn (.func 27) [] [])) [(.t 60), (.t 61)]⟩, ⟨some 6, none, .p (.mv (.t 62))⟩]
@[go_sem] def c13_s13 : List SQ := [⟨some 63, none, .p (.bin .add 3 false true (.t 57) (.c (.int .i64 1)))⟩, ⟨some 57, none, .p (.mv (.t 63))⟩]
def c13_l14 : CC := (.seq (.ops c13_s10) (.seq (.cond (.t 58) .skip (.exit 0)) (.seq (.block 1 (.seq (.ops c13_s11) (.ops c13_s12))) (.ops c13_s13))))
@[go_sem] def c13_s15 : List SQ := [⟨some 64, none, .p (.mv (.t 6))⟩, ⟨some 65, none, .p (.fadr 4 (.t 5))⟩, ⟨some 66, none, .p (.fadr 0 (.t 65))⟩, ⟨some 67, none, .r (.ld none (.t 66))⟩, ⟨some 68, none, .cv (.c (.fn (.func 28) [] [])) [(.t 64), (.t 67)]⟩, ⟨some 6, none, .p (.mv (.t 68))⟩]
@[go_sem] def c13_s16 : List SQ := [⟨some 69, none, .p (.fadr 4 (.t 5))⟩, ⟨some 70, none, .p (.fadr 0 (.t 69))⟩, ⟨some 71, none, .r (.ld none (.t 70))⟩]
@[go_sem] def c13_s17 : List SQ := [⟨some 73, none, .p (.bin .eql 5 false true (.t 71) (.c (.int .u8 2)))⟩, ⟨some 72, none, .p (.mv (.t 73))⟩]
@[go_sem] def c13_s18 : List SQ := [⟨some 74, none, .p (.mv (.t 6))⟩, ⟨some 75, none, .p (.fadr 4 (.t 5))⟩, ⟨some 76, none, .p (.fadr 1 (.t 75))⟩, ⟨some 77, none, .r (.ld none (.t 76))⟩, ⟨some 78, none, .cv (.c (.fn (.func 27) [] [])) [(.t 74), (.t 77)]⟩, ⟨some 6, none, .p (.mv (.t 78))⟩]
@[go_sem] def c13_s19 : List SQ := [⟨some 80, none, .p (.bin .eql 5 false true (.t 71) (.c (.int .u8 3)))⟩, ⟨some 79, none, .p (.mv (.t 80))⟩]
@[go_sem] def c13_s20 : List SQ := [⟨some 81, none, .p (.mv (.t 6))⟩, ⟨some 82, none, .p (.fadr 4 (.t 5))⟩, ⟨some 83, none, .p (.fadr 2 (.t 82))⟩, ⟨some 84, none, .r (.ld none (.t 83))⟩, ⟨some 85, none, .p (.lenv (.t 84))⟩, ⟨some 86, none, .cv (.c (.fn (.func 27) [] [])) [(.t 81), (.t 85)]⟩, ⟨some 6, none, .p (.mv (.t 86))⟩]
@[go_sem] def c13_s21 : List SQ := [⟨some 9, none, .p (.mv (.c (.int .u64 0)))⟩]
@[go_sem] def c13_s22 : List SQ := [⟨some 87, none, .p (.fadr 4 (.t 5))⟩, ⟨some 88, none, .p (.fadr 2 (.t 87))⟩, ⟨some 89, none, .r (.ld none (.t 88))⟩, ⟨some 90, none, .p (.lenv (.t 89))⟩, ⟨some 91, none, .p (.mv (.c (.int .i64 0)))⟩]
@[go_sem] def c13_s23 : List SQ := [⟨some 92, none, .p (.bin .lss 3 false false (.t 91) (.t 90))⟩]
@[go_sem] def c13_s24 : List SQ := [⟨some 93, none, .p (.iadrS 1 (.t 89) (.t 91))⟩, ⟨some 94, none, .r (.ld none (.t 93))⟩, ⟨some 11, none, .p (.mv (.t 94))⟩]
@[go_sem] def c13_s25 : List SQ := [⟨some 95, none, .p (.mv (.t 6))⟩, ⟨some 96, none, .p (.mv (.t 11))⟩, ⟨some 97, none, .p (.mv (.t 9))⟩, ⟨some 98, none, .p (.bin .sub 43 false false (.t 96) (.t 97))⟩, ⟨some 99, none, .cv (.c (.fn (.func 29) [] [])) [(.t 95), (.t 98)]⟩, ⟨some 6, none, .p (.mv (.t 99))⟩]
@[go_sem] def c13_s26 : List SQ := [⟨some 100, none, .p (.mv (.t 11))⟩, ⟨some 9, none, .p (.mv (.t 100))⟩]
@[go_sem] def c13_s27 : List SQ := [⟨some 101, none, .p (.bin .add 3 false true (.t 91) (.c (.int .i64 1)))⟩, ⟨some 91, none, .p (.mv (.t 101))⟩]
def c13_l28 : CC := (.seq (.ops c13_s23) (.seq (.cond (.t 92) .skip (.exit 3)) (.seq (.block 4 (.seq (.ops c13_s24) (.seq (.ops c13_s25) (.ops c13_s26)))) (.ops c13_s27))))
@[go_sem] def c13_s29 : List SQ := [⟨some 102, none, .p (.fadr 16 (.t 1))⟩, ⟨some 103, none, .r (.ld none (.t 102))⟩, ⟨some 104, none, .p (.lenv (.t 103))⟩, ⟨some 105, none, .p (.mv (.c (.int .i64 0)))⟩]
@[go_sem] def c13_s30 : List SQ := [⟨some 106, none, .p (.bin .lss 3 false false (.t 105) (.t 104))⟩]
@[go_sem] def c13_s31 : List SQ := [⟨some 107, none, .p (.iadrS 1 (.t 103) (.t 105))⟩, ⟨some 108, none, .r (.ld none (.t 107))⟩, ⟨some 13, none, .p (.mv (.t 108))⟩]
@[go_sem] def c13_s32 : List SQ := [⟨some 109, none, .p (.mv (.t 6))⟩, ⟨some 110, none, .p (.mv (.t 13))⟩, ⟨some 111, none, .p (.lenv (.t 110))⟩, ⟨some 112, none, .cv (.c (.fn (.func 27) [] [])) [(.t 109), (.t 111)]⟩, ⟨some 6, none, .p (.mv (.t 112))⟩]
@[go_sem] def c13_s33 : List SQ := [⟨some 113, none, .p (.mv (.t 13))⟩, ⟨some 114, none, .p (.lenv (.t 113))⟩, ⟨some 115, none, .p (.mv (.c (.int .i64 0)))⟩]
@[go_sem] def c13_s34 : List SQ := [⟨some 116, none, .p (.bin .lss 3 false false (.t 115) (.t 114))⟩]
@[go_sem] def c13_s35 : List SQ := [⟨some 117, none, .p (.iadrS 7 (.t 113) (.t 115))⟩, ⟨some 118, none, .r (.ld (some 7) (.t 117))⟩, ⟨some 15, none, .n (.new 45 [.int .u8 0, .int .u64 0, .int .u64 0, .int .u64 0, .int .u64 0, .int .u64 0, .int .u64 0])⟩, ⟨none, none, .e (.st 7 (.t 15) (.t 118))⟩]
@[go_sem] def c13_s36 : List SQ := [⟨some 119, none, .p (.mv (.t 6))⟩, ⟨some 120, none, .p (.fadr 0 (.t 15))⟩, ⟨some 121, none, .r (.ld none (.t 120))⟩, ⟨some 122, none, .cv (.c (.fn (.func 28) [] [])) [(.t 119), (.t 121)]⟩, ⟨some 6, none, .p (.mv (.t 122))⟩]
@[go_sem] def c13_s37 : List SQ := [⟨some 16, none, .p (.mv (.c (.int .i64 0)))⟩]
@[go_sem] def c13_s38 : List SQ := [⟨some 123, none, .cv (.c (.fn (.func 30) [] [])) [(.t 15)]⟩, ⟨some 124, none, .p (.lenv (.t 123))⟩, ⟨some 125, none, .p (.mv (.c (.int .i64 0)))⟩]
@[go_sem] def c13_s39 : List SQ := [⟨some 126, none, .p (.bin .lss 3 false false (.t 125) (.t 124))⟩]
@[go_sem] def c13_s40 : List SQ := [⟨some 127, none, .p (.mv (.t 125))⟩, ⟨some 128, none, .p (.iadrS 1 (.t 123) (.t 125))⟩, ⟨some 129, none, .r (.ld none (.t 128))⟩, ⟨some 17, none, .p (.mv (.t 127))⟩, ⟨some 18, none, .p (.mv (.t 129))⟩]
@[go_sem] def c13_s41 : List SQ := [⟨some 130, none, .p (.mv (.t 18))⟩, ⟨some 131, none, .p (.nilck (.t 130))⟩, ⟨some 132, none, .r (.ld none (.t 131))⟩, ⟨some 133, none, .p (.bin .neq 43 false true (.t 132) (.c (.int .u64 0)))⟩]
@[go_sem] def c13_s42 : List SQ := [⟨some 134, none, .p (.mv (.t 16))⟩, ⟨some 135, none, .p (.mv (.t 17))⟩, ⟨some 136, none, .p (.bin .shl 3 true false (.c (.int .i64 1)) (.t 135))⟩, ⟨some 137, none, .p (.bin .or 3 false false (.t 134) (.t 136))⟩, ⟨some 16, none, .p (.mv (.t 137))⟩]
@[go_sem] def c13_s43 : List SQ := [⟨some 138, none, .p (.bin .add 3 false true (.t 125) (.c (.int .i64 1)))⟩, ⟨some 125, none, .p (.mv (.t 138))⟩]
def c13_l44 : CC := (.seq (.ops c13_s39) (.seq (.cond (.t 126) .skip (.exit 9)) (.seq (.block 10 (.seq (.ops c13_s40) (.seq (.ops c13_s41) (.cond (.t 133) (.ops c13_s42) .skip)))) (.ops c13_s43))))
@[go_sem] def c13_s45 : List SQ := [⟨some 139, none, .p (.mv (.t 6))⟩, ⟨some 140, none, .p (.mv (.t 16))⟩, ⟨some 141, none, .cv (.c (.fn (.func 27) [] [])) [(.t 139), (.t 140)]⟩, ⟨some 6, none, .p (.mv (.t 141))⟩]
@[go_sem] def c13_s46 : List SQ := [⟨some 142, none, .cv (.c (.fn (.func 30) [] [])) [(.t 15)]⟩, ⟨some 143, none, .p (.lenv (.t 142))⟩, ⟨some 144, none, .p (.mv (.c (.int .i64 0)))⟩]
@[go_sem] def c13_s47 : List SQ := [⟨some 145, none, .p (.bin .lss 3 false false (.t 144) (.t 143))⟩]
@[go_sem] def c13_s48 : List SQ := [⟨some 146, none, .p (.iadrS 1 (.t 142) (.t 144))⟩, ⟨some 147, none, .r (.ld none (.t 146))⟩, ⟨some 20, none, .p (.mv (.t 147))⟩]
@[go_sem] def c13_s49 : List SQ := [⟨some 148, none, .p (.mv (.t 20))⟩, ⟨some 149, none, .p (.nilck (.t 148))⟩, ⟨some 150, none, .r (.ld none (.t 149))⟩, ⟨some 151, none, .p (.bin .neq 43 false true (.t 150) (.c (.int .u64 0)))⟩]
@[go_sem] def c13_s50 : List SQ := [⟨some 152, none, .p (.mv (.t 6))⟩, ⟨some 153, none, .p (.mv (.t 20))⟩, ⟨some 154, none, .p (.nilck (.t 153))⟩, ⟨some 155, none, .r (.ld none (.t 154))⟩, ⟨some 156, none, .cv (.c (.fn (.func 29) [] [])) [(.t 152), (.t 155)]⟩, ⟨some 6, none, .p (.mv (.t 156))⟩]
@[go_sem] def c13_s51 : List SQ := [⟨some 157, none, .p (.bin .add 3 false true (.t 144) (.c (.int .i64 1)))⟩, ⟨some 144, none, .p (.mv (.t 157))⟩]
def c13_l52 : CC := (.seq (.ops c13_s47) (.seq (.cond (.t 145) .skip (.exit 11)) (.seq (.block 12 (.seq (.ops c13_s48) (.seq (.ops c13_s49) (.cond (.t 151) (.ops c13_s50) .skip)))) (.ops c13_s51))))
@[go_sem] def c13_s53 : List SQ := [⟨some 158, none, .p (.bin .add 3 false true (.t 115) (.c (.int .i64 1)))⟩, ⟨some 115, none, .p (.mv (.t 158))⟩]
def c13_l54 : CC := (.seq (.ops c13_s34) (.seq (.cond (.t 116) .skip (.exit 7)) (.seq (.block 8 (.seq (.ops c13_s35) (.seq (.ops c13_s36) (.seq (.ops c13_s37) (.seq (.seq (.ops c13_s38) (.block 9 (.loop c13_l44))) (.seq (.ops c13_s45) (.seq (.ops c13_s46) (.block 11 (.loop c13_l52))))))))) (.ops c13_s53))))
@[go_sem] def c13_s55 : List SQ := [⟨some 159, none, .p (.bin .add 3 false true (.t 105) (.c (.int .i64 1)))⟩, ⟨some 105, none, .p (.mv (.t 159))⟩]
def c13_l56 : CC := (.seq (.ops c13_s30) (.seq (.cond (.t 106) .skip (.exit 5)) (.seq (.block 6 (.seq (.ops c13_s31) (.seq (.ops c13_s32) (.seq (.ops c13_s33) (.block 7 (.loop c13_l54)))))) (.ops c13_s55))))
@[go_sem] def c13_s57 : List SQ := [⟨some 160, none, .p (.fadr 17 (.t 1))⟩, ⟨some 161, none, .r (.ld none (.t 160))⟩, ⟨some 162, none, .cv (.c (.fn (.func 31) [] [])) [(.t 161)]⟩, ⟨some 21, none, .p (.mv (.t 162))⟩]
@[go_sem] def c13_s58 : List SQ := [⟨some 163, none, .p (.mv (.t 6))⟩, ⟨some 164, none, .p (.mv (.t 21))⟩, ⟨some 165, none, .p (.lenv (.t 164))⟩, ⟨some 166, none, .cv (.c (.fn (.func 27) [] [])) [(.t 163), (.t 165)]⟩, ⟨some 6, none, .p (.mv (.t 166))⟩]
@[go_sem] def c13_s59 : List SQ := [⟨some 167, none, .p (.mv (.t 21))⟩, ⟨some 168, none, .p (.lenv (.t 167))⟩, ⟨some 169, none, .p (.mv (.c (.int .i64 0)))⟩]
@[go_sem] def c13_s60 : List SQ := [⟨some 170, none, .p (.bin .lss 3 false false (.t 169) (.t 168))⟩]
@[go_sem] def c13_s61 : List SQ := [⟨some 171, none, .p (.iadrS 2 (.t 167) (.t 169))⟩, ⟨some 172, none, .r (.ld (some 2) (.t 171))⟩, ⟨some 23, none, .n (.new 62 [.int .i64 0, .int .i64 0])⟩, ⟨none, none, .e (.st 2 (.t 23) (.t 172))⟩]
@[go_sem] def c13_p62 : List (List DQ × Option DQ) := [([⟨0, [(6, none)], none, .p (.mv (.t 6))⟩, ⟨1, [(23, none)], none, .p (.iadrA 2 1 (.t 23) (.c (.int .i64 0)))⟩, ⟨2, [(174, (some 1))], none, .r (.ld none (.t 174))⟩, ⟨4, [(23, none)], none, .p (.iadrA 2 1 (.t 23) (.c (.int .i64 1)))⟩, ⟨5, [(177, (some 4))], none, .r (.ld none (.t 177))⟩], (some ⟨3, [(173, (some 0)), (175, (some 2))], none, .cv (.c (.fn (.func 27) [] [])) [(.t 173), (.t 175)]⟩)), ([], (some ⟨6, [(176, (some 3)), (178, (some 5))], none, .cv (.c (.fn (.func 27) [] [])) [(.t 176), (.t 178)]⟩)), ([⟨7, [(179, (some 6))], none, .p (.mv (.t 179))⟩], none)]
@[go_sem] def c13_s63 : List SQ := [⟨some 180, none, .p (.bin .add 3 false true (.t 169) (.c (.int .i64 1)))⟩, ⟨some 169, none, .p (.mv (.t 180))⟩]
def c13_l64 : CC := (.seq (.ops c13_s60) (.seq (.cond (.t 170) .skip (.exit 13)) (.seq (.block 14 (.seq (.ops c13_s61) (.drw ⟨c13_p62, [(0, 173), (1, 174), (2, 175), (3, 176), (4, 177), (5, 178), (6, 179), (7, 6)], [(⟨5, [(177, (some 4))], none, .r (.ld none (.t 177))⟩, [1])]⟩))) (.ops c13_s63))))
@[go_sem] def c13_s65 : List SQ := [⟨some 181, none, .p (.mv (.t 6))⟩, ⟨some 182, none, .p (.lenv (.t 181))⟩, ⟨some 183, none, .p (.bin .gtr 3 false true (.t 182) (.c (.int .i64 65536)))⟩]
@[go_sem] def c13_s66 : List SQ := [⟨some 2, none, .p (.mv (.c (.str ⟨#[]⟩)))⟩, ⟨some 3, none, .p (.mv (.c (.int .i64 5)))⟩]
@[go_sem] def c13_s67 : List SQ := [⟨some 184, none, .p (.mv (.t 6))⟩, ⟨some 185, none, .s (.b2s (.t 184))⟩, ⟨some 2, none, .p (.mv (.t 185))⟩, ⟨some 3, none, .p (.mv (.c (.int .i64 0)))⟩]
@[go_sem] def c13 : CF := ⟨1, (.seq (.ops c13_s0) (.seq (.seq (.ops c13_s1) (.seq (.ops c13_s2) (.cond (.t 27) (.seq (.ops c13_s3) .ret) .skip))) (.seq (.ops c13_s4) (.seq (.ops c13_s5) (.seq (.drw ⟨c13_p6, [(0, 31), (1, 32), (2, 33), (3, 34), (4, 35), (5, 36), (6, 37), (7, 6)], [(⟨5, [(35, (some 4))], none, .r (.ld none (.t 35))⟩, [1])]⟩) (.seq (.drw ⟨c13_p7, [(0, 38), (1, 39), (2, 40), (3, 41), (4, 42), (5, 43), (6, 44), (7, 6)], [(⟨5, [(42, (some 4))], none, .r (.ld none (.t 42))⟩, [1])]⟩) (.seq (.drw ⟨c13_p8, [(0, 45), (1, 46), (2, 47), (3, 48), (4, 49), (5, 50), (6, 51), (7, 52), (8, 53), (9, 54), (10, 6)], [(⟨5, [(49, (some 4))], none, .r (.ld none (.t 49))⟩, [1]), (⟨8, [(52, (some 7))], none, .r (.ld none (.t 52))⟩, [1, 2])]⟩) (.seq (.seq (.ops c13_s9) (.block 0 (.loop c13_l14))) (.seq (.ops c13_s15) (.seq (.seq (.ops c13_s16) (.block 2 (.seq (.ops c13_s17) (.cond (.t 72) (.ops c13_s18) (.seq (.ops c13_s19) (.cond (.t 79) (.seq (.ops c13_s20) (.seq (.ops c13_s21) (.seq (.ops c13_s22) (.block 3 (.loop c13_l28))))) .skip)))))) (.seq (.seq (.ops c13_s29) (.block 5 (.loop c13_l56))) (.seq (.ops c13_s57) (.seq (.ops c13_s58) (.seq (.seq (.ops c13_s59) (.block 13 (.loop c13_l64))) (.seq (.seq (.ops c13_s65) (.cond (.t 183) (.seq (.ops c13_s66) .ret) .skip)) (.seq (.ops c13_s67) .ret)))))))))))))))), [.tmp 2, .tmp 3]⟩
theorem c13_eq : cCF Try.prog 13 1 = some c13 := by kernel_rfl

/-- the bytes of a number that is not negative -/
def pI (x : Int) : List Int := putB x.toNat
theorem pI_len {x : Int} (h : x < 18446744073709551616) : (pI x).length ≤ 10 := putB_len10 (by omega)
/-- a slice of bytes that grew -/
structure PB (h : H) (b : AV) (bs : List Int) (h' : H) (v : AV) : Prop where
  ow : Own 1 5 h' v bs.length (byV bs)
  gr : Grow h b h' v
theorem PB.trans {h h1 h2 : H} {b v w : AV} {bs cs : List Int} (p : PB h b bs h1 v) (q : PB h1 v cs h2 w) : PB h b cs h2 w := ⟨q.ow, p.gr.trans q.gr⟩
theorem Grow.new (h : H) (b : AV) (x : AO) : Grow h b ⟨h.next + 1, h.t.set h.next x⟩ b := ⟨Nat.le_succ _, fun c hc _ => by
  have e0 : ¬ c = h.next := by omega
  simp only [go_sem, ↓reduceIte, ↓reduceDIte, zA, zM, zL, zE, zD, yA, yE, yL, yQ, yT, reduceCtorEq, e0], fun a ha => .inl ha⟩
theorem Own.grow {h h' : H} {es : Nat} {e : TypeId} {v : AV} {len : Nat} {cs : List AV} (o : Own es e h v len cs) (st : StepN h h') : Own es e h' v len cs := o.keep st.next fun b hb => st.old b (o.lt hb)
theorem Grow.stepN {h h' : H} (st : StepN h h') (b : AV) : Grow h b h' b := ⟨st.next, fun c hc _ => st.old c hc, fun a ha => .inl ha⟩
theorem PB.stepN {h h1 h2 : H} {b v : AV} {bs : List Int} (p : PB h b bs h1 v) (st : StepN h1 h2) : PB h b bs h2 v := ⟨Own.grow p.ow st, p.gr.trans (Grow.stepN st v)⟩
/-- what a put does -/
def PutF (call : CallE) (f : FuncId) (k : IntKind) : Prop := ∀ h b bs (x : Int), Own 1 5 h b bs.length (byV bs) → 0 ≤ x → x < 18446744073709551616 → bs.length ≤ 1073741824 → ∃ v h', call f [b, .int k x] h = some (v, h') ∧ PB h b (bs ++ pI x) h' v
theorem PostPut.pb {h h' : H} {b v : AV} {bs : List Int} {n : Nat} (p : PostPut b bs.length bs n h v h') : PB h b (bs ++ putB n) h' v := ⟨by have := p.1; rw [List.length_append]; exact this, p.2⟩
/-! ### An operation -/
def fld (x : OpT) : Nat → Int
  | 0 => x.2.1
  | 1 => x.2.2.1
  | 2 => x.2.2.2.1
  | 3 => x.2.2.2.2.1
  | 4 => x.2.2.2.2.2.1
  | 5 => x.2.2.2.2.2.2
  | _ => 0
def opR (x : OpT) : Prop := (0 ≤ x.1 ∧ x.1 < 256) ∧ ∀ i, 0 ≤ fld x i ∧ fld x i < 18446744073709551616
theorem opC_get (x : OpT) : ∀ i, i < 6 → (opC x)[i + 1]? = some (.int .u64 (fld x i))
  | 0, _ => rfl
  | 1, _ => rfl
  | 2, _ => rfl
  | 3, _ => rfl
  | 4, _ => rfl
  | 5, _ => rfl
  | n + 6, h => by omega
def ptrs (D : Nat) : List AV := [.ptr D 1, .ptr D 2, .ptr D 3, .ptr D 4, .ptr D 5, .ptr D 6]
theorem ptrs_get (D : Nat) : ∀ i, i < 6 → (ptrs D)[i]? = some (.ptr D (i + 1))
  | 0, _ => rfl
  | 1, _ => rfl
  | 2, _ => rfl
  | 3, _ => rfl
  | 4, _ => rfl
  | 5, _ => rfl
  | n + 6, h => by omega
def mk (x : OpT) : Nat → Int
  | 0 => 0
  | i + 1 => if fld x i = 0 then mk x i else mk x i + 2 ^ i
theorem mk_bound (x : OpT) : ∀ i, 0 ≤ mk x i ∧ mk x i < 2 ^ i
  | 0 => by rw [mk]; exact ⟨Int.le_refl _, by decide⟩
  | i + 1 => by
    obtain ⟨a, b⟩ := mk_bound x i
    rw [mk, Int.pow_succ]
    split <;> omega
theorem or_tab : ∀ i : Fin 6, ∀ m : Fin 32, m.1 < 2 ^ i.1 → orI .i64 (m.1 : Int) (fw .i64 (1 * 2 ^ (min i.1 64))) = (m.1 : Int) + 2 ^ i.1 := by decide
theorem or_mk {i : Nat} {m : Int} (hi : i < 6) (h0 : 0 ≤ m) (h1 : m < 2 ^ i) : orI .i64 m (fw .i64 (1 * 2 ^ (min i 64))) = m + 2 ^ i := by
  obtain ⟨n, rfl⟩ : ∃ n : Nat, m = n := ⟨m.toNat, by omega⟩
  have h2 : n < 2 ^ i := by exact_mod_cast h1
  have h3 : n < 32 := Nat.lt_of_lt_of_le h2 (Nat.pow_le_pow_right (by decide) (show i ≤ 5 by omega))
  exact or_tab ⟨i, hi⟩ ⟨n, h3⟩ h2
def ef (x : OpT) : Nat → List Int
  | 0 => []
  | i + 1 => ef x i ++ if fld x i = 0 then [] else pI (fld x i)
theorem ef_len {x : OpT} (hx : opR x) : ∀ i, (ef x i).length ≤ 10 * i
  | 0 => Nat.le_refl _
  | i + 1 => by
    have h1 := ef_len hx i
    have h2 := pI_len (hx.2 i).2
    rw [ef, List.length_append]
    split
    · simp; omega
    · omega
def encO (x : OpT) : List Int := pI x.1 ++ pI (mk x 6) ++ ef x 6
theorem encO_len {x : OpT} (hx : opR x) : (encO x).length ≤ 80 := by
  have h1 := ef_len hx 6
  have h2 := pI_len (x := x.1) (by have := hx.1; omega)
  have h3 := pI_len (x := mk x 6) (by have := (mk_bound x 6).2; omega)
  unfold encO
  rw [List.length_append, List.length_append]
  omega
def T0 (A : Nat) (pv : AV) (n i : Int) (tm : T AV) : Prop := tm.get 1 = some (.ptr A 0) ∧ tm.get 103 = some pv ∧ tm.get 104 = some (.int .i64 n) ∧ tm.get 105 = some (.int .i64 i)
def T1 (p : AV) (n j : Int) (tm : T AV) : Prop := tm.get 113 = some p ∧ tm.get 114 = some (.int .i64 n) ∧ tm.get 115 = some (.int .i64 j)
def I44 (h0 : H) (A : Nat) (pv : AV) (n i : Int) (p : AV) (m j : Int) (w v : AV) (D : Nat) (x : OpT) (k : Nat) (tm : T AV) (h : H) : Prop :=
  h = h0 ∧ T0 A pv n i tm ∧ T1 p m j tm ∧ tm.get 6 = some w ∧ tm.get 15 = some (.ptr D 0) ∧ ∃ q : Nat, q + k = 6 ∧ tm.get 123 = some v ∧ tm.get 124 = some (.int .i64 6) ∧ tm.get 125 = some (.int .i64 (q : Int)) ∧ tm.get 16 = some (.int .i64 (mk x q))
theorem step44 (P : Program) {call : CallE} {h0 : H} {A : Nat} {pv : AV} {n i : Int} {p : AV} {m j : Int} {w v : AV} {D : Nat} {x : OpT} (hv : RdL none 1 h0 v (ptrs D)) (hD : h0.t.get D = some (rowL (opC x) 45)) (hx : opR x) (k : Nat) (tm : T AV) (h : H) (hI : I44 h0 A pv n i p m j w v D x k tm h) :
    WC P call c13_l44 (loopQ 9 (fun tm h => ∃ l, l < k ∧ I44 h0 A pv n i p m j w v D x l tm h) (fun tm h => h = h0 ∧ T0 A pv n i tm ∧ T1 p m j tm ∧ tm.get 6 = some w ∧ tm.get 15 = some (.ptr D 0) ∧ tm.get 16 = some (.int .i64 (mk x 6))) (fun _ _ => False)) tm h := by
  obtain ⟨rfl, ⟨t1, t103, t104, t105⟩, ⟨t113, t114, t115⟩, t6, t15, q, hq, t123, t124, t125, t16⟩ := hI
  cases k with
  | zero =>
    have hq6 : q = 6 := by omega
    subst hq6
    have e1 : ¬ ((6 : Nat) : Int) < 6 := by omega
    simp only [go_sem, ↓reduceIte, ↓reduceDIte, zA, zM, zL, zE, zD, yA, yE, yL, yQ, yT, reduceCtorEq, c13_l44, t124, t125, e1, T0, T1, t1, t103, t104, t105, t113, t114, t115, t6, t15, t16]
  | succ k =>
    have e1 : (q : Int) < 6 := by omega
    rcases hv with ⟨_, hh⟩ | ⟨a, o, cap, rfl, _, ra⟩
    · cases hh
    have ha := ra q _ (ptrs_get D q (by omega))
    rw [rLdA, Nat.mul_one] at ha
    have hg := opC_get x q (by omega)
    have f1 : fw .i64 ((q : Int) + 1) = (q : Int) + 1 := fwI (by omega) (by omega)
    have e3 : ((q + 1 : Nat) : Int) = (q : Int) + 1 := rfl
    have e4 : (ptrs D).length = 6 := rfl
    have e5 : (q : Int) < ((6 : Nat) : Int) := e1
    have e6 : ¬ (q : Int) < 0 := by omega
    rw [e4] at t123
    obtain ⟨mb1, mb2⟩ := mk_bound x q
    have hor := or_mk (i := q) (by omega) mb1 mb2
    by_cases hz : fld x q = 0
    · simp only [go_sem, ↓reduceIte, ↓reduceDIte, zA, zM, zL, zE, zD, yA, yE, yL, yQ, yT, reduceCtorEq, c13_l44, t123, t124, t125, e1, e5, Nat.mul_one, ha, hD, hg, hz, f1]
      refine ⟨k, Nat.lt_succ_self k, rfl, ?_, ?_, ?_, ?_, q + 1, by omega, ?_, ?_, ?_, ?_⟩
      · simp only [go_sem, ↓reduceIte, ↓reduceDIte, zA, zM, zL, zE, zD, yA, yE, yL, yQ, yT, reduceCtorEq, T0, t1, t103, t104, t105]
      · simp only [go_sem, ↓reduceIte, ↓reduceDIte, zA, zM, zL, zE, zD, yA, yE, yL, yQ, yT, reduceCtorEq, T1, t113, t114, t115]
      · simp only [go_sem, ↓reduceIte, ↓reduceDIte, zA, zM, zL, zE, zD, yA, yE, yL, yQ, yT, reduceCtorEq, t6]
      · simp only [go_sem, ↓reduceIte, ↓reduceDIte, zA, zM, zL, zE, zD, yA, yE, yL, yQ, yT, reduceCtorEq, t15]
      · simp only [go_sem, ↓reduceIte, ↓reduceDIte, zA, zM, zL, zE, zD, yA, yE, yL, yQ, yT, reduceCtorEq, t123, e4]
      · simp only [go_sem, ↓reduceIte, ↓reduceDIte, zA, zM, zL, zE, zD, yA, yE, yL, yQ, yT, reduceCtorEq, t124]
      · simp only [go_sem, ↓reduceIte, ↓reduceDIte, zA, zM, zL, zE, zD, yA, yE, yL, yQ, yT, reduceCtorEq, e3]
      · simp only [go_sem, ↓reduceIte, ↓reduceDIte, zA, zM, zL, zE, zD, yA, yE, yL, yQ, yT, reduceCtorEq, t16, mk, hz]
    · simp only [go_sem, ↓reduceIte, ↓reduceDIte, zA, zM, zL, zE, zD, yA, yE, yL, yQ, yT, reduceCtorEq, c13_l44, t16, t123, t124, t125, e1, e5, e6, Nat.mul_one, ha, hD, hg, hz, f1, hor, Int.toNat_natCast]
      refine ⟨k, Nat.lt_succ_self k, rfl, ?_, ?_, ?_, ?_, q + 1, by omega, ?_, ?_, ?_, ?_⟩
      · simp only [go_sem, ↓reduceIte, ↓reduceDIte, zA, zM, zL, zE, zD, yA, yE, yL, yQ, yT, reduceCtorEq, T0, t1, t103, t104, t105]
      · simp only [go_sem, ↓reduceIte, ↓reduceDIte, zA, zM, zL, zE, zD, yA, yE, yL, yQ, yT, reduceCtorEq, T1, t113, t114, t115]
      · simp only [go_sem, ↓reduceIte, ↓reduceDIte, zA, zM, zL, zE, zD, yA, yE, yL, yQ, yT, reduceCtorEq, t6]
      · simp only [go_sem, ↓reduceIte, ↓reduceDIte, zA, zM, zL, zE, zD, yA, yE, yL, yQ, yT, reduceCtorEq, t15]
      · simp only [go_sem, ↓reduceIte, ↓reduceDIte, zA, zM, zL, zE, zD, yA, yE, yL, yQ, yT, reduceCtorEq, t123, e4]
      · simp only [go_sem, ↓reduceIte, ↓reduceDIte, zA, zM, zL, zE, zD, yA, yE, yL, yQ, yT, reduceCtorEq, t124]
      · simp only [go_sem, ↓reduceIte, ↓reduceDIte, zA, zM, zL, zE, zD, yA, yE, yL, yQ, yT, reduceCtorEq, e3]
      · simp only [go_sem, ↓reduceIte, ↓reduceDIte, zA, zM, zL, zE, zD, yA, yE, yL, yQ, yT, reduceCtorEq, t16, mk, hz]
theorem PB.get {h2 h : H} {w2 w : AV} {bs : List Int} (p : PB h2 w2 bs h w) {D : Nat} (h1 : D < h2.next) (hn : own w2 ≠ some D) : h.t.get D = h2.t.get D := p.gr.old D h1 hn
def I52 (h2 : H) (w2 : AV) (bs2 : List Int) (A : Nat) (pv : AV) (n i : Int) (p : AV) (m j : Int) (v : AV) (x : OpT) (k : Nat) (tm : T AV) (h : H) : Prop :=
  T0 A pv n i tm ∧ T1 p m j tm ∧ ∃ (q : Nat) (w : AV), q + k = 6 ∧ tm.get 142 = some v ∧ tm.get 143 = some (.int .i64 6) ∧ tm.get 144 = some (.int .i64 (q : Int)) ∧ tm.get 6 = some w ∧ PB h2 w2 (bs2 ++ ef x q) h w
theorem step52 (P : Program) {call : CallE} (hput : PutF call 29 .u64) {h2 : H} {w2 : AV} {bs2 : List Int} {A : Nat} {pv : AV} {n i : Int} {p : AV} {m j : Int} {v : AV} {D : Nat} {x : OpT} (hv : RdL none 1 h2 v (ptrs D)) (hD : h2.t.get D = some (rowL (opC x) 45)) (hx : opR x)
    (hvk : ∀ a, own v = some a → a < h2.next ∧ own w2 ≠ some a) (hDk : D < h2.next ∧ own w2 ≠ some D) (hlen : bs2.length + 60 ≤ 1073741824) (k : Nat) (tm : T AV) (h : H) (hI : I52 h2 w2 bs2 A pv n i p m j v x k tm h) :
    WC P call c13_l52 (loopQ 11 (fun tm h => ∃ l, l < k ∧ I52 h2 w2 bs2 A pv n i p m j v x l tm h) (fun tm h => T0 A pv n i tm ∧ T1 p m j tm ∧ ∃ w, tm.get 6 = some w ∧ PB h2 w2 (bs2 ++ ef x 6) h w) (fun _ _ => False)) tm h := by
  obtain ⟨⟨t1, t103, t104, t105⟩, ⟨t113, t114, t115⟩, q, w, hq, t142, t143, t144, t6, pb⟩ := hI
  cases k with
  | zero =>
    have hq6 : q = 6 := by omega
    subst hq6
    have e1 : ¬ ((6 : Nat) : Int) < 6 := by omega
    simp only [go_sem, ↓reduceIte, ↓reduceDIte, zA, zM, zL, zE, zD, yA, yE, yL, yQ, yT, reduceCtorEq, c13_l52, t143, t144, e1, T0, T1, t1, t103, t104, t105, t113, t114, t115, t6]
    exact ⟨w, rfl, pb⟩
  | succ k =>
    have e1 : (q : Int) < 6 := by omega
    have hv2 := hv.keep (h' := h) fun b hb => pb.get (hvk b hb).1 (hvk b hb).2
    rw [← pb.get hDk.1 hDk.2] at hD
    rcases hv2 with ⟨_, hh⟩ | ⟨a, o, cap, rfl, _, ra⟩
    · cases hh
    have ha := ra q _ (ptrs_get D q (by omega))
    rw [rLdA, Nat.mul_one] at ha
    have hg := opC_get x q (by omega)
    have f1 : fw .i64 ((q : Int) + 1) = (q : Int) + 1 := fwI (by omega) (by omega)
    have e3 : ((q + 1 : Nat) : Int) = (q : Int) + 1 := rfl
    have e4 : (ptrs D).length = 6 := rfl
    have e5 : (q : Int) < ((6 : Nat) : Int) := e1
    rw [e4] at t142
    have hl := ef_len hx q
    by_cases hz : fld x q = 0
    · simp only [go_sem, ↓reduceIte, ↓reduceDIte, zA, zM, zL, zE, zD, yA, yE, yL, yQ, yT, reduceCtorEq, c13_l52, t142, t143, t144, e1, e5, Nat.mul_one, ha, hD, hg, hz, f1]
      refine ⟨k, Nat.lt_succ_self k, ?_, ?_, q + 1, w, by omega, ?_, ?_, ?_, ?_, ?_⟩
      · simp only [go_sem, ↓reduceIte, ↓reduceDIte, zA, zM, zL, zE, zD, yA, yE, yL, yQ, yT, reduceCtorEq, T0, t1, t103, t104, t105]
      · simp only [go_sem, ↓reduceIte, ↓reduceDIte, zA, zM, zL, zE, zD, yA, yE, yL, yQ, yT, reduceCtorEq, T1, t113, t114, t115]
      · simp only [go_sem, ↓reduceIte, ↓reduceDIte, zA, zM, zL, zE, zD, yA, yE, yL, yQ, yT, reduceCtorEq, t142, e4]
      · simp only [go_sem, ↓reduceIte, ↓reduceDIte, zA, zM, zL, zE, zD, yA, yE, yL, yQ, yT, reduceCtorEq, t143]
      · simp only [go_sem, ↓reduceIte, ↓reduceDIte, zA, zM, zL, zE, zD, yA, yE, yL, yQ, yT, reduceCtorEq, e3]
      · simp only [go_sem, ↓reduceIte, ↓reduceDIte, zA, zM, zL, zE, zD, yA, yE, yL, yQ, yT, reduceCtorEq, t6]
      · rw [ef, if_pos hz, List.append_nil]; exact pb
    · simp only [go_sem, ↓reduceIte, ↓reduceDIte, zA, zM, zL, zE, zD, yA, yE, yL, yQ, yT, reduceCtorEq, c13_l52, t6, t142, t143, t144, e1, e5, Nat.mul_one, ha, hD, hg, hz, f1]
      refine opt_by (hput h w _ (fld x q) pb.ow (hx.2 q).1 (hx.2 q).2 (by rw [List.length_append]; omega)) fun v1 h1 pb1 => ?_
      simp only [go_sem, ↓reduceIte, ↓reduceDIte, zA, zM, zL, zE, zD, yA, yE, yL, yQ, yT, reduceCtorEq, t144, f1]
      refine ⟨k, Nat.lt_succ_self k, ?_, ?_, q + 1, v1, by omega, ?_, ?_, ?_, ?_, ?_⟩
      · simp only [go_sem, ↓reduceIte, ↓reduceDIte, zA, zM, zL, zE, zD, yA, yE, yL, yQ, yT, reduceCtorEq, T0, t1, t103, t104, t105]
      · simp only [go_sem, ↓reduceIte, ↓reduceDIte, zA, zM, zL, zE, zD, yA, yE, yL, yQ, yT, reduceCtorEq, T1, t113, t114, t115]
      · simp only [go_sem, ↓reduceIte, ↓reduceDIte, zA, zM, zL, zE, zD, yA, yE, yL, yQ, yT, reduceCtorEq, t142, e4]
      · simp only [go_sem, ↓reduceIte, ↓reduceDIte, zA, zM, zL, zE, zD, yA, yE, yL, yQ, yT, reduceCtorEq, t143]
      · simp only [go_sem, ↓reduceIte, ↓reduceDIte, zA, zM, zL, zE, zD, yA, yE, yL, yQ, yT, reduceCtorEq, e3]
      · simp only [go_sem, ↓reduceIte, ↓reduceDIte, zA, zM, zL, zE, zD, yA, yE, yL, yQ, yT, reduceCtorEq]
      · rw [ef, if_neg hz, ← List.append_assoc]; exact pb.trans pb1
/-! ### A program -/
def I54 (h1 : H) (bs1 : List Int) (A : Nat) (pv : AV) (n i : Int) (p : AV) (l : List OpT) (k : Nat) (tm : T AV) (h : H) : Prop :=
  T0 A pv n i tm ∧ ∃ (q : Nat) (w : AV), q + k = l.length ∧ T1 p (l.length : Int) (q : Int) tm ∧ tm.get 6 = some w ∧ PB h1 .nils (bs1 ++ (l.take q).flatMap encO) h w
theorem encOs_len {l : List OpT} (hl : ∀ x ∈ l, opR x) : (l.flatMap encO).length ≤ 80 * l.length := by
  induction l with
  | nil => exact Nat.le_refl _
  | cons x l ih =>
    have h1 := ih fun y hy => hl y (List.mem_cons_of_mem _ hy)
    have h2 := encO_len (hl x (List.mem_cons_self ..))
    rw [List.flatMap_cons, List.length_append, List.length_cons]
    omega
def F30 (call : CallE) : Prop := ∀ h a, ∃ v h', call 30 [.ptr a 0] h = some (v, h') ∧ StepN h h' ∧ RdL none 1 h' v (ptrs a) ∧ ∀ b, own v = some b → h.next ≤ b ∧ b < h'.next
set_option maxRecDepth 4000 in
theorem step54 (P : Program) {call : CallE} (h27 : PutF call 27 .i64) (h28 : PutF call 28 .u8) (h29 : PutF call 29 .u64) (h30 : F30 call) {h1 : H} {bs1 : List Int} {A : Nat} {pv : AV} {n i : Int} {p : AV} {l : List OpT} (hp : RdL (some 7) 7 h1 p (l.map fun x => AV.agg (opC x))) (hpk : ∀ a, own p = some a → a < h1.next) (hl : ∀ x ∈ l, opR x) (hlen : bs1.length + 80 * l.length ≤ 1000000000) (k : Nat) (tm : T AV) (h : H) (hI : I54 h1 bs1 A pv n i p l k tm h) :
    WC P call c13_l54 (loopQ 7 (fun tm h => ∃ m, m < k ∧ I54 h1 bs1 A pv n i p l m tm h) (fun tm h => T0 A pv n i tm ∧ ∃ w, tm.get 6 = some w ∧ PB h1 .nils (bs1 ++ l.flatMap encO) h w) (fun _ _ => False)) tm h := by
  obtain ⟨⟨t1, t103, t104, t105⟩, q, w, hq, ⟨t113, t114, t115⟩, t6, pb⟩ := hI
  cases k with
  | zero =>
    have e1 : ¬ (q : Int) < (l.length : Int) := by omega
    simp only [go_sem, ↓reduceIte, ↓reduceDIte, zA, zM, zL, zE, zD, yA, yE, yL, yQ, yT, reduceCtorEq, c13_l54, t114, t115, e1, T0, t1, t103, t104, t105, t6]
    refine ⟨w, rfl, ?_⟩
    rw [List.take_of_length_le (by omega)] at pb
    exact pb
  | succ k =>
    have e1 : (q : Int) < (l.length : Int) := by omega
    have hi : q < l.length := by omega
    have hx' := hl l[q] (List.getElem_mem hi)
    have hle := hp.le
    have hp2 := hp.keep (h' := h) fun b hb => pb.get (hpk b hb) (by simp [own])
    have op := hp.one
    rcases hp2 with ⟨_, hh⟩ | ⟨a, o, cap, rfl, _, ra⟩
    · rw [List.map_eq_nil_iff] at hh; subst hh; simp at hi
    have ha := ra q (.agg (opC l[q])) (by simp [hi])
    rw [rLdA] at ha
    rw [List.length_map] at t113 hle
    have hlt := encOs_len (l := l.take q) fun x hx => hl x (List.mem_of_mem_take hx)
    rw [List.length_take] at hlt
    have f1 : fw .i64 ((q : Int) + 1) = (q : Int) + 1 := fwI (by omega) (by omega)
    have e3 : ((q + 1 : Nat) : Int) = (q : Int) + 1 := rfl
    have c0 : (opC l[q])[0]? = some (.int .u8 l[q].1) := rfl
    generalize hB0 : bs1 ++ (l.take q).flatMap encO = B0 at pb
    have hB0l : B0.length ≤ bs1.length + 80 * q := by rw [← hB0, List.length_append]; omega
    have hwD : own w ≠ some h.next := fun hh => by have := pb.ow.lt hh; omega
    simp only [go_sem, ↓reduceIte, ↓reduceDIte, zA, zM, zL, zE, zD, yA, yE, yL, yQ, yT, reduceCtorEq, c13_l54, t6, t113, t114, t115, e1, ha, c0]
    have pb0 := pb.stepN (StepN.new h (.row (putList 0 (opC l[q]) T.e) 7 45))
    have gD : (⟨h.next + 1, h.t.set h.next (.row (putList 0 (opC l[q]) T.e) 7 45)⟩ : H).t.get h.next = some (rowL (opC l[q]) 45) := by simp only [go_sem, ↓reduceIte, ↓reduceDIte, zA, zM, zL, zE, zD, yA, yE, yL, yQ, yT, reduceCtorEq]; rfl
    have hDn : h.next < (⟨h.next + 1, h.t.set h.next (.row (putList 0 (opC l[q]) T.e) 7 45)⟩ : H).next := Nat.lt_succ_self _
    generalize (⟨h.next + 1, h.t.set h.next (.row (putList 0 (opC l[q]) T.e) 7 45)⟩ : H) = hx at pb0 gD hDn ⊢
    generalize h.next = D at hwD gD hDn ⊢
    refine opt_by (h28 hx w B0 l[q].1 pb0.ow hx'.1.1 (by have := hx'.1.2; omega) (by omega)) fun v1 h' pb1 => ?_
    simp only [go_sem, ↓reduceIte, ↓reduceDIte, zA, zM, zL, zE, zD, yA, yE, yL, yQ, yT, reduceCtorEq]
    refine opt_by (h30 h' D) fun v2 h'' p2 => ?_
    obtain ⟨st2, rd2, ow2⟩ := p2
    have vl2 : lenA v2 = some (.int .i64 6) := rd2.lenA
    have on2 := rd2.one
    have pb2 := pb1.stepN st2
    have gD2 := (pb2.get hDn hwD).trans gD
    have pl1 := pI_len (x := l[q].1) (by have := hx'.1.2; omega)
    simp only [go_sem, ↓reduceIte, ↓reduceDIte, zA, zM, zL, zE, zD, yA, yE, yL, yQ, yT, reduceCtorEq, vl2, on2]
    refine loop_in (I44 h'' A pv n i (.sl a o l.length 7 cap) (l.length : Int) (q : Int) v1 v2 D l[q]) _ _ (fun k tm h hI => step44 P rd2 gD2 hx' k tm h hI) (fun tm2 h2 hR => ?_) (fun _ _ hh => hh.elim) 6 _ _
      ⟨rfl, by simp [go_sem, T0, t1, t103, t104, t105], by simp [go_sem, T1, t113, t114, t115], by simp [go_sem], by simp [go_sem], 0, rfl, by simp [go_sem], by simp [go_sem], by simp [go_sem], by simp [go_sem, mk]⟩
    obtain ⟨rfl, ⟨t1, t103, t104, t105⟩, ⟨t113, t114, t115⟩, t6, t15, t16⟩ := hR
    simp only [go_sem, ↓reduceIte, ↓reduceDIte, zA, zM, zL, zE, zD, yA, yE, yL, yQ, yT, reduceCtorEq, t6, t16]
    obtain ⟨mb1, mb2⟩ := mk_bound l[q] 6
    refine opt_by (h27 h2 v1 _ (mk l[q] 6) pb2.ow mb1 (by omega) (by rw [List.length_append]; omega)) fun v3 h3 pb3 => ?_
    have pl3 := pI_len (x := mk l[q] 6) (by omega)
    have pbx := pb2.trans pb3
    simp only [go_sem, ↓reduceIte, ↓reduceDIte, zA, zM, zL, zE, zD, yA, yE, yL, yQ, yT, reduceCtorEq, t15]
    refine opt_by (h30 h3 D) fun v4 h4 p4 => ?_
    obtain ⟨st4, rd4, ow4⟩ := p4
    have vl4 : lenA v4 = some (.int .i64 6) := rd4.lenA
    have on4 := rd4.one
    have pb4 := pbx.stepN st4
    have gD4 := (pb4.get hDn hwD).trans gD
    have hv3 : own v3 ≠ some D := fun hh => by
      rcases pbx.gr.own D hh with h | h
      · exact hwD h
      · omega
    simp only [go_sem, ↓reduceIte, ↓reduceDIte, zA, zM, zL, zE, zD, yA, yE, yL, yQ, yT, reduceCtorEq, vl4, on4]
    refine loop_in (I52 h4 v3 (B0 ++ pI l[q].1 ++ pI (mk l[q] 6)) A pv n i (.sl a o l.length 7 cap) (l.length : Int) (q : Int) v4 l[q]) _ _ (fun k tm h hI => step52 P h29 rd4 gD4 hx' (fun b hb => ⟨(ow4 b hb).2, fun hh => by have := pb3.ow.lt hh; have := (ow4 b hb).1; omega⟩) ⟨Nat.lt_of_lt_of_le hDn pb4.gr.next, hv3⟩ (by rw [List.length_append, List.length_append]; omega) k tm h hI) (fun tm5 h5 hR => ?_) (fun _ _ hh => hh.elim) 6 _ _
      ⟨by simp [go_sem, T0, t1, t103, t104, t105], by simp [go_sem, T1, t113, t114, t115], 0, v3, rfl, by simp [go_sem], by simp [go_sem], by simp [go_sem], by simp [go_sem], by rw [ef, List.append_nil]; exact ⟨pb4.ow, Grow.refl _ _⟩⟩
    obtain ⟨⟨t1, t103, t104, t105⟩, ⟨t113, t114, t115⟩, w5, t6, pb5⟩ := hR
    simp only [go_sem, ↓reduceIte, ↓reduceDIte, zA, zM, zL, zE, zD, yA, yE, yL, yQ, yT, reduceCtorEq, t115, f1]
    refine ⟨k, Nat.lt_succ_self k, by simp [go_sem, T0, t1, t103, t104, t105], q + 1, w5, by omega, by simp [go_sem, T1, t113, t114, e3, List.length_map], by simp [go_sem, t6], ?_⟩
    have eB : bs1 ++ (l.take (q + 1)).flatMap encO = B0 ++ pI l[q].1 ++ pI (mk l[q] 6) ++ ef l[q] 6 := by
      rw [List.take_succ_eq_append_getElem hi, List.flatMap_append, ← List.append_assoc, hB0]
      simp [encO]
    rw [eB]
    exact (pb0.trans pb4).trans pb5
end
end Go.Proofs.Ytnmlfhogolonoaa
