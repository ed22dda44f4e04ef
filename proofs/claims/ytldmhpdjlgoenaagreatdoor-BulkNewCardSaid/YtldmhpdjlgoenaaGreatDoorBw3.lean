/-
  A group of words is placed; the heights of the towers.
  The layout of a configuration.
  The layout of a configuration: New.
-/
import Derived.Test.YtldmhpdjlgoenaaGreatDoorBw2
set_option linter.unusedVariables false
set_option linter.unusedSimpArgs false
namespace Go.Proofs.YtldmhpdjlgoenaaGreatDoor.BN
open Go.Proofs.YtldmhpdjlgoenaaGreatDoor.Eo
open Nat renaming reduceAdd → zA, reduceMul → zM, reduceLT → zL, reduceEqDiff → zE, reduceLeDiff → zD
open Int renaming reduceAdd → yA, reduceLE → yE, reduceLT → yL, reduceEq → yQ, reduceToNat → yT
noncomputable section
/-! 61: leapfrog/layout.New$1 -/
@[go_sem] def c61_s0 : List SQ := [⟨some 8, none, .p (.mv (.c (.int .i64 0)))⟩]
@[go_sem] def c61_s1 : List SQ := [⟨some 10, none, .r (.ld none (.t 3))⟩, ⟨some 9, none, .p (.mv (.t 10))⟩]
@[go_sem] def c61_p2 : List (List DQ × Option DQ) := [([⟨0, [(4, none)], none, .r (.ld none (.t 4))⟩, ⟨1, [(4, none)], none, .r (.ld none (.t 4))⟩, ⟨2, [(12, (some 1))], none, .p (.nilck (.t 12))⟩, ⟨3, [(13, (some 2))], none, .p (.fadr 26 (.t 13))⟩, ⟨4, [(14, (some 3))], none, .r (.ld none (.t 14))⟩, ⟨5, [(0, none)], none, .p (.mv (.t 0))⟩, ⟨6, [(9, none)], none, .p (.mv (.t 9))⟩, ⟨7, [(1, none)], none, .p (.mv (.t 1))⟩, ⟨8, [(2, none)], none, .p (.mv (.t 2))⟩, ⟨9, [(16, (some 5)), (17, (some 6)), (18, (some 7)), (19, (some 8))], none, .p (.build [.int .u8 0, .int .i64 0, .int .i64 0, .int .i64 0] [(0, 1, (.t 16)), (1, 1, (.t 17)), (2, 1, (.t 18)), (3, 1, (.t 19))])⟩, ⟨10, [(20, (some 9))], none, .n (.buildS 170 4 1 [.int .u8 0, .int .i64 0, .int .i64 0, .int .i64 0] [(0, 4, (.t 20))])⟩], (some ⟨11, [(15, (some 4)), (21, (some 10))], none, .e (.app 170 4 32 (.t 15) (.t 21))⟩)), ([⟨12, [(11, (some 0))], none, .p (.nilck (.t 11))⟩, ⟨13, [(23, (some 12))], none, .p (.fadr 26 (.t 23))⟩], (some ⟨14, [(24, (some 13)), (22, (some 11))], none, .e (.st 1 (.t 24) (.t 22))⟩)), ([], none)]
@[go_sem] def c61_s3 : List SQ := [⟨some 25, none, .r (.ld none (.t 3))⟩, ⟨some 26, none, .p (.mv (.t 1))⟩, ⟨some 27, none, .p (.mv (.t 2))⟩, ⟨some 28, none, .p (.bin .mul 3 false false (.t 26) (.t 27))⟩, ⟨some 29, none, .p (.bin .add 3 false false (.t 25) (.t 28))⟩, ⟨none, none, .e (.st 1 (.t 3) (.t 29))⟩]
@[go_sem] def c61_s4 : List SQ := [⟨some 30, none, .p (.mv (.t 9))⟩, ⟨some 8, none, .p (.mv (.t 30))⟩]
@[go_sem] def c61 : CF := ⟨5, (.seq (.ops c61_s0) (.seq (.ops c61_s1) (.seq (.drw ⟨c61_p2, [(0, 11), (1, 12), (2, 13), (3, 14), (4, 15), (5, 16), (6, 17), (7, 18), (8, 19), (9, 20), (10, 21), (11, 22), (12, 23), (13, 24)], [(⟨0, [(4, none)], none, .r (.ld none (.t 4))⟩, [0, 1]), (⟨1, [(4, none)], none, .r (.ld none (.t 4))⟩, [0]), (⟨4, [(14, (some 3))], none, .r (.ld none (.t 14))⟩, [0])]⟩) (.seq (.ops c61_s3) (.seq (.ops c61_s4) .ret))))), [.tmp 8]⟩
/-! 20: leapfrog/layout.New -/
@[go_sem] def c20_s0 : List SQ := [⟨some 1, none, .n (.box 27 (.t 0))⟩, ⟨some 2, none, .p (.mv (.c .nilp))⟩, ⟨some 3, none, .p (.mv (.c (.int .i64 0)))⟩]
@[go_sem] def c20_s1 : List SQ := [⟨some 12, none, .r (.ld (some 16) (.t 1))⟩, ⟨some 13, none, .cv (.c (.fn (.func 58) [] [])) [(.t 12)]⟩, ⟨some 4, none, .p (.mv (.t 13))⟩]
@[go_sem] def c20_s2 : List SQ := [⟨some 14, none, .p (.mv (.t 4))⟩, ⟨some 15, none, .p (.bin .neq 34 false true (.t 14) (.c (.int .i64 0)))⟩]
@[go_sem] def c20_s3 : List SQ := [⟨some 16, none, .p (.mv (.t 4))⟩, ⟨some 2, none, .p (.mv (.c .nilp))⟩, ⟨some 3, none, .p (.mv (.t 16))⟩]
@[go_sem] def c20_s4 : List SQ := [⟨some 17, none, .p (.fadr 4 (.t 1))⟩, ⟨some 18, none, .p (.fadr 2 (.t 17))⟩, ⟨some 19, none, .r (.ld none (.t 18))⟩, ⟨some 20, none, .cv (.c (.fn (.func 59) [] [])) [(.t 19)]⟩, ⟨some 21, none, .p (.fadr 4 (.t 1))⟩, ⟨some 22, none, .p (.fadr 2 (.t 21))⟩, ⟨none, none, .e (.st 1 (.t 22) (.t 20))⟩]
@[go_sem] def c20_s5 : List SQ := [⟨some 23, none, .r (.ld (some 16) (.t 1))⟩, ⟨some 24, none, .p (.build [.int .i64 0, .int .i64 0, .int .u8 0, .int .i64 0, .int .u8 0, .int .i64 0, .nils, .int .i64 0, .int .i64 0, .int .i64 0, .int .i64 0, .int .i64 0, .int .i64 0, .int .i64 0, .int .i64 0, .int .i64 0, .int .i64 0, .int .i64 0, .int .i64 0, .int .i64 0, .int .i64 0, .int .i64 0, .int .i64 0, .int .i64 0, .int .i64 0, .int .i64 0, .nils, .nils, .nils, .int .i64 0] [(0, 16, (.t 23))])⟩, ⟨some 25, none, .n (.box 167 (.t 24))⟩, ⟨some 5, none, .n (.new 64 [.nilp])⟩, ⟨none, none, .e (.st 1 (.t 5) (.t 25))⟩]
@[go_sem] def c20_p6 : List (List DQ × Option DQ) := [([⟨0, [(5, none)], none, .r (.ld none (.t 5))⟩, ⟨1, [(1, none)], none, .p (.fadr 4 (.t 1))⟩, ⟨2, [(28, (some 1))], none, .r (.ld (some 3) (.t 28))⟩], (some ⟨3, [(29, (some 2))], none, .cv (.c (.fn (.func 60) [] [])) [(.t 29)]⟩)), ([⟨4, [(30, (some 3))], none, .p (.mv (.t 30))⟩, ⟨5, [(26, (some 4))], none, .p (.extr (.t 26) 0)⟩, ⟨6, [(26, (some 4))], none, .p (.extr (.t 26) 1)⟩, ⟨7, [(27, (some 0))], none, .p (.nilck (.t 27))⟩, ⟨8, [(33, (some 7))], none, .p (.fadr 29 (.t 33))⟩], (some ⟨9, [(34, (some 8)), (31, (some 5))], none, .e (.st 1 (.t 34) (.t 31))⟩)), ([], none)]
@[go_sem] def c20_s7 : List SQ := [⟨some 35, none, .p (.fadr 7 (.t 1))⟩, ⟨some 36, none, .r (.ld (some 6) (.t 35))⟩, ⟨some 37, none, .p (.mv (.c (.int .i64 0)))⟩]
@[go_sem] def c20_s8 : List SQ := [⟨some 38, none, .p (.bin .lss 3 false true (.t 37) (.c (.int .i64 6)))⟩]
@[go_sem] def c20_s9 : List SQ := [⟨some 39, none, .p (.mv (.t 37))⟩, ⟨some 40, none, .p (.idxA 6 3 1 (.t 36) (.t 37))⟩, ⟨some 6, none, .p (.mv (.t 39))⟩, ⟨some 7, none, .p (.mv (.t 40))⟩]
@[go_sem] def c20_s10 : List SQ := [⟨some 41, none, .p (.mv (.t 7))⟩, ⟨some 42, none, .p (.mv (.c (.int .i64 0)))⟩]
@[go_sem] def c20_s11 : List SQ := [⟨some 43, none, .p (.bin .lss 3 false false (.t 42) (.t 41))⟩]
@[go_sem] def c20_p12 : List (List DQ × Option DQ) := [([⟨0, [(5, none)], none, .r (.ld none (.t 5))⟩, ⟨1, [(5, none)], none, .r (.ld none (.t 5))⟩, ⟨2, [(45, (some 1))], none, .p (.nilck (.t 45))⟩, ⟨3, [(46, (some 2))], none, .p (.fadr 27 (.t 46))⟩, ⟨4, [(47, (some 3))], none, .r (.ld none (.t 47))⟩, ⟨5, [(6, none)], none, .p (.mv (.t 6))⟩, ⟨6, [(49, (some 5))], none, .p (.bin .add 3 false true (.t 49) (.c (.int .i64 1)))⟩, ⟨7, [(50, (some 6))], none, .n (.buildS 3 1 1 [.int .i64 0] [(0, 1, (.t 50))])⟩], (some ⟨8, [(48, (some 4)), (51, (some 7))], none, .e (.app 3 1 8 (.t 48) (.t 51))⟩)), ([⟨9, [(44, (some 0))], none, .p (.nilck (.t 44))⟩, ⟨10, [(53, (some 9))], none, .p (.fadr 27 (.t 53))⟩], (some ⟨11, [(54, (some 10)), (52, (some 8))], none, .e (.st 1 (.t 54) (.t 52))⟩)), ([], none)]
@[go_sem] def c20_s13 : List SQ := [⟨some 55, none, .p (.bin .add 3 false true (.t 42) (.c (.int .i64 1)))⟩, ⟨some 42, none, .p (.mv (.t 55))⟩]
def c20_l14 : CC := (.seq (.ops c20_s11) (.seq (.cond (.t 43) .skip (.exit 2)) (.seq (.block 3 (.drw ⟨c20_p12, [(0, 44), (1, 45), (2, 46), (3, 47), (4, 48), (5, 49), (6, 50), (7, 51), (8, 52), (9, 53), (10, 54)], [(⟨0, [(5, none)], none, .r (.ld none (.t 5))⟩, [0, 1]), (⟨1, [(5, none)], none, .r (.ld none (.t 5))⟩, [0]), (⟨4, [(47, (some 3))], none, .r (.ld none (.t 47))⟩, [0])]⟩)) (.ops c20_s13))))
@[go_sem] def c20_s15 : List SQ := [⟨some 56, none, .p (.bin .add 3 false true (.t 37) (.c (.int .i64 1)))⟩, ⟨some 37, none, .p (.mv (.t 56))⟩]
def c20_l16 : CC := (.seq (.ops c20_s8) (.seq (.cond (.t 38) .skip (.exit 0)) (.seq (.block 1 (.seq (.ops c20_s9) (.seq (.ops c20_s10) (.block 2 (.loop c20_l14))))) (.ops c20_s15))))
@[go_sem] def c20_s17 : List SQ := [⟨some 8, none, .n (.new 3 [.int .i64 0])⟩, ⟨none, none, .e (.st 1 (.t 8) (.c (.int .i64 0)))⟩]
@[go_sem] def c20_s18 : List SQ := [⟨some 57, none, .p (.mkfn (.func 61) [] [(.t 8), (.t 5)])⟩, ⟨some 9, none, .p (.mv (.t 57))⟩]
@[go_sem] def c20_p19 : List (List DQ × Option DQ) := [([⟨0, [(5, none)], none, .r (.ld none (.t 5))⟩, ⟨1, [(9, none)], none, .p (.mv (.t 9))⟩, ⟨2, [(1, none)], none, .p (.fadr 1 (.t 1))⟩, ⟨3, [(60, (some 2))], none, .r (.ld none (.t 60))⟩], (some ⟨4, [(59, (some 1)), (61, (some 3))], none, .cv (.t 59) [(.c (.int .u8 1)), (.t 61), (.c (.int .i64 1))]⟩)), ([⟨5, [(58, (some 0))], none, .p (.nilck (.t 58))⟩, ⟨6, [(63, (some 5))], none, .p (.fadr 16 (.t 63))⟩, ⟨7, [(64, (some 6))], none, .p (.fadr 0 (.t 64))⟩], (some ⟨8, [(65, (some 7)), (62, (some 4))], none, .e (.st 1 (.t 65) (.t 62))⟩)), ([], none)]
@[go_sem] def c20_p20 : List (List DQ × Option DQ) := [([⟨0, [(5, none)], none, .r (.ld none (.t 5))⟩, ⟨1, [(9, none)], none, .p (.mv (.t 9))⟩, ⟨2, [(1, none)], none, .r (.ld (some 16) (.t 1))⟩], (some ⟨3, [(68, (some 2))], none, .cv (.c (.fn (.func 62) [] [])) [(.t 68)]⟩)), ([], (some ⟨4, [(67, (some 1)), (69, (some 3))], none, .cv (.t 67) [(.c (.int .u8 2)), (.c (.int .i64 1)), (.t 69)]⟩)), ([⟨5, [(66, (some 0))], none, .p (.nilck (.t 66))⟩, ⟨6, [(71, (some 5))], none, .p (.fadr 16 (.t 71))⟩, ⟨7, [(72, (some 6))], none, .p (.fadr 1 (.t 72))⟩], (some ⟨8, [(73, (some 7)), (70, (some 4))], none, .e (.st 1 (.t 73) (.t 70))⟩)), ([], none)]
@[go_sem] def c20_p21 : List (List DQ × Option DQ) := [([⟨0, [(5, none)], none, .r (.ld none (.t 5))⟩, ⟨1, [(9, none)], none, .p (.mv (.t 9))⟩], (some ⟨2, [(75, (some 1))], none, .cv (.t 75) [(.c (.int .u8 3)), (.c (.int .i64 1)), (.c (.int .i64 1))]⟩)), ([⟨3, [(74, (some 0))], none, .p (.nilck (.t 74))⟩, ⟨4, [(77, (some 3))], none, .p (.fadr 16 (.t 77))⟩, ⟨5, [(78, (some 4))], none, .p (.fadr 2 (.t 78))⟩], (some ⟨6, [(79, (some 5)), (76, (some 2))], none, .e (.st 1 (.t 79) (.t 76))⟩)), ([], none)]
@[go_sem] def c20_p22 : List (List DQ × Option DQ) := [([⟨0, [(5, none)], none, .r (.ld none (.t 5))⟩, ⟨1, [(9, none)], none, .p (.mv (.t 9))⟩, ⟨2, [(1, none)], none, .p (.fadr 13 (.t 1))⟩, ⟨3, [(82, (some 2))], none, .r (.ld none (.t 82))⟩], (some ⟨4, [(81, (some 1)), (83, (some 3))], none, .cv (.t 81) [(.c (.int .u8 4)), (.t 83), (.c (.int .i64 3))]⟩)), ([⟨5, [(80, (some 0))], none, .p (.nilck (.t 80))⟩, ⟨6, [(85, (some 5))], none, .p (.fadr 16 (.t 85))⟩, ⟨7, [(86, (some 6))], none, .p (.fadr 3 (.t 86))⟩], (some ⟨8, [(87, (some 7)), (84, (some 4))], none, .e (.st 1 (.t 87) (.t 84))⟩)), ([], none)]
@[go_sem] def c20_p23 : List (List DQ × Option DQ) := [([⟨0, [(5, none)], none, .r (.ld none (.t 5))⟩, ⟨1, [(9, none)], none, .p (.mv (.t 9))⟩, ⟨2, [(1, none)], none, .p (.fadr 13 (.t 1))⟩, ⟨3, [(90, (some 2))], none, .r (.ld none (.t 90))⟩], (some ⟨4, [(89, (some 1)), (91, (some 3))], none, .cv (.t 89) [(.c (.int .u8 5)), (.t 91), (.c (.int .i64 1))]⟩)), ([⟨5, [(88, (some 0))], none, .p (.nilck (.t 88))⟩, ⟨6, [(93, (some 5))], none, .p (.fadr 16 (.t 93))⟩, ⟨7, [(94, (some 6))], none, .p (.fadr 4 (.t 94))⟩], (some ⟨8, [(95, (some 7)), (92, (some 4))], none, .e (.st 1 (.t 95) (.t 92))⟩)), ([], none)]
@[go_sem] def c20_p24 : List (List DQ × Option DQ) := [([⟨0, [(5, none)], none, .r (.ld none (.t 5))⟩, ⟨1, [(9, none)], none, .p (.mv (.t 9))⟩], (some ⟨2, [(97, (some 1))], none, .cv (.t 97) [(.c (.int .u8 6)), (.c (.int .i64 6)), (.c (.int .i64 1))]⟩)), ([⟨3, [(96, (some 0))], none, .p (.nilck (.t 96))⟩, ⟨4, [(99, (some 3))], none, .p (.fadr 16 (.t 99))⟩, ⟨5, [(100, (some 4))], none, .p (.fadr 5 (.t 100))⟩], (some ⟨6, [(101, (some 5)), (98, (some 2))], none, .e (.st 1 (.t 101) (.t 98))⟩)), ([], none)]
@[go_sem] def c20_p25 : List (List DQ × Option DQ) := [([⟨0, [(5, none)], none, .r (.ld none (.t 5))⟩, ⟨1, [(9, none)], none, .p (.mv (.t 9))⟩, ⟨2, [(5, none)], none, .r (.ld none (.t 5))⟩, ⟨3, [(104, (some 2))], none, .p (.nilck (.t 104))⟩, ⟨4, [(105, (some 3))], none, .p (.fadr 27 (.t 105))⟩, ⟨5, [(106, (some 4))], none, .r (.ld none (.t 106))⟩, ⟨6, [(107, (some 5))], none, .p (.lenv (.t 107))⟩], (some ⟨7, [(103, (some 1)), (108, (some 6))], none, .cv (.t 103) [(.c (.int .u8 7)), (.t 108), (.c (.int .i64 1))]⟩)), ([⟨8, [(102, (some 0))], none, .p (.nilck (.t 102))⟩, ⟨9, [(110, (some 8))], none, .p (.fadr 16 (.t 110))⟩, ⟨10, [(111, (some 9))], none, .p (.fadr 6 (.t 111))⟩], (some ⟨11, [(112, (some 10)), (109, (some 7))], none, .e (.st 1 (.t 112) (.t 109))⟩)), ([], none)]
@[go_sem] def c20_p26 : List (List DQ × Option DQ) := [([⟨0, [(5, none)], none, .r (.ld none (.t 5))⟩, ⟨1, [(9, none)], none, .p (.mv (.t 9))⟩, ⟨2, [(5, none)], none, .r (.ld none (.t 5))⟩, ⟨3, [(115, (some 2))], none, .p (.nilck (.t 115))⟩, ⟨4, [(116, (some 3))], none, .p (.fadr 29 (.t 116))⟩, ⟨5, [(117, (some 4))], none, .r (.ld none (.t 117))⟩], (some ⟨6, [(114, (some 1)), (118, (some 5))], none, .cv (.t 114) [(.c (.int .u8 8)), (.t 118), (.c (.int .i64 7))]⟩)), ([⟨7, [(113, (some 0))], none, .p (.nilck (.t 113))⟩, ⟨8, [(120, (some 7))], none, .p (.fadr 16 (.t 120))⟩, ⟨9, [(121, (some 8))], none, .p (.fadr 7 (.t 121))⟩], (some ⟨10, [(122, (some 9)), (119, (some 6))], none, .e (.st 1 (.t 122) (.t 119))⟩)), ([], none)]
@[go_sem] def c20_s27 : List SQ := [⟨some 123, none, .r (.ld none (.t 5))⟩, ⟨some 124, none, .r (.ld none (.t 8))⟩, ⟨some 125, none, .p (.nilck (.t 123))⟩, ⟨some 126, none, .p (.fadr 16 (.t 125))⟩, ⟨some 127, none, .p (.fadr 8 (.t 126))⟩, ⟨none, none, .e (.st 1 (.t 127) (.t 124))⟩]
@[go_sem] def c20_s28 : List SQ := [⟨some 128, none, .r (.ld none (.t 5))⟩, ⟨some 129, none, .p (.nilck (.t 128))⟩, ⟨some 130, none, .p (.fadr 27 (.t 129))⟩, ⟨some 131, none, .r (.ld none (.t 130))⟩, ⟨some 132, none, .p (.lenv (.t 131))⟩, ⟨some 133, none, .p (.mv (.c (.int .i64 0)))⟩]
@[go_sem] def c20_s29 : List SQ := [⟨some 134, none, .p (.bin .lss 3 false false (.t 133) (.t 132))⟩]
@[go_sem] def c20_s30 : List SQ := [⟨some 135, none, .p (.iadrS 1 (.t 131) (.t 133))⟩, ⟨some 136, none, .r (.ld none (.t 135))⟩, ⟨some 11, none, .p (.mv (.t 136))⟩]
@[go_sem] def c20_p31 : List (List DQ × Option DQ) := [([⟨0, [(5, none)], none, .r (.ld none (.t 5))⟩, ⟨1, [(5, none)], none, .r (.ld none (.t 5))⟩, ⟨2, [(138, (some 1))], none, .p (.nilck (.t 138))⟩, ⟨3, [(139, (some 2))], none, .p (.fadr 28 (.t 139))⟩, ⟨4, [(140, (some 3))], none, .r (.ld none (.t 140))⟩, ⟨5, [(8, none)], none, .r (.ld none (.t 8))⟩, ⟨6, [(142, (some 5))], none, .n (.buildS 3 1 1 [.int .i64 0] [(0, 1, (.t 142))])⟩], (some ⟨7, [(141, (some 4)), (143, (some 6))], none, .e (.app 3 1 8 (.t 141) (.t 143))⟩)), ([⟨8, [(137, (some 0))], none, .p (.nilck (.t 137))⟩, ⟨9, [(145, (some 8))], none, .p (.fadr 28 (.t 145))⟩], (some ⟨10, [(146, (some 9)), (144, (some 7))], none, .e (.st 1 (.t 146) (.t 144))⟩)), ([], none)]
@[go_sem] def c20_s32 : List SQ := [⟨some 147, none, .r (.ld none (.t 8))⟩, ⟨some 148, none, .p (.mv (.t 11))⟩, ⟨some 149, none, .p (.bin .add 3 true false (.c (.int .i64 5)) (.t 148))⟩, ⟨some 150, none, .p (.bin .add 3 false false (.t 147) (.t 149))⟩, ⟨none, none, .e (.st 1 (.t 8) (.t 150))⟩]
@[go_sem] def c20_s33 : List SQ := [⟨some 151, none, .p (.bin .add 3 false true (.t 133) (.c (.int .i64 1)))⟩, ⟨some 133, none, .p (.mv (.t 151))⟩]
def c20_l34 : CC := (.seq (.ops c20_s29) (.seq (.cond (.t 134) .skip (.exit 4)) (.seq (.block 5 (.seq (.ops c20_s30) (.seq (.drw ⟨c20_p31, [(0, 137), (1, 138), (2, 139), (3, 140), (4, 141), (5, 142), (6, 143), (7, 144), (8, 145), (9, 146)], [(⟨0, [(5, none)], none, .r (.ld none (.t 5))⟩, [0, 1]), (⟨1, [(5, none)], none, .r (.ld none (.t 5))⟩, [0]), (⟨4, [(140, (some 3))], none, .r (.ld none (.t 140))⟩, [0]), (⟨5, [(8, none)], none, .r (.ld none (.t 8))⟩, [0])]⟩) (.ops c20_s32)))) (.ops c20_s33))))
@[go_sem] def c20_s35 : List SQ := [⟨some 152, none, .r (.ld none (.t 5))⟩, ⟨some 153, none, .r (.ld none (.t 8))⟩, ⟨some 154, none, .p (.nilck (.t 152))⟩, ⟨some 155, none, .p (.fadr 16 (.t 154))⟩, ⟨some 156, none, .p (.fadr 9 (.t 155))⟩, ⟨none, none, .e (.st 1 (.t 156) (.t 153))⟩]
@[go_sem] def c20_s36 : List SQ := [⟨some 157, none, .r (.ld none (.t 5))⟩, ⟨some 2, none, .p (.mv (.t 157))⟩, ⟨some 3, none, .p (.mv (.c (.int .i64 0)))⟩]
@[go_sem] def c20 : CF := ⟨1, (.seq (.ops c20_s0) (.seq (.seq (.ops c20_s1) (.seq (.ops c20_s2) (.cond (.t 15) (.seq (.ops c20_s3) .ret) .skip))) (.seq (.ops c20_s4) (.seq (.ops c20_s5) (.seq (.drw ⟨c20_p6, [(0, 27), (1, 28), (2, 29), (3, 30), (4, 26), (5, 31), (6, 32), (7, 33), (8, 34)], [(⟨0, [(5, none)], none, .r (.ld none (.t 5))⟩, [1])]⟩) (.seq (.seq (.ops c20_s7) (.block 0 (.loop c20_l16))) (.seq (.ops c20_s17) (.seq (.ops c20_s18) (.seq (.drw ⟨c20_p19, [(0, 58), (1, 59), (2, 60), (3, 61), (4, 62), (5, 63), (6, 64), (7, 65)], [(⟨0, [(5, none)], none, .r (.ld none (.t 5))⟩, [1])]⟩) (.seq (.drw ⟨c20_p20, [(0, 66), (1, 67), (2, 68), (3, 69), (4, 70), (5, 71), (6, 72), (7, 73)], [(⟨0, [(5, none)], none, .r (.ld none (.t 5))⟩, [1, 2])]⟩) (.seq (.drw ⟨c20_p21, [(0, 74), (1, 75), (2, 76), (3, 77), (4, 78), (5, 79)], [(⟨0, [(5, none)], none, .r (.ld none (.t 5))⟩, [1])]⟩) (.seq (.drw ⟨c20_p22, [(0, 80), (1, 81), (2, 82), (3, 83), (4, 84), (5, 85), (6, 86), (7, 87)], [(⟨0, [(5, none)], none, .r (.ld none (.t 5))⟩, [1])]⟩) (.seq (.drw ⟨c20_p23, [(0, 88), (1, 89), (2, 90), (3, 91), (4, 92), (5, 93), (6, 94), (7, 95)], [(⟨0, [(5, none)], none, .r (.ld none (.t 5))⟩, [1])]⟩) (.seq (.drw ⟨c20_p24, [(0, 96), (1, 97), (2, 98), (3, 99), (4, 100), (5, 101)], [(⟨0, [(5, none)], none, .r (.ld none (.t 5))⟩, [1])]⟩) (.seq (.drw ⟨c20_p25, [(0, 102), (1, 103), (2, 104), (3, 105), (4, 106), (5, 107), (6, 108), (7, 109), (8, 110), (9, 111), (10, 112)], [(⟨0, [(5, none)], none, .r (.ld none (.t 5))⟩, [1])]⟩) (.seq (.drw ⟨c20_p26, [(0, 113), (1, 114), (2, 115), (3, 116), (4, 117), (5, 118), (6, 119), (7, 120), (8, 121), (9, 122)], [(⟨0, [(5, none)], none, .r (.ld none (.t 5))⟩, [1])]⟩) (.seq (.ops c20_s27) (.seq (.seq (.ops c20_s28) (.block 4 (.loop c20_l34))) (.seq (.ops c20_s35) (.seq (.ops c20_s36) .ret)))))))))))))))))))), [.tmp 2, .tmp 3]⟩

/-- what placing a group leaves -/
structure Placed (L A : Nat) (at' : Int) (gv : AV) (gl : Nat) (c : CfgT) (cv : AV) (p : PlT) (hv tv val : AV) (h h' : H) : Prop where
  gL : ∃ gv' gcs', h'.t.get L = some (rowL (cfgC c cv ++ (plC p ++ [gv', hv, tv, val])) 167) ∧ Own 4 170 h' gv' (gl + 1) gcs' ∧ (∀ a, own gv' = some a → h.next ≤ a)
  gA : h'.t.get A = some (rowL [.int .i64 at'] 3)
  next : h.next ≤ h'.next
  old : ∀ b, b < h.next → b ≠ L → b ≠ A → own gv ≠ some b → h'.t.get b = h.t.get b
theorem w61 (P : Program) {call : CallE} {h : H} {A X L gl : Nat} {c : CfgT} {cv gv hv tv val : AV} {p : PlT} {gcs : List AV} {k at0 m w : Int}
    (gA : h.t.get A = some (rowL [.int .i64 at0] 3)) (gX : h.t.get X = some (rowL [.ptr L 0] 64)) (gL : h.t.get L = some (rowL (cfgC c cv ++ (plC p ++ [gv, hv, tv, val])) 167)) (og : Own 4 170 h gv gl gcs) (hgl : gl ≤ 100)
    (lA : A < h.next) (lX : X < h.next) (lL : L < h.next) (nXA : X ≠ A) (nLA : L ≠ A) (nXL : X ≠ L) (oA : own gv ≠ some A) (oX : own gv ≠ some X) (oL : own gv ≠ some L) (hm : 0 ≤ m ∧ m ≤ 200) (hw : 0 ≤ w ∧ w ≤ 200) (ha : 0 ≤ at0 ∧ at0 ≤ 1000000) :
    WF P call c61 [.int .u8 k, .int .i64 m, .int .i64 w, .ptr A 0, .ptr X 0] h fun v h' => v = .int .i64 at0 ∧ Placed L A (at0 + m * w) gv gl c cv p hv tv val h h' := by
  have ogv := og.one
  have hmw : 0 ≤ m * w ∧ m * w ≤ 40000 := ⟨Int.mul_nonneg hm.1 hw.1, by have h1 := Int.mul_le_mul hm.2 hw.2 hw.1 (by omega); omega⟩
  have f1 : fw .i64 (m * w) = m * w := fwI (by omega) (by omega)
  have f2 : fw .i64 (at0 + m * w) = at0 + m * w := fwI (by omega) (by omega)
  have a1 : ¬ A = h.next := by omega
  have x1 : ¬ X = h.next := by omega
  have l1 : ¬ L = h.next := by omega
  have st0 := StepN.new h (.row (putList 0 [.int .u8 k, .int .i64 at0, .int .i64 m, .int .i64 w] T.e) 4 170)
  have og1 : Own 4 170 ⟨h.next + 1, h.t.set h.next (.row (putList 0 [.int .u8 k, .int .i64 at0, .int .i64 m, .int .i64 w] T.e) 4 170)⟩ gv gl gcs := og.keep st0.next fun b hb => st0.old b (og.lt hb)
  simp only [go_sem, ↓reduceIte, ↓reduceDIte, zA, zM, zL, zE, zD, yA, yE, yL, yQ, yT, reduceCtorEq, c61, gA, gX, gL, a1, x1, l1, cfgC, plC]
  refine opt_some (appA_own og1 (by decide) (by decide) (by omega) (by omega)) ?_
  have gL1 := app_get (h := ⟨h.next + 1, h.t.set h.next (.row (putList 0 [.int .u8 k, .int .i64 at0, .int .i64 m, .int .i64 w] T.e) 4 170)⟩) (e := 170) (v := gv) (cs := gcs ++ [.int .u8 k, .int .i64 at0, .int .i64 m, .int .i64 w]) (b := L) (by show L < h.next + 1; omega) oL
  have gX1 := app_get (h := ⟨h.next + 1, h.t.set h.next (.row (putList 0 [.int .u8 k, .int .i64 at0, .int .i64 m, .int .i64 w] T.e) 4 170)⟩) (e := 170) (v := gv) (cs := gcs ++ [.int .u8 k, .int .i64 at0, .int .i64 m, .int .i64 w]) (b := X) (by show X < h.next + 1; omega) oX
  have gA1 := app_get (h := ⟨h.next + 1, h.t.set h.next (.row (putList 0 [.int .u8 k, .int .i64 at0, .int .i64 m, .int .i64 w] T.e) 4 170)⟩) (e := 170) (v := gv) (cs := gcs ++ [.int .u8 k, .int .i64 at0, .int .i64 m, .int .i64 w]) (b := A) (by show A < h.next + 1; omega) oA
  have oA1 := own_app og1 (src := [.int .u8 k, .int .i64 at0, .int .i64 m, .int .i64 w]) (n := 1) (by decide) rfl
  have ov1 := oA1.one
  simp only [go_sem, ↓reduceIte, ↓reduceDIte, zA, zM, zL, zE, zD, yA, yE, yL, yQ, yT, reduceCtorEq, a1, x1, l1, gL, gX, gA, cfgC, plC] at gL1 gX1 gA1
  have nAL : ¬ A = L := fun e => nLA e.symm
  have nX1 : ¬ X = L := nXL
  simp only [go_sem, ↓reduceIte, ↓reduceDIte, zA, zM, zL, zE, zD, yA, yE, yL, yQ, yT, reduceCtorEq, gL1, gX1, gA1, nAL, nX1, ov1, app_next, f1, f2, a1, x1, l1, gL, gX, gA, cfgC, plC]
  refine ⟨⟨appV ⟨h.next + 1, h.t.set h.next (.row (putList 0 [.int .u8 k, .int .i64 at0, .int .i64 m, .int .i64 w] T.e) 4 170)⟩ 4 (gl + 1), gcs ++ [.int .u8 k, .int .i64 at0, .int .i64 m, .int .i64 w], ?_, ?_, ?_⟩, ?_, ?_, ?_⟩
  · have n1 : ¬ L = A := nLA
    simp only [go_sem, ↓reduceIte, ↓reduceDIte, zA, zM, zL, zE, zD, yA, yE, yL, yQ, yT, reduceCtorEq, n1, cfgC, plC]
    rfl
  · refine oA1.keep (by show h.next + 1 + 1 ≤ h.next + 2; omega) fun b hb => ?_
    rw [own_appV] at hb
    obtain rfl := Option.some.inj hb
    have n1 : ¬ h.next + 1 = A := by omega
    have n2 : ¬ h.next + 1 = L := by omega
    simp only [go_sem, ↓reduceIte, ↓reduceDIte, zA, zM, zL, zE, zD, yA, yE, yL, yQ, yT, reduceCtorEq, n1, n2]
  · intro a ha
    rw [own_appV] at ha
    obtain rfl := Option.some.inj ha
    show h.next ≤ h.next + 1
    omega
  · simp only [go_sem, ↓reduceIte, ↓reduceDIte, zA, zM, zL, zE, zD, yA, yE, yL, yQ, yT, reduceCtorEq]
    rfl
  · show h.next ≤ h.next + 2
    omega
  · intro b hb b1 b2 b3
    have n1 : ¬ b = h.next := by omega
    have g1 := app_get (h := ⟨h.next + 1, h.t.set h.next (.row (putList 0 [.int .u8 k, .int .i64 at0, .int .i64 m, .int .i64 w] T.e) 4 170)⟩) (e := 170) (v := gv) (cs := gcs ++ [.int .u8 k, .int .i64 at0, .int .i64 m, .int .i64 w]) (b := b) (by show b < h.next + 1; omega) b3
    simp only [go_sem, ↓reduceIte, ↓reduceDIte, zA, zM, zL, zE, zD, yA, yE, yL, yQ, yT, reduceCtorEq, n1] at g1
    simp only [go_sem, ↓reduceIte, ↓reduceDIte, zA, zM, zL, zE, zD, yA, yE, yL, yQ, yT, reduceCtorEq, b1, b2, g1]
/-- the heights of the towers -/
def htL : Int → List Int → List Int
  | _, [] => []
  | i, t :: l => List.replicate t.toNat (i + 1) ++ htL (i + 1) l
def plZ : PlT := ⟨0, 0, 0, 0, 0, 0, 0, 0, 0, 0⟩
/-- the layout while its heights are collected -/
structure LS (g0 : Nat → Option AO) (L : Nat) (c : CfgT) (cv val : AV) (hs : List Int) (h : H) : Prop where
  old : ∀ b, b < L → h.t.get b = g0 b
  x : h.t.get (L + 1) = some (rowL [.ptr L 0] 64)
  nx : L + 2 ≤ h.next
  ex : ∃ hv, h.t.get L = some (rowL (cfgC c cv ++ (plC plZ ++ [.nils, hv, .nils, val])) 167) ∧ Own 1 3 h hv hs.length (iL hs) ∧ (∀ a, own hv = some a → L + 2 ≤ a)
def At20 (B L : Nat) (ts : List Int) (i : Int) (tm : T AV) : Prop := tm.get 1 = some (.ptr B 0) ∧ tm.get 5 = some (.ptr (L + 1) 0) ∧ tm.get 36 = some (.agg (iL ts)) ∧ tm.get 37 = some (.int .i64 i)
def I14 (g0 : Nat → Option AO) (B L : Nat) (c : CfgT) (cv val : AV) (ts : List Int) (i : Int) (hs0 : List Int) (n k : Nat) (tm : T AV) (h : H) : Prop :=
  At20 B L ts i tm ∧ tm.get 6 = some (.int .i64 i) ∧ tm.get 41 = some (.int .i64 (n : Int)) ∧ ∃ j : Nat, j + k = n ∧ tm.get 42 = some (.int .i64 (j : Int)) ∧ LS g0 L c cv val (hs0 ++ List.replicate j (i + 1)) h
theorem step14 (P : Program) {call : CallE} {g0 : Nat → Option AO} {B L : Nat} {c : CfgT} {cv val : AV} {ts : List Int} {i : Int} {hs0 : List Int} {n : Nat} (hv1 : oneA cv = true) (hv2 : oneA val = true) (hn : hs0.length + n ≤ 1000) (hi : 0 ≤ i ∧ i ≤ 100) (k : Nat) (tm : T AV) (h : H) (hI : I14 g0 B L c cv val ts i hs0 n k tm h) :
    WC P call c20_l14 (loopQ 2 (fun tm h => ∃ j, j < k ∧ I14 g0 B L c cv val ts i hs0 n j tm h) (fun tm h => At20 B L ts i tm ∧ LS g0 L c cv val (hs0 ++ List.replicate n (i + 1)) h) (fun _ _ => False)) tm h := by
  obtain ⟨⟨t1, t5, t36, t37⟩, t6, t41, j, hjk, t42, ls⟩ := hI
  cases k with
  | zero =>
    have e1 : ¬ (j : Int) < (n : Int) := by omega
    simp only [go_sem, ↓reduceIte, ↓reduceDIte, zA, zM, zL, zE, zD, yA, yE, yL, yQ, yT, reduceCtorEq, c20_l14, t41, t42, e1]
    obtain rfl : j = n := by omega
    exact ⟨⟨by simp [go_sem, t1], by simp [go_sem, t5], by simp [go_sem, t36], by simp [go_sem, t37]⟩, ls⟩
  | succ k =>
    have e1 : (j : Int) < (n : Int) := by omega
    obtain ⟨old, gX, nx, hv, gL, oh, ohl⟩ := ls
    have f1 : fw .i64 (i + 1) = i + 1 := fwI (by omega) (by omega)
    have f2 : fw .i64 ((j : Int) + 1) = (j : Int) + 1 := fwI (by omega) (by omega)
    have e3 : ((j + 1 : Nat) : Int) = (j : Int) + 1 := rfl
    have ov := oh.one
    have x1 : ¬ L + 1 = h.next := by omega
    have l1 : ¬ L = h.next := by omega
    have xl : ¬ L + 1 = L := by omega
    have st0 := StepN.new h (.row (putList 0 [.int .i64 (i + 1)] T.e) 1 3)
    have oh1 : Own 1 3 ⟨h.next + 1, h.t.set h.next (.row (putList 0 [.int .i64 (i + 1)] T.e) 1 3)⟩ hv _ _ := oh.keep st0.next fun b hb => st0.old b (oh.lt hb)
    have hlen : (hs0 ++ List.replicate j (i + 1)).length = hs0.length + j := by rw [List.length_append, List.length_replicate]
    generalize hhs : hs0 ++ List.replicate j (i + 1) = hs at oh oh1 hlen gL
    simp only [go_sem, ↓reduceIte, ↓reduceDIte, zA, zM, zL, zE, zD, yA, yE, yL, yQ, yT, reduceCtorEq, c20_l14, t1, t5, t6, t36, t37, t41, t42, e1, gX, gL, x1, l1, cfgC, plC, f1]
    refine opt_some (appA_own oh1 (by decide) (by decide) (by omega) (by omega)) ?_
    have gL1 := app_get (h := ⟨h.next + 1, h.t.set h.next (.row (putList 0 [.int .i64 (i + 1)] T.e) 1 3)⟩) (e := 3) (v := hv) (cs := iL hs ++ [.int .i64 (i + 1)]) (b := L) (by show L < h.next + 1; omega) (fun hh => by have := ohl _ hh; omega)
    have gX1 := app_get (h := ⟨h.next + 1, h.t.set h.next (.row (putList 0 [.int .i64 (i + 1)] T.e) 1 3)⟩) (e := 3) (v := hv) (cs := iL hs ++ [.int .i64 (i + 1)]) (b := L + 1) (by show L + 1 < h.next + 1; omega) (fun hh => by have := ohl _ hh; omega)
    have oA1 := own_app oh1 (src := [.int .i64 (i + 1)]) (n := 1) (by decide) rfl
    have ov1 := oA1.one
    simp only [go_sem, ↓reduceIte, ↓reduceDIte, zA, zM, zL, zE, zD, yA, yE, yL, yQ, yT, reduceCtorEq, x1, l1, gL, gX, cfgC, plC] at gL1 gX1
    simp only [go_sem, ↓reduceIte, ↓reduceDIte, zA, zM, zL, zE, zD, yA, yE, yL, yQ, yT, reduceCtorEq, gL1, gX1, xl, ov1, app_next, f2, t1, t5, t36, t37, t6, t41, t42, x1, l1, gL, gX, cfgC, plC]
    have ehs : hs0 ++ List.replicate (j + 1) (i + 1) = hs ++ [i + 1] := by rw [← hhs, List.replicate_succ', List.append_assoc]
    refine ⟨k, Nat.lt_succ_self k, ⟨by simp [go_sem, t1], by simp [go_sem, t5], by simp [go_sem, t36], by simp [go_sem, t37]⟩, by simp [go_sem, t6], by simp [go_sem, t41], j + 1, by omega, by simp [go_sem, e3], ?_⟩
    rw [ehs]
    refine ⟨fun b hb => ?_, by simp [go_sem, xl, gX1], by show L + 2 ≤ h.next + 2; omega, appV ⟨h.next + 1, h.t.set h.next (.row (putList 0 [.int .i64 (i + 1)] T.e) 1 3)⟩ 1 (hs.length + 1), by simp [go_sem, cfgC, plC], ?_, ?_⟩
    · have n1 : ¬ b = h.next := by omega
      have n2 : ¬ b = L := by omega
      have g1 := app_get (h := ⟨h.next + 1, h.t.set h.next (.row (putList 0 [.int .i64 (i + 1)] T.e) 1 3)⟩) (e := 3) (v := hv) (cs := iL hs ++ [.int .i64 (i + 1)]) (b := b) (by show b < h.next + 1; omega) (fun hh => by have := ohl _ hh; omega)
      simp only [go_sem, ↓reduceIte, ↓reduceDIte, zA, zM, zL, zE, zD, yA, yE, yL, yQ, yT, reduceCtorEq, n1] at g1
      simp only [go_sem, ↓reduceIte, ↓reduceDIte, zA, zM, zL, zE, zD, yA, yE, yL, yQ, yT, reduceCtorEq, n2, g1]
      exact old b hb
    · have e4 : iL hs ++ [.int .i64 (i + 1)] = iL (hs ++ [i + 1]) := by unfold iL; rw [List.map_append]; rfl
      rw [e4] at oA1
      rw [List.length_append]
      refine oA1.keep (by show h.next + 1 + 1 ≤ h.next + 2; omega) fun b hb => ?_
      rw [own_appV] at hb
      obtain rfl := Option.some.inj hb
      have n2 : ¬ h.next + 1 = L := by omega
      simp only [go_sem, ↓reduceIte, ↓reduceDIte, zA, zM, zL, zE, zD, yA, yE, yL, yQ, yT, reduceCtorEq, n2, e4]
    · intro a ha
      rw [own_appV] at ha
      obtain rfl := Option.some.inj ha
      show L + 2 ≤ h.next + 1
      omega
def I16 (g0 : Nat → Option AO) (B L : Nat) (c : CfgT) (cv val : AV) (ts : List Int) (k : Nat) (tm : T AV) (h : H) : Prop :=
  ∃ i : Nat, i + k = 6 ∧ At20 B L ts i tm ∧ ∃ hs, hs ++ htL i (ts.drop i) = htL 0 ts ∧ LS g0 L c cv val hs h
theorem htL_len : ∀ (ts : List Int) (i : Int), (∀ t ∈ ts, 0 ≤ t) → ((htL i ts).length : Int) = ts.sum
  | [], i, _ => rfl
  | t :: l, i, h => by
    have h1 := htL_len l (i + 1) fun x hx => h x (List.mem_cons_of_mem _ hx)
    have h2 := h t (by simp)
    unfold htL
    rw [List.length_append, List.length_replicate, List.sum_cons]
    omega
theorem step16 (P : Program) [PT P] {call : CallE} {g0 : Nat → Option AO} {B L : Nat} {c : CfgT} {cv val : AV} {ts : List Int} (hv1 : oneA cv = true) (hv2 : oneA val = true) (hts : ts.length = 6) (hpos : ∀ t ∈ ts, 0 ≤ t) (hn : (htL 0 ts).length ≤ 1000) (k : Nat) (tm : T AV) (h : H) (hI : I16 g0 B L c cv val ts k tm h) :
    WC P call c20_l16 (loopQ 0 (fun tm h => ∃ j, j < k ∧ I16 g0 B L c cv val ts j tm h) (fun tm h => tm.get 1 = some (.ptr B 0) ∧ tm.get 5 = some (.ptr (L + 1) 0) ∧ LS g0 L c cv val (htL 0 ts) h) (fun _ _ => False)) tm h := by
  obtain ⟨i, hik, ⟨t1, t5, t36, t37⟩, hs, hhs, ls⟩ := hI
  cases k with
  | zero =>
    obtain rfl : i = 6 := by omega
    simp only [go_sem, ↓reduceIte, ↓reduceDIte, zA, zM, zL, zE, zD, yA, yE, yL, yQ, yT, reduceCtorEq, c20_l16, t37]
    rw [List.drop_eq_nil_of_le (by omega), show htL ((6 : Nat) : Int) [] = [] from rfl, List.append_nil] at hhs
    rw [hhs] at ls
    exact ⟨by simp [go_sem, t1], by simp [go_sem, t5], ls⟩
  | succ k =>
    have e1 : (i : Int) < 6 := by omega
    have hi : i < ts.length := by omega
    have e6 : (iL ts)[i]? = some (.int .i64 ts[i]) := by unfold iL; rw [List.getElem?_map, List.getElem?_eq_getElem hi]; rfl
    have f1 : fw .i64 ((i : Int) + 1) = (i : Int) + 1 := fwI (by omega) (by omega)
    have e3 : ((i + 1 : Nat) : Int) = (i : Int) + 1 := rfl
    have h0 := hpos ts[i] (List.getElem_mem hi)
    obtain ⟨n, hn0⟩ : ∃ n : Nat, ts[i] = (n : Int) := ⟨ts[i].toNat, by omega⟩
    have hd : htL i (ts.drop i) = List.replicate n ((i : Int) + 1) ++ htL ((i + 1 : Nat) : Int) (ts.drop (i + 1)) := by
      rw [List.drop_eq_getElem_cons hi, htL, hn0]; rfl
    have hlen : hs.length + n ≤ 1000 := by
      have := congrArg List.length hhs
      rw [hd, List.length_append, List.length_append, List.length_replicate] at this
      omega
    rw [hn0] at e6
    simp only [go_sem, ↓reduceIte, ↓reduceDIte, zA, zM, zL, zE, zD, yA, yE, yL, yQ, yT, reduceCtorEq, c20_l16, t1, t5, t36, t37, e1, part3, Nat.mul_one, e6]
    trace_state
    refine loop_in (I14 g0 B L c cv val ts i hs n) _ _ (fun k tm h' hI => step14 P hv1 hv2 hlen (by omega) k tm h' hI) (fun tm2 h2 hR => ?_) (fun _ _ hh => hh.elim) n _ _
      ⟨⟨by simp [go_sem, t1], by simp [go_sem, t5], by simp [go_sem, t36], by simp [go_sem, t37]⟩, by simp [go_sem], by simp [go_sem], 0, by omega, by simp [go_sem], by rw [List.replicate_zero, List.append_nil]; exact ls⟩
    obtain ⟨⟨s1, s5, s36, s37⟩, ls2⟩ := hR
    simp only [go_sem, ↓reduceIte, ↓reduceDIte, zA, zM, zL, zE, zD, yA, yE, yL, yQ, yT, reduceCtorEq, s1, s5, s36, s37, f1]
    refine ⟨k, Nat.lt_succ_self k, i + 1, by omega, ⟨by simp [go_sem, s1], by simp [go_sem, s5], by simp [go_sem, s36], by simp [go_sem, e3]⟩, _, ?_, ls2⟩
    rw [List.append_assoc, ← hd, hhs]
end
end Go.Proofs.YtldmhpdjlgoenaaGreatDoor.BN

namespace Go.Proofs.YtldmhpdjlgoenaaGreatDoor.BN
open Go.Proofs.YtldmhpdjlgoenaaGreatDoor.Eo
open Nat renaming reduceAdd → zA, reduceMul → zM, reduceLT → zL, reduceEqDiff → zE, reduceLeDiff → zD
open Int renaming reduceAdd → yA, reduceLE → yE, reduceLT → yL, reduceEq → yQ, reduceToNat → yT
noncomputable section
/-- the layout while its groups are placed -/
structure Lay1 (g0 : Nat → Option AO) (L A : Nat) (c : CfgT) (cv : AV) (p : PlT) (hv : AV) (hs : List Int) (tv val : AV) (gl : Nat) (at0 : Int) (h : H) : Prop where
  old : ∀ b, b < L → h.t.get b = g0 b
  x : h.t.get (L + 1) = some (rowL [.ptr L 0] 64)
  a : h.t.get A = some (rowL [.int .i64 at0] 3)
  lA : L + 1 < A
  nx : A < h.next
  ex : ∃ gv gcs, h.t.get L = some (rowL (cfgC c cv ++ (plC p ++ [gv, hv, tv, val])) 167) ∧ Own 4 170 h gv gl gcs ∧ (∀ a, own gv = some a → A < a)
  oh : Own 1 3 h hv hs.length (iL hs)
  ohl : ∀ a, own hv = some a → L + 2 ≤ a ∧ a < A
section
variable {g0 : Nat → Option AO} {L A : Nat} {c : CfgT} {cv : AV} {p : PlT} {hv : AV} {hs : List Int} {tv val : AV} {gl : Nat} {at0 : Int} {h h' : H}
theorem Lay1.step (l : Lay1 g0 L A c cv p hv hs tv val gl at0 h) (s : StepN h h') : Lay1 g0 L A c cv p hv hs tv val gl at0 h' := by
  have h1 := l.lA
  have h2 := l.nx
  obtain ⟨gv, gcs, gL, og, ol⟩ := l.ex
  exact ⟨fun b hb => (s.old b (by omega)).trans (l.old b hb), (s.old _ (by omega)).trans l.x, (s.old _ h2).trans l.a, h1, Nat.lt_of_lt_of_le h2 s.next, ⟨gv, gcs, (s.old _ (by omega)).trans gL, og.keep s.next fun b hb => s.old b (og.lt hb), ol⟩, l.oh.keep s.next fun b hb => s.old b (l.oh.lt hb), l.ohl⟩
theorem Lay1.setp (l : Lay1 g0 L A c cv p hv hs tv val gl at0 h) {gv : AV} {gcs : List AV} (og : Own 4 170 h gv gl gcs) (ol : ∀ a, own gv = some a → A < a) (p' : PlT) : Lay1 g0 L A c cv p' hv hs tv val gl at0 ⟨h.next, h.t.set L (rowL (cfgC c cv ++ (plC p' ++ [gv, hv, tv, val])) 167)⟩ := by
  have h1 := l.lA
  have h2 := l.nx
  have e1 : ¬ L + 1 = L := by omega
  have e2 : ¬ A = L := by omega
  refine ⟨fun b hb => ?_, ?_, ?_, h1, h2, ⟨gv, gcs, ?_, og.keep (Nat.le_refl _) fun b hb => ?_, ol⟩, l.oh.keep (Nat.le_refl _) fun b hb => ?_, l.ohl⟩
  · have e3 : ¬ b = L := by omega
    simp only [go_sem, ↓reduceIte, ↓reduceDIte, zA, zM, zL, zE, zD, yA, yE, yL, yQ, yT, reduceCtorEq, e3]
    exact l.old b hb
  · simp only [go_sem, ↓reduceIte, ↓reduceDIte, zA, zM, zL, zE, zD, yA, yE, yL, yQ, yT, reduceCtorEq, e1]
    exact l.x
  · simp only [go_sem, ↓reduceIte, ↓reduceDIte, zA, zM, zL, zE, zD, yA, yE, yL, yQ, yT, reduceCtorEq, e2]
    exact l.a
  · simp only [go_sem, ↓reduceIte, ↓reduceDIte, zA, zM, zL, zE, zD, yA, yE, yL, yQ, yT, reduceCtorEq]
  · have := ol b hb
    have e3 : ¬ b = L := by omega
    simp only [go_sem, ↓reduceIte, ↓reduceDIte, zA, zM, zL, zE, zD, yA, yE, yL, yQ, yT, reduceCtorEq, e3]
  · have := l.ohl b hb
    have e3 : ¬ b = L := by omega
    simp only [go_sem, ↓reduceIte, ↓reduceDIte, zA, zM, zL, zE, zD, yA, yE, yL, yQ, yT, reduceCtorEq, e3]
theorem Placed.lay {gv : AV} {gcs0 : List AV} {at' : Int} (l : Lay1 g0 L A c cv p hv hs tv val gl at0 h) (og0 : Own 4 170 h gv gl gcs0) (ol : ∀ a, own gv = some a → A < a) (pl : Placed L A at' gv gl c cv p hv tv val h h') : Lay1 g0 L A c cv p hv hs tv val (gl + 1) at' h' := by
  have h1 := l.lA
  have h2 := l.nx
  obtain ⟨gv', gcs', gL, og, og'⟩ := pl.gL
  have no : ∀ b, b < A → own gv ≠ some b := fun b hb hh => by have := ol b hh; omega
  refine ⟨fun b hb => (pl.old b (by omega) (by omega) (by omega) (no b (by omega))).trans (l.old b hb), (pl.old _ (by omega) (by omega) (by omega) (no _ (by omega))).trans l.x, pl.gA, h1, Nat.lt_of_lt_of_le h2 pl.next, ⟨gv', gcs', gL, og, fun a ha => Nat.lt_of_lt_of_le h2 (og' a ha)⟩, l.oh.keep pl.next fun b hb => ?_, l.ohl⟩
  have := l.ohl b hb
  exact pl.old b (l.oh.lt hb) (by omega) (by omega) (no b (by omega))
end
def F61 (call : CallE) : Prop := ∀ g0 L A c cv p hv hs tv val gl at0 h (k m w : Int), Lay1 g0 L A c cv p hv hs tv val gl at0 h → gl ≤ 100 → 0 ≤ m ∧ m ≤ 200 → 0 ≤ w ∧ w ≤ 200 → 0 ≤ at0 ∧ at0 ≤ 1000000 →
  ∃ v h', call 61 [.int .u8 k, .int .i64 m, .int .i64 w, .ptr A 0, .ptr (L + 1) 0] h = some (v, h') ∧ (v = .int .i64 at0 ∧ Lay1 g0 L A c cv p hv hs tv val (gl + 1) (at0 + m * w) h' ∧ h.next ≤ h'.next)
theorem WF_mono {P : Program} {call : CallE} {cf : CF} {args : List AV} {h : H} {Q Q' : AV → H → Prop} (hw : WF P call cf args h Q) (hk : ∀ v h', Q v h' → Q' v h') : WF P call cf args h Q' := by
  obtain ⟨v, h', q, _, k⟩ := WF_two hw hw
  exact k Q' (hk _ _ q)
theorem w61' (P : Program) {call : CallE} {g0 : Nat → Option AO} {L A : Nat} {c : CfgT} {cv : AV} {p : PlT} {hv : AV} {hs : List Int} {tv val : AV} {gl : Nat} {at0 : Int} {h : H} {k m w : Int} (l : Lay1 g0 L A c cv p hv hs tv val gl at0 h) (hgl : gl ≤ 100) (hm : 0 ≤ m ∧ m ≤ 200) (hw : 0 ≤ w ∧ w ≤ 200) (ha : 0 ≤ at0 ∧ at0 ≤ 1000000) :
    WF P call c61 [.int .u8 k, .int .i64 m, .int .i64 w, .ptr A 0, .ptr (L + 1) 0] h fun v h' => v = .int .i64 at0 ∧ Lay1 g0 L A c cv p hv hs tv val (gl + 1) (at0 + m * w) h' ∧ h.next ≤ h'.next := by
  obtain ⟨gv, gcs, gL, og, ol⟩ := l.ex
  have h1 := l.lA
  have h2 := l.nx
  have no : ∀ b, b ≤ A → own gv ≠ some b := fun b hb hh => by have := ol b hh; omega
  refine WF_mono (w61 P l.a l.x gL og hgl h2 (by omega) (by omega) (by omega) (by omega) (by omega) (no _ (by omega)) (no _ (by omega)) (no _ (by omega)) hm hw ha) fun v h' hh => ⟨hh.1, hh.2.lay l og ol, hh.2.next⟩
/-- the numbers of words of towers -/
def sumH : List Int → Int
  | [] => 0
  | x :: l => (5 + x) + sumH l
theorem sumH_le : ∀ l : List Int, (∀ x ∈ l, 1 ≤ x ∧ x ≤ 6) → 0 ≤ sumH l ∧ sumH l ≤ 11 * (l.length : Int)
  | [], _ => ⟨Int.le_refl _, by simp [sumH]⟩
  | x :: l, h => by
    have h1 := sumH_le l fun y hy => h y (List.mem_cons_of_mem _ hy)
    have h2 := h x (by simp)
    unfold sumH
    rw [List.length_cons]
    omega
/-- the layout while the words of its towers are placed -/
structure LT (g0 : Nat → Option AO) (L A : Nat) (c : CfgT) (cv : AV) (p : PlT) (gv hv : AV) (hs : List Int) (val : AV) (ts : List Int) (at0 : Int) (h : H) : Prop where
  old : ∀ b, b < L → h.t.get b = g0 b
  x : h.t.get (L + 1) = some (rowL [.ptr L 0] 64)
  a : h.t.get A = some (rowL [.int .i64 at0] 3)
  lA : L + 1 < A
  nx : A < h.next
  ex : ∃ tv, h.t.get L = some (rowL (cfgC c cv ++ (plC p ++ [gv, hv, tv, val])) 167) ∧ Own 1 3 h tv ts.length (iL ts) ∧ (∀ a, own tv = some a → A < a)
  oh : Own 1 3 h hv hs.length (iL hs)
  ohl : ∀ a, own hv = some a → L + 2 ≤ a ∧ a < A
def At34 (B L A : Nat) (hv : AV) (n : Nat) (tm : T AV) : Prop := tm.get 5 = some (.ptr (L + 1) 0) ∧ tm.get 8 = some (.ptr A 0) ∧ tm.get 131 = some hv ∧ tm.get 132 = some (.int .i64 (n : Int))
def I34 (g0 : Nat → Option AO) (B L A : Nat) (c : CfgT) (cv : AV) (p : PlT) (gv hv : AV) (hs : List Int) (val : AV) (tot : Int) (k : Nat) (tm : T AV) (h : H) : Prop :=
  At34 B L A hv hs.length tm ∧ ∃ i : Nat, i + k = hs.length ∧ tm.get 133 = some (.int .i64 (i : Int)) ∧ ∃ ts at0, ts.length = i ∧ 0 ≤ at0 ∧ at0 + sumH (hs.drop i) = tot ∧ LT g0 L A c cv p gv hv hs val ts at0 h
theorem step34 (P : Program) {call : CallE} {g0 : Nat → Option AO} {B L A : Nat} {c : CfgT} {cv : AV} {p : PlT} {gv hv : AV} {hs : List Int} {val : AV} {tot : Int} (o1 : oneA cv = true) (o2 : oneA gv = true) (o3 : oneA val = true) (hb : ∀ x ∈ hs, 1 ≤ x ∧ x ≤ 6) (hl : hs.length ≤ 1000) (htot : tot ≤ 1000000) (k : Nat) (tm : T AV) (h : H) (hI : I34 g0 B L A c cv p gv hv hs val tot k tm h) :
    WC P call c20_l34 (loopQ 4 (fun tm h => ∃ j, j < k ∧ I34 g0 B L A c cv p gv hv hs val tot j tm h) (fun tm h => At34 B L A hv hs.length tm ∧ ∃ ts, LT g0 L A c cv p gv hv hs val ts tot h) (fun _ _ => False)) tm h := by
  obtain ⟨⟨t5, t8, t131, t132⟩, i, hik, t133, ts, at0, hts, h0, hat, lt⟩ := hI
  have f0 := lt
  obtain ⟨old, gX, gA, lA, nx, ⟨tv, gL, ot, otl⟩, oh, ohl⟩ := lt
  cases k with
  | zero =>
    have e1 : ¬ (i : Int) < (hs.length : Int) := by omega
    simp only [go_sem, ↓reduceIte, ↓reduceDIte, zA, zM, zL, zE, zD, yA, yE, yL, yQ, yT, reduceCtorEq, c20_l34, t132, t133, e1]
    rw [List.drop_eq_nil_of_le (by omega), sumH, Int.add_zero] at hat
    subst hat
    exact ⟨⟨by simp [go_sem, t5], by simp [go_sem, t8], by simp [go_sem, t131], by simp [go_sem, t132]⟩, _, f0⟩
  | succ k =>
    have e1 : (i : Int) < (hs.length : Int) := by omega
    have hi : i < hs.length := by omega
    obtain ⟨x, hx⟩ : ∃ x, hs[i]? = some x := ⟨_, List.getElem?_eq_getElem hi⟩
    have hxm := hb x (List.mem_of_getElem? hx)
    have hdr : hs.drop i = x :: hs.drop (i + 1) := by
      rw [List.drop_eq_getElem_cons hi]
      rw [List.getElem?_eq_getElem hi] at hx
      rw [Option.some.inj hx]
    rw [hdr, sumH] at hat
    have hrest := sumH_le (hs.drop (i + 1)) fun y hy => hb y (List.mem_of_mem_drop hy)
    have f1 : fw .i64 (5 + x) = 5 + x := fwI (by omega) (by omega)
    have f2 : fw .i64 (at0 + (5 + x)) = at0 + (5 + x) := fwI (by omega) (by omega)
    have f3 : fw .i64 ((i : Int) + 1) = (i : Int) + 1 := fwI (by omega) (by omega)
    have e3 : ((i + 1 : Nat) : Int) = (i : Int) + 1 := rfl
    have hcell : (iL hs)[i]? = some (.int .i64 x) := by unfold iL; rw [List.getElem?_map, hx]; rfl
    have oh0 := oh
    generalize hn : hs.length = n at *
    generalize hcs : iL hs = cs at *
    cases oh with
    | nil => omega
    | sl a len cs cap hcp hp hcl hlt hg =>
      have ov := ot.one
      have a1 : ¬ A = h.next := by omega
      have x1 : ¬ L + 1 = h.next := by omega
      have l1 : ¬ L = h.next := by omega
      have xA : ¬ L + 1 = A := by omega
      have xL : ¬ L + 1 = L := by omega
      have AL : ¬ A = L := by omega
      have LA : ¬ L = A := by omega
      have hal := ohl a rfl
      have st0 := StepN.new h (.row (putList 0 [.int .i64 at0] T.e) 1 3)
      have ot1 : Own 1 3 ⟨h.next + 1, h.t.set h.next (.row (putList 0 [.int .i64 at0] T.e) 1 3)⟩ tv _ _ := ot.keep st0.next fun b hb => st0.old b (ot.lt hb)
      simp only [go_sem, ↓reduceIte, ↓reduceDIte, zA, zM, zL, zE, zD, yA, yE, yL, yQ, yT, reduceCtorEq, c20_l34, t5, t8, t131, t132, t133, e1, gX, gL, gA, x1, l1, a1, cfgC, plC, hg, Nat.mul_one, hcell]
      refine opt_some (appA_own ot1 (by decide) (by decide) (by omega) (by omega)) ?_
      have gg := fun b hb hh => app_get (h := ⟨h.next + 1, h.t.set h.next (.row (putList 0 [.int .i64 at0] T.e) 1 3)⟩) (e := 3) (v := tv) (cs := iL ts ++ [.int .i64 at0]) (b := b) hb hh
      have no : ∀ b, b ≤ A → own tv ≠ some b := fun b hb hh => by have := otl b hh; omega
      have gL1 := gg L (by show L < h.next + 1; omega) (no _ (by omega))
      have gX1 := gg (L + 1) (by show L + 1 < h.next + 1; omega) (no _ (by omega))
      have gA1 := gg A (by show A < h.next + 1; omega) (no _ (by omega))
      have oA1 := own_app ot1 (src := [.int .i64 at0]) (n := 1) (by decide) rfl
      have ov1 := oA1.one
      simp only [go_sem, ↓reduceIte, ↓reduceDIte, zA, zM, zL, zE, zD, yA, yE, yL, yQ, yT, reduceCtorEq, x1, l1, a1, gL, gX, gA, cfgC, plC] at gL1 gX1 gA1
      simp only [go_sem, ↓reduceIte, ↓reduceDIte, zA, zM, zL, zE, zD, yA, yE, yL, yQ, yT, reduceCtorEq, gL1, gX1, gA1, ov1, app_next, f1, f2, f3, x1, l1, a1, xA, xL, AL, LA, gL, gX, gA, cfgC, plC, t5, t8, t131, t132, t133]
      refine ⟨k, Nat.lt_succ_self k, ⟨by simp [go_sem, t5], by simp [go_sem, t8], by simp [go_sem, t131], by simp [go_sem, t132, hn]⟩, i + 1, by omega, by simp [go_sem, e3], ts ++ [at0], at0 + (5 + x), by rw [List.length_append, hts]; rfl, by omega, by omega, ?_⟩
      have hown : own (appV ⟨h.next + 1, h.t.set h.next (.row (putList 0 [.int .i64 at0] T.e) 1 3)⟩ 1 (ts.length + 1)) = some (h.next + 1) := rfl
      refine ⟨fun b hb => ?_, by simp [go_sem, xA, xL, gX1], by simp [go_sem], lA, by show A < h.next + 2; omega, ⟨appV ⟨h.next + 1, h.t.set h.next (.row (putList 0 [.int .i64 at0] T.e) 1 3)⟩ 1 (ts.length + 1), by simp [go_sem, LA, cfgC, plC], ?_, ?_⟩, ?_, ?_⟩
      · have n1 : ¬ b = h.next := by omega
        have n2 : ¬ b = L := by omega
        have n3 : ¬ b = A := by omega
        have g1 := gg b (by show b < h.next + 1; omega) (no _ (by omega))
        simp only [go_sem, ↓reduceIte, ↓reduceDIte, zA, zM, zL, zE, zD, yA, yE, yL, yQ, yT, reduceCtorEq, n1] at g1
        simp only [go_sem, ↓reduceIte, ↓reduceDIte, zA, zM, zL, zE, zD, yA, yE, yL, yQ, yT, reduceCtorEq, n2, n3, g1]
        exact old b hb
      · have e4 : iL ts ++ [.int .i64 at0] = iL (ts ++ [at0]) := by unfold iL; rw [List.map_append]; rfl
        rw [e4] at oA1
        rw [List.length_append]
        refine oA1.keep (by show h.next + 1 + 1 ≤ h.next + 2; omega) fun b hb => ?_
        rw [own_appV] at hb
        obtain rfl := Option.some.inj hb
        have n2 : ¬ h.next + 1 = L := by omega
        have n3 : ¬ h.next + 1 = A := by omega
        simp only [go_sem, ↓reduceIte, ↓reduceDIte, zA, zM, zL, zE, zD, yA, yE, yL, yQ, yT, reduceCtorEq, n2, n3, e4]
      · intro b hb
        rw [own_appV] at hb
        obtain rfl := Option.some.inj hb
        show A < h.next + 1
        omega
      · rw [hcs, hn]
        refine oh0.keep (by show h.next ≤ h.next + 2; omega) fun b hb => ?_
        obtain rfl := Option.some.inj hb
        have n1 : ¬ a = h.next := by omega
        have n2 : ¬ a = L := by omega
        have n3 : ¬ a = A := by omega
        have g1 := gg a (by show a < h.next + 1; omega) (no _ (by omega))
        simp only [go_sem, ↓reduceIte, ↓reduceDIte, zA, zM, zL, zE, zD, yA, yE, yL, yQ, yT, reduceCtorEq, n1] at g1
        simp only [go_sem, ↓reduceIte, ↓reduceDIte, zA, zM, zL, zE, zD, yA, yE, yL, yQ, yT, reduceCtorEq, n2, n3, g1]
      · exact ohl
end
end Go.Proofs.YtldmhpdjlgoenaaGreatDoor.BN

namespace Go.Proofs.YtldmhpdjlgoenaaGreatDoor.BN
open Go.Proofs.YtldmhpdjlgoenaaGreatDoor.Eo
open Nat renaming reduceAdd → zA, reduceMul → zM, reduceLT → zL, reduceEqDiff → zE, reduceLeDiff → zD
open Int renaming reduceAdd → yA, reduceLE → yE, reduceLT → yL, reduceEq → yQ, reduceToNat → yT
noncomputable section
def twL (c : CfgT) : List Int := [c.t0, c.t1, c.t2, c.t3, c.t4, c.t5]
/-- the heights of the towers of a configuration -/
def hsL (c : CfgT) : List Int := htL 0 (twL c)
structure PlOK (c : CfgT) (p : PlT) : Prop where
  ow : p.ow = 0
  en : p.en = c.slots
  eng : p.en + engN c ≤ p.wo
  po : c.slots ≤ p.po ∧ p.po + 6 ≤ p.wo
  li : c.slots ≤ p.li ∧ p.li + ((hsL c).length : Int) ≤ p.wo
  wo : p.wo ≤ 5000
theorem htL_mem : ∀ (ts : List Int) (i : Int) (x : Int), x ∈ htL i ts → i + 1 ≤ x ∧ x ≤ i + (ts.length : Int)
  | [], i, x, h => by simp [htL] at h
  | t :: l, i, x, h => by
    unfold htL at h
    rw [List.length_cons]
    rcases List.mem_append.1 h with h | h
    · have := (List.mem_replicate.1 h).2
      omega
    · have := htL_mem l (i + 1) x h
      omega
theorem hsL_mem {c : CfgT} : ∀ x ∈ hsL c, 1 ≤ x ∧ x ≤ 6 := fun x hx => by
  have h1 := htL_mem _ _ x hx
  have h2 : (twL c).length = 6 := rfl
  rw [h2] at h1
  omega
theorem towB_pos : ∀ (l : List Int) (a : Int), towB a l → ∀ t ∈ l, 0 ≤ t
  | [], _, _, t, h => by simp at h
  | x :: l, a, hb, t, h => by
    rcases List.mem_cons.1 h with rfl | h
    · exact hb.1.1
    · exact towB_pos l _ hb.2 t h
theorem valN_ok {k n : Int} {l : List Int} (h : domB k n l) : 1 ≤ valN k n l ∧ valN k n l ≤ 64 := by
  unfold valN
  rcases h with ⟨rfl, _⟩ | ⟨rfl, h, _⟩ | ⟨rfl, _, h1, h2, _⟩
  · rw [if_neg (by decide), if_neg (by decide)]; decide
  · exact h
  · rw [if_neg (by decide), if_pos rfl]; omega
/-- what the making of a layout leaves -/
structure PostL (c : CfgT) (h : H) (v : AV) (h' : H) : Prop where
  ex : ∃ L p, v = .tup [.ptr L 0, .int .i64 0] ∧ h.next ≤ L ∧ PlOK c p ∧ LayH h' L c p (hsL c)
  st : StepN h h'
def F58 (call : CallE) : Prop := ∀ h c v, RdL none 1 h v (uL c.cuts) → (∀ a, own v = some a → a < h.next) → ∃ v' h', call 58 [.agg (cfgC c v)] h = some (v', h') ∧ SaysE (layB c) h v' h'
def F59 (call : CallE) : Prop := ∀ h v (l : List Int), RdL none 1 h v (uL l) → (∀ a, own v = some a → a < h.next) → l.length ≤ 1000 → ∃ v' h', call 59 [v] h = some (v', h') ∧ CopyU l h v' h'
def F60 (call : CallE) : Prop := ∀ h k n v (l : List Int), domB k n l → RdL none 1 h v (uL l) → (∀ a, own v = some a → a < h.next) → ∃ v' h', call 60 [.agg [.int .u8 k, .int .i64 n, v]] h = some (v', h') ∧ (v' = .tup [.int .i64 (valN k n l), .int .i64 0] ∧ StepN h h')
def F62 (call : CallE) : Prop := ∀ h c v, layB c → oneA v = true → ∃ v' h', call 62 [.agg (cfgC c v)] h = some (v', h') ∧ (v' = .int .i64 (engN c) ∧ StepN h h')
set_option maxHeartbeats 1000000 in
theorem w20 (P : Program) [PT P] {call : CallE} (h58 : F58 call) (h59 : F59 call) (h60 : F60 call) (h62 : F62 call) (h61 : F61 call)
    {h : H} {c : CfgT} {v : AV} (hv : RdL none 1 h v (uL c.cuts)) (hlv : ∀ a, own v = some a → a < h.next) (hc : layB c) (hn : (hsL c).length ≤ 60) : WF P call c20 [.agg (cfgC c v)] h (PostL c h) := by
  have hc0 := hc
  obtain ⟨hT, hth, hsl, he1, he2, hb1, hb2, hd, hlo, htr, hba⟩ := hc
  have hvN := valN_ok hd
  have heN := engOK hc0
  have hcl : c.cuts.length ≤ 1000 := by
    rcases hd with ⟨_, _, h1⟩ | ⟨_, _, h1⟩ | ⟨_, _, _, h1, _⟩
    · rw [h1]; decide
    · rw [h1]; decide
    · omega
  have ov := hv.one
  have st0 := StepN.new h (.row (putList 0 (cfgC c v) T.e) 16 27)
  simp only [go_sem, ↓reduceIte, ↓reduceDIte, zA, zM, zL, zE, zD, yA, yE, yL, yQ, yT, reduceCtorEq, c20, ov, cfgC]
  refine opt_by (h58 _ c v (hv.keep fun b hb => st0.old b (hlv b hb)) fun a ha => Nat.lt_succ_of_lt (hlv a ha)) fun v1 h1 p1 => ?_
  obtain ⟨e, rfl, he, st1⟩ := p1
  obtain rfl := he.2 hc0
  have g1 := st1.old h.next (Nat.lt_succ_self _)
  simp only [go_sem, ↓reduceIte, ↓reduceDIte, zA, zM, zL, zE, zD, yA, yE, yL, yQ, yT, reduceCtorEq, cfgC] at g1
  have st01 := st0.trans st1
  have nx1 : h.next < h1.next := st1.next
  simp only [go_sem, ↓reduceIte, ↓reduceDIte, zA, zM, zL, zE, zD, yA, yE, yL, yQ, yT, reduceCtorEq, g1, ov]
  refine opt_by (h59 _ v c.cuts (hv.keep fun b hb => st01.old b (hlv b hb)) (fun a ha => Nat.lt_trans (hlv a ha) nx1) hcl) fun cv h2 p2 => ?_
  have ov2 := p2.rd.one
  have g2 := (p2.st.old _ nx1).trans g1
  have nx2 := p2.st.next
  have st02 := st01.trans p2.st
  have hB : h.next < h2.next := by omega
  obtain ⟨B, hBe⟩ : ∃ B, B = h.next := ⟨_, rfl⟩
  obtain ⟨L, hLe⟩ : ∃ L, L = h2.next := ⟨_, rfl⟩
  rw [← hBe] at g2 hB
  rw [← hBe]
  have hBL : B < L := by omega
  have e1 : ¬ B = h2.next := by omega
  have e2 : ¬ B = h2.next + 1 := by omega
  have e3 : ¬ h2.next = h2.next + 1 := by omega
  have e4 : ¬ h2.next + 1 = h2.next := by omega
  have e5 : ¬ h2.next = B := by omega
  have e6 : ¬ h2.next + 1 = B := by omega
  have rd2 : ∀ h' : H, (∀ b, b < h2.next → b ≠ B → h'.t.get b = h2.t.get b) → RdL none 1 h' cv (uL c.cuts) := fun h' hh => p2.rd.keep fun b hb => hh b (p2.lo b hb).2 (by have := (p2.lo b hb).1; omega)
  simp only [go_sem, ↓reduceIte, ↓reduceDIte, zA, zM, zL, zE, zD, yA, yE, yL, yQ, yT, reduceCtorEq, g2, ov2, e1, e2, e3, e4]
  refine opt_by (h60 _ c.kind c.n cv c.cuts hd (rd2 _ fun b hb hn => ?_) (fun a ha => by have := (p2.lo a ha).2; show a < h2.next + 2; omega)) fun v3 h3 p3 => ?_
  · have n1 : ¬ b = h2.next := by omega
    have n2 : ¬ b = h2.next + 1 := by omega
    simp only [go_sem, ↓reduceIte, ↓reduceDIte, zA, zM, zL, zE, zD, yA, yE, yL, yQ, yT, reduceCtorEq, n1, n2, hn]
  obtain ⟨rfl, st3⟩ := p3
  have nx3 : L + 2 ≤ h3.next := by have := st3.next; rw [hLe]; exact this
  have gL3 := st3.old L (by rw [hLe]; show h2.next < h2.next + 2; omega)
  have gX3 := st3.old (L + 1) (by rw [hLe]; show h2.next + 1 < h2.next + 2; omega)
  have gB3 := st3.old B (by show B < h2.next + 2; omega)
  have old3 : ∀ b, b < L → b ≠ B → h3.t.get b = h2.t.get b := fun b hb hn => by
    have n1 : ¬ b = h2.next := by omega
    have n2 : ¬ b = h2.next + 1 := by omega
    have := st3.old b (by show b < h2.next + 2; omega)
    simp only [go_sem, ↓reduceIte, ↓reduceDIte, zA, zM, zL, zE, zD, yA, yE, yL, yQ, yT, reduceCtorEq, n1, n2, hn] at this
    exact this
  simp only [go_sem, ↓reduceIte, ↓reduceDIte, zA, zM, zL, zE, zD, yA, yE, yL, yQ, yT, reduceCtorEq, hLe, e1, e2, e3, e4, e5, e6] at gL3 gX3 gB3
  simp only [← hLe] at gL3 gX3 gB3 ⊢
  have l2 : ¬ L = B := by omega
  have x2 : ¬ L + 1 = B := by omega
  have lL : ¬ L = L + 1 := by omega
  have xL : ¬ L + 1 = L := by omega
  have bL : ¬ B = L := by omega
  have bX : ¬ B = L + 1 := by omega
  simp only [go_sem, ↓reduceIte, ↓reduceDIte, zA, zM, zL, zE, zD, yA, yE, yL, yQ, yT, reduceCtorEq, gL3, gX3, gB3, lL, xL, bL, bX, l2, x2, ov2, nx3]
  have hBg : h3.t.get B = some (rowL (cfgC c cv) 27) := by rw [gB3]; rfl
  obtain ⟨VAL, hVAL⟩ : ∃ x, x = AV.int .i64 (valN c.kind c.n c.cuts) := ⟨_, rfl⟩
  have oVAL : oneA VAL = true := by rw [hVAL]; rfl
  rw [← hVAL]
  refine loop_in (I16 h3.t.get B L c cv VAL (twL c)) _ _ (fun k tm h' hI => step16 P ov2 oVAL rfl (towB_pos _ _ hT) (Nat.le_trans hn (by decide)) k tm h' hI) (fun tm4 h4 hR => ?_) (fun _ _ hh => hh.elim) 6 _ _
    ⟨0, rfl, ⟨by simp [go_sem, hLe], by simp [go_sem, hLe], by simp [go_sem, iL, twL], by simp [go_sem]⟩, [], rfl, ⟨fun b hb => ?_, by simp only [go_sem, ↓reduceIte, ↓reduceDIte, zA, zM, zL, zE, zD, yA, yE, yL, yQ, yT, reduceCtorEq, xL]; exact gX3, by show L + 2 ≤ h3.next; omega, .nils, by simp [go_sem, cfgC, plC, plZ], .nil, fun a ha => by cases ha⟩⟩
  · obtain ⟨t1, t5, ls⟩ := hR
    replace ls : LS h3.t.get L c cv VAL (hsL c) h4 := ls
    subst hVAL
    obtain ⟨hs, hhs⟩ : ∃ l, l = hsL c := ⟨_, rfl⟩
    have hmem : ∀ x ∈ hs, 1 ≤ x ∧ x ≤ 6 := by rw [hhs]; exact hsL_mem
    rw [← hhs] at ls hn
    have hsum := sumH_le hs hmem
    obtain ⟨old4, gX4, nx4, hv4, gL4, oh4, ohl4⟩ := ls
    obtain ⟨A, hA⟩ : ∃ A, A = h4.next := ⟨_, rfl⟩
    have ohA := oh4.lenA
    have oh4v := oh4.one
    have aX : ¬ L + 1 = A := by omega
    have aL : ¬ L = A := by omega
    have aB : ¬ B = A := by omega
    have Ax : ¬ A = L + 1 := by omega
    have Al : ¬ A = L := by omega
    have gB4 := (old4 B hBL).trans hBg
    have st4 := StepN.new h4 (.row (putList 0 [.int .i64 0] T.e) 1 3)
    rw [← hA] at st4
    have l0 : Lay1 h3.t.get L A c cv plZ hv4 hs .nils (.int .i64 (valN c.kind c.n c.cuts)) 0 0 ⟨A + 1, h4.t.set A (.row (putList 0 [.int .i64 0] T.e) 1 3)⟩ :=
      ⟨fun b hb => (st4.old b (by rw [← hA]; omega)).trans (old4 b hb), (st4.old _ (by omega)).trans gX4, by simp [go_sem], by omega, Nat.lt_succ_self _, ⟨.nils, [], (st4.old _ (by omega)).trans gL4, .nil, fun a ha => by cases ha⟩, oh4.keep (by show h4.next ≤ A + 1; omega) fun b hb => st4.old b (oh4.lt hb), fun a ha => ⟨ohl4 a ha, by rw [hA]; exact oh4.lt ha⟩⟩
    simp only [plZ] at l0
    simp only [go_sem, ↓reduceIte, ↓reduceDIte, zA, zM, zL, zE, zD, yA, yE, yL, yQ, yT, reduceCtorEq, t1, t5, gX4, gL4, gB4, cfgC, plC, ← hA, aX, aL, aB]
    refine opt_by (h61 h3.t.get L A c cv _ hv4 hs .nils (.int .i64 (valN c.kind c.n c.cuts)) 0 0 _ 1 c.slots 1 l0 (by decide) (by omega) (by omega) (by omega)) fun v1 k1 q1 => ?_
    obtain ⟨rfl, r1, nx1q⟩ := q1
    replace nx1q : A + 1 ≤ k1.next := nx1q
    obtain ⟨a1, ha1⟩ : ∃ a, a = 0 + c.slots * 1 := ⟨_, rfl⟩
    rw [← ha1] at r1
    obtain ⟨gv1, gcs1, gL1q, og1, ol1⟩ := r1.ex
    have gX1q := r1.x
    have gA1q := r1.a
    have gB1q := (r1.old B hBL).trans hBg
    have og1v := og1.one
    simp only [go_sem, ↓reduceIte, ↓reduceDIte, zA, zM, zL, zE, zD, yA, yE, yL, yQ, yT, reduceCtorEq, t1, t5, nx1q, gX1q, gL1q, gB1q, gA1q, og1v, oVAL, oh4v, gX4, gL4, gB4, aX, aL, aB, xL, bL, ov2, Al, ohA, cfgC, plC]
    have l1 := r1.setp og1 ol1 ⟨0, 0, 0, 0, 0, 0, 0, 0, 0, 0⟩
    refine opt_by (h62 _ c cv hc0 ov2) fun ve hE qE => ?_
    obtain ⟨rfl, stE⟩ := qE
    have lE := l1.step stE
    obtain ⟨gvE, gcsE, gLE, ogE, olE⟩ := lE.ex
    have gXE := lE.x
    have gBE := (lE.old B hBL).trans hBg
    have nxE : k1.next ≤ hE.next := stE.next
    simp only [go_sem, ↓reduceIte, ↓reduceDIte, zA, zM, zL, zE, zD, yA, yE, yL, yQ, yT, reduceCtorEq, t1, t5, nxE, gXE, gLE, gBE, gX1q, gL1q, gB1q, xL, bL, cfgC, plC]
    refine opt_by (h61 h3.t.get L A c cv _ hv4 hs .nils (.int .i64 (valN c.kind c.n c.cuts)) 1 a1 _ 2 1 (engN c) lE (by decide) (by omega) (by omega) (by omega)) fun v2 k2 q2 => ?_
    obtain ⟨rfl, r2, nx2q⟩ := q2
    replace nx2q : hE.next ≤ k2.next := nx2q
    obtain ⟨a2, ha2⟩ : ∃ a, a = a1 + 1 * (engN c) := ⟨_, rfl⟩
    rw [← ha2] at r2
    obtain ⟨gv2, gcs2, gL2q, og2, ol2⟩ := r2.ex
    have gX2q := r2.x
    have gA2q := r2.a
    have gB2q := (r2.old B hBL).trans hBg
    have og2v := og2.one
    simp only [go_sem, ↓reduceIte, ↓reduceDIte, zA, zM, zL, zE, zD, yA, yE, yL, yQ, yT, reduceCtorEq, t1, t5, nx2q, gX2q, gL2q, gB2q, gA2q, og2v, oVAL, oh4v, gXE, gLE, gBE, gX1q, gL1q, gB1q, gA1q, xL, bL, ov2, Al, ohA, cfgC, plC]
    have l2 := r2.setp og2 ol2 ⟨0, a1, 0, 0, 0, 0, 0, 0, 0, 0⟩
    refine opt_by (h61 h3.t.get L A c cv _ hv4 hs .nils (.int .i64 (valN c.kind c.n c.cuts)) 2 a2 _ 3 1 1 l2 (by decide) (by omega) (by omega) (by omega)) fun v3 k3 q3 => ?_
    obtain ⟨rfl, r3, nx3q⟩ := q3
    replace nx3q : k2.next ≤ k3.next := nx3q
    obtain ⟨a3, ha3⟩ : ∃ a, a = a2 + 1 * 1 := ⟨_, rfl⟩
    rw [← ha3] at r3
    obtain ⟨gv3, gcs3, gL3q, og3, ol3⟩ := r3.ex
    have gX3q := r3.x
    have gA3q := r3.a
    have gB3q := (r3.old B hBL).trans hBg
    have og3v := og3.one
    simp only [go_sem, ↓reduceIte, ↓reduceDIte, zA, zM, zL, zE, zD, yA, yE, yL, yQ, yT, reduceCtorEq, t1, t5, nx3q, gX3q, gL3q, gB3q, gA3q, og3v, oVAL, oh4v, gX2q, gL2q, gB2q, gA2q, xL, bL, ov2, Al, ohA, cfgC, plC]
    have l3 := r3.setp og3 ol3 ⟨0, a1, a2, 0, 0, 0, 0, 0, 0, 0⟩
    refine opt_by (h61 h3.t.get L A c cv _ hv4 hs .nils (.int .i64 (valN c.kind c.n c.cuts)) 3 a3 _ 4 c.locks 3 l3 (by decide) (by omega) (by omega) (by omega)) fun v4 k4 q4 => ?_
    obtain ⟨rfl, r4, nx4q⟩ := q4
    replace nx4q : k3.next ≤ k4.next := nx4q
    obtain ⟨a4, ha4⟩ : ∃ a, a = a3 + c.locks * 3 := ⟨_, rfl⟩
    rw [← ha4] at r4
    obtain ⟨gv4, gcs4, gL4q, og4, ol4⟩ := r4.ex
    have gX4q := r4.x
    have gA4q := r4.a
    have gB4q := (r4.old B hBL).trans hBg
    have og4v := og4.one
    simp only [go_sem, ↓reduceIte, ↓reduceDIte, zA, zM, zL, zE, zD, yA, yE, yL, yQ, yT, reduceCtorEq, t1, t5, nx4q, gX4q, gL4q, gB4q, gA4q, og4v, oVAL, oh4v, gX3q, gL3q, gB3q, gA3q, xL, bL, ov2, Al, ohA, cfgC, plC]
    have l4 := r4.setp og4 ol4 ⟨0, a1, a2, a3, 0, 0, 0, 0, 0, 0⟩
    refine opt_by (h61 h3.t.get L A c cv _ hv4 hs .nils (.int .i64 (valN c.kind c.n c.cuts)) 4 a4 _ 5 c.locks 1 l4 (by decide) (by omega) (by omega) (by omega)) fun v5 k5 q5 => ?_
    obtain ⟨rfl, r5, nx5q⟩ := q5
    replace nx5q : k4.next ≤ k5.next := nx5q
    obtain ⟨a5, ha5⟩ : ∃ a, a = a4 + c.locks * 1 := ⟨_, rfl⟩
    rw [← ha5] at r5
    obtain ⟨gv5, gcs5, gL5q, og5, ol5⟩ := r5.ex
    have gX5q := r5.x
    have gA5q := r5.a
    have gB5q := (r5.old B hBL).trans hBg
    have og5v := og5.one
    simp only [go_sem, ↓reduceIte, ↓reduceDIte, zA, zM, zL, zE, zD, yA, yE, yL, yQ, yT, reduceCtorEq, t1, t5, nx5q, gX5q, gL5q, gB5q, gA5q, og5v, oVAL, oh4v, gX4q, gL4q, gB4q, gA4q, xL, bL, ov2, Al, ohA, cfgC, plC]
    have l5 := r5.setp og5 ol5 ⟨0, a1, a2, a3, a4, 0, 0, 0, 0, 0⟩
    refine opt_by (h61 h3.t.get L A c cv _ hv4 hs .nils (.int .i64 (valN c.kind c.n c.cuts)) 5 a5 _ 6 6 1 l5 (by decide) (by omega) (by omega) (by omega)) fun v6 k6 q6 => ?_
    obtain ⟨rfl, r6, nx6q⟩ := q6
    replace nx6q : k5.next ≤ k6.next := nx6q
    obtain ⟨a6, ha6⟩ : ∃ a, a = a5 + 6 * 1 := ⟨_, rfl⟩
    rw [← ha6] at r6
    obtain ⟨gv6, gcs6, gL6q, og6, ol6⟩ := r6.ex
    have gX6q := r6.x
    have gA6q := r6.a
    have gB6q := (r6.old B hBL).trans hBg
    have og6v := og6.one
    simp only [go_sem, ↓reduceIte, ↓reduceDIte, zA, zM, zL, zE, zD, yA, yE, yL, yQ, yT, reduceCtorEq, t1, t5, nx6q, gX6q, gL6q, gB6q, gA6q, og6v, oVAL, oh4v, gX5q, gL5q, gB5q, gA5q, xL, bL, ov2, Al, ohA, cfgC, plC]
    have l6 := r6.setp og6 ol6 ⟨0, a1, a2, a3, a4, a5, 0, 0, 0, 0⟩
    refine opt_by (h61 h3.t.get L A c cv _ hv4 hs .nils (.int .i64 (valN c.kind c.n c.cuts)) 6 a6 _ 7 (hs.length : Int) 1 l6 (by decide) (by omega) (by omega) (by omega)) fun v7 k7 q7 => ?_
    obtain ⟨rfl, r7, nx7q⟩ := q7
    replace nx7q : k6.next ≤ k7.next := nx7q
    obtain ⟨a7, ha7⟩ : ∃ a, a = a6 + (hs.length : Int) * 1 := ⟨_, rfl⟩
    rw [← ha7] at r7
    obtain ⟨gv7, gcs7, gL7q, og7, ol7⟩ := r7.ex
    have gX7q := r7.x
    have gA7q := r7.a
    have gB7q := (r7.old B hBL).trans hBg
    have og7v := og7.one
    simp only [go_sem, ↓reduceIte, ↓reduceDIte, zA, zM, zL, zE, zD, yA, yE, yL, yQ, yT, reduceCtorEq, t1, t5, nx7q, gX7q, gL7q, gB7q, gA7q, og7v, oVAL, oh4v, gX6q, gL6q, gB6q, gA6q, xL, bL, ov2, Al, ohA, cfgC, plC]
    have l7 := r7.setp og7 ol7 ⟨0, a1, a2, a3, a4, a5, a6, 0, 0, 0⟩
    refine opt_by (h61 h3.t.get L A c cv _ hv4 hs .nils (.int .i64 (valN c.kind c.n c.cuts)) 7 a7 _ 8 (valN c.kind c.n c.cuts) 7 l7 (by decide) (by omega) (by omega) (by omega)) fun v8 k8 q8 => ?_
    obtain ⟨rfl, r8, nx8q⟩ := q8
    replace nx8q : k7.next ≤ k8.next := nx8q
    obtain ⟨a8, ha8⟩ : ∃ a, a = a7 + (valN c.kind c.n c.cuts) * 7 := ⟨_, rfl⟩
    rw [← ha8] at r8
    obtain ⟨gv8, gcs8, gL8q, og8, ol8⟩ := r8.ex
    have gX8q := r8.x
    have gA8q := r8.a
    have gB8q := (r8.old B hBL).trans hBg
    have og8v := og8.one
    simp only [go_sem, ↓reduceIte, ↓reduceDIte, zA, zM, zL, zE, zD, yA, yE, yL, yQ, yT, reduceCtorEq, t1, t5, nx8q, gX8q, gL8q, gB8q, gA8q, og8v, oVAL, oh4v, gX7q, gL7q, gB7q, gA7q, xL, bL, ov2, Al, ohA, cfgC, plC]
    have l9 := r8.setp og8 ol8 ⟨0, a1, a2, a3, a4, a5, a6, a7, a8, 0⟩
    refine loop_in (I34 h3.t.get B L A c cv ⟨0, a1, a2, a3, a4, a5, a6, a7, a8, 0⟩ gv8 hv4 hs (.int .i64 (valN c.kind c.n c.cuts)) (a8 + sumH hs)) _ _ (fun k tm h' hI => step34 P ov2 og8v rfl hmem (by omega) (by omega) k tm h' hI) (fun tm5 h5 hR5 => ?_) (fun _ _ hh => hh.elim) hs.length _ _
      ⟨⟨by simp [go_sem, t5], by simp [go_sem], by simp [go_sem], by simp [go_sem]⟩, 0, by omega, by simp [go_sem], [], a8, rfl, by omega, rfl, ⟨l9.old, l9.x, l9.a, l9.lA, l9.nx, ⟨.nils, by simp [go_sem, cfgC, plC], .nil, fun a ha => by cases ha⟩, l9.oh, l9.ohl⟩⟩
    obtain ⟨⟨s5, s8, -, -⟩, ts5, lt5⟩ := hR5
    obtain ⟨tv5, gL5, ot5, otl5⟩ := lt5.ex
    have gX5 := lt5.x
    have gA5 := lt5.a
    have otv := ot5.one
    have nx5 := lt5.nx
    simp only [go_sem, ↓reduceIte, ↓reduceDIte, zA, zM, zL, zE, zD, yA, yE, yL, yQ, yT, reduceCtorEq, s5, s8, gX5, gA5, gL5, xL, cfgC, plC]
    have oldF : ∀ b, b < L → h5.t.get b = h3.t.get b := lt5.old
    have c3' : c.engine = 3 → c.buckets ≤ 16 := fun e => (hb1 e).2
    refine ⟨⟨L, ⟨0, a1, a2, a3, a4, a5, a6, a7, a8, a8 + sumH hs⟩, rfl, by omega, ⟨rfl, by show a1 = c.slots; omega, ?_, ?_, ?_, ?_⟩, ⟨⟨cv, gv8, hv4, tv5, valN c.kind c.n c.cuts, by simp [go_sem, cfgC, plC], ?_, ?_, ?_, ?_, og8v, otv⟩, ?_⟩⟩, ⟨?_, fun b hb => ?_⟩⟩
    · show a1 + engN c ≤ a8 + sumH hs
      omega
    · show c.slots ≤ a5 ∧ a5 + 6 ≤ a8 + sumH hs
      omega
    · rw [← hhs]
      show c.slots ≤ a6 ∧ a6 + (hs.length : Int) ≤ a8 + sumH hs
      omega
    · show a8 + sumH hs ≤ 5000
      omega
    · refine rd2 _ fun b hb hn => ?_
      have n1 : ¬ b = L := by omega
      simp only [go_sem, ↓reduceIte, ↓reduceDIte, zA, zM, zL, zE, zD, yA, yE, yL, yQ, yT, reduceCtorEq, n1]
      exact (oldF b (by omega)).trans (old3 b (by omega) hn)
    · intro a ha
      have := (p2.lo a ha).2
      show a < h5.next
      omega
    · rw [← hhs]
      refine Own.rdl1 (e := 3) (len := hs.length) (lt5.oh.keep (Nat.le_refl _) fun b hb => ?_) (by omega)
      have := lt5.ohl b hb
      have n1 : ¬ b = L := by omega
      simp only [go_sem, ↓reduceIte, ↓reduceDIte, zA, zM, zL, zE, zD, yA, yE, yL, yQ, yT, reduceCtorEq, n1]
    · intro a ha
      have := lt5.ohl a ha
      show a < h5.next
      omega
    · show L < h5.next
      omega
    · show h.next ≤ h5.next
      omega
    · have n1 : ¬ b = L := by omega
      simp only [go_sem, ↓reduceIte, ↓reduceDIte, zA, zM, zL, zE, zD, yA, yE, yL, yQ, yT, reduceCtorEq, n1]
      exact ((oldF b (by omega)).trans (old3 b (by omega) (by omega))).trans (st02.old b hb)
  · have n1 : ¬ b = L := by omega
    simp only [go_sem, ↓reduceIte, ↓reduceDIte, zA, zM, zL, zE, zD, yA, yE, yL, yQ, yT, reduceCtorEq, n1]
end
end Go.Proofs.YtldmhpdjlgoenaaGreatDoor.BN
