/-
  A script is read: the reference; its loops.
-/
import Derived.Test.YtnmlfhogolonoaaSoD
set_option linter.unusedVariables false
set_option linter.unusedSimpArgs false
namespace Go.Proofs.Ytnmlfhogolonoaa
open Go.Proofs.Ytnmlfhogolonoaa.Eo
noncomputable section
/-! 19: leapfrog/leapfrogref43.Read -/
def c19_s0 : List SQ := [⟨(some 2), none, (.n (.new 31 [(.int .i64 0), (.int .i64 0), (.int .u8 0), (.int .i64 0), (.int .u8 0), (.int .i64 0), .nils, (.int .i64 0), (.int .i64 0), (.int .i64 0), (.int .i64 0), (.int .i64 0), (.int .i64 0), (.int .i64 0), (.int .i64 0), (.int .i64 0), .nils, .nils]))⟩]
def c19_s1 : List SQ := [⟨(some 13), none, (.p (.mv (.t 0)))⟩, ⟨(some 14), none, (.p (.build [(.str ⟨#[]⟩)] [(0, 1, (.t 13))]))⟩, ⟨(some 15), none, (.n (.box 77 (.t 14)))⟩, ⟨(some 3), none, (.p (.mv (.t 15)))⟩]
def c19_s2 : List SQ := [⟨(some 4), none, (.n (.new 31 [(.int .i64 0), (.int .i64 0), (.int .u8 0), (.int .i64 0), (.int .u8 0), (.int .i64 0), .nils, (.int .i64 0), (.int .i64 0), (.int .i64 0), (.int .i64 0), (.int .i64 0), (.int .i64 0), (.int .i64 0), (.int .i64 0), (.int .i64 0), .nils, .nils]))⟩]
def c19_s3 : List SQ := [⟨(some 16), none, (.p (.fadr 0 (.t 4)))⟩, ⟨(some 5), none, (.p (.mv (.t 16)))⟩]
def c19_s4 : List SQ := [⟨(some 17), none, (.p (.mv (.t 5)))⟩, ⟨(some 18), none, (.p (.mv (.t 3)))⟩, ⟨(some 19), none, (.cv (.c (.fn (.func 42) [] [])) [(.t 18), (.c (.int .i64 4))])⟩, ⟨(some 20), none, (.p (.bin .add 3 true false (.c (.int .i64 1)) (.t 19)))⟩, ⟨(some 21), none, (.p (.nilck (.t 17)))⟩, ⟨(some 22), none, (.p (.fadr 0 (.t 21)))⟩, ⟨none, none, (.e (.st 1 (.t 22) (.t 20)))⟩]
def c19_s5 : List SQ := [⟨(some 23), none, (.p (.mv (.t 5)))⟩, ⟨(some 24), none, (.p (.mv (.t 3)))⟩, ⟨(some 25), none, (.cv (.c (.fn (.func 42) [] [])) [(.t 24), (.c (.int .i64 4))])⟩, ⟨(some 26), none, (.p (.bin .add 3 true false (.c (.int .i64 1)) (.t 25)))⟩, ⟨(some 27), none, (.p (.nilck (.t 23)))⟩, ⟨(some 28), none, (.p (.fadr 1 (.t 27)))⟩, ⟨none, none, (.e (.st 1 (.t 28) (.t 26)))⟩]
def c19_s6 : List SQ := [⟨(some 29), none, (.p (.mv (.t 5)))⟩, ⟨(some 30), none, (.p (.mv (.t 3)))⟩, ⟨(some 31), none, (.cv (.c (.fn (.func 42) [] [])) [(.t 30), (.c (.int .i64 3))])⟩, ⟨(some 32), none, (.p (.bin .add 3 true false (.c (.int .i64 1)) (.t 31)))⟩, ⟨(some 33), none, (.p (.conv .u8 (.t 32)))⟩, ⟨(some 34), none, (.p (.nilck (.t 29)))⟩, ⟨(some 35), none, (.p (.fadr 2 (.t 34)))⟩, ⟨none, none, (.e (.st 1 (.t 35) (.t 33)))⟩]
def c19_s7 : List SQ := [⟨(some 36), none, (.p (.mv (.t 5)))⟩, ⟨(some 37), none, (.p (.nilck (.t 36)))⟩, ⟨(some 38), none, (.p (.fadr 2 (.t 37)))⟩, ⟨(some 39), none, (.r (.ld none (.t 38)))⟩, ⟨(some 40), none, (.p (.bin .eql 5 false true (.t 39) (.c (.int .u8 3))))⟩]
def c19_s8 : List SQ := [⟨(some 41), none, (.p (.mv (.t 5)))⟩, ⟨(some 42), none, (.p (.mv (.t 3)))⟩, ⟨(some 43), none, (.cv (.c (.fn (.func 42) [] [])) [(.t 42), (.c (.int .i64 4))])⟩, ⟨(some 44), none, (.p (.bin .add 3 true false (.c (.int .i64 1)) (.t 43)))⟩, ⟨(some 45), none, (.p (.nilck (.t 41)))⟩, ⟨(some 46), none, (.p (.fadr 3 (.t 45)))⟩, ⟨none, none, (.e (.st 1 (.t 46) (.t 44)))⟩]
def c19_s9 : List SQ := [⟨(some 47), none, (.p (.mv (.t 5)))⟩, ⟨(some 48), none, (.p (.mv (.t 3)))⟩, ⟨(some 49), none, (.cv (.c (.fn (.func 42) [] [])) [(.t 48), (.c (.int .i64 3))])⟩, ⟨(some 50), none, (.p (.bin .add 3 true false (.c (.int .i64 1)) (.t 49)))⟩, ⟨(some 51), none, (.p (.nilck (.t 47)))⟩, ⟨(some 52), none, (.p (.fadr 13 (.t 51)))⟩, ⟨none, none, (.e (.st 1 (.t 52) (.t 50)))⟩]
def c19_s10 : List SQ := [⟨(some 53), none, (.p (.mv (.t 5)))⟩, ⟨(some 54), none, (.p (.mv (.t 3)))⟩, ⟨(some 55), none, (.cv (.c (.fn (.func 42) [] [])) [(.t 54), (.c (.int .i64 8))])⟩, ⟨(some 56), none, (.p (.bin .add 3 true false (.c (.int .i64 1)) (.t 55)))⟩, ⟨(some 57), none, (.p (.nilck (.t 53)))⟩, ⟨(some 58), none, (.p (.fadr 14 (.t 57)))⟩, ⟨none, none, (.e (.st 1 (.t 58) (.t 56)))⟩]
def c19_s11 : List SQ := [⟨(some 59), none, (.p (.mv (.t 5)))⟩, ⟨(some 60), none, (.p (.mv (.t 3)))⟩, ⟨(some 61), none, (.cv (.c (.fn (.func 42) [] [])) [(.t 60), (.c (.int .i64 4))])⟩, ⟨(some 62), none, (.p (.nilck (.t 59)))⟩, ⟨(some 63), none, (.p (.fadr 15 (.t 62)))⟩, ⟨none, none, (.e (.st 1 (.t 63) (.t 61)))⟩]
def c19_p12 : List (List DQ × Option DQ) := [([⟨0, [(5, none)], none, (.p (.mv (.t 5)))⟩, ⟨1, [(3, none)], none, (.p (.mv (.t 3)))⟩, ⟨3, [(64, (some 0))], none, (.p (.nilck (.t 64)))⟩, ⟨4, [(67, (some 3))], none, (.p (.fadr 7 (.t 67)))⟩], (some ⟨2, [(65, (some 1))], none, (.cv (.c (.fn (.func 42) [] [])) [(.t 65), (.c (.int .i64 8))])⟩)), ([⟨5, [(68, (some 4))], none, (.p (.iadrA 6 1 (.t 68) (.c (.int .i64 0))))⟩], (some ⟨6, [(69, (some 5)), (66, (some 2))], none, (.e (.st 1 (.t 69) (.t 66)))⟩)), ([], none)]
def c19_p13 : List (List DQ × Option DQ) := [([⟨0, [(5, none)], none, (.p (.mv (.t 5)))⟩, ⟨1, [(3, none)], none, (.p (.mv (.t 3)))⟩, ⟨3, [(70, (some 0))], none, (.p (.nilck (.t 70)))⟩, ⟨4, [(73, (some 3))], none, (.p (.fadr 7 (.t 73)))⟩], (some ⟨2, [(71, (some 1))], none, (.cv (.c (.fn (.func 42) [] [])) [(.t 71), (.c (.int .i64 4))])⟩)), ([⟨5, [(74, (some 4))], none, (.p (.iadrA 6 1 (.t 74) (.c (.int .i64 1))))⟩], (some ⟨6, [(75, (some 5)), (72, (some 2))], none, (.e (.st 1 (.t 75) (.t 72)))⟩)), ([], none)]
def c19_p14 : List (List DQ × Option DQ) := [([⟨0, [(5, none)], none, (.p (.mv (.t 5)))⟩, ⟨1, [(3, none)], none, (.p (.mv (.t 3)))⟩, ⟨3, [(76, (some 0))], none, (.p (.nilck (.t 76)))⟩, ⟨4, [(79, (some 3))], none, (.p (.fadr 7 (.t 79)))⟩], (some ⟨2, [(77, (some 1))], none, (.cv (.c (.fn (.func 42) [] [])) [(.t 77), (.c (.int .i64 3))])⟩)), ([⟨5, [(80, (some 4))], none, (.p (.iadrA 6 1 (.t 80) (.c (.int .i64 2))))⟩], (some ⟨6, [(81, (some 5)), (78, (some 2))], none, (.e (.st 1 (.t 81) (.t 78)))⟩)), ([], none)]
def c19_s15 : List SQ := [⟨(some 82), none, (.p (.mv (.t 5)))⟩, ⟨(some 83), none, (.p (.mv (.t 3)))⟩, ⟨(some 84), none, (.cv (.c (.fn (.func 42) [] [])) [(.t 83), (.c (.int .i64 3))])⟩, ⟨(some 85), none, (.p (.bin .add 3 true false (.c (.int .i64 1)) (.t 84)))⟩, ⟨(some 86), none, (.p (.conv .u8 (.t 85)))⟩, ⟨(some 87), none, (.p (.nilck (.t 82)))⟩, ⟨(some 88), none, (.p (.fadr 4 (.t 87)))⟩, ⟨(some 89), none, (.p (.fadr 0 (.t 88)))⟩, ⟨none, none, (.e (.st 1 (.t 89) (.t 86)))⟩]
def c19_s16 : List SQ := [⟨(some 90), none, (.p (.mv (.t 5)))⟩, ⟨(some 91), none, (.p (.nilck (.t 90)))⟩, ⟨(some 92), none, (.p (.fadr 4 (.t 91)))⟩, ⟨(some 93), none, (.p (.fadr 0 (.t 92)))⟩, ⟨(some 94), none, (.r (.ld none (.t 93)))⟩, ⟨(some 95), none, (.p (.bin .eql 5 false true (.t 94) (.c (.int .u8 2))))⟩]
def c19_s17 : List SQ := [⟨(some 96), none, (.p (.mv (.t 5)))⟩, ⟨(some 97), none, (.p (.mv (.t 3)))⟩, ⟨(some 98), none, (.cv (.c (.fn (.func 42) [] [])) [(.t 97), (.c (.int .i64 5))])⟩, ⟨(some 99), none, (.p (.bin .add 3 true false (.c (.int .i64 1)) (.t 98)))⟩, ⟨(some 100), none, (.p (.nilck (.t 96)))⟩, ⟨(some 101), none, (.p (.fadr 4 (.t 100)))⟩, ⟨(some 102), none, (.p (.fadr 1 (.t 101)))⟩, ⟨none, none, (.e (.st 1 (.t 102) (.t 99)))⟩]
def c19_s18 : List SQ := [⟨(some 103), none, (.p (.mv (.t 5)))⟩, ⟨(some 104), none, (.p (.nilck (.t 103)))⟩, ⟨(some 105), none, (.p (.fadr 4 (.t 104)))⟩, ⟨(some 106), none, (.p (.fadr 0 (.t 105)))⟩, ⟨(some 107), none, (.r (.ld none (.t 106)))⟩, ⟨(some 108), none, (.p (.bin .eql 5 false true (.t 107) (.c (.int .u8 3))))⟩]
def c19_s19 : List SQ := [⟨(some 109), none, (.p (.mv (.t 3)))⟩, ⟨(some 110), none, (.cv (.c (.fn (.func 42) [] [])) [(.t 109), (.c (.int .i64 3))])⟩, ⟨(some 111), none, (.p (.bin .add 3 true false (.c (.int .i64 1)) (.t 110)))⟩, ⟨(some 6), none, (.p (.mv (.t 111)))⟩]
def c19_s20 : List SQ := [⟨(some 7), none, (.p (.mv (.c (.int .u64 0))))⟩]
def c19_s21 : List SQ := [⟨(some 8), none, (.p (.mv (.c (.int .i64 0))))⟩]
def c19_s22 : List SQ := [⟨(some 112), none, (.p (.mv (.t 8)))⟩, ⟨(some 113), none, (.p (.mv (.t 6)))⟩, ⟨(some 114), none, (.p (.bin .lss 3 false false (.t 112) (.t 113)))⟩]
def c19_s23 : List SQ := [⟨(some 117), none, (.p (.mv (.t 7)))⟩, ⟨(some 118), none, (.p (.mv (.t 3)))⟩, ⟨(some 119), none, (.cv (.c (.fn (.func 42) [] [])) [(.t 118), (.c (.int .i64 8))])⟩, ⟨(some 120), none, (.p (.bin .add 3 true false (.c (.int .i64 1)) (.t 119)))⟩, ⟨(some 121), none, (.p (.conv .u64 (.t 120)))⟩, ⟨(some 122), none, (.p (.bin .add 43 false false (.t 117) (.t 121)))⟩, ⟨(some 7), none, (.p (.mv (.t 122)))⟩]
def c19_s24 : List SQ := [⟨(some 123), none, (.p (.mv (.t 5)))⟩, ⟨(some 124), none, (.p (.mv (.t 5)))⟩, ⟨(some 125), none, (.p (.nilck (.t 124)))⟩, ⟨(some 126), none, (.p (.fadr 4 (.t 125)))⟩, ⟨(some 127), none, (.p (.fadr 2 (.t 126)))⟩, ⟨(some 128), none, (.r (.ld none (.t 127)))⟩, ⟨(some 129), none, (.p (.mv (.t 7)))⟩, ⟨(some 130), none, (.n (.buildS 43 1 1 [(.int .u64 0)] [(0, 1, (.t 129))]))⟩, ⟨(some 131), none, (.e (.app 43 1 8 (.t 128) (.t 130)))⟩, ⟨(some 132), none, (.p (.nilck (.t 123)))⟩, ⟨(some 133), none, (.p (.fadr 4 (.t 132)))⟩, ⟨(some 134), none, (.p (.fadr 2 (.t 133)))⟩, ⟨none, none, (.e (.st 1 (.t 134) (.t 131)))⟩]
def c19_s25 : List SQ := [⟨(some 115), none, (.p (.mv (.t 8)))⟩, ⟨(some 116), none, (.p (.bin .add 3 false true (.t 115) (.c (.int .i64 1))))⟩, ⟨(some 8), none, (.p (.mv (.t 116)))⟩]
def c19_l26 : CC := (.seq (.seq (.ops c19_s22) (.cond (.t 114) .skip (.exit 0))) (.seq (.block 1 (.seq (.ops c19_s23) (.ops c19_s24))) (.ops c19_s25)))
def c19_s27 : List SQ := [⟨(some 9), none, (.p (.mv (.c (.int .i64 0))))⟩]
def c19_s28 : List SQ := [⟨(some 135), none, (.p (.mv (.t 9)))⟩, ⟨(some 136), none, (.p (.mv (.t 5)))⟩, ⟨(some 137), none, (.p (.nilck (.t 136)))⟩, ⟨(some 138), none, (.p (.fadr 0 (.t 137)))⟩, ⟨(some 139), none, (.r (.ld none (.t 138)))⟩, ⟨(some 140), none, (.p (.bin .lss 3 false false (.t 135) (.t 139)))⟩]
def c19_s29 : List SQ := [⟨(some 143), none, (.p (.build [(.int .u8 0), (.int .u64 0), (.int .u64 0), (.int .u64 0), (.int .u64 0), (.int .u64 0), (.int .u64 0)] [(0, 1, (.c (.int .u8 1)))]))⟩, ⟨(some 144), none, (.n (.buildS 45 7 1 [(.int .u8 0), (.int .u64 0), (.int .u64 0), (.int .u64 0), (.int .u64 0), (.int .u64 0), (.int .u64 0)] [(0, 7, (.t 143))]))⟩, ⟨(some 10), none, (.p (.mv (.t 144)))⟩]
def c19_s30 : List SQ := [⟨(some 145), none, (.p (.mv (.t 3)))⟩, ⟨(some 146), none, (.cv (.c (.fn (.func 42) [] [])) [(.t 145), (.c (.int .i64 16))])⟩, ⟨(some 11), none, (.p (.mv (.t 146)))⟩]
def c19_s31 : List SQ := [⟨(some 12), none, (.p (.mv (.c (.int .i64 0))))⟩]
def c19_s32 : List SQ := [⟨(some 147), none, (.p (.mv (.t 12)))⟩, ⟨(some 148), none, (.p (.mv (.t 11)))⟩, ⟨(some 149), none, (.p (.bin .lss 3 false false (.t 147) (.t 148)))⟩]
def c19_s33 : List SQ := [⟨(some 152), none, (.p (.mv (.t 10)))⟩, ⟨(some 153), none, (.p (.mv (.t 3)))⟩, ⟨(some 154), none, (.cv (.c (.fn (.func 43) [] [])) [(.t 153)])⟩, ⟨(some 155), none, (.n (.buildS 45 7 1 [(.int .u8 0), (.int .u64 0), (.int .u64 0), (.int .u64 0), (.int .u64 0), (.int .u64 0), (.int .u64 0)] [(0, 7, (.t 154))]))⟩, ⟨(some 156), none, (.e (.app 45 7 56 (.t 152) (.t 155)))⟩, ⟨(some 10), none, (.p (.mv (.t 156)))⟩]
def c19_s34 : List SQ := [⟨(some 150), none, (.p (.mv (.t 12)))⟩, ⟨(some 151), none, (.p (.bin .add 3 false true (.t 150) (.c (.int .i64 1))))⟩, ⟨(some 12), none, (.p (.mv (.t 151)))⟩]
def c19_l35 : CC := (.seq (.seq (.ops c19_s32) (.cond (.t 149) .skip (.exit 4))) (.seq (.block 5 (.ops c19_s33)) (.ops c19_s34)))
def c19_s36 : List SQ := [⟨(some 157), none, (.p (.fadr 16 (.t 4)))⟩, ⟨(some 158), none, (.r (.ld none (.t 157)))⟩, ⟨(some 159), none, (.p (.mv (.t 10)))⟩, ⟨(some 160), none, (.n (.buildS 42 1 1 [.nils] [(0, 1, (.t 159))]))⟩, ⟨(some 161), none, (.e (.app 42 1 24 (.t 158) (.t 160)))⟩, ⟨(some 162), none, (.p (.fadr 16 (.t 4)))⟩, ⟨none, none, (.e (.st 1 (.t 162) (.t 161)))⟩]
def c19_s37 : List SQ := [⟨(some 141), none, (.p (.mv (.t 9)))⟩, ⟨(some 142), none, (.p (.bin .add 3 false true (.t 141) (.c (.int .i64 1))))⟩, ⟨(some 9), none, (.p (.mv (.t 142)))⟩]
def c19_l38 : CC := (.seq (.seq (.ops c19_s28) (.cond (.t 140) .skip (.exit 2))) (.seq (.block 3 (.seq (.ops c19_s29) (.seq (.ops c19_s30) (.seq (.seq (.ops c19_s31) (.block 4 (.loop c19_l35))) (.ops c19_s36))))) (.ops c19_s37)))
def c19_s39 : List SQ := [⟨(some 163), none, (.p (.mv (.t 3)))⟩, ⟨(some 164), none, (.p (.nilck (.t 163)))⟩, ⟨(some 165), none, (.p (.fadr 0 (.t 164)))⟩, ⟨(some 166), none, (.r (.ld none (.t 165)))⟩, ⟨(some 167), none, (.p (.lens (.t 166)))⟩, ⟨(some 168), none, (.p (.bin .gtr 3 false true (.t 167) (.c (.int .i64 0))))⟩, ⟨(some 169), none, (.p (.mv (.t 168)))⟩, ⟨(some 170), (some (169, true)), (.p (.fadr 17 (.t 4)))⟩, ⟨(some 171), (some (169, true)), (.r (.ld none (.t 170)))⟩, ⟨(some 172), (some (169, true)), (.p (.lenv (.t 171)))⟩, ⟨(some 173), (some (169, true)), (.p (.bin .lss 3 false true (.t 172) (.c (.int .i64 65536))))⟩, ⟨(some 174), none, (.p (.pick (.t 169) (.t 173) (.c (.bool false))))⟩]
def c19_p40 : List (List DQ × Option DQ) := [([⟨0, [(4, none)], none, (.p (.fadr 17 (.t 4)))⟩, ⟨1, [(175, (some 0))], none, (.r (.ld none (.t 175)))⟩, ⟨2, [(3, none)], none, (.p (.mv (.t 3)))⟩, ⟨3, [(5, none)], none, (.p (.mv (.t 5)))⟩, ⟨4, [(178, (some 3))], none, (.p (.nilck (.t 178)))⟩, ⟨5, [(179, (some 4))], none, (.p (.fadr 0 (.t 179)))⟩, ⟨6, [(180, (some 5))], none, (.r (.ld none (.t 180)))⟩], (some ⟨7, [(177, (some 2)), (181, (some 6))], none, (.cv (.c (.fn (.func 42) [] [])) [(.t 177), (.t 181)])⟩)), ([⟨8, [(182, (some 7))], none, (.n (.buildS 3 1 1 [(.int .i64 0)] [(0, 1, (.t 182))]))⟩], (some ⟨9, [(176, (some 1)), (183, (some 8))], none, (.e (.app 3 1 8 (.t 176) (.t 183)))⟩)), ([⟨10, [(4, none)], none, (.p (.fadr 17 (.t 4)))⟩], (some ⟨11, [(185, (some 10)), (184, (some 9))], none, (.e (.st 1 (.t 185) (.t 184)))⟩)), ([], none)]
def c19_l41 : CC := (.seq (.seq (.ops c19_s39) (.cond (.t 174) .skip (.exit 6))) (.block 7 (.drw ⟨c19_p40, [(0, 175), (1, 176), (2, 177), (3, 178), (4, 179), (5, 180), (6, 181), (7, 182), (8, 183), (9, 184), (10, 185)], [(⟨1, [(175, (some 0))], none, (.r (.ld none (.t 175)))⟩, [1])]⟩)))
def c19_s42 : List SQ := [⟨(some 186), none, (.r (.ld (some 18) (.t 4)))⟩, ⟨none, none, (.e (.st 18 (.t 2) (.t 186)))⟩]
def c19 : CF := ⟨1, (.seq (.ops c19_s0) (.seq (.ops c19_s1) (.seq (.ops c19_s2) (.seq (.ops c19_s3) (.seq (.ops c19_s4) (.seq (.ops c19_s5) (.seq (.ops c19_s6) (.seq (.seq (.ops c19_s7) (.cond (.t 40) (.ops c19_s8) .skip)) (.seq (.ops c19_s9) (.seq (.ops c19_s10) (.seq (.ops c19_s11) (.seq (.drw ⟨c19_p12, [(0, 64), (1, 65), (2, 66), (3, 67), (4, 68), (5, 69)], []⟩) (.seq (.drw ⟨c19_p13, [(0, 70), (1, 71), (2, 72), (3, 73), (4, 74), (5, 75)], []⟩) (.seq (.drw ⟨c19_p14, [(0, 76), (1, 77), (2, 78), (3, 79), (4, 80), (5, 81)], []⟩) (.seq (.ops c19_s15) (.seq (.seq (.ops c19_s16) (.cond (.t 95) (.ops c19_s17) .skip)) (.seq (.seq (.ops c19_s18) (.cond (.t 108) (.seq (.ops c19_s19) (.seq (.ops c19_s20) (.seq (.ops c19_s21) (.block 0 (.loop c19_l26))))) .skip)) (.seq (.seq (.ops c19_s27) (.block 2 (.loop c19_l38))) (.seq (.block 6 (.loop c19_l41)) (.seq (.ops c19_s42) .ret)))))))))))))))))))), [(.cell 2 (some 18))]⟩
theorem c19_eq : cCF Try.prog 19 1 = some c19 := by kernel_rfl

/-- the slots of the outer loop -/
structure TmOr (R B X : Nat) (i : Int) (tm : T AV) : Prop where
  t2 : tm.get 2 = some (.ptr R 0)
  t3 : tm.get 3 = some (.ptr B 0)
  t4 : tm.get 4 = some (.ptr X 0)
  t5 : tm.get 5 = some (.ptr X 0)
  t9 : tm.get 9 = some (.int .i64 i)
/-- the loop over a program's operations -/
def I10r (n0 : Nat) (g0 : Nat → Option AO) (R B X lo hi : Nat) (c : CfgT) (cv pv : AV) (progs : List (List OpT)) (i : Int) (n : Nat) (r0 : ByteArray) (k : Nat) (tm : T AV) (h : H) : Prop :=
  ∃ (j : Nat) (r : ByteArray) (dn : List OpT) (p : AV), j + k = n ∧ TmOr R B X i tm ∧ tm.get 11 = some (.int .i64 (n : Int)) ∧ tm.get 12 = some (.int .i64 (j : Int)) ∧ tm.get 10 = some p ∧
    RdS 77 n0 g0 R B X lo hi c cv pv .nils r progs h ∧ r.size ≤ 9223372036854775807 ∧ Own 7 45 h p (j + 1) ((opOpen :: dn).flatMap opC) ∧ (∀ a, own p = some a → hi ≤ a) ∧ dn.length = j ∧ opsS n r0 = (dn ++ (opsS k r).1, (opsS k r).2)
/-- behind it -/
def R10r (n0 : Nat) (g0 : Nat → Option AO) (R B X lo hi : Nat) (c : CfgT) (cv pv : AV) (progs : List (List OpT)) (i : Int) (n : Nat) (r0 : ByteArray) (tm : T AV) (h : H) : Prop :=
  ∃ p, TmOr R B X i tm ∧ tm.get 10 = some p ∧ RdS 77 n0 g0 R B X lo hi c cv pv .nils (opsS n r0).2 progs h ∧ (opsS n r0).2.size ≤ 9223372036854775807 ∧ Own 7 45 h p (n + 1) ((opOpen :: (opsS n r0).1).flatMap opC) ∧ (∀ a, own p = some a → hi ≤ a) ∧ (opsS n r0).1.length = n
theorem step10r (P : Program) {call : CallE} (h43 : ∀ h B t r, h.t.get B = some (rowL [.str r] t) → B < h.next → r.size ≤ 9223372036854775807 → ∃ v h', call 43 [.ptr B 0] h = some (v, h') ∧ Post41 B t r h v h')
    {n0 : Nat} {g0 : Nat → Option AO} {R B X lo hi : Nat} {c : CfgT} {cv pv : AV} {progs : List (List OpT)} {i : Int} {n : Nat} (hn : n ≤ 16) {r0 : ByteArray} (k : Nat) (tm : T AV) (h : H) (hI : I10r n0 g0 R B X lo hi c cv pv progs i n r0 k tm h) :
    WC P call c19_l35 (loopQ 4 (fun tm h => ∃ j, j < k ∧ I10r n0 g0 R B X lo hi c cv pv progs i n r0 j tm h) (R10r n0 g0 R B X lo hi c cv pv progs i n r0) (fun _ _ => False)) tm h := by
  obtain ⟨j, r, dn, p, hjk, ⟨t2, t3, t4, t5, t9⟩, t11, t12, t10, rd, hr, op, hp, hdl, ho⟩ := hI
  cases k with
  | zero =>
    have e1 : ¬ (j : Int) < (n : Int) := by omega
    simp only [go_sem, ↓reduceIte, ↓reduceDIte, Nat.reduceAdd, Nat.reduceMul, Nat.reduceLT, Nat.reduceEqDiff, Nat.reduceLeDiff, Int.reduceAdd, Int.reduceLE, Int.reduceLT, Int.reduceEq, Int.reduceToNat, reduceCtorEq, c19_l35, c19_s32, c19_s33, c19_s34, t11, t12, e1]
    have : j = n := by omega
    subst this
    simp only [opsS, List.append_nil] at ho
    refine ⟨p, ⟨?_, ?_, ?_, ?_, ?_⟩, ?_, by rw [ho]; exact rd, by rw [ho]; exact hr, by rw [ho]; exact op, hp, by rw [ho]; exact hdl⟩ <;> simp only [go_sem, ↓reduceIte, ↓reduceDIte, Nat.reduceAdd, Nat.reduceMul, Nat.reduceLT, Nat.reduceEqDiff, Nat.reduceLeDiff, Int.reduceAdd, Int.reduceLE, Int.reduceLT, Int.reduceEq, Int.reduceToNat, reduceCtorEq, t2, t3, t4, t5, t9, t10]
  | succ k =>
    have e1 : (j : Int) < (n : Int) := by omega
    simp only [go_sem, ↓reduceIte, ↓reduceDIte, Nat.reduceAdd, Nat.reduceMul, Nat.reduceLT, Nat.reduceEqDiff, Nat.reduceLeDiff, Int.reduceAdd, Int.reduceLE, Int.reduceLT, Int.reduceEq, Int.reduceToNat, reduceCtorEq, c19_l35, c19_s32, c19_s33, c19_s34, t11, t12, t10, t3, e1]
    have hBl : B < h.next := by have := rd.ord; omega
    refine opt_by (h43 _ B 77 r rd.hB hBl hr) fun v h1 p1 => ?_
    obtain ⟨rfl, st⟩ := p1
    simp only [go_sem, ↓reduceIte, ↓reduceDIte, Nat.reduceAdd, Nat.reduceMul, Nat.reduceLT, Nat.reduceEqDiff, Nat.reduceLeDiff, Int.reduceAdd, Int.reduceLE, Int.reduceLT, Int.reduceEq, Int.reduceToNat, reduceCtorEq]
    have ord := rd.ord
    have rd1 := rd.box (r' := (opS r).2) st.next (fun b hb hne => st.old b (by omega) hne) st.box
    have hn1 := st.next
    have o1 : Own 7 45 ⟨h1.next + 1, h1.t.set h1.next (.row (putList 0 (opC (opS r).1) T.e) 7 45)⟩ p (j + 1) ((opOpen :: dn).flatMap opC) := op.keep (by show h.next ≤ h1.next + 1; omega) (fun b hb => by
      have := op.lt hb
      have := hp b hb
      have e0 : ¬ b = h1.next := by omega
      simp only [go_sem, ↓reduceIte, ↓reduceDIte, Nat.reduceAdd, Nat.reduceMul, Nat.reduceLT, Nat.reduceEqDiff, Nat.reduceLeDiff, Int.reduceAdd, Int.reduceLE, Int.reduceLT, Int.reduceEq, Int.reduceToNat, reduceCtorEq, e0]
      exact st.old b (by omega) (by omega))
    refine opt_some (appA_own o1 (by decide) (by decide) (by omega) (by omega)) ?_
    have f1 : fw .i64 ((j : Int) + 1) = (j : Int) + 1 := fwI (by omega) (by omega)
    have e3 : ((j + 1 : Nat) : Int) = (j : Int) + 1 := rfl
    have rd2 : RdS 77 n0 g0 R B X lo hi c cv pv .nils (opS r).2 progs (appT ⟨h1.next + 1, h1.t.set h1.next (.row (putList 0 (opC (opS r).1) T.e) 7 45)⟩ 45 p ((opOpen :: dn).flatMap opC ++ opC (opS r).1)) := rd1.mono (by rw [app_next]; show h1.next ≤ h1.next + 1 + 1; omega) (fun b hb => by
      rw [app_get (by show b < h1.next + 1; omega) (fun hh => by have := hp b hh; omega)]
      have e0 : ¬ b = h1.next := by omega
      simp only [go_sem, ↓reduceIte, ↓reduceDIte, Nat.reduceAdd, Nat.reduceMul, Nat.reduceLT, Nat.reduceEqDiff, Nat.reduceLeDiff, Int.reduceAdd, Int.reduceLE, Int.reduceLT, Int.reduceEq, Int.reduceToNat, reduceCtorEq, e0])
    have op2 := own_app (src := opC (opS r).1) o1 (n := 1) (by decide) rfl
    have hfl : (opOpen :: dn).flatMap opC ++ opC (opS r).1 = (opOpen :: (dn ++ [(opS r).1])).flatMap opC := by simp [List.flatMap_append]
    rw [hfl] at op2 rd2
    have hp2 : ∀ a, own (appV ⟨h1.next + 1, h1.t.set h1.next (.row (putList 0 (opC (opS r).1) T.e) 7 45)⟩ 7 (j + 1 + 1)) = some a → hi ≤ a := by
      intro a ha
      rw [own_appV] at ha
      simp only [Option.some.injEq] at ha
      omega
    rw [hfl]
    generalize appT _ 45 p _ = h2 at rd2 op2 ⊢
    generalize appV _ 7 _ = p2 at hp2 op2 ⊢
    simp only [go_sem, ↓reduceIte, ↓reduceDIte, Nat.reduceAdd, Nat.reduceMul, Nat.reduceLT, Nat.reduceEqDiff, Nat.reduceLeDiff, Int.reduceAdd, Int.reduceLE, Int.reduceLT, Int.reduceEq, Int.reduceToNat, reduceCtorEq, t11, t12, f1]
    refine ⟨k, Nat.lt_succ_self k, j + 1, (opS r).2, dn ++ [(opS r).1], p2, by omega, ⟨?_, ?_, ?_, ?_, ?_⟩, ?_, ?_, ?_, rd2, opS_size hr, op2, hp2, by simp [hdl], ?_⟩
    · simp only [go_sem, ↓reduceIte, ↓reduceDIte, Nat.reduceAdd, Nat.reduceMul, Nat.reduceLT, Nat.reduceEqDiff, Nat.reduceLeDiff, Int.reduceAdd, Int.reduceLE, Int.reduceLT, Int.reduceEq, Int.reduceToNat, reduceCtorEq, t2]
    · simp only [go_sem, ↓reduceIte, ↓reduceDIte, Nat.reduceAdd, Nat.reduceMul, Nat.reduceLT, Nat.reduceEqDiff, Nat.reduceLeDiff, Int.reduceAdd, Int.reduceLE, Int.reduceLT, Int.reduceEq, Int.reduceToNat, reduceCtorEq, t3]
    · simp only [go_sem, ↓reduceIte, ↓reduceDIte, Nat.reduceAdd, Nat.reduceMul, Nat.reduceLT, Nat.reduceEqDiff, Nat.reduceLeDiff, Int.reduceAdd, Int.reduceLE, Int.reduceLT, Int.reduceEq, Int.reduceToNat, reduceCtorEq, t4]
    · simp only [go_sem, ↓reduceIte, ↓reduceDIte, Nat.reduceAdd, Nat.reduceMul, Nat.reduceLT, Nat.reduceEqDiff, Nat.reduceLeDiff, Int.reduceAdd, Int.reduceLE, Int.reduceLT, Int.reduceEq, Int.reduceToNat, reduceCtorEq, t5]
    · simp only [go_sem, ↓reduceIte, ↓reduceDIte, Nat.reduceAdd, Nat.reduceMul, Nat.reduceLT, Nat.reduceEqDiff, Nat.reduceLeDiff, Int.reduceAdd, Int.reduceLE, Int.reduceLT, Int.reduceEq, Int.reduceToNat, reduceCtorEq, t9]
    · simp only [go_sem, ↓reduceIte, ↓reduceDIte, Nat.reduceAdd, Nat.reduceMul, Nat.reduceLT, Nat.reduceEqDiff, Nat.reduceLeDiff, Int.reduceAdd, Int.reduceLE, Int.reduceLT, Int.reduceEq, Int.reduceToNat, reduceCtorEq, t11]
    · simp only [go_sem, ↓reduceIte, ↓reduceDIte, Nat.reduceAdd, Nat.reduceMul, Nat.reduceLT, Nat.reduceEqDiff, Nat.reduceLeDiff, Int.reduceAdd, Int.reduceLE, Int.reduceLT, Int.reduceEq, Int.reduceToNat, reduceCtorEq, e3]
    · simp only [go_sem, ↓reduceIte, ↓reduceDIte, Nat.reduceAdd, Nat.reduceMul, Nat.reduceLT, Nat.reduceEqDiff, Nat.reduceLeDiff, Int.reduceAdd, Int.reduceLE, Int.reduceLT, Int.reduceEq, Int.reduceToNat, reduceCtorEq]
    · rw [ho]; simp [opsS]
/-- the loop over the programs -/
def I13r (n0 : Nat) (g0 : Nat → Option AO) (R B X lo : Nat) (c : CfgT) (cv : AV) (m : Nat) (r0 : ByteArray) (k : Nat) (tm : T AV) (h : H) : Prop :=
  ∃ (i : Nat) (r : ByteArray) (progs : List (List OpT)) (pv : AV), i + k = m ∧ TmOr R B X (i : Int) tm ∧ RdS 77 n0 g0 R B X lo h.next c cv pv .nils r progs h ∧ r.size ≤ 9223372036854775807 ∧ progs.length = i ∧ progsS m r0 = (progs ++ (progsS k r).1, (progsS k r).2)
/-- behind it -/
def R13r (n0 : Nat) (g0 : Nat → Option AO) (R B X lo : Nat) (c : CfgT) (cv : AV) (m : Nat) (r0 : ByteArray) (tm : T AV) (h : H) : Prop :=
  ∃ pv, TmOr R B X (m : Int) tm ∧ RdS 77 n0 g0 R B X lo h.next c cv pv .nils (progsS m r0).2 (progsS m r0).1 h ∧ (progsS m r0).2.size ≤ 9223372036854775807
theorem step13r (P : Program) {call : CallE} (h42 : Has call 42 takeK) (h43 : ∀ h B t r, h.t.get B = some (rowL [.str r] t) → B < h.next → r.size ≤ 9223372036854775807 → ∃ v h', call 43 [.ptr B 0] h = some (v, h') ∧ Post41 B t r h v h')
    {n0 : Nat} {g0 : Nat → Option AO} {R B X lo : Nat} {c : CfgT} {cv : AV} {m : Nat} (hm : m ≤ 16) (hth : c.threads = (m : Int)) {r0 : ByteArray} (k : Nat) (tm : T AV) (h : H) (hI : I13r n0 g0 R B X lo c cv m r0 k tm h) :
    WC P call c19_l38 (loopQ 2 (fun tm h => ∃ j, j < k ∧ I13r n0 g0 R B X lo c cv m r0 j tm h) (R13r n0 g0 R B X lo c cv m r0) (fun _ _ => False)) tm h := by
  have C42 : ∀ args h, (takeK args h).isSome = true → call 42 args h = takeK args h := fun _ _ hs => h42.eq hs
  obtain ⟨i, r, progs, pv, hik, ⟨t2, t3, t4, t5, t9⟩, rd, hr, hpl, ho⟩ := hI
  cases k with
  | zero =>
    have e1 : ¬ (i : Int) < (m : Int) := by omega
    have hX := rd.hX
    simp only [go_sem, ↓reduceIte, ↓reduceDIte, Nat.reduceAdd, Nat.reduceMul, Nat.reduceLT, Nat.reduceEqDiff, Nat.reduceLeDiff, Int.reduceAdd, Int.reduceLE, Int.reduceLT, Int.reduceEq, Int.reduceToNat, reduceCtorEq, c19_l38, c19_s28, c19_s29, c19_s30, c19_s31, c19_s36, c19_s37, t9, t5, hX, hth, e1]
    have : i = m := by omega
    subst this
    simp only [progsS, List.append_nil] at ho
    refine ⟨pv, ⟨?_, ?_, ?_, ?_, ?_⟩, by rw [ho]; exact rd, by rw [ho]; exact hr⟩ <;> simp only [go_sem, ↓reduceIte, ↓reduceDIte, Nat.reduceAdd, Nat.reduceMul, Nat.reduceLT, Nat.reduceEqDiff, Nat.reduceLeDiff, Int.reduceAdd, Int.reduceLE, Int.reduceLT, Int.reduceEq, Int.reduceToNat, reduceCtorEq, t2, t3, t4, t5, t9]
  | succ k =>
    have e1 : (i : Int) < (m : Int) := by omega
    obtain ⟨b0, b1⟩ := vl_bound r (n := 16) (by decide)
    obtain ⟨n, hn⟩ : ∃ n : Nat, vl r 16 = n := ⟨(vl r 16).toNat, by omega⟩
    have ord := rd.ord
    have hB := rd.hB
    have n0' : ¬ B = h.next := by omega
    have hX := rd.hX
    simp only [go_sem, ↓reduceIte, ↓reduceDIte, Nat.reduceAdd, Nat.reduceMul, Nat.reduceLT, Nat.reduceEqDiff, Nat.reduceLeDiff, Int.reduceAdd, Int.reduceLE, Int.reduceLT, Int.reduceEq, Int.reduceToNat, reduceCtorEq, c19_l38, c19_s28, c19_s29, c19_s30, c19_s31, c19_s36, c19_s37, t9, t5, t3, t2, hX, hth, e1, C42, takeK, hB, n0', hn, hr, Option.isSome_some, Nat.reduceLT]
    have rd1 : RdS 77 n0 g0 R B X lo h.next c cv pv .nils (nx r) progs ⟨h.next + 1, (h.t.set h.next (.row (putList 0 (opC opOpen) T.e) 7 45)).set B (.row (putList 0 [.str (nx r)] T.e) 1 77)⟩ := rd.box (Nat.le_succ _) (fun b hb hne => by
      have e0 : ¬ b = h.next := by omega
      simp only [go_sem, ↓reduceIte, ↓reduceDIte, Nat.reduceAdd, Nat.reduceMul, Nat.reduceLT, Nat.reduceEqDiff, Nat.reduceLeDiff, Int.reduceAdd, Int.reduceLE, Int.reduceLT, Int.reduceEq, Int.reduceToNat, reduceCtorEq, e0, hne]) (by simp only [go_sem, ↓reduceIte, ↓reduceDIte, Nat.reduceAdd, Nat.reduceMul, Nat.reduceLT, Nat.reduceEqDiff, Nat.reduceLeDiff, Int.reduceAdd, Int.reduceLE, Int.reduceLT, Int.reduceEq, Int.reduceToNat, reduceCtorEq, rowL])
    have m0' : ¬ h.next = B := by omega
    refine loop_in (I10r n0 g0 R B X lo h.next c cv pv progs i n (nx r)) (R10r n0 g0 R B X lo h.next c cv pv progs i n (nx r)) (fun _ _ => False) (fun k tm h hI => step10r P h43 (by omega) k tm h hI) (fun tm1 h1 hR => ?_) (fun _ _ hh => hh.elim) n _ _
      ⟨0, nx r, [], .sl h.next 0 1 7 (some 1), by omega, ⟨?_, ?_, ?_, ?_, ?_⟩, ?_, ?_, ?_, rd1, nx_le hr, .sl _ _ _ _ (.inr rfl) (by decide) rfl (Nat.lt_succ_self _) ?_, ?_, rfl, by simp⟩
    · obtain ⟨p, ⟨t2, t3, t4, t5, t9⟩, t10, rd2, hr2, op, hp, hlen⟩ := hR
      have hX := rd2.hX
      have one := op.one
      simp only [go_sem, ↓reduceIte, ↓reduceDIte, Nat.reduceAdd, Nat.reduceMul, Nat.reduceLT, Nat.reduceEqDiff, Nat.reduceLeDiff, Int.reduceAdd, Int.reduceLE, Int.reduceLT, Int.reduceEq, Int.reduceToNat, reduceCtorEq, t4, t10, hX, one]
      have ord2 := rd2.ord
      have rd3 := rd2.mono (h' := ⟨h1.next + 1, h1.t.set h1.next (.row (putList 0 [p] T.e) 1 42)⟩) (Nat.le_succ _) (fun b hb => by
        have e0 : ¬ b = h1.next := by omega
        simp only [go_sem, ↓reduceIte, ↓reduceDIte, Nat.reduceAdd, Nat.reduceMul, Nat.reduceLT, Nat.reduceEqDiff, Nat.reduceLeDiff, Int.reduceAdd, Int.reduceLE, Int.reduceLT, Int.reduceEq, Int.reduceToNat, reduceCtorEq, e0])
      have op3 := op.keep (h' := ⟨h1.next + 1, h1.t.set h1.next (.row (putList 0 [p] T.e) 1 42)⟩) (Nat.le_succ _) (fun b hb => by
        have := op.lt hb
        have e0 : ¬ b = h1.next := by omega
        simp only [go_sem, ↓reduceIte, ↓reduceDIte, Nat.reduceAdd, Nat.reduceMul, Nat.reduceLT, Nat.reduceEqDiff, Nat.reduceLeDiff, Int.reduceAdd, Int.reduceLE, Int.reduceLT, Int.reduceEq, Int.reduceToNat, reduceCtorEq, e0])
      obtain ⟨vs, oo, rd4⟩ := rd3.push (q := opOpen :: (opsS n (nx r)).1) (by rw [List.length_cons, hlen]; exact op3) hp
      refine opt_some (appA_own oo (by decide) (by decide) (by omega) (by omega)) ?_
      have hX2 : (appT ⟨h1.next + 1, h1.t.set h1.next (.row (putList 0 [p] T.e) 1 42)⟩ 42 pv (vs ++ [p])).t.get X = some (rowL (cfgC c cv ++ [pv, .nils]) 31) := by
        rw [app_get (by show X < h1.next + 1; omega) (fun hh => by have := (rd2.pr.ex); obtain ⟨ws, w1, w2, w3⟩ := this; have := (w2 X hh).1; omega)]
        exact rd3.hX
      have onev := (own_app (src := [p]) oo (n := 1) (by decide) rfl).one
      have f1 : fw .i64 ((i : Int) + 1) = (i : Int) + 1 := fwI (by omega) (by omega)
      have e3 : ((i + 1 : Nat) : Int) = (i : Int) + 1 := rfl
      simp only [go_sem, ↓reduceIte, ↓reduceDIte, Nat.reduceAdd, Nat.reduceMul, Nat.reduceLT, Nat.reduceEqDiff, Nat.reduceLeDiff, Int.reduceAdd, Int.reduceLE, Int.reduceLT, Int.reduceEq, Int.reduceToNat, reduceCtorEq, t4, t9, hX2, onev, f1]
      refine ⟨k, Nat.lt_succ_self k, i + 1, (opsS n (nx r)).2, progs ++ [opOpen :: (opsS n (nx r)).1], appV ⟨h1.next + 1, h1.t.set h1.next (.row (putList 0 [p] T.e) 1 42)⟩ 1 (progs.length + 1), by omega, ⟨?_, ?_, ?_, ?_, ?_⟩, rd4, hr2, by simp [hpl], ?_⟩
      · simp only [go_sem, ↓reduceIte, ↓reduceDIte, Nat.reduceAdd, Nat.reduceMul, Nat.reduceLT, Nat.reduceEqDiff, Nat.reduceLeDiff, Int.reduceAdd, Int.reduceLE, Int.reduceLT, Int.reduceEq, Int.reduceToNat, reduceCtorEq, t2]
      · simp only [go_sem, ↓reduceIte, ↓reduceDIte, Nat.reduceAdd, Nat.reduceMul, Nat.reduceLT, Nat.reduceEqDiff, Nat.reduceLeDiff, Int.reduceAdd, Int.reduceLE, Int.reduceLT, Int.reduceEq, Int.reduceToNat, reduceCtorEq, t3]
      · simp only [go_sem, ↓reduceIte, ↓reduceDIte, Nat.reduceAdd, Nat.reduceMul, Nat.reduceLT, Nat.reduceEqDiff, Nat.reduceLeDiff, Int.reduceAdd, Int.reduceLE, Int.reduceLT, Int.reduceEq, Int.reduceToNat, reduceCtorEq, t4]
      · simp only [go_sem, ↓reduceIte, ↓reduceDIte, Nat.reduceAdd, Nat.reduceMul, Nat.reduceLT, Nat.reduceEqDiff, Nat.reduceLeDiff, Int.reduceAdd, Int.reduceLE, Int.reduceLT, Int.reduceEq, Int.reduceToNat, reduceCtorEq, t5]
      · simp only [go_sem, ↓reduceIte, ↓reduceDIte, Nat.reduceAdd, Nat.reduceMul, Nat.reduceLT, Nat.reduceEqDiff, Nat.reduceLeDiff, Int.reduceAdd, Int.reduceLE, Int.reduceLT, Int.reduceEq, Int.reduceToNat, reduceCtorEq, e3]
      · rw [ho]
        have hv : (vl r 16).toNat = n := by omega
        simp [progsS, hv]
    · simp only [go_sem, ↓reduceIte, ↓reduceDIte, Nat.reduceAdd, Nat.reduceMul, Nat.reduceLT, Nat.reduceEqDiff, Nat.reduceLeDiff, Int.reduceAdd, Int.reduceLE, Int.reduceLT, Int.reduceEq, Int.reduceToNat, reduceCtorEq, t2]
    · simp only [go_sem, ↓reduceIte, ↓reduceDIte, Nat.reduceAdd, Nat.reduceMul, Nat.reduceLT, Nat.reduceEqDiff, Nat.reduceLeDiff, Int.reduceAdd, Int.reduceLE, Int.reduceLT, Int.reduceEq, Int.reduceToNat, reduceCtorEq, t3]
    · simp only [go_sem, ↓reduceIte, ↓reduceDIte, Nat.reduceAdd, Nat.reduceMul, Nat.reduceLT, Nat.reduceEqDiff, Nat.reduceLeDiff, Int.reduceAdd, Int.reduceLE, Int.reduceLT, Int.reduceEq, Int.reduceToNat, reduceCtorEq, t4]
    · simp only [go_sem, ↓reduceIte, ↓reduceDIte, Nat.reduceAdd, Nat.reduceMul, Nat.reduceLT, Nat.reduceEqDiff, Nat.reduceLeDiff, Int.reduceAdd, Int.reduceLE, Int.reduceLT, Int.reduceEq, Int.reduceToNat, reduceCtorEq, t5]
    · simp only [go_sem, ↓reduceIte, ↓reduceDIte, Nat.reduceAdd, Nat.reduceMul, Nat.reduceLT, Nat.reduceEqDiff, Nat.reduceLeDiff, Int.reduceAdd, Int.reduceLE, Int.reduceLT, Int.reduceEq, Int.reduceToNat, reduceCtorEq, t9]
    · simp only [go_sem, ↓reduceIte, ↓reduceDIte, Nat.reduceAdd, Nat.reduceMul, Nat.reduceLT, Nat.reduceEqDiff, Nat.reduceLeDiff, Int.reduceAdd, Int.reduceLE, Int.reduceLT, Int.reduceEq, Int.reduceToNat, reduceCtorEq]
    · simp only [go_sem, ↓reduceIte, ↓reduceDIte, Nat.reduceAdd, Nat.reduceMul, Nat.reduceLT, Nat.reduceEqDiff, Nat.reduceLeDiff, Int.reduceAdd, Int.reduceLE, Int.reduceLT, Int.reduceEq, Int.reduceToNat, reduceCtorEq]
    · simp only [go_sem, ↓reduceIte, ↓reduceDIte, Nat.reduceAdd, Nat.reduceMul, Nat.reduceLT, Nat.reduceEqDiff, Nat.reduceLeDiff, Int.reduceAdd, Int.reduceLE, Int.reduceLT, Int.reduceEq, Int.reduceToNat, reduceCtorEq]
    · simp only [go_sem, ↓reduceIte, ↓reduceDIte, Nat.reduceAdd, Nat.reduceMul, Nat.reduceLT, Nat.reduceEqDiff, Nat.reduceLeDiff, Int.reduceAdd, Int.reduceLE, Int.reduceLT, Int.reduceEq, Int.reduceToNat, reduceCtorEq, m0', rowL]
      rfl
    · intro a ha
      simp only [own, Option.some.injEq] at ha
      omega

/-! ### The picks -/
theorem subS_list (r : ByteArray) : (subS r 1 r.size).data.toList = r.data.toList.drop 1 := by
  unfold subS
  have : (r.data.toList.drop 1).length = r.size - 1 := by rw [List.length_drop]; rfl
  rw [← this, List.take_length]
theorem nx_list (r : ByteArray) : (nx r).data.toList = r.data.toList.drop 1 := by
  unfold nx
  by_cases h : 0 < r.size
  · rw [if_pos h, subS_list]
  · rw [if_neg h, List.drop_eq_nil_of_le (by rw [sizeL]; omega)]
    have : r.data.toList.length = 0 := by rw [sizeL]; omega
    exact List.eq_nil_of_length_eq_zero this
theorem nxn_list : ∀ (n : Nat) (r : ByteArray), (nxn n r).data.toList = r.data.toList.drop n
  | 0, r => by rw [List.drop_zero]; rfl
  | n + 1, r => by rw [show nxn (n + 1) r = nxn n (nx r) from rfl, nxn_list n (nx r), nx_list, List.drop_drop, Nat.add_comm]
theorem vl_list (r : ByteArray) (n : Int) : vl r n = match r.data.toList with
    | [] => 0
    | b :: _ => (b.toNat : Int).tmod n := by
  unfold vl
  by_cases h : 0 < r.size
  · rw [dif_pos h]
    have h2 : 0 < r.data.toList.length := by rw [sizeL]; exact h
    have e : r[0]'h = r.data.toList[0] := by simp; rfl
    rw [e]
    generalize r.data.toList = l at h2 ⊢
    cases l with
    | nil => simp at h2
    | cons b l => rfl
  · rw [dif_neg h]
    have : r.data.toList.length = 0 := by rw [sizeL]; omega
    rw [List.eq_nil_of_length_eq_zero this]
theorem vl_pick (r : ByteArray) (th : Int) (i : Nat) : vl (nxn i r) th = pickAt r th i := by
  rw [vl_list, nxn_list]
  unfold pickAt
  by_cases h : i < r.size
  · rw [dif_pos h]
    have h2 : i < r.data.toList.length := by rw [sizeL]; exact h
    rw [List.drop_eq_getElem_cons h2]
    have e : r[i]'h = r.data.toList[i] := by simp; rfl
    simp only [e]
  · rw [dif_neg h, List.drop_eq_nil_of_le (by rw [sizeL]; omega)]
theorem nxn_size (i : Nat) (r : ByteArray) : (nxn i r).size = r.size - i := by
  rw [← sizeL, nxn_list, List.length_drop, sizeL]
/-- the loop over the picks -/
def I18r (n0 : Nat) (g0 : Nat → Option AO) (R B X lo hi : Nat) (c : CfgT) (cv pv : AV) (r : ByteArray) (progs : List (List OpT)) (k : Nat) (tm : T AV) (h : H) : Prop :=
  ∃ (i : Nat) (j : Int) (kv : AV), i + k = min r.size 65536 ∧ TmOr R B X j tm ∧ RdS 77 n0 g0 R B X lo hi c cv pv kv (nxn i r) progs h ∧ Own 1 3 h kv i (pickL r c.threads i) ∧ ∀ a, own kv = some a → hi ≤ a
/-- behind it -/
def R18r (n0 : Nat) (g0 : Nat → Option AO) (R B X lo hi : Nat) (c : CfgT) (cv pv : AV) (r : ByteArray) (progs : List (List OpT)) (tm : T AV) (h : H) : Prop :=
  ∃ (kv : AV) (r' : ByteArray), tm.get 2 = some (.ptr R 0) ∧ tm.get 4 = some (.ptr X 0) ∧ RdS 77 n0 g0 R B X lo hi c cv pv kv r' progs h ∧ Own 1 3 h kv (min r.size 65536) (pickL r c.threads (min r.size 65536)) ∧ ∀ a, own kv = some a → hi ≤ a
set_option maxRecDepth 4000 in
theorem step18r (P : Program) {call : CallE} (h42 : Has call 42 takeK) {n0 : Nat} {g0 : Nat → Option AO} {R B X lo hi : Nat} {c : CfgT} {cv pv : AV} {r : ByteArray} {progs : List (List OpT)} (hr : r.size ≤ 9223372036854775807) (hth : 0 < c.threads) (hth2 : c.threads ≤ 65536) (k : Nat) (tm : T AV) (h : H) (hI : I18r n0 g0 R B X lo hi c cv pv r progs k tm h) :
    WC P call c19_l41 (loopQ 6 (fun tm h => ∃ j, j < k ∧ I18r n0 g0 R B X lo hi c cv pv r progs j tm h) (R18r n0 g0 R B X lo hi c cv pv r progs) (fun _ _ => False)) tm h := by
  have C42 : ∀ args h, (takeK args h).isSome = true → call 42 args h = takeK args h := fun _ _ hs => h42.eq hs
  obtain ⟨i, j, kv, hik, ⟨t2, t3, t4, t5, t9⟩, rd, ok, hkv⟩ := hI
  have hB := rd.hB
  have hX := rd.hX
  have ord := rd.ord
  have hsz := nxn_size i r
  have okl := ok.lenA
  cases k with
  | zero =>
    have hi' : i = min r.size 65536 := by omega
    by_cases e1 : (0 : Int) < ((nxn i r).size : Int)
    · have e2 : ¬ (i : Int) < 65536 := by omega
      simp only [go_sem, ↓reduceIte, ↓reduceDIte, Nat.reduceAdd, Nat.reduceMul, Nat.reduceLT, Nat.reduceEqDiff, Nat.reduceLeDiff, Int.reduceAdd, Int.reduceLE, Int.reduceLT, Int.reduceEq, Int.reduceToNat, reduceCtorEq, c19_l41, c19_s39, c19_p40, t3, t4, hB, hX, okl, e1, e2]
      refine ⟨kv, nxn i r, ?_, ?_, rd, by rw [← hi']; exact ok, hkv⟩ <;> simp only [go_sem, ↓reduceIte, ↓reduceDIte, Nat.reduceAdd, Nat.reduceMul, Nat.reduceLT, Nat.reduceEqDiff, Nat.reduceLeDiff, Int.reduceAdd, Int.reduceLE, Int.reduceLT, Int.reduceEq, Int.reduceToNat, reduceCtorEq, t2, t4]
    · simp only [go_sem, ↓reduceIte, ↓reduceDIte, Nat.reduceAdd, Nat.reduceMul, Nat.reduceLT, Nat.reduceEqDiff, Nat.reduceLeDiff, Int.reduceAdd, Int.reduceLE, Int.reduceLT, Int.reduceEq, Int.reduceToNat, reduceCtorEq, c19_l41, c19_s39, c19_p40, t3, t4, hB, e1]
      refine ⟨kv, nxn i r, ?_, ?_, rd, by rw [← hi']; exact ok, hkv⟩ <;> simp only [go_sem, ↓reduceIte, ↓reduceDIte, Nat.reduceAdd, Nat.reduceMul, Nat.reduceLT, Nat.reduceEqDiff, Nat.reduceLeDiff, Int.reduceAdd, Int.reduceLE, Int.reduceLT, Int.reduceEq, Int.reduceToNat, reduceCtorEq, t2, t4]
  | succ k =>
    have e1 : (0 : Int) < ((nxn i r).size : Int) := by omega
    have e2 : (i : Int) < 65536 := by omega
    have eX : ¬ X = h.next := by omega
    have eB : ¬ B = h.next := by omega
    have eXB : ¬ X = B := by omega
    have eBX : ¬ B = X := by omega
    have hs2 : (nxn i r).size ≤ 9223372036854775807 := by omega
    have hp := vl_pick r c.threads i
    have hnx := nx_nxn i r
    simp only [go_sem, ↓reduceIte, ↓reduceDIte, Nat.reduceAdd, Nat.reduceMul, Nat.reduceLT, Nat.reduceEqDiff, Nat.reduceLeDiff, Int.reduceAdd, Int.reduceLE, Int.reduceLT, Int.reduceEq, Int.reduceToNat, reduceCtorEq, c19_l41, c19_s39, c19_p40, t3, t4, t5, hB, hX, okl, e1, e2, eX, eB, eXB, eBX, C42, takeK, hth, hth2, hs2, hp, hnx, Option.isSome_some, Nat.reduceLT]
    have rd1 := rd.box (r' := nxn (i + 1) r) (h' := ⟨h.next, h.t.set B (.row (putList 0 [.str (nxn (i + 1) r)] T.e) 1 77)⟩) (Nat.le_refl _) (fun b hb hne => by simp only [go_sem, ↓reduceIte, ↓reduceDIte, Nat.reduceAdd, Nat.reduceMul, Nat.reduceLT, Nat.reduceEqDiff, Nat.reduceLeDiff, Int.reduceAdd, Int.reduceLE, Int.reduceLT, Int.reduceEq, Int.reduceToNat, reduceCtorEq, hne]) (by simp only [go_sem, ↓reduceIte, ↓reduceDIte, Nat.reduceAdd, Nat.reduceMul, Nat.reduceLT, Nat.reduceEqDiff, Nat.reduceLeDiff, Int.reduceAdd, Int.reduceLE, Int.reduceLT, Int.reduceEq, Int.reduceToNat, reduceCtorEq, rowL])
    have ok1 := ok.keep (h' := ⟨h.next, h.t.set B (.row (putList 0 [.str (nxn (i + 1) r)] T.e) 1 77)⟩) (Nat.le_refl _) (fun b hb => by
      have := hkv b hb
      have e0 : ¬ b = B := by omega
      simp only [go_sem, ↓reduceIte, ↓reduceDIte, Nat.reduceAdd, Nat.reduceMul, Nat.reduceLT, Nat.reduceEqDiff, Nat.reduceLeDiff, Int.reduceAdd, Int.reduceLE, Int.reduceLT, Int.reduceEq, Int.reduceToNat, reduceCtorEq, e0])
    have rd2 := rd1.mono (h' := ⟨h.next + 1, (h.t.set B (.row (putList 0 [.str (nxn (i + 1) r)] T.e) 1 77)).set h.next (.row (putList 0 [.int .i64 (pickAt r c.threads i)] T.e) 1 3)⟩) (Nat.le_succ _) (fun b hb => by
      have e0 : ¬ b = h.next := by omega
      simp only [go_sem, ↓reduceIte, ↓reduceDIte, Nat.reduceAdd, Nat.reduceMul, Nat.reduceLT, Nat.reduceEqDiff, Nat.reduceLeDiff, Int.reduceAdd, Int.reduceLE, Int.reduceLT, Int.reduceEq, Int.reduceToNat, reduceCtorEq, e0])
    have ok2 := ok1.keep (h' := ⟨h.next + 1, (h.t.set B (.row (putList 0 [.str (nxn (i + 1) r)] T.e) 1 77)).set h.next (.row (putList 0 [.int .i64 (pickAt r c.threads i)] T.e) 1 3)⟩) (Nat.le_succ _) (fun b hb => by
      have := ok.lt hb
      have e0 : ¬ b = h.next := by omega
      simp only [go_sem, ↓reduceIte, ↓reduceDIte, Nat.reduceAdd, Nat.reduceMul, Nat.reduceLT, Nat.reduceEqDiff, Nat.reduceLeDiff, Int.reduceAdd, Int.reduceLE, Int.reduceLT, Int.reduceEq, Int.reduceToNat, reduceCtorEq, e0])
    obtain ⟨rd3, ok3⟩ := rd2.pick (x := .int .i64 (pickAt r c.threads i)) ok2 hkv
    refine opt_some (appA_own ok2 (by decide) (by decide) (by omega) (by omega)) ?_
    have hX2 : (appT ⟨h.next + 1, (h.t.set B (.row (putList 0 [.str (nxn (i + 1) r)] T.e) 1 77)).set h.next (.row (putList 0 [.int .i64 (pickAt r c.threads i)] T.e) 1 3)⟩ 3 kv (pickL r c.threads i ++ [.int .i64 (pickAt r c.threads i)])).t.get X = some (rowL (cfgC c cv ++ [pv, kv]) 31) := by
      rw [app_get (by show X < h.next + 1; omega) (fun hh => by have := hkv X hh; omega)]
      exact rd2.hX
    have onev := (own_app (src := [.int .i64 (pickAt r c.threads i)]) ok2 (n := 1) (by decide) rfl).one
    simp only [go_sem, ↓reduceIte, ↓reduceDIte, Nat.reduceAdd, Nat.reduceMul, Nat.reduceLT, Nat.reduceEqDiff, Nat.reduceLeDiff, Int.reduceAdd, Int.reduceLE, Int.reduceLT, Int.reduceEq, Int.reduceToNat, reduceCtorEq, t3, t4, t5, hB, hX, hX2, onev, app_next, e1, e2, eX, eB, eXB, eBX, hp]
    refine ⟨k, Nat.lt_succ_self k, i + 1, j, appV ⟨h.next + 1, (h.t.set B (.row (putList 0 [.str (nxn (i + 1) r)] T.e) 1 77)).set h.next (.row (putList 0 [.int .i64 (pickAt r c.threads i)] T.e) 1 3)⟩ 1 (i + 1), by omega, ⟨?_, ?_, ?_, ?_, ?_⟩, rd3, by rw [pickL_succ]; exact ok3, ?_⟩
    · simp only [go_sem, ↓reduceIte, ↓reduceDIte, Nat.reduceAdd, Nat.reduceMul, Nat.reduceLT, Nat.reduceEqDiff, Nat.reduceLeDiff, Int.reduceAdd, Int.reduceLE, Int.reduceLT, Int.reduceEq, Int.reduceToNat, reduceCtorEq, t2]
    · simp only [go_sem, ↓reduceIte, ↓reduceDIte, Nat.reduceAdd, Nat.reduceMul, Nat.reduceLT, Nat.reduceEqDiff, Nat.reduceLeDiff, Int.reduceAdd, Int.reduceLE, Int.reduceLT, Int.reduceEq, Int.reduceToNat, reduceCtorEq, t3]
    · simp only [go_sem, ↓reduceIte, ↓reduceDIte, Nat.reduceAdd, Nat.reduceMul, Nat.reduceLT, Nat.reduceEqDiff, Nat.reduceLeDiff, Int.reduceAdd, Int.reduceLE, Int.reduceLT, Int.reduceEq, Int.reduceToNat, reduceCtorEq, t4]
    · simp only [go_sem, ↓reduceIte, ↓reduceDIte, Nat.reduceAdd, Nat.reduceMul, Nat.reduceLT, Nat.reduceEqDiff, Nat.reduceLeDiff, Int.reduceAdd, Int.reduceLE, Int.reduceLT, Int.reduceEq, Int.reduceToNat, reduceCtorEq, t5]
    · simp only [go_sem, ↓reduceIte, ↓reduceDIte, Nat.reduceAdd, Nat.reduceMul, Nat.reduceLT, Nat.reduceEqDiff, Nat.reduceLeDiff, Int.reduceAdd, Int.reduceLE, Int.reduceLT, Int.reduceEq, Int.reduceToNat, reduceCtorEq, t9]
    · intro a ha
      rw [own_appV] at ha
      simp only [Option.some.injEq] at ha
      omega
end
end Go.Proofs.Ytnmlfhogolonoaa
