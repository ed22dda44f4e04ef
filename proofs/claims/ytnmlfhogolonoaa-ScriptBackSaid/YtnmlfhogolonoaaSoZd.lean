/-
  A script that may be one is read: (*reader).any of package script.
-/
import Derived.Test.YtnmlfhogolonoaaSoZc
set_option linter.unusedVariables false
set_option linter.unusedSimpArgs false
namespace Go.Proofs.Ytnmlfhogolonoaa
open Go.Proofs.Ytnmlfhogolonoaa.Eo
open Nat renaming reduceAdd → zA, reduceMul → zM, reduceLT → zL, reduceEqDiff → zE, reduceLeDiff → zD
open Int renaming reduceAdd → yA, reduceLE → yE, reduceLT → yL, reduceEq → yQ, reduceToNat → yT
noncomputable section
/-! 49: (*leapfrog/script.reader).any -/
@[go_sem] def c49_s0 : List SQ := [⟨some 2, none, .n (.new 31 [.int .i64 0, .int .i64 0, .int .u8 0, .int .i64 0, .int .u8 0, .int .i64 0, .nils, .int .i64 0, .int .i64 0, .int .i64 0, .int .i64 0, .int .i64 0, .int .i64 0, .int .i64 0, .int .i64 0, .int .i64 0, .nils, .nils])⟩]
@[go_sem] def c49_s1 : List SQ := [⟨some 3, none, .n (.new 31 [.int .i64 0, .int .i64 0, .int .u8 0, .int .i64 0, .int .u8 0, .int .i64 0, .nils, .int .i64 0, .int .i64 0, .int .i64 0, .int .i64 0, .int .i64 0, .int .i64 0, .int .i64 0, .int .i64 0, .int .i64 0, .nils, .nils])⟩]
@[go_sem] def c49_s2 : List SQ := [⟨some 9, none, .p (.fadr 0 (.t 3))⟩, ⟨some 4, none, .p (.mv (.t 9))⟩]
@[go_sem] def c49_s3 : List SQ := [⟨some 10, none, .p (.mv (.t 4))⟩, ⟨some 11, none, .p (.mv (.t 4))⟩, ⟨some 12, none, .p (.mv (.t 0))⟩, ⟨some 13, none, .cv (.c (.fn (.func 65) [] [])) [(.t 12), (.c (.int .i64 64))]⟩, ⟨some 14, none, .p (.mv (.t 0))⟩, ⟨some 15, none, .cv (.c (.fn (.func 65) [] [])) [(.t 14), (.c (.int .i64 64))]⟩, ⟨some 16, none, .p (.nilck (.t 10))⟩, ⟨some 17, none, .p (.fadr 0 (.t 16))⟩, ⟨none, none, .e (.st 1 (.t 17) (.t 13))⟩, ⟨some 18, none, .p (.nilck (.t 11))⟩, ⟨some 19, none, .p (.fadr 1 (.t 18))⟩, ⟨none, none, .e (.st 1 (.t 19) (.t 15))⟩]
@[go_sem] def c49_s4 : List SQ := [⟨some 20, none, .p (.mv (.t 4))⟩, ⟨some 21, none, .p (.mv (.t 4))⟩, ⟨some 22, none, .p (.mv (.t 0))⟩, ⟨some 23, none, .cv (.c (.fn (.func 65) [] [])) [(.t 22), (.c (.int .i64 255))]⟩, ⟨some 24, none, .p (.conv .u8 (.t 23))⟩, ⟨some 25, none, .p (.mv (.t 0))⟩, ⟨some 26, none, .cv (.c (.fn (.func 65) [] [])) [(.t 25), (.c (.int .i64 16))]⟩, ⟨some 27, none, .p (.nilck (.t 20))⟩, ⟨some 28, none, .p (.fadr 2 (.t 27))⟩, ⟨none, none, .e (.st 1 (.t 28) (.t 24))⟩, ⟨some 29, none, .p (.nilck (.t 21))⟩, ⟨some 30, none, .p (.fadr 3 (.t 29))⟩, ⟨none, none, .e (.st 1 (.t 30) (.t 26))⟩]
@[go_sem] def c49_s5 : List SQ := [⟨some 31, none, .p (.mv (.t 4))⟩, ⟨some 32, none, .p (.mv (.t 4))⟩, ⟨some 33, none, .p (.mv (.t 4))⟩, ⟨some 34, none, .p (.mv (.t 0))⟩, ⟨some 35, none, .cv (.c (.fn (.func 65) [] [])) [(.t 34), (.c (.int .i64 16))]⟩, ⟨some 36, none, .p (.mv (.t 0))⟩, ⟨some 37, none, .cv (.c (.fn (.func 65) [] [])) [(.t 36), (.c (.int .i64 255))]⟩, ⟨some 38, none, .p (.mv (.t 0))⟩, ⟨some 39, none, .cv (.c (.fn (.func 65) [] [])) [(.t 38), (.c (.int .i64 64))]⟩, ⟨some 40, none, .p (.nilck (.t 31))⟩, ⟨some 41, none, .p (.fadr 13 (.t 40))⟩, ⟨none, none, .e (.st 1 (.t 41) (.t 35))⟩, ⟨some 42, none, .p (.nilck (.t 32))⟩, ⟨some 43, none, .p (.fadr 14 (.t 42))⟩, ⟨none, none, .e (.st 1 (.t 43) (.t 37))⟩, ⟨some 44, none, .p (.nilck (.t 33))⟩, ⟨some 45, none, .p (.fadr 15 (.t 44))⟩, ⟨none, none, .e (.st 1 (.t 45) (.t 39))⟩]
@[go_sem] def c49_s6 : List SQ := [⟨some 46, none, .p (.mv (.c (.int .i64 0)))⟩]
@[go_sem] def c49_s7 : List SQ := [⟨some 47, none, .p (.bin .lss 3 false true (.t 46) (.c (.int .i64 6)))⟩]
@[go_sem] def c49_s8 : List SQ := [⟨some 48, none, .p (.mv (.t 46))⟩, ⟨some 5, none, .p (.mv (.t 48))⟩]
@[go_sem] def c49_p9 : List (List DQ × Option DQ) := [([⟨0, [(4, none)], none, .p (.mv (.t 4))⟩, ⟨1, [(5, none)], none, .p (.mv (.t 5))⟩, ⟨2, [(0, none)], none, .p (.mv (.t 0))⟩, ⟨4, [(49, (some 0))], none, .p (.nilck (.t 49))⟩, ⟨5, [(53, (some 4))], none, .p (.fadr 7 (.t 53))⟩], (some ⟨3, [(51, (some 2))], none, .cv (.c (.fn (.func 65) [] [])) [(.t 51), (.c (.int .i64 1024))]⟩)), ([⟨6, [(54, (some 5)), (50, (some 1))], none, .p (.iadrA 6 1 (.t 54) (.t 50))⟩], (some ⟨7, [(55, (some 6)), (52, (some 3))], none, .e (.st 1 (.t 55) (.t 52))⟩)), ([], none)]
@[go_sem] def c49_s10 : List SQ := [⟨some 56, none, .p (.bin .add 3 false true (.t 46) (.c (.int .i64 1)))⟩, ⟨some 46, none, .p (.mv (.t 56))⟩]
def c49_l11 : CC := (.seq (.ops c49_s7) (.seq (.cond (.t 47) .skip (.exit 0)) (.seq (.block 1 (.seq (.ops c49_s8) (.drw ⟨c49_p9, [(0, 49), (1, 50), (2, 51), (3, 52), (4, 53), (5, 54), (6, 55)], []⟩))) (.ops c49_s10))))
@[go_sem] def c49_s12 : List SQ := [⟨some 57, none, .p (.mv (.t 4))⟩, ⟨some 58, none, .p (.mv (.t 0))⟩, ⟨some 59, none, .cv (.c (.fn (.func 65) [] [])) [(.t 58), (.c (.int .i64 255))]⟩, ⟨some 60, none, .p (.conv .u8 (.t 59))⟩, ⟨some 61, none, .p (.nilck (.t 57))⟩, ⟨some 62, none, .p (.fadr 4 (.t 61))⟩, ⟨some 63, none, .p (.fadr 0 (.t 62))⟩, ⟨none, none, .e (.st 1 (.t 63) (.t 60))⟩]
@[go_sem] def c49_s13 : List SQ := [⟨some 64, none, .p (.mv (.t 4))⟩, ⟨some 65, none, .p (.nilck (.t 64))⟩, ⟨some 66, none, .p (.fadr 4 (.t 65))⟩, ⟨some 67, none, .p (.fadr 0 (.t 66))⟩, ⟨some 68, none, .r (.ld none (.t 67))⟩]
@[go_sem] def c49_s14 : List SQ := [⟨some 70, none, .p (.bin .eql 5 false true (.t 68) (.c (.int .u8 2)))⟩, ⟨some 69, none, .p (.mv (.t 70))⟩]
@[go_sem] def c49_s15 : List SQ := [⟨some 71, none, .p (.mv (.t 4))⟩, ⟨some 72, none, .p (.mv (.t 0))⟩, ⟨some 73, none, .cv (.c (.fn (.func 65) [] [])) [(.t 72), (.c (.int .i64 64))]⟩, ⟨some 74, none, .p (.nilck (.t 71))⟩, ⟨some 75, none, .p (.fadr 4 (.t 74))⟩, ⟨some 76, none, .p (.fadr 1 (.t 75))⟩, ⟨none, none, .e (.st 1 (.t 76) (.t 73))⟩]
@[go_sem] def c49_s16 : List SQ := [⟨some 78, none, .p (.bin .eql 5 false true (.t 68) (.c (.int .u8 3)))⟩, ⟨some 77, none, .p (.mv (.t 78))⟩]
@[go_sem] def c49_s17 : List SQ := [⟨some 6, none, .p (.mv (.c (.int .u64 0)))⟩]
@[go_sem] def c49_s18 : List SQ := [⟨some 79, none, .p (.mv (.t 0))⟩, ⟨some 80, none, .cv (.c (.fn (.func 65) [] [])) [(.t 79), (.c (.int .i64 64))]⟩, ⟨some 81, none, .p (.mv (.c (.int .i64 0)))⟩]
@[go_sem] def c49_s19 : List SQ := [⟨some 82, none, .p (.bin .lss 3 false false (.t 81) (.t 80))⟩]
@[go_sem] def c49_s20 : List SQ := [⟨some 83, none, .p (.mv (.t 6))⟩, ⟨some 84, none, .p (.mv (.t 0))⟩, ⟨some 85, none, .cv (.c (.fn (.func 66) [] [])) [(.t 84)]⟩, ⟨some 86, none, .p (.bin .add 43 false false (.t 83) (.t 85))⟩, ⟨some 6, none, .p (.mv (.t 86))⟩]
@[go_sem] def c49_s21 : List SQ := [⟨some 87, none, .p (.mv (.t 4))⟩, ⟨some 88, none, .p (.mv (.t 4))⟩, ⟨some 89, none, .p (.nilck (.t 88))⟩, ⟨some 90, none, .p (.fadr 4 (.t 89))⟩, ⟨some 91, none, .p (.fadr 2 (.t 90))⟩, ⟨some 92, none, .r (.ld none (.t 91))⟩, ⟨some 93, none, .p (.mv (.t 6))⟩, ⟨some 94, none, .n (.buildS 43 1 1 [.int .u64 0] [(0, 1, (.t 93))])⟩, ⟨some 95, none, .e (.app 43 1 8 (.t 92) (.t 94))⟩, ⟨some 96, none, .p (.nilck (.t 87))⟩, ⟨some 97, none, .p (.fadr 4 (.t 96))⟩, ⟨some 98, none, .p (.fadr 2 (.t 97))⟩, ⟨none, none, .e (.st 1 (.t 98) (.t 95))⟩]
@[go_sem] def c49_s22 : List SQ := [⟨some 99, none, .p (.bin .add 3 false true (.t 81) (.c (.int .i64 1)))⟩, ⟨some 81, none, .p (.mv (.t 99))⟩]
def c49_l23 : CC := (.seq (.ops c49_s19) (.seq (.cond (.t 82) .skip (.exit 3)) (.seq (.block 4 (.seq (.ops c49_s20) (.ops c49_s21))) (.ops c49_s22))))
@[go_sem] def c49_s24 : List SQ := [⟨some 100, none, .p (.mv (.t 4))⟩, ⟨some 101, none, .p (.nilck (.t 100))⟩, ⟨some 102, none, .p (.fadr 0 (.t 101))⟩, ⟨some 103, none, .r (.ld none (.t 102))⟩, ⟨some 104, none, .p (.mv (.c (.int .i64 0)))⟩]
@[go_sem] def c49_s25 : List SQ := [⟨some 105, none, .p (.bin .lss 3 false false (.t 104) (.t 103))⟩]
@[go_sem] def c49_p26 : List (List DQ × Option DQ) := [([⟨0, [(3, none)], none, .p (.fadr 16 (.t 3))⟩, ⟨1, [(106, (some 0))], none, .r (.ld none (.t 106))⟩, ⟨2, [(0, none)], none, .p (.mv (.t 0))⟩], (some ⟨3, [(108, (some 2))], none, .cv (.c (.fn (.func 67) [] [])) [(.t 108)]⟩)), ([⟨4, [(109, (some 3))], none, .n (.buildS 42 1 1 [.nils] [(0, 1, (.t 109))])⟩], (some ⟨5, [(107, (some 1)), (110, (some 4))], none, .e (.app 42 1 24 (.t 107) (.t 110))⟩)), ([⟨6, [(3, none)], none, .p (.fadr 16 (.t 3))⟩], (some ⟨7, [(112, (some 6)), (111, (some 5))], none, .e (.st 1 (.t 112) (.t 111))⟩)), ([], none)]
@[go_sem] def c49_s27 : List SQ := [⟨some 113, none, .p (.bin .add 3 false true (.t 104) (.c (.int .i64 1)))⟩, ⟨some 104, none, .p (.mv (.t 113))⟩]
def c49_l28 : CC := (.seq (.ops c49_s25) (.seq (.cond (.t 105) .skip (.exit 5)) (.seq (.block 6 (.drw ⟨c49_p26, [(0, 106), (1, 107), (2, 108), (3, 109), (4, 110), (5, 111), (6, 112)], [(⟨1, [(106, (some 0))], none, .r (.ld none (.t 106))⟩, [1])]⟩)) (.ops c49_s27))))
@[go_sem] def c49_s29 : List SQ := [⟨some 114, none, .p (.mv (.t 0))⟩, ⟨some 115, none, .cv (.c (.fn (.func 65) [] [])) [(.t 114), (.c (.int .i64 65536))]⟩, ⟨some 116, none, .p (.mv (.c (.int .i64 0)))⟩]
@[go_sem] def c49_s30 : List SQ := [⟨some 117, none, .p (.bin .lss 3 false false (.t 116) (.t 115))⟩]
@[go_sem] def c49_p31 : List (List DQ × Option DQ) := [([⟨0, [(0, none)], none, .p (.mv (.t 0))⟩, ⟨2, [(0, none)], none, .p (.mv (.t 0))⟩, ⟨3, [(3, none)], none, .p (.fadr 17 (.t 3))⟩, ⟨4, [(121, (some 3))], none, .r (.ld none (.t 121))⟩, ⟨5, [(122, (some 4))], none, .p (.lenv (.t 122))⟩, ⟨6, [(123, (some 5))], none, .p (.bin .sub 3 true false (.c (.int .i64 65536)) (.t 123))⟩], (some ⟨1, [(118, (some 0))], none, .cv (.c (.fn (.func 65) [] [])) [(.t 118), (.c (.int .i64 64))]⟩)), ([], (some ⟨7, [(120, (some 2)), (124, (some 6))], none, .cv (.c (.fn (.func 65) [] [])) [(.t 120), (.t 124)]⟩)), ([⟨8, [(119, (some 1))], none, .p (.mv (.t 119))⟩, ⟨9, [(125, (some 7))], none, .p (.mv (.t 125))⟩], none)]
@[go_sem] def c49_p32 : List (List DQ × Option DQ) := [([⟨0, [(3, none)], none, .p (.fadr 17 (.t 3))⟩, ⟨1, [(126, (some 0))], none, .r (.ld none (.t 126))⟩, ⟨2, [(7, none)], none, .p (.mv (.t 7))⟩, ⟨3, [(128, (some 2))], none, .n (.buildS 3 1 1 [.int .i64 0] [(0, 1, (.t 128))])⟩, ⟨4, [(8, none)], none, .p (.mv (.t 8))⟩], (some ⟨5, [(129, (some 3)), (130, (some 4))], none, .cv (.c (.fn (.func 68) [] [])) [(.t 129), (.t 130)]⟩)), ([], (some ⟨6, [(127, (some 1)), (131, (some 5))], none, .e (.app 3 1 8 (.t 127) (.t 131))⟩)), ([⟨7, [(3, none)], none, .p (.fadr 17 (.t 3))⟩], (some ⟨8, [(133, (some 7)), (132, (some 6))], none, .e (.st 1 (.t 133) (.t 132))⟩)), ([], none)]
@[go_sem] def c49_s33 : List SQ := [⟨some 134, none, .p (.mv (.t 0))⟩, ⟨some 135, none, .p (.nilck (.t 134))⟩, ⟨some 136, none, .p (.fadr 1 (.t 135))⟩, ⟨some 137, none, .r (.ld none (.t 136))⟩]
@[go_sem] def c49_s34 : List SQ := [⟨some 138, none, .p (.bin .add 3 false true (.t 116) (.c (.int .i64 1)))⟩, ⟨some 116, none, .p (.mv (.t 138))⟩]
def c49_l35 : CC := (.seq (.ops c49_s30) (.seq (.cond (.t 117) .skip (.exit 7)) (.seq (.block 8 (.seq (.drw ⟨c49_p31, [(0, 118), (1, 119), (2, 120), (3, 121), (4, 122), (5, 123), (6, 124), (7, 125), (8, 7), (9, 8)], [(⟨4, [(121, (some 3))], none, .r (.ld none (.t 121))⟩, [1])]⟩) (.seq (.drw ⟨c49_p32, [(0, 126), (1, 127), (2, 128), (3, 129), (4, 130), (5, 131), (6, 132), (7, 133)], [(⟨1, [(126, (some 0))], none, .r (.ld none (.t 126))⟩, [0, 1])]⟩) (.seq (.ops c49_s33) (.cond (.t 137) (.exit 7) .skip))))) (.ops c49_s34))))
@[go_sem] def c49_s36 : List SQ := [⟨some 139, none, .r (.ld (some 18) (.t 3))⟩, ⟨none, none, .e (.st 18 (.t 2) (.t 139))⟩]
@[go_sem] def c49 : CF := ⟨1, (.seq (.ops c49_s0) (.seq (.ops c49_s1) (.seq (.ops c49_s2) (.seq (.ops c49_s3) (.seq (.ops c49_s4) (.seq (.ops c49_s5) (.seq (.seq (.ops c49_s6) (.block 0 (.loop c49_l11))) (.seq (.ops c49_s12) (.seq (.seq (.ops c49_s13) (.block 2 (.seq (.ops c49_s14) (.cond (.t 69) (.ops c49_s15) (.seq (.ops c49_s16) (.cond (.t 77) (.seq (.ops c49_s17) (.seq (.ops c49_s18) (.block 3 (.loop c49_l23)))) .skip)))))) (.seq (.seq (.ops c49_s24) (.block 5 (.loop c49_l28))) (.seq (.seq (.ops c49_s29) (.block 7 (.loop c49_l35))) (.seq (.ops c49_s36) .ret)))))))))))), [(.cell 2 (some 18))]⟩
theorem c49_eq : cCF Try.prog 49 1 = some c49 := by kernel_rfl

/-- the numbers in front -/
def headD (s : RdT) : CfgT × RdT :=
  let x1 := cntR 64 s
  let x2 := cntR 64 x1.2
  let x3 := cntR 255 x2.2
  let x4 := cntR 16 x3.2
  let x5 := cntR 16 x4.2
  let x6 := cntR 255 x5.2
  let x7 := cntR 64 x6.2
  let y0 := cntR 1024 x7.2
  let y1 := cntR 1024 y0.2
  let y2 := cntR 1024 y1.2
  let y3 := cntR 1024 y2.2
  let y4 := cntR 1024 y3.2
  let y5 := cntR 1024 y4.2
  let x8 := cntR 255 y5.2
  (⟨x1.1, x2.1, x3.1, x4.1, x8.1, 0, [], y0.1, y1.1, y2.1, y3.1, y4.1, y5.1, x5.1, x6.1, x7.1⟩, x8.2)
/-- the cuts -/
def cutsD : Nat → Int → RdT → List Int × RdT
  | 0, _, s => ([], s)
  | n + 1, b, s => (fw .u64 (b + (numR s).1) :: (cutsD n (fw .u64 (b + (numR s).1)) (numR s).2).1, (cutsD n (fw .u64 (b + (numR s).1)) (numR s).2).2)
def cfgX (x : CfgT × RdT) : CfgT × RdT :=
  if x.1.kind = 2 then ({ x.1 with n := (cntR 64 x.2).1 }, (cntR 64 x.2).2)
  else if x.1.kind = 3 then ({ x.1 with cuts := (cutsD (cntR 64 x.2).1.toNat 0 (cntR 64 x.2).2).1 }, (cutsD (cntR 64 x.2).1.toNat 0 (cntR 64 x.2).2).2)
  else x
def cfgD (s : RdT) : CfgT × RdT := cfgX (headD s)
def progsD : Nat → RdT → List (List OpT) × RdT
  | 0, s => ([], s)
  | n + 1, s => ((prD s).1 :: (progsD n (prD s).2).1, (progsD n (prD s).2).2)
/-- the runs: they end at a fault -/
def runsD : Nat → RdT → List Int → List Int × RdT
  | 0, s, ks => (ks, s)
  | n + 1, s, ks =>
    let x := cntR 64 s
    let y := cntR (65536 - (ks.length : Int)) x.2
    let l := ks ++ List.replicate y.1.toNat x.1
    if y.2.2 = true then (l, y.2) else runsD n y.2 l
structure AnyT where
  c : CfgT
  ps : List (List OpT)
  ks : List Int
  s : RdT
def anyX (x : CfgT × RdT) : AnyT :=
  let p := progsD x.1.threads.toNat x.2
  let n := cntR 65536 p.2
  let k := runsD n.1.toNat n.2 []
  ⟨x.1, p.1, k.1, k.2⟩
def anyD (s : RdT) : AnyT := anyX (cfgD s)
/-- the slots that are used throughout -/
structure At49 (a R X : Nat) (tm : T AV) : Prop where
  t0 : tm.get 0 = some (.ptr a 0)
  t2 : tm.get 2 = some (.ptr R 0)
  t3 : tm.get 3 = some (.ptr X 0)
  t4 : tm.get 4 = some (.ptr X 0)
def zc : List AV := [.int .i64 0, .int .i64 0, .int .u8 0, .int .i64 0, .int .u8 0, .int .i64 0, .nils, .int .i64 0, .int .i64 0, .int .i64 0, .int .i64 0, .int .i64 0, .int .i64 0, .int .i64 0, .int .i64 0, .int .i64 0, .nils, .nils]
/-- behind the numbers in front -/
structure HdA (n0 : Nat) (g0 : Nat → Option AO) (a R X : Nat) (s : RdT) (tm : T AV) (h : H) : Prop where
  at' : At49 a R X tm
  next : h.next = n0 + 2
  ha : h.t.get a = some (rdA (headD s).2)
  hR : h.t.get R = some (rowL zc 31)
  hX : h.t.get X = some (rowL (cfgC (headD s).1 .nils ++ [.nils, .nils]) 31)
  old : ∀ b, b < n0 → b ≠ a → h.t.get b = g0 b
def head49 (X : CC) : CC := .seq (.ops c49_s0) (.seq (.ops c49_s1) (.seq (.ops c49_s2) (.seq (.ops c49_s3) (.seq (.ops c49_s4) (.seq (.ops c49_s5) (.seq (.seq (.ops c49_s6) (.block 0 (.loop c49_l11))) (.seq (.ops c49_s12) X)))))))
set_option maxRecDepth 8000 in
theorem head49_w (P : Program) {call : CallE} (h65 : F65 call) {h : H} {a : Nat} {s : RdT} (ga : h.t.get a = some (rdA s)) (han : a < h.next) (hs : s.1.size ≤ 9223372036854775807) {X : CC} {Q : Cont}
    (hX : ∀ tm' h', HdA h.next h.t.get a h.next (h.next + 1) s tm' h' → (headD s).2.1.size ≤ 9223372036854775807 → WC P call X Q tm' h') : WC P call (head49 X) Q (putList 0 [.ptr a 0] T.e) h := by
  have n1 : ¬ a = h.next := by omega
  have n2 : ¬ a = h.next + 1 := by omega
  have m1 : ¬ h.next = a := by omega
  have m2 : ¬ h.next + 1 = a := by omega
  simp only [go_sem, ↓reduceIte, ↓reduceDIte, zA, zM, zL, zE, zD, yA, yE, yL, yQ, yT, reduceCtorEq, head49]
  refine opt65 h65 (s := s) (by simp [go_sem, n1, n2, ga]) (by omega) (by decide) (by decide) fun v1 s1 q1 l1 u1 z1 r1 => ?_
  simp only [go_sem, ↓reduceIte, ↓reduceDIte, zA, zM, zL, zE, zD, yA, yE, yL, yQ, yT, reduceCtorEq, n1, n2, m1, m2]
  refine opt65 h65 (s := s1) (by simp [go_sem, n1, n2]) (by omega) (by decide) (by decide) fun v2 s2 q2 l2 u2 z2 r2 => ?_
  simp only [go_sem, ↓reduceIte, ↓reduceDIte, zA, zM, zL, zE, zD, yA, yE, yL, yQ, yT, reduceCtorEq, n1, n2, m1, m2]
  refine opt65 h65 (s := s2) (by simp [go_sem, n1, n2]) (by omega) (by decide) (by decide) fun v3 s3 q3 l3 u3 z3 r3 => ?_
  have fb : fw .u8 v3 = v3 := fwB (by omega) (by omega)
  simp only [go_sem, ↓reduceIte, ↓reduceDIte, zA, zM, zL, zE, zD, yA, yE, yL, yQ, yT, reduceCtorEq, n1, n2, m1, m2, fb]
  refine opt65 h65 (s := s3) (by simp [go_sem, n1, n2]) (by omega) (by decide) (by decide) fun v4 s4 q4 l4 u4 z4 r4 => ?_
  simp only [go_sem, ↓reduceIte, ↓reduceDIte, zA, zM, zL, zE, zD, yA, yE, yL, yQ, yT, reduceCtorEq, n1, n2, m1, m2]
  refine opt65 h65 (s := s4) (by simp [go_sem, n1, n2]) (by omega) (by decide) (by decide) fun v5 s5 q5 l5 u5 z5 r5 => ?_
  simp only [go_sem, ↓reduceIte, ↓reduceDIte, zA, zM, zL, zE, zD, yA, yE, yL, yQ, yT, reduceCtorEq, n1, n2, m1, m2]
  refine opt65 h65 (s := s5) (by simp [go_sem, n1, n2]) (by omega) (by decide) (by decide) fun v6 s6 q6 l6 u6 z6 r6 => ?_
  simp only [go_sem, ↓reduceIte, ↓reduceDIte, zA, zM, zL, zE, zD, yA, yE, yL, yQ, yT, reduceCtorEq, n1, n2, m1, m2]
  refine opt65 h65 (s := s6) (by simp [go_sem, n1, n2]) (by omega) (by decide) (by decide) fun v7 s7 q7 l7 u7 z7 r7 => ?_
  simp only [go_sem, ↓reduceIte, ↓reduceDIte, zA, zM, zL, zE, zD, yA, yE, yL, yQ, yT, reduceCtorEq, n1, n2, m1, m2]
  refine unroll 7 ?_
  simp only [go_sem, ↓reduceIte, ↓reduceDIte, zA, zM, zL, zE, zD, yA, yE, yL, yQ, yT, reduceCtorEq, c49_l11, n1, n2, m1, m2]
  refine opt65 h65 (s := s7) (by simp [go_sem, n1, n2]) (by omega) (by decide) (by decide) fun y0 s8 q8 l8 u8 z8 r8 => ?_
  simp only [go_sem, ↓reduceIte, ↓reduceDIte, zA, zM, zL, zE, zD, yA, yE, yL, yQ, yT, reduceCtorEq, n1, n2, m1, m2, c49_l11, fl1, fl2, fl3, fl4, fl5, fl6]
  refine opt65 h65 (s := s8) (by simp [go_sem, n1, n2]) (by omega) (by decide) (by decide) fun y1 s9 q9 l9 u9 z9 r9 => ?_
  simp only [go_sem, ↓reduceIte, ↓reduceDIte, zA, zM, zL, zE, zD, yA, yE, yL, yQ, yT, reduceCtorEq, n1, n2, m1, m2, c49_l11, fl1, fl2, fl3, fl4, fl5, fl6]
  refine opt65 h65 (s := s9) (by simp [go_sem, n1, n2]) (by omega) (by decide) (by decide) fun y2 s10 q10 l10 u10 z10 r10 => ?_
  simp only [go_sem, ↓reduceIte, ↓reduceDIte, zA, zM, zL, zE, zD, yA, yE, yL, yQ, yT, reduceCtorEq, n1, n2, m1, m2, c49_l11, fl1, fl2, fl3, fl4, fl5, fl6]
  refine opt65 h65 (s := s10) (by simp [go_sem, n1, n2]) (by omega) (by decide) (by decide) fun y3 s11 q11 l11 u11 z11 r11 => ?_
  simp only [go_sem, ↓reduceIte, ↓reduceDIte, zA, zM, zL, zE, zD, yA, yE, yL, yQ, yT, reduceCtorEq, n1, n2, m1, m2, c49_l11, fl1, fl2, fl3, fl4, fl5, fl6]
  refine opt65 h65 (s := s11) (by simp [go_sem, n1, n2]) (by omega) (by decide) (by decide) fun y4 s12 q12 l12 u12 z12 r12 => ?_
  simp only [go_sem, ↓reduceIte, ↓reduceDIte, zA, zM, zL, zE, zD, yA, yE, yL, yQ, yT, reduceCtorEq, n1, n2, m1, m2, c49_l11, fl1, fl2, fl3, fl4, fl5, fl6]
  refine opt65 h65 (s := s12) (by simp [go_sem, n1, n2]) (by omega) (by decide) (by decide) fun y5 s13 q13 l13 u13 z13 r13 => ?_
  simp only [go_sem, ↓reduceIte, ↓reduceDIte, zA, zM, zL, zE, zD, yA, yE, yL, yQ, yT, reduceCtorEq, n1, n2, m1, m2, c49_l11, fl1, fl2, fl3, fl4, fl5, fl6]
  refine opt65 h65 (s := s13) (by simp [go_sem, n1, n2]) (by omega) (by decide) (by decide) fun v8 s14 q14 l14 u14 z14 r14 => ?_
  have fb8 : fw .u8 v8 = v8 := fwB (by omega) (by omega)
  simp only [go_sem, ↓reduceIte, ↓reduceDIte, zA, zM, zL, zE, zD, yA, yE, yL, yQ, yT, reduceCtorEq, n1, n2, m1, m2, fb8, c49_l11]
  have e : headD s = (⟨v1, v2, v3, v4, v8, 0, [], y0, y1, y2, y3, y4, y5, v5, v6, v7⟩, s14) := by
    unfold headD
    simp only [q1, q2, q3, q4, q5, q6, q7, q8, q9, q10, q11, q12, q13, q14]
  have hc : ∀ x, cfgC (headD s).1 x = [.int .i64 v1, .int .i64 v2, .int .u8 v3, .int .i64 v4, .int .u8 v8, .int .i64 0, x, .int .i64 y0, .int .i64 y1, .int .i64 y2, .int .i64 y3, .int .i64 y4, .int .i64 y5, .int .i64 v5, .int .i64 v6, .int .i64 v7] := fun x => by rw [e]; rfl
  refine hX _ _ ⟨⟨by simp [go_sem], by simp [go_sem], by simp [go_sem], by simp [go_sem]⟩, rfl, ?_, ?_, ?_, fun b h1 h2 => ?_⟩ (by rw [e]; exact r14)
  · rw [e]
    simp only [go_sem, ↓reduceIte, ↓reduceDIte, zA, zM, zL, zE, zD, yA, yE, yL, yQ, yT, reduceCtorEq, n2]
  · simp only [go_sem, ↓reduceIte, ↓reduceDIte, zA, zM, zL, zE, zD, yA, yE, yL, yQ, yT, reduceCtorEq, m1]
    rfl
  · rw [hc]
    simp only [go_sem, ↓reduceIte, ↓reduceDIte, zA, zM, zL, zE, zD, yA, yE, yL, yQ, yT, reduceCtorEq]
    rfl
  · have e1 : ¬ b = h.next := by omega
    have e2 : ¬ b = h.next + 1 := by omega
    simp only [go_sem, ↓reduceIte, ↓reduceDIte, zA, zM, zL, zE, zD, yA, yE, yL, yQ, yT, reduceCtorEq, e1, e2, h2]
section
variable (c : CfgT) (cv a b x : AV) (n : Int)
@[go_sem] theorem cfg_get4 : (cfgC c cv ++ [a, b])[4]? = some (.int .u8 c.kind) := by unfold cfgC; rfl
@[go_sem] theorem cfg_get6 : (cfgC c cv ++ [a, b])[6]? = some cv := by unfold cfgC; rfl
@[go_sem] theorem cfg_set5 : (cfgC c cv ++ [a, b]).set 5 (.int .i64 n) = cfgC { c with n := n } cv ++ [a, b] := by unfold cfgC; rfl
@[go_sem] theorem cfg_set6 : (cfgC c cv ++ [a, b]).set 6 x = cfgC c x ++ [a, b] := by unfold cfgC; rfl
end
/-- while the cuts are read -/
structure CtA (n0 : Nat) (g0 : Nat → Option AO) (a : Nat) (s : RdT) (c : CfgT) (cv : AV) (h : H) : Prop where
  next : n0 + 2 ≤ h.next
  ha : h.t.get a = some (rdA s)
  hR : h.t.get n0 = some (rowL zc 31)
  hX : h.t.get (n0 + 1) = some (rowL (cfgC c cv ++ [.nils, .nils]) 31)
  oc : Own 1 43 h cv c.cuts.length (c.cuts.map (AV.int .u64))
  ow : ∀ b, own cv = some b → n0 + 2 ≤ b
  old : ∀ b, b < n0 → b ≠ a → h.t.get b = g0 b
def I23 (n0 : Nat) (g0 : Nat → Option AO) (a : Nat) (c : CfgT) (n : Nat) (s0 : RdT) (k : Nat) (tm : T AV) (h : H) : Prop :=
  At49 a n0 (n0 + 1) tm ∧ tm.get 80 = some (.int .i64 (n : Int)) ∧ ∃ (i : Nat) (s : RdT) (b : Int) (cv : AV) (l : List Int), i + k = n ∧ l.length = i ∧ tm.get 6 = some (.int .u64 b) ∧ tm.get 81 = some (.int .i64 (i : Int)) ∧
    CtA n0 g0 a s { c with cuts := l } cv h ∧ s.1.size ≤ s0.1.size ∧ cutsD n 0 s0 = (l ++ (cutsD k b s).1, (cutsD k b s).2)
def R23 (n0 : Nat) (g0 : Nat → Option AO) (a : Nat) (c : CfgT) (s : RdT) (tm : T AV) (h : H) : Prop := At49 a n0 (n0 + 1) tm ∧ ∃ cv, CtA n0 g0 a s c cv h
set_option maxRecDepth 4000 in
theorem step23 (P : Program) {call : CallE} (h66 : F66 call) {n0 : Nat} {g0 : Nat → Option AO} {a : Nat} (han : a < n0) {c : CfgT} {n : Nat} (hn : n ≤ 64) {s0 : RdT} (hs : s0.1.size ≤ 9223372036854775807) (k : Nat) (tm : T AV) (h : H) (hI : I23 n0 g0 a c n s0 k tm h) :
    WC P call c49_l23 (loopQ 3 (fun tm h => ∃ j, j < k ∧ I23 n0 g0 a c n s0 j tm h) (fun tm h => R23 n0 g0 a { c with cuts := (cutsD n 0 s0).1 } (cutsD n 0 s0).2 tm h ∧ (cutsD n 0 s0).2.1.size ≤ s0.1.size) (fun _ _ => False)) tm h := by
  obtain ⟨⟨t0, t2, t3, t4⟩, t80, i, s, b, cv, l, hik, hli, t6, t81, ct, hsz, ho⟩ := hI
  cases k with
  | zero =>
    have e1 : ¬ (i : Int) < (n : Int) := by omega
    simp only [go_sem, ↓reduceIte, ↓reduceDIte, zA, zM, zL, zE, zD, yA, yE, yL, yQ, yT, reduceCtorEq, c49_l23, t80, t81, e1]
    rw [ho]
    simp only [cutsD, List.append_nil]
    exact ⟨⟨⟨by simp [go_sem, t0], by simp [go_sem, t2], by simp [go_sem, t3], by simp [go_sem, t4]⟩, cv, ct⟩, hsz⟩
  | succ k =>
    have e1 : (i : Int) < (n : Int) := by omega
    have ga := ct.ha
    simp only [go_sem, ↓reduceIte, ↓reduceDIte, zA, zM, zL, zE, zD, yA, yE, yL, yQ, yT, reduceCtorEq, c49_l23, t0, t6, t80, t81, e1]
    refine opt_some (h66 h a s ga (by omega)) ?_
    have hle := numR_le s
    have hX := ct.hX
    have nx := ct.next
    have x1 : ¬ n0 + 1 = a := by omega
    have x2 : ¬ n0 + 1 = h.next := by omega
    have x3 : ¬ a = h.next := by omega
    have x4 : ¬ n0 = h.next := by omega
    have x5 : ¬ n0 = a := by omega
    have x6 : ¬ a = n0 + 1 := by omega
    simp only [go_sem, ↓reduceIte, ↓reduceDIte, zA, zM, zL, zE, zD, yA, yE, yL, yQ, yT, reduceCtorEq, t4, x1, x2, hX]
    have hlen : l.length = ({ c with cuts := l } : CfgT).cuts.length := rfl
    have ot := ct.oc.keep (h' := ⟨h.next + 1, (h.t.set a (rdA (numR s).2)).set h.next (.row (putList 0 [.int .u64 (fw .u64 (b + (numR s).1))] T.e) 1 43)⟩) (Nat.le_succ _) (fun q hq => by
      have h1 := ct.ow q hq
      have h2 := ct.oc.lt hq
      have e0 : ¬ q = h.next := by omega
      have e2 : ¬ q = a := by omega
      simp only [go_sem, ↓reduceIte, ↓reduceDIte, zA, zM, zL, zE, zD, yA, yE, yL, yQ, yT, reduceCtorEq, e0, e2])
    refine opt_some (appA_own ot (by decide) (by decide) (by show (2 * (l.length + 1) + 192) * 8 ≤ _; omega) (by show l.length + 1 ≤ _; omega)) ?_
    have oo := own_app (src := [.int .u64 (fw .u64 (b + (numR s).1))]) ot (n := 1) (by decide) rfl
    have onev := oo.one
    have gk : ∀ q, q < h.next → own cv ≠ some q → q ≠ a → (appT ⟨h.next + 1, (h.t.set a (rdA (numR s).2)).set h.next (.row (putList 0 [.int .u64 (fw .u64 (b + (numR s).1))] T.e) 1 43)⟩ 43 cv (({ c with cuts := l } : CfgT).cuts.map (AV.int .u64) ++ [.int .u64 (fw .u64 (b + (numR s).1))])).t.get q = h.t.get q := fun q h1 h2 h3 => by
      rw [app_get (by show q < h.next + 1; omega) h2]
      have e0 : ¬ q = h.next := by omega
      simp only [go_sem, ↓reduceIte, ↓reduceDIte, zA, zM, zL, zE, zD, yA, yE, yL, yQ, yT, reduceCtorEq, e0, h3]
    have ga2 : (appT ⟨h.next + 1, (h.t.set a (rdA (numR s).2)).set h.next (.row (putList 0 [.int .u64 (fw .u64 (b + (numR s).1))] T.e) 1 43)⟩ 43 cv (({ c with cuts := l } : CfgT).cuts.map (AV.int .u64) ++ [.int .u64 (fw .u64 (b + (numR s).1))])).t.get a = some (rdA (numR s).2) := by
      rw [app_get (by show a < h.next + 1; omega) (fun hh => by have := ct.ow a hh; omega)]
      simp only [go_sem, ↓reduceIte, ↓reduceDIte, zA, zM, zL, zE, zD, yA, yE, yL, yQ, yT, reduceCtorEq, x3]
    have hX2 := (gk (n0 + 1) (by omega) (fun hh => by have := ct.ow _ hh; omega) (by omega)).trans hX
    have f1 : fw .i64 ((i : Int) + 1) = (i : Int) + 1 := fwI (by omega) (by omega)
    have e3 : ((i + 1 : Nat) : Int) = (i : Int) + 1 := rfl
    have ni : (({ c with cuts := l } : CfgT).cuts.length) = i := hli
    rw [ni] at oo onev ⊢
    simp only [go_sem, ↓reduceIte, ↓reduceDIte, zA, zM, zL, zE, zD, yA, yE, yL, yQ, yT, reduceCtorEq, t4, t81, hX2, onev, f1]
    refine ⟨k, Nat.lt_succ_self k, ⟨by simp [go_sem, t0], by simp [go_sem, t2], by simp [go_sem, t3], by simp [go_sem, t4]⟩, by simp [go_sem, t80], i + 1, (numR s).2, fw .u64 (b + (numR s).1), appV ⟨h.next + 1, (h.t.set a (rdA (numR s).2)).set h.next (.row (putList 0 [.int .u64 (fw .u64 (b + (numR s).1))] T.e) 1 43)⟩ 1 (i + 1), l ++ [fw .u64 (b + (numR s).1)], by omega, by rw [List.length_append, hli]; rfl, by simp [go_sem], by simp [go_sem, e3], ⟨?_, ?_, ?_, ?_, ?_, ?_, ?_⟩, by omega, ?_⟩
    · rw [app_next]; show n0 + 2 ≤ h.next + 1 + 1; omega
    · simp only [go_sem, ↓reduceIte, ↓reduceDIte, zA, zM, zL, zE, zD, yA, yE, yL, yQ, yT, reduceCtorEq, x6]
      exact ga2
    · have e0 : ¬ n0 = n0 + 1 := by omega
      simp only [go_sem, ↓reduceIte, ↓reduceDIte, zA, zM, zL, zE, zD, yA, yE, yL, yQ, yT, reduceCtorEq, e0]
      exact (gk n0 (by omega) (fun hh => by have := ct.ow _ hh; omega) (by omega)).trans ct.hR
    · simp only [go_sem, ↓reduceIte, ↓reduceDIte, zA, zM, zL, zE, zD, yA, yE, yL, yQ, yT, reduceCtorEq, cfg_len]
      rfl
    · have hl2 : (l ++ [fw .u64 (b + (numR s).1)]).length = i + 1 := by rw [List.length_append, hli]; rfl
      show Own 1 43 _ _ (l ++ [fw .u64 (b + (numR s).1)]).length ((l ++ [fw .u64 (b + (numR s).1)]).map (AV.int .u64))
      rw [hl2, List.map_append]
      refine oo.keep (Nat.le_refl _) (fun q hq => ?_)
      rw [own_appV] at hq
      simp only [Option.some.injEq] at hq
      have e0 : ¬ q = n0 + 1 := by omega
      simp only [go_sem, ↓reduceIte, ↓reduceDIte, zA, zM, zL, zE, zD, yA, yE, yL, yQ, yT, reduceCtorEq, e0]
    · intro q hq
      rw [own_appV] at hq
      simp only [Option.some.injEq] at hq
      omega
    · intro q h1 h2
      have e0 : ¬ q = n0 + 1 := by omega
      simp only [go_sem, ↓reduceIte, ↓reduceDIte, zA, zM, zL, zE, zD, yA, yE, yL, yQ, yT, reduceCtorEq, e0]
      rw [gk q (by omega) (fun hh => by have := ct.ow _ hh; omega) h2]
      exact ct.old q h1 h2
    · rw [ho]
      simp [cutsD]
end
end Go.Proofs.Ytnmlfhogolonoaa
