/-
  Checks of a configuration, by the references.
  Numbers of a domain; copies; parts of a layout.
-/
import Derived.Test.YtldmhpdjlgoenaaGreatDoorBw1
set_option linter.unusedVariables false
set_option linter.unusedSimpArgs false
namespace Go.Proofs.YtldmhpdjlgoenaaGreatDoor.BN
open Go.Proofs.YtldmhpdjlgoenaaGreatDoor.Eo
open Nat renaming reduceAdd → zA, reduceMul → zM, reduceLT → zL, reduceEqDiff → zE, reduceLeDiff → zD
open Int renaming reduceAdd → yA, reduceLE → yE, reduceLT → yL, reduceEq → yQ, reduceToNat → yT
noncomputable section
/-! 19: leapfrog/leapfrogref03.Check -/
@[go_sem] def c19_s0 : List SQ := [⟨some 1, none, .n (.box 24 (.t 0))⟩, ⟨some 2, none, .p (.mv (.c (.int .i64 0)))⟩]
@[go_sem] def c19_s1 : List SQ := [⟨some 4, none, .p (.fadr 0 (.t 1))⟩, ⟨some 5, none, .r (.ld none (.t 4))⟩]
@[go_sem] def c19_s2 : List SQ := [⟨some 7, none, .p (.bin .eql 5 false true (.t 5) (.c (.int .u8 1)))⟩, ⟨some 6, none, .p (.mv (.t 7))⟩]
@[go_sem] def c19_s3 : List SQ := [⟨some 8, none, .p (.fadr 1 (.t 1))⟩, ⟨some 9, none, .r (.ld none (.t 8))⟩, ⟨some 10, none, .p (.bin .eql 3 false true (.t 9) (.c (.int .i64 0)))⟩, ⟨some 11, none, .p (.mv (.t 10))⟩, ⟨some 12, some (11, true), .p (.fadr 2 (.t 1))⟩, ⟨some 13, some (11, true), .r (.ld none (.t 12))⟩, ⟨some 14, some (11, true), .p (.lenv (.t 13))⟩, ⟨some 15, some (11, true), .p (.bin .eql 3 false true (.t 14) (.c (.int .i64 0)))⟩, ⟨some 16, none, .p (.pick (.t 11) (.t 15) (.c (.bool false)))⟩]
@[go_sem] def c19_s4 : List SQ := [⟨some 2, none, .p (.mv (.c (.int .i64 0)))⟩]
@[go_sem] def c19_s5 : List SQ := [⟨some 18, none, .p (.bin .eql 5 false true (.t 5) (.c (.int .u8 2)))⟩, ⟨some 17, none, .p (.mv (.t 18))⟩]
@[go_sem] def c19_s6 : List SQ := [⟨some 19, none, .p (.fadr 1 (.t 1))⟩, ⟨some 20, none, .r (.ld none (.t 19))⟩, ⟨some 21, none, .p (.bin .geq 3 false true (.t 20) (.c (.int .i64 1)))⟩, ⟨some 22, none, .p (.mv (.t 21))⟩, ⟨some 23, some (22, true), .p (.fadr 1 (.t 1))⟩, ⟨some 24, some (22, true), .r (.ld none (.t 23))⟩, ⟨some 25, some (22, true), .p (.bin .leq 3 false true (.t 24) (.c (.int .i64 64)))⟩, ⟨some 26, none, .p (.pick (.t 22) (.t 25) (.c (.bool false)))⟩, ⟨some 27, none, .p (.mv (.t 26))⟩, ⟨some 28, some (27, true), .p (.fadr 2 (.t 1))⟩, ⟨some 29, some (27, true), .r (.ld none (.t 28))⟩, ⟨some 30, some (27, true), .p (.lenv (.t 29))⟩, ⟨some 31, some (27, true), .p (.bin .eql 3 false true (.t 30) (.c (.int .i64 0)))⟩, ⟨some 32, none, .p (.pick (.t 27) (.t 31) (.c (.bool false)))⟩]
@[go_sem] def c19_s7 : List SQ := [⟨some 2, none, .p (.mv (.c (.int .i64 0)))⟩]
@[go_sem] def c19_s8 : List SQ := [⟨some 34, none, .p (.bin .eql 5 false true (.t 5) (.c (.int .u8 3)))⟩, ⟨some 33, none, .p (.mv (.t 34))⟩]
@[go_sem] def c19_s9 : List SQ := [⟨some 35, none, .p (.fadr 1 (.t 1))⟩, ⟨some 36, none, .r (.ld none (.t 35))⟩, ⟨some 37, none, .p (.bin .neq 3 false true (.t 36) (.c (.int .i64 0)))⟩, ⟨some 38, none, .p (.mv (.t 37))⟩, ⟨some 39, some (38, false), .p (.fadr 2 (.t 1))⟩, ⟨some 40, some (38, false), .r (.ld none (.t 39))⟩, ⟨some 41, some (38, false), .p (.lenv (.t 40))⟩, ⟨some 42, some (38, false), .p (.bin .lss 3 false true (.t 41) (.c (.int .i64 1)))⟩, ⟨some 43, none, .p (.pick (.t 38) (.c (.bool true)) (.t 42))⟩, ⟨some 44, none, .p (.mv (.t 43))⟩, ⟨some 45, some (44, false), .p (.fadr 2 (.t 1))⟩, ⟨some 46, some (44, false), .r (.ld none (.t 45))⟩, ⟨some 47, some (44, false), .p (.lenv (.t 46))⟩, ⟨some 48, some (44, false), .p (.bin .gtr 3 false true (.t 47) (.c (.int .i64 63)))⟩, ⟨some 49, none, .p (.pick (.t 44) (.c (.bool true)) (.t 48))⟩, ⟨some 50, none, .p (.mv (.t 49))⟩, ⟨some 51, some (50, false), .p (.fadr 2 (.t 1))⟩, ⟨some 52, some (50, false), .r (.ld none (.t 51))⟩, ⟨some 53, some (50, false), .p (.iadrS 1 (.t 52) (.c (.int .i64 0)))⟩, ⟨some 54, some (50, false), .r (.ld none (.t 53))⟩, ⟨some 55, some (50, false), .p (.bin .eql 28 false true (.t 54) (.c (.int .u64 0)))⟩, ⟨some 56, none, .p (.pick (.t 50) (.c (.bool true)) (.t 55))⟩]
@[go_sem] def c19_s10 : List SQ := [⟨some 2, none, .p (.mv (.c (.int .i64 2)))⟩]
@[go_sem] def c19_s11 : List SQ := [⟨some 3, none, .p (.mv (.c (.int .i64 1)))⟩]
@[go_sem] def c19_s12 : List SQ := [⟨some 57, none, .p (.mv (.t 3))⟩, ⟨some 58, none, .p (.fadr 2 (.t 1))⟩, ⟨some 59, none, .r (.ld none (.t 58))⟩, ⟨some 60, none, .p (.lenv (.t 59))⟩, ⟨some 61, none, .p (.bin .lss 3 false false (.t 57) (.t 60))⟩]
@[go_sem] def c19_p13 : List (List DQ × Option DQ) := [([⟨0, [(1, none)], none, .p (.fadr 2 (.t 1))⟩, ⟨1, [(64, (some 0))], none, .r (.ld none (.t 64))⟩, ⟨2, [(3, none)], none, .p (.mv (.t 3))⟩, ⟨3, [(65, (some 1)), (66, (some 2))], none, .p (.iadrS 1 (.t 65) (.t 66))⟩, ⟨4, [(67, (some 3))], none, .r (.ld none (.t 67))⟩, ⟨5, [(1, none)], none, .p (.fadr 2 (.t 1))⟩, ⟨6, [(69, (some 5))], none, .r (.ld none (.t 69))⟩, ⟨7, [(3, none)], none, .p (.mv (.t 3))⟩, ⟨8, [(71, (some 7))], none, .p (.bin .sub 3 false true (.t 71) (.c (.int .i64 1)))⟩, ⟨9, [(70, (some 6)), (72, (some 8))], none, .p (.iadrS 1 (.t 70) (.t 72))⟩, ⟨10, [(73, (some 9))], none, .r (.ld none (.t 73))⟩, ⟨11, [(68, (some 4)), (74, (some 10))], none, .p (.bin .leq 28 false false (.t 68) (.t 74))⟩], none)]
@[go_sem] def c19_s14 : List SQ := [⟨some 2, none, .p (.mv (.c (.int .i64 2)))⟩]
@[go_sem] def c19_s15 : List SQ := [⟨some 62, none, .p (.mv (.t 3))⟩, ⟨some 63, none, .p (.bin .add 3 false true (.t 62) (.c (.int .i64 1)))⟩, ⟨some 3, none, .p (.mv (.t 63))⟩]
def c19_l16 : CC := (.seq (.seq (.ops c19_s12) (.cond (.t 61) .skip (.exit 1))) (.seq (.block 2 (.seq (.drw ⟨c19_p13, [(0, 64), (1, 65), (2, 66), (3, 67), (4, 68), (5, 69), (6, 70), (7, 71), (8, 72), (9, 73), (10, 74), (11, 75)], []⟩) (.cond (.t 75) (.seq (.ops c19_s14) .ret) .skip))) (.ops c19_s15)))
@[go_sem] def c19_s17 : List SQ := [⟨some 2, none, .p (.mv (.c (.int .i64 0)))⟩]
@[go_sem] def c19_s18 : List SQ := [⟨some 2, none, .p (.mv (.c (.int .i64 2)))⟩]
@[go_sem] def c19 : CF := ⟨1, (.seq (.ops c19_s0) (.seq (.seq (.ops c19_s1) (.block 0 (.seq (.ops c19_s2) (.cond (.t 6) (.seq (.ops c19_s3) (.cond (.t 16) (.seq (.ops c19_s4) .ret) .skip)) (.seq (.ops c19_s5) (.cond (.t 17) (.seq (.ops c19_s6) (.cond (.t 32) (.seq (.ops c19_s7) .ret) .skip)) (.seq (.ops c19_s8) (.cond (.t 33) (.seq (.seq (.ops c19_s9) (.cond (.t 56) (.seq (.ops c19_s10) .ret) .skip)) (.seq (.seq (.ops c19_s11) (.block 1 (.loop c19_l16))) (.seq (.ops c19_s17) .ret))) .skip)))))))) (.seq (.ops c19_s18) .ret))), [.tmp 2]⟩
/-! 5: leapfrog/leapfrogref09.Check -/
@[go_sem] def c5_s0 : List SQ := [⟨some 1, none, .n (.box 27 (.t 0))⟩, ⟨some 2, none, .p (.mv (.c (.int .i64 0)))⟩]
@[go_sem] def c5_s1 : List SQ := [⟨some 5, none, .p (.fadr 0 (.t 1))⟩, ⟨some 6, none, .r (.ld none (.t 5))⟩, ⟨some 7, none, .p (.bin .lss 3 false true (.t 6) (.c (.int .i64 1)))⟩, ⟨some 8, none, .p (.mv (.t 7))⟩, ⟨some 9, some (8, false), .p (.fadr 0 (.t 1))⟩, ⟨some 10, some (8, false), .r (.ld none (.t 9))⟩, ⟨some 11, some (8, false), .p (.bin .gtr 3 false true (.t 10) (.c (.int .i64 64)))⟩, ⟨some 12, none, .p (.pick (.t 8) (.c (.bool true)) (.t 11))⟩, ⟨some 13, none, .p (.mv (.t 12))⟩, ⟨some 14, some (13, false), .p (.fadr 1 (.t 1))⟩, ⟨some 15, some (13, false), .r (.ld none (.t 14))⟩, ⟨some 16, some (13, false), .p (.bin .lss 3 false true (.t 15) (.c (.int .i64 1)))⟩, ⟨some 17, none, .p (.pick (.t 13) (.c (.bool true)) (.t 16))⟩, ⟨some 18, none, .p (.mv (.t 17))⟩, ⟨some 19, some (18, false), .p (.fadr 1 (.t 1))⟩, ⟨some 20, some (18, false), .r (.ld none (.t 19))⟩, ⟨some 21, some (18, false), .p (.bin .gtr 3 false true (.t 20) (.c (.int .i64 64)))⟩, ⟨some 22, none, .p (.pick (.t 18) (.c (.bool true)) (.t 21))⟩, ⟨some 23, none, .p (.mv (.t 22))⟩, ⟨some 24, some (23, false), .p (.fadr 2 (.t 1))⟩, ⟨some 25, some (23, false), .r (.ld none (.t 24))⟩, ⟨some 26, some (23, false), .p (.bin .lss 5 false true (.t 25) (.c (.int .u8 1)))⟩, ⟨some 27, none, .p (.pick (.t 23) (.c (.bool true)) (.t 26))⟩, ⟨some 28, none, .p (.mv (.t 27))⟩, ⟨some 29, some (28, false), .p (.fadr 2 (.t 1))⟩, ⟨some 30, some (28, false), .r (.ld none (.t 29))⟩, ⟨some 31, some (28, false), .p (.bin .gtr 5 false true (.t 30) (.c (.int .u8 3)))⟩, ⟨some 32, none, .p (.pick (.t 28) (.c (.bool true)) (.t 31))⟩]
@[go_sem] def c5_s2 : List SQ := [⟨some 2, none, .p (.mv (.c (.int .i64 2)))⟩]
@[go_sem] def c5_s3 : List SQ := [⟨some 33, none, .p (.fadr 2 (.t 1))⟩, ⟨some 34, none, .r (.ld none (.t 33))⟩, ⟨some 35, none, .p (.bin .eql 5 false true (.t 34) (.c (.int .u8 3)))⟩, ⟨some 36, none, .p (.mv (.t 35))⟩, ⟨some 37, some (36, true), .p (.fadr 3 (.t 1))⟩, ⟨some 38, some (36, true), .r (.ld none (.t 37))⟩, ⟨some 39, some (36, true), .p (.bin .lss 3 false true (.t 38) (.c (.int .i64 1)))⟩, ⟨some 40, some (36, true), .p (.mv (.t 39))⟩, ⟨some 41, some (40, false), .p (.fadr 3 (.t 1))⟩, ⟨some 42, some (40, false), .r (.ld none (.t 41))⟩, ⟨some 43, some (40, false), .p (.bin .gtr 3 false true (.t 42) (.c (.int .i64 16)))⟩, ⟨some 44, some (36, true), .p (.pick (.t 40) (.c (.bool true)) (.t 43))⟩, ⟨some 45, none, .p (.pick (.t 36) (.t 44) (.c (.bool false)))⟩, ⟨some 46, none, .p (.mv (.t 45))⟩, ⟨some 47, some (46, false), .p (.fadr 2 (.t 1))⟩, ⟨some 48, some (46, false), .r (.ld none (.t 47))⟩, ⟨some 49, some (46, false), .p (.bin .neq 5 false true (.t 48) (.c (.int .u8 3)))⟩, ⟨some 50, some (46, false), .p (.mv (.t 49))⟩, ⟨some 51, some (50, true), .p (.fadr 3 (.t 1))⟩, ⟨some 52, some (50, true), .r (.ld none (.t 51))⟩, ⟨some 53, some (50, true), .p (.bin .neq 3 false true (.t 52) (.c (.int .i64 0)))⟩, ⟨some 54, some (46, false), .p (.pick (.t 50) (.t 53) (.c (.bool false)))⟩, ⟨some 55, none, .p (.pick (.t 46) (.c (.bool true)) (.t 54))⟩]
@[go_sem] def c5_s4 : List SQ := [⟨some 2, none, .p (.mv (.c (.int .i64 2)))⟩]
@[go_sem] def c5_s5 : List SQ := [⟨some 56, none, .p (.fadr 4 (.t 1))⟩, ⟨some 57, none, .r (.ld (some 3) (.t 56))⟩, ⟨some 58, none, .cv (.c (.fn (.func 19) [] [])) [(.t 57)]⟩, ⟨some 59, none, .p (.bin .neq 34 false true (.t 58) (.c (.int .i64 0)))⟩]
@[go_sem] def c5_s6 : List SQ := [⟨some 2, none, .p (.mv (.c (.int .i64 2)))⟩]
@[go_sem] def c5_s7 : List SQ := [⟨some 3, none, .p (.mv (.c (.int .i64 0)))⟩]
@[go_sem] def c5_s8 : List SQ := [⟨some 4, none, .p (.mv (.c (.int .i64 0)))⟩]
@[go_sem] def c5_s9 : List SQ := [⟨some 60, none, .p (.mv (.t 4))⟩, ⟨some 61, none, .p (.bin .lss 3 false true (.t 60) (.c (.int .i64 6)))⟩]
@[go_sem] def c5_s10 : List SQ := [⟨some 64, none, .p (.mv (.t 4))⟩, ⟨some 65, none, .p (.fadr 7 (.t 1))⟩, ⟨some 66, none, .p (.iadrA 6 1 (.t 65) (.t 64))⟩, ⟨some 67, none, .r (.ld none (.t 66))⟩, ⟨some 68, none, .p (.bin .lss 3 false true (.t 67) (.c (.int .i64 0)))⟩, ⟨some 69, none, .p (.mv (.t 68))⟩, ⟨some 70, some (69, false), .p (.mv (.t 4))⟩, ⟨some 71, some (69, false), .p (.fadr 7 (.t 1))⟩, ⟨some 72, some (69, false), .p (.iadrA 6 1 (.t 71) (.t 70))⟩, ⟨some 73, some (69, false), .r (.ld none (.t 72))⟩, ⟨some 74, some (69, false), .p (.mv (.t 3))⟩, ⟨some 75, some (69, false), .p (.bin .sub 3 true false (.c (.int .i64 1024)) (.t 74))⟩, ⟨some 76, some (69, false), .p (.bin .gtr 3 false false (.t 73) (.t 75))⟩, ⟨some 77, none, .p (.pick (.t 69) (.c (.bool true)) (.t 76))⟩]
@[go_sem] def c5_s11 : List SQ := [⟨some 2, none, .p (.mv (.c (.int .i64 2)))⟩]
@[go_sem] def c5_s12 : List SQ := [⟨some 78, none, .p (.mv (.t 3))⟩, ⟨some 79, none, .p (.mv (.t 4))⟩, ⟨some 80, none, .p (.fadr 7 (.t 1))⟩, ⟨some 81, none, .p (.iadrA 6 1 (.t 80) (.t 79))⟩, ⟨some 82, none, .r (.ld none (.t 81))⟩, ⟨some 83, none, .p (.bin .add 3 false false (.t 78) (.t 82))⟩, ⟨some 3, none, .p (.mv (.t 83))⟩]
@[go_sem] def c5_s13 : List SQ := [⟨some 62, none, .p (.mv (.t 4))⟩, ⟨some 63, none, .p (.bin .add 3 false true (.t 62) (.c (.int .i64 1)))⟩, ⟨some 4, none, .p (.mv (.t 63))⟩]
def c5_l14 : CC := (.seq (.seq (.ops c5_s9) (.cond (.t 61) .skip (.exit 0))) (.seq (.block 1 (.seq (.seq (.ops c5_s10) (.cond (.t 77) (.seq (.ops c5_s11) .ret) .skip)) (.ops c5_s12))) (.ops c5_s13)))
@[go_sem] def c5_s15 : List SQ := [⟨some 84, none, .p (.fadr 13 (.t 1))⟩, ⟨some 85, none, .r (.ld none (.t 84))⟩, ⟨some 86, none, .p (.bin .lss 3 false true (.t 85) (.c (.int .i64 1)))⟩, ⟨some 87, none, .p (.mv (.t 86))⟩, ⟨some 88, some (87, false), .p (.fadr 13 (.t 1))⟩, ⟨some 89, some (87, false), .r (.ld none (.t 88))⟩, ⟨some 90, some (87, false), .p (.bin .gtr 3 false true (.t 89) (.c (.int .i64 16)))⟩, ⟨some 91, none, .p (.pick (.t 87) (.c (.bool true)) (.t 90))⟩, ⟨some 92, none, .p (.mv (.t 91))⟩, ⟨some 93, some (92, false), .p (.fadr 14 (.t 1))⟩, ⟨some 94, some (92, false), .r (.ld none (.t 93))⟩, ⟨some 95, some (92, false), .p (.bin .lss 3 false true (.t 94) (.c (.int .i64 1)))⟩, ⟨some 96, none, .p (.pick (.t 92) (.c (.bool true)) (.t 95))⟩, ⟨some 97, none, .p (.mv (.t 96))⟩, ⟨some 98, some (97, false), .p (.fadr 14 (.t 1))⟩, ⟨some 99, some (97, false), .r (.ld none (.t 98))⟩, ⟨some 100, some (97, false), .p (.bin .gtr 3 false true (.t 99) (.c (.int .i64 255)))⟩, ⟨some 101, none, .p (.pick (.t 97) (.c (.bool true)) (.t 100))⟩, ⟨some 102, none, .p (.mv (.t 101))⟩, ⟨some 103, some (102, false), .p (.fadr 15 (.t 1))⟩, ⟨some 104, some (102, false), .r (.ld none (.t 103))⟩, ⟨some 105, some (102, false), .p (.bin .lss 3 false true (.t 104) (.c (.int .i64 0)))⟩, ⟨some 106, none, .p (.pick (.t 102) (.c (.bool true)) (.t 105))⟩, ⟨some 107, none, .p (.mv (.t 106))⟩, ⟨some 108, some (107, false), .p (.fadr 15 (.t 1))⟩, ⟨some 109, some (107, false), .r (.ld none (.t 108))⟩, ⟨some 110, some (107, false), .p (.bin .gtr 3 false true (.t 109) (.c (.int .i64 64)))⟩, ⟨some 111, none, .p (.pick (.t 107) (.c (.bool true)) (.t 110))⟩]
@[go_sem] def c5_s16 : List SQ := [⟨some 2, none, .p (.mv (.c (.int .i64 2)))⟩]
@[go_sem] def c5_s17 : List SQ := [⟨some 2, none, .p (.mv (.c (.int .i64 0)))⟩]
@[go_sem] def c5 : CF := ⟨1, (.seq (.ops c5_s0) (.seq (.seq (.ops c5_s1) (.cond (.t 32) (.seq (.ops c5_s2) .ret) .skip)) (.seq (.seq (.ops c5_s3) (.cond (.t 55) (.seq (.ops c5_s4) .ret) .skip)) (.seq (.seq (.ops c5_s5) (.cond (.t 59) (.seq (.ops c5_s6) .ret) .skip)) (.seq (.ops c5_s7) (.seq (.seq (.ops c5_s8) (.block 0 (.loop c5_l14))) (.seq (.seq (.ops c5_s15) (.cond (.t 111) (.seq (.ops c5_s16) .ret) .skip)) (.seq (.ops c5_s17) .ret)))))))), [.tmp 2]⟩

def inU (x : Int) : Prop := 0 ≤ x ∧ x < 18446744073709551616
def I19 (h0 : H) (D : Nat) (l : List Int) (k : Nat) (tm : T AV) (h : H) : Prop :=
  h = h0 ∧ tm.get 1 = some (.ptr D 0) ∧ ∃ (i : Nat) (a : Int), i + 1 + k = l.length ∧ l[i]? = some a ∧ tm.get 3 = some (.int .i64 ((i + 1 : Nat) : Int)) ∧ ascB 0 l = ascB a (l.drop (i + 1))
theorem step19 (P : Program) {call : CallE} {h0 : H} {D : Nat} {kd n : Int} {v : AV} {l : List Int} (gD : h0.t.get D = some (rowL [.int .u8 kd, .int .i64 n, v] 24)) (hv : RdL none 1 h0 v (l.map fun x : Int => AV.int .u64 x)) (k : Nat) (tm : T AV) (h : H) (hI : I19 h0 D l k tm h) :
    WC P call c19_l16 (loopQ 1 (fun tm h => ∃ j, j < k ∧ I19 h0 D l j tm h) (fun tm h => h = h0 ∧ ascB 0 l = true) (fun tm h => h = h0 ∧ ascB 0 l = false ∧ tm.get 2 = some (.int .i64 2))) tm h := by
  obtain ⟨rfl, t1, i, a, hik, hia, t3, hasc⟩ := hI
  have hle := hv.le
  have hvl := hv.lenA
  rw [List.length_map] at hle hvl
  have e3 : ((i + 1 : Nat) : Int) = (i : Int) + 1 := rfl
  cases k with
  | zero =>
    have e1 : ¬ (i : Int) + 1 < (l.length : Int) := by omega
    simp only [go_sem, ↓reduceIte, ↓reduceDIte, zA, zM, zL, zE, zD, yA, yE, yL, yQ, yT, reduceCtorEq, c19_l16, t1, t3, gD, hvl, e1, e3]
    rw [hasc, List.drop_eq_nil_of_le (by omega)]
    rfl
  | succ k =>
    have e1 : (i : Int) + 1 < (l.length : Int) := by omega
    have hi : i + 1 < l.length := by omega
    rcases hv with ⟨_, hh⟩ | ⟨b, o, cap, rfl, _, ra⟩
    · rw [List.map_eq_nil_iff] at hh; subst hh; simp at hi
    have ha := ra (i + 1) (.int .u64 l[i + 1]) (by simp [hi])
    have hb := ra i (.int .u64 a) (by rw [List.getElem?_map, hia]; rfl)
    rw [rLdA, Nat.mul_one] at ha hb
    rw [List.length_map] at gD hvl
    rw [List.drop_eq_getElem_cons hi] at hasc
    have f1 : fw .i64 ((i : Int) + 1 + 1) = (i : Int) + 1 + 1 := fwI (by omega) (by omega)
    have f2 : fw .i64 ((i : Int) + 1 - 1) = (i : Int) := by rw [show (i : Int) + 1 - 1 = (i : Int) by omega]; exact fwI (by omega) (by omega)
    have e4 : (0 : Int) ≤ (i : Int) + 1 := by omega
    have e5 : ((i : Int) + 1).toNat = i + 1 := by omega
    have e6 : (i : Int) < (l.length : Int) := by omega
    simp only [go_sem, ↓reduceIte, ↓reduceDIte, zA, zM, zL, zE, zD, yA, yE, yL, yQ, yT, reduceCtorEq, c19_l16, t1, t3, gD, hvl, e1, e3, e4, e5, e6, f2, Nat.mul_one, ha, hb]
    by_cases hx : l[i + 1] ≤ a
    · have hx2 : ¬ a < l[i + 1] := by omega
      simp only [go_sem, ↓reduceIte, ↓reduceDIte, zA, zM, zL, zE, zD, yA, yE, yL, yQ, yT, reduceCtorEq, hx2]
      rw [hasc, ascB, if_pos hx]
    · have hx2 : a < l[i + 1] := by omega
      simp only [go_sem, ↓reduceIte, ↓reduceDIte, zA, zM, zL, zE, zD, yA, yE, yL, yQ, yT, reduceCtorEq, hx2, t3, e3, f1]
      refine ⟨k, Nat.lt_succ_self k, rfl, by simp [go_sem, t1], i + 1, l[i + 1], by omega, by simp [hi], ?_, by rw [hasc, ascB, if_neg hx]⟩
      simp only [go_sem, ↓reduceIte, ↓reduceDIte, zA, zM, zL, zE, zD, yA, yE, yL, yQ, yT, reduceCtorEq, show (((i + 1 + 1 : Nat)) : Int) = (i : Int) + 1 + 1 from rfl]
theorem asc_head {x : Int} {l : List Int} (hx : 0 < x) : ascB 0 (x :: l) = ascB x l := by rw [ascB, if_neg (by omega)]
theorem w19 (P : Program) {call : CallE} {h : H} {k n : Int} {v : AV} {l : List Int} (hv : RdL none 1 h v (l.map fun x : Int => AV.int .u64 x)) (hlv : ∀ a, own v = some a → a < h.next) (hin : ∀ x ∈ l, inU x) :
    WF P call c19 [.agg [.int .u8 k, .int .i64 n, v]] h (SaysE (domB k n l) h) := by
  have ov := hv.one
  have hvl := hv.lenA
  rw [List.length_map] at hvl
  have st : ∀ x, StepN h ⟨h.next + 1, h.t.set h.next x⟩ := fun x => StepN.new h x
  have ln : ((l.length : Int) = 0) = (l = []) := by rw [← List.length_eq_zero_iff]; apply propext; omega
  by_cases k1 : k = 1
  · subst k1
    by_cases n0 : n = 0
    · by_cases l0 : l = []
      · simp only [go_sem, ↓reduceIte, ↓reduceDIte, zA, zM, zL, zE, zD, yA, yE, yL, yQ, yT, reduceCtorEq, c19, ov, hvl, n0, ln, l0]
        exact ⟨0, rfl, by simp [domB], st _⟩
      · simp only [go_sem, ↓reduceIte, ↓reduceDIte, zA, zM, zL, zE, zD, yA, yE, yL, yQ, yT, reduceCtorEq, c19, ov, hvl, n0, ln, l0]
        exact ⟨2, rfl, by simp [domB, l0], st _⟩
    · simp only [go_sem, ↓reduceIte, ↓reduceDIte, zA, zM, zL, zE, zD, yA, yE, yL, yQ, yT, reduceCtorEq, c19, ov, hvl, n0, ln]
      exact ⟨2, rfl, by simp [domB, n0], st _⟩
  by_cases k2 : k = 2
  · subst k2
    by_cases n1 : n < 1
    · simp only [go_sem, ↓reduceIte, ↓reduceDIte, zA, zM, zL, zE, zD, yA, yE, yL, yQ, yT, reduceCtorEq, c19, ov, hvl, n1, ln]
      exact ⟨2, rfl, by simp [domB]; intro h1 h2 h3; omega, st _⟩
    · by_cases n2 : 64 < n
      · simp only [go_sem, ↓reduceIte, ↓reduceDIte, zA, zM, zL, zE, zD, yA, yE, yL, yQ, yT, reduceCtorEq, c19, ov, hvl, n1, n2, ln]
        exact ⟨2, rfl, by simp [domB]; intro h1 h2 h3; omega, st _⟩
      · by_cases l0 : l = []
        · simp only [go_sem, ↓reduceIte, ↓reduceDIte, zA, zM, zL, zE, zD, yA, yE, yL, yQ, yT, reduceCtorEq, c19, ov, hvl, n1, n2, ln, l0]
          exact ⟨0, rfl, by simp [domB]; omega, st _⟩
        · simp only [go_sem, ↓reduceIte, ↓reduceDIte, zA, zM, zL, zE, zD, yA, yE, yL, yQ, yT, reduceCtorEq, c19, ov, hvl, n1, n2, ln, l0]
          exact ⟨2, rfl, by simp [domB, l0], st _⟩
  by_cases k3 : k = 3
  case neg =>
    simp only [go_sem, ↓reduceIte, ↓reduceDIte, zA, zM, zL, zE, zD, yA, yE, yL, yQ, yT, reduceCtorEq, c19, ov, hvl, k1, k2, k3]
    exact ⟨2, rfl, by simp [domB, k1, k2, k3], st _⟩
  subst k3
  by_cases n0 : n = 0
  case neg =>
    simp only [go_sem, ↓reduceIte, ↓reduceDIte, zA, zM, zL, zE, zD, yA, yE, yL, yQ, yT, reduceCtorEq, c19, ov, hvl, n0]
    exact ⟨2, rfl, by simp [domB, n0], st _⟩
  by_cases l1 : (l.length : Int) < 1
  case pos =>
    simp only [go_sem, ↓reduceIte, ↓reduceDIte, zA, zM, zL, zE, zD, yA, yE, yL, yQ, yT, reduceCtorEq, c19, ov, hvl, n0, l1]
    have hn : ¬ domB 3 0 l := by rintro (⟨h1, _⟩ | ⟨h1, _⟩ | ⟨_, _, h3, h4, _⟩) <;> omega
    exact ⟨2, rfl, by simp [hn], st _⟩
  by_cases l2 : (63 : Int) < (l.length : Int)
  case pos =>
    simp only [go_sem, ↓reduceIte, ↓reduceDIte, zA, zM, zL, zE, zD, yA, yE, yL, yQ, yT, reduceCtorEq, c19, ov, hvl, n0, l1, l2]
    have hn : ¬ domB 3 0 l := by rintro (⟨h1, _⟩ | ⟨h1, _⟩ | ⟨_, _, h3, h4, _⟩) <;> omega
    exact ⟨2, rfl, by simp [hn], st _⟩
  obtain ⟨x, m, rfl⟩ : ∃ x m, l = x :: m := by
    cases l with
    | nil => simp at l1
    | cons x m => exact ⟨x, m, rfl⟩
  have st1 := st (.row (putList 0 [.int .u8 3, .int .i64 0, v] T.e) 3 24)
  have hv1 := hv.keep (h' := ⟨h.next + 1, h.t.set h.next (.row (putList 0 [.int .u8 3, .int .i64 0, v] T.e) 3 24)⟩) fun b hb => st1.old b (hlv b hb)
  have hin0 := hin x (by simp)
  rcases id hv with ⟨_, hh⟩ | ⟨b, o, cap, rfl, _, ra⟩
  · simp at hh
  have hL : (List.map (fun x : Int => AV.int .u64 x) (x :: m)).length = m.length + 1 := by simp
  have ha := ra 0 (.int .u64 x) rfl
  rw [hL] at hv1 st1 ov hvl hlv
  rw [rLdA, Nat.mul_one, Nat.add_zero] at ha
  have nb : ¬ b = h.next := by have := hlv b rfl; omega
  have e6 : (0 : Int) < ((x :: m).length : Int) := by simp only [List.length_cons]; omega
  have e7 : ¬ ((m.length + 1 : Nat) : Int) < 1 := by simp only [List.length_cons] at l1; omega
  have e8 : ¬ (63 : Int) < ((m.length + 1 : Nat) : Int) := by simp only [List.length_cons] at l2; omega
  have e9 : (0 : Int) < ((m.length + 1 : Nat) : Int) := by omega
  by_cases x0 : x = 0
  · simp only [go_sem, ↓reduceIte, ↓reduceDIte, zA, zM, zL, zE, zD, yA, yE, yL, yQ, yT, reduceCtorEq, c19, ov, hvl, n0, l1, l2, List.length_map, Nat.mul_one, nb, ha, e7, e8, e9, x0]
    exact ⟨2, rfl, by simp [domB, ascB], st _⟩
  have xp : 0 < x := by have := hin0.1; omega
  simp only [go_sem, ↓reduceIte, ↓reduceDIte, zA, zM, zL, zE, zD, yA, yE, yL, yQ, yT, reduceCtorEq, c19, ov, hvl, n0, l1, l2, List.length_map, Nat.mul_one, nb, ha, e7, e8, e9, x0]
  refine loop_in (I19 _ h.next (x :: m)) _ _ (fun k tm h' hI => step19 P (by simp only [go_sem, ↓reduceIte, ↓reduceDIte, zA, zM, zL, zE, zD, yA, yE, yL, yQ, yT, reduceCtorEq]; rfl) hv1 k tm h' hI) (fun tm2 h2 hR => ?_) (fun tm2 h2 hS => ?_) m.length _ _
    ⟨rfl, by simp [go_sem], 0, x, by simp; omega, rfl, by simp [go_sem], asc_head xp⟩
  · obtain ⟨rfl, hc⟩ := hR
    simp only [go_sem, ↓reduceIte, ↓reduceDIte, zA, zM, zL, zE, zD, yA, yE, yL, yQ, yT, reduceCtorEq]
    exact ⟨0, rfl, by simp [domB, hc]; simp at e8; omega, st1⟩
  · obtain ⟨rfl, hc, t2⟩ := hS
    simp only [go_sem, ↓reduceIte, ↓reduceDIte, zA, zM, zL, zE, zD, yA, yE, yL, yQ, yT, reduceCtorEq, t2]
    exact ⟨2, rfl, by simp [domB, hc], st1⟩
set_option maxHeartbeats 2000000 in
set_option maxRecDepth 10000 in
theorem w5_1 (P : Program) [PT P] {call : CallE} (h19 : ∀ h k n v (l : List Int), RdL none 1 h v (l.map fun x : Int => AV.int .u64 x) → (∀ a, own v = some a → a < h.next) → (∀ x ∈ l, inU x) → ∃ v' h', call 19 [.agg [.int .u8 k, .int .i64 n, v]] h = some (v', h') ∧ SaysE (domB k n l) h v' h')
    {h : H} {c : CfgT} {v : AV} (hv : RdL none 1 h v (c.cuts.map fun x : Int => AV.int .u64 x)) (hlv : ∀ a, own v = some a → a < h.next) (hin : ∀ x ∈ c.cuts, inU x) (hg : c.engine = 3) :
    WF P call c5 [.agg (cfgC c v)] h (SaysE (layB c) h) := by
  have ov := hv.one
  have st : ∀ x, StepN h ⟨h.next + 1, h.t.set h.next x⟩ := fun x => StepN.new h x
  have bad : ∀ (p : Prop) x, ¬ p → SaysE p h (.int .i64 2) ⟨h.next + 1, h.t.set h.next x⟩ := fun p x hp => ⟨2, rfl, by simp [hp], st x⟩
  by_cases c1 : c.threads < 1
  case pos =>
    simp only [go_sem, ↓reduceIte, ↓reduceDIte, zA, zM, zL, zE, zD, yA, yE, yL, yQ, yT, reduceCtorEq, c5, ov, cfgC, c1]
    exact bad _ _ (by rintro ⟨_, q1, q2, q3, q4, q5, q6, q7, q8, q9, q10⟩; omega)
  by_cases c2 : 64 < c.threads
  case pos =>
    simp only [go_sem, ↓reduceIte, ↓reduceDIte, zA, zM, zL, zE, zD, yA, yE, yL, yQ, yT, reduceCtorEq, c5, ov, cfgC, c1, c2]
    exact bad _ _ (by rintro ⟨_, q1, q2, q3, q4, q5, q6, q7, q8, q9, q10⟩; omega)
  by_cases c3 : c.slots < 1
  case pos =>
    simp only [go_sem, ↓reduceIte, ↓reduceDIte, zA, zM, zL, zE, zD, yA, yE, yL, yQ, yT, reduceCtorEq, c5, ov, cfgC, c1, c2, c3]
    exact bad _ _ (by rintro ⟨_, q1, q2, q3, q4, q5, q6, q7, q8, q9, q10⟩; omega)
  by_cases c4 : 64 < c.slots
  case pos =>
    simp only [go_sem, ↓reduceIte, ↓reduceDIte, zA, zM, zL, zE, zD, yA, yE, yL, yQ, yT, reduceCtorEq, c5, ov, cfgC, c1, c2, c3, c4]
    exact bad _ _ (by rintro ⟨_, q1, q2, q3, q4, q5, q6, q7, q8, q9, q10⟩; omega)
  by_cases c5 : c.engine < 1
  case pos =>
    simp only [go_sem, ↓reduceIte, ↓reduceDIte, zA, zM, zL, zE, zD, yA, yE, yL, yQ, yT, reduceCtorEq, c5, ov, cfgC, c1, c2, c3, c4, c5]
    exact bad _ _ (by rintro ⟨_, q1, q2, q3, q4, q5, q6, q7, q8, q9, q10⟩; omega)
  by_cases c6 : 3 < c.engine
  case pos =>
    simp only [go_sem, ↓reduceIte, ↓reduceDIte, zA, zM, zL, zE, zD, yA, yE, yL, yQ, yT, reduceCtorEq, c5, ov, cfgC, c1, c2, c3, c4, c5, c6]
    exact bad _ _ (by rintro ⟨_, q1, q2, q3, q4, q5, q6, q7, q8, q9, q10⟩; omega)
  by_cases c7 : c.buckets < 1
  case pos =>
    simp only [go_sem, ↓reduceIte, ↓reduceDIte, zA, zM, zL, zE, zD, yA, yE, yL, yQ, yT, reduceCtorEq, c5, ov, cfgC, c1, c2, c3, c4, c5, c6, hg, c7]
    exact bad _ _ (by rintro ⟨_, q1, q2, q3, q4, q5, q6, q7, q8, q9, q10⟩; have := q5 hg; omega)
  by_cases c8 : 16 < c.buckets
  case pos =>
    simp only [go_sem, ↓reduceIte, ↓reduceDIte, zA, zM, zL, zE, zD, yA, yE, yL, yQ, yT, reduceCtorEq, c5, ov, cfgC, c1, c2, c3, c4, c5, c6, hg, c7, c8]
    exact bad _ _ (by rintro ⟨_, q1, q2, q3, q4, q5, q6, q7, q8, q9, q10⟩; have := q5 hg; omega)
  simp only [go_sem, ↓reduceIte, ↓reduceDIte, zA, zM, zL, zE, zD, yA, yE, yL, yQ, yT, reduceCtorEq, c5, ov, cfgC, c1, c2, c3, c4, c5, c6, hg, c7, c8]
  refine opt_by (h19 _ c.kind c.n v c.cuts (hv.keep fun b hb => (st _).old b (hlv b hb)) (fun a ha => Nat.lt_of_lt_of_le (hlv a ha) (st _).next) hin) fun v1 h1 p1 => ?_
  obtain ⟨e, rfl, he, st1⟩ := p1
  have stn := (st _).trans st1
  have g0 := st1.old h.next (by show h.next < h.next + 1; omega)
  simp only [go_sem, ↓reduceIte, ↓reduceDIte, zA, zM, zL, zE, zD, yA, yE, yL, yQ, yT, reduceCtorEq] at g0
  have bad2 : ∀ p : Prop, ¬ p → SaysE p h (.int .i64 2) h1 := fun p hp => ⟨2, rfl, by simp [hp], stn⟩
  by_cases d0 : e = 0
  case neg =>
    simp only [go_sem, ↓reduceIte, ↓reduceDIte, zA, zM, zL, zE, zD, yA, yE, yL, yQ, yT, reduceCtorEq, d0, g0]
    exact bad2 _ (by rintro ⟨_, q1, q2, q3, q4, q5, q6, q7, q8, q9, q10⟩; exact d0 (he.2 q7))
  have dd := he.1 d0
  simp only [go_sem, ↓reduceIte, ↓reduceDIte, zA, zM, zL, zE, zD, yA, yE, yL, yQ, yT, reduceCtorEq, d0, g0]
  refine unroll 7 ?_
  simp only [go_sem, ↓reduceIte, ↓reduceDIte, zA, zM, zL, zE, zD, yA, yE, yL, yQ, yT, reduceCtorEq, c5_l14, g0, fl1, fl2, fl3, fl4, fl5, fl6]
  by_cases a0 : c.t0 < 0
  case pos =>
    simp only [go_sem, ↓reduceIte, ↓reduceDIte, zA, zM, zL, zE, zD, yA, yE, yL, yQ, yT, reduceCtorEq, c5_l14, g0, Int.zero_add, Int.sub_zero, fl1, fl2, fl3, fl4, fl5, fl6, a0]
    exact bad2 _ (by rintro ⟨ht, _⟩; simp only [towB] at ht; omega)
  have u0 : fw .i64 (1024) = 1024 := rfl
  by_cases b0 : 1024 < c.t0
  case pos =>
    simp only [go_sem, ↓reduceIte, ↓reduceDIte, zA, zM, zL, zE, zD, yA, yE, yL, yQ, yT, reduceCtorEq, c5_l14, g0, Int.zero_add, Int.sub_zero, fl1, fl2, fl3, fl4, fl5, fl6, a0, u0, b0]
    exact bad2 _ (by rintro ⟨ht, _⟩; simp only [towB] at ht; omega)
  have f0 : fw .i64 (c.t0) = c.t0 := fwI (by omega) (by omega)
  simp only [go_sem, ↓reduceIte, ↓reduceDIte, zA, zM, zL, zE, zD, yA, yE, yL, yQ, yT, reduceCtorEq, c5_l14, g0, Int.zero_add, Int.sub_zero, a0, u0, b0, f0, fl1, fl2, fl3, fl4, fl5, fl6]
  by_cases a1 : c.t1 < 0
  case pos =>
    simp only [go_sem, ↓reduceIte, ↓reduceDIte, zA, zM, zL, zE, zD, yA, yE, yL, yQ, yT, reduceCtorEq, c5_l14, g0, Int.zero_add, Int.sub_zero, a0, u0, b0, f0, fl1, fl2, fl3, fl4, fl5, fl6, a1]
    exact bad2 _ (by rintro ⟨ht, _⟩; simp only [towB] at ht; omega)
  have u1 : fw .i64 (1024 - (c.t0)) = 1024 - (c.t0) := fwI (by omega) (by omega)
  by_cases b1 : 1024 - (c.t0) < c.t1
  case pos =>
    simp only [go_sem, ↓reduceIte, ↓reduceDIte, zA, zM, zL, zE, zD, yA, yE, yL, yQ, yT, reduceCtorEq, c5_l14, g0, Int.zero_add, Int.sub_zero, a0, u0, b0, f0, fl1, fl2, fl3, fl4, fl5, fl6, a1, u1, b1]
    exact bad2 _ (by rintro ⟨ht, _⟩; simp only [towB] at ht; omega)
  have f1 : fw .i64 (c.t0 + c.t1) = c.t0 + c.t1 := fwI (by omega) (by omega)
  simp only [go_sem, ↓reduceIte, ↓reduceDIte, zA, zM, zL, zE, zD, yA, yE, yL, yQ, yT, reduceCtorEq, c5_l14, g0, Int.zero_add, Int.sub_zero, a0, u0, b0, f0, a1, u1, b1, f1, fl1, fl2, fl3, fl4, fl5, fl6]
  by_cases a2 : c.t2 < 0
  case pos =>
    simp only [go_sem, ↓reduceIte, ↓reduceDIte, zA, zM, zL, zE, zD, yA, yE, yL, yQ, yT, reduceCtorEq, c5_l14, g0, Int.zero_add, Int.sub_zero, a0, u0, b0, f0, a1, u1, b1, f1, fl1, fl2, fl3, fl4, fl5, fl6, a2]
    exact bad2 _ (by rintro ⟨ht, _⟩; simp only [towB] at ht; omega)
  have u2 : fw .i64 (1024 - (c.t0 + c.t1)) = 1024 - (c.t0 + c.t1) := fwI (by omega) (by omega)
  by_cases b2 : 1024 - (c.t0 + c.t1) < c.t2
  case pos =>
    simp only [go_sem, ↓reduceIte, ↓reduceDIte, zA, zM, zL, zE, zD, yA, yE, yL, yQ, yT, reduceCtorEq, c5_l14, g0, Int.zero_add, Int.sub_zero, a0, u0, b0, f0, a1, u1, b1, f1, fl1, fl2, fl3, fl4, fl5, fl6, a2, u2, b2]
    exact bad2 _ (by rintro ⟨ht, _⟩; simp only [towB] at ht; omega)
  have f2 : fw .i64 (c.t0 + c.t1 + c.t2) = c.t0 + c.t1 + c.t2 := fwI (by omega) (by omega)
  simp only [go_sem, ↓reduceIte, ↓reduceDIte, zA, zM, zL, zE, zD, yA, yE, yL, yQ, yT, reduceCtorEq, c5_l14, g0, Int.zero_add, Int.sub_zero, a0, u0, b0, f0, a1, u1, b1, f1, a2, u2, b2, f2, fl1, fl2, fl3, fl4, fl5, fl6]
  by_cases a3 : c.t3 < 0
  case pos =>
    simp only [go_sem, ↓reduceIte, ↓reduceDIte, zA, zM, zL, zE, zD, yA, yE, yL, yQ, yT, reduceCtorEq, c5_l14, g0, Int.zero_add, Int.sub_zero, a0, u0, b0, f0, a1, u1, b1, f1, a2, u2, b2, f2, fl1, fl2, fl3, fl4, fl5, fl6, a3]
    exact bad2 _ (by rintro ⟨ht, _⟩; simp only [towB] at ht; omega)
  have u3 : fw .i64 (1024 - (c.t0 + c.t1 + c.t2)) = 1024 - (c.t0 + c.t1 + c.t2) := fwI (by omega) (by omega)
  by_cases b3 : 1024 - (c.t0 + c.t1 + c.t2) < c.t3
  case pos =>
    simp only [go_sem, ↓reduceIte, ↓reduceDIte, zA, zM, zL, zE, zD, yA, yE, yL, yQ, yT, reduceCtorEq, c5_l14, g0, Int.zero_add, Int.sub_zero, a0, u0, b0, f0, a1, u1, b1, f1, a2, u2, b2, f2, fl1, fl2, fl3, fl4, fl5, fl6, a3, u3, b3]
    exact bad2 _ (by rintro ⟨ht, _⟩; simp only [towB] at ht; omega)
  have f3 : fw .i64 (c.t0 + c.t1 + c.t2 + c.t3) = c.t0 + c.t1 + c.t2 + c.t3 := fwI (by omega) (by omega)
  simp only [go_sem, ↓reduceIte, ↓reduceDIte, zA, zM, zL, zE, zD, yA, yE, yL, yQ, yT, reduceCtorEq, c5_l14, g0, Int.zero_add, Int.sub_zero, a0, u0, b0, f0, a1, u1, b1, f1, a2, u2, b2, f2, a3, u3, b3, f3, fl1, fl2, fl3, fl4, fl5, fl6]
  by_cases a4 : c.t4 < 0
  case pos =>
    simp only [go_sem, ↓reduceIte, ↓reduceDIte, zA, zM, zL, zE, zD, yA, yE, yL, yQ, yT, reduceCtorEq, c5_l14, g0, Int.zero_add, Int.sub_zero, a0, u0, b0, f0, a1, u1, b1, f1, a2, u2, b2, f2, a3, u3, b3, f3, fl1, fl2, fl3, fl4, fl5, fl6, a4]
    exact bad2 _ (by rintro ⟨ht, _⟩; simp only [towB] at ht; omega)
  have u4 : fw .i64 (1024 - (c.t0 + c.t1 + c.t2 + c.t3)) = 1024 - (c.t0 + c.t1 + c.t2 + c.t3) := fwI (by omega) (by omega)
  by_cases b4 : 1024 - (c.t0 + c.t1 + c.t2 + c.t3) < c.t4
  case pos =>
    simp only [go_sem, ↓reduceIte, ↓reduceDIte, zA, zM, zL, zE, zD, yA, yE, yL, yQ, yT, reduceCtorEq, c5_l14, g0, Int.zero_add, Int.sub_zero, a0, u0, b0, f0, a1, u1, b1, f1, a2, u2, b2, f2, a3, u3, b3, f3, fl1, fl2, fl3, fl4, fl5, fl6, a4, u4, b4]
    exact bad2 _ (by rintro ⟨ht, _⟩; simp only [towB] at ht; omega)
  have f4 : fw .i64 (c.t0 + c.t1 + c.t2 + c.t3 + c.t4) = c.t0 + c.t1 + c.t2 + c.t3 + c.t4 := fwI (by omega) (by omega)
  simp only [go_sem, ↓reduceIte, ↓reduceDIte, zA, zM, zL, zE, zD, yA, yE, yL, yQ, yT, reduceCtorEq, c5_l14, g0, Int.zero_add, Int.sub_zero, a0, u0, b0, f0, a1, u1, b1, f1, a2, u2, b2, f2, a3, u3, b3, f3, a4, u4, b4, f4, fl1, fl2, fl3, fl4, fl5, fl6]
  by_cases a5 : c.t5 < 0
  case pos =>
    simp only [go_sem, ↓reduceIte, ↓reduceDIte, zA, zM, zL, zE, zD, yA, yE, yL, yQ, yT, reduceCtorEq, c5_l14, g0, Int.zero_add, Int.sub_zero, a0, u0, b0, f0, a1, u1, b1, f1, a2, u2, b2, f2, a3, u3, b3, f3, a4, u4, b4, f4, fl1, fl2, fl3, fl4, fl5, fl6, a5]
    exact bad2 _ (by rintro ⟨ht, _⟩; simp only [towB] at ht; omega)
  have u5 : fw .i64 (1024 - (c.t0 + c.t1 + c.t2 + c.t3 + c.t4)) = 1024 - (c.t0 + c.t1 + c.t2 + c.t3 + c.t4) := fwI (by omega) (by omega)
  by_cases b5 : 1024 - (c.t0 + c.t1 + c.t2 + c.t3 + c.t4) < c.t5
  case pos =>
    simp only [go_sem, ↓reduceIte, ↓reduceDIte, zA, zM, zL, zE, zD, yA, yE, yL, yQ, yT, reduceCtorEq, c5_l14, g0, Int.zero_add, Int.sub_zero, a0, u0, b0, f0, a1, u1, b1, f1, a2, u2, b2, f2, a3, u3, b3, f3, a4, u4, b4, f4, fl1, fl2, fl3, fl4, fl5, fl6, a5, u5, b5]
    exact bad2 _ (by rintro ⟨ht, _⟩; simp only [towB] at ht; omega)
  have f5 : fw .i64 (c.t0 + c.t1 + c.t2 + c.t3 + c.t4 + c.t5) = c.t0 + c.t1 + c.t2 + c.t3 + c.t4 + c.t5 := fwI (by omega) (by omega)
  simp only [go_sem, ↓reduceIte, ↓reduceDIte, zA, zM, zL, zE, zD, yA, yE, yL, yQ, yT, reduceCtorEq, c5_l14, g0, Int.zero_add, Int.sub_zero, a0, u0, b0, f0, a1, u1, b1, f1, a2, u2, b2, f2, a3, u3, b3, f3, a4, u4, b4, f4, a5, u5, b5, f5, fl1, fl2, fl3, fl4, fl5, fl6]
  have ht : towB 1024 [c.t0, c.t1, c.t2, c.t3, c.t4, c.t5] := by simp only [towB, and_true]; omega
  by_cases l1 : c.locks < 1
  case pos =>
    simp only [go_sem, ↓reduceIte, ↓reduceDIte, zA, zM, zL, zE, zD, yA, yE, yL, yQ, yT, reduceCtorEq, g0, l1]
    exact bad2 _ (by rintro ⟨_, q1, q2, q3, q4, q5, q6, q7, q8, q9, q10, q11⟩; omega)
  by_cases l2 : 16 < c.locks
  case pos =>
    simp only [go_sem, ↓reduceIte, ↓reduceDIte, zA, zM, zL, zE, zD, yA, yE, yL, yQ, yT, reduceCtorEq, g0, l1, l2]
    exact bad2 _ (by rintro ⟨_, q1, q2, q3, q4, q5, q6, q7, q8, q9, q10, q11⟩; omega)
  by_cases l3 : c.tries < 1
  case pos =>
    simp only [go_sem, ↓reduceIte, ↓reduceDIte, zA, zM, zL, zE, zD, yA, yE, yL, yQ, yT, reduceCtorEq, g0, l1, l2, l3]
    exact bad2 _ (by rintro ⟨_, q1, q2, q3, q4, q5, q6, q7, q8, q9, q10, q11⟩; omega)
  by_cases l4 : 255 < c.tries
  case pos =>
    simp only [go_sem, ↓reduceIte, ↓reduceDIte, zA, zM, zL, zE, zD, yA, yE, yL, yQ, yT, reduceCtorEq, g0, l1, l2, l3, l4]
    exact bad2 _ (by rintro ⟨_, q1, q2, q3, q4, q5, q6, q7, q8, q9, q10, q11⟩; omega)
  by_cases l5 : c.batch < 0
  case pos =>
    simp only [go_sem, ↓reduceIte, ↓reduceDIte, zA, zM, zL, zE, zD, yA, yE, yL, yQ, yT, reduceCtorEq, g0, l1, l2, l3, l4, l5]
    exact bad2 _ (by rintro ⟨_, q1, q2, q3, q4, q5, q6, q7, q8, q9, q10, q11⟩; omega)
  by_cases l6 : 64 < c.batch
  case pos =>
    simp only [go_sem, ↓reduceIte, ↓reduceDIte, zA, zM, zL, zE, zD, yA, yE, yL, yQ, yT, reduceCtorEq, g0, l1, l2, l3, l4, l5, l6]
    exact bad2 _ (by rintro ⟨_, q1, q2, q3, q4, q5, q6, q7, q8, q9, q10, q11⟩; omega)
  simp only [go_sem, ↓reduceIte, ↓reduceDIte, zA, zM, zL, zE, zD, yA, yE, yL, yQ, yT, reduceCtorEq, g0, l1, l2, l3, l4, l5, l6]
  exact ⟨0, rfl, by simp only [true_iff]; exact ⟨ht, by omega, by omega, by omega, by omega, fun _ => by omega, fun q => absurd hg q, dd, by omega, by omega, by omega, by omega⟩, stn⟩
set_option maxHeartbeats 2000000 in
set_option maxRecDepth 10000 in
theorem w5_0 (P : Program) [PT P] {call : CallE} (h19 : ∀ h k n v (l : List Int), RdL none 1 h v (l.map fun x : Int => AV.int .u64 x) → (∀ a, own v = some a → a < h.next) → (∀ x ∈ l, inU x) → ∃ v' h', call 19 [.agg [.int .u8 k, .int .i64 n, v]] h = some (v', h') ∧ SaysE (domB k n l) h v' h')
    {h : H} {c : CfgT} {v : AV} (hv : RdL none 1 h v (c.cuts.map fun x : Int => AV.int .u64 x)) (hlv : ∀ a, own v = some a → a < h.next) (hin : ∀ x ∈ c.cuts, inU x) (hg : ¬ c.engine = 3) :
    WF P call c5 [.agg (cfgC c v)] h (SaysE (layB c) h) := by
  have ov := hv.one
  have st : ∀ x, StepN h ⟨h.next + 1, h.t.set h.next x⟩ := fun x => StepN.new h x
  have bad : ∀ (p : Prop) x, ¬ p → SaysE p h (.int .i64 2) ⟨h.next + 1, h.t.set h.next x⟩ := fun p x hp => ⟨2, rfl, by simp [hp], st x⟩
  by_cases c1 : c.threads < 1
  case pos =>
    simp only [go_sem, ↓reduceIte, ↓reduceDIte, zA, zM, zL, zE, zD, yA, yE, yL, yQ, yT, reduceCtorEq, c5, ov, cfgC, c1]
    exact bad _ _ (by rintro ⟨_, q1, q2, q3, q4, q5, q6, q7, q8, q9, q10⟩; omega)
  by_cases c2 : 64 < c.threads
  case pos =>
    simp only [go_sem, ↓reduceIte, ↓reduceDIte, zA, zM, zL, zE, zD, yA, yE, yL, yQ, yT, reduceCtorEq, c5, ov, cfgC, c1, c2]
    exact bad _ _ (by rintro ⟨_, q1, q2, q3, q4, q5, q6, q7, q8, q9, q10⟩; omega)
  by_cases c3 : c.slots < 1
  case pos =>
    simp only [go_sem, ↓reduceIte, ↓reduceDIte, zA, zM, zL, zE, zD, yA, yE, yL, yQ, yT, reduceCtorEq, c5, ov, cfgC, c1, c2, c3]
    exact bad _ _ (by rintro ⟨_, q1, q2, q3, q4, q5, q6, q7, q8, q9, q10⟩; omega)
  by_cases c4 : 64 < c.slots
  case pos =>
    simp only [go_sem, ↓reduceIte, ↓reduceDIte, zA, zM, zL, zE, zD, yA, yE, yL, yQ, yT, reduceCtorEq, c5, ov, cfgC, c1, c2, c3, c4]
    exact bad _ _ (by rintro ⟨_, q1, q2, q3, q4, q5, q6, q7, q8, q9, q10⟩; omega)
  by_cases c5 : c.engine < 1
  case pos =>
    simp only [go_sem, ↓reduceIte, ↓reduceDIte, zA, zM, zL, zE, zD, yA, yE, yL, yQ, yT, reduceCtorEq, c5, ov, cfgC, c1, c2, c3, c4, c5]
    exact bad _ _ (by rintro ⟨_, q1, q2, q3, q4, q5, q6, q7, q8, q9, q10⟩; omega)
  by_cases c6 : 3 < c.engine
  case pos =>
    simp only [go_sem, ↓reduceIte, ↓reduceDIte, zA, zM, zL, zE, zD, yA, yE, yL, yQ, yT, reduceCtorEq, c5, ov, cfgC, c1, c2, c3, c4, c5, c6]
    exact bad _ _ (by rintro ⟨_, q1, q2, q3, q4, q5, q6, q7, q8, q9, q10⟩; omega)
  by_cases c7 : c.buckets = 0
  case neg =>
    simp only [go_sem, ↓reduceIte, ↓reduceDIte, zA, zM, zL, zE, zD, yA, yE, yL, yQ, yT, reduceCtorEq, c5, ov, cfgC, c1, c2, c3, c4, c5, c6, hg, c7]
    exact bad _ _ (by rintro ⟨_, q1, q2, q3, q4, q5, q6, q7, q8, q9, q10⟩; exact c7 (q6 hg))
  have c8 : True := trivial
  simp only [go_sem, ↓reduceIte, ↓reduceDIte, zA, zM, zL, zE, zD, yA, yE, yL, yQ, yT, reduceCtorEq, c5, ov, cfgC, c1, c2, c3, c4, c5, c6, hg, c7, c8]
  refine opt_by (h19 _ c.kind c.n v c.cuts (hv.keep fun b hb => (st _).old b (hlv b hb)) (fun a ha => Nat.lt_of_lt_of_le (hlv a ha) (st _).next) hin) fun v1 h1 p1 => ?_
  obtain ⟨e, rfl, he, st1⟩ := p1
  have stn := (st _).trans st1
  have g0 := st1.old h.next (by show h.next < h.next + 1; omega)
  simp only [go_sem, ↓reduceIte, ↓reduceDIte, zA, zM, zL, zE, zD, yA, yE, yL, yQ, yT, reduceCtorEq] at g0
  have bad2 : ∀ p : Prop, ¬ p → SaysE p h (.int .i64 2) h1 := fun p hp => ⟨2, rfl, by simp [hp], stn⟩
  by_cases d0 : e = 0
  case neg =>
    simp only [go_sem, ↓reduceIte, ↓reduceDIte, zA, zM, zL, zE, zD, yA, yE, yL, yQ, yT, reduceCtorEq, d0, g0]
    exact bad2 _ (by rintro ⟨_, q1, q2, q3, q4, q5, q6, q7, q8, q9, q10⟩; exact d0 (he.2 q7))
  have dd := he.1 d0
  simp only [go_sem, ↓reduceIte, ↓reduceDIte, zA, zM, zL, zE, zD, yA, yE, yL, yQ, yT, reduceCtorEq, d0, g0]
  refine unroll 7 ?_
  simp only [go_sem, ↓reduceIte, ↓reduceDIte, zA, zM, zL, zE, zD, yA, yE, yL, yQ, yT, reduceCtorEq, c5_l14, g0, fl1, fl2, fl3, fl4, fl5, fl6]
  by_cases a0 : c.t0 < 0
  case pos =>
    simp only [go_sem, ↓reduceIte, ↓reduceDIte, zA, zM, zL, zE, zD, yA, yE, yL, yQ, yT, reduceCtorEq, c5_l14, g0, Int.zero_add, Int.sub_zero, fl1, fl2, fl3, fl4, fl5, fl6, a0]
    exact bad2 _ (by rintro ⟨ht, _⟩; simp only [towB] at ht; omega)
  have u0 : fw .i64 (1024) = 1024 := rfl
  by_cases b0 : 1024 < c.t0
  case pos =>
    simp only [go_sem, ↓reduceIte, ↓reduceDIte, zA, zM, zL, zE, zD, yA, yE, yL, yQ, yT, reduceCtorEq, c5_l14, g0, Int.zero_add, Int.sub_zero, fl1, fl2, fl3, fl4, fl5, fl6, a0, u0, b0]
    exact bad2 _ (by rintro ⟨ht, _⟩; simp only [towB] at ht; omega)
  have f0 : fw .i64 (c.t0) = c.t0 := fwI (by omega) (by omega)
  simp only [go_sem, ↓reduceIte, ↓reduceDIte, zA, zM, zL, zE, zD, yA, yE, yL, yQ, yT, reduceCtorEq, c5_l14, g0, Int.zero_add, Int.sub_zero, a0, u0, b0, f0, fl1, fl2, fl3, fl4, fl5, fl6]
  by_cases a1 : c.t1 < 0
  case pos =>
    simp only [go_sem, ↓reduceIte, ↓reduceDIte, zA, zM, zL, zE, zD, yA, yE, yL, yQ, yT, reduceCtorEq, c5_l14, g0, Int.zero_add, Int.sub_zero, a0, u0, b0, f0, fl1, fl2, fl3, fl4, fl5, fl6, a1]
    exact bad2 _ (by rintro ⟨ht, _⟩; simp only [towB] at ht; omega)
  have u1 : fw .i64 (1024 - (c.t0)) = 1024 - (c.t0) := fwI (by omega) (by omega)
  by_cases b1 : 1024 - (c.t0) < c.t1
  case pos =>
    simp only [go_sem, ↓reduceIte, ↓reduceDIte, zA, zM, zL, zE, zD, yA, yE, yL, yQ, yT, reduceCtorEq, c5_l14, g0, Int.zero_add, Int.sub_zero, a0, u0, b0, f0, fl1, fl2, fl3, fl4, fl5, fl6, a1, u1, b1]
    exact bad2 _ (by rintro ⟨ht, _⟩; simp only [towB] at ht; omega)
  have f1 : fw .i64 (c.t0 + c.t1) = c.t0 + c.t1 := fwI (by omega) (by omega)
  simp only [go_sem, ↓reduceIte, ↓reduceDIte, zA, zM, zL, zE, zD, yA, yE, yL, yQ, yT, reduceCtorEq, c5_l14, g0, Int.zero_add, Int.sub_zero, a0, u0, b0, f0, a1, u1, b1, f1, fl1, fl2, fl3, fl4, fl5, fl6]
  by_cases a2 : c.t2 < 0
  case pos =>
    simp only [go_sem, ↓reduceIte, ↓reduceDIte, zA, zM, zL, zE, zD, yA, yE, yL, yQ, yT, reduceCtorEq, c5_l14, g0, Int.zero_add, Int.sub_zero, a0, u0, b0, f0, a1, u1, b1, f1, fl1, fl2, fl3, fl4, fl5, fl6, a2]
    exact bad2 _ (by rintro ⟨ht, _⟩; simp only [towB] at ht; omega)
  have u2 : fw .i64 (1024 - (c.t0 + c.t1)) = 1024 - (c.t0 + c.t1) := fwI (by omega) (by omega)
  by_cases b2 : 1024 - (c.t0 + c.t1) < c.t2
  case pos =>
    simp only [go_sem, ↓reduceIte, ↓reduceDIte, zA, zM, zL, zE, zD, yA, yE, yL, yQ, yT, reduceCtorEq, c5_l14, g0, Int.zero_add, Int.sub_zero, a0, u0, b0, f0, a1, u1, b1, f1, fl1, fl2, fl3, fl4, fl5, fl6, a2, u2, b2]
    exact bad2 _ (by rintro ⟨ht, _⟩; simp only [towB] at ht; omega)
  have f2 : fw .i64 (c.t0 + c.t1 + c.t2) = c.t0 + c.t1 + c.t2 := fwI (by omega) (by omega)
  simp only [go_sem, ↓reduceIte, ↓reduceDIte, zA, zM, zL, zE, zD, yA, yE, yL, yQ, yT, reduceCtorEq, c5_l14, g0, Int.zero_add, Int.sub_zero, a0, u0, b0, f0, a1, u1, b1, f1, a2, u2, b2, f2, fl1, fl2, fl3, fl4, fl5, fl6]
  by_cases a3 : c.t3 < 0
  case pos =>
    simp only [go_sem, ↓reduceIte, ↓reduceDIte, zA, zM, zL, zE, zD, yA, yE, yL, yQ, yT, reduceCtorEq, c5_l14, g0, Int.zero_add, Int.sub_zero, a0, u0, b0, f0, a1, u1, b1, f1, a2, u2, b2, f2, fl1, fl2, fl3, fl4, fl5, fl6, a3]
    exact bad2 _ (by rintro ⟨ht, _⟩; simp only [towB] at ht; omega)
  have u3 : fw .i64 (1024 - (c.t0 + c.t1 + c.t2)) = 1024 - (c.t0 + c.t1 + c.t2) := fwI (by omega) (by omega)
  by_cases b3 : 1024 - (c.t0 + c.t1 + c.t2) < c.t3
  case pos =>
    simp only [go_sem, ↓reduceIte, ↓reduceDIte, zA, zM, zL, zE, zD, yA, yE, yL, yQ, yT, reduceCtorEq, c5_l14, g0, Int.zero_add, Int.sub_zero, a0, u0, b0, f0, a1, u1, b1, f1, a2, u2, b2, f2, fl1, fl2, fl3, fl4, fl5, fl6, a3, u3, b3]
    exact bad2 _ (by rintro ⟨ht, _⟩; simp only [towB] at ht; omega)
  have f3 : fw .i64 (c.t0 + c.t1 + c.t2 + c.t3) = c.t0 + c.t1 + c.t2 + c.t3 := fwI (by omega) (by omega)
  simp only [go_sem, ↓reduceIte, ↓reduceDIte, zA, zM, zL, zE, zD, yA, yE, yL, yQ, yT, reduceCtorEq, c5_l14, g0, Int.zero_add, Int.sub_zero, a0, u0, b0, f0, a1, u1, b1, f1, a2, u2, b2, f2, a3, u3, b3, f3, fl1, fl2, fl3, fl4, fl5, fl6]
  by_cases a4 : c.t4 < 0
  case pos =>
    simp only [go_sem, ↓reduceIte, ↓reduceDIte, zA, zM, zL, zE, zD, yA, yE, yL, yQ, yT, reduceCtorEq, c5_l14, g0, Int.zero_add, Int.sub_zero, a0, u0, b0, f0, a1, u1, b1, f1, a2, u2, b2, f2, a3, u3, b3, f3, fl1, fl2, fl3, fl4, fl5, fl6, a4]
    exact bad2 _ (by rintro ⟨ht, _⟩; simp only [towB] at ht; omega)
  have u4 : fw .i64 (1024 - (c.t0 + c.t1 + c.t2 + c.t3)) = 1024 - (c.t0 + c.t1 + c.t2 + c.t3) := fwI (by omega) (by omega)
  by_cases b4 : 1024 - (c.t0 + c.t1 + c.t2 + c.t3) < c.t4
  case pos =>
    simp only [go_sem, ↓reduceIte, ↓reduceDIte, zA, zM, zL, zE, zD, yA, yE, yL, yQ, yT, reduceCtorEq, c5_l14, g0, Int.zero_add, Int.sub_zero, a0, u0, b0, f0, a1, u1, b1, f1, a2, u2, b2, f2, a3, u3, b3, f3, fl1, fl2, fl3, fl4, fl5, fl6, a4, u4, b4]
    exact bad2 _ (by rintro ⟨ht, _⟩; simp only [towB] at ht; omega)
  have f4 : fw .i64 (c.t0 + c.t1 + c.t2 + c.t3 + c.t4) = c.t0 + c.t1 + c.t2 + c.t3 + c.t4 := fwI (by omega) (by omega)
  simp only [go_sem, ↓reduceIte, ↓reduceDIte, zA, zM, zL, zE, zD, yA, yE, yL, yQ, yT, reduceCtorEq, c5_l14, g0, Int.zero_add, Int.sub_zero, a0, u0, b0, f0, a1, u1, b1, f1, a2, u2, b2, f2, a3, u3, b3, f3, a4, u4, b4, f4, fl1, fl2, fl3, fl4, fl5, fl6]
  by_cases a5 : c.t5 < 0
  case pos =>
    simp only [go_sem, ↓reduceIte, ↓reduceDIte, zA, zM, zL, zE, zD, yA, yE, yL, yQ, yT, reduceCtorEq, c5_l14, g0, Int.zero_add, Int.sub_zero, a0, u0, b0, f0, a1, u1, b1, f1, a2, u2, b2, f2, a3, u3, b3, f3, a4, u4, b4, f4, fl1, fl2, fl3, fl4, fl5, fl6, a5]
    exact bad2 _ (by rintro ⟨ht, _⟩; simp only [towB] at ht; omega)
  have u5 : fw .i64 (1024 - (c.t0 + c.t1 + c.t2 + c.t3 + c.t4)) = 1024 - (c.t0 + c.t1 + c.t2 + c.t3 + c.t4) := fwI (by omega) (by omega)
  by_cases b5 : 1024 - (c.t0 + c.t1 + c.t2 + c.t3 + c.t4) < c.t5
  case pos =>
    simp only [go_sem, ↓reduceIte, ↓reduceDIte, zA, zM, zL, zE, zD, yA, yE, yL, yQ, yT, reduceCtorEq, c5_l14, g0, Int.zero_add, Int.sub_zero, a0, u0, b0, f0, a1, u1, b1, f1, a2, u2, b2, f2, a3, u3, b3, f3, a4, u4, b4, f4, fl1, fl2, fl3, fl4, fl5, fl6, a5, u5, b5]
    exact bad2 _ (by rintro ⟨ht, _⟩; simp only [towB] at ht; omega)
  have f5 : fw .i64 (c.t0 + c.t1 + c.t2 + c.t3 + c.t4 + c.t5) = c.t0 + c.t1 + c.t2 + c.t3 + c.t4 + c.t5 := fwI (by omega) (by omega)
  simp only [go_sem, ↓reduceIte, ↓reduceDIte, zA, zM, zL, zE, zD, yA, yE, yL, yQ, yT, reduceCtorEq, c5_l14, g0, Int.zero_add, Int.sub_zero, a0, u0, b0, f0, a1, u1, b1, f1, a2, u2, b2, f2, a3, u3, b3, f3, a4, u4, b4, f4, a5, u5, b5, f5, fl1, fl2, fl3, fl4, fl5, fl6]
  have ht : towB 1024 [c.t0, c.t1, c.t2, c.t3, c.t4, c.t5] := by simp only [towB, and_true]; omega
  by_cases l1 : c.locks < 1
  case pos =>
    simp only [go_sem, ↓reduceIte, ↓reduceDIte, zA, zM, zL, zE, zD, yA, yE, yL, yQ, yT, reduceCtorEq, g0, l1]
    exact bad2 _ (by rintro ⟨_, q1, q2, q3, q4, q5, q6, q7, q8, q9, q10, q11⟩; omega)
  by_cases l2 : 16 < c.locks
  case pos =>
    simp only [go_sem, ↓reduceIte, ↓reduceDIte, zA, zM, zL, zE, zD, yA, yE, yL, yQ, yT, reduceCtorEq, g0, l1, l2]
    exact bad2 _ (by rintro ⟨_, q1, q2, q3, q4, q5, q6, q7, q8, q9, q10, q11⟩; omega)
  by_cases l3 : c.tries < 1
  case pos =>
    simp only [go_sem, ↓reduceIte, ↓reduceDIte, zA, zM, zL, zE, zD, yA, yE, yL, yQ, yT, reduceCtorEq, g0, l1, l2, l3]
    exact bad2 _ (by rintro ⟨_, q1, q2, q3, q4, q5, q6, q7, q8, q9, q10, q11⟩; omega)
  by_cases l4 : 255 < c.tries
  case pos =>
    simp only [go_sem, ↓reduceIte, ↓reduceDIte, zA, zM, zL, zE, zD, yA, yE, yL, yQ, yT, reduceCtorEq, g0, l1, l2, l3, l4]
    exact bad2 _ (by rintro ⟨_, q1, q2, q3, q4, q5, q6, q7, q8, q9, q10, q11⟩; omega)
  by_cases l5 : c.batch < 0
  case pos =>
    simp only [go_sem, ↓reduceIte, ↓reduceDIte, zA, zM, zL, zE, zD, yA, yE, yL, yQ, yT, reduceCtorEq, g0, l1, l2, l3, l4, l5]
    exact bad2 _ (by rintro ⟨_, q1, q2, q3, q4, q5, q6, q7, q8, q9, q10, q11⟩; omega)
  by_cases l6 : 64 < c.batch
  case pos =>
    simp only [go_sem, ↓reduceIte, ↓reduceDIte, zA, zM, zL, zE, zD, yA, yE, yL, yQ, yT, reduceCtorEq, g0, l1, l2, l3, l4, l5, l6]
    exact bad2 _ (by rintro ⟨_, q1, q2, q3, q4, q5, q6, q7, q8, q9, q10, q11⟩; omega)
  simp only [go_sem, ↓reduceIte, ↓reduceDIte, zA, zM, zL, zE, zD, yA, yE, yL, yQ, yT, reduceCtorEq, g0, l1, l2, l3, l4, l5, l6]
  exact ⟨0, rfl, by simp only [true_iff]; exact ⟨ht, by omega, by omega, by omega, by omega, fun q => absurd q hg, fun _ => c7, dd, by omega, by omega, by omega, by omega⟩, stn⟩
theorem w5 (P : Program) [PT P] {call : CallE} (h19 : ∀ h k n v (l : List Int), RdL none 1 h v (l.map fun x : Int => AV.int .u64 x) → (∀ a, own v = some a → a < h.next) → (∀ x ∈ l, inU x) → ∃ v' h', call 19 [.agg [.int .u8 k, .int .i64 n, v]] h = some (v', h') ∧ SaysE (domB k n l) h v' h')
    {h : H} {c : CfgT} {v : AV} (hv : RdL none 1 h v (c.cuts.map fun x : Int => AV.int .u64 x)) (hlv : ∀ a, own v = some a → a < h.next) (hin : ∀ x ∈ c.cuts, inU x) : WF P call c5 [.agg (cfgC c v)] h (SaysE (layB c) h) := by
  by_cases hg : c.engine = 3
  · exact w5_1 P h19 hv hlv hin hg
  · exact w5_0 P h19 hv hlv hin hg
end
end Go.Proofs.YtldmhpdjlgoenaaGreatDoor.BN

namespace Go.Proofs.YtldmhpdjlgoenaaGreatDoor.BN
open Go.Proofs.YtldmhpdjlgoenaaGreatDoor.Eo
open Nat renaming reduceAdd → zA, reduceMul → zM, reduceLT → zL, reduceEqDiff → zE, reduceLeDiff → zD
open Int renaming reduceAdd → yA, reduceLE → yE, reduceLT → yL, reduceEq → yQ, reduceToNat → yT
noncomputable section
/-! 100: leapfrog/domain.count -/
@[go_sem] def c100_s0 : List SQ := [⟨some 1, none, .n (.box 24 (.t 0))⟩, ⟨some 2, none, .p (.mv (.c (.int .i64 0)))⟩]
@[go_sem] def c100_s1 : List SQ := [⟨some 3, none, .p (.fadr 0 (.t 1))⟩, ⟨some 4, none, .r (.ld none (.t 3))⟩]
@[go_sem] def c100_s2 : List SQ := [⟨some 6, none, .p (.bin .eql 5 false true (.t 4) (.c (.int .u8 2)))⟩, ⟨some 5, none, .p (.mv (.t 6))⟩]
@[go_sem] def c100_s3 : List SQ := [⟨some 7, none, .p (.fadr 1 (.t 1))⟩, ⟨some 8, none, .r (.ld none (.t 7))⟩, ⟨some 2, none, .p (.mv (.t 8))⟩]
@[go_sem] def c100_s4 : List SQ := [⟨some 10, none, .p (.bin .eql 5 false true (.t 4) (.c (.int .u8 3)))⟩, ⟨some 9, none, .p (.mv (.t 10))⟩]
@[go_sem] def c100_s5 : List SQ := [⟨some 11, none, .p (.fadr 2 (.t 1))⟩, ⟨some 12, none, .r (.ld none (.t 11))⟩, ⟨some 13, none, .p (.lenv (.t 12))⟩, ⟨some 14, none, .p (.bin .add 3 false true (.t 13) (.c (.int .i64 1)))⟩, ⟨some 2, none, .p (.mv (.t 14))⟩]
@[go_sem] def c100_s6 : List SQ := [⟨some 2, none, .p (.mv (.c (.int .i64 1)))⟩]
@[go_sem] def c100 : CF := ⟨1, (.seq (.ops c100_s0) (.seq (.seq (.ops c100_s1) (.block 0 (.seq (.ops c100_s2) (.cond (.t 5) (.seq (.ops c100_s3) .ret) (.seq (.ops c100_s4) (.cond (.t 9) (.seq (.ops c100_s5) .ret) .skip)))))) (.seq (.ops c100_s6) .ret))), [.tmp 2]⟩
/-! 60: leapfrog/domain.Values -/
@[go_sem] def c60_s0 : List SQ := [⟨some 1, none, .n (.box 24 (.t 0))⟩, ⟨some 2, none, .p (.mv (.c (.int .i64 0)))⟩, ⟨some 3, none, .p (.mv (.c (.int .i64 0)))⟩]
@[go_sem] def c60_s1 : List SQ := [⟨some 5, none, .r (.ld (some 3) (.t 1))⟩, ⟨some 6, none, .cv (.c (.fn (.func 99) [] [])) [(.t 5)]⟩, ⟨some 4, none, .p (.mv (.t 6))⟩]
@[go_sem] def c60_s2 : List SQ := [⟨some 7, none, .p (.mv (.t 4))⟩, ⟨some 8, none, .p (.bin .neq 34 false true (.t 7) (.c (.int .i64 0)))⟩]
@[go_sem] def c60_s3 : List SQ := [⟨some 9, none, .p (.mv (.t 4))⟩, ⟨some 2, none, .p (.mv (.c (.int .i64 0)))⟩, ⟨some 3, none, .p (.mv (.t 9))⟩]
@[go_sem] def c60_s4 : List SQ := [⟨some 10, none, .r (.ld (some 3) (.t 1))⟩, ⟨some 11, none, .cv (.c (.fn (.func 100) [] [])) [(.t 10)]⟩, ⟨some 2, none, .p (.mv (.t 11))⟩, ⟨some 3, none, .p (.mv (.c (.int .i64 0)))⟩]
@[go_sem] def c60 : CF := ⟨1, (.seq (.ops c60_s0) (.seq (.seq (.ops c60_s1) (.seq (.ops c60_s2) (.cond (.t 8) (.seq (.ops c60_s3) .ret) .skip))) (.seq (.ops c60_s4) .ret))), [.tmp 2, .tmp 3]⟩
/-! 62: leapfrog/layout.engine -/
@[go_sem] def c62_s0 : List SQ := [⟨some 1, none, .n (.box 27 (.t 0))⟩, ⟨some 2, none, .p (.mv (.c (.int .i64 0)))⟩]
@[go_sem] def c62_s1 : List SQ := [⟨some 4, none, .p (.fadr 1 (.t 1))⟩, ⟨some 5, none, .r (.ld none (.t 4))⟩, ⟨some 6, none, .p (.fadr 1 (.t 1))⟩, ⟨some 7, none, .r (.ld none (.t 6))⟩, ⟨some 8, none, .p (.bin .mul 3 true false (.c (.int .i64 2)) (.t 7))⟩, ⟨some 9, none, .p (.fadr 3 (.t 1))⟩, ⟨some 10, none, .r (.ld none (.t 9))⟩, ⟨some 11, none, .p (.bin .mul 3 true false (.c (.int .i64 4)) (.t 10))⟩, ⟨some 12, none, .p (.build [.int .i64 0, .int .i64 0, .int .i64 0, .int .i64 0] [(1, 1, (.t 5)), (2, 1, (.t 8)), (3, 1, (.t 11))])⟩, ⟨some 3, none, .n (.new 282 [.int .i64 0, .int .i64 0, .int .i64 0, .int .i64 0])⟩, ⟨none, none, .e (.st 4 (.t 3) (.t 12))⟩]
@[go_sem] def c62_s2 : List SQ := [⟨some 13, none, .p (.fadr 2 (.t 1))⟩, ⟨some 14, none, .r (.ld none (.t 13))⟩, ⟨some 15, none, .p (.iadrA 4 1 (.t 3) (.t 14))⟩, ⟨some 16, none, .r (.ld none (.t 15))⟩, ⟨some 2, none, .p (.mv (.t 16))⟩]
@[go_sem] def c62 : CF := ⟨1, (.seq (.ops c62_s0) (.seq (.ops c62_s1) (.seq (.ops c62_s2) .ret))), [.tmp 2]⟩
/-! 59: slices.Clone[[]uint64,uint64] -/
@[go_sem] def c59_s0 : List SQ := [⟨some 2, none, .p (.mv (.c .nils))⟩]
@[go_sem] def c59_s1 : List SQ := [⟨some 3, none, .p (.mv (.t 0))⟩, ⟨some 4, none, .p (.bin .eql 22 false true (.t 3) (.c .nils))⟩]
@[go_sem] def c59_s2 : List SQ := [⟨some 2, none, .p (.mv (.c .nils))⟩]
@[go_sem] def c59_s3 : List SQ := [⟨some 5, none, .n (.buildS 28 1 0 [] [])⟩, ⟨some 6, none, .p (.mv (.t 0))⟩, ⟨some 7, none, .e (.app 28 1 8 (.t 5) (.t 6))⟩, ⟨some 2, none, .p (.mv (.t 7))⟩]
@[go_sem] def c59 : CF := ⟨1, (.seq (.ops c59_s0) (.seq (.seq (.ops c59_s1) (.cond (.t 4) (.seq (.ops c59_s2) .ret) .skip)) (.seq (.ops c59_s3) .ret))), [.tmp 2]⟩
/-! 67: (*leapfrog/layout.Layout).Towers -/
@[go_sem] def c67_s0 : List SQ := [⟨some 2, none, .p (.mv (.c (.int .i64 0)))⟩]
@[go_sem] def c67_s1 : List SQ := [⟨some 3, none, .p (.mv (.t 0))⟩, ⟨some 4, none, .p (.bin .eql 64 false true (.t 3) (.c .nilp))⟩]
@[go_sem] def c67_s2 : List SQ := [⟨some 2, none, .p (.mv (.c (.int .i64 0)))⟩]
@[go_sem] def c67_s3 : List SQ := [⟨some 5, none, .p (.mv (.t 0))⟩, ⟨some 6, none, .p (.nilck (.t 5))⟩, ⟨some 7, none, .p (.fadr 27 (.t 6))⟩, ⟨some 8, none, .r (.ld none (.t 7))⟩, ⟨some 9, none, .p (.lenv (.t 8))⟩, ⟨some 2, none, .p (.mv (.t 9))⟩]
@[go_sem] def c67 : CF := ⟨1, (.seq (.ops c67_s0) (.seq (.seq (.ops c67_s1) (.cond (.t 4) (.seq (.ops c67_s2) .ret) .skip)) (.seq (.ops c67_s3) .ret))), [.tmp 2]⟩
/-! 84: (*leapfrog/layout.Layout).Config -/
@[go_sem] def c84_s0 : List SQ := [⟨some 2, none, .n (.new 27 [.int .i64 0, .int .i64 0, .int .u8 0, .int .i64 0, .int .u8 0, .int .i64 0, .nils, .int .i64 0, .int .i64 0, .int .i64 0, .int .i64 0, .int .i64 0, .int .i64 0, .int .i64 0, .int .i64 0, .int .i64 0])⟩]
@[go_sem] def c84_s1 : List SQ := [⟨some 4, none, .p (.mv (.t 0))⟩, ⟨some 5, none, .p (.bin .eql 64 false true (.t 4) (.c .nilp))⟩]
@[go_sem] def c84_s2 : List SQ := [⟨some 6, none, .p (.build [.int .i64 0, .int .i64 0, .int .u8 0, .int .i64 0, .int .u8 0, .int .i64 0, .nils, .int .i64 0, .int .i64 0, .int .i64 0, .int .i64 0, .int .i64 0, .int .i64 0, .int .i64 0, .int .i64 0, .int .i64 0] [])⟩, ⟨none, none, .e (.st 16 (.t 2) (.t 6))⟩]
@[go_sem] def c84_s3 : List SQ := [⟨some 7, none, .p (.mv (.t 0))⟩, ⟨some 8, none, .p (.nilck (.t 7))⟩, ⟨some 9, none, .p (.fadr 0 (.t 8))⟩, ⟨some 10, none, .r (.ld (some 16) (.t 9))⟩, ⟨some 3, none, .n (.new 27 [.int .i64 0, .int .i64 0, .int .u8 0, .int .i64 0, .int .u8 0, .int .i64 0, .nils, .int .i64 0, .int .i64 0, .int .i64 0, .int .i64 0, .int .i64 0, .int .i64 0, .int .i64 0, .int .i64 0, .int .i64 0])⟩, ⟨none, none, .e (.st 16 (.t 3) (.t 10))⟩]
@[go_sem] def c84_s4 : List SQ := [⟨some 11, none, .p (.fadr 4 (.t 3))⟩, ⟨some 12, none, .p (.fadr 2 (.t 11))⟩, ⟨some 13, none, .r (.ld none (.t 12))⟩, ⟨some 14, none, .cv (.c (.fn (.func 59) [] [])) [(.t 13)]⟩, ⟨some 15, none, .p (.fadr 4 (.t 3))⟩, ⟨some 16, none, .p (.fadr 2 (.t 15))⟩, ⟨none, none, .e (.st 1 (.t 16) (.t 14))⟩]
@[go_sem] def c84_s5 : List SQ := [⟨some 17, none, .r (.ld (some 16) (.t 3))⟩, ⟨none, none, .e (.st 16 (.t 2) (.t 17))⟩]
@[go_sem] def c84 : CF := ⟨1, (.seq (.ops c84_s0) (.seq (.seq (.ops c84_s1) (.cond (.t 5) (.seq (.ops c84_s2) .ret) .skip)) (.seq (.ops c84_s3) (.seq (.ops c84_s4) (.seq (.ops c84_s5) .ret))))), [(.cell 2 (some 16))]⟩
/-! 65: leapfrog/field.Top -/
@[go_sem] def c65_s0 : List SQ := [⟨some 4, none, .p (.mv (.c (.int .u64 0)))⟩, ⟨some 5, none, .p (.mv (.c (.int .i64 0)))⟩]
@[go_sem] def c65_s1 : List SQ := [⟨some 6, none, .p (.mv (.t 0))⟩, ⟨some 7, none, .p (.bin .gtr 28 false true (.t 6) (.c (.int .u64 1099511627775)))⟩, ⟨some 8, none, .p (.mv (.t 7))⟩, ⟨some 9, some (8, false), .p (.mv (.t 1))⟩, ⟨some 10, some (8, false), .p (.bin .lss 3 false true (.t 9) (.c (.int .i64 0)))⟩, ⟨some 11, none, .p (.pick (.t 8) (.c (.bool true)) (.t 10))⟩, ⟨some 12, none, .p (.mv (.t 11))⟩, ⟨some 13, some (12, false), .p (.mv (.t 1))⟩, ⟨some 14, some (12, false), .p (.bin .gtr 3 false true (.t 13) (.c (.int .i64 1024)))⟩, ⟨some 15, none, .p (.pick (.t 12) (.c (.bool true)) (.t 14))⟩]
@[go_sem] def c65_s2 : List SQ := [⟨some 4, none, .p (.mv (.c (.int .u64 0)))⟩, ⟨some 5, none, .p (.mv (.c (.int .i64 2)))⟩]
@[go_sem] def c65_s3 : List SQ := [⟨some 16, none, .p (.mv (.t 1))⟩, ⟨some 17, none, .p (.conv .u64 (.t 16))⟩, ⟨some 18, none, .p (.mv (.t 0))⟩, ⟨some 19, none, .p (.bin .mul 28 true false (.c (.int .u64 65536)) (.t 18))⟩, ⟨some 20, none, .p (.bin .add 28 false false (.t 17) (.t 19))⟩, ⟨some 4, none, .p (.mv (.t 20))⟩, ⟨some 5, none, .p (.mv (.c (.int .i64 0)))⟩]
@[go_sem] def c65 : CF := ⟨2, (.seq (.ops c65_s0) (.seq (.seq (.ops c65_s1) (.cond (.t 15) (.seq (.ops c65_s2) .ret) .skip)) (.seq (.ops c65_s3) .ret))), [.tmp 4, .tmp 5]⟩

theorem getList_of (c : T AV) : ∀ (l : List AV) (o : Nat), (∀ i x, l[i]? = some x → c.get (o + i) = some x) → getList c o l.length = some l
  | [], o, _ => by rw [List.length_nil, getList_zero]
  | x :: l, o, h => by
    have h0 := h 0 x rfl
    rw [Nat.add_zero] at h0
    have ih := getList_of c l (o + 1) fun i y hi => by
      have := h (i + 1) y hi
      rwa [show o + 1 + i = o + (i + 1) by omega]
    rw [List.length_cons, getList_succ, h0]
    simp only [ih]
theorem RdL.src1 {h : H} {v : AV} {xs : List AV} (r : RdL none 1 h v xs) : srcA h.t.get 1 v = some (xs.length, xs) := by
  rcases r with ⟨rfl, rfl⟩ | ⟨a, o, cap, rfl, _, ra⟩
  · rfl
  · cases xs with
    | nil => rfl
    | cons x xs =>
      have key : ∀ cells : T AV, (∀ i y, (x :: xs)[i]? = some y → cells.get (o + i) = some y) → getList cells o ((x :: xs).length * 1) = some (x :: xs) := fun cells hc => by
        rw [Nat.mul_one]
        exact getList_of cells _ o hc
      have h0 := ra 0 x rfl
      have e1 : Nat.beq 1 1 = true := rfl
      have e2 : (x :: xs).length = xs.length + 1 := rfl
      cases hg : h.t.get a with
      | none => unfold ldA at h0; rw [hg] at h0; cases h0
      | some ob =>
        cases ob with
        | row cells len e =>
          have hc : ∀ i y, (x :: xs)[i]? = some y → cells.get (o + i) = some y := fun i y hi => by
            have := ra i y hi
            rw [rLdA, hg, Nat.mul_one] at this
            exact this
          have hk := key cells hc
          unfold srcA
          rw [e2] at hk ⊢
          simp only [e1, cond_true, hg, hk]
        | tab cells =>
          have hc : ∀ i y, (x :: xs)[i]? = some y → cells.get (o + i) = some y := fun i y hi => by
            have := ra i y hi
            rw [rLdA, hg, Nat.mul_one] at this
            exact this
          have hk := key cells hc
          unfold srcA
          rw [e2] at hk ⊢
          simp only [e1, cond_true, hg, hk]
        | _ => unfold ldA at h0; rw [hg] at h0; cases h0

def uL (l : List Int) : List AV := l.map fun x : Int => AV.int .u64 x
def iL (l : List Int) : List AV := l.map fun x : Int => AV.int .i64 x
/-- the number of values of a domain -/
def valN (k n : Int) (l : List Int) : Int := if k = 2 then n else if k = 3 then (l.length : Int) + 1 else 1
theorem w100 (P : Program) {call : CallE} {h : H} {k n : Int} {v : AV} {l : List Int} (hv : RdL none 1 h v (uL l)) :
    WF P call c100 [.agg [.int .u8 k, .int .i64 n, v]] h fun v' h' => v' = .int .i64 (valN k n l) ∧ StepN h h' := by
  have ov := hv.one
  have hvl := hv.lenA
  have hle := hv.le
  unfold uL at hvl hle
  rw [List.length_map] at hvl hle
  have f1 : fw .i64 ((l.length : Int) + 1) = (l.length : Int) + 1 := fwI (by omega) (by omega)
  by_cases k2 : k = 2
  · subst k2
    simp only [go_sem, ↓reduceIte, ↓reduceDIte, zA, zM, zL, zE, zD, yA, yE, yL, yQ, yT, reduceCtorEq, c100, ov, valN]
    exact StepN.new h _
  by_cases k3 : k = 3
  · subst k3
    simp only [go_sem, ↓reduceIte, ↓reduceDIte, zA, zM, zL, zE, zD, yA, yE, yL, yQ, yT, reduceCtorEq, c100, ov, hvl, f1, valN]
    exact StepN.new h _
  simp only [go_sem, ↓reduceIte, ↓reduceDIte, zA, zM, zL, zE, zD, yA, yE, yL, yQ, yT, reduceCtorEq, c100, ov, k2, k3, valN]
  exact StepN.new h _
theorem w60 (P : Program) {call : CallE} (h99 : ∀ h k n v (l : List Int), RdL none 1 h v (uL l) → (∀ a, own v = some a → a < h.next) → ∃ v' h', call 99 [.agg [.int .u8 k, .int .i64 n, v]] h = some (v', h') ∧ SaysE (domB k n l) h v' h')
    (h100 : ∀ h k n v (l : List Int), RdL none 1 h v (uL l) → ∃ v' h', call 100 [.agg [.int .u8 k, .int .i64 n, v]] h = some (v', h') ∧ v' = .int .i64 (valN k n l) ∧ StepN h h')
    {h : H} {k n : Int} {v : AV} {l : List Int} (hd : domB k n l) (hv : RdL none 1 h v (uL l)) (hlv : ∀ a, own v = some a → a < h.next) :
    WF P call c60 [.agg [.int .u8 k, .int .i64 n, v]] h fun v' h' => v' = .tup [.int .i64 (valN k n l), .int .i64 0] ∧ StepN h h' := by
  have ov := hv.one
  have st0 := StepN.new h (.row (putList 0 [.int .u8 k, .int .i64 n, v] T.e) 3 24)
  have hv1 := hv.keep fun b hb => st0.old b (hlv b hb)
  simp only [go_sem, ↓reduceIte, ↓reduceDIte, zA, zM, zL, zE, zD, yA, yE, yL, yQ, yT, reduceCtorEq, c60, ov]
  refine opt_by (h99 _ k n v l hv1 fun a ha => Nat.lt_succ_of_lt (hlv a ha)) fun v1 h1 p1 => ?_
  obtain ⟨e, rfl, he, st1⟩ := p1
  obtain rfl := he.2 hd
  have g1 := st1.old h.next (Nat.lt_succ_self _)
  simp only [go_sem, ↓reduceIte, ↓reduceDIte, zA, zM, zL, zE, zD, yA, yE, yL, yQ, yT, reduceCtorEq] at g1
  simp only [go_sem, ↓reduceIte, ↓reduceDIte, zA, zM, zL, zE, zD, yA, yE, yL, yQ, yT, reduceCtorEq, g1]
  have st01 := st0.trans st1
  refine opt_by (h100 _ k n v l (hv.keep fun b hb => st01.old b (hlv b hb))) fun v2 h2 p2 => ?_
  obtain ⟨rfl, st2⟩ := p2
  simp only [go_sem, ↓reduceIte, ↓reduceDIte, zA, zM, zL, zE, zD, yA, yE, yL, yQ, yT, reduceCtorEq]
  exact st01.trans st2
/-- the number of words of an engine -/
def engN (c : CfgT) : Int := if c.engine = 1 then c.slots else if c.engine = 2 then 2 * c.slots else 4 * c.buckets
theorem engOK {c : CfgT} (h : layB c) : 1 ≤ engN c ∧ engN c ≤ 128 := by
  obtain ⟨_, _, h2, h3, h4, h5, h6, _⟩ := h
  unfold engN
  by_cases e1 : c.engine = 1
  · rw [if_pos e1]; omega
  by_cases e2 : c.engine = 2
  · rw [if_neg e1, if_pos e2]; omega
  have := h5 (by omega)
  rw [if_neg e1, if_neg e2]; omega
theorem w62 (P : Program) {call : CallE} {h : H} {c : CfgT} {v : AV} (hc : layB c) (hv : oneA v = true) :
    WF P call c62 [.agg (cfgC c v)] h fun v' h' => v' = .int .i64 (engN c) ∧ StepN h h' := by
  obtain ⟨_, _, h2, h3, h4, h5, h6, _⟩ := hc
  have st : ∀ x y, StepN h ⟨h.next + 2, ((h.t.set h.next x).set (h.next + 1) y)⟩ := fun x y => ⟨Nat.le_add_right _ _, fun b hb => by
    have e1 : ¬ b = h.next := by omega
    have e2 : ¬ b = h.next + 1 := by omega
    simp only [go_sem, ↓reduceIte, ↓reduceDIte, zA, zM, zL, zE, zD, yA, yE, yL, yQ, yT, reduceCtorEq, e1, e2]⟩
  have f1 : fw .i64 (2 * c.slots) = 2 * c.slots := fwI (by omega) (by omega)
  have hb : 0 ≤ c.buckets ∧ c.buckets ≤ 16 := by
    by_cases e : c.engine = 3
    · have := h5 e; omega
    · have := h6 e; omega
  have f2 : fw .i64 (4 * c.buckets) = 4 * c.buckets := fwI (by omega) (by omega)
  have m1 : ¬ h.next + 1 = h.next := by omega
  have m2 : ¬ h.next = h.next + 1 := by omega
  by_cases e1 : c.engine = 1
  · simp only [go_sem, ↓reduceIte, ↓reduceDIte, zA, zM, zL, zE, zD, yA, yE, yL, yQ, yT, reduceCtorEq, c62, hv, cfgC, f1, f2, m1, m2, e1, engN]
    exact st _ _
  by_cases e2 : c.engine = 2
  · simp only [go_sem, ↓reduceIte, ↓reduceDIte, zA, zM, zL, zE, zD, yA, yE, yL, yQ, yT, reduceCtorEq, c62, hv, cfgC, f1, f2, m1, m2, e2, engN]
    exact st _ _
  have e3 : c.engine = 3 := by omega
  simp only [go_sem, ↓reduceIte, ↓reduceDIte, zA, zM, zL, zE, zD, yA, yE, yL, yQ, yT, reduceCtorEq, c62, hv, cfgC, f1, f2, m1, m2, e3, engN]
  exact st _ _
theorem appA_emp {e : TypeId} {es bytes n a bl : Nat} {cells : T AV} {h : H} {src : List AV} (hg : h.t.get a = some (.row cells bl e)) (hn : 0 < n) (hb : (2 * n + 192) * bytes ≤ 281474976710656) (hle : n ≤ 281474976710656) :
    appA h e es bytes (.sl a 0 0 es (some 0)) n src = some (appV h es n, appT h e .nils src) := by
  obtain ⟨m, rfl⟩ : ∃ m, n = m + 1 := ⟨n - 1, by omega⟩
  have b1 : Nat.ble ((2 * (m + 1) + 192) * bytes) 281474976710656 = true := Nat.ble_eq_true_of_le hb
  have b2 : Nat.ble (m + 1) 281474976710656 = true := Nat.ble_eq_true_of_le hle
  have c1 : Nat.beq es es = true := by simp
  have c2 : Nat.beq e e = true := by simp
  have c3 : Nat.ble (0 + (m + 1)) 0 = false := by rw [ble_eq, decide_eq_false_iff_not]; omega
  unfold appA
  simp only [c1, cond_true, hg, c2, c3, cond_false, Nat.zero_mul, getList_zero, appNew, Nat.zero_add, b1, b2, Bool.and_self]
  rfl
theorem appA_sl0 {e : TypeId} {es bytes a o l es' : Nat} {c : Option Nat} {h : H} : appA h e es bytes (.sl a o l es' c) 0 [] = some (.sl a o l es' c, h) := rfl
/-- a copy -/
structure CopyU (l : List Int) (h : H) (v : AV) (h' : H) : Prop where
  rd : RdL none 1 h' v (uL l)
  lo : ∀ a, own v = some a → h.next ≤ a ∧ a < h'.next
  st : StepN h h'
theorem w59 (P : Program) [PT P] {call : CallE} {h : H} {v : AV} {l : List Int} (hv : RdL none 1 h v (uL l)) (hlv : ∀ a, own v = some a → a < h.next) (hl : l.length ≤ 1000) :
    WF P call c59 [v] h (CopyU l h) := by
  rcases id hv with ⟨rfl, h0⟩ | ⟨a, o, cap, rfl, h1, h2⟩
  · simp only [go_sem, ↓reduceIte, ↓reduceDIte, zA, zM, zL, zE, zD, yA, yE, yL, yQ, yT, reduceCtorEq, c59, snil0]
    exact ⟨.inl ⟨rfl, h0⟩, fun a ha => (by cases ha), StepN.refl h⟩
  · have st0 := StepN.new h (.row (putList 0 [] T.e) 0 28)
    have hs := (hv.keep fun b hb => st0.old b (hlv b hb)).src1
    have hlen : (uL l).length = l.length := List.length_map _
    simp only [go_sem, ↓reduceIte, ↓reduceDIte, zA, zM, zL, zE, zD, yA, yE, yL, yQ, yT, reduceCtorEq] at hs
    simp only [go_sem, ↓reduceIte, ↓reduceDIte, zA, zM, zL, zE, zD, yA, yE, yL, yQ, yT, reduceCtorEq, c59, snil, hs]
    by_cases hz : l.length = 0
    · have : l = [] := List.eq_nil_of_length_eq_zero hz
      subst this
      refine opt_some appA_sl0 ?_
      simp only [go_sem, ↓reduceIte, ↓reduceDIte, zA, zM, zL, zE, zD, yA, yE, yL, yQ, yT, reduceCtorEq]
      exact ⟨.inr ⟨_, _, _, rfl, by decide, fun i x hx => (by cases hx)⟩, fun a ha => (by cases ha; exact ⟨Nat.le_refl _, Nat.lt_succ_self _⟩), st0⟩
    · refine opt_some (appA_emp (by simp only [go_sem, ↓reduceIte, ↓reduceDIte, zA, zM, zL, zE, zD, yA, yE, yL, yQ, yT, reduceCtorEq]; rfl) (by omega) (by omega) (by omega)) ?_
      simp only [go_sem, ↓reduceIte, ↓reduceDIte, zA, zM, zL, zE, zD, yA, yE, yL, yQ, yT, reduceCtorEq]
      refine ⟨.inr ⟨h.next + 1, 0, none, rfl, by omega, fun i x hx => ?_⟩, fun a ha => ?_, ⟨by show h.next ≤ h.next + 1 + 1; omega, fun b hb => ?_⟩⟩
      · rw [rLdA, Nat.mul_one, Nat.zero_add]
        unfold appT
        simp only [go_sem, ↓reduceIte, ↓reduceDIte, zA, zM, zL, zE, zD, yA, yE, yL, yQ, yT, reduceCtorEq]
        exact hx
      · cases ha
        exact ⟨by show h.next ≤ h.next + 1; omega, by show h.next + 1 < h.next + 1 + 1; omega⟩
      · have e1 : ¬ b = h.next := by omega
        have e2 : ¬ b = h.next + 1 := by omega
        unfold appT
        simp only [go_sem, ↓reduceIte, ↓reduceDIte, zA, zM, zL, zE, zD, yA, yE, yL, yQ, yT, reduceCtorEq, e1, e2]
/-- the places of a layout -/
structure PlT where
  ow : Int
  en : Int
  ma : Int
  lo : Int
  de : Int
  po : Int
  li : Int
  he : Int
  tw : Int
  wo : Int
def plC (p : PlT) : List AV := [.int .i64 p.ow, .int .i64 p.en, .int .i64 p.ma, .int .i64 p.lo, .int .i64 p.de, .int .i64 p.po, .int .i64 p.li, .int .i64 p.he, .int .i64 p.tw, .int .i64 p.wo]
/-- a layout lies there -/
structure LayH (h : H) (L : Nat) (c : CfgT) (p : PlT) (hs : List Int) : Prop where
  ex : ∃ cv gv hv tv val, h.t.get L = some (rowL (cfgC c cv ++ (plC p ++ [gv, hv, tv, .int .i64 val])) 167) ∧ RdL none 1 h cv (uL c.cuts) ∧ (∀ a, own cv = some a → a < h.next) ∧ RdL none 1 h hv (iL hs) ∧ (∀ a, own hv = some a → a < h.next) ∧ oneA gv = true ∧ oneA tv = true
  lt : L < h.next
theorem LayH.step {h h' : H} {L : Nat} {c : CfgT} {p : PlT} {hs : List Int} (l : LayH h L c p hs) (s : StepN h h') : LayH h' L c p hs := by
  obtain ⟨cv, gv, hv, tv, val, g, r1, r2, r3, r4, o1, o2⟩ := l.ex
  exact ⟨⟨cv, gv, hv, tv, val, (s.old L l.lt).trans g, r1.keep fun b hb => s.old b (r2 b hb), fun a ha => Nat.lt_of_lt_of_le (r2 a ha) s.next, r3.keep fun b hb => s.old b (r4 b hb), fun a ha => Nat.lt_of_lt_of_le (r4 a ha) s.next, o1, o2⟩, Nat.lt_of_lt_of_le l.lt s.next⟩
theorem w67 (P : Program) [PT P] {call : CallE} {h : H} {L : Nat} {c : CfgT} {p : PlT} {hs : List Int} (hL : LayH h L c p hs) : WF P call c67 [.ptr L 0] h fun v h' => v = .int .i64 (hs.length : Int) ∧ h' = h := by
  obtain ⟨cv, gv, hv, tv, val, g, r1, r2, r3, r4, o1, o2⟩ := hL.ex
  have hl := r3.lenA
  unfold iL at hl
  rw [List.length_map] at hl
  simp only [go_sem, ↓reduceIte, ↓reduceDIte, zA, zM, zL, zE, zD, yA, yE, yL, yQ, yT, reduceCtorEq, c67, g, cfgC, plC, hl]
theorem w84 (P : Program) [PT P] {call : CallE} (h59 : ∀ h v (l : List Int), RdL none 1 h v (uL l) → (∀ a, own v = some a → a < h.next) → l.length ≤ 1000 → ∃ v' h', call 59 [v] h = some (v', h') ∧ CopyU l h v' h')
    {h : H} {L : Nat} {c : CfgT} {p : PlT} {hs : List Int} (hL : LayH h L c p hs) (hl : c.cuts.length ≤ 1000) : WF P call c84 [.ptr L 0] h fun v h' => (∃ cv, v = .agg (cfgC c cv) ∧ oneA cv = true) ∧ StepN h h' := by
  obtain ⟨cv, gv, hv, tv, val, g, r1, r2, r3, r4, o1, o2⟩ := hL.ex
  have hlt := hL.lt
  have ov := r1.one
  have x1 : ¬ L = h.next := by omega
  have m1 : ¬ h.next + 1 = h.next := by omega
  have m2 : ¬ h.next = h.next + 1 := by omega
  simp only [go_sem, ↓reduceIte, ↓reduceDIte, zA, zM, zL, zE, zD, yA, yE, yL, yQ, yT, reduceCtorEq, c84, g, cfgC, plC, x1, m1, m2, ov]
  have st0 : ∀ x y, StepN h ⟨h.next + 2, ((h.t.set h.next x).set (h.next + 1) y)⟩ := fun x y => ⟨Nat.le_add_right _ _, fun b hb => by
    have e1 : ¬ b = h.next := by omega
    have e2 : ¬ b = h.next + 1 := by omega
    simp only [go_sem, ↓reduceIte, ↓reduceDIte, zA, zM, zL, zE, zD, yA, yE, yL, yQ, yT, reduceCtorEq, e1, e2]⟩
  refine opt_by (h59 _ cv c.cuts (r1.keep fun b hb => (st0 _ _).old b (r2 b hb)) (fun a ha => by have := r2 a ha; show a < h.next + 2; omega) hl) fun v1 h1 p1 => ?_
  have ov1 := p1.rd.one
  have g0 := p1.st.old h.next (by show h.next < h.next + 2; omega)
  have g1 := p1.st.old (h.next + 1) (by show h.next + 1 < h.next + 2; omega)
  have nx := p1.st.next
  simp only [go_sem, ↓reduceIte, ↓reduceDIte, zA, zM, zL, zE, zD, yA, yE, yL, yQ, yT, reduceCtorEq, m1, m2] at g0 g1 nx
  simp only [go_sem, ↓reduceIte, ↓reduceDIte, zA, zM, zL, zE, zD, yA, yE, yL, yQ, yT, reduceCtorEq, g0, g1, m1, m2, ov1]
  refine ⟨⟨v1, rfl, ov1⟩, ⟨by show h.next ≤ h1.next; omega, fun b hb => ?_⟩⟩
  have e1 : ¬ b = h.next := by omega
  have e2 : ¬ b = h.next + 1 := by omega
  have g2 := p1.st.old b (by show b < h.next + 2; omega)
  simp only [go_sem, ↓reduceIte, ↓reduceDIte, zA, zM, zL, zE, zD, yA, yE, yL, yQ, yT, reduceCtorEq, e1, e2] at g2
  simp only [go_sem, ↓reduceIte, ↓reduceDIte, zA, zM, zL, zE, zD, yA, yE, yL, yQ, yT, reduceCtorEq, e1, e2, g2]
theorem w65 (P : Program) {call : CallE} {h : H} {t : Int} (h0 : 0 ≤ t) (h1 : t ≤ 1024) : WF P call c65 [.int .u64 0, .int .i64 t] h fun v h' => v = .tup [.int .u64 t, .int .i64 0] ∧ h' = h := by
  have e1 : ¬ t < 0 := by omega
  have e2 : ¬ 1024 < t := by omega
  have f1 : fw .u64 t = t := fwU (by omega) (by omega)
  have f2 : fw .u64 (65536 * 0) = 0 := rfl
  simp only [go_sem, ↓reduceIte, ↓reduceDIte, zA, zM, zL, zE, zD, yA, yE, yL, yQ, yT, reduceCtorEq, c65, e1, e2, f2, Int.add_zero, f1]
end
end Go.Proofs.YtldmhpdjlgoenaaGreatDoor.BN
