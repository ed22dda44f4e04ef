/-
  The memory of a new store with its parts.
  What a store shows; a session is opened.
-/
import Derived.Test.YtldmhpdjlgoenaaGreatDoorBw4
set_option linter.unusedVariables false
set_option linter.unusedSimpArgs false
namespace Go.Proofs.YtldmhpdjlgoenaaGreatDoor.BN
open Go.Proofs.YtldmhpdjlgoenaaGreatDoor.Eo
open Nat renaming reduceAdd → zA, reduceMul → zM, reduceLT → zL, reduceEqDiff → zE, reduceLeDiff → zD
open Int renaming reduceAdd → yA, reduceLE → yE, reduceLT → yL, reduceEq → yQ, reduceToNat → yT
noncomputable section
/-! 23: leapfrog/pool.New -/
@[go_sem] def c23_s0 : List SQ := [⟨some 4, none, .p (.mv (.c .nilp))⟩, ⟨some 5, none, .p (.mv (.c (.int .i64 0)))⟩]
@[go_sem] def c23_s1 : List SQ := [⟨some 11, none, .p (.mv (.t 0))⟩, ⟨some 12, none, .p (.bin .eql 67 false true (.t 11) (.c .nilp))⟩, ⟨some 13, none, .p (.mv (.t 12))⟩, ⟨some 14, some (13, false), .p (.mv (.t 1))⟩, ⟨some 15, some (13, false), .p (.bin .eql 64 false true (.t 14) (.c .nilp))⟩, ⟨some 16, none, .p (.pick (.t 13) (.c (.bool true)) (.t 15))⟩]
@[go_sem] def c23_s2 : List SQ := [⟨some 4, none, .p (.mv (.c .nilp))⟩, ⟨some 5, none, .p (.mv (.c (.int .i64 1)))⟩]
@[go_sem] def c23_s3 : List SQ := [⟨some 17, none, .p (.mv (.t 1))⟩, ⟨some 18, none, .cv (.c (.fn (.func 26) [] [])) [(.t 17)]⟩, ⟨some 6, none, .n (.new 89 [.int .i64 0, .int .i64 0, .int .i64 0, .int .i64 0, .int .i64 0, .int .i64 0, .int .i64 0, .int .i64 0, .int .i64 0, .int .i64 0])⟩, ⟨none, none, .e (.st 10 (.t 6) (.t 18))⟩]
@[go_sem] def c23_s4 : List SQ := [⟨some 20, none, .p (.mv (.t 0))⟩, ⟨some 21, none, .p (.fadr 9 (.t 6))⟩, ⟨some 22, none, .r (.ld none (.t 21))⟩, ⟨some 23, none, .p (.bin .sub 3 false true (.t 22) (.c (.int .i64 1)))⟩, ⟨some 24, none, .cv (.c (.fn (.func 66) [] [])) [(.t 20), (.t 23)]⟩, ⟨some 19, none, .p (.mv (.t 24))⟩, ⟨some 25, none, .p (.extr (.t 19) 0)⟩, ⟨some 26, none, .p (.extr (.t 19) 1)⟩, ⟨some 7, none, .p (.mv (.t 25))⟩, ⟨some 8, none, .p (.mv (.t 26))⟩]
@[go_sem] def c23_s5 : List SQ := [⟨some 27, none, .p (.mv (.t 8))⟩, ⟨some 28, none, .p (.un .not (.t 27))⟩]
@[go_sem] def c23_s6 : List SQ := [⟨some 4, none, .p (.mv (.c .nilp))⟩, ⟨some 5, none, .p (.mv (.c (.int .i64 2)))⟩]
@[go_sem] def c23_s7 : List SQ := [⟨some 30, none, .p (.mv (.t 0))⟩, ⟨some 31, none, .p (.fadr 9 (.t 6))⟩, ⟨some 32, none, .r (.ld none (.t 31))⟩, ⟨some 33, none, .cv (.c (.fn (.func 66) [] [])) [(.t 30), (.t 32)]⟩, ⟨some 29, none, .p (.mv (.t 33))⟩, ⟨some 34, none, .p (.extr (.t 29) 0)⟩, ⟨some 35, none, .p (.extr (.t 29) 1)⟩, ⟨some 9, none, .p (.mv (.t 34))⟩, ⟨some 10, none, .p (.mv (.t 35))⟩]
@[go_sem] def c23_s8 : List SQ := [⟨some 36, none, .p (.mv (.t 10))⟩]
@[go_sem] def c23_s9 : List SQ := [⟨some 4, none, .p (.mv (.c .nilp))⟩, ⟨some 5, none, .p (.mv (.c (.int .i64 2)))⟩]
@[go_sem] def c23_p10 : List (List DQ × Option DQ) := [([⟨0, [(0, none)], none, .p (.mv (.t 0))⟩, ⟨1, [(1, none)], none, .p (.mv (.t 1))⟩, ⟨2, [(6, none)], none, .p (.fadr 5 (.t 6))⟩, ⟨3, [(39, (some 2))], none, .r (.ld none (.t 39))⟩, ⟨4, [(6, none)], none, .p (.fadr 6 (.t 6))⟩, ⟨5, [(41, (some 4))], none, .r (.ld none (.t 41))⟩, ⟨6, [], none, .n .mkmap⟩, ⟨7, [(1, none)], none, .p (.mv (.t 1))⟩], (some ⟨8, [(44, (some 7))], none, .cv (.c (.fn (.func 67) [] [])) [(.t 44)]⟩)), ([⟨9, [(45, (some 8)), (45, (some 8))], none, .n (.mksl 3 1 8 [.int .i64 0] (.t 45) (.t 45))⟩, ⟨10, [(37, (some 0)), (38, (some 1)), (40, (some 3)), (42, (some 5)), (43, (some 6)), (46, (some 9))], none, .p (.build [.nilp, .nilp, .int .i64 0, .int .i64 0, .nilm, .nils] [(0, 1, (.t 37)), (1, 1, (.t 38)), (2, 1, (.t 40)), (3, 1, (.t 42)), (4, 1, (.t 43)), (5, 1, (.t 46))])⟩, ⟨11, [(47, (some 10))], none, .n (.box 191 (.t 47))⟩, ⟨12, [(48, (some 11))], none, .p (.mv (.t 48))⟩, ⟨13, [], none, .p (.mv (.c (.int .i64 0)))⟩], none)]
@[go_sem] def c23 : CF := ⟨2, (.seq (.ops c23_s0) (.seq (.seq (.ops c23_s1) (.cond (.t 16) (.seq (.ops c23_s2) .ret) .skip)) (.seq (.ops c23_s3) (.seq (.seq (.ops c23_s4) (.seq (.ops c23_s5) (.cond (.t 28) (.seq (.ops c23_s6) .ret) .skip))) (.seq (.seq (.ops c23_s7) (.seq (.ops c23_s8) (.cond (.t 36) (.seq (.ops c23_s9) .ret) .skip))) (.seq (.drw ⟨c23_p10, [(0, 37), (1, 38), (2, 39), (3, 40), (4, 41), (5, 42), (6, 43), (7, 44), (8, 45), (9, 46), (10, 47), (11, 48), (12, 4), (13, 5)], [(⟨3, [(39, (some 2))], none, .r (.ld none (.t 39))⟩, [0, 1]), (⟨5, [(41, (some 4))], none, .r (.ld none (.t 41))⟩, [0, 1])]⟩) .ret)))))), [.tmp 4, .tmp 5]⟩
/-! 24: leapfrog/tower.New -/
@[go_sem] def c24_s0 : List SQ := [⟨some 4, none, .p (.mv (.c .nilp))⟩, ⟨some 5, none, .p (.mv (.c (.int .i64 0)))⟩]
@[go_sem] def c24_s1 : List SQ := [⟨some 6, none, .p (.mv (.t 0))⟩, ⟨some 7, none, .p (.bin .eql 67 false true (.t 6) (.c .nilp))⟩, ⟨some 8, none, .p (.mv (.t 7))⟩, ⟨some 9, some (8, false), .p (.mv (.t 1))⟩, ⟨some 10, some (8, false), .p (.bin .eql 64 false true (.t 9) (.c .nilp))⟩, ⟨some 11, none, .p (.pick (.t 8) (.c (.bool true)) (.t 10))⟩]
@[go_sem] def c24_s2 : List SQ := [⟨some 4, none, .p (.mv (.c .nilp))⟩, ⟨some 5, none, .p (.mv (.c (.int .i64 1)))⟩]
@[go_sem] def c24_s3 : List SQ := [⟨some 12, none, .p (.mv (.t 0))⟩, ⟨some 13, none, .cv (.c (.fn (.func 68) [] [])) [(.t 12)]⟩, ⟨some 14, none, .p (.lenv (.t 13))⟩, ⟨some 15, none, .p (.mv (.t 1))⟩, ⟨some 16, none, .cv (.c (.fn (.func 26) [] [])) [(.t 15)]⟩, ⟨some 17, none, .p (.fld 3 9 (.t 16))⟩, ⟨some 18, none, .p (.bin .neq 3 false false (.t 14) (.t 17))⟩]
@[go_sem] def c24_s4 : List SQ := [⟨some 4, none, .p (.mv (.c .nilp))⟩, ⟨some 5, none, .p (.mv (.c (.int .i64 2)))⟩]
@[go_sem] def c24_s5 : List SQ := [⟨some 19, none, .p (.mv (.t 0))⟩, ⟨some 20, none, .p (.mv (.t 1))⟩, ⟨some 21, none, .p (.build [.nilp, .nilp] [(0, 1, (.t 19)), (1, 1, (.t 20))])⟩, ⟨some 22, none, .n (.box 193 (.t 21))⟩, ⟨some 4, none, .p (.mv (.t 22))⟩, ⟨some 5, none, .p (.mv (.c (.int .i64 0)))⟩]
@[go_sem] def c24 : CF := ⟨2, (.seq (.ops c24_s0) (.seq (.seq (.ops c24_s1) (.cond (.t 11) (.seq (.ops c24_s2) .ret) .skip)) (.seq (.seq (.ops c24_s3) (.cond (.t 18) (.seq (.ops c24_s4) .ret) .skip)) (.seq (.ops c24_s5) .ret)))), [.tmp 4, .tmp 5]⟩
/-! 6: leapfrog/base.New -/
@[go_sem] def c6_s0 : List SQ := [⟨some 1, none, .n (.box 27 (.t 0))⟩, ⟨some 2, none, .p (.mv (.c .nilp))⟩, ⟨some 3, none, .p (.mv (.c (.int .i64 0)))⟩]
@[go_sem] def c6_s1 : List SQ := [⟨some 8, none, .r (.ld (some 16) (.t 1))⟩, ⟨some 9, none, .cv (.c (.fn (.func 20) [] [])) [(.t 8)]⟩, ⟨some 7, none, .p (.mv (.t 9))⟩, ⟨some 10, none, .p (.extr (.t 7) 0)⟩, ⟨some 11, none, .p (.extr (.t 7) 1)⟩, ⟨some 4, none, .p (.mv (.t 10))⟩, ⟨some 5, none, .p (.mv (.t 11))⟩]
@[go_sem] def c6_s2 : List SQ := [⟨some 12, none, .p (.mv (.t 5))⟩, ⟨some 13, none, .p (.bin .neq 34 false true (.t 12) (.c (.int .i64 0)))⟩]
@[go_sem] def c6_s3 : List SQ := [⟨some 14, none, .p (.mv (.t 5))⟩, ⟨some 2, none, .p (.mv (.c .nilp))⟩, ⟨some 3, none, .p (.mv (.t 14))⟩]
@[go_sem] def c6_s4 : List SQ := [⟨some 15, none, .p (.mv (.t 4))⟩, ⟨some 16, none, .p (.build [.nilp, .nilp, .nilp, .nilp, .nilp] [(0, 1, (.t 15))])⟩, ⟨some 17, none, .n .mkmap⟩, ⟨some 18, none, .n .mkmap⟩, ⟨some 19, none, .p (.build [.nilp, .nilp, .nilp, .nilp, .nilp, .nils, .nils, .nilm, .nilm] [(0, 5, (.t 16)), (7, 1, (.t 17)), (8, 1, (.t 18))])⟩, ⟨some 20, none, .n (.box 78 (.t 19))⟩, ⟨some 6, none, .p (.mv (.t 20))⟩]
@[go_sem] def c6_s5 : List SQ := [⟨some 22, none, .p (.mv (.t 6))⟩, ⟨some 23, none, .p (.mv (.t 4))⟩, ⟨some 24, none, .cv (.c (.fn (.func 22) [] [])) [(.t 23)]⟩, ⟨some 25, none, .cv (.c (.fn (.func 21) [] [])) [(.t 24)]⟩, ⟨some 21, none, .p (.mv (.t 25))⟩, ⟨some 26, none, .p (.extr (.t 21) 0)⟩, ⟨some 27, none, .p (.extr (.t 21) 1)⟩, ⟨some 28, none, .p (.nilck (.t 22))⟩, ⟨some 29, none, .p (.fadr 0 (.t 28))⟩, ⟨some 30, none, .p (.fadr 1 (.t 29))⟩, ⟨none, none, .e (.st 1 (.t 30) (.t 26))⟩, ⟨some 5, none, .p (.mv (.t 27))⟩]
@[go_sem] def c6_s6 : List SQ := [⟨some 31, none, .p (.mv (.t 5))⟩, ⟨some 32, none, .p (.bin .neq 34 false true (.t 31) (.c (.int .i64 0)))⟩]
@[go_sem] def c6_s7 : List SQ := [⟨some 33, none, .p (.mv (.t 5))⟩, ⟨some 2, none, .p (.mv (.c .nilp))⟩, ⟨some 3, none, .p (.mv (.t 33))⟩]
@[go_sem] def c6_s8 : List SQ := [⟨some 35, none, .p (.mv (.t 6))⟩, ⟨some 36, none, .p (.mv (.t 6))⟩, ⟨some 37, none, .p (.nilck (.t 36))⟩, ⟨some 38, none, .p (.fadr 0 (.t 37))⟩, ⟨some 39, none, .p (.fadr 1 (.t 38))⟩, ⟨some 40, none, .r (.ld none (.t 39))⟩, ⟨some 41, none, .p (.mv (.t 4))⟩, ⟨some 42, none, .cv (.c (.fn (.func 23) [] [])) [(.t 40), (.t 41)]⟩, ⟨some 34, none, .p (.mv (.t 42))⟩, ⟨some 43, none, .p (.extr (.t 34) 0)⟩, ⟨some 44, none, .p (.extr (.t 34) 1)⟩, ⟨some 45, none, .p (.nilck (.t 35))⟩, ⟨some 46, none, .p (.fadr 0 (.t 45))⟩, ⟨some 47, none, .p (.fadr 2 (.t 46))⟩, ⟨none, none, .e (.st 1 (.t 47) (.t 43))⟩, ⟨some 5, none, .p (.mv (.t 44))⟩]
@[go_sem] def c6_s9 : List SQ := [⟨some 48, none, .p (.mv (.t 5))⟩, ⟨some 49, none, .p (.bin .neq 34 false true (.t 48) (.c (.int .i64 0)))⟩]
@[go_sem] def c6_s10 : List SQ := [⟨some 50, none, .p (.mv (.t 5))⟩, ⟨some 2, none, .p (.mv (.c .nilp))⟩, ⟨some 3, none, .p (.mv (.t 50))⟩]
@[go_sem] def c6_s11 : List SQ := [⟨some 52, none, .p (.mv (.t 6))⟩, ⟨some 53, none, .p (.mv (.t 6))⟩, ⟨some 54, none, .p (.nilck (.t 53))⟩, ⟨some 55, none, .p (.fadr 0 (.t 54))⟩, ⟨some 56, none, .p (.fadr 1 (.t 55))⟩, ⟨some 57, none, .r (.ld none (.t 56))⟩, ⟨some 58, none, .p (.mv (.t 4))⟩, ⟨some 59, none, .cv (.c (.fn (.func 24) [] [])) [(.t 57), (.t 58)]⟩, ⟨some 51, none, .p (.mv (.t 59))⟩, ⟨some 60, none, .p (.extr (.t 51) 0)⟩, ⟨some 61, none, .p (.extr (.t 51) 1)⟩, ⟨some 62, none, .p (.nilck (.t 52))⟩, ⟨some 63, none, .p (.fadr 0 (.t 62))⟩, ⟨some 64, none, .p (.fadr 3 (.t 63))⟩, ⟨none, none, .e (.st 1 (.t 64) (.t 60))⟩, ⟨some 5, none, .p (.mv (.t 61))⟩]
@[go_sem] def c6_s12 : List SQ := [⟨some 65, none, .p (.mv (.t 5))⟩, ⟨some 66, none, .p (.bin .neq 34 false true (.t 65) (.c (.int .i64 0)))⟩]
@[go_sem] def c6_s13 : List SQ := [⟨some 67, none, .p (.mv (.t 5))⟩, ⟨some 2, none, .p (.mv (.c .nilp))⟩, ⟨some 3, none, .p (.mv (.t 67))⟩]
@[go_sem] def c6_p14 : List (List DQ × Option DQ) := [([⟨0, [(6, none)], none, .p (.mv (.t 6))⟩, ⟨1, [(6, none)], none, .p (.mv (.t 6))⟩, ⟨2, [(70, (some 1))], none, .p (.nilck (.t 70))⟩, ⟨3, [(71, (some 2))], none, .p (.fadr 0 (.t 71))⟩, ⟨4, [(72, (some 3))], none, .p (.fadr 1 (.t 72))⟩, ⟨5, [(73, (some 4))], none, .r (.ld none (.t 73))⟩, ⟨6, [(1, none)], none, .p (.fadr 2 (.t 1))⟩, ⟨7, [(75, (some 6))], none, .r (.ld none (.t 75))⟩, ⟨8, [(4, none)], none, .p (.mv (.t 4))⟩, ⟨11, [(1, none)], none, .p (.fadr 1 (.t 1))⟩, ⟨12, [(80, (some 11))], none, .r (.ld none (.t 80))⟩, ⟨13, [(1, none)], none, .p (.fadr 3 (.t 1))⟩, ⟨14, [(82, (some 13))], none, .r (.ld none (.t 82))⟩], (some ⟨9, [(77, (some 8))], none, .cv (.c (.fn (.func 26) [] [])) [(.t 77)]⟩)), ([⟨10, [(78, (some 9))], none, .p (.fld 3 1 (.t 78))⟩], (some ⟨15, [(74, (some 5)), (76, (some 7)), (79, (some 10)), (81, (some 12)), (83, (some 14))], none, .cv (.c (.fn (.func 25) [] [])) [(.t 74), (.t 76), (.t 79), (.t 81), (.t 83)]⟩)), ([⟨16, [(84, (some 15))], none, .p (.mv (.t 84))⟩, ⟨17, [(68, (some 16))], none, .p (.extr (.t 68) 0)⟩, ⟨18, [(68, (some 16))], none, .p (.extr (.t 68) 1)⟩, ⟨19, [(69, (some 0))], none, .p (.nilck (.t 69))⟩, ⟨20, [(87, (some 19))], none, .p (.fadr 0 (.t 87))⟩, ⟨21, [(88, (some 20))], none, .p (.fadr 4 (.t 88))⟩], (some ⟨22, [(89, (some 21)), (85, (some 17))], none, .e (.st 1 (.t 89) (.t 85))⟩)), ([⟨23, [(86, (some 18))], none, .p (.mv (.t 86))⟩], none)]
@[go_sem] def c6_s15 : List SQ := [⟨some 90, none, .p (.mv (.t 5))⟩, ⟨some 91, none, .p (.bin .neq 34 false true (.t 90) (.c (.int .i64 0)))⟩]
@[go_sem] def c6_s16 : List SQ := [⟨some 92, none, .p (.mv (.t 5))⟩, ⟨some 2, none, .p (.mv (.c .nilp))⟩, ⟨some 3, none, .p (.mv (.t 92))⟩]
@[go_sem] def c6_s17 : List SQ := [⟨some 93, none, .p (.mv (.t 6))⟩, ⟨some 2, none, .p (.mv (.t 93))⟩, ⟨some 3, none, .p (.mv (.c (.int .i64 0)))⟩]
@[go_sem] def c6 : CF := ⟨1, (.seq (.ops c6_s0) (.seq (.ops c6_s1) (.seq (.seq (.ops c6_s2) (.cond (.t 13) (.seq (.ops c6_s3) .ret) .skip)) (.seq (.ops c6_s4) (.seq (.seq (.ops c6_s5) (.seq (.ops c6_s6) (.cond (.t 32) (.seq (.ops c6_s7) .ret) .skip))) (.seq (.seq (.ops c6_s8) (.seq (.ops c6_s9) (.cond (.t 49) (.seq (.ops c6_s10) .ret) .skip))) (.seq (.seq (.ops c6_s11) (.seq (.ops c6_s12) (.cond (.t 66) (.seq (.ops c6_s13) .ret) .skip))) (.seq (.seq (.drw ⟨c6_p14, [(0, 69), (1, 70), (2, 71), (3, 72), (4, 73), (5, 74), (6, 75), (7, 76), (8, 77), (9, 78), (10, 79), (11, 80), (12, 81), (13, 82), (14, 83), (15, 84), (16, 68), (17, 85), (18, 86), (19, 87), (20, 88), (21, 89), (23, 5)], [(⟨5, [(73, (some 4))], none, .r (.ld none (.t 73))⟩, [1]), (⟨7, [(75, (some 6))], none, .r (.ld none (.t 75))⟩, [1]), (⟨12, [(80, (some 11))], none, .r (.ld none (.t 80))⟩, [1]), (⟨14, [(82, (some 13))], none, .r (.ld none (.t 82))⟩, [1])]⟩) (.seq (.ops c6_s15) (.cond (.t 91) (.seq (.ops c6_s16) .ret) .skip))) (.seq (.ops c6_s17) .ret))))))))), [.tmp 2, .tmp 3]⟩

/-- old blocks are kept but for two -/
structure StepX (M W : Nat) (h h' : H) : Prop where
  next : h.next ≤ h'.next
  old : ∀ b, b < h.next → b ≠ M → b ≠ W → h'.t.get b = h.t.get b
theorem StepX.trans {M W : Nat} {a b c : H} (h : StepX M W a b) (k : StepX M W b c) : StepX M W a c := ⟨Nat.le_trans h.next k.next, fun x hx m w => (k.old x (Nat.lt_of_lt_of_le hx h.next) m w).trans (h.old x hx m w)⟩
theorem StepN.x {h h' : H} (s : StepN h h') (M W : Nat) : StepX M W h h' := ⟨s.next, fun b hb _ _ => s.old b hb⟩
theorem StepN.withX {M W : Nat} {a b c : H} (h : StepN a b) (k : StepX M W b c) (hM : a.next ≤ M) (hW : a.next ≤ W) : StepN a c := ⟨Nat.le_trans h.next k.next, fun x hx => (k.old x (Nat.lt_of_lt_of_le hx h.next) (by omega) (by omega)).trans (h.old x hx)⟩
theorem PrcuH.off {h h' : H} {M W R n : Nat} {ws : List Int} {lg : AV} (p : PrcuH h R n) (m : MemG h M W ws lg) (s : StepX M W h h') : PrcuH h' R n := by
  have l : ∀ {a}, a < h.next → a < h'.next := fun ha => Nat.lt_of_lt_of_le ha s.next
  have gM := m.g
  have gW := m.w
  have k : ∀ {b cells len e}, b < h.next → h.t.get b = some (.row cells len e) → e ≠ 177 → e ≠ 182 → h'.t.get b = some (.row cells len e) := fun {b cells len e} hb g n1 n2 => by
    refine (s.old b hb (fun e => ?_) (fun e => ?_)).trans g
    · subst e; rw [gM] at g; simp at g; exact n1 g.2.2.symm
    · subst e; rw [gW] at g; simp [rowL] at g; exact n2 g.2.2.symm
  cases p with
  | full G N B M' base kind gR gG gN lR lG lN => exact .full G N B M' base kind (k lR gR (by decide) (by decide)) (k lG gG (by decide) (by decide)) (k lN gN (by decide) (by decide)) (l lR) (l lG) (l lN)
  | each G N M' fv kind gR gG gN lR lG lN => exact .each G N M' fv kind (k lR gR (by decide) (by decide)) (k lG gG (by decide) (by decide)) (k lN gN (by decide) (by decide)) (l lR) (l lG) (l lN)
  | gate G S M' base nb kind gR gG gS lR lG lS =>
    refine .gate G S M' base nb kind (k lR gR (by decide) (by decide)) (k lG gG (by decide) (by decide)) ((s.old S lS (fun e => ?_) (fun e => ?_)).trans gS) (l lR) (l lG) (l lS)
    · subst e; rw [gM] at gS; simp at gS
    · subst e; rw [gW] at gS; simp [rowL] at gS
def F26 (call : CallE) : Prop := ∀ h L c p hs, LayH h L c p hs → ∃ v h', call 26 [.ptr L 0] h = some (v, h') ∧ (v = .agg (plC p) ∧ StepN h h')
theorem w26' (P : Program) [PT P] {call : CallE} {h : H} {L : Nat} {c : CfgT} {p : PlT} {hs : List Int} (hL : LayH h L c p hs) : WF P call c26 [.ptr L 0] h fun v h' => v = .agg (plC p) ∧ StepN h h' := by
  obtain ⟨cv, gv, hv, tv, val, g, r1, r2, r3, r4, o1, o2⟩ := hL.ex
  exact w26 P hL.lt g (by simp [go_sem, cfgC, plC])
def F67 (call : CallE) : Prop := ∀ h L c p hs, LayH h L c p hs → call 67 [.ptr L 0] h = some (.int .i64 (hs.length : Int), h)
theorem w23 (P : Program) [PT P] {call : CallE} (h26 : F26 call) (hpk : FPeek call) (h67 : F67 call) {h : H} {M W L : Nat} {ws : List Int} {c : CfgT} {p : PlT} (hm : MemH h M W ws) (hM : M < h.next) (hW : W < h.next) (hL : LayH h L c p (hsL c)) (hw : p.wo = (ws.length : Int)) (hw0 : 0 < ws.length) (hw1 : p.wo ≤ 5000) (hn : (hsL c).length ≤ 60) :
    WF P call c23 [.ptr M 0, .ptr L 0] h fun v h' => (∃ R, v = .tup [.ptr R 0, .int .i64 0]) ∧ StepN h h' := by
  simp only [go_sem, ↓reduceIte, ↓reduceDIte, zA, zM, zL, zE, zD, yA, yE, yL, yQ, yT, reduceCtorEq, c23]
  refine opt_by (h26 h L c p _ hL) fun v1 h1 p1 => ?_
  obtain ⟨rfl, st1⟩ := p1
  have st2 := st1.trans (StepN.new h1 (.row (putList 0 (plC p) T.e) 10 89))
  have hm2 := hm.step hM hW st2
  have hL2 := hL.step st2
  obtain ⟨x, hx⟩ := hpk.yes hm2 (a := p.wo - 1) (by omega) (by omega)
  have hy := hpk.no hm2 (a := p.wo) (by omega)
  have f1 : fw .i64 (p.wo - 1) = p.wo - 1 := fwI (by omega) (by omega)
  have k67 := h67 _ L c p _ (hL2.step (StepN.new _ (.map [] 0)))
  have m1 : 8 * (hsL c).length ≤ 281474976710656 := by omega
  have m2 : (hsL c).length ≤ 281474976710656 := by omega
  simp only [plC] at hx hy k67
  have n1 : ¬ h1.next = h1.next + 1 := by omega
  simp only [go_sem, ↓reduceIte, ↓reduceDIte, zA, zM, zL, zE, zD, yA, yE, yL, yQ, yT, reduceCtorEq, plC, f1, hx, hy, k67, evLenN, rep_one, Nat.mul_one, Nat.le_refl, m1, m2, decide_true, Bool.and_self, cond_true, n1]
  have nx := st1.next
  refine ⟨⟨_, rfl⟩, by show h.next ≤ h1.next + 4; omega, fun b hb => ?_⟩
  have e1 : ¬ b = h1.next := by omega
  have e2 : ¬ b = h1.next + 1 := by omega
  have e3 : ¬ b = h1.next + 2 := by omega
  have e4 : ¬ b = h1.next + 3 := by omega
  simp only [go_sem, ↓reduceIte, ↓reduceDIte, zA, zM, zL, zE, zD, yA, yE, yL, yQ, yT, reduceCtorEq, e1, e2, e3, e4]
  exact st1.old b hb
def F68 (call : CallE) : Prop := ∀ h M W ws, MemH h M W ws → M < h.next → W < h.next → ws.length ≤ 65536 → ∃ v h', call 68 [.ptr M 0] h = some (v, h') ∧ (lenA v = some (.int .i64 ((ws : List Int).length : Int)) ∧ StepN h h')
theorem w24 (P : Program) [PT P] {call : CallE} (h26 : F26 call) (h68 : F68 call) {h : H} {M W L : Nat} {ws : List Int} {c : CfgT} {p : PlT} {hs : List Int} (hm : MemH h M W ws) (hM : M < h.next) (hW : W < h.next) (hL : LayH h L c p hs) (hw : p.wo = (ws.length : Int)) (hw1 : p.wo ≤ 5000) :
    WF P call c24 [.ptr M 0, .ptr L 0] h fun v h' => (∃ R, v = .tup [.ptr R 0, .int .i64 0]) ∧ StepN h h' := by
  simp only [go_sem, ↓reduceIte, ↓reduceDIte, zA, zM, zL, zE, zD, yA, yE, yL, yQ, yT, reduceCtorEq, c24]
  refine opt_by (h68 h M W ws hm hM hW (by omega)) fun v1 h1 p1 => ?_
  obtain ⟨hl, st1⟩ := p1
  simp only [go_sem, ↓reduceIte, ↓reduceDIte, zA, zM, zL, zE, zD, yA, yE, yL, yQ, yT, reduceCtorEq, hl]
  refine opt_by (h26 h1 L c p hs (hL.step st1)) fun v2 h2 p2 => ?_
  obtain ⟨rfl, st2⟩ := p2
  simp only [go_sem, ↓reduceIte, ↓reduceDIte, zA, zM, zL, zE, zD, yA, yE, yL, yQ, yT, reduceCtorEq, plC, hw, part3]
  exact ⟨⟨_, rfl⟩, (st1.trans st2).trans (StepN.new h2 _)⟩
/-- a store lies there -/
structure BaseH (h : H) (B : Nat) (c : CfgT) (p : PlT) (M W R : Nat) : Prop where
  ex : ∃ L P T V G, h.t.get B = some (rowL [.ptr L 0, .ptr M 0, .ptr P 0, .ptr T 0, .ptr R 0, .nils, .nils, .map V, .map G] 78) ∧ LayH h L c p (hsL c)
  pr : ∃ n : Nat, c.slots = (n : Int) ∧ PrcuH h R n
  lt : B < h.next
/-- a new store -/
structure Post6 (c : CfgT) (h : H) (v : AV) (h' : H) : Prop where
  st : StepN h h'
  ex : ∃ B p M W R ws, v = .tup [.ptr B 0, .int .i64 0] ∧ p.ow = 0 ∧ (∃ w : Nat, p.wo = (w : Int) ∧ Zero w c.slots ws) ∧ c.slots < p.wo ∧ ws.length ≤ 5000 ∧ MemG h' M W ws .nils ∧ M < h'.next ∧ W < h'.next ∧ h.next ≤ M ∧ h.next ≤ W ∧ ∀ h2, StepX M W h' h2 → BaseH h2 B c p M W R
def F20 (call : CallE) : Prop := ∀ h c v, RdL none 1 h v (uL c.cuts) → (∀ a, own v = some a → a < h.next) → layB c → (hsL c).length ≤ 60 → ∃ v' h', call 20 [.agg (cfgC c v)] h = some (v', h') ∧ PostL c h v' h'
def F22 (call : CallE) : Prop := ∀ h L c p (W : Nat), LayH h L c p (hsL c) → PlOK c p → 0 ≤ c.slots → (hsL c).length ≤ 60 → p.wo = (W : Int) → 0 < W → ∃ v h', call 22 [.ptr L 0] h = some (v, h') ∧ PostI W c.slots h v h'
def F21 (call : CallE) : Prop := ∀ h v (ws : List Int) e, Own 1 e h v ws.length (ws.map (AV.int .u64)) → 0 < ws.length → ws.length ≤ 65536 → ∃ v' h', call 21 [v] h = some (v', h') ∧ PostM ws h v' h'
def F23 (call : CallE) : Prop := ∀ h M W L (ws : List Int) c p, MemH h M W ws → M < h.next → W < h.next → LayH h L c p (hsL c) → p.wo = (ws.length : Int) → 0 < ws.length → p.wo ≤ 5000 → (hsL c).length ≤ 60 → ∃ v h', call 23 [.ptr M 0, .ptr L 0] h = some (v, h') ∧ ((∃ R, v = .tup [.ptr R 0, .int .i64 0]) ∧ StepN h h')
def F24 (call : CallE) : Prop := ∀ h M W L (ws : List Int) c p, MemH h M W ws → M < h.next → W < h.next → LayH h L c p (hsL c) → p.wo = (ws.length : Int) → p.wo ≤ 5000 → ∃ v h', call 24 [.ptr M 0, .ptr L 0] h = some (v, h') ∧ ((∃ R, v = .tup [.ptr R 0, .int .i64 0]) ∧ StepN h h')
def F25 (call : CallE) : Prop := ∀ h M W (ws : List Int) c base (n : Nat), MemH h M W ws → M < h.next → W < h.next → EngOK c → 0 ≤ base → base + engN c ≤ (ws.length : Int) → base ≤ 60000 → c.slots = (n : Int) → ∃ v h', call 25 [.ptr M 0, .int .u8 c.engine, .int .i64 base, .int .i64 c.slots, .int .i64 c.buckets] h = some (v, h') ∧ PostP n h v h'
theorem w6 (P : Program) [PT P] {call : CallE} (h20 : F20 call) (h22 : F22 call) (h21 : F21 call) (h23 : F23 call) (h24 : F24 call) (h26 : F26 call) (h25 : F25 call)
    {h : H} {c : CfgT} {v : AV} (hv : RdL none 1 h v (uL c.cuts)) (hlv : ∀ a, own v = some a → a < h.next) (hc : layB c) (hn : (hsL c).length ≤ 60) : WF P call c6 [.agg (cfgC c v)] h (Post6 c h) := by
  have hcE := hc.eng
  have hsl := hcE.1
  have ov := hv.one
  have st0 := StepN.new h (.row (putList 0 (cfgC c v) T.e) 16 27)
  simp only [go_sem, ↓reduceIte, ↓reduceDIte, zA, zM, zL, zE, zD, yA, yE, yL, yQ, yT, reduceCtorEq, c6, ov, cfgC]
  refine opt_by (h20 _ c v (hv.keep fun b hb => st0.old b (hlv b hb)) (fun a ha => Nat.lt_succ_of_lt (hlv a ha)) hc hn) fun v1 h1 p1 => ?_
  obtain ⟨⟨L, p, rfl, hL0, hp, hL⟩, st1⟩ := p1
  have g1 := st1.old h.next (Nat.lt_succ_self _)
  simp only [go_sem, ↓reduceIte, ↓reduceDIte, zA, zM, zL, zE, zD, yA, yE, yL, yQ, yT, reduceCtorEq, cfgC] at g1
  have st01 := st0.trans st1
  have nx1 : h.next < h1.next := st1.next
  obtain ⟨w, hw⟩ : ∃ w : Nat, p.wo = (w : Int) := ⟨p.wo.toNat, by have := hp.po; have := hcE.1; omega⟩
  have hp5 := hp.wo
  have hw0 : 0 < w := by have := hp.po; have := hcE.1; omega
  obtain ⟨B, hB⟩ : ∃ B, B = h1.next + 2 := ⟨_, rfl⟩
  simp only [go_sem, ↓reduceIte, ↓reduceDIte, zA, zM, zL, zE, zD, yA, yE, yL, yQ, yT, reduceCtorEq, g1, ← hB]
  obtain ⟨b1, hb1⟩ : ∃ x, x = h1.next := ⟨_, rfl⟩
  have st2 : StepN h1 ⟨B + 1, ((h1.t.set h1.next (.map [] 0)).set (h1.next + 1) (.map [] 0)).set B (.row (putList 0 [.ptr L 0, .nilp, .nilp, .nilp, .nilp, .nils, .nils, .map h1.next, .map (h1.next + 1)] T.e) 9 78)⟩ := ⟨by show h1.next ≤ B + 1; omega, fun b hb => by
    have e1 : ¬ b = h1.next := by omega
    have e2 : ¬ b = h1.next + 1 := by omega
    have e3 : ¬ b = B := by omega
    simp only [go_sem, ↓reduceIte, ↓reduceDIte, zA, zM, zL, zE, zD, yA, yE, yL, yQ, yT, reduceCtorEq, e1, e2, e3]⟩
  refine opt_by (h22 _ L c p w (hL.step st2) hp (by omega) hn hw hw0) fun v3 h3 p3 => ?_
  obtain ⟨⟨ws, hws, hz⟩, hlo3, st3⟩ := p3
  have hwl := hz.len
  simp only [go_sem, ↓reduceIte, ↓reduceDIte, zA, zM, zL, zE, zD, yA, yE, yL, yQ, yT, reduceCtorEq]
  refine opt_by (h21 h3 v3 ws 28 hws (by omega) (by omega)) fun v4 h4 p4 => ?_
  obtain ⟨rfl, nx4, old4, m4⟩ := p4
  have st4 : StepN h3 h4 := ⟨by omega, old4⟩
  obtain ⟨M, hM⟩ : ∃ x, x = h3.next + 1 := ⟨_, rfl⟩
  obtain ⟨W, hW⟩ : ∃ x, x = h3.next := ⟨_, rfl⟩
  rw [← hM, ← hW] at m4
  simp only [← hM]
  have nx3 : B + 1 ≤ h3.next := st3.next
  have st34 := st3.trans st4
  have gB4 := st34.old B (by show B < B + 1; omega)
  have gC4 := st34.old h.next (by show h.next < B + 1; omega)
  have c1 : ¬ h.next = h1.next := by omega
  have c2 : ¬ h.next = h1.next + 1 := by omega
  have c3 : ¬ h.next = B := by omega
  have BM : ¬ B = M := by omega
  have BW : ¬ B = W := by omega
  have MB : ¬ M = B := by omega
  have WB : ¬ W = B := by omega
  simp only [go_sem, ↓reduceIte, ↓reduceDIte, zA, zM, zL, zE, zD, yA, yE, yL, yQ, yT, reduceCtorEq] at gB4
  simp only [go_sem, ↓reduceIte, ↓reduceDIte, zA, zM, zL, zE, zD, yA, yE, yL, yQ, yT, reduceCtorEq, c1, c2, c3, g1] at gC4
  simp only [go_sem, ↓reduceIte, ↓reduceDIte, zA, zM, zL, zE, zD, yA, yE, yL, yQ, yT, reduceCtorEq, gB4]
  have stB : ∀ x, ∀ b, b < h4.next → b ≠ B → (h4.t.set B x).get b = h4.t.get b := fun x b hb hn => by simp only [go_sem, ↓reduceIte, ↓reduceDIte, zA, zM, zL, zE, zD, yA, yE, yL, yQ, yT, reduceCtorEq, hn]
  have mem5 : ∀ x, MemH ⟨h4.next, h4.t.set B x⟩ M W ws := fun x => by
    obtain ⟨⟨lg, g, o⟩, w', ne⟩ := m4.mem
    exact ⟨⟨lg, by simp only [go_sem, ↓reduceIte, ↓reduceDIte, zA, zM, zL, zE, zD, yA, yE, yL, yQ, yT, reduceCtorEq, MB]; exact g, o⟩, by simp only [go_sem, ↓reduceIte, ↓reduceDIte, zA, zM, zL, zE, zD, yA, yE, yL, yQ, yT, reduceCtorEq, WB]; exact w', ne⟩
  have stL4 : StepN h1 h4 := st2.trans st34
  have stL5 : ∀ x, StepN h1 ⟨h4.next, h4.t.set B x⟩ := fun x => ⟨stL4.next, fun b hb => by
    have e3 : ¬ b = B := by omega
    simp only [go_sem, ↓reduceIte, ↓reduceDIte, zA, zM, zL, zE, zD, yA, yE, yL, yQ, yT, reduceCtorEq, e3]
    exact stL4.old b hb⟩
  have hwi : p.wo = (ws.length : Int) := by omega
  refine opt_by (h23 _ M W L ws c p (mem5 _) (by show M < h4.next; omega) (by show W < h4.next; omega) (hL.step (stL5 _)) hwi (by omega) hp5 hn) fun v6 h6 p6 => ?_
  obtain ⟨⟨Po, rfl⟩, st6⟩ := p6
  have nx6 : h4.next ≤ h6.next := st6.next
  have gB6 := st6.old B (by show B < h4.next; omega)
  simp only [go_sem, ↓reduceIte, ↓reduceDIte, zA, zM, zL, zE, zD, yA, yE, yL, yQ, yT, reduceCtorEq] at gB6
  simp only [go_sem, ↓reduceIte, ↓reduceDIte, zA, zM, zL, zE, zD, yA, yE, yL, yQ, yT, reduceCtorEq, gB6]
  have stL6 : ∀ x, StepN h1 ⟨h6.next, h6.t.set B x⟩ := fun x => ⟨by have := stL4.next; show h1.next ≤ h6.next; omega, fun b hb => by
    have e3 : ¬ b = B := by omega
    have := st6.old b (by have := stL4.next; show b < h4.next; omega)
    simp only [go_sem, ↓reduceIte, ↓reduceDIte, zA, zM, zL, zE, zD, yA, yE, yL, yQ, yT, reduceCtorEq, e3] at this
    simp only [go_sem, ↓reduceIte, ↓reduceDIte, zA, zM, zL, zE, zD, yA, yE, yL, yQ, yT, reduceCtorEq, e3, this]
    exact stL4.old b hb⟩
  have mem6 : ∀ x, MemG ⟨h6.next, h6.t.set B x⟩ M W ws .nils := fun x => by
    have k1 := st6.old M (by show M < h4.next; omega)
    have k2 := st6.old W (by show W < h4.next; omega)
    simp only [go_sem, ↓reduceIte, ↓reduceDIte, zA, zM, zL, zE, zD, yA, yE, yL, yQ, yT, reduceCtorEq, MB, WB] at k1 k2
    exact ⟨by simp only [go_sem, ↓reduceIte, ↓reduceDIte, zA, zM, zL, zE, zD, yA, yE, yL, yQ, yT, reduceCtorEq, MB, k1]; exact m4.g, rfl, by simp only [go_sem, ↓reduceIte, ↓reduceDIte, zA, zM, zL, zE, zD, yA, yE, yL, yQ, yT, reduceCtorEq, WB, k2]; exact m4.w, m4.ne⟩
  refine opt_by (h24 _ M W L ws c p (mem6 _).mem (by show M < h6.next; omega) (by show W < h6.next; omega) (hL.step (stL6 _)) hwi hp5) fun v7 h7 p7 => ?_
  obtain ⟨⟨To, rfl⟩, st7⟩ := p7
  have nx7 : h6.next ≤ h7.next := st7.next
  have gB7 := st7.old B (by show B < h6.next; omega)
  simp only [go_sem, ↓reduceIte, ↓reduceDIte, zA, zM, zL, zE, zD, yA, yE, yL, yQ, yT, reduceCtorEq] at gB7
  have gC7 : h7.t.get h.next = some (.row (putList 0 [.int .i64 c.threads, .int .i64 c.slots, .int .u8 c.engine, .int .i64 c.buckets, .int .u8 c.kind, .int .i64 c.n, v, .int .i64 c.t0, .int .i64 c.t1, .int .i64 c.t2, .int .i64 c.t3, .int .i64 c.t4, .int .i64 c.t5, .int .i64 c.locks, .int .i64 c.tries, .int .i64 c.batch] T.e) 16 27) := by
    have k1 := st7.old h.next (by show h.next < h6.next; omega)
    have k2 := st6.old h.next (by show h.next < h4.next; omega)
    simp only [go_sem, ↓reduceIte, ↓reduceDIte, zA, zM, zL, zE, zD, yA, yE, yL, yQ, yT, reduceCtorEq, c3] at k1 k2
    rw [k1, k2, gC4]
  have stL7 : ∀ x, StepN h1 ⟨h7.next, h7.t.set B x⟩ := fun x => ⟨by have := stL4.next; show h1.next ≤ h7.next; omega, fun b hb => by
    have e3 : ¬ b = B := by omega
    have k1 := st7.old b (by have := stL4.next; show b < h6.next; omega)
    have k2 := (stL6 (.dead)).old b hb
    simp only [go_sem, ↓reduceIte, ↓reduceDIte, zA, zM, zL, zE, zD, yA, yE, yL, yQ, yT, reduceCtorEq, e3] at k1 k2
    simp only [go_sem, ↓reduceIte, ↓reduceDIte, zA, zM, zL, zE, zD, yA, yE, yL, yQ, yT, reduceCtorEq, e3, k1, k2]⟩
  have mem7 : ∀ x, MemG ⟨h7.next, h7.t.set B x⟩ M W ws .nils := fun x => by
    have k1 := st7.old M (by show M < h6.next; omega)
    have k2 := st7.old W (by show W < h6.next; omega)
    have k3 := (mem6 .dead).g
    have k4 := (mem6 .dead).w
    simp only [go_sem, ↓reduceIte, ↓reduceDIte, zA, zM, zL, zE, zD, yA, yE, yL, yQ, yT, reduceCtorEq, MB, WB] at k1 k2 k3 k4
    exact ⟨by simp [go_sem, MB, k1, k3], rfl, by simp [go_sem, WB, k2, k4], m4.ne⟩
  simp only [go_sem, ↓reduceIte, ↓reduceDIte, zA, zM, zL, zE, zD, yA, yE, yL, yQ, yT, reduceCtorEq, gB7, gC7, c3]
  refine opt_by (h26 _ L c p _ (hL.step (stL7 _))) fun v8 h8 p8 => ?_
  obtain ⟨rfl, st8⟩ := p8
  have nx8 : h7.next ≤ h8.next := st8.next
  have gB8 := st8.old B (by show B < h7.next; omega)
  have gC8 := st8.old h.next (by show h.next < h7.next; omega)
  simp only [go_sem, ↓reduceIte, ↓reduceDIte, zA, zM, zL, zE, zD, yA, yE, yL, yQ, yT, reduceCtorEq] at gB8
  simp only [go_sem, ↓reduceIte, ↓reduceDIte, zA, zM, zL, zE, zD, yA, yE, yL, yQ, yT, reduceCtorEq, c3, gC7] at gC8
  have mem8 : MemG h8 M W ws .nils := by
    have k1 := st8.old M (by show M < h7.next; omega)
    have k2 := st8.old W (by show W < h7.next; omega)
    have k3 := (mem7 .dead).g
    have k4 := (mem7 .dead).w
    simp only [go_sem, ↓reduceIte, ↓reduceDIte, zA, zM, zL, zE, zD, yA, yE, yL, yQ, yT, reduceCtorEq, MB, WB] at k1 k2 k3 k4
    exact ⟨by rw [k1, k3], rfl, by rw [k2, k4], m4.ne⟩
  have stL8 : StepN h1 h8 := (stL7 _).trans st8
  simp only [go_sem, ↓reduceIte, ↓reduceDIte, zA, zM, zL, zE, zD, yA, yE, yL, yQ, yT, reduceCtorEq, gB8, gC8, c3, plC, gB7, gC7, part3]
  have hen := hp.en
  have heng := hp.eng
  have hE := engOK hc
  obtain ⟨n, hnn⟩ : ∃ n : Nat, c.slots = (n : Int) := ⟨c.slots.toNat, by omega⟩
  refine ⟨nx8, opt_by (h25 h8 M W ws c p.en n mem8.mem (by omega) (by omega) hcE (by omega) (by omega) (by omega) hnn) fun v9 h9 p9 => ?_⟩
  obtain ⟨st9, R, rfl, hR⟩ := p9
  have nx9 : h8.next ≤ h9.next := st9.next
  have gB9 := st9.old B (by omega)
  have gC9 := st9.old h.next (by omega)
  rw [gB8] at gB9
  rw [gC8] at gC9
  simp only [go_sem, ↓reduceIte, ↓reduceDIte, zA, zM, zL, zE, zD, yA, yE, yL, yQ, yT, reduceCtorEq, gB9, gC9, gB8, gC8, gB7, gC7, c3, nx9]
  have mem9 : ∀ x, MemG ⟨h9.next, h9.t.set B x⟩ M W ws .nils := fun x => ⟨by simp only [go_sem, ↓reduceIte, ↓reduceDIte, zA, zM, zL, zE, zD, yA, yE, yL, yQ, yT, reduceCtorEq, MB]; exact (st9.old M (by omega)).trans mem8.g, rfl, by simp only [go_sem, ↓reduceIte, ↓reduceDIte, zA, zM, zL, zE, zD, yA, yE, yL, yQ, yT, reduceCtorEq, WB]; exact (st9.old W (by omega)).trans mem8.w, m4.ne⟩
  have stL9 : ∀ x, StepN h1 ⟨h9.next, h9.t.set B x⟩ := fun x => ⟨by have := stL8.next; show h1.next ≤ h9.next; omega, fun b hb => by
    have e3 : ¬ b = B := by omega
    simp only [go_sem, ↓reduceIte, ↓reduceDIte, zA, zM, zL, zE, zD, yA, yE, yL, yQ, yT, reduceCtorEq, e3]
    exact (st9.old b (by have := stL8.next; omega)).trans (stL8.old b hb)⟩
  have hR9 : ∀ x, PrcuH ⟨h9.next, h9.t.set B (.row x 9 78)⟩ R n := fun x => by
    have k : ∀ {b cells len e}, h9.t.get b = some (.row cells len e) → e ≠ 78 → (h9.t.set B (.row x 9 78)).get b = some (.row cells len e) := fun {b cells len e} g n1 => by
      by_cases e3 : b = B
      · subst e3
        rw [gB9] at g
        simp at g
        exact absurd g.2.2.symm n1
      · simp only [go_sem, ↓reduceIte, ↓reduceDIte, zA, zM, zL, zE, zD, yA, yE, yL, yQ, yT, reduceCtorEq, e3]
        exact g
    cases hR with
    | full G N B' M' base kind gR gG gN lR lG lN => exact .full G N B' M' base kind (k gR (by decide)) (k gG (by decide)) (k gN (by decide)) lR lG lN
    | each G N M' fv kind gR gG gN lR lG lN => exact .each G N M' fv kind (k gR (by decide)) (k gG (by decide)) (k gN (by decide)) lR lG lN
    | gate G S M' base nb kind gR gG gS lR lG lS =>
      refine .gate G S M' base nb kind (k gR (by decide)) (k gG (by decide)) ?_ lR lG lS
      by_cases e3 : S = B
      · subst e3
        rw [gB9] at gS
        simp at gS
      · simp only [go_sem, ↓reduceIte, ↓reduceDIte, zA, zM, zL, zE, zD, yA, yE, yL, yQ, yT, reduceCtorEq, e3]
        exact gS
  refine ⟨st01.trans (stL9 _), B, p, M, W, R, ws, rfl, hp.ow, ⟨w, hw, hz⟩, by have := hp.po; omega, by omega, mem9 _, by show M < h9.next; omega, by show W < h9.next; omega, by omega, by omega, fun h2 sx => ?_⟩
  have hBx := sx.old B (by show B < h9.next; omega) BM BW
  simp only [go_sem, ↓reduceIte, ↓reduceDIte, zA, zM, zL, zE, zD, yA, yE, yL, yQ, yT, reduceCtorEq] at hBx
  exact ⟨⟨L, Po, To, h1.next, h1.next + 1, hBx, hL.step ((stL9 _).withX sx (by omega) (by omega))⟩, ⟨n, hnn, (hR9 _).off (mem9 _) sx⟩, Nat.lt_of_lt_of_le (by show B < h9.next; omega) sx.next⟩
end
end Go.Proofs.YtldmhpdjlgoenaaGreatDoor.BN

namespace Go.Proofs.YtldmhpdjlgoenaaGreatDoor.BN
open Go.Proofs.YtldmhpdjlgoenaaGreatDoor.Eo
open Nat renaming reduceAdd → zA, reduceMul → zM, reduceLT → zL, reduceEqDiff → zE, reduceLeDiff → zD
open Int renaming reduceAdd → yA, reduceLE → yE, reduceLT → yL, reduceEq → yQ, reduceToNat → yT
noncomputable section
/-! 38: (*leapfrog/base.Base).Config -/
@[go_sem] def c38_s0 : List SQ := [⟨some 2, none, .n (.new 27 [.int .i64 0, .int .i64 0, .int .u8 0, .int .i64 0, .int .u8 0, .int .i64 0, .nils, .int .i64 0, .int .i64 0, .int .i64 0, .int .i64 0, .int .i64 0, .int .i64 0, .int .i64 0, .int .i64 0, .int .i64 0])⟩]
@[go_sem] def c38_s1 : List SQ := [⟨some 3, none, .p (.mv (.t 0))⟩, ⟨some 4, none, .p (.bin .eql 36 false true (.t 3) (.c .nilp))⟩]
@[go_sem] def c38_s2 : List SQ := [⟨some 5, none, .p (.build [.int .i64 0, .int .i64 0, .int .u8 0, .int .i64 0, .int .u8 0, .int .i64 0, .nils, .int .i64 0, .int .i64 0, .int .i64 0, .int .i64 0, .int .i64 0, .int .i64 0, .int .i64 0, .int .i64 0, .int .i64 0] [])⟩, ⟨none, none, .e (.st 16 (.t 2) (.t 5))⟩]
@[go_sem] def c38_s3 : List SQ := [⟨some 6, none, .p (.mv (.t 0))⟩, ⟨some 7, none, .p (.nilck (.t 6))⟩, ⟨some 8, none, .p (.fadr 0 (.t 7))⟩, ⟨some 9, none, .p (.fadr 0 (.t 8))⟩, ⟨some 10, none, .r (.ld none (.t 9))⟩, ⟨some 11, none, .cv (.c (.fn (.func 84) [] [])) [(.t 10)]⟩, ⟨none, none, .e (.st 16 (.t 2) (.t 11))⟩]
@[go_sem] def c38 : CF := ⟨1, (.seq (.ops c38_s0) (.seq (.seq (.ops c38_s1) (.cond (.t 4) (.seq (.ops c38_s2) .ret) .skip)) (.seq (.ops c38_s3) .ret))), [(.cell 2 (some 16))]⟩
/-! 114: (*leapfrog/base.Base).Layout -/
@[go_sem] def c114_s0 : List SQ := [⟨some 2, none, .p (.mv (.c .nilp))⟩]
@[go_sem] def c114_s1 : List SQ := [⟨some 3, none, .p (.mv (.t 0))⟩, ⟨some 4, none, .p (.bin .eql 36 false true (.t 3) (.c .nilp))⟩]
@[go_sem] def c114_s2 : List SQ := [⟨some 2, none, .p (.mv (.c .nilp))⟩]
@[go_sem] def c114_s3 : List SQ := [⟨some 5, none, .p (.mv (.t 0))⟩, ⟨some 6, none, .p (.nilck (.t 5))⟩, ⟨some 7, none, .p (.fadr 0 (.t 6))⟩, ⟨some 8, none, .p (.fadr 0 (.t 7))⟩, ⟨some 9, none, .r (.ld none (.t 8))⟩, ⟨some 2, none, .p (.mv (.t 9))⟩]
@[go_sem] def c114 : CF := ⟨1, (.seq (.ops c114_s0) (.seq (.seq (.ops c114_s1) (.cond (.t 4) (.seq (.ops c114_s2) .ret) .skip)) (.seq (.ops c114_s3) .ret))), [.tmp 2]⟩
/-! 79: (*leapfrog/base.Base).Mem -/
@[go_sem] def c79_s0 : List SQ := [⟨some 2, none, .p (.mv (.c .nilp))⟩]
@[go_sem] def c79_s1 : List SQ := [⟨some 3, none, .p (.mv (.t 0))⟩, ⟨some 4, none, .p (.bin .eql 36 false true (.t 3) (.c .nilp))⟩]
@[go_sem] def c79_s2 : List SQ := [⟨some 2, none, .p (.mv (.c .nilp))⟩]
@[go_sem] def c79_s3 : List SQ := [⟨some 5, none, .p (.mv (.t 0))⟩, ⟨some 6, none, .p (.nilck (.t 5))⟩, ⟨some 7, none, .p (.fadr 0 (.t 6))⟩, ⟨some 8, none, .p (.fadr 1 (.t 7))⟩, ⟨some 9, none, .r (.ld none (.t 8))⟩, ⟨some 2, none, .p (.mv (.t 9))⟩]
@[go_sem] def c79 : CF := ⟨1, (.seq (.ops c79_s0) (.seq (.seq (.ops c79_s1) (.cond (.t 4) (.seq (.ops c79_s2) .ret) .skip)) (.seq (.ops c79_s3) .ret))), [.tmp 2]⟩
/-! 41: (*leapfrog/base.Base).Prcu -/
@[go_sem] def c41_s0 : List SQ := [⟨some 2, none, .p (.mv (.c .nilp))⟩]
@[go_sem] def c41_s1 : List SQ := [⟨some 3, none, .p (.mv (.t 0))⟩, ⟨some 4, none, .p (.bin .eql 36 false true (.t 3) (.c .nilp))⟩]
@[go_sem] def c41_s2 : List SQ := [⟨some 2, none, .p (.mv (.c .nilp))⟩]
@[go_sem] def c41_s3 : List SQ := [⟨some 5, none, .p (.mv (.t 0))⟩, ⟨some 6, none, .p (.nilck (.t 5))⟩, ⟨some 7, none, .p (.fadr 0 (.t 6))⟩, ⟨some 8, none, .p (.fadr 4 (.t 7))⟩, ⟨some 9, none, .r (.ld none (.t 8))⟩, ⟨some 2, none, .p (.mv (.t 9))⟩]
@[go_sem] def c41 : CF := ⟨1, (.seq (.ops c41_s0) (.seq (.seq (.ops c41_s1) (.cond (.t 4) (.seq (.ops c41_s2) .ret) .skip)) (.seq (.ops c41_s3) .ret))), [.tmp 2]⟩
/-! 81: leapfrog/session.owner -/
@[go_sem] def c81_s0 : List SQ := [⟨some 4, none, .p (.mv (.c (.int .i64 0)))⟩]
@[go_sem] def c81_s1 : List SQ := [⟨some 5, none, .p (.mv (.t 0))⟩, ⟨some 6, none, .cv (.c (.fn (.func 114) [] [])) [(.t 5)]⟩, ⟨some 7, none, .cv (.c (.fn (.func 26) [] [])) [(.t 6)]⟩, ⟨some 8, none, .p (.fld 3 0 (.t 7))⟩, ⟨some 9, none, .p (.mv (.t 1))⟩, ⟨some 10, none, .p (.bin .add 3 false false (.t 8) (.t 9))⟩, ⟨some 4, none, .p (.mv (.t 10))⟩]
@[go_sem] def c81 : CF := ⟨2, (.seq (.ops c81_s0) (.seq (.ops c81_s1) .ret)), [.tmp 4]⟩
/-! 33: leapfrog/session.New -/
@[go_sem] def c33_s0 : List SQ := [⟨some 4, none, .p (.mv (.c .nilp))⟩, ⟨some 5, none, .p (.mv (.c (.int .i64 0)))⟩]
@[go_sem] def c33_s1 : List SQ := [⟨some 8, none, .p (.mv (.t 0))⟩, ⟨some 9, none, .p (.bin .eql 36 false true (.t 8) (.c .nilp))⟩]
@[go_sem] def c33_s2 : List SQ := [⟨some 4, none, .p (.mv (.c .nilp))⟩, ⟨some 5, none, .p (.mv (.c (.int .i64 1)))⟩]
@[go_sem] def c33_s3 : List SQ := [⟨some 10, none, .p (.mv (.t 1))⟩, ⟨some 11, none, .p (.bin .lss 3 false true (.t 10) (.c (.int .i64 0)))⟩, ⟨some 12, none, .p (.mv (.t 11))⟩, ⟨some 13, some (12, false), .p (.mv (.t 1))⟩, ⟨some 14, some (12, false), .p (.bin .geq 3 false true (.t 13) (.c (.int .i64 64)))⟩, ⟨some 15, none, .p (.pick (.t 12) (.c (.bool true)) (.t 14))⟩]
@[go_sem] def c33_s4 : List SQ := [⟨some 4, none, .p (.mv (.c .nilp))⟩, ⟨some 5, none, .p (.mv (.c (.int .i64 2)))⟩]
@[go_sem] def c33_s5 : List SQ := [⟨some 16, none, .p (.mv (.t 0))⟩, ⟨some 17, none, .p (.mv (.t 1))⟩, ⟨some 18, none, .p (.build [.nilp, .int .i64 0, .nils, .int .i64 0, .int .i64 0] [(0, 1, (.t 16)), (1, 1, (.t 17))])⟩, ⟨some 19, none, .n (.box 240 (.t 18))⟩, ⟨some 6, none, .p (.mv (.t 19))⟩]
@[go_sem] def c33_s6 : List SQ := [⟨some 20, none, .p (.mv (.t 0))⟩, ⟨some 21, none, .cv (.c (.fn (.func 38) [] [])) [(.t 20)]⟩, ⟨some 22, none, .p (.fld 3 1 (.t 21))⟩, ⟨some 23, none, .p (.mv (.c (.int .i64 0)))⟩]
@[go_sem] def c33_s7 : List SQ := [⟨some 24, none, .p (.bin .lss 3 false false (.t 23) (.t 22))⟩]
@[go_sem] def c33_s8 : List SQ := [⟨some 25, none, .p (.mv (.t 23))⟩, ⟨some 7, none, .p (.mv (.t 25))⟩]
@[go_sem] def c33_s9 : List SQ := [⟨some 26, none, .p (.mv (.t 6))⟩, ⟨some 27, none, .p (.mv (.t 6))⟩, ⟨some 28, none, .p (.nilck (.t 27))⟩, ⟨some 29, none, .p (.fadr 2 (.t 28))⟩, ⟨some 30, none, .r (.ld none (.t 29))⟩, ⟨some 31, none, .p (.mv (.t 7))⟩, ⟨some 32, none, .n (.buildS 3 1 1 [.int .i64 0] [(0, 1, (.t 31))])⟩, ⟨some 33, none, .e (.app 3 1 8 (.t 30) (.t 32))⟩, ⟨some 34, none, .p (.nilck (.t 26))⟩, ⟨some 35, none, .p (.fadr 2 (.t 34))⟩, ⟨none, none, .e (.st 1 (.t 35) (.t 33))⟩]
@[go_sem] def c33_s10 : List SQ := [⟨some 36, none, .p (.bin .add 3 false true (.t 23) (.c (.int .i64 1)))⟩, ⟨some 23, none, .p (.mv (.t 36))⟩]
def c33_l11 : CC := (.seq (.ops c33_s7) (.seq (.cond (.t 24) .skip (.exit 0)) (.seq (.block 1 (.seq (.ops c33_s8) (.ops c33_s9))) (.ops c33_s10))))
@[go_sem] def c33_s12 : List SQ := [⟨some 37, none, .p (.mv (.t 6))⟩, ⟨some 4, none, .p (.mv (.t 37))⟩, ⟨some 5, none, .p (.mv (.c (.int .i64 0)))⟩]
@[go_sem] def c33 : CF := ⟨2, (.seq (.ops c33_s0) (.seq (.seq (.ops c33_s1) (.cond (.t 9) (.seq (.ops c33_s2) .ret) .skip)) (.seq (.seq (.ops c33_s3) (.cond (.t 15) (.seq (.ops c33_s4) .ret) .skip)) (.seq (.ops c33_s5) (.seq (.seq (.ops c33_s6) (.block 0 (.loop c33_l11))) (.seq (.ops c33_s12) .ret)))))), [.tmp 4, .tmp 5]⟩
/-! 35: (*leapfrog/session.Open).Result -/
@[go_sem] def c35_s0 : List SQ := [⟨some 2, none, .p (.mv (.c (.int .i64 0)))⟩, ⟨some 3, none, .p (.mv (.c (.int .i64 0)))⟩]
@[go_sem] def c35_s1 : List SQ := [⟨some 4, none, .p (.mv (.t 0))⟩, ⟨some 5, none, .p (.bin .eql 111 false true (.t 4) (.c .nilp))⟩]
@[go_sem] def c35_s2 : List SQ := [⟨some 2, none, .p (.mv (.c (.int .i64 0)))⟩, ⟨some 3, none, .p (.mv (.c (.int .i64 1)))⟩]
@[go_sem] def c35_s3 : List SQ := [⟨some 6, none, .p (.mv (.t 0))⟩, ⟨some 7, none, .p (.nilck (.t 6))⟩, ⟨some 8, none, .p (.fadr 2 (.t 7))⟩, ⟨some 9, none, .r (.ld none (.t 8))⟩, ⟨some 10, none, .p (.lenv (.t 9))⟩, ⟨some 11, none, .p (.bin .gtr 3 false true (.t 10) (.c (.int .i64 0)))⟩]
@[go_sem] def c35_s4 : List SQ := [⟨some 2, none, .p (.mv (.c (.int .i64 0)))⟩, ⟨some 3, none, .p (.mv (.c (.int .i64 8)))⟩]
@[go_sem] def c35_p5 : List (List DQ × Option DQ) := [([⟨0, [(0, none)], none, .p (.mv (.t 0))⟩, ⟨1, [(12, (some 0))], none, .p (.nilck (.t 12))⟩, ⟨2, [(13, (some 1))], none, .p (.fadr 3 (.t 13))⟩, ⟨3, [(14, (some 2))], none, .r (.ld none (.t 14))⟩, ⟨4, [(0, none)], none, .p (.mv (.t 0))⟩, ⟨5, [(16, (some 4))], none, .p (.nilck (.t 16))⟩, ⟨6, [(17, (some 5))], none, .p (.fadr 4 (.t 17))⟩, ⟨7, [(18, (some 6))], none, .r (.ld none (.t 18))⟩, ⟨8, [(15, (some 3))], none, .p (.mv (.t 15))⟩, ⟨9, [(19, (some 7))], none, .p (.mv (.t 19))⟩], none)]
@[go_sem] def c35 : CF := ⟨1, (.seq (.ops c35_s0) (.seq (.seq (.ops c35_s1) (.cond (.t 5) (.seq (.ops c35_s2) .ret) .skip)) (.seq (.seq (.ops c35_s3) (.cond (.t 11) (.seq (.ops c35_s4) .ret) .skip)) (.seq (.drw ⟨c35_p5, [(0, 12), (1, 13), (2, 14), (3, 15), (4, 16), (5, 17), (6, 18), (7, 19), (8, 2), (9, 3)], []⟩) .ret)))), [.tmp 2, .tmp 3]⟩
/-! 80: (*leapfrog/words.Mem).CompareAndSwap -/
@[go_sem] def c80_s0 : List SQ := [⟨some 10, none, .p (.mv (.c (.bool false)))⟩, ⟨some 11, none, .p (.mv (.c (.int .i64 0)))⟩]
@[go_sem] def c80_s1 : List SQ := [⟨some 15, none, .p (.mv (.t 0))⟩, ⟨some 16, none, .p (.mv (.t 1))⟩, ⟨some 17, none, .p (.mv (.t 2))⟩, ⟨some 18, none, .cv (.c (.fn (.func 102) [] [])) [(.t 15), (.t 16), (.t 17)]⟩, ⟨some 12, none, .p (.mv (.t 18))⟩]
@[go_sem] def c80_s2 : List SQ := [⟨some 19, none, .p (.mv (.t 12))⟩, ⟨some 20, none, .p (.bin .neq 34 false true (.t 19) (.c (.int .i64 0)))⟩]
@[go_sem] def c80_s3 : List SQ := [⟨some 21, none, .p (.mv (.t 12))⟩, ⟨some 10, none, .p (.mv (.c (.bool false)))⟩, ⟨some 11, none, .p (.mv (.t 21))⟩]
@[go_sem] def c80_s4 : List SQ := [⟨some 22, none, .p (.mv (.t 0))⟩, ⟨some 23, none, .p (.nilck (.t 22))⟩, ⟨some 24, none, .p (.fadr 0 (.t 23))⟩, ⟨some 25, none, .r (.ld none (.t 24))⟩, ⟨some 26, none, .p (.mv (.t 2))⟩, ⟨some 27, none, .p (.iadrS 1 (.t 25) (.t 26))⟩, ⟨some 28, none, .cv (.c (.fn (.func 103) [] [])) [(.t 27)]⟩, ⟨some 13, none, .p (.mv (.t 28))⟩]
@[go_sem] def c80_s5 : List SQ := [⟨some 29, none, .p (.mv (.t 0))⟩, ⟨some 30, none, .p (.nilck (.t 29))⟩, ⟨some 31, none, .p (.fadr 0 (.t 30))⟩, ⟨some 32, none, .r (.ld none (.t 31))⟩, ⟨some 33, none, .p (.mv (.t 2))⟩, ⟨some 34, none, .p (.iadrS 1 (.t 32) (.t 33))⟩, ⟨some 35, none, .p (.mv (.t 3))⟩, ⟨some 36, none, .p (.mv (.t 4))⟩, ⟨some 37, none, .cv (.c (.fn (.func 112) [] [])) [(.t 34), (.t 35), (.t 36)]⟩, ⟨some 14, none, .p (.mv (.t 37))⟩]
@[go_sem] def c80_s6 : List SQ := [⟨some 38, none, .p (.mv (.t 0))⟩, ⟨some 39, none, .p (.mv (.t 1))⟩, ⟨some 40, none, .p (.mv (.t 2))⟩, ⟨some 41, none, .p (.mv (.t 13))⟩, ⟨some 42, none, .p (.mv (.t 0))⟩, ⟨some 43, none, .p (.nilck (.t 42))⟩, ⟨some 44, none, .p (.fadr 0 (.t 43))⟩, ⟨some 45, none, .r (.ld none (.t 44))⟩, ⟨some 46, none, .p (.mv (.t 2))⟩, ⟨some 47, none, .p (.iadrS 1 (.t 45) (.t 46))⟩, ⟨some 48, none, .cv (.c (.fn (.func 103) [] [])) [(.t 47)]⟩, ⟨some 49, none, .p (.mv (.t 14))⟩, ⟨some 50, none, .cv (.c (.fn (.func 113) [] [])) [(.t 38), (.t 39), (.t 40), (.c (.int .u8 4)), (.t 41), (.t 48), (.t 49)]⟩]
@[go_sem] def c80_s7 : List SQ := [⟨some 51, none, .p (.mv (.t 14))⟩, ⟨some 10, none, .p (.mv (.t 51))⟩, ⟨some 11, none, .p (.mv (.c (.int .i64 0)))⟩]
@[go_sem] def c80 : CF := ⟨5, (.seq (.ops c80_s0) (.seq (.seq (.ops c80_s1) (.seq (.ops c80_s2) (.cond (.t 20) (.seq (.ops c80_s3) .ret) .skip))) (.seq (.ops c80_s4) (.seq (.ops c80_s5) (.seq (.ops c80_s6) (.seq (.ops c80_s7) .ret)))))), [.tmp 10, .tmp 11]⟩
/-! 113: (*leapfrog/words.Mem).note -/
@[go_sem] def c113_s0 : List SQ := [⟨some 14, none, .p (.mv (.t 0))⟩, ⟨some 15, none, .p (.mv (.t 0))⟩, ⟨some 16, none, .p (.nilck (.t 15))⟩, ⟨some 17, none, .p (.fadr 1 (.t 16))⟩, ⟨some 18, none, .r (.ld none (.t 17))⟩, ⟨some 19, none, .p (.mv (.t 1))⟩, ⟨some 20, none, .p (.mv (.t 2))⟩, ⟨some 21, none, .p (.mv (.t 3))⟩, ⟨some 22, none, .p (.mv (.t 4))⟩, ⟨some 23, none, .p (.mv (.t 5))⟩, ⟨some 24, none, .p (.mv (.t 6))⟩, ⟨some 25, none, .p (.build [.int .i64 0, .int .i64 0, .int .u8 0, .int .u64 0, .int .u64 0, .bool false] [(0, 1, (.t 19)), (1, 1, (.t 20)), (2, 1, (.t 21)), (3, 1, (.t 22)), (4, 1, (.t 23)), (5, 1, (.t 24))])⟩, ⟨some 26, none, .n (.buildS 313 6 1 [.int .i64 0, .int .i64 0, .int .u8 0, .int .u64 0, .int .u64 0, .bool false] [(0, 6, (.t 25))])⟩, ⟨some 27, none, .e (.app 313 6 48 (.t 18) (.t 26))⟩, ⟨some 28, none, .p (.nilck (.t 14))⟩, ⟨some 29, none, .p (.fadr 1 (.t 28))⟩, ⟨none, none, .e (.st 1 (.t 29) (.t 27))⟩]
@[go_sem] def c113 : CF := ⟨7, (.ops c113_s0), []⟩
/-! 112: (*sync/atomic.Uint64).CompareAndSwap -/
@[go_sem] def c112_s0 : List SQ := [⟨some 6, none, .p (.mv (.c (.bool false)))⟩]
@[go_sem] def c112_s1 : List SQ := [⟨some 7, none, .p (.mv (.t 0))⟩, ⟨some 8, none, .p (.nilck (.t 7))⟩, ⟨some 9, none, .p (.fadr 0 (.t 8))⟩, ⟨some 10, none, .p (.mv (.t 1))⟩, ⟨some 11, none, .p (.mv (.t 2))⟩, ⟨some 12, none, .cv (.c (.fn (.func 157) [] [])) [(.t 9), (.t 10), (.t 11)]⟩, ⟨some 6, none, .p (.mv (.t 12))⟩]
@[go_sem] def c112 : CF := ⟨3, (.seq (.ops c112_s0) (.seq (.ops c112_s1) .ret)), [.tmp 6]⟩
/-! 8: leapfrog/leapfroglaw33.open -/
@[go_sem] def c8_s0 : List SQ := [⟨some 4, none, .p (.mv (.c (.int .i64 0)))⟩]
@[go_sem] def c8_s1 : List SQ := [⟨some 13, none, .p (.mv (.t 0))⟩, ⟨some 14, none, .p (.mv (.t 1))⟩, ⟨some 15, none, .cv (.c (.fn (.func 33) [] [])) [(.t 13), (.t 14)]⟩, ⟨some 12, none, .p (.mv (.t 15))⟩, ⟨some 16, none, .p (.extr (.t 12) 0)⟩, ⟨some 17, none, .p (.extr (.t 12) 1)⟩, ⟨some 5, none, .p (.mv (.t 16))⟩, ⟨some 6, none, .p (.mv (.t 17))⟩]
@[go_sem] def c8_s2 : List SQ := [⟨some 18, none, .p (.mv (.t 5))⟩, ⟨some 19, none, .p (.bin .eql 111 false true (.t 18) (.c .nilp))⟩, ⟨some 20, none, .p (.mv (.t 19))⟩, ⟨some 21, some (20, false), .p (.mv (.t 6))⟩, ⟨some 22, some (20, false), .p (.bin .neq 34 false true (.t 21) (.c (.int .i64 0)))⟩, ⟨some 23, none, .p (.pick (.t 20) (.c (.bool true)) (.t 22))⟩]
@[go_sem] def c8_s3 : List SQ := [⟨some 4, none, .p (.mv (.c (.int .i64 (-1))))⟩]
@[go_sem] def c8_s4 : List SQ := [⟨some 7, none, .p (.mv (.c (.int .i64 0)))⟩]
@[go_sem] def c8_s5 : List SQ := [⟨some 24, none, .p (.mv (.t 7))⟩, ⟨some 25, none, .p (.bin .lss 3 false true (.t 24) (.c (.int .i64 64)))⟩]
@[go_sem] def c8_s6 : List SQ := [⟨some 29, none, .p (.mv (.t 5))⟩, ⟨some 30, none, .cv (.c (.fn (.func 34) [] [])) [(.t 29)]⟩, ⟨some 28, none, .p (.mv (.t 30))⟩, ⟨some 31, none, .p (.extr (.t 28) 0)⟩, ⟨some 32, none, .p (.extr (.t 28) 1)⟩, ⟨some 8, none, .p (.mv (.t 31))⟩, ⟨some 9, none, .p (.mv (.t 32))⟩]
@[go_sem] def c8_s7 : List SQ := [⟨some 33, none, .p (.mv (.t 9))⟩]
@[go_sem] def c8_s8 : List SQ := [⟨some 35, none, .p (.mv (.t 5))⟩, ⟨some 36, none, .cv (.c (.fn (.func 35) [] [])) [(.t 35)]⟩, ⟨some 34, none, .p (.mv (.t 36))⟩, ⟨some 37, none, .p (.extr (.t 34) 0)⟩, ⟨some 38, none, .p (.extr (.t 34) 1)⟩, ⟨some 10, none, .p (.mv (.t 37))⟩, ⟨some 11, none, .p (.mv (.t 38))⟩]
@[go_sem] def c8_s9 : List SQ := [⟨some 39, none, .p (.mv (.t 11))⟩, ⟨some 40, none, .p (.bin .neq 34 false true (.t 39) (.c (.int .i64 0)))⟩]
@[go_sem] def c8_s10 : List SQ := [⟨some 4, none, .p (.mv (.c (.int .i64 (-1))))⟩]
@[go_sem] def c8_s11 : List SQ := [⟨some 41, none, .p (.mv (.t 10))⟩, ⟨some 4, none, .p (.mv (.t 41))⟩]
@[go_sem] def c8_s12 : List SQ := [⟨some 26, none, .p (.mv (.t 7))⟩, ⟨some 27, none, .p (.bin .add 3 false true (.t 26) (.c (.int .i64 1)))⟩, ⟨some 7, none, .p (.mv (.t 27))⟩]
def c8_l13 : CC := (.seq (.seq (.ops c8_s5) (.cond (.t 25) .skip (.exit 0))) (.seq (.block 1 (.seq (.ops c8_s6) (.seq (.ops c8_s7) (.cond (.t 33) (.seq (.ops c8_s8) (.seq (.seq (.ops c8_s9) (.cond (.t 40) (.seq (.ops c8_s10) .ret) .skip)) (.seq (.ops c8_s11) .ret))) .skip)))) (.ops c8_s12)))
@[go_sem] def c8_s14 : List SQ := [⟨some 4, none, .p (.mv (.c (.int .i64 (-1))))⟩]
@[go_sem] def c8 : CF := ⟨2, (.seq (.ops c8_s0) (.seq (.ops c8_s1) (.seq (.seq (.ops c8_s2) (.cond (.t 23) (.seq (.ops c8_s3) .ret) .skip)) (.seq (.seq (.ops c8_s4) (.block 0 (.loop c8_l13))) (.seq (.ops c8_s14) .ret))))), [.tmp 4]⟩

@[go_sem] def c34_s0 : List SQ := [⟨some 2, none, .p (.mv (.c (.int .u8 0)))⟩, ⟨some 3, none, .p (.mv (.c (.bool false)))⟩]
@[go_sem] def c34_s1 : List SQ := [⟨some 7, none, .p (.mv (.t 0))⟩, ⟨some 8, none, .p (.bin .eql 111 false true (.t 7) (.c .nilp))⟩, ⟨some 9, none, .p (.mv (.t 8))⟩, ⟨some 10, some (9, false), .p (.mv (.t 0))⟩, ⟨some 11, some (9, false), .p (.nilck (.t 10))⟩, ⟨some 12, some (9, false), .p (.fadr 2 (.t 11))⟩, ⟨some 13, some (9, false), .r (.ld none (.t 12))⟩, ⟨some 14, some (9, false), .p (.lenv (.t 13))⟩, ⟨some 15, some (9, false), .p (.bin .eql 3 false true (.t 14) (.c (.int .i64 0)))⟩, ⟨some 16, none, .p (.pick (.t 9) (.c (.bool true)) (.t 15))⟩]
@[go_sem] def c34_s2 : List SQ := [⟨some 2, none, .p (.mv (.c (.int .u8 0)))⟩, ⟨some 3, none, .p (.mv (.c (.bool false)))⟩]
@[go_sem] def c34_s3 : List SQ := [⟨some 17, none, .p (.mv (.t 0))⟩, ⟨some 18, none, .p (.nilck (.t 17))⟩, ⟨some 19, none, .p (.fadr 2 (.t 18))⟩, ⟨some 20, none, .r (.ld none (.t 19))⟩, ⟨some 21, none, .p (.iadrS 1 (.t 20) (.c (.int .i64 0)))⟩, ⟨some 22, none, .r (.ld none (.t 21))⟩, ⟨some 4, none, .p (.mv (.t 22))⟩]
@[go_sem] def c34_p4 : List (List DQ × Option DQ) := [([⟨0, [(0, none)], none, .p (.mv (.t 0))⟩, ⟨1, [(0, none)], none, .p (.mv (.t 0))⟩, ⟨2, [(24, (some 1))], none, .p (.nilck (.t 24))⟩, ⟨3, [(25, (some 2))], none, .p (.fadr 2 (.t 25))⟩, ⟨4, [(26, (some 3))], none, .r (.ld none (.t 26))⟩, ⟨5, [(0, none)], none, .p (.mv (.t 0))⟩, ⟨6, [(28, (some 5))], none, .p (.nilck (.t 28))⟩, ⟨7, [(29, (some 6))], none, .p (.fadr 2 (.t 29))⟩, ⟨8, [(30, (some 7))], none, .r (.ld none (.t 30))⟩, ⟨9, [(31, (some 8))], none, .p (.lenv (.t 31))⟩, ⟨10, [(0, none)], none, .p (.mv (.t 0))⟩, ⟨11, [(33, (some 10))], none, .p (.nilck (.t 33))⟩, ⟨12, [(34, (some 11))], none, .p (.fadr 2 (.t 34))⟩, ⟨13, [(35, (some 12))], none, .r (.ld none (.t 35))⟩, ⟨14, [(36, (some 13))], none, .p (.lenv (.t 36))⟩, ⟨15, [(27, (some 4)), (32, (some 9)), (37, (some 14))], none, .p (.slc 1 (.t 27) (some (.c (.int .i64 1))) (some (.t 32)) (some (.t 37)))⟩, ⟨16, [(23, (some 0))], none, .p (.nilck (.t 23))⟩, ⟨17, [(39, (some 16))], none, .p (.fadr 2 (.t 39))⟩], (some ⟨18, [(40, (some 17)), (38, (some 15))], none, .e (.st 1 (.t 40) (.t 38))⟩)), ([], none)]
@[go_sem] def c34_p5 : List (List DQ × Option DQ) := [([⟨0, [(0, none)], none, .p (.mv (.t 0))⟩, ⟨1, [(42, (some 0))], none, .p (.nilck (.t 42))⟩, ⟨2, [(43, (some 1))], none, .p (.fadr 0 (.t 43))⟩, ⟨3, [(44, (some 2))], none, .r (.ld none (.t 44))⟩, ⟨5, [(0, none)], none, .p (.mv (.t 0))⟩, ⟨6, [(47, (some 5))], none, .p (.nilck (.t 47))⟩, ⟨7, [(48, (some 6))], none, .p (.fadr 1 (.t 48))⟩, ⟨8, [(49, (some 7))], none, .r (.ld none (.t 49))⟩, ⟨9, [(0, none)], none, .p (.mv (.t 0))⟩, ⟨10, [(51, (some 9))], none, .p (.nilck (.t 51))⟩, ⟨11, [(52, (some 10))], none, .p (.fadr 0 (.t 52))⟩, ⟨12, [(53, (some 11))], none, .r (.ld none (.t 53))⟩, ⟨13, [(4, none)], none, .p (.mv (.t 4))⟩, ⟨15, [(0, none)], none, .p (.mv (.t 0))⟩, ⟨16, [(57, (some 15))], none, .p (.nilck (.t 57))⟩, ⟨17, [(58, (some 16))], none, .p (.fadr 1 (.t 58))⟩, ⟨18, [(59, (some 17))], none, .r (.ld none (.t 59))⟩, ⟨19, [(60, (some 18))], none, .p (.conv .u64 (.t 60))⟩, ⟨20, [(61, (some 19))], none, .p (.bin .add 28 false true (.t 61) (.c (.int .u64 1)))⟩], (some ⟨4, [(45, (some 3))], none, .cv (.c (.fn (.func 79) [] [])) [(.t 45)]⟩)), ([], (some ⟨14, [(54, (some 12)), (55, (some 13))], none, .cv (.c (.fn (.func 81) [] [])) [(.t 54), (.t 55)]⟩)), ([], (some ⟨21, [(46, (some 4)), (50, (some 8)), (56, (some 14)), (62, (some 20))], none, .cv (.c (.fn (.func 80) [] [])) [(.t 46), (.t 50), (.t 56), (.c (.int .u64 0)), (.t 62)]⟩)), ([⟨22, [(63, (some 21))], none, .p (.mv (.t 63))⟩, ⟨23, [(41, (some 22))], none, .p (.extr (.t 41) 0)⟩, ⟨24, [(41, (some 22))], none, .p (.extr (.t 41) 1)⟩, ⟨25, [(64, (some 23))], none, .p (.mv (.t 64))⟩, ⟨26, [(65, (some 24))], none, .p (.mv (.t 65))⟩], none)]
@[go_sem] def c34_s6 : List SQ := [⟨some 67, none, .p (.mv (.t 5))⟩, ⟨some 66, none, .p (.mv (.t 67))⟩]
@[go_sem] def c34_s7 : List SQ := [⟨some 68, none, .p (.mv (.t 0))⟩, ⟨some 69, none, .p (.mv (.t 0))⟩, ⟨some 70, none, .p (.mv (.t 4))⟩, ⟨some 71, none, .p (.nilck (.t 68))⟩, ⟨some 72, none, .p (.fadr 2 (.t 71))⟩, ⟨none, none, .e (.st 1 (.t 72) (.c .nils))⟩, ⟨some 73, none, .p (.nilck (.t 69))⟩, ⟨some 74, none, .p (.fadr 3 (.t 73))⟩, ⟨none, none, .e (.st 1 (.t 74) (.t 70))⟩]
@[go_sem] def c34_s8 : List SQ := [⟨some 76, none, .p (.mv (.t 0))⟩, ⟨some 77, none, .p (.nilck (.t 76))⟩, ⟨some 78, none, .p (.fadr 2 (.t 77))⟩, ⟨some 79, none, .r (.ld none (.t 78))⟩, ⟨some 80, none, .p (.lenv (.t 79))⟩, ⟨some 81, none, .p (.bin .eql 3 false true (.t 80) (.c (.int .i64 0)))⟩, ⟨some 75, none, .p (.mv (.t 81))⟩]
@[go_sem] def c34_s9 : List SQ := [⟨some 82, none, .p (.mv (.t 0))⟩, ⟨some 83, none, .p (.nilck (.t 82))⟩, ⟨some 84, none, .p (.fadr 4 (.t 83))⟩, ⟨none, none, .e (.st 1 (.t 84) (.c (.int .i64 10)))⟩]
@[go_sem] def c34_p10 : List (List DQ × Option DQ) := [([⟨0, [(0, none)], none, .p (.mv (.t 0))⟩, ⟨1, [(85, (some 0))], none, .p (.nilck (.t 85))⟩, ⟨2, [(86, (some 1))], none, .p (.fadr 2 (.t 86))⟩, ⟨3, [(87, (some 2))], none, .r (.ld none (.t 87))⟩, ⟨4, [(88, (some 3))], none, .p (.lenv (.t 88))⟩, ⟨5, [(89, (some 4))], none, .p (.bin .eql 3 false true (.t 89) (.c (.int .i64 0)))⟩, ⟨6, [], none, .p (.mv (.c (.int .u8 35)))⟩, ⟨7, [(90, (some 5))], none, .p (.mv (.t 90))⟩], none)]
@[go_sem] def c34 : CF := ⟨1, (.seq (.ops c34_s0) (.seq (.seq (.ops c34_s1) (.cond (.t 16) (.seq (.ops c34_s2) .ret) .skip)) (.seq (.ops c34_s3) (.seq (.drw ⟨c34_p4, [(0, 23), (1, 24), (2, 25), (3, 26), (4, 27), (5, 28), (6, 29), (7, 30), (8, 31), (9, 32), (10, 33), (11, 34), (12, 35), (13, 36), (14, 37), (15, 38), (16, 39), (17, 40)], []⟩) (.seq (.drw ⟨c34_p5, [(0, 42), (1, 43), (2, 44), (3, 45), (4, 46), (5, 47), (6, 48), (7, 49), (8, 50), (9, 51), (10, 52), (11, 53), (12, 54), (13, 55), (14, 56), (15, 57), (16, 58), (17, 59), (18, 60), (19, 61), (20, 62), (21, 63), (22, 41), (23, 64), (24, 65), (25, 5), (26, 6)], [(⟨8, [(49, (some 7))], none, .r (.ld none (.t 49))⟩, [1, 2]), (⟨12, [(53, (some 11))], none, .r (.ld none (.t 53))⟩, [1]), (⟨18, [(59, (some 17))], none, .r (.ld none (.t 59))⟩, [1, 2])]⟩) (.seq (.block 0 (.seq (.ops c34_s6) (.cond (.t 66) (.ops c34_s7) (.seq (.ops c34_s8) (.cond (.t 75) (.ops c34_s9) .skip))))) (.seq (.drw ⟨c34_p10, [(0, 85), (1, 86), (2, 87), (3, 88), (4, 89), (5, 90), (6, 2), (7, 3)], []⟩) .ret))))))), [.tmp 2, .tmp 3]⟩
theorem BaseH.step {h h' : H} {B : Nat} {c : CfgT} {p : PlT} {M W R : Nat} (b : BaseH h B c p M W R) (s : StepN h h') : BaseH h' B c p M W R := by
  obtain ⟨⟨L, P, Tw, V, G, g, hL⟩, ⟨n, hn, hR⟩, lt⟩ := b
  exact ⟨⟨L, P, Tw, V, G, (s.old B lt).trans g, hL.step s⟩, ⟨n, hn, hR.step s⟩, Nat.lt_of_lt_of_le lt s.next⟩
section
variable (P : Program) [PT P] {call : CallE} {h : H} {B : Nat} {c : CfgT} {p : PlT} {M W R : Nat}
def F84 (call : CallE) : Prop := ∀ h L c p hs, LayH h L c p hs → c.cuts.length ≤ 1000 → ∃ v h', call 84 [.ptr L 0] h = some (v, h') ∧ ((∃ cv, v = .agg (cfgC c cv) ∧ oneA cv = true) ∧ StepN h h')
theorem w38 (h84 : F84 call) (hb : BaseH h B c p M W R) (hl : c.cuts.length ≤ 1000) : WF P call c38 [.ptr B 0] h fun v h' => (∃ cv, v = .agg (cfgC c cv) ∧ oneA cv = true) ∧ StepN h h' := by
  obtain ⟨⟨L, P', Tw, V, G, g, hL⟩, ⟨n, hn, hR⟩, lt⟩ := hb
  have x1 : ¬ B = h.next := by omega
  simp only [go_sem, ↓reduceIte, ↓reduceDIte, zA, zM, zL, zE, zD, yA, yE, yL, yQ, yT, reduceCtorEq, c38, g, x1]
  have st0 := StepN.new h (.row (putList 0 [.int .i64 0, .int .i64 0, .int .u8 0, .int .i64 0, .int .u8 0, .int .i64 0, .nils, .int .i64 0, .int .i64 0, .int .i64 0, .int .i64 0, .int .i64 0, .int .i64 0, .int .i64 0, .int .i64 0, .int .i64 0] T.e) 16 27)
  refine opt_by (h84 _ L c p _ (hL.step st0) hl) fun v1 h1 p1 => ?_
  obtain ⟨⟨cv, rfl, ov⟩, st1⟩ := p1
  have g1 := st1.old h.next (Nat.lt_succ_self _)
  simp only [go_sem, ↓reduceIte, ↓reduceDIte, zA, zM, zL, zE, zD, yA, yE, yL, yQ, yT, reduceCtorEq] at g1
  have nx : h.next < h1.next := st1.next
  simp only [go_sem, ↓reduceIte, ↓reduceDIte, zA, zM, zL, zE, zD, yA, yE, yL, yQ, yT, reduceCtorEq, g1, cfgC, ov]
  refine ⟨⟨cv, rfl, ov⟩, by show h.next ≤ h1.next; omega, fun b hb => ?_⟩
  have e1 : ¬ b = h.next := by omega
  have := st1.old b (by show b < h.next + 1; omega)
  simp only [go_sem, ↓reduceIte, ↓reduceDIte, zA, zM, zL, zE, zD, yA, yE, yL, yQ, yT, reduceCtorEq, e1] at this
  simp only [go_sem, ↓reduceIte, ↓reduceDIte, zA, zM, zL, zE, zD, yA, yE, yL, yQ, yT, reduceCtorEq, e1, this]
theorem w114 (hb : BaseH h B c p M W R) : WF P call c114 [.ptr B 0] h fun v h' => (∃ L, v = .ptr L 0 ∧ LayH h L c p (hsL c)) ∧ h' = h := by
  obtain ⟨⟨L, P', Tw, V, G, g, hL⟩, ⟨n, hn, hR⟩, lt⟩ := hb
  simp only [go_sem, ↓reduceIte, ↓reduceDIte, zA, zM, zL, zE, zD, yA, yE, yL, yQ, yT, reduceCtorEq, c114, g]
  exact ⟨L, rfl, hL⟩
theorem w79 (hb : BaseH h B c p M W R) : WF P call c79 [.ptr B 0] h fun v h' => v = .ptr M 0 ∧ h' = h := by
  obtain ⟨⟨L, P', Tw, V, G, g, hL⟩, ⟨n, hn, hR⟩, lt⟩ := hb
  simp only [go_sem, ↓reduceIte, ↓reduceDIte, zA, zM, zL, zE, zD, yA, yE, yL, yQ, yT, reduceCtorEq, c79, g]
theorem w41 (hb : BaseH h B c p M W R) : WF P call c41 [.ptr B 0] h fun v h' => v = .ptr R 0 ∧ h' = h := by
  obtain ⟨⟨L, P', Tw, V, G, g, hL⟩, ⟨n, hn, hR⟩, lt⟩ := hb
  simp only [go_sem, ↓reduceIte, ↓reduceDIte, zA, zM, zL, zE, zD, yA, yE, yL, yQ, yT, reduceCtorEq, c41, g]
def F114 (call : CallE) : Prop := ∀ h B c p M W R, BaseH h B c p M W R → ∃ v h', call 114 [.ptr B 0] h = some (v, h') ∧ ((∃ L, v = .ptr L 0 ∧ LayH h L c p (hsL c)) ∧ h' = h)
theorem w81 (h114 : F114 call) (h26 : F26 call) (hb : BaseH h B c p M W R) (ho : p.ow = 0) {s : Int} (s0 : 0 ≤ s) (s1 : s ≤ 1000) : WF P call c81 [.ptr B 0, .int .i64 s] h fun v h' => v = .int .i64 s ∧ StepN h h' := by
  simp only [go_sem, ↓reduceIte, ↓reduceDIte, zA, zM, zL, zE, zD, yA, yE, yL, yQ, yT, reduceCtorEq, c81]
  refine opt_by (h114 h B c p M W R hb) fun v1 h1 p1 => ?_
  obtain ⟨⟨L, rfl, hL⟩, rfl⟩ := p1
  simp only [go_sem, ↓reduceIte, ↓reduceDIte, zA, zM, zL, zE, zD, yA, yE, yL, yQ, yT, reduceCtorEq]
  refine opt_by (h26 h1 L c p _ hL) fun v2 h2 p2 => ?_
  obtain ⟨rfl, st⟩ := p2
  have f1 : fw .i64 s = s := fwI (by omega) (by omega)
  simp only [go_sem, ↓reduceIte, ↓reduceDIte, zA, zM, zL, zE, zD, yA, yE, yL, yQ, yT, reduceCtorEq, plC, part3, ho, Int.zero_add, f1]
  exact st
end
/-- so many numbers from 0 on -/
def upL (n : Nat) : List AV := (List.range n).map fun (i : Nat) => AV.int .i64 (i : Int)
theorem upL_len (n : Nat) : (upL n).length = n := by unfold upL; rw [List.length_map, List.length_range]
theorem upL_succ (n : Nat) : upL n ++ [.int .i64 (n : Int)] = upL (n + 1) := by unfold upL; rw [List.range_succ, List.map_append]; rfl
def F38 (call : CallE) : Prop := ∀ h B c p M W R, BaseH h B c p M W R → c.cuts.length ≤ 1000 → ∃ v h', call 38 [.ptr B 0] h = some (v, h') ∧ ((∃ cv, v = .agg (cfgC c cv) ∧ oneA cv = true) ∧ StepN h h')
def I33 (h0 : H) (O B : Nat) (t : Int) (n : Nat) (k : Nat) (tm : T AV) (h : H) : Prop :=
  tm.get 6 = some (.ptr O 0) ∧ tm.get 22 = some (.int .i64 (n : Int)) ∧ StepN h0 h ∧ h0.next ≤ O ∧ O < h.next ∧ ∃ (i : Nat) (lv : AV), i + k = n ∧ tm.get 23 = some (.int .i64 (i : Int)) ∧ h.t.get O = some (rowL [.ptr B 0, .int .i64 t, lv, .int .i64 0, .int .i64 0] 240) ∧ Own 1 3 h lv i (upL i) ∧ (∀ a, own lv = some a → h0.next ≤ a ∧ a ≠ O)
def R33 (h0 : H) (O B : Nat) (t : Int) (n : Nat) (tm : T AV) (h : H) : Prop :=
  tm.get 6 = some (.ptr O 0) ∧ StepN h0 h ∧ O < h.next ∧ ∃ lv, h.t.get O = some (rowL [.ptr B 0, .int .i64 t, lv, .int .i64 0, .int .i64 0] 240) ∧ Own 1 3 h lv n (upL n) ∧ (∀ a, own lv = some a → h0.next ≤ a ∧ a ≠ O)
theorem step33 (P : Program) {call : CallE} {h0 : H} {O B : Nat} {t : Int} {n : Nat} (hn : n ≤ 64) (k : Nat) (tm : T AV) (h : H) (hI : I33 h0 O B t n k tm h) :
    WC P call c33_l11 (loopQ 0 (fun tm h => ∃ j, j < k ∧ I33 h0 O B t n j tm h) (R33 h0 O B t n) (fun _ _ => False)) tm h := by
  obtain ⟨t6, t22, st, hO, lO, i, lv, hik, t23, gO, ol, oll⟩ := hI
  cases k with
  | zero =>
    have e1 : ¬ (i : Int) < (n : Int) := by omega
    obtain rfl : i = n := by omega
    simp only [go_sem, ↓reduceIte, ↓reduceDIte, zA, zM, zL, zE, zD, yA, yE, yL, yQ, yT, reduceCtorEq, c33_l11, t22, t23, e1]
    exact ⟨by simp [go_sem, t6], st, lO, lv, gO, ol, oll⟩
  | succ k =>
    have e1 : (i : Int) < (n : Int) := by omega
    have f1 : fw .i64 ((i : Int) + 1) = (i : Int) + 1 := fwI (by omega) (by omega)
    have e3 : ((i + 1 : Nat) : Int) = (i : Int) + 1 := rfl
    have o1 : ¬ O = h.next := by omega
    have ov := ol.one
    have st0 := StepN.new h (.row (putList 0 [.int .i64 (i : Int)] T.e) 1 3)
    have ol1 : Own 1 3 ⟨h.next + 1, h.t.set h.next (.row (putList 0 [.int .i64 (i : Int)] T.e) 1 3)⟩ lv _ _ := ol.keep st0.next fun b hb => st0.old b (ol.lt hb)
    have hne : own lv ≠ some O := fun hh => (oll _ hh).2 rfl
    simp only [go_sem, ↓reduceIte, ↓reduceDIte, zA, zM, zL, zE, zD, yA, yE, yL, yQ, yT, reduceCtorEq, c33_l11, t6, t22, t23, e1, gO, o1]
    refine opt_some (appA_own ol1 (by decide) (by decide) (by omega) (by omega)) ?_
    have gg := fun b hb hh => app_get (h := ⟨h.next + 1, h.t.set h.next (.row (putList 0 [.int .i64 (i : Int)] T.e) 1 3)⟩) (e := 3) (v := lv) (cs := upL i ++ [.int .i64 (i : Int)]) (b := b) hb hh
    have gO1 := gg O (by show O < h.next + 1; omega) hne
    have oA1 := own_app ol1 (src := [.int .i64 (i : Int)]) (n := 1) (by decide) rfl
    have ov1 := oA1.one
    simp only [go_sem, ↓reduceIte, ↓reduceDIte, zA, zM, zL, zE, zD, yA, yE, yL, yQ, yT, reduceCtorEq, o1, gO] at gO1
    simp only [go_sem, ↓reduceIte, ↓reduceDIte, zA, zM, zL, zE, zD, yA, yE, yL, yQ, yT, reduceCtorEq, gO1, ov1, app_next, f1, t6, t22, t23]
    have nx := st.next
    refine ⟨k, Nat.lt_succ_self k, by simp [go_sem, t6], by simp [go_sem, t22], ⟨by show h0.next ≤ h.next + 2; omega, fun b hb => ?_⟩, hO, by show O < h.next + 2; omega, i + 1, appV ⟨h.next + 1, h.t.set h.next (.row (putList 0 [.int .i64 (i : Int)] T.e) 1 3)⟩ 1 (i + 1), by omega, by simp [go_sem, e3], by simp [go_sem], ?_, ?_⟩
    · have n1 : ¬ b = h.next := by omega
      have n2 : ¬ b = O := by omega
      have g1 := gg b (by show b < h.next + 1; omega) (fun hh => by have := (oll _ hh).1; omega)
      simp only [go_sem, ↓reduceIte, ↓reduceDIte, zA, zM, zL, zE, zD, yA, yE, yL, yQ, yT, reduceCtorEq, n1] at g1
      simp only [go_sem, ↓reduceIte, ↓reduceDIte, zA, zM, zL, zE, zD, yA, yE, yL, yQ, yT, reduceCtorEq, n2, g1]
      exact st.old b hb
    · rw [upL_succ] at oA1
      refine oA1.keep (by show h.next + 1 + 1 ≤ h.next + 2; omega) fun b hb => ?_
      rw [own_appV] at hb
      obtain rfl := Option.some.inj hb
      have n2 : ¬ h.next + 1 = O := by omega
      simp only [go_sem, ↓reduceIte, ↓reduceDIte, zA, zM, zL, zE, zD, yA, yE, yL, yQ, yT, reduceCtorEq, n2, upL_succ]
    · intro a ha
      rw [own_appV] at ha
      obtain rfl := Option.some.inj ha
      exact ⟨by show h0.next ≤ h.next + 1; omega, by show h.next + 1 ≠ O; omega⟩
def Post33 (B : Nat) (t : Int) (n : Nat) (h : H) (v : AV) (h' : H) : Prop :=
  StepN h h' ∧ ∃ O lv, v = .tup [.ptr O 0, .int .i64 0] ∧ h.next ≤ O ∧ O < h'.next ∧ h'.t.get O = some (rowL [.ptr B 0, .int .i64 t, lv, .int .i64 0, .int .i64 0] 240) ∧ Own 1 3 h' lv n (upL n) ∧ (∀ a, own lv = some a → h.next ≤ a ∧ a ≠ O)
theorem w33 (P : Program) [PT P] {call : CallE} (h38 : F38 call) {h : H} {B : Nat} {c : CfgT} {p : PlT} {M W R : Nat} (hb : BaseH h B c p M W R) (hl : c.cuts.length ≤ 1000) {n : Nat} (hn : c.slots = (n : Int)) (hn2 : n ≤ 64) {t : Int} (t0 : 0 ≤ t) (t1 : t < 64) :
    WF P call c33 [.ptr B 0, .int .i64 t] h (Post33 B t n h) := by
  have e1 : ¬ t < 0 := by omega
  have e2 : t < 64 := t1
  have st0 := StepN.new h (.row (putList 0 [.ptr B 0, .int .i64 t, .nils, .int .i64 0, .int .i64 0] T.e) 5 240)
  simp only [go_sem, ↓reduceIte, ↓reduceDIte, zA, zM, zL, zE, zD, yA, yE, yL, yQ, yT, reduceCtorEq, c33, e1, e2]
  refine opt_by (h38 _ B c p M W R (hb.step st0) hl) fun v1 h1 p1 => ?_
  obtain ⟨⟨cv, rfl, ov⟩, st1⟩ := p1
  have g1 := st1.old h.next (Nat.lt_succ_self _)
  simp only [go_sem, ↓reduceIte, ↓reduceDIte, zA, zM, zL, zE, zD, yA, yE, yL, yQ, yT, reduceCtorEq] at g1
  have nx : h.next < h1.next := st1.next
  simp only [go_sem, ↓reduceIte, ↓reduceDIte, zA, zM, zL, zE, zD, yA, yE, yL, yQ, yT, reduceCtorEq, cfgC, part3, hn]
  refine loop_in (I33 h h.next B t n) _ _ (fun k tm h' hI => step33 P hn2 k tm h' hI) (fun tm2 h2 hR => ?_) (fun _ _ hh => hh.elim) n _ _
    ⟨by simp [go_sem], by simp [go_sem], st0.trans st1, Nat.le_refl _, nx, 0, .nils, by omega, by simp [go_sem], g1, .nil, fun a ha => by cases ha⟩
  obtain ⟨t6, st2, lO, lv, gO, ol, oll⟩ := hR
  simp only [go_sem, ↓reduceIte, ↓reduceDIte, zA, zM, zL, zE, zD, yA, yE, yL, yQ, yT, reduceCtorEq, t6]
  exact ⟨st2, h.next, lv, rfl, Nat.le_refl _, lO, gO, ol, oll⟩
/-- a compare-and-swap of a word -/
def F157 (call : CallE) : Prop := ∀ h W i (x y z : Int) cs n e, h.t.get W = some (.row (putList 0 cs T.e) n e) → cs[i]? = some (.int .u64 x) → i < n → call 157 [.ptr W i, .int .u64 y, .int .u64 z] h = some (.bool (decide (x = y)), if x = y then ⟨h.next, h.t.set W (.row (putList 0 (cs.set i (.int .u64 z)) T.e) n e)⟩ else h)
theorem w112 (P : Program) {call : CallE} (h157 : F157 call) {h : H} {W i : Nat} {x z : Int} {cs : List AV} {n : Nat} {e : TypeId} (hg : h.t.get W = some (.row (putList 0 cs T.e) n e)) (hi : cs[i]? = some (.int .u64 x)) (hn : i < n) : WF P call c112 [.ptr W i, .int .u64 x, .int .u64 z] h fun v h' => v = .bool true ∧ h' = ⟨h.next, h.t.set W (.row (putList 0 (cs.set i (.int .u64 z)) T.e) n e)⟩ := by
  have hc := h157 h W i x x z cs n e hg hi hn
  rw [if_pos rfl, decide_eq_true rfl] at hc
  simp only [go_sem, ↓reduceIte, ↓reduceDIte, zA, zM, zL, zE, zD, yA, yE, yL, yQ, yT, reduceCtorEq, c112, hc]
theorem w113 (P : Program) {call : CallE} {h : H} {M : Nat} {v : AV} (hM : M < h.next) (g : h.t.get M = some (.row (putList 0 [v, .nils] T.e) 2 177)) {t a o w : Int} {k : Int} {b : Bool} :
    WF P call c113 [.ptr M 0, .int .i64 t, .int .i64 a, .int .u8 k, .int .u64 o, .int .u64 w, .bool b] h fun v' h' => v' = .tup [] ∧ h.next ≤ h'.next ∧ (∀ b, b < h.next → b ≠ M → h'.t.get b = h.t.get b) ∧ ∃ lg, oneA lg = true ∧ h'.t.get M = some (.row (putList 0 [v, lg] T.e) 2 177) := by
  have x1 : ¬ M = h.next := by omega
  have x2 : ¬ M = h.next + 1 := by omega
  have hap : ∀ src : List AV, appA ⟨h.next + 1, h.t.set h.next (.row (putList 0 src T.e) 6 313)⟩ 313 6 48 .nils 1 src = some (appV ⟨h.next + 1, h.t.set h.next (.row (putList 0 src T.e) 6 313)⟩ 6 1, appT ⟨h.next + 1, h.t.set h.next (.row (putList 0 src T.e) 6 313)⟩ 313 .nils src) := fun src => appA_nil (by decide) (by decide) (by decide)
  simp only [go_sem, ↓reduceIte, ↓reduceDIte, zA, zM, zL, zE, zD, yA, yE, yL, yQ, yT, reduceCtorEq, c113, g, x1, hap]
  unfold appT appV
  simp only [go_sem, ↓reduceIte, ↓reduceDIte, zA, zM, zL, zE, zD, yA, yE, yL, yQ, yT, reduceCtorEq, x1, x2, g]
  refine ⟨fun b hb hn => ?_, .sl (h.next + 1) 0 1 6 none, rfl, rfl⟩
  have e1 : ¬ b = h.next := by omega
  have e2 : ¬ b = h.next + 1 := by omega
  simp only [go_sem, ↓reduceIte, ↓reduceDIte, zA, zM, zL, zE, zD, yA, yE, yL, yQ, yT, reduceCtorEq, e1, e2, hn]
end
end Go.Proofs.YtldmhpdjlgoenaaGreatDoor.BN
