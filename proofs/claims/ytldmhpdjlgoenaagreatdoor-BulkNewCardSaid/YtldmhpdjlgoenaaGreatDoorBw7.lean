/-
  Operations on ranges: New, Next.
  The reference's layout: groups of words.
-/
import Derived.Test.YtldmhpdjlgoenaaGreatDoorBw6
set_option linter.unusedVariables false
set_option linter.unusedSimpArgs false
namespace Go.Proofs.YtldmhpdjlgoenaaGreatDoor.BN
open Go.Proofs.YtldmhpdjlgoenaaGreatDoor.Eo
open Nat renaming reduceAdd → zA, reduceMul → zM, reduceLT → zL, reduceEqDiff → zE, reduceLeDiff → zD
open Int renaming reduceAdd → yA, reduceLE → yE, reduceLT → yL, reduceEq → yQ, reduceToNat → yT
noncomputable section
/-! 15: leapfrog/bulk.New -/
@[go_sem] def c15_s0 : List SQ := [⟨some 8, none, .n (.box 30 (.t 3))⟩, ⟨some 10, none, .p (.mv (.c .nilp))⟩, ⟨some 11, none, .p (.mv (.c (.int .i64 0)))⟩]
@[go_sem] def c15_s1 : List SQ := [⟨some 15, none, .p (.mv (.t 0))⟩, ⟨some 16, none, .p (.bin .eql 36 false true (.t 15) (.c .nilp))⟩, ⟨some 17, none, .p (.mv (.t 16))⟩, ⟨some 18, some (17, false), .p (.mv (.t 4))⟩, ⟨some 19, some (17, false), .p (.bin .eql 50 false true (.t 18) (.c .nilp))⟩, ⟨some 20, none, .p (.pick (.t 17) (.c (.bool true)) (.t 19))⟩]
@[go_sem] def c15_s2 : List SQ := [⟨some 10, none, .p (.mv (.c .nilp))⟩, ⟨some 11, none, .p (.mv (.c (.int .i64 1)))⟩]
@[go_sem] def c15_s3 : List SQ := [⟨some 21, none, .p (.fadr 0 (.t 8))⟩, ⟨some 22, none, .r (.ld none (.t 21))⟩, ⟨some 23, none, .p (.bin .neq 5 false true (.t 22) (.c (.int .u8 8)))⟩, ⟨some 24, none, .p (.mv (.t 23))⟩, ⟨some 25, some (24, true), .p (.fadr 0 (.t 8))⟩, ⟨some 26, some (24, true), .r (.ld none (.t 25))⟩, ⟨some 27, some (24, true), .p (.bin .neq 5 false true (.t 26) (.c (.int .u8 9)))⟩, ⟨some 28, none, .p (.pick (.t 24) (.t 27) (.c (.bool false)))⟩, ⟨some 29, none, .p (.mv (.t 28))⟩, ⟨some 30, some (29, false), .p (.mv (.t 1))⟩, ⟨some 31, some (29, false), .p (.bin .lss 3 false true (.t 30) (.c (.int .i64 0)))⟩, ⟨some 32, none, .p (.pick (.t 29) (.c (.bool true)) (.t 31))⟩, ⟨some 33, none, .p (.mv (.t 32))⟩, ⟨some 34, some (33, false), .p (.mv (.t 1))⟩, ⟨some 35, some (33, false), .p (.bin .geq 3 false true (.t 34) (.c (.int .i64 64)))⟩, ⟨some 36, none, .p (.pick (.t 33) (.c (.bool true)) (.t 35))⟩]
@[go_sem] def c15_s4 : List SQ := [⟨some 10, none, .p (.mv (.c .nilp))⟩, ⟨some 11, none, .p (.mv (.c (.int .i64 2)))⟩]
@[go_sem] def c15_s5 : List SQ := [⟨some 37, none, .p (.mv (.t 2))⟩, ⟨some 38, none, .p (.bin .lss 3 false true (.t 37) (.c (.int .i64 0)))⟩, ⟨some 39, none, .p (.mv (.t 38))⟩, ⟨some 40, some (39, false), .p (.mv (.t 2))⟩, ⟨some 41, some (39, false), .p (.mv (.t 0))⟩, ⟨some 42, some (39, false), .cv (.c (.fn (.func 38) [] [])) [(.t 41)]⟩, ⟨some 43, some (39, false), .p (.fld 3 1 (.t 42))⟩, ⟨some 44, some (39, false), .p (.bin .geq 3 false false (.t 40) (.t 43))⟩, ⟨some 45, none, .p (.pick (.t 39) (.c (.bool true)) (.t 44))⟩]
@[go_sem] def c15_s6 : List SQ := [⟨some 10, none, .p (.mv (.c .nilp))⟩, ⟨some 11, none, .p (.mv (.c (.int .i64 3)))⟩]
@[go_sem] def c15_s7 : List SQ := [⟨some 46, none, .p (.mv (.t 0))⟩, ⟨some 47, none, .cv (.c (.fn (.func 39) [] [])) [(.t 46)]⟩, ⟨some 48, none, .p (.mv (.t 2))⟩, ⟨some 49, none, .p (.iadrS 1 (.t 47) (.t 48))⟩, ⟨some 50, none, .r (.ld none (.t 49))⟩, ⟨some 51, none, .p (.mv (.t 1))⟩, ⟨some 52, none, .p (.bin .neq 3 false false (.t 50) (.t 51))⟩, ⟨some 53, none, .p (.mv (.t 52))⟩, ⟨some 54, some (53, false), .p (.mv (.t 0))⟩, ⟨some 55, some (53, false), .cv (.c (.fn (.func 41) [] [])) [(.t 54)]⟩, ⟨some 56, some (53, false), .cv (.c (.fn (.func 42) [] [])) [(.t 55)]⟩, ⟨some 57, some (53, false), .p (.mv (.t 2))⟩, ⟨some 58, some (53, false), .cv (.c (.fn (.func 40) [] [])) [(.t 56), (.t 57)]⟩, ⟨some 59, none, .p (.pick (.t 53) (.c (.bool true)) (.t 58))⟩]
@[go_sem] def c15_s8 : List SQ := [⟨some 10, none, .p (.mv (.c .nilp))⟩, ⟨some 11, none, .p (.mv (.c (.int .i64 8)))⟩]
@[go_sem] def c15_s9 : List SQ := [⟨some 60, none, .p (.mv (.t 0))⟩, ⟨some 61, none, .p (.mv (.t 1))⟩, ⟨some 62, none, .p (.mv (.t 2))⟩, ⟨some 63, none, .r (.ld (some 7) (.t 8))⟩, ⟨some 64, none, .p (.mv (.t 4))⟩, ⟨some 65, none, .p (.fadr 1 (.t 8))⟩, ⟨some 66, none, .r (.ld none (.t 65))⟩, ⟨some 67, none, .p (.fadr 2 (.t 8))⟩, ⟨some 68, none, .r (.ld none (.t 67))⟩, ⟨some 69, none, .p (.build [.int .u64 0, .int .u64 0] [(0, 1, (.t 66)), (1, 1, (.t 68))])⟩, ⟨some 70, none, .p (.build [.nilp, .int .i64 0, .int .i64 0, .int .u8 0, .int .u64 0, .int .u64 0, .int .u64 0, .int .u64 0, .int .u64 0, .int .u64 0, .nilp, .int .u64 0, .int .u64 0, .int .u64 0, .int .u64 0, .int .u64 0, .int .u64 0, .nils, .nilf, .int .i64 0, .int .u64 0, .nils, .nils, .nils, .bool false, .bool false, .bool false, .bool false, .int .i64 0, .bool false, .int .u64 0, .int .u64 0, .int .i64 0] [(0, 1, (.t 60)), (1, 1, (.t 61)), (2, 1, (.t 62)), (3, 7, (.t 63)), (10, 1, (.t 64)), (11, 2, (.t 69))])⟩, ⟨some 71, none, .n (.box 139 (.t 70))⟩, ⟨some 12, none, .p (.mv (.t 71))⟩]
@[go_sem] def c15_s10 : List SQ := [⟨some 72, none, .p (.mv (.t 12))⟩, ⟨some 73, none, .p (.nilck (.t 72))⟩, ⟨some 74, none, .p (.fadr 11 (.t 73))⟩, ⟨some 75, none, .r (.ld (some 2) (.t 74))⟩, ⟨some 76, none, .cv (.c (.fn (.func 43) [] [])) [(.t 75)]⟩, ⟨some 77, none, .p (.bin .neq 34 false true (.t 76) (.c (.int .i64 0)))⟩, ⟨some 78, none, .p (.mv (.t 77))⟩, ⟨some 79, some (78, false), .p (.fadr 0 (.t 8))⟩, ⟨some 80, some (78, false), .r (.ld none (.t 79))⟩, ⟨some 81, some (78, false), .p (.bin .eql 5 false true (.t 80) (.c (.int .u8 8)))⟩, ⟨some 82, some (78, false), .p (.mv (.t 81))⟩, ⟨some 83, some (82, true), .p (.fadr 5 (.t 8))⟩, ⟨some 84, some (82, true), .r (.ld none (.t 83))⟩, ⟨some 85, some (82, true), .p (.bin .eql 28 false true (.t 84) (.c (.int .u64 0)))⟩, ⟨some 86, some (78, false), .p (.pick (.t 82) (.t 85) (.c (.bool false)))⟩, ⟨some 87, none, .p (.pick (.t 78) (.c (.bool true)) (.t 86))⟩]
@[go_sem] def c15_s11 : List SQ := [⟨some 10, none, .p (.mv (.c .nilp))⟩, ⟨some 11, none, .p (.mv (.c (.int .i64 13)))⟩]
@[go_sem] def c15_s12 : List SQ := [⟨some 88, none, .p (.mv (.t 12))⟩, ⟨some 89, none, .p (.mv (.t 12))⟩, ⟨some 90, none, .p (.nilck (.t 89))⟩, ⟨some 91, none, .p (.fadr 11 (.t 90))⟩, ⟨some 92, none, .r (.ld (some 2) (.t 91))⟩, ⟨some 93, none, .p (.nilck (.t 88))⟩, ⟨some 94, none, .p (.fadr 15 (.t 93))⟩, ⟨none, none, .e (.st 2 (.t 94) (.t 92))⟩]
@[go_sem] def c15_s13 : List SQ := [⟨some 95, none, .p (.fadr 0 (.t 8))⟩, ⟨some 96, none, .r (.ld none (.t 95))⟩, ⟨some 97, none, .p (.bin .eql 5 false true (.t 96) (.c (.int .u8 8)))⟩]
@[go_sem] def c15_p14 : List (List DQ × Option DQ) := [([⟨0, [(12, none)], none, .p (.mv (.t 12))⟩, ⟨1, [(99, (some 0))], none, .p (.nilck (.t 99))⟩, ⟨2, [(100, (some 1))], none, .p (.fadr 11 (.t 100))⟩, ⟨3, [(101, (some 2))], none, .r (.ld (some 2) (.t 101))⟩, ⟨4, [(8, none)], none, .p (.fadr 5 (.t 8))⟩, ⟨5, [(103, (some 4))], none, .r (.ld none (.t 103))⟩, ⟨10, [], none, .n (.new 132 [.int .u64 0, .int .u64 0])⟩], (some ⟨6, [(102, (some 3)), (104, (some 5))], none, .cv (.c (.fn (.func 44) [] [])) [(.t 102), (.t 104)]⟩)), ([⟨7, [(105, (some 6))], none, .p (.mv (.t 105))⟩, ⟨8, [(98, (some 7))], none, .p (.extr (.t 98) 0)⟩, ⟨9, [(98, (some 7))], none, .p (.extr (.t 98) 1)⟩], (some ⟨11, [(13, (some 10)), (106, (some 8))], none, .e (.st 2 (.t 13) (.t 106))⟩)), ([⟨12, [(107, (some 9))], none, .p (.mv (.t 107))⟩], none)]
@[go_sem] def c15_s15 : List SQ := [⟨some 108, none, .p (.mv (.t 14))⟩, ⟨some 109, none, .p (.bin .neq 34 false true (.t 108) (.c (.int .i64 0)))⟩]
@[go_sem] def c15_s16 : List SQ := [⟨some 110, none, .p (.mv (.t 14))⟩, ⟨some 10, none, .p (.mv (.c .nilp))⟩, ⟨some 11, none, .p (.mv (.t 110))⟩]
@[go_sem] def c15_s17 : List SQ := [⟨some 111, none, .p (.mv (.t 12))⟩, ⟨some 112, none, .r (.ld (some 2) (.t 13))⟩, ⟨some 113, none, .p (.nilck (.t 111))⟩, ⟨some 114, none, .p (.fadr 13 (.t 113))⟩, ⟨none, none, .e (.st 2 (.t 114) (.t 112))⟩]
@[go_sem] def c15_s18 : List SQ := [⟨some 115, none, .p (.mv (.t 12))⟩, ⟨some 116, none, .p (.fadr 1 (.t 13))⟩, ⟨some 117, none, .r (.ld none (.t 116))⟩, ⟨some 118, none, .p (.nilck (.t 115))⟩, ⟨some 119, none, .p (.fadr 15 (.t 118))⟩, ⟨some 120, none, .p (.fadr 1 (.t 119))⟩, ⟨none, none, .e (.st 1 (.t 120) (.t 117))⟩]
@[go_sem] def c15_s19 : List SQ := [⟨some 121, none, .p (.mv (.t 12))⟩, ⟨some 122, none, .cv (.c (.fn (.func 45) [] [])) [(.t 121)]⟩]
@[go_sem] def c15_s20 : List SQ := [⟨some 123, none, .p (.mv (.t 12))⟩, ⟨some 10, none, .p (.mv (.t 123))⟩, ⟨some 11, none, .p (.mv (.c (.int .i64 0)))⟩]
@[go_sem] def c15 : CF := ⟨5, (.seq (.ops c15_s0) (.seq (.seq (.ops c15_s1) (.cond (.t 20) (.seq (.ops c15_s2) .ret) .skip)) (.seq (.seq (.ops c15_s3) (.cond (.t 36) (.seq (.ops c15_s4) .ret) .skip)) (.seq (.seq (.ops c15_s5) (.cond (.t 45) (.seq (.ops c15_s6) .ret) .skip)) (.seq (.seq (.ops c15_s7) (.cond (.t 59) (.seq (.ops c15_s8) .ret) .skip)) (.seq (.ops c15_s9) (.seq (.seq (.ops c15_s10) (.cond (.t 87) (.seq (.ops c15_s11) .ret) .skip)) (.seq (.ops c15_s12) (.seq (.seq (.ops c15_s13) (.cond (.t 97) (.seq (.drw ⟨c15_p14, [(0, 99), (1, 100), (2, 101), (3, 102), (4, 103), (5, 104), (6, 105), (7, 98), (8, 106), (9, 107), (10, 13), (12, 14)], [(⟨3, [(101, (some 2))], none, .r (.ld (some 2) (.t 101))⟩, [0]), (⟨5, [(103, (some 4))], none, .r (.ld none (.t 103))⟩, [0])]⟩) (.seq (.seq (.ops c15_s15) (.cond (.t 109) (.seq (.ops c15_s16) .ret) .skip)) (.seq (.ops c15_s17) (.ops c15_s18)))) .skip)) (.seq (.ops c15_s19) (.seq (.ops c15_s20) .ret))))))))))), [.tmp 10, .tmp 11]⟩
/-! 17: (*leapfrog/bulk.Bulk).Next -/
@[go_sem] def c17_s0 : List SQ := [⟨some 2, none, .p (.mv (.c (.int .u8 0)))⟩]
@[go_sem] def c17_s1 : List SQ := [⟨some 5, none, .p (.mv (.t 0))⟩, ⟨some 6, none, .p (.bin .eql 56 false true (.t 5) (.c .nilp))⟩, ⟨some 7, none, .p (.mv (.t 6))⟩, ⟨some 8, some (7, false), .p (.mv (.t 0))⟩, ⟨some 9, some (7, false), .p (.nilck (.t 8))⟩, ⟨some 10, some (7, false), .p (.fadr 27 (.t 9))⟩, ⟨some 11, some (7, false), .r (.ld none (.t 10))⟩, ⟨some 12, none, .p (.pick (.t 7) (.c (.bool true)) (.t 11))⟩]
@[go_sem] def c17_s2 : List SQ := [⟨some 2, none, .p (.mv (.c (.int .u8 0)))⟩]
@[go_sem] def c17_s3 : List SQ := [⟨some 14, none, .p (.mv (.t 0))⟩, ⟨some 15, none, .p (.nilck (.t 14))⟩, ⟨some 16, none, .p (.fadr 17 (.t 15))⟩, ⟨some 17, none, .r (.ld none (.t 16))⟩, ⟨some 18, none, .p (.iadrS 1 (.t 17) (.c (.int .i64 0)))⟩, ⟨some 19, none, .r (.ld none (.t 18))⟩, ⟨some 20, none, .ci (.t 19) "leapfrog/bulk.run" [(.c (.bool true))]⟩, ⟨some 13, none, .p (.mv (.t 20))⟩, ⟨some 21, none, .p (.extr (.t 13) 0)⟩, ⟨some 22, none, .p (.extr (.t 13) 1)⟩, ⟨some 3, none, .p (.mv (.t 21))⟩, ⟨some 4, none, .p (.mv (.t 22))⟩]
@[go_sem] def c17_s4 : List SQ := [⟨some 23, none, .p (.mv (.t 3))⟩, ⟨some 2, none, .p (.mv (.t 23))⟩]
@[go_sem] def c17 : CF := ⟨1, (.seq (.ops c17_s0) (.seq (.seq (.ops c17_s1) (.cond (.t 12) (.seq (.ops c17_s2) .ret) .skip)) (.seq (.ops c17_s3) (.seq (.ops c17_s4) .ret)))), [.tmp 2]⟩

theorem rowPut2 (cs : List AV) (o : Nat) (a b : AV) (h : o + 1 < cs.length) : putList o [a, b] (putList 0 cs T.e) = putList 0 ((cs.set o a).set (o + 1) b) T.e := T.ext fun j => by
  rw [putList_get, rowGet, rowGet, List.getElem?_set, List.getElem?_set, List.length_set]
  by_cases h1 : o + 1 = j
  · subst h1
    rw [if_pos (by simp), if_pos rfl, if_pos h]
    simp
  · by_cases h2 : o = j
    · subst h2
      rw [if_pos (by simp), if_neg h1, if_pos rfl, if_pos (by omega)]
      simp
    · rw [if_neg (by simp; omega), if_neg h1, if_neg h2]
/-- an operation -/
structure OpT where
  kd : Int
  key : Int
  hi : Int
  va : Int
  ol : Int
  bY : Int
  dr : Int
def opC (o : OpT) : List AV := [.int .u8 o.kd, .int .u64 o.key, .int .u64 o.hi, .int .u64 o.va, .int .u64 o.ol, .int .u64 o.bY, .int .u64 o.dr]
structure OpU (o : OpT) : Prop where
  key : inU o.key
  hi : inU o.hi
  bY : inU o.bY
/-- the error of an operation on a range in a store of n slots where slot 0 is of thread 0 -/
def errB (n : Nat) (t s : Int) (o : OpT) : Int :=
  if ¬ (o.kd = 8 ∨ o.kd = 9) ∨ t < 0 ∨ 64 ≤ t then 2
  else if s < 0 ∨ (n : Int) ≤ s then 3
  else if ¬ (s = 0 ∧ t = 0) then 8
  else if o.hi < o.key ∨ o.kd = 8 ∧ o.bY = 0 then 13
  else if o.kd = 8 ∧ 18446744073709551615 - o.hi < o.bY then 12
  else 0
def Post15 (e : Int) (h : H) (v : AV) (h' : H) : Prop := StepN h h' ∧ ((e = 0 ∧ ∃ D, v = .tup [.ptr D 0, .int .i64 0] ∧ BulkO h' D) ∨ (¬ e = 0 ∧ v = .tup [.nilp, .int .i64 e]))
def F39 (call : CallE) : Prop := ∀ h B c p M W R ws lg (n : Nat), c.slots = (n : Int) → n ≤ 64 → BaseH h B c p M W R → p.ow = 0 → c.cuts.length ≤ 1000 → MemG h M W ws lg → M < h.next → W < h.next → OwnW ws n → ∃ v h', call 39 [.ptr B 0] h = some (v, h') ∧ Post39 n h v h'
def F41 (call : CallE) : Prop := ∀ h B c p M W R, BaseH h B c p M W R → call 41 [.ptr B 0] h = some (.ptr R 0, h)
def F42 (call : CallE) : Prop := ∀ h R n, PrcuH h R n → n ≤ 64 → ∃ v h', call 42 [.ptr R 0] h = some (v, h') ∧ (v = .nils ∧ StepN h h')
def F40 (call : CallE) : Prop := ∀ h (x : Int), call 40 [.nils, .int .i64 x] h = some (.bool false, h)
def F44 (call : CallE) : Prop := ∀ h (lo hi b : Int), ¬ hi < lo → inU lo → inU hi → inU b → ∃ v h', call 44 [.agg [.int .u64 lo, .int .u64 hi], .int .u64 b] h = some (v, h') ∧
  (v = .tup [.agg (if 18446744073709551615 - hi < b then [.int .u64 0, .int .u64 0] else [.int .u64 (lo + b), .int .u64 (hi + b)]), .int .i64 (if 18446744073709551615 - hi < b then 12 else 0)] ∧ StepN h h')
def F45 (call : CallE) : Prop := ∀ h D B c p M W R cells (t lo hi : Int), BaseH h B c p M W R → c.cuts.length ≤ 1000 → 0 ≤ c.tries → c.tries ≤ 255 → D < h.next → h.t.get D = some (.row (putList 0 cells T.e) 33 139) → cells.length = 33 → cells[0]? = some (.ptr B 0) → cells[1]? = some (.int .i64 t) → (cells.drop 15).take 2 = [.int .u64 lo, .int .u64 hi] → cells[27]? = some (.bool false) → 0 ≤ t → t < 64 → ¬ hi < lo → ∃ v h', call 45 [.ptr D 0] h = some (v, h') ∧ (v = .tup [] ∧ StepX D D h h' ∧ BulkO h' D)

set_option maxHeartbeats 1000000 in
theorem w15_8 (P : Program) [PT P] {call : CallE} (h38 : F38 call) (h39 : F39 call) (h41 : F41 call) (h42 : F42 call) (h40 : F40 call) (h43 : F43 call) (h44 : F44 call) (h45 : F45 call)
  {h : H} {B Q : Nat} {c : CfgT} {p : PlT} {M W R : Nat} {ws : List Int} {lg : AV} {n : Nat} (hn : c.slots = (n : Int)) (hn1 : 0 < n) (hn2 : n ≤ 64) (hb : BaseH h B c p M W R) (ho : p.ow = 0) (hl : c.cuts.length ≤ 1000) (r0 : 0 ≤ c.tries) (r1 : c.tries ≤ 255) (m : MemG h M W ws lg) (hM : M < h.next) (hW : W < h.next) (hw : OwnW ws n) {t s : Int} {o : OpT} (ou : OpU o)
    (hk : o.kd = 8) : WF P call c15 [.ptr B 0, .int .i64 t, .int .i64 s, .agg (opC o), .ptr Q 0] h (Post15 (errB n t s o) h) := by
  have st0 := StepN.new h (.row (putList 0 [.int .u8 8, .int .u64 o.key, .int .u64 o.hi, .int .u64 o.va, .int .u64 o.ol, .int .u64 o.bY, .int .u64 o.dr] T.e) 7 30)
  have hk' : (o.kd = 8 ∨ o.kd = 9) := by omega
  by_cases a0 : t < 0
  · simp only [go_sem, ↓reduceIte, ↓reduceDIte, zA, zM, zL, zE, zD, yA, yE, yL, yQ, yT, reduceCtorEq, c15, opC, hk, a0]
    refine ⟨st0, .inr ?_⟩
    unfold errB
    rw [if_pos (.inr (.inl a0))]
    exact ⟨by decide, rfl⟩
  by_cases a1 : t < 64
  case neg =>
    simp only [go_sem, ↓reduceIte, ↓reduceDIte, zA, zM, zL, zE, zD, yA, yE, yL, yQ, yT, reduceCtorEq, c15, opC, hk, a0, a1]
    refine ⟨st0, .inr ?_⟩
    unfold errB
    rw [if_pos (.inr (.inr (by omega)))]
    exact ⟨by decide, rfl⟩
  have eA : errB n t s o = if s < 0 ∨ (n : Int) ≤ s then 3
    else if ¬ (s = 0 ∧ t = 0) then 8
    else if o.hi < o.key ∨ o.kd = 8 ∧ o.bY = 0 then 13
    else if o.kd = 8 ∧ 18446744073709551615 - o.hi < o.bY then 12
    else 0 := by unfold errB; rw [if_neg (by omega)]
  by_cases b0 : s < 0
  · simp only [go_sem, ↓reduceIte, ↓reduceDIte, zA, zM, zL, zE, zD, yA, yE, yL, yQ, yT, reduceCtorEq, c15, opC, hk, a0, a1, b0]
    refine ⟨st0, .inr ?_⟩
    rw [eA, if_pos (.inl b0)]
    exact ⟨by decide, rfl⟩
  simp only [go_sem, ↓reduceIte, ↓reduceDIte, zA, zM, zL, zE, zD, yA, yE, yL, yQ, yT, reduceCtorEq, c15, opC, hk, a0, a1, b0]
  refine opt_by (h38 _ B c p M W R (hb.step st0) hl) fun v1 h1 p1 => ?_
  obtain ⟨⟨cv, rfl, ov⟩, st1⟩ := p1
  have st01 := st0.trans st1
  have nx1 : h.next + 1 ≤ h1.next := st1.next
  have gG1 := st1.old h.next (Nat.lt_succ_self _)
  simp only [go_sem, ↓reduceIte, ↓reduceDIte, zA, zM, zL, zE, zD, yA, yE, yL, yQ, yT, reduceCtorEq] at gG1
  by_cases b1 : s < (n : Int)
  case neg =>
    simp only [go_sem, ↓reduceIte, ↓reduceDIte, zA, zM, zL, zE, zD, yA, yE, yL, yQ, yT, reduceCtorEq, cfgC, part3, hn, b1]
    refine ⟨st01, .inr ?_⟩
    rw [eA, if_pos (.inr (by omega))]
    exact ⟨by decide, rfl⟩
  obtain ⟨mm, rfl⟩ : ∃ mm : Nat, s = (mm : Int) := ⟨s.toNat, by omega⟩
  have b2 : mm < n := by omega
  have eB : errB n t (mm : Int) o = if ¬ ((mm : Int) = 0 ∧ t = 0) then 8
    else if o.hi < o.key ∨ o.kd = 8 ∧ o.bY = 0 then 13
    else if o.kd = 8 ∧ 18446744073709551615 - o.hi < o.bY then 12
    else 0 := by rw [eA, if_neg (by omega)]
  simp only [go_sem, ↓reduceIte, ↓reduceDIte, zA, zM, zL, zE, zD, yA, yE, yL, yQ, yT, reduceCtorEq, cfgC, part3, hn, b1]
  refine opt_by (h39 h1 B c p M W R ws lg n hn hn2 (hb.step st01) ho hl (m.step hM hW st01) (Nat.lt_of_lt_of_le hM st01.next) (Nat.lt_of_lt_of_le hW st01.next) hw) fun v2 h2 p2 => ?_
  obtain ⟨st2, O, cs, rfl, lO, gO, hcs⟩ := p2
  have st02 := st01.trans st2
  have nx2 : h1.next ≤ h2.next := st2.next
  have gG2 := (st2.old h.next (by omega)).trans gG1
  have hc := hcs mm b2
  by_cases z : (mm : Int) = 0 ∧ t = 0
  case neg =>
    have hne : ∃ y : Int, ownN mm = .int .i64 y ∧ ¬ y = t := by
      cases mm with
      | zero => exact ⟨0, rfl, by omega⟩
      | succ mm => exact ⟨-1, rfl, by omega⟩
    obtain ⟨y, hy, hyt⟩ := hne
    rw [hy] at hc
    simp only [go_sem, ↓reduceIte, ↓reduceDIte, zA, zM, zL, zE, zD, yA, yE, yL, yQ, yT, reduceCtorEq, b1, gO, Nat.mul_one, hc, hyt]
    refine ⟨st02, .inr ?_⟩
    rw [eB, if_pos z]
    exact ⟨by decide, rfl⟩
  obtain ⟨z1, rfl⟩ := z
  obtain rfl : mm = 0 := by omega
  rw [show ((0 : Nat) : Int) = 0 from rfl] at eB
  have eC : errB n 0 0 o = if o.hi < o.key ∨ o.kd = 8 ∧ o.bY = 0 then 13
    else if o.kd = 8 ∧ 18446744073709551615 - o.hi < o.bY then 12
    else 0 := by rw [eB, if_neg (by omega)]
  have hc0 : cs[0]? = some (.int .i64 0) := hc
  have b1' : (0 : Int) < (n : Int) := by omega
  have k41 := h41 h2 B c p M W R (hb.step st02)
  simp only [go_sem, ↓reduceIte, ↓reduceDIte, zA, zM, zL, zE, zD, yA, yE, yL, yQ, yT, reduceCtorEq, b1', gO, hc0, k41]
  obtain ⟨n', hn', hR⟩ := (hb.step st02).pr
  refine opt_by (h42 h2 R n' hR (by omega)) fun v3 h3 p3 => ?_
  obtain ⟨rfl, st3⟩ := p3
  have st03 := st02.trans st3
  have nx3 : h2.next ≤ h3.next := st3.next
  have gG3 := (st3.old h.next (by omega)).trans gG2
  obtain ⟨D, hD⟩ : ∃ D, D = h3.next := ⟨_, rfl⟩
  have d1 : ¬ D = h.next := by omega
  have d2 : ¬ h.next = D := by omega
  have d3 : ¬ h.next = h3.next := by omega
  have k40 := h40 h3 0
  simp only [go_sem, ↓reduceIte, ↓reduceDIte, zA, zM, zL, zE, zD, yA, yE, yL, yQ, yT, reduceCtorEq, k40, gG3, d3, ← hD, d1, d2]
  refine opt_by (h43 _ o.key o.hi) fun v4 h4 p4 => ?_
  obtain ⟨rfl, st4⟩ := p4
  have nx4 : D + 1 ≤ h4.next := st4.next
  have gG4 := st4.old h.next (by show h.next < D + 1; omega)
  have gD4 := st4.old D (Nat.lt_succ_self _)
  simp only [go_sem, ↓reduceIte, ↓reduceDIte, zA, zM, zL, zE, zD, yA, yE, yL, yQ, yT, reduceCtorEq, d1, d2, gG3] at gG4 gD4
  have old4 : ∀ b, b < h.next → h4.t.get b = h.t.get b := fun b hb' => by
    have e1 : ¬ b = D := by omega
    have := st4.old b (by show b < D + 1; omega)
    simp only [go_sem, ↓reduceIte, ↓reduceDIte, zA, zM, zL, zE, zD, yA, yE, yL, yQ, yT, reduceCtorEq, e1] at this
    rw [this]
    exact st03.old b hb'
  have stD : ∀ x y k, StepN h ⟨h4.next + k, ((h4.t.set h4.next x).set D y)⟩ := fun x y k => ⟨by show h.next ≤ h4.next + k; omega, fun b hb' => by
    have e1 : ¬ b = D := by omega
    have e2 : ¬ b = h4.next := by omega
    simp only [go_sem, ↓reduceIte, ↓reduceDIte, zA, zM, zL, zE, zD, yA, yE, yL, yQ, yT, reduceCtorEq, e1, e2]
    exact old4 b hb'⟩
  have st04 : StepN h h4 := ⟨by omega, old4⟩
  by_cases c0 : o.hi < o.key
  · simp only [go_sem, ↓reduceIte, ↓reduceDIte, zA, zM, zL, zE, zD, yA, yE, yL, yQ, yT, reduceCtorEq, c0]
    refine ⟨st04, .inr ?_⟩
    rw [eC, if_pos (.inl c0)]
    exact ⟨by decide, rfl⟩
  by_cases c1 : o.bY = 0
  · simp only [go_sem, ↓reduceIte, ↓reduceDIte, zA, zM, zL, zE, zD, yA, yE, yL, yQ, yT, reduceCtorEq, c0, gG4, gD4, c1]
    refine ⟨st04, .inr ?_⟩
    rw [eC, if_pos (.inr ⟨hk, c1⟩)]
    exact ⟨by decide, rfl⟩
  have d4 : ¬ D = h4.next := by omega
  have d5 : ¬ h.next = h4.next := by omega
  have d6 : ¬ h4.next = D := by omega
  simp only [go_sem, ↓reduceIte, ↓reduceDIte, zA, zM, zL, zE, zD, yA, yE, yL, yQ, yT, reduceCtorEq, c0, gG4, gD4, c1, d1, d2, d4, d5, rowPut2]
  refine opt_by (h44 _ o.key o.hi o.bY c0 ou.key ou.hi ou.bY) fun v5 h5 p5 => ?_
  obtain ⟨rfl, st5⟩ := p5
  have nx5 : h4.next + 1 ≤ h5.next := st5.next
  have gG5 := st5.old h.next (by show h.next < h4.next + 1; omega)
  have gD5 := st5.old D (by show D < h4.next + 1; omega)
  have gV5 := st5.old h4.next (Nat.lt_succ_self _)
  simp only [go_sem, ↓reduceIte, ↓reduceDIte, zA, zM, zL, zE, zD, yA, yE, yL, yQ, yT, reduceCtorEq, d1, d2, d4, d5, d6, gG4, rowPut2] at gG5 gD5 gV5
  have old5 : ∀ b, b < h.next → h5.t.get b = h.t.get b := fun b hb' => by
    have e1 : ¬ b = D := by omega
    have e2 : ¬ b = h4.next := by omega
    have := st5.old b (by show b < h4.next + 1; omega)
    simp only [go_sem, ↓reduceIte, ↓reduceDIte, zA, zM, zL, zE, zD, yA, yE, yL, yQ, yT, reduceCtorEq, e1, e2] at this
    rw [this]
    exact old4 b hb'
  have stE : ∀ x y, StepN h ⟨h5.next, ((h5.t.set h4.next x).set D y)⟩ := fun x y => ⟨by show h.next ≤ h5.next; omega, fun b hb' => by
    have e1 : ¬ b = D := by omega
    have e2 : ¬ b = h4.next := by omega
    simp only [go_sem, ↓reduceIte, ↓reduceDIte, zA, zM, zL, zE, zD, yA, yE, yL, yQ, yT, reduceCtorEq, e1, e2]
    exact old5 b hb'⟩
  by_cases c2 : 18446744073709551615 - o.hi < o.bY
  · simp only [go_sem, ↓reduceIte, ↓reduceDIte, zA, zM, zL, zE, zD, yA, yE, yL, yQ, yT, reduceCtorEq, c2, gD5, gG5, gV5, gD4, gG4, d1, d2, d4, d5, d6, nx5, rowPut2]
    refine ⟨⟨by show h.next ≤ h5.next; omega, fun b hb' => ?_⟩, .inr ?_⟩
    · have e2 : ¬ b = h4.next := by omega
      simp only [go_sem, ↓reduceIte, ↓reduceDIte, zA, zM, zL, zE, zD, yA, yE, yL, yQ, yT, reduceCtorEq, e2]
      exact old5 b hb'
    · rw [eC, if_neg (by omega), if_pos ⟨hk, c2⟩]
      exact ⟨by decide, rfl⟩
  simp only [go_sem, ↓reduceIte, ↓reduceDIte, zA, zM, zL, zE, zD, yA, yE, yL, yQ, yT, reduceCtorEq, c2, gD5, gG5, gV5, gD4, gG4, d1, d2, d4, d5, d6, nx5, rowPut2]
  have bU := ou.bY
  have hU := ou.hi
  unfold inU at bU hU
  refine opt_by (h45 _ D B c p M W R _ 0 o.key (o.hi + o.bY) (hb.step (stE _ _)) hl r0 r1 (by show D < h5.next; omega) (by simp only [go_sem, ↓reduceIte, ↓reduceDIte, zA, zM, zL, zE, zD, yA, yE, yL, yQ, yT, reduceCtorEq]; rfl) rfl rfl rfl rfl rfl (by decide) (by decide) (by omega)) fun v6 h6 p6 => ?_
  obtain ⟨rfl, sx, hO⟩ := p6
  simp only [go_sem, ↓reduceIte, ↓reduceDIte, zA, zM, zL, zE, zD, yA, yE, yL, yQ, yT, reduceCtorEq]
  refine ⟨⟨by have := sx.next; have q : h5.next ≤ h6.next := this; omega, fun b hb' => ?_⟩, .inl ⟨?_, D, rfl, hO⟩⟩
  · have e1 : b ≠ D := by omega
    exact (sx.old b (by show b < h5.next; omega) e1 e1).trans ((stE _ _).old b hb')
  · rw [eC, if_neg (by omega), if_neg (by omega)]

set_option maxHeartbeats 1000000 in
theorem w15_9 (P : Program) [PT P] {call : CallE} (h38 : F38 call) (h39 : F39 call) (h41 : F41 call) (h42 : F42 call) (h40 : F40 call) (h43 : F43 call) (h44 : F44 call) (h45 : F45 call)
  {h : H} {B Q : Nat} {c : CfgT} {p : PlT} {M W R : Nat} {ws : List Int} {lg : AV} {n : Nat} (hn : c.slots = (n : Int)) (hn1 : 0 < n) (hn2 : n ≤ 64) (hb : BaseH h B c p M W R) (ho : p.ow = 0) (hl : c.cuts.length ≤ 1000) (r0 : 0 ≤ c.tries) (r1 : c.tries ≤ 255) (m : MemG h M W ws lg) (hM : M < h.next) (hW : W < h.next) (hw : OwnW ws n) {t s : Int} {o : OpT} (ou : OpU o)
    (hk : o.kd = 9) : WF P call c15 [.ptr B 0, .int .i64 t, .int .i64 s, .agg (opC o), .ptr Q 0] h (Post15 (errB n t s o) h) := by
  have st0 := StepN.new h (.row (putList 0 [.int .u8 9, .int .u64 o.key, .int .u64 o.hi, .int .u64 o.va, .int .u64 o.ol, .int .u64 o.bY, .int .u64 o.dr] T.e) 7 30)
  have hk' : (o.kd = 8 ∨ o.kd = 9) := by omega
  by_cases a0 : t < 0
  · simp only [go_sem, ↓reduceIte, ↓reduceDIte, zA, zM, zL, zE, zD, yA, yE, yL, yQ, yT, reduceCtorEq, c15, opC, hk, a0]
    refine ⟨st0, .inr ?_⟩
    unfold errB
    rw [if_pos (.inr (.inl a0))]
    exact ⟨by decide, rfl⟩
  by_cases a1 : t < 64
  case neg =>
    simp only [go_sem, ↓reduceIte, ↓reduceDIte, zA, zM, zL, zE, zD, yA, yE, yL, yQ, yT, reduceCtorEq, c15, opC, hk, a0, a1]
    refine ⟨st0, .inr ?_⟩
    unfold errB
    rw [if_pos (.inr (.inr (by omega)))]
    exact ⟨by decide, rfl⟩
  have eA : errB n t s o = if s < 0 ∨ (n : Int) ≤ s then 3
    else if ¬ (s = 0 ∧ t = 0) then 8
    else if o.hi < o.key ∨ o.kd = 8 ∧ o.bY = 0 then 13
    else if o.kd = 8 ∧ 18446744073709551615 - o.hi < o.bY then 12
    else 0 := by unfold errB; rw [if_neg (by omega)]
  by_cases b0 : s < 0
  · simp only [go_sem, ↓reduceIte, ↓reduceDIte, zA, zM, zL, zE, zD, yA, yE, yL, yQ, yT, reduceCtorEq, c15, opC, hk, a0, a1, b0]
    refine ⟨st0, .inr ?_⟩
    rw [eA, if_pos (.inl b0)]
    exact ⟨by decide, rfl⟩
  simp only [go_sem, ↓reduceIte, ↓reduceDIte, zA, zM, zL, zE, zD, yA, yE, yL, yQ, yT, reduceCtorEq, c15, opC, hk, a0, a1, b0]
  refine opt_by (h38 _ B c p M W R (hb.step st0) hl) fun v1 h1 p1 => ?_
  obtain ⟨⟨cv, rfl, ov⟩, st1⟩ := p1
  have st01 := st0.trans st1
  have nx1 : h.next + 1 ≤ h1.next := st1.next
  have gG1 := st1.old h.next (Nat.lt_succ_self _)
  simp only [go_sem, ↓reduceIte, ↓reduceDIte, zA, zM, zL, zE, zD, yA, yE, yL, yQ, yT, reduceCtorEq] at gG1
  by_cases b1 : s < (n : Int)
  case neg =>
    simp only [go_sem, ↓reduceIte, ↓reduceDIte, zA, zM, zL, zE, zD, yA, yE, yL, yQ, yT, reduceCtorEq, cfgC, part3, hn, b1]
    refine ⟨st01, .inr ?_⟩
    rw [eA, if_pos (.inr (by omega))]
    exact ⟨by decide, rfl⟩
  obtain ⟨mm, rfl⟩ : ∃ mm : Nat, s = (mm : Int) := ⟨s.toNat, by omega⟩
  have b2 : mm < n := by omega
  have eB : errB n t (mm : Int) o = if ¬ ((mm : Int) = 0 ∧ t = 0) then 8
    else if o.hi < o.key ∨ o.kd = 8 ∧ o.bY = 0 then 13
    else if o.kd = 8 ∧ 18446744073709551615 - o.hi < o.bY then 12
    else 0 := by rw [eA, if_neg (by omega)]
  simp only [go_sem, ↓reduceIte, ↓reduceDIte, zA, zM, zL, zE, zD, yA, yE, yL, yQ, yT, reduceCtorEq, cfgC, part3, hn, b1]
  refine opt_by (h39 h1 B c p M W R ws lg n hn hn2 (hb.step st01) ho hl (m.step hM hW st01) (Nat.lt_of_lt_of_le hM st01.next) (Nat.lt_of_lt_of_le hW st01.next) hw) fun v2 h2 p2 => ?_
  obtain ⟨st2, O, cs, rfl, lO, gO, hcs⟩ := p2
  have st02 := st01.trans st2
  have nx2 : h1.next ≤ h2.next := st2.next
  have gG2 := (st2.old h.next (by omega)).trans gG1
  have hc := hcs mm b2
  by_cases z : (mm : Int) = 0 ∧ t = 0
  case neg =>
    have hne : ∃ y : Int, ownN mm = .int .i64 y ∧ ¬ y = t := by
      cases mm with
      | zero => exact ⟨0, rfl, by omega⟩
      | succ mm => exact ⟨-1, rfl, by omega⟩
    obtain ⟨y, hy, hyt⟩ := hne
    rw [hy] at hc
    simp only [go_sem, ↓reduceIte, ↓reduceDIte, zA, zM, zL, zE, zD, yA, yE, yL, yQ, yT, reduceCtorEq, b1, gO, Nat.mul_one, hc, hyt]
    refine ⟨st02, .inr ?_⟩
    rw [eB, if_pos z]
    exact ⟨by decide, rfl⟩
  obtain ⟨z1, rfl⟩ := z
  obtain rfl : mm = 0 := by omega
  rw [show ((0 : Nat) : Int) = 0 from rfl] at eB
  have eC : errB n 0 0 o = if o.hi < o.key ∨ o.kd = 8 ∧ o.bY = 0 then 13
    else if o.kd = 8 ∧ 18446744073709551615 - o.hi < o.bY then 12
    else 0 := by rw [eB, if_neg (by omega)]
  have hc0 : cs[0]? = some (.int .i64 0) := hc
  have b1' : (0 : Int) < (n : Int) := by omega
  have k41 := h41 h2 B c p M W R (hb.step st02)
  simp only [go_sem, ↓reduceIte, ↓reduceDIte, zA, zM, zL, zE, zD, yA, yE, yL, yQ, yT, reduceCtorEq, b1', gO, hc0, k41]
  obtain ⟨n', hn', hR⟩ := (hb.step st02).pr
  refine opt_by (h42 h2 R n' hR (by omega)) fun v3 h3 p3 => ?_
  obtain ⟨rfl, st3⟩ := p3
  have st03 := st02.trans st3
  have nx3 : h2.next ≤ h3.next := st3.next
  have gG3 := (st3.old h.next (by omega)).trans gG2
  obtain ⟨D, hD⟩ : ∃ D, D = h3.next := ⟨_, rfl⟩
  have d1 : ¬ D = h.next := by omega
  have d2 : ¬ h.next = D := by omega
  have d3 : ¬ h.next = h3.next := by omega
  have k40 := h40 h3 0
  simp only [go_sem, ↓reduceIte, ↓reduceDIte, zA, zM, zL, zE, zD, yA, yE, yL, yQ, yT, reduceCtorEq, k40, gG3, d3, ← hD, d1, d2]
  refine opt_by (h43 _ o.key o.hi) fun v4 h4 p4 => ?_
  obtain ⟨rfl, st4⟩ := p4
  have nx4 : D + 1 ≤ h4.next := st4.next
  have gG4 := st4.old h.next (by show h.next < D + 1; omega)
  have gD4 := st4.old D (Nat.lt_succ_self _)
  simp only [go_sem, ↓reduceIte, ↓reduceDIte, zA, zM, zL, zE, zD, yA, yE, yL, yQ, yT, reduceCtorEq, d1, d2, gG3] at gG4 gD4
  have old4 : ∀ b, b < h.next → h4.t.get b = h.t.get b := fun b hb' => by
    have e1 : ¬ b = D := by omega
    have := st4.old b (by show b < D + 1; omega)
    simp only [go_sem, ↓reduceIte, ↓reduceDIte, zA, zM, zL, zE, zD, yA, yE, yL, yQ, yT, reduceCtorEq, e1] at this
    rw [this]
    exact st03.old b hb'
  have stD : ∀ x y k, StepN h ⟨h4.next + k, ((h4.t.set h4.next x).set D y)⟩ := fun x y k => ⟨by show h.next ≤ h4.next + k; omega, fun b hb' => by
    have e1 : ¬ b = D := by omega
    have e2 : ¬ b = h4.next := by omega
    simp only [go_sem, ↓reduceIte, ↓reduceDIte, zA, zM, zL, zE, zD, yA, yE, yL, yQ, yT, reduceCtorEq, e1, e2]
    exact old4 b hb'⟩
  have st04 : StepN h h4 := ⟨by omega, old4⟩
  by_cases c0 : o.hi < o.key
  · simp only [go_sem, ↓reduceIte, ↓reduceDIte, zA, zM, zL, zE, zD, yA, yE, yL, yQ, yT, reduceCtorEq, c0]
    refine ⟨st04, .inr ?_⟩
    rw [eC, if_pos (.inl c0)]
    exact ⟨by decide, rfl⟩
  simp only [go_sem, ↓reduceIte, ↓reduceDIte, zA, zM, zL, zE, zD, yA, yE, yL, yQ, yT, reduceCtorEq, c0, gG4, gD4, d1, d2, rowPut2]
  have stD2 : ∀ y, StepN h ⟨h4.next, (h4.t.set D y)⟩ := fun y => ⟨by show h.next ≤ h4.next; omega, fun b hb' => by
    have e1 : ¬ b = D := by omega
    simp only [go_sem, ↓reduceIte, ↓reduceDIte, zA, zM, zL, zE, zD, yA, yE, yL, yQ, yT, reduceCtorEq, e1]
    exact old4 b hb'⟩
  refine opt_by (h45 _ D B c p M W R _ 0 o.key o.hi (hb.step (stD2 _)) hl r0 r1 (by show D < h4.next; omega) (by simp only [go_sem, ↓reduceIte, ↓reduceDIte, zA, zM, zL, zE, zD, yA, yE, yL, yQ, yT, reduceCtorEq]; rfl) rfl rfl rfl rfl rfl (by decide) (by decide) c0) fun v6 h6 p6 => ?_
  obtain ⟨rfl, sx, hO⟩ := p6
  simp only [go_sem, ↓reduceIte, ↓reduceDIte, zA, zM, zL, zE, zD, yA, yE, yL, yQ, yT, reduceCtorEq]
  refine ⟨⟨by have := sx.next; have q : h4.next ≤ h6.next := this; omega, fun b hb' => ?_⟩, .inl ⟨?_, D, rfl, hO⟩⟩
  · have e1 : b ≠ D := by omega
    exact (sx.old b (by show b < h4.next; omega) e1 e1).trans ((stD2 _).old b hb')
  · rw [eC, if_neg (by omega), if_neg (by omega)]

theorem w15 (P : Program) [PT P] {call : CallE} (h38 : F38 call) (h39 : F39 call) (h41 : F41 call) (h42 : F42 call) (h40 : F40 call) (h43 : F43 call) (h44 : F44 call) (h45 : F45 call)
  {h : H} {B Q : Nat} {c : CfgT} {p : PlT} {M W R : Nat} {ws : List Int} {lg : AV} {n : Nat} (hn : c.slots = (n : Int)) (hn1 : 0 < n) (hn2 : n ≤ 64) (hb : BaseH h B c p M W R) (ho : p.ow = 0) (hl : c.cuts.length ≤ 1000) (r0 : 0 ≤ c.tries) (r1 : c.tries ≤ 255) (m : MemG h M W ws lg) (hM : M < h.next) (hW : W < h.next) (hw : OwnW ws n) {t s : Int} {o : OpT} (ou : OpU o)
    : WF P call c15 [.ptr B 0, .int .i64 t, .int .i64 s, .agg (opC o), .ptr Q 0] h (Post15 (errB n t s o) h) := by
  by_cases k8 : o.kd = 8
  · exact w15_8 P h38 h39 h41 h42 h40 h43 h44 h45 hn hn1 hn2 hb ho hl r0 r1 m hM hW hw ou k8
  by_cases k9 : o.kd = 9
  · exact w15_9 P h38 h39 h41 h42 h40 h43 h44 h45 hn hn1 hn2 hb ho hl r0 r1 m hM hW hw ou k9
  have st0 := StepN.new h (.row (putList 0 (opC o) T.e) 7 30)
  simp only [go_sem, ↓reduceIte, ↓reduceDIte, zA, zM, zL, zE, zD, yA, yE, yL, yQ, yT, reduceCtorEq, c15, opC, k8, k9]
  refine ⟨st0, .inr ?_⟩
  unfold errB
  rw [if_pos (.inl (by omega))]
  exact ⟨by decide, rfl⟩
theorem w17_0 (P : Program) [PT P] {call : CallE} {h : H} : WF P call c17 [.nilp] h fun v h' => v = .int .u8 0 ∧ h' = h := by
  simp only [go_sem, ↓reduceIte, ↓reduceDIte, zA, zM, zL, zE, zD, yA, yE, yL, yQ, yT, reduceCtorEq, c17]
def F463 (call : CallE) : Prop := ∀ h L, LockO h L → L < h.next → ∃ v h', call 463 [.agg [.ifc 246 (.ptr L 0)], .bool true] h = some (v, h') ∧ (v = .tup [.int .u8 2, .bool false] ∧ StepN h h')
theorem w17 (P : Program) [pt : PT P] {call : CallE} (h463 : F463 call) {h : H} {D : Nat} (hD : BulkO h D) : WF P call c17 [.ptr D 0] h fun v h' => v = .int .u8 2 ∧ StepN h h' := by
  obtain ⟨dc, Q, L, g, d27, d17, gQ, _, lL, hL⟩ := hD
  simp only [go_sem, ↓reduceIte, ↓reduceDIte, zA, zM, zL, zE, zD, yA, yE, yL, yQ, yT, reduceCtorEq, c17, g, d27, d17, gQ, pt.runM]
  refine opt_by (h463 h L hL lL) fun v1 h1 p1 => ?_
  obtain ⟨rfl, st⟩ := p1
  simp only [go_sem, ↓reduceIte, ↓reduceDIte, zA, zM, zL, zE, zD, yA, yE, yL, yQ, yT, reduceCtorEq]
  exact st
end
end Go.Proofs.YtldmhpdjlgoenaaGreatDoor.BN

namespace Go.Proofs.YtldmhpdjlgoenaaGreatDoor.BN
open Go.Proofs.YtldmhpdjlgoenaaGreatDoor.Eo
open Nat renaming reduceAdd → zA, reduceMul → zM, reduceLT → zL, reduceEqDiff → zE, reduceLeDiff → zD
open Int renaming reduceAdd → yA, reduceLE → yE, reduceLT → yL, reduceEq → yQ, reduceToNat → yT
noncomputable section
/-! 73: leapfrog/leapfrogref03.Values -/
@[go_sem] def c73_s0 : List SQ := [⟨some 1, none, .n (.box 24 (.t 0))⟩, ⟨some 2, none, .p (.mv (.c (.int .i64 0)))⟩, ⟨some 3, none, .p (.mv (.c (.int .i64 0)))⟩]
@[go_sem] def c73_s1 : List SQ := [⟨some 5, none, .r (.ld (some 3) (.t 1))⟩, ⟨some 6, none, .cv (.c (.fn (.func 19) [] [])) [(.t 5)]⟩, ⟨some 4, none, .p (.mv (.t 6))⟩]
@[go_sem] def c73_s2 : List SQ := [⟨some 7, none, .p (.mv (.t 4))⟩, ⟨some 8, none, .p (.bin .neq 34 false true (.t 7) (.c (.int .i64 0)))⟩]
@[go_sem] def c73_s3 : List SQ := [⟨some 9, none, .p (.mv (.t 4))⟩, ⟨some 2, none, .p (.mv (.c (.int .i64 0)))⟩, ⟨some 3, none, .p (.mv (.t 9))⟩]
@[go_sem] def c73_s4 : List SQ := [⟨some 10, none, .p (.fadr 0 (.t 1))⟩, ⟨some 11, none, .r (.ld none (.t 10))⟩]
@[go_sem] def c73_s5 : List SQ := [⟨some 13, none, .p (.bin .eql 5 false true (.t 11) (.c (.int .u8 2)))⟩, ⟨some 12, none, .p (.mv (.t 13))⟩]
@[go_sem] def c73_s6 : List SQ := [⟨some 14, none, .p (.fadr 1 (.t 1))⟩, ⟨some 15, none, .r (.ld none (.t 14))⟩, ⟨some 2, none, .p (.mv (.t 15))⟩, ⟨some 3, none, .p (.mv (.c (.int .i64 0)))⟩]
@[go_sem] def c73_s7 : List SQ := [⟨some 17, none, .p (.bin .eql 5 false true (.t 11) (.c (.int .u8 3)))⟩, ⟨some 16, none, .p (.mv (.t 17))⟩]
@[go_sem] def c73_s8 : List SQ := [⟨some 18, none, .p (.fadr 2 (.t 1))⟩, ⟨some 19, none, .r (.ld none (.t 18))⟩, ⟨some 20, none, .p (.lenv (.t 19))⟩, ⟨some 21, none, .p (.bin .add 3 false true (.t 20) (.c (.int .i64 1)))⟩, ⟨some 2, none, .p (.mv (.t 21))⟩, ⟨some 3, none, .p (.mv (.c (.int .i64 0)))⟩]
@[go_sem] def c73_s9 : List SQ := [⟨some 2, none, .p (.mv (.c (.int .i64 1)))⟩, ⟨some 3, none, .p (.mv (.c (.int .i64 0)))⟩]
@[go_sem] def c73 : CF := ⟨1, (.seq (.ops c73_s0) (.seq (.ops c73_s1) (.seq (.seq (.ops c73_s2) (.cond (.t 8) (.seq (.ops c73_s3) .ret) .skip)) (.seq (.seq (.ops c73_s4) (.block 0 (.seq (.ops c73_s5) (.cond (.t 12) (.seq (.ops c73_s6) .ret) (.seq (.ops c73_s7) (.cond (.t 16) (.seq (.ops c73_s8) .ret) .skip)))))) (.seq (.ops c73_s9) .ret))))), [.tmp 2, .tmp 3]⟩
/-! 74: (*leapfrog/leapfrogref09.Layout).group -/
@[go_sem] def c74_s0 : List SQ := [⟨some 10, none, .p (.mv (.c (.int .i64 0)))⟩]
@[go_sem] def c74_s1 : List SQ := [⟨some 13, none, .p (.mv (.t 0))⟩, ⟨some 14, none, .p (.nilck (.t 13))⟩, ⟨some 15, none, .p (.fadr 27 (.t 14))⟩, ⟨some 16, none, .r (.ld none (.t 15))⟩, ⟨some 17, none, .p (.lenv (.t 16))⟩, ⟨some 11, none, .p (.mv (.t 17))⟩]
@[go_sem] def c74_s2 : List SQ := [⟨some 12, none, .p (.mv (.c (.int .i64 0)))⟩]
@[go_sem] def c74_s3 : List SQ := [⟨some 18, none, .p (.mv (.t 12))⟩, ⟨some 19, none, .p (.mv (.t 1))⟩, ⟨some 20, none, .p (.bin .lss 3 false false (.t 18) (.t 19))⟩]
@[go_sem] def c74_p4 : List (List DQ × Option DQ) := [([⟨0, [(0, none)], none, .p (.mv (.t 0))⟩, ⟨1, [(0, none)], none, .p (.mv (.t 0))⟩, ⟨2, [(24, (some 1))], none, .p (.nilck (.t 24))⟩, ⟨3, [(25, (some 2))], none, .p (.fadr 27 (.t 25))⟩, ⟨4, [(26, (some 3))], none, .r (.ld none (.t 26))⟩, ⟨5, [(2, none)], none, .p (.mv (.t 2))⟩, ⟨6, [(3, none)], none, .p (.mv (.t 3))⟩, ⟨7, [(12, none)], none, .p (.mv (.t 12))⟩, ⟨8, [(4, none)], none, .p (.mv (.t 4))⟩, ⟨9, [(30, (some 7)), (31, (some 8))], none, .p (.bin .quo 3 false false (.t 30) (.t 31))⟩, ⟨10, [(29, (some 6)), (32, (some 9))], none, .p (.bin .add 3 false false (.t 29) (.t 32))⟩, ⟨11, [(12, none)], none, .p (.mv (.t 12))⟩, ⟨12, [(4, none)], none, .p (.mv (.t 4))⟩, ⟨13, [(34, (some 11)), (35, (some 12))], none, .p (.bin .rem 3 false false (.t 34) (.t 35))⟩, ⟨14, [(28, (some 5)), (33, (some 10)), (36, (some 13))], none, .p (.build [.int .u8 0, .int .i64 0, .int .i64 0] [(0, 1, (.t 28)), (1, 1, (.t 33)), (2, 1, (.t 36))])⟩, ⟨15, [(37, (some 14))], none, .n (.buildS 298 3 1 [.int .u8 0, .int .i64 0, .int .i64 0] [(0, 3, (.t 37))])⟩], (some ⟨16, [(27, (some 4)), (38, (some 15))], none, .e (.app 298 3 24 (.t 27) (.t 38))⟩)), ([⟨17, [(23, (some 0))], none, .p (.nilck (.t 23))⟩, ⟨18, [(40, (some 17))], none, .p (.fadr 27 (.t 40))⟩], (some ⟨19, [(41, (some 18)), (39, (some 16))], none, .e (.st 1 (.t 41) (.t 39))⟩)), ([], none)]
@[go_sem] def c74_s5 : List SQ := [⟨some 21, none, .p (.mv (.t 12))⟩, ⟨some 22, none, .p (.bin .add 3 false true (.t 21) (.c (.int .i64 1)))⟩, ⟨some 12, none, .p (.mv (.t 22))⟩]
def c74_l6 : CC := (.seq (.seq (.ops c74_s3) (.cond (.t 20) .skip (.exit 0))) (.seq (.block 1 (.drw ⟨c74_p4, [(0, 23), (1, 24), (2, 25), (3, 26), (4, 27), (5, 28), (6, 29), (7, 30), (8, 31), (9, 32), (10, 33), (11, 34), (12, 35), (13, 36), (14, 37), (15, 38), (16, 39), (17, 40), (18, 41)], [(⟨4, [(26, (some 3))], none, .r (.ld none (.t 26))⟩, [0])]⟩)) (.ops c74_s5)))
@[go_sem] def c74_s7 : List SQ := [⟨some 42, none, .p (.mv (.t 11))⟩, ⟨some 10, none, .p (.mv (.t 42))⟩]
@[go_sem] def c74 : CF := ⟨5, (.seq (.ops c74_s0) (.seq (.ops c74_s1) (.seq (.seq (.ops c74_s2) (.block 0 (.loop c74_l6))) (.seq (.ops c74_s7) .ret)))), [.tmp 10]⟩
/-! 27: leapfrog/leapfrogref09.New -/
@[go_sem] def c27_s0 : List SQ := [⟨some 1, none, .n (.box 27 (.t 0))⟩, ⟨some 2, none, .p (.mv (.c .nilp))⟩, ⟨some 3, none, .p (.mv (.c (.int .i64 0)))⟩]
@[go_sem] def c27_s1 : List SQ := [⟨some 12, none, .r (.ld (some 16) (.t 1))⟩, ⟨some 13, none, .cv (.c (.fn (.func 5) [] [])) [(.t 12)]⟩, ⟨some 4, none, .p (.mv (.t 13))⟩]
@[go_sem] def c27_s2 : List SQ := [⟨some 14, none, .p (.mv (.t 4))⟩, ⟨some 15, none, .p (.bin .neq 34 false true (.t 14) (.c (.int .i64 0)))⟩]
@[go_sem] def c27_s3 : List SQ := [⟨some 16, none, .p (.mv (.t 4))⟩, ⟨some 2, none, .p (.mv (.c .nilp))⟩, ⟨some 3, none, .p (.mv (.t 16))⟩]
@[go_sem] def c27_s4 : List SQ := [⟨some 17, none, .r (.ld (some 16) (.t 1))⟩, ⟨some 18, none, .p (.build [.int .i64 0, .int .i64 0, .int .u8 0, .int .i64 0, .int .u8 0, .int .i64 0, .nils, .int .i64 0, .int .i64 0, .int .i64 0, .int .i64 0, .int .i64 0, .int .i64 0, .int .i64 0, .int .i64 0, .int .i64 0, .int .i64 0, .int .i64 0, .int .i64 0, .int .i64 0, .int .i64 0, .int .i64 0, .int .i64 0, .int .i64 0, .int .i64 0, .int .i64 0, .nils, .nils] [(0, 16, (.t 17))])⟩, ⟨some 19, none, .n (.box 96 (.t 18))⟩, ⟨some 5, none, .p (.mv (.t 19))⟩]
@[go_sem] def c27_s5 : List SQ := [⟨some 20, none, .p (.mv (.t 5))⟩, ⟨some 21, none, .n (.buildS 28 1 0 [] [])⟩, ⟨some 22, none, .p (.fadr 4 (.t 1))⟩, ⟨some 23, none, .p (.fadr 2 (.t 22))⟩, ⟨some 24, none, .r (.ld none (.t 23))⟩, ⟨some 25, none, .e (.app 28 1 8 (.t 21) (.t 24))⟩, ⟨some 26, none, .p (.nilck (.t 20))⟩, ⟨some 27, none, .p (.fadr 0 (.t 26))⟩, ⟨some 28, none, .p (.fadr 4 (.t 27))⟩, ⟨some 29, none, .p (.fadr 2 (.t 28))⟩, ⟨none, none, .e (.st 1 (.t 29) (.t 25))⟩]
@[go_sem] def c27_s6 : List SQ := [⟨some 6, none, .p (.mv (.c (.int .i64 1)))⟩]
@[go_sem] def c27_s7 : List SQ := [⟨some 30, none, .p (.mv (.t 6))⟩, ⟨some 31, none, .p (.bin .leq 3 false true (.t 30) (.c (.int .i64 6)))⟩]
@[go_sem] def c27_s8 : List SQ := [⟨some 7, none, .p (.mv (.c (.int .i64 0)))⟩]
@[go_sem] def c27_s9 : List SQ := [⟨some 34, none, .p (.mv (.t 7))⟩, ⟨some 35, none, .p (.mv (.t 6))⟩, ⟨some 36, none, .p (.bin .sub 3 false true (.t 35) (.c (.int .i64 1)))⟩, ⟨some 37, none, .p (.fadr 7 (.t 1))⟩, ⟨some 38, none, .p (.iadrA 6 1 (.t 37) (.t 36))⟩, ⟨some 39, none, .r (.ld none (.t 38))⟩, ⟨some 40, none, .p (.bin .lss 3 false false (.t 34) (.t 39))⟩]
@[go_sem] def c27_s10 : List SQ := [⟨some 43, none, .p (.mv (.t 5))⟩, ⟨some 44, none, .p (.mv (.t 5))⟩, ⟨some 45, none, .p (.nilck (.t 44))⟩, ⟨some 46, none, .p (.fadr 26 (.t 45))⟩, ⟨some 47, none, .r (.ld none (.t 46))⟩, ⟨some 48, none, .p (.mv (.t 6))⟩, ⟨some 49, none, .n (.buildS 3 1 1 [.int .i64 0] [(0, 1, (.t 48))])⟩, ⟨some 50, none, .e (.app 3 1 8 (.t 47) (.t 49))⟩, ⟨some 51, none, .p (.nilck (.t 43))⟩, ⟨some 52, none, .p (.fadr 26 (.t 51))⟩, ⟨none, none, .e (.st 1 (.t 52) (.t 50))⟩]
@[go_sem] def c27_s11 : List SQ := [⟨some 41, none, .p (.mv (.t 7))⟩, ⟨some 42, none, .p (.bin .add 3 false true (.t 41) (.c (.int .i64 1)))⟩, ⟨some 7, none, .p (.mv (.t 42))⟩]
def c27_l12 : CC := (.seq (.seq (.ops c27_s9) (.cond (.t 40) .skip (.exit 2))) (.seq (.block 3 (.ops c27_s10)) (.ops c27_s11)))
@[go_sem] def c27_s13 : List SQ := [⟨some 32, none, .p (.mv (.t 6))⟩, ⟨some 33, none, .p (.bin .add 3 false true (.t 32) (.c (.int .i64 1)))⟩, ⟨some 6, none, .p (.mv (.t 33))⟩]
def c27_l14 : CC := (.seq (.seq (.ops c27_s7) (.cond (.t 31) .skip (.exit 0))) (.seq (.block 1 (.seq (.ops c27_s8) (.block 2 (.loop c27_l12)))) (.ops c27_s13)))
@[go_sem] def c27_s15 : List SQ := [⟨some 53, none, .p (.fadr 1 (.t 1))⟩, ⟨some 54, none, .r (.ld none (.t 53))⟩, ⟨some 8, none, .p (.mv (.t 54))⟩]
@[go_sem] def c27_s16 : List SQ := [⟨some 55, none, .p (.fadr 2 (.t 1))⟩, ⟨some 56, none, .r (.ld none (.t 55))⟩, ⟨some 57, none, .p (.bin .eql 5 false true (.t 56) (.c (.int .u8 2)))⟩]
@[go_sem] def c27_s17 : List SQ := [⟨some 58, none, .p (.fadr 1 (.t 1))⟩, ⟨some 59, none, .r (.ld none (.t 58))⟩, ⟨some 60, none, .p (.bin .mul 3 true false (.c (.int .i64 2)) (.t 59))⟩, ⟨some 8, none, .p (.mv (.t 60))⟩]
@[go_sem] def c27_s18 : List SQ := [⟨some 61, none, .p (.fadr 2 (.t 1))⟩, ⟨some 62, none, .r (.ld none (.t 61))⟩, ⟨some 63, none, .p (.bin .eql 5 false true (.t 62) (.c (.int .u8 3)))⟩]
@[go_sem] def c27_s19 : List SQ := [⟨some 64, none, .p (.fadr 3 (.t 1))⟩, ⟨some 65, none, .r (.ld none (.t 64))⟩, ⟨some 66, none, .p (.bin .mul 3 true false (.c (.int .i64 4)) (.t 65))⟩, ⟨some 8, none, .p (.mv (.t 66))⟩]
@[go_sem] def c27_s20 : List SQ := [⟨some 68, none, .p (.fadr 4 (.t 1))⟩, ⟨some 69, none, .r (.ld (some 3) (.t 68))⟩, ⟨some 70, none, .cv (.c (.fn (.func 73) [] [])) [(.t 69)]⟩, ⟨some 67, none, .p (.mv (.t 70))⟩, ⟨some 71, none, .p (.extr (.t 67) 0)⟩, ⟨some 72, none, .p (.extr (.t 67) 1)⟩, ⟨some 9, none, .p (.mv (.t 71))⟩, ⟨some 10, none, .p (.mv (.t 72))⟩]
@[go_sem] def c27_s21 : List SQ := [⟨some 73, none, .p (.mv (.t 5))⟩, ⟨some 74, none, .p (.mv (.t 5))⟩, ⟨some 75, none, .p (.fadr 1 (.t 1))⟩, ⟨some 76, none, .r (.ld none (.t 75))⟩, ⟨some 77, none, .cv (.c (.fn (.func 74) [] [])) [(.t 74), (.t 76), (.c (.int .u8 1)), (.c (.int .i64 0)), (.c (.int .i64 1))]⟩, ⟨some 78, none, .p (.nilck (.t 73))⟩, ⟨some 79, none, .p (.fadr 16 (.t 78))⟩, ⟨some 80, none, .p (.fadr 0 (.t 79))⟩, ⟨none, none, .e (.st 1 (.t 80) (.t 77))⟩]
@[go_sem] def c27_s22 : List SQ := [⟨some 81, none, .p (.mv (.t 5))⟩, ⟨some 82, none, .p (.mv (.t 5))⟩, ⟨some 83, none, .p (.mv (.t 8))⟩, ⟨some 84, none, .p (.mv (.t 8))⟩, ⟨some 85, none, .cv (.c (.fn (.func 74) [] [])) [(.t 82), (.t 83), (.c (.int .u8 2)), (.c (.int .i64 0)), (.t 84)]⟩, ⟨some 86, none, .p (.nilck (.t 81))⟩, ⟨some 87, none, .p (.fadr 16 (.t 86))⟩, ⟨some 88, none, .p (.fadr 1 (.t 87))⟩, ⟨none, none, .e (.st 1 (.t 88) (.t 85))⟩]
@[go_sem] def c27_s23 : List SQ := [⟨some 89, none, .p (.mv (.t 5))⟩, ⟨some 90, none, .p (.mv (.t 5))⟩, ⟨some 91, none, .cv (.c (.fn (.func 74) [] [])) [(.t 90), (.c (.int .i64 1)), (.c (.int .u8 3)), (.c (.int .i64 0)), (.c (.int .i64 1))]⟩, ⟨some 92, none, .p (.nilck (.t 89))⟩, ⟨some 93, none, .p (.fadr 16 (.t 92))⟩, ⟨some 94, none, .p (.fadr 2 (.t 93))⟩, ⟨none, none, .e (.st 1 (.t 94) (.t 91))⟩]
@[go_sem] def c27_s24 : List SQ := [⟨some 95, none, .p (.mv (.t 5))⟩, ⟨some 96, none, .p (.mv (.t 5))⟩, ⟨some 97, none, .p (.fadr 13 (.t 1))⟩, ⟨some 98, none, .r (.ld none (.t 97))⟩, ⟨some 99, none, .p (.bin .mul 3 true false (.c (.int .i64 3)) (.t 98))⟩, ⟨some 100, none, .cv (.c (.fn (.func 74) [] [])) [(.t 96), (.t 99), (.c (.int .u8 4)), (.c (.int .i64 0)), (.c (.int .i64 3))]⟩, ⟨some 101, none, .p (.nilck (.t 95))⟩, ⟨some 102, none, .p (.fadr 16 (.t 101))⟩, ⟨some 103, none, .p (.fadr 3 (.t 102))⟩, ⟨none, none, .e (.st 1 (.t 103) (.t 100))⟩]
@[go_sem] def c27_s25 : List SQ := [⟨some 104, none, .p (.mv (.t 5))⟩, ⟨some 105, none, .p (.mv (.t 5))⟩, ⟨some 106, none, .p (.fadr 13 (.t 1))⟩, ⟨some 107, none, .r (.ld none (.t 106))⟩, ⟨some 108, none, .cv (.c (.fn (.func 74) [] [])) [(.t 105), (.t 107), (.c (.int .u8 5)), (.c (.int .i64 0)), (.c (.int .i64 1))]⟩, ⟨some 109, none, .p (.nilck (.t 104))⟩, ⟨some 110, none, .p (.fadr 16 (.t 109))⟩, ⟨some 111, none, .p (.fadr 4 (.t 110))⟩, ⟨none, none, .e (.st 1 (.t 111) (.t 108))⟩]
@[go_sem] def c27_s26 : List SQ := [⟨some 112, none, .p (.mv (.t 5))⟩, ⟨some 113, none, .p (.mv (.t 5))⟩, ⟨some 114, none, .cv (.c (.fn (.func 74) [] [])) [(.t 113), (.c (.int .i64 6)), (.c (.int .u8 6)), (.c (.int .i64 0)), (.c (.int .i64 1))]⟩, ⟨some 115, none, .p (.nilck (.t 112))⟩, ⟨some 116, none, .p (.fadr 16 (.t 115))⟩, ⟨some 117, none, .p (.fadr 5 (.t 116))⟩, ⟨none, none, .e (.st 1 (.t 117) (.t 114))⟩]
@[go_sem] def c27_s27 : List SQ := [⟨some 118, none, .p (.mv (.t 5))⟩, ⟨some 119, none, .p (.mv (.t 5))⟩, ⟨some 120, none, .p (.mv (.t 5))⟩, ⟨some 121, none, .p (.nilck (.t 120))⟩, ⟨some 122, none, .p (.fadr 26 (.t 121))⟩, ⟨some 123, none, .r (.ld none (.t 122))⟩, ⟨some 124, none, .p (.lenv (.t 123))⟩, ⟨some 125, none, .cv (.c (.fn (.func 74) [] [])) [(.t 119), (.t 124), (.c (.int .u8 7)), (.c (.int .i64 1)), (.c (.int .i64 1))]⟩, ⟨some 126, none, .p (.nilck (.t 118))⟩, ⟨some 127, none, .p (.fadr 16 (.t 126))⟩, ⟨some 128, none, .p (.fadr 6 (.t 127))⟩, ⟨none, none, .e (.st 1 (.t 128) (.t 125))⟩]
@[go_sem] def c27_s28 : List SQ := [⟨some 129, none, .p (.mv (.t 5))⟩, ⟨some 130, none, .p (.mv (.t 5))⟩, ⟨some 131, none, .p (.mv (.t 9))⟩, ⟨some 132, none, .p (.bin .mul 3 false true (.t 131) (.c (.int .i64 7)))⟩, ⟨some 133, none, .cv (.c (.fn (.func 74) [] [])) [(.t 130), (.t 132), (.c (.int .u8 8)), (.c (.int .i64 0)), (.c (.int .i64 7))]⟩, ⟨some 134, none, .p (.nilck (.t 129))⟩, ⟨some 135, none, .p (.fadr 16 (.t 134))⟩, ⟨some 136, none, .p (.fadr 7 (.t 135))⟩, ⟨none, none, .e (.st 1 (.t 136) (.t 133))⟩]
@[go_sem] def c27_s29 : List SQ := [⟨some 137, none, .p (.mv (.t 5))⟩, ⟨some 138, none, .p (.mv (.t 5))⟩, ⟨some 139, none, .p (.nilck (.t 138))⟩, ⟨some 140, none, .p (.fadr 27 (.t 139))⟩, ⟨some 141, none, .r (.ld none (.t 140))⟩, ⟨some 142, none, .p (.lenv (.t 141))⟩, ⟨some 143, none, .p (.nilck (.t 137))⟩, ⟨some 144, none, .p (.fadr 16 (.t 143))⟩, ⟨some 145, none, .p (.fadr 8 (.t 144))⟩, ⟨none, none, .e (.st 1 (.t 145) (.t 142))⟩]
@[go_sem] def c27_s30 : List SQ := [⟨some 11, none, .p (.mv (.c (.int .i64 1)))⟩]
@[go_sem] def c27_s31 : List SQ := [⟨some 146, none, .p (.mv (.t 11))⟩, ⟨some 147, none, .p (.mv (.t 5))⟩, ⟨some 148, none, .p (.nilck (.t 147))⟩, ⟨some 149, none, .p (.fadr 26 (.t 148))⟩, ⟨some 150, none, .r (.ld none (.t 149))⟩, ⟨some 151, none, .p (.lenv (.t 150))⟩, ⟨some 152, none, .p (.bin .leq 3 false false (.t 146) (.t 151))⟩]
@[go_sem] def c27_p32 : List (List DQ × Option DQ) := [([⟨0, [(5, none)], none, .p (.mv (.t 5))⟩, ⟨1, [(5, none)], none, .p (.mv (.t 5))⟩, ⟨2, [(156, (some 1))], none, .p (.nilck (.t 156))⟩, ⟨3, [(157, (some 2))], none, .p (.fadr 26 (.t 157))⟩, ⟨4, [(158, (some 3))], none, .r (.ld none (.t 158))⟩, ⟨5, [(11, none)], none, .p (.mv (.t 11))⟩, ⟨6, [(160, (some 5))], none, .p (.bin .sub 3 false true (.t 160) (.c (.int .i64 1)))⟩, ⟨7, [(159, (some 4)), (161, (some 6))], none, .p (.iadrS 1 (.t 159) (.t 161))⟩, ⟨8, [(162, (some 7))], none, .r (.ld none (.t 162))⟩, ⟨9, [(163, (some 8))], none, .p (.bin .add 3 true false (.c (.int .i64 5)) (.t 163))⟩, ⟨10, [(11, none)], none, .p (.mv (.t 11))⟩, ⟨11, [(5, none)], none, .p (.mv (.t 5))⟩, ⟨12, [(166, (some 11))], none, .p (.nilck (.t 166))⟩, ⟨13, [(167, (some 12))], none, .p (.fadr 26 (.t 167))⟩, ⟨14, [(168, (some 13))], none, .r (.ld none (.t 168))⟩, ⟨15, [(11, none)], none, .p (.mv (.t 11))⟩, ⟨16, [(170, (some 15))], none, .p (.bin .sub 3 false true (.t 170) (.c (.int .i64 1)))⟩, ⟨17, [(169, (some 14)), (171, (some 16))], none, .p (.iadrS 1 (.t 169) (.t 171))⟩, ⟨18, [(172, (some 17))], none, .r (.ld none (.t 172))⟩, ⟨19, [(173, (some 18))], none, .p (.bin .add 3 true false (.c (.int .i64 5)) (.t 173))⟩], (some ⟨20, [(155, (some 0)), (164, (some 9)), (165, (some 10)), (174, (some 19))], none, .cv (.c (.fn (.func 74) [] [])) [(.t 155), (.t 164), (.c (.int .u8 9)), (.t 165), (.t 174)]⟩)), ([], none)]
@[go_sem] def c27_s33 : List SQ := [⟨some 153, none, .p (.mv (.t 11))⟩, ⟨some 154, none, .p (.bin .add 3 false true (.t 153) (.c (.int .i64 1)))⟩, ⟨some 11, none, .p (.mv (.t 154))⟩]
def c27_l34 : CC := (.seq (.seq (.ops c27_s31) (.cond (.t 152) .skip (.exit 4))) (.seq (.block 5 (.drw ⟨c27_p32, [(0, 155), (1, 156), (2, 157), (3, 158), (4, 159), (5, 160), (6, 161), (7, 162), (8, 163), (9, 164), (10, 165), (11, 166), (12, 167), (13, 168), (14, 169), (15, 170), (16, 171), (17, 172), (18, 173), (19, 174), (20, 175)], []⟩)) (.ops c27_s33)))
@[go_sem] def c27_s35 : List SQ := [⟨some 176, none, .p (.mv (.t 5))⟩, ⟨some 177, none, .p (.mv (.t 5))⟩, ⟨some 178, none, .p (.nilck (.t 177))⟩, ⟨some 179, none, .p (.fadr 27 (.t 178))⟩, ⟨some 180, none, .r (.ld none (.t 179))⟩, ⟨some 181, none, .p (.lenv (.t 180))⟩, ⟨some 182, none, .p (.nilck (.t 176))⟩, ⟨some 183, none, .p (.fadr 16 (.t 182))⟩, ⟨some 184, none, .p (.fadr 9 (.t 183))⟩, ⟨none, none, .e (.st 1 (.t 184) (.t 181))⟩]
@[go_sem] def c27_s36 : List SQ := [⟨some 185, none, .p (.mv (.t 5))⟩, ⟨some 2, none, .p (.mv (.t 185))⟩, ⟨some 3, none, .p (.mv (.c (.int .i64 0)))⟩]
@[go_sem] def c27 : CF := ⟨1, (.seq (.ops c27_s0) (.seq (.seq (.ops c27_s1) (.seq (.ops c27_s2) (.cond (.t 15) (.seq (.ops c27_s3) .ret) .skip))) (.seq (.ops c27_s4) (.seq (.ops c27_s5) (.seq (.seq (.ops c27_s6) (.block 0 (.loop c27_l14))) (.seq (.ops c27_s15) (.seq (.seq (.ops c27_s16) (.cond (.t 57) (.ops c27_s17) .skip)) (.seq (.seq (.ops c27_s18) (.cond (.t 63) (.ops c27_s19) .skip)) (.seq (.ops c27_s20) (.seq (.ops c27_s21) (.seq (.ops c27_s22) (.seq (.ops c27_s23) (.seq (.ops c27_s24) (.seq (.ops c27_s25) (.seq (.ops c27_s26) (.seq (.ops c27_s27) (.seq (.ops c27_s28) (.seq (.ops c27_s29) (.seq (.seq (.ops c27_s30) (.block 4 (.loop c27_l34))) (.seq (.ops c27_s35) (.seq (.ops c27_s36) .ret))))))))))))))))))))), [.tmp 2, .tmp 3]⟩

def F19 (call : CallE) : Prop := ∀ h k n v (l : List Int), RdL none 1 h v (uL l) → (∀ a, own v = some a → a < h.next) → (∀ x ∈ l, inU x) → ∃ v' h', call 19 [.agg [.int .u8 k, .int .i64 n, v]] h = some (v', h') ∧ SaysE (domB k n l) h v' h'
theorem w73 (P : Program) {call : CallE} (h19 : F19 call) {h : H} {k n : Int} {v : AV} {l : List Int} (hd : domB k n l) (hv : RdL none 1 h v (uL l)) (hlv : ∀ a, own v = some a → a < h.next) (hin : ∀ x ∈ l, inU x) :
    WF P call c73 [.agg [.int .u8 k, .int .i64 n, v]] h fun v' h' => v' = .tup [.int .i64 (valN k n l), .int .i64 0] ∧ StepN h h' := by
  have ov := hv.one
  have hvl := hv.lenA
  have hle := hv.le
  unfold uL at hvl hle
  rw [List.length_map] at hvl hle
  have f1 : fw .i64 ((l.length : Int) + 1) = (l.length : Int) + 1 := fwI (by omega) (by omega)
  have st0 := StepN.new h (.row (putList 0 [.int .u8 k, .int .i64 n, v] T.e) 3 24)
  have hv1 := hv.keep fun b hb => st0.old b (hlv b hb)
  simp only [go_sem, ↓reduceIte, ↓reduceDIte, zA, zM, zL, zE, zD, yA, yE, yL, yQ, yT, reduceCtorEq, c73, ov]
  refine opt_by (h19 _ k n v l hv1 (fun a ha => Nat.lt_succ_of_lt (hlv a ha)) hin) fun v1 h1 p1 => ?_
  obtain ⟨e, rfl, he, st1⟩ := p1
  obtain rfl := he.2 hd
  have g1 := st1.old h.next (Nat.lt_succ_self _)
  simp only [go_sem, ↓reduceIte, ↓reduceDIte, zA, zM, zL, zE, zD, yA, yE, yL, yQ, yT, reduceCtorEq] at g1
  by_cases k2 : k = 2
  · simp only [go_sem, ↓reduceIte, ↓reduceDIte, zA, zM, zL, zE, zD, yA, yE, yL, yQ, yT, reduceCtorEq, g1, k2, valN]
    exact st0.trans st1
  by_cases k3 : k = 3
  · simp only [go_sem, ↓reduceIte, ↓reduceDIte, zA, zM, zL, zE, zD, yA, yE, yL, yQ, yT, reduceCtorEq, g1, k2, k3, hvl, f1, valN]
    exact st0.trans st1
  simp only [go_sem, ↓reduceIte, ↓reduceDIte, zA, zM, zL, zE, zD, yA, yE, yL, yQ, yT, reduceCtorEq, g1, k2, k3, valN]
  exact st0.trans st1
/-- the reference's layout while it is made -/
structure RL (g0 : Nat → Option AO) (L : Nat) (c : CfgT) (cv : AV) (p : PlT) (hs : List Int) (wl : Nat) (h : H) : Prop where
  old : ∀ b, b < L → h.t.get b = g0 b
  nx : L < h.next
  ex : ∃ hv wv wcs, h.t.get L = some (rowL (cfgC c cv ++ (plC p ++ [hv, wv])) 96) ∧ Own 1 3 h hv hs.length (iL hs) ∧ Own 3 298 h wv wl wcs ∧ (∀ a, own hv = some a → L < a ∧ own wv ≠ some a) ∧ (∀ a, own wv = some a → L < a)
section
variable {g0 : Nat → Option AO} {L : Nat} {c : CfgT} {cv : AV} {p : PlT} {hs : List Int} {wl : Nat} {h h' : H}
theorem RL.step (r : RL g0 L c cv p hs wl h) (s : StepN h h') : RL g0 L c cv p hs wl h' := by
  obtain ⟨hv, wv, wcs, g, oh, ow, ohl, owl⟩ := r.ex
  have := r.nx
  exact ⟨fun b hb => (s.old b (by omega)).trans (r.old b hb), Nat.lt_of_lt_of_le r.nx s.next, hv, wv, wcs, (s.old _ r.nx).trans g, oh.keep s.next fun b hb => s.old b (oh.lt hb), ow.keep s.next fun b hb => s.old b (ow.lt hb), ohl, owl⟩
/-- places are written -/
theorem RL.setp {hv wv : AV} {wcs : List AV} (r : RL g0 L c cv p hs wl h) (oh : Own 1 3 h hv hs.length (iL hs)) (ow : Own 3 298 h wv wl wcs) (ohl : ∀ a, own hv = some a → L < a ∧ own wv ≠ some a) (owl : ∀ a, own wv = some a → L < a) (p' : PlT) : RL g0 L c cv p' hs wl ⟨h.next, h.t.set L (rowL (cfgC c cv ++ (plC p' ++ [hv, wv])) 96)⟩ := by
  refine ⟨fun b hb => ?_, r.nx, hv, wv, wcs, by simp [go_sem], oh.keep (Nat.le_refl _) fun b hb => ?_, ow.keep (Nat.le_refl _) fun b hb => ?_, ohl, owl⟩
  · have e : ¬ b = L := by omega
    simp only [go_sem, ↓reduceIte, ↓reduceDIte, zA, zM, zL, zE, zD, yA, yE, yL, yQ, yT, reduceCtorEq, e]
    exact r.old b hb
  · have e : ¬ b = L := by have := (ohl b hb).1; omega
    simp only [go_sem, ↓reduceIte, ↓reduceDIte, zA, zM, zL, zE, zD, yA, yE, yL, yQ, yT, reduceCtorEq, e]
  · have e : ¬ b = L := by have := owl b hb; omega
    simp only [go_sem, ↓reduceIte, ↓reduceDIte, zA, zM, zL, zE, zD, yA, yE, yL, yQ, yT, reduceCtorEq, e]
def I74 (g0 : Nat → Option AO) (L : Nat) (c : CfgT) (cv : AV) (p : PlT) (hs : List Int) (wl : Nat) (kd fi pe : Int) (n : Nat) (nx0 : Nat) (k : Nat) (tm : T AV) (h : H) : Prop :=
  tm.get 0 = some (.ptr L 0) ∧ tm.get 1 = some (.int .i64 (n : Int)) ∧ tm.get 2 = some (.int .u8 kd) ∧ tm.get 3 = some (.int .i64 fi) ∧ tm.get 4 = some (.int .i64 pe) ∧ tm.get 11 = some (.int .i64 (wl : Int)) ∧ nx0 ≤ h.next ∧ ∃ i : Nat, i + k = n ∧ tm.get 12 = some (.int .i64 (i : Int)) ∧ RL g0 L c cv p hs (wl + i) h
theorem step74 (P : Program) {call : CallE} {kd fi pe : Int} {n nx0 : Nat} (ov : oneA cv = true) (hn : wl + n ≤ 10000) (hpe : 1 ≤ pe) (k : Nat) (tm : T AV) (h : H) (hI : I74 g0 L c cv p hs wl kd fi pe n nx0 k tm h) :
    WC P call c74_l6 (loopQ 0 (fun tm h => ∃ j, j < k ∧ I74 g0 L c cv p hs wl kd fi pe n nx0 j tm h) (fun tm h => tm.get 11 = some (.int .i64 (wl : Int)) ∧ nx0 ≤ h.next ∧ RL g0 L c cv p hs (wl + n) h) (fun _ _ => False)) tm h := by
  obtain ⟨t0, t1, t2, t3, t4, t11, hnx, i, hik, t12, r⟩ := hI
  cases k with
  | zero =>
    have e1 : ¬ (i : Int) < (n : Int) := by omega
    obtain rfl : i = n := by omega
    simp only [go_sem, ↓reduceIte, ↓reduceDIte, zA, zM, zL, zE, zD, yA, yE, yL, yQ, yT, reduceCtorEq, c74_l6, t1, t12, e1]
    exact ⟨by simp [go_sem, t11], hnx, r⟩
  | succ k =>
    have e1 : (i : Int) < (n : Int) := by omega
    have f1 : fw .i64 ((i : Int) + 1) = (i : Int) + 1 := fwI (by omega) (by omega)
    have e3 : ((i + 1 : Nat) : Int) = (i : Int) + 1 := rfl
    have pz : ¬ pe = 0 := by omega
    obtain ⟨old, nx, hv, wv, wcs, g, oh, ow, ohl, owl⟩ := r
    have ohv := oh.one
    have owv := ow.one
    have l1 : ¬ L = h.next := by omega
    obtain ⟨src, hsrc⟩ : ∃ src : List AV, src = [.int .u8 kd, .int .i64 (fw .i64 (fi + fw .i64 (Int.tdiv (i : Int) pe))), .int .i64 (Int.tmod (i : Int) pe)] := ⟨_, rfl⟩
    have hsl : src.length = 3 := by rw [hsrc]; rfl
    have st0 := StepN.new h (.row (putList 0 src T.e) 3 298)
    have ow1 : Own 3 298 ⟨h.next + 1, h.t.set h.next (.row (putList 0 src T.e) 3 298)⟩ wv _ _ := ow.keep st0.next fun b hb => st0.old b (ow.lt hb)
    simp only [go_sem, ↓reduceIte, ↓reduceDIte, zA, zM, zL, zE, zD, yA, yE, yL, yQ, yT, reduceCtorEq, c74_l6, t0, t1, t2, t3, t4, t12, e1, g, cfgC, plC, pz, l1]
    simp only [← hsrc]
    refine opt_some (appA_own ow1 (by decide) (by decide) (by omega) (by omega)) ?_
    have gg := fun b hb hh => app_get (h := ⟨h.next + 1, h.t.set h.next (.row (putList 0 src T.e) 3 298)⟩) (e := 298) (v := wv) (cs := wcs ++ src) (b := b) hb hh
    have noL : own wv ≠ some L := fun hh => by have := owl _ hh; omega
    have gL1 := gg L (by show L < h.next + 1; omega) noL
    have oA1 := own_app ow1 (src := src) (n := 1) (by decide) hsl
    have ov1 : oneA (appV ⟨h.next + 1, h.t.set h.next (.row (putList 0 src T.e) 3 298)⟩ 3 (wl + (i + 1))) = true := rfl
    simp only [go_sem, ↓reduceIte, ↓reduceDIte, zA, zM, zL, zE, zD, yA, yE, yL, yQ, yT, reduceCtorEq, l1, g, cfgC, plC] at gL1
    simp only [go_sem, ↓reduceIte, ↓reduceDIte, zA, zM, zL, zE, zD, yA, yE, yL, yQ, yT, reduceCtorEq, gL1, ov1, app_next, f1, t0, t1, t2, t3, t4, t11, t12, l1, g, cfgC, plC]
    refine ⟨k, Nat.lt_succ_self k, by simp [go_sem, t0], by simp [go_sem, t1], by simp [go_sem, t2], by simp [go_sem, t3], by simp [go_sem, t4], by simp [go_sem, t11], by show nx0 ≤ h.next + 2; omega, i + 1, by omega, by simp [go_sem, e3], ?_⟩
    have hown : own (appV ⟨h.next + 1, h.t.set h.next (.row (putList 0 src T.e) 3 298)⟩ 3 (wl + i + 1)) = some (h.next + 1) := rfl
    refine ⟨fun b hb => ?_, by show L < h.next + 2; omega, hv, appV ⟨h.next + 1, h.t.set h.next (.row (putList 0 src T.e) 3 298)⟩ 3 (wl + i + 1), wcs ++ src, by simp [go_sem, cfgC, plC], ?_, ?_, ?_, ?_⟩
    · have n1 : ¬ b = h.next := by omega
      have n2 : ¬ b = L := by omega
      have g1 := gg b (by show b < h.next + 1; omega) (fun hh => by have := owl _ hh; omega)
      simp only [go_sem, ↓reduceIte, ↓reduceDIte, zA, zM, zL, zE, zD, yA, yE, yL, yQ, yT, reduceCtorEq, n1] at g1
      simp only [go_sem, ↓reduceIte, ↓reduceDIte, zA, zM, zL, zE, zD, yA, yE, yL, yQ, yT, reduceCtorEq, n2, g1]
      exact old b hb
    · refine oh.keep (by show h.next ≤ h.next + 2; omega) fun b hb => ?_
      have hlt := oh.lt hb
      have n1 : ¬ b = h.next := by omega
      have n2 : ¬ b = L := by have := (ohl b hb).1; omega
      have g1 := gg b (by show b < h.next + 1; omega) (ohl b hb).2
      simp only [go_sem, ↓reduceIte, ↓reduceDIte, zA, zM, zL, zE, zD, yA, yE, yL, yQ, yT, reduceCtorEq, n1] at g1
      simp only [go_sem, ↓reduceIte, ↓reduceDIte, zA, zM, zL, zE, zD, yA, yE, yL, yQ, yT, reduceCtorEq, n2, g1]
    · rw [← Nat.add_assoc]
      refine oA1.keep (by show h.next + 1 + 1 ≤ h.next + 2; omega) fun b hb => ?_
      rw [own_appV] at hb
      obtain rfl := Option.some.inj hb
      have n2 : ¬ h.next + 1 = L := by omega
      simp only [go_sem, ↓reduceIte, ↓reduceDIte, zA, zM, zL, zE, zD, yA, yE, yL, yQ, yT, reduceCtorEq, n2]
    · intro a ha
      have hlt := oh.lt ha
      refine ⟨(ohl a ha).1, fun hh => ?_⟩
      rw [hown] at hh
      have := Option.some.inj hh
      omega
    · intro a ha
      rw [hown] at ha
      obtain rfl := Option.some.inj ha
      omega
theorem w74 (P : Program) {call : CallE} {kd fi pe : Int} {n : Nat} (ov : oneA cv = true) (hn : wl + n ≤ 10000) (hpe : 1 ≤ pe) (r : RL g0 L c cv p hs wl h) :
    WF P call c74 [.ptr L 0, .int .i64 (n : Int), .int .u8 kd, .int .i64 fi, .int .i64 pe] h fun v h' => v = .int .i64 (wl : Int) ∧ RL g0 L c cv p hs (wl + n) h' ∧ h.next ≤ h'.next := by
  obtain ⟨hv, wv, wcs, g, oh, ow, ohl, owl⟩ := r.ex
  have hwl := ow.lenA
  simp only [go_sem, ↓reduceIte, ↓reduceDIte, zA, zM, zL, zE, zD, yA, yE, yL, yQ, yT, reduceCtorEq, c74, g, cfgC, plC, hwl]
  refine loop_in (I74 g0 L c cv p hs wl kd fi pe n h.next) _ _ (fun k tm h' hI => step74 P ov hn hpe k tm h' hI) (fun tm2 h2 hR => ?_) (fun _ _ hh => hh.elim) n _ _
    ⟨by simp [go_sem], by simp [go_sem], by simp [go_sem], by simp [go_sem], by simp [go_sem], by simp [go_sem], Nat.le_refl _, 0, by omega, by simp [go_sem], r⟩
  obtain ⟨t11, nx, r2⟩ := hR
  simp only [go_sem, ↓reduceIte, ↓reduceDIte, zA, zM, zL, zE, zD, yA, yE, yL, yQ, yT, reduceCtorEq, t11]
  exact ⟨r2, nx⟩
end
/-- heights are collected -/
def I12 (g0 : Nat → Option AO) (B L : Nat) (c : CfgT) (v cv : AV) (i : Nat) (hs0 : List Int) (n k : Nat) (tm : T AV) (h : H) : Prop :=
  tm.get 1 = some (.ptr B 0) ∧ tm.get 5 = some (.ptr L 0) ∧ tm.get 6 = some (.int .i64 ((i : Int) + 1)) ∧ B < L ∧ g0 B = some (rowL (cfgC c v) 27) ∧ ∃ j : Nat, j + k = n ∧ tm.get 7 = some (.int .i64 (j : Int)) ∧ RL g0 L c cv plZ (hs0 ++ List.replicate j ((i : Int) + 1)) 0 h
theorem step12 (P : Program) {call : CallE} {g0 : Nat → Option AO} {B L : Nat} {c : CfgT} {v cv : AV} {i : Nat} {hs0 : List Int} {n : Nat} (hi : i < 6) (hni : (twL c)[i]? = some (n : Int)) (ov : oneA cv = true) (hn : hs0.length + n ≤ 1000) (k : Nat) (tm : T AV) (h : H) (hI : I12 g0 B L c v cv i hs0 n k tm h) :
    WC P call c27_l12 (loopQ 2 (fun tm h => ∃ j, j < k ∧ I12 g0 B L c v cv i hs0 n j tm h) (fun tm h => tm.get 1 = some (.ptr B 0) ∧ tm.get 5 = some (.ptr L 0) ∧ tm.get 6 = some (.int .i64 ((i : Int) + 1)) ∧ RL g0 L c cv plZ (hs0 ++ List.replicate n ((i : Int) + 1)) 0 h) (fun _ _ => False)) tm h := by
  obtain ⟨t1, t5, t6, hBL, gB, j, hjk, t7, r⟩ := hI
  have gB1 := (r.old B hBL).trans gB
  have fi1 : fw .i64 ((i : Int) + 1 - 1) = (i : Int) := by rw [show (i : Int) + 1 - 1 = (i : Int) by omega]; exact fwI (by omega) (by omega)
  have ei : (i : Int) < 6 := by omega
  have hcell : (cfgC c v)[7 + i]? = some (.int .i64 (n : Int)) := by
    match i, hi, hni with
    | 0, _, h => have := Option.some.inj h; simp only [cfgC]; rw [← this]; rfl
    | 1, _, h => have := Option.some.inj h; simp only [cfgC]; rw [← this]; rfl
    | 2, _, h => have := Option.some.inj h; simp only [cfgC]; rw [← this]; rfl
    | 3, _, h => have := Option.some.inj h; simp only [cfgC]; rw [← this]; rfl
    | 4, _, h => have := Option.some.inj h; simp only [cfgC]; rw [← this]; rfl
    | 5, _, h => have := Option.some.inj h; simp only [cfgC]; rw [← this]; rfl
  cases k with
  | zero =>
    have e1 : ¬ (j : Int) < (n : Int) := by omega
    obtain rfl : j = n := by omega
    simp only [go_sem, ↓reduceIte, ↓reduceDIte, zA, zM, zL, zE, zD, yA, yE, yL, yQ, yT, reduceCtorEq, c27_l12, t1, t5, t6, t7, fi1, ei, gB1, Nat.mul_one, hcell, e1]
    exact r
  | succ k =>
    have e1 : (j : Int) < (n : Int) := by omega
    have f2 : fw .i64 ((j : Int) + 1) = (j : Int) + 1 := fwI (by omega) (by omega)
    have e3 : ((j + 1 : Nat) : Int) = (j : Int) + 1 := rfl
    obtain ⟨old, nx, hv, wv, wcs, g, oh, ow, ohl, owl⟩ := r
    have ohv := oh.one
    have owv := ow.one
    have l1 : ¬ L = h.next := by omega
    have st0 := StepN.new h (.row (putList 0 [.int .i64 ((i : Int) + 1)] T.e) 1 3)
    have hlen : (hs0 ++ List.replicate j ((i : Int) + 1)).length = hs0.length + j := by rw [List.length_append, List.length_replicate]
    generalize hhs : hs0 ++ List.replicate j ((i : Int) + 1) = hs at oh hlen g
    have oh1 : Own 1 3 ⟨h.next + 1, h.t.set h.next (.row (putList 0 [.int .i64 ((i : Int) + 1)] T.e) 1 3)⟩ hv _ _ := oh.keep st0.next fun b hb => st0.old b (oh.lt hb)
    have gL0 : h.t.get L = some (rowL (cfgC c cv ++ (plC plZ ++ [hv, wv])) 96) := g
    simp only [cfgC, plC, List.cons_append, List.nil_append] at g
    simp only [go_sem, ↓reduceIte, ↓reduceDIte, zA, zM, zL, zE, zD, yA, yE, yL, yQ, yT, reduceCtorEq, c27_l12, t1, t5, t6, t7, fi1, ei, gB1, Nat.mul_one, hcell, e1, g, l1]
    refine opt_some (appA_own oh1 (by decide) (by decide) (by omega) (by omega)) ?_
    have gg := fun b hb hh => app_get (h := ⟨h.next + 1, h.t.set h.next (.row (putList 0 [.int .i64 ((i : Int) + 1)] T.e) 1 3)⟩) (e := 3) (v := hv) (cs := iL hs ++ [.int .i64 ((i : Int) + 1)]) (b := b) hb hh
    have gL1 := gg L (by show L < h.next + 1; omega) (fun hh => by have := (ohl _ hh).1; omega)
    have oA1 := own_app oh1 (src := [.int .i64 ((i : Int) + 1)]) (n := 1) (by decide) rfl
    have ov1 := oA1.one
    simp only [go_sem, ↓reduceIte, ↓reduceDIte, zA, zM, zL, zE, zD, yA, yE, yL, yQ, yT, reduceCtorEq, l1, g] at gL1
    simp only [go_sem, ↓reduceIte, ↓reduceDIte, zA, zM, zL, zE, zD, yA, yE, yL, yQ, yT, reduceCtorEq, gL1, ov1, app_next, f2, t1, t5, t6, t7, l1, g]
    have ehs : hs0 ++ List.replicate (j + 1) ((i : Int) + 1) = hs ++ [(i : Int) + 1] := by rw [← hhs, List.replicate_succ', List.append_assoc]
    refine ⟨k, Nat.lt_succ_self k, by simp [go_sem, t1], by simp [go_sem, t5], by simp [go_sem, t6], hBL, gB, j + 1, by omega, by simp [go_sem, e3], ?_⟩
    rw [ehs]
    have hown : own (appV ⟨h.next + 1, h.t.set h.next (.row (putList 0 [.int .i64 ((i : Int) + 1)] T.e) 1 3)⟩ 1 (hs.length + 1)) = some (h.next + 1) := rfl
    refine ⟨fun b hb => ?_, by show L < h.next + 2; omega, appV ⟨h.next + 1, h.t.set h.next (.row (putList 0 [.int .i64 ((i : Int) + 1)] T.e) 1 3)⟩ 1 (hs.length + 1), wv, wcs, by simp [go_sem, cfgC, plC], ?_, ?_, ?_, ?_⟩
    · have n1 : ¬ b = h.next := by omega
      have n2 : ¬ b = L := by omega
      have g1 := gg b (by show b < h.next + 1; omega) (fun hh => by have := (ohl _ hh).1; omega)
      simp only [go_sem, ↓reduceIte, ↓reduceDIte, zA, zM, zL, zE, zD, yA, yE, yL, yQ, yT, reduceCtorEq, n1] at g1
      simp only [go_sem, ↓reduceIte, ↓reduceDIte, zA, zM, zL, zE, zD, yA, yE, yL, yQ, yT, reduceCtorEq, n2, g1]
      exact old b hb
    · have e4 : iL hs ++ [.int .i64 ((i : Int) + 1)] = iL (hs ++ [(i : Int) + 1]) := by unfold iL; rw [List.map_append]; rfl
      rw [e4] at oA1
      rw [List.length_append]
      refine oA1.keep (by show h.next + 1 + 1 ≤ h.next + 2; omega) fun b hb => ?_
      rw [own_appV] at hb
      obtain rfl := Option.some.inj hb
      have n2 : ¬ h.next + 1 = L := by omega
      simp only [go_sem, ↓reduceIte, ↓reduceDIte, zA, zM, zL, zE, zD, yA, yE, yL, yQ, yT, reduceCtorEq, n2, e4]
    · refine ow.keep (by show h.next ≤ h.next + 2; omega) fun b hb => ?_
      have hlt := ow.lt hb
      have n1 : ¬ b = h.next := by omega
      have n2 : ¬ b = L := by have := owl b hb; omega
      have g1 := gg b (by show b < h.next + 1; omega) (fun hh => (ohl b hh).2 hb)
      simp only [go_sem, ↓reduceIte, ↓reduceDIte, zA, zM, zL, zE, zD, yA, yE, yL, yQ, yT, reduceCtorEq, n1] at g1
      simp only [go_sem, ↓reduceIte, ↓reduceDIte, zA, zM, zL, zE, zD, yA, yE, yL, yQ, yT, reduceCtorEq, n2, g1]
    · intro a ha
      rw [hown] at ha
      obtain rfl := Option.some.inj ha
      refine ⟨by omega, fun hh => ?_⟩
      have := ow.lt hh
      omega
    · exact owl
def I27a (g0 : Nat → Option AO) (B L : Nat) (c : CfgT) (v cv : AV) (k : Nat) (tm : T AV) (h : H) : Prop :=
  ∃ i : Nat, i + k = 6 ∧ tm.get 1 = some (.ptr B 0) ∧ tm.get 5 = some (.ptr L 0) ∧ tm.get 6 = some (.int .i64 ((i : Int) + 1)) ∧ B < L ∧ g0 B = some (rowL (cfgC c v) 27) ∧ ∃ hs, hs ++ htL i ((twL c).drop i) = hsL c ∧ RL g0 L c cv plZ hs 0 h
theorem step27a (P : Program) {call : CallE} {g0 : Nat → Option AO} {B L : Nat} {c : CfgT} {v cv : AV} (ov : oneA cv = true) (hpos : ∀ t ∈ twL c, 0 ≤ t) (hn : (hsL c).length ≤ 1000) (k : Nat) (tm : T AV) (h : H) (hI : I27a g0 B L c v cv k tm h) :
    WC P call c27_l14 (loopQ 0 (fun tm h => ∃ j, j < k ∧ I27a g0 B L c v cv j tm h) (fun tm h => tm.get 1 = some (.ptr B 0) ∧ tm.get 5 = some (.ptr L 0) ∧ RL g0 L c cv plZ (hsL c) 0 h) (fun _ _ => False)) tm h := by
  obtain ⟨i, hik, t1, t5, t6, hBL, gB, hs, hhs, r⟩ := hI
  have h6 : (twL c).length = 6 := rfl
  cases k with
  | zero =>
    obtain rfl : i = 6 := by omega
    have z : ¬ (((6 : Nat) : Int) + 1 ≤ 6) := by decide
    have z2 : (6 : Int) < ((6 : Nat) : Int) + 1 := by decide
    simp only [go_sem, ↓reduceIte, ↓reduceDIte, zA, zM, zL, zE, zD, yA, yE, yL, yQ, yT, reduceCtorEq, c27_l14, t6]
    rw [List.drop_eq_nil_of_le (by omega), show htL ((6 : Nat) : Int) [] = [] from rfl, List.append_nil] at hhs
    rw [hhs] at r
    exact ⟨by simp [go_sem, t1], by simp [go_sem, t5], r⟩
  | succ k =>
    have e1 : ¬ (6 : Int) < (i : Int) + 1 := by omega
    have hi : i < (twL c).length := by omega
    have f1 : fw .i64 ((i : Int) + 1 + 1) = (i : Int) + 1 + 1 := fwI (by omega) (by omega)
    have e3 : ((i + 1 : Nat) : Int) = (i : Int) + 1 := rfl
    have h0 := hpos (twL c)[i] (List.getElem_mem hi)
    obtain ⟨n, hn0⟩ : ∃ n : Nat, (twL c)[i] = (n : Int) := ⟨(twL c)[i].toNat, by omega⟩
    have hni : (twL c)[i]? = some (n : Int) := by rw [List.getElem?_eq_getElem hi, hn0]
    have hd : htL i ((twL c).drop i) = List.replicate n ((i : Int) + 1) ++ htL ((i + 1 : Nat) : Int) ((twL c).drop (i + 1)) := by
      rw [List.drop_eq_getElem_cons hi, htL, hn0]; rfl
    have hlen : hs.length + n ≤ 1000 := by
      have := congrArg List.length hhs
      rw [hd, List.length_append, List.length_append, List.length_replicate] at this
      omega
    simp only [go_sem, ↓reduceIte, ↓reduceDIte, zA, zM, zL, zE, zD, yA, yE, yL, yQ, yT, reduceCtorEq, c27_l14, t1, t5, t6, e1]
    refine loop_in (I12 g0 B L c v cv i hs n) _ _ (fun k tm h' hI => step12 P (by omega) hni ov hlen k tm h' hI) (fun tm2 h2 hR => ?_) (fun _ _ hh => hh.elim) n _ _
      ⟨by simp [go_sem, t1], by simp [go_sem, t5], by simp [go_sem, t6], hBL, gB, 0, by omega, by simp [go_sem], by rw [List.replicate_zero, List.append_nil]; exact r⟩
    obtain ⟨s1, s5, s6, r2⟩ := hR
    simp only [go_sem, ↓reduceIte, ↓reduceDIte, zA, zM, zL, zE, zD, yA, yE, yL, yQ, yT, reduceCtorEq, s1, s5, s6, f1]
    refine ⟨k, Nat.lt_succ_self k, i + 1, by omega, by simp [go_sem, s1], by simp [go_sem, s5], by simp [go_sem, e3], hBL, gB, _, ?_, r2⟩
    rw [List.append_assoc, ← hd, hhs]
end
end Go.Proofs.YtldmhpdjlgoenaaGreatDoor.BN
