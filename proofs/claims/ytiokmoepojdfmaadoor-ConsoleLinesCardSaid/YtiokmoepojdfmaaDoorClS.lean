/-
  The law ConsoleLines: what it does with a call.
-/
import Derived.Test.YtiokmoepojdfmaaDoorClR
import Derived.Below
set_option linter.unusedVariables false
set_option linter.unusedSimpArgs false
namespace Go.Proofs.YtiokmoepojdfmaaDoor
open Go.Proofs.YtiokmoepojdfmaaDoor.Eo Go.RowKit
open Nat renaming reduceAdd → zA, reduceMul → zM, reduceLT → zL, reduceEqDiff → zE, reduceLeDiff → zD
open Int renaming reduceAdd → yA, reduceLE → yE, reduceLT → yL, reduceEq → yQ, reduceToNat → yT
open Go.Lib (decDigits itoa)
noncomputable section
/-! 3: leapfrog/leapfroglaw45.ConsoleLines -/
@[go_sem] def c3_s0 : List SQ := [⟨some 1, none, .n (.box 29 (.t 0))⟩, ⟨some 2, none, .p (.mv (.c (.bool false)))⟩]
@[go_sem] def c3_s1 : List SQ := [⟨some 10, none, .r (.ld (some 18) (.t 1))⟩, ⟨some 11, none, .cv (.c (.fn (.func 4) [] [])) [(.t 10)]⟩, ⟨some 9, none, .p (.mv (.t 11))⟩, ⟨some 12, none, .p (.extr (.t 9) 0)⟩, ⟨some 13, none, .p (.extr (.t 9) 1)⟩, ⟨some 3, none, .p (.mv (.t 12))⟩, ⟨some 4, none, .p (.mv (.t 13))⟩]
@[go_sem] def c3_s2 : List SQ := [⟨some 15, none, .r (.ld (some 18) (.t 1))⟩, ⟨some 16, none, .cv (.c (.fn (.func 5) [] [])) [(.t 15)]⟩, ⟨some 14, none, .p (.mv (.t 16))⟩, ⟨some 17, none, .p (.extr (.t 14) 0)⟩, ⟨some 18, none, .p (.extr (.t 14) 1)⟩, ⟨some 5, none, .p (.mv (.t 17))⟩, ⟨some 6, none, .p (.mv (.t 18))⟩]
@[go_sem] def c3_s3 : List SQ := [⟨some 20, none, .p (.build [.int .u8 0, .int .u64 0, .int .u64 0, .int .u64 0, .int .u64 0, .int .u64 0, .int .u64 0] [(0, 1, (.c (.int .u8 1)))])⟩, ⟨some 21, none, .p (.build [.int .i64 0, .int .i64 0, .int .u8 0, .int .u64 0, .int .u64 0, .int .u64 0, .int .u64 0, .int .u64 0, .int .u64 0, .int .i64 0, .int .i64 0, .int .i64 0, .int .i64 0, .int .i64 0, .bool false, .int .u64 0, .int .u64 0, .int .i64 0] [(2, 7, (.t 20)), (12, 1, (.c (.int .i64 1)))])⟩, ⟨some 22, none, .cv (.c (.fn (.func 4) [] [])) [(.t 21)]⟩, ⟨some 19, none, .p (.mv (.t 22))⟩, ⟨some 23, none, .p (.extr (.t 19) 0)⟩, ⟨some 24, none, .p (.extr (.t 19) 1)⟩, ⟨some 7, none, .p (.mv (.t 23))⟩, ⟨some 8, none, .p (.mv (.t 24))⟩]
@[go_sem] def c3_s4 : List SQ := [⟨some 25, none, .p (.mv (.t 3))⟩, ⟨some 26, none, .p (.mv (.t 5))⟩, ⟨some 27, none, .p (.bin .eql 9 false false (.t 25) (.t 26))⟩, ⟨some 28, none, .p (.mv (.t 27))⟩, ⟨some 29, some (28, true), .p (.mv (.t 4))⟩, ⟨some 30, some (28, true), .p (.mv (.t 6))⟩, ⟨some 31, some (28, true), .p (.bin .eql 25 false false (.t 29) (.t 30))⟩, ⟨some 32, none, .p (.pick (.t 28) (.t 31) (.c (.bool false)))⟩, ⟨some 33, none, .p (.mv (.t 32))⟩, ⟨some 34, some (33, true), .p (.mv (.t 7))⟩, ⟨some 35, some (33, true), .p (.bin .eql 9 false true (.t 34) (.c (.str ⟨#[48, 32, 48, 32, 48, 32, 48, 32, 48, 32, 49, 32, 111, 112, 101, 110, 32, 58, 32, 111, 107]⟩)))⟩, ⟨some 36, none, .p (.pick (.t 33) (.t 35) (.c (.bool false)))⟩, ⟨some 37, none, .p (.mv (.t 36))⟩, ⟨some 38, some (37, true), .p (.mv (.t 8))⟩, ⟨some 39, some (37, true), .p (.bin .eql 25 false true (.t 38) (.c (.int .i64 0)))⟩, ⟨some 40, none, .p (.pick (.t 37) (.t 39) (.c (.bool false)))⟩, ⟨some 2, none, .p (.mv (.t 40))⟩]
@[go_sem] def c3 : CF := ⟨1, (.seq (.ops c3_s0) (.seq (.ops c3_s1) (.seq (.ops c3_s2) (.seq (.ops c3_s3) (.seq (.ops c3_s4) .ret))))), [.tmp 2]⟩
theorem c3_eq : cCF Tryd.prog 3 1 = some c3 := by kernel_rfl

/-- a call that opens -/
def openC : CallT := ⟨0, 0, (1, 0, 0, 0, 0, 0, 0), 0, 0, 0, 1, ⟨0, false, 0, 0, 0⟩⟩
theorem fld_open : ∀ i, fld openC.op i = 0
  | 0 => rfl | 1 => rfl | 2 => rfl | 3 => rfl | 4 => rfl | 5 => rfl | _ + 6 => rfl
theorem openC_R : CallR openC := ⟨⟨⟨by decide, by decide⟩, fun i => by rw [fld_open]; exact ⟨by decide, by decide⟩⟩, ⟨⟨by decide, by decide⟩, ⟨by decide, by decide⟩, ⟨by decide, by decide⟩, ⟨by decide, by decide⟩⟩⟩
theorem openC_good : goodC openC := ⟨by unfold badR; decide, by unfold nums okN; decide⟩
theorem itoa0 : itoa 0 = [48] := by
  have := Go.Lib.itoa_nonneg 0
  rw [decDigits_small (by decide)] at this
  exact this
theorem itoa1 : itoa 1 = [49] := by
  have := Go.Lib.itoa_nonneg 1
  rw [decDigits_small (by decide)] at this
  exact this
theorem openC_line : strB (lineB openC) = ⟨#[48, 32, 48, 32, 48, 32, 48, 32, 48, 32, 49, 32, 111, 112, 101, 110, 32, 58, 32, 111, 107]⟩ := by
  have hf : formed openC.op := ⟨⟨by decide, by decide⟩, fun i _ _ => fld_open i⟩
  have h1 : opB openC.op = [111, 112, 101, 110] := by unfold opB; rw [if_pos hf]; rfl
  have h2 : resB openC.r = [111, 107] := rfl
  have h3 : rowB (nums openC) = [48, 32, 48, 32, 48, 32, 48, 32, 48, 32, 49] := by
    have e : (nums openC).map itoa = [itoa 0, itoa 0, itoa 0, itoa 0, itoa 0, itoa 1] := rfl
    unfold rowB
    rw [e, itoa0, itoa1]
    rfl
  unfold lineB
  rw [h1, h2, h3]
  rfl
theorem w3 {call : CallE} (h4 : ∀ h (c : CallT), TabH h → 0 < h.next → CallR c → ∃ v h', call 4 [.agg (callC c)] h = some (v, h') ∧ PostLn c h v h') (h5 : ∀ h (c : CallT), CallR c → ∃ v h', call 5 [.agg (callC c)] h = some (v, h') ∧ PostLn c h v h')
    {h : H} {c : CallT} (hT : TabH h) (hp : 0 < h.next) (hc : CallR c) : WF Tryd.prog call c3 [.agg (callC c)] h fun v h' => v = .bool true := by
  have st0 := StepN.new h (.row (putList 0 (callC c) T.e) 18 29)
  simp only [go_sem, ↓reduceIte, ↓reduceDIte, zA, zM, zL, zE, zD, yA, yE, yL, yQ, yT, reduceCtorEq, c3]
  refine opt_by (h4 _ c (st0.tab hT hp) (Nat.succ_pos _) hc) fun v1 h1 p1 => ?_
  have le1 : h.next + 1 ≤ h1.next := p1.st.next
  have g1 := p1.st.old h.next (Nat.lt_succ_self _)
  have st01 := st0.trans p1.st
  simp only [go_sem, ↓reduceIte, ↓reduceDIte, zA, zM, zL, zE, zD, yA, yE, yL, yQ, yT, reduceCtorEq] at g1
  have fin : ∀ (s : ByteArray) (e : Int), v1 = .tup [.str s, .int .i64 e] → (∀ h' v', PostLn c h1 v' h' → v' = .tup [.str s, .int .i64 e]) → True := fun _ _ _ _ => trivial
  obtain ⟨s, e, rfl, hs⟩ : ∃ (s : ByteArray) (e : Int), v1 = .tup [.str s, .int .i64 e] ∧ ∀ ha hb v', PostLn c ha v' hb → v' = .tup [.str s, .int .i64 e] := by
    by_cases hg : goodC c
    · exact ⟨_, _, p1.good hg, fun _ _ _ p => p.good hg⟩
    · exact ⟨_, _, p1.bad hg, fun _ _ _ p => p.bad hg⟩
  simp only [go_sem, ↓reduceIte, ↓reduceDIte, zA, zM, zL, zE, zD, yA, yE, yL, yQ, yT, reduceCtorEq, g1]
  refine opt_by (h5 h1 c hc) fun v2 h2 p2 => ?_
  obtain rfl := hs _ _ _ p2
  have st02 := st01.trans p2.st
  simp only [go_sem, ↓reduceIte, ↓reduceDIte, zA, zM, zL, zE, zD, yA, yE, yL, yQ, yT, reduceCtorEq]
  refine opt_by (h4 h2 openC (st02.tab hT hp) (by have := p2.st.next; omega) openC_R) fun v3 h3 p3 => ?_
  obtain rfl := p3.good openC_good
  rw [openC_line]
  simp only [go_sem, ↓reduceIte, ↓reduceDIte, zA, zM, zL, zE, zD, yA, yE, yL, yQ, yT, reduceCtorEq]
end
end Go.Proofs.YtiokmoepojdfmaaDoor
