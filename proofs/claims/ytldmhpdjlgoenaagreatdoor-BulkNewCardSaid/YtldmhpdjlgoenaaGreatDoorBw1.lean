/-
  What is asked of the program: its pointer types.
  The memory of words.
  The words of a memory; the places of a layout.
  Checks of a configuration.
-/
import Derived.Test.YtldmhpdjlgoenaaGreatDoorEoOi
set_option linter.unusedVariables false
set_option linter.unusedSimpArgs false
namespace Go.Proofs.YtldmhpdjlgoenaaGreatDoor.BN
open Go.Proofs.YtldmhpdjlgoenaaGreatDoor.Eo
open Nat renaming reduceAdd → zA, reduceMul → zM, reduceLT → zL, reduceEqDiff → zE, reduceLeDiff → zD
open Int renaming reduceAdd → yA, reduceLE → yE, reduceLT → yL, reduceEq → yQ, reduceToNat → yT
noncomputable section
def ptrL : List TypeId := [36, 39, 43, 50, 53, 56, 59, 64, 67, 68, 69, 70, 91, 97, 98, 99, 100, 111, 146, 199, 206, 213, 228, 229, 230, 246]
def isPtr (P : Program) (t : TypeId) : Bool := match P.underlying t with
  | some (.pointer _) => true
  | _ => false
/-- what is asked of the program -/
class PT (P : Program) : Prop where
  ptr : ptrL.all (isPtr P) = true
  agg3 : aggOf P 3 = some none
  sl22 : ∃ e, P.underlying 22 = some (.slice e)
  opA : ∀ (g : Nat → Option AO) (G : Nat), methA P g 8 205 (.agg [.ifc 199 (.ptr G 0)]) "Open" = some (406, .ptr G 0)
  opB : ∀ (g : Nat → Option AO) (G : Nat), methA P g 8 212 (.agg [.ifc 206 (.ptr G 0)]) "Open" = some (422, .ptr G 0)
  opC : ∀ (g : Nat → Option AO) (G : Nat), methA P g 8 219 (.agg [.ifc 213 (.ptr G 0)]) "Open" = some (433, .ptr G 0)
  runM : ∀ (g : Nat → Option AO) (L : Nat), methA P g 8 252 (.agg [.ifc 246 (.ptr L 0)]) "leapfrog/bulk.run" = some (463, .agg [.ifc 246 (.ptr L 0)])
  nextM : ∀ (g : Nat → Option AO) (L : Nat), methA P g 8 246 (.ptr L 0) "Next" = some (462, .ptr L 0)
class PtrTy (P : Program) (t : TypeId) : Prop where
  ex : ∃ e, P.underlying t = some (.pointer e)
theorem PT.ty {P : Program} (p : PT P) {t : TypeId} (h : ptrL.elem t = true) : PtrTy P t := ⟨by
  have := List.all_eq_true.1 p.ptr t (List.elem_iff.1 h)
  unfold isPtr at this
  split at this
  · rename_i e he; exact ⟨e, he⟩
  · cases this⟩
@[go_sem] theorem nilQ (P : Program) (t : TypeId) [p : PtrTy P t] (a o : Nat) : evBin P .eql t false true (.ptr a o) .nilp = some (.bool false) := by
  obtain ⟨e, h⟩ := p.ex
  unfold evBin
  simp only []
  unfold evBin.nilEq
  simp only [h]
@[go_sem] theorem nilQ0 (P : Program) (t : TypeId) [p : PtrTy P t] : evBin P .eql t false true .nilp .nilp = some (.bool true) := by
  obtain ⟨e, h⟩ := p.ex
  unfold evBin
  simp only []
  unfold evBin.nilEq
  simp only [h]
@[go_sem] theorem nilR (P : Program) (t : TypeId) [p : PtrTy P t] (a o : Nat) : evBin P .neq t false true (.ptr a o) .nilp = some (.bool true) := by
  obtain ⟨e, h⟩ := p.ex
  unfold evBin
  simp only []
  unfold evBin.nilEq
  simp only [h]
  rfl
@[go_sem] theorem nilR0 (P : Program) (t : TypeId) [p : PtrTy P t] : evBin P .neq t false true .nilp .nilp = some (.bool false) := by
  obtain ⟨e, h⟩ := p.ex
  unfold evBin
  simp only []
  unfold evBin.nilEq
  simp only [h]
  rfl
theorem snil (P : Program) [p : PT P] (a o l es : Nat) (c : Option Nat) : evBin P .eql 22 false true (.sl a o l es c) .nils = some (.bool false) := by
  obtain ⟨e, h⟩ := p.sl22
  unfold evBin
  simp only []
  unfold evBin.nilEq
  simp only [h]
theorem snil0 (P : Program) [p : PT P] : evBin P .eql 22 false true .nils .nils = some (.bool true) := by
  obtain ⟨e, h⟩ := p.sl22
  unfold evBin
  simp only []
  unfold evBin.nilEq
  simp only [h]
instance p36 (P : Program) [p : PT P] : PtrTy P 36 := p.ty (by decide)
instance p39 (P : Program) [p : PT P] : PtrTy P 39 := p.ty (by decide)
instance p43 (P : Program) [p : PT P] : PtrTy P 43 := p.ty (by decide)
instance p50 (P : Program) [p : PT P] : PtrTy P 50 := p.ty (by decide)
instance p53 (P : Program) [p : PT P] : PtrTy P 53 := p.ty (by decide)
instance p56 (P : Program) [p : PT P] : PtrTy P 56 := p.ty (by decide)
instance p59 (P : Program) [p : PT P] : PtrTy P 59 := p.ty (by decide)
instance p64 (P : Program) [p : PT P] : PtrTy P 64 := p.ty (by decide)
instance p67 (P : Program) [p : PT P] : PtrTy P 67 := p.ty (by decide)
instance p68 (P : Program) [p : PT P] : PtrTy P 68 := p.ty (by decide)
instance p69 (P : Program) [p : PT P] : PtrTy P 69 := p.ty (by decide)
instance p70 (P : Program) [p : PT P] : PtrTy P 70 := p.ty (by decide)
instance p91 (P : Program) [p : PT P] : PtrTy P 91 := p.ty (by decide)
instance p97 (P : Program) [p : PT P] : PtrTy P 97 := p.ty (by decide)
instance p98 (P : Program) [p : PT P] : PtrTy P 98 := p.ty (by decide)
instance p99 (P : Program) [p : PT P] : PtrTy P 99 := p.ty (by decide)
instance p100 (P : Program) [p : PT P] : PtrTy P 100 := p.ty (by decide)
instance p111 (P : Program) [p : PT P] : PtrTy P 111 := p.ty (by decide)
instance p146 (P : Program) [p : PT P] : PtrTy P 146 := p.ty (by decide)
instance p199 (P : Program) [p : PT P] : PtrTy P 199 := p.ty (by decide)
instance p206 (P : Program) [p : PT P] : PtrTy P 206 := p.ty (by decide)
instance p213 (P : Program) [p : PT P] : PtrTy P 213 := p.ty (by decide)
instance p228 (P : Program) [p : PT P] : PtrTy P 228 := p.ty (by decide)
instance p229 (P : Program) [p : PT P] : PtrTy P 229 := p.ty (by decide)
instance p230 (P : Program) [p : PT P] : PtrTy P 230 := p.ty (by decide)
instance p246 (P : Program) [p : PT P] : PtrTy P 246 := p.ty (by decide)
end
end Go.Proofs.YtldmhpdjlgoenaaGreatDoor.BN

namespace Go.Proofs.YtldmhpdjlgoenaaGreatDoor.BN
open Go.Proofs.YtldmhpdjlgoenaaGreatDoor.Eo
open Nat renaming reduceAdd → zA, reduceMul → zM, reduceLT → zL, reduceEqDiff → zE, reduceLeDiff → zD
open Int renaming reduceAdd → yA, reduceLE → yE, reduceLT → yL, reduceEq → yQ, reduceToNat → yT
noncomputable section
/-! 63: leapfrog/words.size -/
@[go_sem] def c63_s0 : List SQ := [⟨some 2, none, .p (.mv (.c (.int .i64 0)))⟩]
@[go_sem] def c63_s1 : List SQ := [⟨some 4, none, .p (.mv (.t 0))⟩, ⟨some 5, none, .p (.bin .eql 3 false true (.t 4) (.c (.int .i64 0)))⟩, ⟨some 3, none, .p (.mv (.t 5))⟩]
@[go_sem] def c63_s2 : List SQ := [⟨some 2, none, .p (.mv (.c (.int .i64 2)))⟩]
@[go_sem] def c63_s3 : List SQ := [⟨some 7, none, .p (.mv (.t 0))⟩, ⟨some 8, none, .p (.bin .gtr 3 false true (.t 7) (.c (.int .i64 65536)))⟩, ⟨some 6, none, .p (.mv (.t 8))⟩]
@[go_sem] def c63_s4 : List SQ := [⟨some 2, none, .p (.mv (.c (.int .i64 5)))⟩]
@[go_sem] def c63_s5 : List SQ := [⟨some 2, none, .p (.mv (.c (.int .i64 0)))⟩]
@[go_sem] def c63 : CF := ⟨1, (.seq (.ops c63_s0) (.seq (.block 0 (.seq (.ops c63_s1) (.cond (.t 3) (.seq (.ops c63_s2) .ret) (.seq (.ops c63_s3) (.cond (.t 6) (.seq (.ops c63_s4) .ret) .skip))))) (.seq (.ops c63_s5) .ret))), [.tmp 2]⟩
/-! 64: (*sync/atomic.Uint64).Store -/
@[go_sem] def c64_s0 : List SQ := [⟨some 4, none, .p (.mv (.t 0))⟩, ⟨some 5, none, .p (.nilck (.t 4))⟩, ⟨some 6, none, .p (.fadr 0 (.t 5))⟩, ⟨some 7, none, .p (.mv (.t 1))⟩, ⟨some 8, none, .cv (.c (.fn (.func 101) [] [])) [(.t 6), (.t 7)]⟩]
@[go_sem] def c64 : CF := ⟨2, (.ops c64_s0), []⟩
/-! 102: (*leapfrog/words.Mem).check -/
@[go_sem] def c102_s0 : List SQ := [⟨some 6, none, .p (.mv (.c (.int .i64 0)))⟩]
@[go_sem] def c102_s1 : List SQ := [⟨some 8, none, .p (.mv (.t 0))⟩, ⟨some 9, none, .p (.bin .eql 67 false true (.t 8) (.c .nilp))⟩, ⟨some 7, none, .p (.mv (.t 9))⟩]
@[go_sem] def c102_s2 : List SQ := [⟨some 6, none, .p (.mv (.c (.int .i64 1)))⟩]
@[go_sem] def c102_s3 : List SQ := [⟨some 11, none, .p (.mv (.t 1))⟩, ⟨some 12, none, .p (.bin .lss 3 false true (.t 11) (.c (.int .i64 0)))⟩, ⟨some 13, none, .p (.mv (.t 12))⟩, ⟨some 14, some (13, false), .p (.mv (.t 1))⟩, ⟨some 15, some (13, false), .p (.bin .geq 3 false true (.t 14) (.c (.int .i64 64)))⟩, ⟨some 16, none, .p (.pick (.t 13) (.c (.bool true)) (.t 15))⟩, ⟨some 10, none, .p (.mv (.t 16))⟩]
@[go_sem] def c102_s4 : List SQ := [⟨some 6, none, .p (.mv (.c (.int .i64 2)))⟩]
@[go_sem] def c102_s5 : List SQ := [⟨some 18, none, .p (.mv (.t 2))⟩, ⟨some 19, none, .p (.bin .lss 3 false true (.t 18) (.c (.int .i64 0)))⟩, ⟨some 20, none, .p (.mv (.t 19))⟩, ⟨some 21, some (20, false), .p (.mv (.t 2))⟩, ⟨some 22, some (20, false), .p (.mv (.t 0))⟩, ⟨some 23, some (20, false), .p (.nilck (.t 22))⟩, ⟨some 24, some (20, false), .p (.fadr 0 (.t 23))⟩, ⟨some 25, some (20, false), .r (.ld none (.t 24))⟩, ⟨some 26, some (20, false), .p (.lenv (.t 25))⟩, ⟨some 27, some (20, false), .p (.bin .geq 3 false false (.t 21) (.t 26))⟩, ⟨some 28, none, .p (.pick (.t 20) (.c (.bool true)) (.t 27))⟩, ⟨some 17, none, .p (.mv (.t 28))⟩]
@[go_sem] def c102_s6 : List SQ := [⟨some 6, none, .p (.mv (.c (.int .i64 3)))⟩]
@[go_sem] def c102_s7 : List SQ := [⟨some 6, none, .p (.mv (.c (.int .i64 0)))⟩]
@[go_sem] def c102 : CF := ⟨3, (.seq (.ops c102_s0) (.seq (.block 0 (.seq (.ops c102_s1) (.cond (.t 7) (.seq (.ops c102_s2) .ret) (.seq (.ops c102_s3) (.cond (.t 10) (.seq (.ops c102_s4) .ret) (.seq (.ops c102_s5) (.cond (.t 17) (.seq (.ops c102_s6) .ret) .skip))))))) (.seq (.ops c102_s7) .ret))), [.tmp 6]⟩
/-! 103: (*sync/atomic.Uint64).Load -/
@[go_sem] def c103_s0 : List SQ := [⟨some 2, none, .p (.mv (.c (.int .u64 0)))⟩]
@[go_sem] def c103_s1 : List SQ := [⟨some 3, none, .p (.mv (.t 0))⟩, ⟨some 4, none, .p (.nilck (.t 3))⟩, ⟨some 5, none, .p (.fadr 0 (.t 4))⟩, ⟨some 6, none, .cv (.c (.fn (.func 156) [] [])) [(.t 5)]⟩, ⟨some 2, none, .p (.mv (.t 6))⟩]
@[go_sem] def c103 : CF := ⟨1, (.seq (.ops c103_s0) (.seq (.ops c103_s1) .ret)), [.tmp 2]⟩
/-! 66: (*leapfrog/words.Mem).Peek -/
@[go_sem] def c66_s0 : List SQ := [⟨some 4, none, .p (.mv (.c (.int .u64 0)))⟩, ⟨some 5, none, .p (.mv (.c (.bool false)))⟩]
@[go_sem] def c66_s1 : List SQ := [⟨some 6, none, .p (.mv (.t 0))⟩, ⟨some 7, none, .p (.mv (.t 1))⟩, ⟨some 8, none, .cv (.c (.fn (.func 102) [] [])) [(.t 6), (.c (.int .i64 0)), (.t 7)]⟩, ⟨some 9, none, .p (.bin .neq 34 false true (.t 8) (.c (.int .i64 0)))⟩]
@[go_sem] def c66_s2 : List SQ := [⟨some 4, none, .p (.mv (.c (.int .u64 0)))⟩, ⟨some 5, none, .p (.mv (.c (.bool false)))⟩]
@[go_sem] def c66_s3 : List SQ := [⟨some 10, none, .p (.mv (.t 0))⟩, ⟨some 11, none, .p (.nilck (.t 10))⟩, ⟨some 12, none, .p (.fadr 0 (.t 11))⟩, ⟨some 13, none, .r (.ld none (.t 12))⟩, ⟨some 14, none, .p (.mv (.t 1))⟩, ⟨some 15, none, .p (.iadrS 1 (.t 13) (.t 14))⟩, ⟨some 16, none, .cv (.c (.fn (.func 103) [] [])) [(.t 15)]⟩, ⟨some 4, none, .p (.mv (.t 16))⟩, ⟨some 5, none, .p (.mv (.c (.bool true)))⟩]
@[go_sem] def c66 : CF := ⟨2, (.seq (.ops c66_s0) (.seq (.seq (.ops c66_s1) (.cond (.t 9) (.seq (.ops c66_s2) .ret) .skip)) (.seq (.ops c66_s3) .ret))), [.tmp 4, .tmp 5]⟩
/-! 21: leapfrog/words.New -/
@[go_sem] def c21_s0 : List SQ := [⟨some 2, none, .p (.mv (.c .nilp))⟩, ⟨some 3, none, .p (.mv (.c (.int .i64 0)))⟩]
@[go_sem] def c21_s1 : List SQ := [⟨some 8, none, .p (.mv (.t 0))⟩, ⟨some 9, none, .p (.lenv (.t 8))⟩, ⟨some 10, none, .cv (.c (.fn (.func 63) [] [])) [(.t 9)]⟩, ⟨some 4, none, .p (.mv (.t 10))⟩]
@[go_sem] def c21_s2 : List SQ := [⟨some 11, none, .p (.mv (.t 4))⟩, ⟨some 12, none, .p (.bin .neq 34 false true (.t 11) (.c (.int .i64 0)))⟩]
@[go_sem] def c21_s3 : List SQ := [⟨some 13, none, .p (.mv (.t 4))⟩, ⟨some 2, none, .p (.mv (.c .nilp))⟩, ⟨some 3, none, .p (.mv (.t 13))⟩]
@[go_sem] def c21_s4 : List SQ := [⟨some 14, none, .p (.mv (.t 0))⟩, ⟨some 15, none, .p (.lenv (.t 14))⟩, ⟨some 16, none, .n (.mksl 182 1 8 [.int .u64 0] (.t 15) (.t 15))⟩, ⟨some 17, none, .p (.build [.nils, .nils] [(0, 1, (.t 16))])⟩, ⟨some 18, none, .n (.box 177 (.t 17))⟩, ⟨some 5, none, .p (.mv (.t 18))⟩]
@[go_sem] def c21_s5 : List SQ := [⟨some 19, none, .p (.mv (.t 0))⟩, ⟨some 20, none, .p (.lenv (.t 19))⟩, ⟨some 21, none, .p (.mv (.c (.int .i64 0)))⟩]
@[go_sem] def c21_s6 : List SQ := [⟨some 22, none, .p (.bin .lss 3 false false (.t 21) (.t 20))⟩]
@[go_sem] def c21_s7 : List SQ := [⟨some 23, none, .p (.mv (.t 21))⟩, ⟨some 24, none, .p (.iadrS 1 (.t 19) (.t 21))⟩, ⟨some 25, none, .r (.ld none (.t 24))⟩, ⟨some 6, none, .p (.mv (.t 23))⟩, ⟨some 7, none, .p (.mv (.t 25))⟩]
@[go_sem] def c21_s8 : List SQ := [⟨some 26, none, .p (.mv (.t 5))⟩, ⟨some 27, none, .p (.nilck (.t 26))⟩, ⟨some 28, none, .p (.fadr 0 (.t 27))⟩, ⟨some 29, none, .r (.ld none (.t 28))⟩, ⟨some 30, none, .p (.mv (.t 6))⟩, ⟨some 31, none, .p (.iadrS 1 (.t 29) (.t 30))⟩, ⟨some 32, none, .p (.mv (.t 7))⟩, ⟨some 33, none, .cv (.c (.fn (.func 64) [] [])) [(.t 31), (.t 32)]⟩]
@[go_sem] def c21_s9 : List SQ := [⟨some 34, none, .p (.bin .add 3 false true (.t 21) (.c (.int .i64 1)))⟩, ⟨some 21, none, .p (.mv (.t 34))⟩]
def c21_l10 : CC := (.seq (.ops c21_s6) (.seq (.cond (.t 22) .skip (.exit 0)) (.seq (.block 1 (.seq (.ops c21_s7) (.ops c21_s8))) (.ops c21_s9))))
@[go_sem] def c21_s11 : List SQ := [⟨some 35, none, .p (.mv (.t 5))⟩, ⟨some 2, none, .p (.mv (.t 35))⟩, ⟨some 3, none, .p (.mv (.c (.int .i64 0)))⟩]
@[go_sem] def c21 : CF := ⟨1, (.seq (.ops c21_s0) (.seq (.seq (.ops c21_s1) (.seq (.ops c21_s2) (.cond (.t 12) (.seq (.ops c21_s3) .ret) .skip))) (.seq (.ops c21_s4) (.seq (.seq (.ops c21_s5) (.block 0 (.loop c21_l10))) (.seq (.ops c21_s11) .ret))))), [.tmp 2, .tmp 3]⟩

theorem w63 (P : Program) {call : CallE} {h : H} {n : Int} : WF P call c63 [.int .i64 n] h fun v h' => v = .int .i64 (if n = 0 then 2 else if 65536 < n then 5 else 0) ∧ h' = h := by
  by_cases h0 : n = 0
  · simp only [go_sem, ↓reduceIte, ↓reduceDIte, zA, zM, zL, zE, zD, yA, yE, yL, yQ, yT, reduceCtorEq, c63, h0]
  by_cases h1 : 65536 < n
  · simp only [go_sem, ↓reduceIte, ↓reduceDIte, zA, zM, zL, zE, zD, yA, yE, yL, yQ, yT, reduceCtorEq, c63, h0, h1]
  simp only [go_sem, ↓reduceIte, ↓reduceDIte, zA, zM, zL, zE, zD, yA, yE, yL, yQ, yT, reduceCtorEq, c63, h0, h1]
/-- a memory of words lies there, with its log -/
structure MemG (h : H) (M W : Nat) (ws : List Int) (lg : AV) : Prop where
  g : h.t.get M = some (.row (putList 0 [.sl W 0 ws.length 1 (some ws.length), lg] T.e) 2 177)
  o : oneA lg = true
  w : h.t.get W = some (rowL (ws.map (AV.int .u64)) 182)
  ne : M ≠ W
/-- a memory of words lies there -/
structure MemH (h : H) (M W : Nat) (ws : List Int) : Prop where
  mk ::
  ex : ∃ lg, h.t.get M = some (.row (putList 0 [.sl W 0 ws.length 1 (some ws.length), lg] T.e) 2 177) ∧ oneA lg = true
  w : h.t.get W = some (rowL (ws.map (AV.int .u64)) 182)
  ne : M ≠ W
theorem MemG.mem {h : H} {M W : Nat} {ws : List Int} {lg : AV} (m : MemG h M W ws lg) : MemH h M W ws := ⟨⟨lg, m.g, m.o⟩, m.w, m.ne⟩
theorem w102 (P : Program) [PT P] {call : CallE} {h : H} {M W : Nat} {ws : List Int} (hm : MemH h M W ws) {t a : Int} : WF P call c102 [.ptr M 0, .int .i64 t, .int .i64 a] h fun v h' => v = .int .i64 (if t < 0 ∨ 64 ≤ t then 2 else if a < 0 ∨ (ws.length : Int) ≤ a then 3 else 0) ∧ h' = h := by
  obtain ⟨lg, g1, _⟩ := hm.ex
  by_cases h0 : t < 0
  · simp only [go_sem, ↓reduceIte, ↓reduceDIte, zA, zM, zL, zE, zD, yA, yE, yL, yQ, yT, reduceCtorEq, c102, h0, g1, true_or]
  by_cases h1 : t < 64
  case neg =>
    have e1 : (64 : Int) ≤ t := by omega
    simp only [go_sem, ↓reduceIte, ↓reduceDIte, zA, zM, zL, zE, zD, yA, yE, yL, yQ, yT, reduceCtorEq, c102, h0, h1, e1, g1, or_true]
  have e1 : ¬ (64 : Int) ≤ t := by omega
  by_cases h2 : a < 0
  · simp only [go_sem, ↓reduceIte, ↓reduceDIte, zA, zM, zL, zE, zD, yA, yE, yL, yQ, yT, reduceCtorEq, c102, h0, h1, e1, h2, g1, true_or, or_self]
  by_cases h3 : a < (ws.length : Int)
  · have e3 : ¬ (ws.length : Int) ≤ a := by omega
    simp only [go_sem, ↓reduceIte, ↓reduceDIte, zA, zM, zL, zE, zD, yA, yE, yL, yQ, yT, reduceCtorEq, c102, h0, h1, e1, h2, h3, e3, g1, or_self]
  · have e3 : (ws.length : Int) ≤ a := by omega
    simp only [go_sem, ↓reduceIte, ↓reduceDIte, zA, zM, zL, zE, zD, yA, yE, yL, yQ, yT, reduceCtorEq, c102, h0, h1, e1, h2, h3, e3, g1, or_true, or_self]
/-- a word is read -/
def F156 (call : CallE) : Prop := ∀ h W i (x : Int), (∃ cs n e, h.t.get W = some (.row (putList 0 cs T.e) n e) ∧ cs[i]? = some (.int .u64 x)) → call 156 [.ptr W i] h = some (.int .u64 x, h)
theorem w103 (P : Program) {call : CallE} (h156 : F156 call) {h : H} {W i : Nat} {x : Int} (hx : ∃ cs n e, h.t.get W = some (.row (putList 0 cs T.e) n e) ∧ cs[i]? = some (.int .u64 x)) : WF P call c103 [.ptr W i] h fun v h' => v = .int .u64 x ∧ h' = h := by
  have hc := h156 h W i x hx
  simp only [go_sem, ↓reduceIte, ↓reduceDIte, zA, zM, zL, zE, zD, yA, yE, yL, yQ, yT, reduceCtorEq, c103, hc]
theorem w66 (P : Program) {call : CallE} (h102 : ∀ h M W ws (t a : Int), MemH h M W ws → call 102 [.ptr M 0, .int .i64 t, .int .i64 a] h = some (.int .i64 (if t < 0 ∨ 64 ≤ t then 2 else if a < 0 ∨ (ws.length : Int) ≤ a then 3 else 0), h))
    (h103 : ∀ h W i (x : Int), (∃ cs n e, h.t.get W = some (.row (putList 0 cs T.e) n e) ∧ cs[i]? = some (.int .u64 x)) → call 103 [.ptr W i] h = some (.int .u64 x, h))
    {h : H} {M W : Nat} {ws : List Int} (hm : MemH h M W ws) {a : Int} : WF P call c66 [.ptr M 0, .int .i64 a] h fun v h' => v = (if h : 0 ≤ a ∧ a.toNat < ws.length then .tup [.int .u64 (ws[a.toNat]'h.2), .bool true] else .tup [.int .u64 0, .bool false]) ∧ h' = h := by
  obtain ⟨lg, g1, _⟩ := hm.ex
  have hc := h102 h M W ws 0 a hm
  by_cases h0 : 0 ≤ a ∧ a.toNat < ws.length
  · rw [dif_pos h0]
    obtain ⟨n, rfl⟩ : ∃ n : Nat, a = n := ⟨a.toNat, by omega⟩
    have hn : n < ws.length := by have := h0.2; omega
    have e0 : ¬ ((n : Int) < 0 ∨ (ws.length : Int) ≤ (n : Int)) := by omega
    rw [if_neg (by decide), if_neg e0] at hc
    have hr := h103 h W n ws[n] ⟨_, _, _, hm.w, by rw [List.getElem?_map, List.getElem?_eq_getElem hn]; rfl⟩
    have e1 : (n : Int) < (ws.length : Int) := by omega
    simp only [go_sem, ↓reduceIte, ↓reduceDIte, zA, zM, zL, zE, zD, yA, yE, yL, yQ, yT, reduceCtorEq, c66, hc, g1, e1, Nat.mul_one, hr]
  · rw [dif_neg h0]
    have e0 : a < 0 ∨ (ws.length : Int) ≤ a := by omega
    rw [if_neg (by decide), if_pos e0] at hc
    simp only [go_sem, ↓reduceIte, ↓reduceDIte, zA, zM, zL, zE, zD, yA, yE, yL, yQ, yT, reduceCtorEq, c66, hc]
/-- a word is written -/
def F101 (call : CallE) : Prop := ∀ h W i (x : Int) cs n e, h.t.get W = some (.row (putList 0 cs T.e) n e) → i < cs.length → i < n → call 101 [.ptr W i, .int .u64 x] h = some (.tup [], ⟨h.next, h.t.set W (.row (putList 0 (cs.set i (.int .u64 x)) T.e) n e)⟩)
theorem w64 (P : Program) {call : CallE} (h101 : F101 call) {h : H} {W i : Nat} {x : Int} {cs : List AV} {n : Nat} {e : TypeId} (hg : h.t.get W = some (.row (putList 0 cs T.e) n e)) (hi : i < cs.length) (hn : i < n) : WF P call c64 [.ptr W i, .int .u64 x] h fun v h' => v = .tup [] ∧ h' = ⟨h.next, h.t.set W (.row (putList 0 (cs.set i (.int .u64 x)) T.e) n e)⟩ := by
  have hc := h101 h W i x cs n e hg hi hn
  simp only [go_sem, ↓reduceIte, ↓reduceDIte, zA, zM, zL, zE, zD, yA, yE, yL, yQ, yT, reduceCtorEq, c64, hc]
theorem evLenN (k : IntKind) (n : Nat) : evLen (.int k (n : Int)) = some n := rfl
theorem rep_one (x : AV) (n : Nat) : rep [x] n = List.replicate n x := by
  rw [List.eq_replicate_iff]
  refine ⟨by simp [rep], fun b hb => ?_⟩
  unfold rep at hb
  obtain ⟨i, _, rfl⟩ := List.mem_map.1 hb
  simp [Nat.mod_one]
/-- the words so far -/
def mixW (ws : List Int) (i : Nat) : List AV := (ws.take i).map (AV.int .u64) ++ List.replicate (ws.length - i) (.int .u64 0)
theorem mixW_len (ws : List Int) {i : Nat} (h : i ≤ ws.length) : (mixW ws i).length = ws.length := by
  unfold mixW
  rw [List.length_append, List.length_map, List.length_take, List.length_replicate]
  omega
theorem mixW_set (ws : List Int) {i : Nat} (h : i < ws.length) : (mixW ws i).set i (.int .u64 ws[i]) = mixW ws (i + 1) := by
  unfold mixW
  have e : ws.length - i = (ws.length - (i + 1)) + 1 := by omega
  have el : ((ws.take i).map (AV.int .u64)).length = i := by rw [List.length_map, List.length_take]; omega
  rw [e, List.replicate_succ, List.set_append_right _ _ (by omega), el, Nat.sub_self, List.set_cons_zero, List.take_add_one, List.getElem?_eq_getElem h, List.map_append, List.append_assoc]
  rfl
def I21 (h0 : H) (v : AV) (ws : List Int) (k : Nat) (tm : T AV) (h : H) : Prop :=
  tm.get 19 = some v ∧ tm.get 20 = some (.int .i64 (ws.length : Int)) ∧ tm.get 5 = some (.ptr (h0.next + 1) 0) ∧ h.next = h0.next + 2 ∧ (∀ b, b < h0.next → h.t.get b = h0.t.get b) ∧ h.t.get (h0.next + 1) = some (.row (putList 0 [.sl h0.next 0 ws.length 1 (some ws.length), .nils] T.e) 2 177) ∧
    ∃ i : Nat, i + k = ws.length ∧ tm.get 21 = some (.int .i64 (i : Int)) ∧ h.t.get h0.next = some (.row (putList 0 (mixW ws i) T.e) ws.length 182)
theorem step21 (P : Program) {call : CallE} (h64 : ∀ h W i (x : Int) cs n e, h.t.get W = some (.row (putList 0 cs T.e) n e) → i < cs.length → i < n → call 64 [.ptr W i, .int .u64 x] h = some (.tup [], ⟨h.next, h.t.set W (.row (putList 0 (cs.set i (.int .u64 x)) T.e) n e)⟩))
    {h0 : H} {v : AV} {ws : List Int} {e : TypeId} (hv0 : Own 1 e h0 v ws.length (ws.map (AV.int .u64))) (hl2 : ws.length ≤ 65536) (k : Nat) (tm : T AV) (h : H) (hI : I21 h0 v ws k tm h) :
    WC P call c21_l10 (loopQ 0 (fun tm h => ∃ j, j < k ∧ I21 h0 v ws j tm h) (fun tm h => tm.get 5 = some (.ptr (h0.next + 1) 0) ∧ h.next = h0.next + 2 ∧ (∀ b, b < h0.next → h.t.get b = h0.t.get b) ∧ MemG h (h0.next + 1) h0.next ws .nils) (fun _ _ => False)) tm h := by
  obtain ⟨t19, t20, t5, nx, old, gM, i, hik, t21, gW⟩ := hI
  have hv : Own 1 e h v ws.length (ws.map (AV.int .u64)) := hv0.keep (by omega) fun b hb => old b (hv0.lt hb)
  cases k with
  | zero =>
    have e1 : ¬ (i : Int) < (ws.length : Int) := by omega
    simp only [go_sem, ↓reduceIte, ↓reduceDIte, zA, zM, zL, zE, zD, yA, yE, yL, yQ, yT, reduceCtorEq, c21_l10, t20, t21, e1]
    have hi : i = ws.length := by omega
    refine ⟨t5, nx, old, ⟨gM, rfl, ?_, by omega⟩⟩
    rw [gW, hi]
    unfold mixW rowL
    rw [List.take_length, Nat.sub_self, List.replicate_zero, List.append_nil, List.length_map]
  | succ k =>
    have e1 : (i : Int) < (ws.length : Int) := by omega
    have hi : i < ws.length := by omega
    have hc := h64 h h0.next i ws[i] _ _ _ gW (by rw [mixW_len ws (by omega)]; exact hi) hi
    rw [mixW_set ws hi] at hc
    generalize hcs : ws.map (AV.int .u64) = cs at hv hv0
    generalize hln : ws.length = n at hv hv0
    have hget : cs[i]? = some (.int .u64 ws[i]) := by rw [← hcs, List.getElem?_map, List.getElem?_eq_getElem hi]; rfl
    cases hv with
    | nil => omega
    | sl a len cs cap hc0 hp hcl ha hg =>
      rw [hln] at e1 t20 gM gW hc hi hik
      have f1 : fw .i64 ((i : Int) + 1) = (i : Int) + 1 := fwI (by omega) (by omega)
      have e3 : ((i + 1 : Nat) : Int) = (i : Int) + 1 := rfl
      have x1 : ¬ h0.next + 1 = h0.next := by omega
      simp only [go_sem, ↓reduceIte, ↓reduceDIte, zA, zM, zL, zE, zD, yA, yE, yL, yQ, yT, reduceCtorEq, c21_l10, t19, t20, t21, t5, e1, Nat.mul_one, hg, hget, gM, hc, f1]
      refine ⟨k, Nat.lt_succ_self k, by simp [go_sem, t19], by simp [go_sem, t20, hln], by simp [go_sem, t5], nx, fun b hb => ?_, by simp [go_sem, x1, gM, hln], i + 1, by omega, by simp [go_sem, e3], by simp [go_sem, hln]⟩
      have e0 : ¬ b = h0.next := by omega
      simp only [go_sem, ↓reduceIte, ↓reduceDIte, zA, zM, zL, zE, zD, yA, yE, yL, yQ, yT, reduceCtorEq, e0]
      exact old b hb
structure PostM (ws : List Int) (h : H) (v : AV) (h' : H) : Prop where
  v : v = .tup [.ptr (h.next + 1) 0, .int .i64 0]
  next : h'.next = h.next + 2
  old : ∀ b, b < h.next → h'.t.get b = h.t.get b
  m : MemG h' (h.next + 1) h.next ws .nils
theorem w21 (P : Program) {call : CallE} (h64 : ∀ h W i (x : Int) cs n e, h.t.get W = some (.row (putList 0 cs T.e) n e) → i < cs.length → i < n → call 64 [.ptr W i, .int .u64 x] h = some (.tup [], ⟨h.next, h.t.set W (.row (putList 0 (cs.set i (.int .u64 x)) T.e) n e)⟩)) (h63 : ∀ h (n : Int), call 63 [.int .i64 n] h = some (.int .i64 (if n = 0 then 2 else if 65536 < n then 5 else 0), h)) {h : H} {v : AV} {ws : List Int} {e : TypeId} (hv : Own 1 e h v ws.length (ws.map (AV.int .u64))) (h0 : 0 < ws.length) (h1 : ws.length ≤ 65536) : WF P call c21 [v] h (PostM ws h) := by
  have hla := hv.lenA
  have hc := h63 h (ws.length : Int)
  rw [if_neg (by omega), if_neg (by omega)] at hc
  have e1 : 8 * ws.length ≤ 281474976710656 := by omega
  have e2 : ws.length ≤ 281474976710656 := by omega
  simp only [go_sem, ↓reduceIte, ↓reduceDIte, zA, zM, zL, zE, zD, yA, yE, yL, yQ, yT, reduceCtorEq, c21, hla, hc, evLenN, rep_one, Nat.mul_one, Nat.le_refl, e1, e2, decide_true, Bool.and_self, cond_true]
  have mz : mixW ws 0 = List.replicate ws.length (.int .u64 0) := rfl
  refine loop_in (I21 h v ws) _ _ (fun k tm h' hI => step21 P h64 hv h1 k tm h' hI) (fun tm2 h2 hR => ?_) (fun _ _ hh => hh.elim) ws.length _ _
    ⟨by simp [go_sem], by simp [go_sem], by simp [go_sem], rfl, fun b hb => ?_, by simp [go_sem], 0, by omega, by simp [go_sem], by simp [go_sem, mz]⟩
  · obtain ⟨t5, nx, old, hm⟩ := hR
    simp only [go_sem, ↓reduceIte, ↓reduceDIte, zA, zM, zL, zE, zD, yA, yE, yL, yQ, yT, reduceCtorEq, t5]
    exact ⟨rfl, nx, old, hm⟩
  · have x1 : ¬ b = h.next := by omega
    have x2 : ¬ b = h.next + 1 := by omega
    simp only [go_sem, ↓reduceIte, ↓reduceDIte, zA, zM, zL, zE, zD, yA, yE, yL, yQ, yT, reduceCtorEq, x1, x2]
end
end Go.Proofs.YtldmhpdjlgoenaaGreatDoor.BN

namespace Go.Proofs.YtldmhpdjlgoenaaGreatDoor.BN
open Go.Proofs.YtldmhpdjlgoenaaGreatDoor.Eo
open Nat renaming reduceAdd → zA, reduceMul → zM, reduceLT → zL, reduceEqDiff → zE, reduceLeDiff → zD
open Int renaming reduceAdd → yA, reduceLE → yE, reduceLT → yL, reduceEq → yQ, reduceToNat → yT
noncomputable section
/-! 26: (*leapfrog/layout.Layout).Places -/
@[go_sem] def c26_s0 : List SQ := [⟨some 2, none, .n (.new 89 [.int .i64 0, .int .i64 0, .int .i64 0, .int .i64 0, .int .i64 0, .int .i64 0, .int .i64 0, .int .i64 0, .int .i64 0, .int .i64 0])⟩]
@[go_sem] def c26_s1 : List SQ := [⟨some 3, none, .p (.mv (.t 0))⟩, ⟨some 4, none, .p (.bin .eql 64 false true (.t 3) (.c .nilp))⟩]
@[go_sem] def c26_s2 : List SQ := [⟨some 5, none, .p (.build [.int .i64 0, .int .i64 0, .int .i64 0, .int .i64 0, .int .i64 0, .int .i64 0, .int .i64 0, .int .i64 0, .int .i64 0, .int .i64 0] [])⟩, ⟨none, none, .e (.st 10 (.t 2) (.t 5))⟩]
@[go_sem] def c26_s3 : List SQ := [⟨some 6, none, .p (.mv (.t 0))⟩, ⟨some 7, none, .p (.nilck (.t 6))⟩, ⟨some 8, none, .p (.fadr 16 (.t 7))⟩, ⟨some 9, none, .r (.ld (some 10) (.t 8))⟩, ⟨none, none, .e (.st 10 (.t 2) (.t 9))⟩]
@[go_sem] def c26 : CF := ⟨1, (.seq (.ops c26_s0) (.seq (.seq (.ops c26_s1) (.cond (.t 4) (.seq (.ops c26_s2) .ret) .skip)) (.seq (.ops c26_s3) .ret))), [(.cell 2 (some 10))]⟩
/-! 68: (*leapfrog/words.Mem).Words -/
@[go_sem] def c68_s0 : List SQ := [⟨some 2, none, .p (.mv (.c .nils))⟩]
@[go_sem] def c68_s1 : List SQ := [⟨some 5, none, .p (.mv (.t 0))⟩, ⟨some 6, none, .p (.bin .eql 67 false true (.t 5) (.c .nilp))⟩]
@[go_sem] def c68_s2 : List SQ := [⟨some 2, none, .p (.mv (.c .nils))⟩]
@[go_sem] def c68_s3 : List SQ := [⟨some 7, none, .p (.mv (.t 0))⟩, ⟨some 8, none, .p (.nilck (.t 7))⟩, ⟨some 9, none, .p (.fadr 0 (.t 8))⟩, ⟨some 10, none, .r (.ld none (.t 9))⟩, ⟨some 11, none, .p (.lenv (.t 10))⟩, ⟨some 12, none, .n (.mksl 28 1 8 [.int .u64 0] (.t 11) (.t 11))⟩, ⟨some 3, none, .p (.mv (.t 12))⟩]
@[go_sem] def c68_s4 : List SQ := [⟨some 13, none, .p (.mv (.t 0))⟩, ⟨some 14, none, .p (.nilck (.t 13))⟩, ⟨some 15, none, .p (.fadr 0 (.t 14))⟩, ⟨some 16, none, .r (.ld none (.t 15))⟩, ⟨some 17, none, .p (.lenv (.t 16))⟩, ⟨some 18, none, .p (.mv (.c (.int .i64 0)))⟩]
@[go_sem] def c68_s5 : List SQ := [⟨some 19, none, .p (.bin .lss 3 false false (.t 18) (.t 17))⟩]
@[go_sem] def c68_s6 : List SQ := [⟨some 20, none, .p (.mv (.t 18))⟩, ⟨some 4, none, .p (.mv (.t 20))⟩]
@[go_sem] def c68_s7 : List SQ := [⟨some 21, none, .p (.mv (.t 3))⟩, ⟨some 22, none, .p (.mv (.t 4))⟩, ⟨some 23, none, .p (.mv (.t 0))⟩, ⟨some 24, none, .p (.nilck (.t 23))⟩, ⟨some 25, none, .p (.fadr 0 (.t 24))⟩, ⟨some 26, none, .r (.ld none (.t 25))⟩, ⟨some 27, none, .p (.mv (.t 4))⟩, ⟨some 28, none, .p (.iadrS 1 (.t 26) (.t 27))⟩, ⟨some 29, none, .cv (.c (.fn (.func 103) [] [])) [(.t 28)]⟩, ⟨some 30, none, .p (.iadrS 1 (.t 21) (.t 22))⟩, ⟨none, none, .e (.st 1 (.t 30) (.t 29))⟩]
@[go_sem] def c68_s8 : List SQ := [⟨some 31, none, .p (.bin .add 3 false true (.t 18) (.c (.int .i64 1)))⟩, ⟨some 18, none, .p (.mv (.t 31))⟩]
def c68_l9 : CC := (.seq (.ops c68_s5) (.seq (.cond (.t 19) .skip (.exit 0)) (.seq (.block 1 (.seq (.ops c68_s6) (.ops c68_s7))) (.ops c68_s8))))
@[go_sem] def c68_s10 : List SQ := [⟨some 32, none, .p (.mv (.t 3))⟩, ⟨some 2, none, .p (.mv (.t 32))⟩]
@[go_sem] def c68 : CF := ⟨1, (.seq (.ops c68_s0) (.seq (.seq (.ops c68_s1) (.cond (.t 6) (.seq (.ops c68_s2) .ret) .skip)) (.seq (.ops c68_s3) (.seq (.seq (.ops c68_s4) (.block 0 (.loop c68_l9))) (.seq (.ops c68_s10) .ret))))), [.tmp 2]⟩

structure StepN (h h' : H) : Prop where
  next : h.next ≤ h'.next
  old : ∀ b, b < h.next → h'.t.get b = h.t.get b
theorem StepN.refl (h : H) : StepN h h := ⟨Nat.le_refl _, fun _ _ => rfl⟩
theorem StepN.trans {a b c : H} (h : StepN a b) (k : StepN b c) : StepN a c := ⟨Nat.le_trans h.next k.next, fun x hx => (k.old x (Nat.lt_of_lt_of_le hx h.next)).trans (h.old x hx)⟩
theorem StepN.new (h : H) (x : AO) : StepN h ⟨h.next + 1, h.t.set h.next x⟩ := ⟨Nat.le_add_right _ _, fun b hb => by
  have e1 : ¬ b = h.next := by omega
  simp only [go_sem, ↓reduceIte, ↓reduceDIte, zA, zM, zL, zE, zD, yA, yE, yL, yQ, yT, reduceCtorEq, e1]⟩
/-- the places of a layout, as a list of ten numbers -/
def plV (pl : List Int) : List AV := pl.map (AV.int .i64)
theorem w26 (P : Program) [PT P] {call : CallE} {h : H} {L : Nat} (hL : L < h.next) {cells : T AV} {n : Nat} {e : TypeId} (gL : h.t.get L = some (.row cells n e)) {p0 p1 p2 p3 p4 p5 p6 p7 p8 p9 : Int}
    (hg : getList cells 16 10 = some [.int .i64 p0, .int .i64 p1, .int .i64 p2, .int .i64 p3, .int .i64 p4, .int .i64 p5, .int .i64 p6, .int .i64 p7, .int .i64 p8, .int .i64 p9]) :
    WF P call c26 [.ptr L 0] h fun v h' => v = .agg [.int .i64 p0, .int .i64 p1, .int .i64 p2, .int .i64 p3, .int .i64 p4, .int .i64 p5, .int .i64 p6, .int .i64 p7, .int .i64 p8, .int .i64 p9] ∧ StepN h h' := by
  have x1 : ¬ L = h.next := by omega
  simp only [go_sem, ↓reduceIte, ↓reduceDIte, zA, zM, zL, zE, zD, yA, yE, yL, yQ, yT, reduceCtorEq, c26, x1, gL, hg]
  exact StepN.new h _
def I68 (h0 : H) (M : Nat) (n : Nat) (k : Nat) (tm : T AV) (h : H) : Prop :=
  tm.get 0 = some (.ptr M 0) ∧ tm.get 3 = some (.sl h0.next 0 n 1 (some n)) ∧ tm.get 17 = some (.int .i64 (n : Int)) ∧ h.next = h0.next + 1 ∧ (∀ b, b < h0.next → h.t.get b = h0.t.get b) ∧
    ∃ (i : Nat) (cs : List AV), i + k = n ∧ tm.get 18 = some (.int .i64 (i : Int)) ∧ h.t.get h0.next = some (.row (putList 0 cs T.e) n 28) ∧ cs.length = n
theorem step68 (P : Program) {call : CallE} (h103 : ∀ h W i (x : Int), (∃ cs n e, h.t.get W = some (.row (putList 0 cs T.e) n e) ∧ cs[i]? = some (.int .u64 x)) → call 103 [.ptr W i] h = some (.int .u64 x, h))
    {h0 : H} {M W : Nat} {ws : List Int} (hm : MemH h0 M W ws) (hM : M < h0.next) (hW : W < h0.next) (hl2 : ws.length ≤ 65536) (k : Nat) (tm : T AV) (h : H) (hI : I68 h0 M ws.length k tm h) :
    WC P call c68_l9 (loopQ 0 (fun tm h => ∃ j, j < k ∧ I68 h0 M ws.length j tm h) (fun tm h => tm.get 3 = some (.sl h0.next 0 ws.length 1 (some ws.length)) ∧ StepN h0 h) (fun _ _ => False)) tm h := by
  obtain ⟨t0, t3, t17, nx, old, i, cs, hik, t18, gO, hcl⟩ := hI
  obtain ⟨lg, gM, _⟩ := hm.ex
  have gM1 := (old M hM).trans gM
  have gW1 := (old W hW).trans hm.w
  cases k with
  | zero =>
    have e1 : ¬ (i : Int) < (ws.length : Int) := by omega
    simp only [go_sem, ↓reduceIte, ↓reduceDIte, zA, zM, zL, zE, zD, yA, yE, yL, yQ, yT, reduceCtorEq, c68_l9, t17, t18, e1]
    exact ⟨t3, ⟨by omega, old⟩⟩
  | succ k =>
    have e1 : (i : Int) < (ws.length : Int) := by omega
    have hi : i < ws.length := by omega
    have hi2 : i < cs.length := by omega
    have hr := h103 h W i ws[i] ⟨_, _, _, gW1, by rw [List.getElem?_map, List.getElem?_eq_getElem hi]; rfl⟩
    have f1 : fw .i64 ((i : Int) + 1) = (i : Int) + 1 := fwI (by omega) (by omega)
    have e3 : ((i + 1 : Nat) : Int) = (i : Int) + 1 := rfl
    have hi3 : i + 1 ≤ ws.length := hi
    simp only [go_sem, ↓reduceIte, ↓reduceDIte, zA, zM, zL, zE, zD, yA, yE, yL, yQ, yT, reduceCtorEq, c68_l9, t0, t3, t17, t18, e1, Nat.mul_one, gM1, hr, gO, hcl, hi3, f1]
    refine ⟨k, Nat.lt_succ_self k, by simp [go_sem, t0], by simp [go_sem, t3], by simp [go_sem, t17], nx, fun b hb => ?_, i + 1, cs.set i (.int .u64 ws[i]), by omega, by simp [go_sem, e3], ?_, by rw [List.length_set]; exact hcl⟩
    · have e0 : ¬ b = h0.next := by omega
      simp only [go_sem, ↓reduceIte, ↓reduceDIte, zA, zM, zL, zE, zD, yA, yE, yL, yQ, yT, reduceCtorEq, e0]
      exact old b hb
    · simp only [go_sem, ↓reduceIte, ↓reduceDIte, zA, zM, zL, zE, zD, yA, yE, yL, yQ, yT, reduceCtorEq, hi2]
theorem w68 (P : Program) [PT P] {call : CallE} (h103 : ∀ h W i (x : Int), (∃ cs n e, h.t.get W = some (.row (putList 0 cs T.e) n e) ∧ cs[i]? = some (.int .u64 x)) → call 103 [.ptr W i] h = some (.int .u64 x, h))
    {h : H} {M W : Nat} {ws : List Int} (hm : MemH h M W ws) (hM : M < h.next) (hW : W < h.next) (hl2 : ws.length ≤ 65536) : WF P call c68 [.ptr M 0] h fun v h' => lenA v = some (.int .i64 (ws.length : Int)) ∧ StepN h h' := by
  obtain ⟨lg, gM, _⟩ := id hm.ex
  have e1 : 8 * ws.length ≤ 281474976710656 := by omega
  have e2 : ws.length ≤ 281474976710656 := by omega
  have x1 : ¬ M = h.next := by omega
  simp only [go_sem, ↓reduceIte, ↓reduceDIte, zA, zM, zL, zE, zD, yA, yE, yL, yQ, yT, reduceCtorEq, c68, gM, evLenN, rep_one, Nat.mul_one, Nat.le_refl, e1, e2, decide_true, Bool.and_self, cond_true, x1]
  refine loop_in (I68 h M ws.length) _ _ (fun k tm h' hI => step68 P h103 hm hM hW hl2 k tm h' hI) (fun tm2 h2 hR => ?_) (fun _ _ hh => hh.elim) ws.length _ _
    ⟨by simp [go_sem], by simp [go_sem], by simp [go_sem], rfl, fun b hb => ?_, 0, List.replicate ws.length (.int .u64 0), by omega, by simp [go_sem], by simp [go_sem], List.length_replicate⟩
  · obtain ⟨t3, st⟩ := hR
    simp only [go_sem, ↓reduceIte, ↓reduceDIte, zA, zM, zL, zE, zD, yA, yE, yL, yQ, yT, reduceCtorEq, t3]
    exact st
  · have e0 : ¬ b = h.next := by omega
    simp only [go_sem, ↓reduceIte, ↓reduceDIte, zA, zM, zL, zE, zD, yA, yE, yL, yQ, yT, reduceCtorEq, e0]
end
end Go.Proofs.YtldmhpdjlgoenaaGreatDoor.BN

namespace Go.Proofs.YtldmhpdjlgoenaaGreatDoor.BN
open Go.Proofs.YtldmhpdjlgoenaaGreatDoor.Eo
open Nat renaming reduceAdd → zA, reduceMul → zM, reduceLT → zL, reduceEqDiff → zE, reduceLeDiff → zD
open Int renaming reduceAdd → yA, reduceLE → yE, reduceLT → yL, reduceEq → yQ, reduceToNat → yT
noncomputable section
/-! 98: leapfrog/layout.within -/
@[go_sem] def c98_s0 : List SQ := [⟨some 6, none, .p (.mv (.c (.bool false)))⟩]
@[go_sem] def c98_s1 : List SQ := [⟨some 7, none, .p (.mv (.t 0))⟩, ⟨some 8, none, .p (.mv (.t 1))⟩, ⟨some 9, none, .p (.bin .geq 3 false false (.t 7) (.t 8))⟩, ⟨some 10, none, .p (.mv (.t 9))⟩, ⟨some 11, some (10, true), .p (.mv (.t 0))⟩, ⟨some 12, some (10, true), .p (.mv (.t 2))⟩, ⟨some 13, some (10, true), .p (.bin .leq 3 false false (.t 11) (.t 12))⟩, ⟨some 14, none, .p (.pick (.t 10) (.t 13) (.c (.bool false)))⟩, ⟨some 6, none, .p (.mv (.t 14))⟩]
@[go_sem] def c98 : CF := ⟨3, (.seq (.ops c98_s0) (.seq (.ops c98_s1) .ret)), [.tmp 6]⟩
/-! 155: leapfrog/domain.ascending -/
@[go_sem] def c155_s0 : List SQ := [⟨some 2, none, .p (.mv (.c (.bool false)))⟩]
@[go_sem] def c155_s1 : List SQ := [⟨some 3, none, .p (.mv (.c (.int .u64 0)))⟩]
@[go_sem] def c155_s2 : List SQ := [⟨some 6, none, .p (.mv (.t 0))⟩, ⟨some 7, none, .p (.lenv (.t 6))⟩, ⟨some 8, none, .p (.mv (.c (.int .i64 0)))⟩]
@[go_sem] def c155_s3 : List SQ := [⟨some 9, none, .p (.bin .lss 3 false false (.t 8) (.t 7))⟩]
@[go_sem] def c155_s4 : List SQ := [⟨some 10, none, .p (.iadrS 1 (.t 6) (.t 8))⟩, ⟨some 11, none, .r (.ld none (.t 10))⟩, ⟨some 5, none, .p (.mv (.t 11))⟩]
@[go_sem] def c155_s5 : List SQ := [⟨some 12, none, .p (.mv (.t 5))⟩, ⟨some 13, none, .p (.mv (.t 3))⟩, ⟨some 14, none, .p (.bin .leq 28 false false (.t 12) (.t 13))⟩]
@[go_sem] def c155_s6 : List SQ := [⟨some 2, none, .p (.mv (.c (.bool false)))⟩]
@[go_sem] def c155_s7 : List SQ := [⟨some 15, none, .p (.mv (.t 5))⟩, ⟨some 3, none, .p (.mv (.t 15))⟩]
@[go_sem] def c155_s8 : List SQ := [⟨some 16, none, .p (.bin .add 3 false true (.t 8) (.c (.int .i64 1)))⟩, ⟨some 8, none, .p (.mv (.t 16))⟩]
def c155_l9 : CC := (.seq (.ops c155_s3) (.seq (.cond (.t 9) .skip (.exit 0)) (.seq (.block 1 (.seq (.ops c155_s4) (.seq (.seq (.ops c155_s5) (.cond (.t 14) (.seq (.ops c155_s6) .ret) .skip)) (.ops c155_s7)))) (.ops c155_s8))))
@[go_sem] def c155_s10 : List SQ := [⟨some 2, none, .p (.mv (.c (.bool true)))⟩]
@[go_sem] def c155 : CF := ⟨1, (.seq (.ops c155_s0) (.seq (.ops c155_s1) (.seq (.seq (.ops c155_s2) (.block 0 (.loop c155_l9))) (.seq (.ops c155_s10) .ret)))), [.tmp 2]⟩
/-! 99: leapfrog/domain.Check -/
@[go_sem] def c99_s0 : List SQ := [⟨some 1, none, .n (.box 24 (.t 0))⟩, ⟨some 2, none, .p (.mv (.c (.int .i64 0)))⟩]
@[go_sem] def c99_s1 : List SQ := [⟨some 3, none, .p (.mv (.c (.bool false)))⟩]
@[go_sem] def c99_s2 : List SQ := [⟨some 4, none, .p (.fadr 0 (.t 1))⟩, ⟨some 5, none, .r (.ld none (.t 4))⟩]
@[go_sem] def c99_s3 : List SQ := [⟨some 7, none, .p (.bin .eql 5 false true (.t 5) (.c (.int .u8 1)))⟩, ⟨some 6, none, .p (.mv (.t 7))⟩]
@[go_sem] def c99_s4 : List SQ := [⟨some 8, none, .p (.fadr 1 (.t 1))⟩, ⟨some 9, none, .r (.ld none (.t 8))⟩, ⟨some 10, none, .p (.bin .eql 3 false true (.t 9) (.c (.int .i64 0)))⟩, ⟨some 11, none, .p (.mv (.t 10))⟩, ⟨some 12, some (11, true), .p (.fadr 2 (.t 1))⟩, ⟨some 13, some (11, true), .r (.ld none (.t 12))⟩, ⟨some 14, some (11, true), .p (.lenv (.t 13))⟩, ⟨some 15, some (11, true), .p (.bin .eql 3 false true (.t 14) (.c (.int .i64 0)))⟩, ⟨some 16, none, .p (.pick (.t 11) (.t 15) (.c (.bool false)))⟩, ⟨some 3, none, .p (.mv (.t 16))⟩]
@[go_sem] def c99_s5 : List SQ := [⟨some 18, none, .p (.bin .eql 5 false true (.t 5) (.c (.int .u8 2)))⟩, ⟨some 17, none, .p (.mv (.t 18))⟩]
@[go_sem] def c99_s6 : List SQ := [⟨some 19, none, .p (.fadr 1 (.t 1))⟩, ⟨some 20, none, .r (.ld none (.t 19))⟩, ⟨some 21, none, .p (.bin .geq 3 false true (.t 20) (.c (.int .i64 1)))⟩, ⟨some 22, none, .p (.mv (.t 21))⟩, ⟨some 23, some (22, true), .p (.fadr 1 (.t 1))⟩, ⟨some 24, some (22, true), .r (.ld none (.t 23))⟩, ⟨some 25, some (22, true), .p (.bin .leq 3 false true (.t 24) (.c (.int .i64 64)))⟩, ⟨some 26, none, .p (.pick (.t 22) (.t 25) (.c (.bool false)))⟩, ⟨some 27, none, .p (.mv (.t 26))⟩, ⟨some 28, some (27, true), .p (.fadr 2 (.t 1))⟩, ⟨some 29, some (27, true), .r (.ld none (.t 28))⟩, ⟨some 30, some (27, true), .p (.lenv (.t 29))⟩, ⟨some 31, some (27, true), .p (.bin .eql 3 false true (.t 30) (.c (.int .i64 0)))⟩, ⟨some 32, none, .p (.pick (.t 27) (.t 31) (.c (.bool false)))⟩, ⟨some 3, none, .p (.mv (.t 32))⟩]
@[go_sem] def c99_s7 : List SQ := [⟨some 34, none, .p (.bin .eql 5 false true (.t 5) (.c (.int .u8 3)))⟩, ⟨some 33, none, .p (.mv (.t 34))⟩]
@[go_sem] def c99_s8 : List SQ := [⟨some 35, none, .p (.fadr 1 (.t 1))⟩, ⟨some 36, none, .r (.ld none (.t 35))⟩, ⟨some 37, none, .p (.bin .eql 3 false true (.t 36) (.c (.int .i64 0)))⟩, ⟨some 38, none, .p (.mv (.t 37))⟩, ⟨some 39, some (38, true), .p (.fadr 2 (.t 1))⟩, ⟨some 40, some (38, true), .r (.ld none (.t 39))⟩, ⟨some 41, some (38, true), .p (.lenv (.t 40))⟩, ⟨some 42, some (38, true), .p (.bin .geq 3 false true (.t 41) (.c (.int .i64 1)))⟩, ⟨some 43, none, .p (.pick (.t 38) (.t 42) (.c (.bool false)))⟩, ⟨some 44, none, .p (.mv (.t 43))⟩, ⟨some 45, some (44, true), .p (.fadr 2 (.t 1))⟩, ⟨some 46, some (44, true), .r (.ld none (.t 45))⟩, ⟨some 47, some (44, true), .p (.lenv (.t 46))⟩, ⟨some 48, some (44, true), .p (.bin .lss 3 false true (.t 47) (.c (.int .i64 64)))⟩, ⟨some 49, none, .p (.pick (.t 44) (.t 48) (.c (.bool false)))⟩, ⟨some 50, none, .p (.mv (.t 49))⟩, ⟨some 51, some (50, true), .p (.fadr 2 (.t 1))⟩, ⟨some 52, some (50, true), .r (.ld none (.t 51))⟩, ⟨some 53, some (50, true), .cv (.c (.fn (.func 155) [] [])) [(.t 52)]⟩, ⟨some 54, none, .p (.pick (.t 50) (.t 53) (.c (.bool false)))⟩, ⟨some 3, none, .p (.mv (.t 54))⟩]
@[go_sem] def c99_s9 : List SQ := [⟨some 55, none, .p (.mv (.t 3))⟩, ⟨some 56, none, .p (.un .not (.t 55))⟩]
@[go_sem] def c99_s10 : List SQ := [⟨some 2, none, .p (.mv (.c (.int .i64 2)))⟩]
@[go_sem] def c99_s11 : List SQ := [⟨some 2, none, .p (.mv (.c (.int .i64 0)))⟩]
@[go_sem] def c99 : CF := ⟨1, (.seq (.ops c99_s0) (.seq (.ops c99_s1) (.seq (.seq (.ops c99_s2) (.block 0 (.seq (.ops c99_s3) (.cond (.t 6) (.ops c99_s4) (.seq (.ops c99_s5) (.cond (.t 17) (.ops c99_s6) (.seq (.ops c99_s7) (.cond (.t 33) (.ops c99_s8) .skip)))))))) (.seq (.seq (.ops c99_s9) (.cond (.t 56) (.seq (.ops c99_s10) .ret) .skip)) (.seq (.ops c99_s11) .ret))))), [.tmp 2]⟩
/-! 58: leapfrog/layout.Check -/
@[go_sem] def c58_s0 : List SQ := [⟨some 1, none, .n (.box 27 (.t 0))⟩, ⟨some 2, none, .p (.mv (.c (.int .i64 0)))⟩]
@[go_sem] def c58_s1 : List SQ := [⟨some 7, none, .p (.fadr 3 (.t 1))⟩, ⟨some 8, none, .r (.ld none (.t 7))⟩, ⟨some 9, none, .p (.bin .eql 3 false true (.t 8) (.c (.int .i64 0)))⟩, ⟨some 3, none, .p (.mv (.t 9))⟩]
@[go_sem] def c58_s2 : List SQ := [⟨some 10, none, .p (.fadr 2 (.t 1))⟩, ⟨some 11, none, .r (.ld none (.t 10))⟩, ⟨some 12, none, .p (.bin .eql 5 false true (.t 11) (.c (.int .u8 3)))⟩]
@[go_sem] def c58_s3 : List SQ := [⟨some 13, none, .p (.fadr 3 (.t 1))⟩, ⟨some 14, none, .r (.ld none (.t 13))⟩, ⟨some 15, none, .cv (.c (.fn (.func 98) [] [])) [(.t 14), (.c (.int .i64 1)), (.c (.int .i64 16))]⟩, ⟨some 3, none, .p (.mv (.t 15))⟩]
@[go_sem] def c58_s4 : List SQ := [⟨some 4, none, .p (.mv (.c (.int .i64 1024)))⟩]
@[go_sem] def c58_s5 : List SQ := [⟨some 16, none, .p (.fadr 7 (.t 1))⟩, ⟨some 17, none, .r (.ld (some 6) (.t 16))⟩, ⟨some 18, none, .p (.mv (.c (.int .i64 0)))⟩]
@[go_sem] def c58_s6 : List SQ := [⟨some 19, none, .p (.bin .lss 3 false true (.t 18) (.c (.int .i64 6)))⟩]
@[go_sem] def c58_s7 : List SQ := [⟨some 20, none, .p (.idxA 6 3 1 (.t 17) (.t 18))⟩, ⟨some 6, none, .p (.mv (.t 20))⟩]
@[go_sem] def c58_s8 : List SQ := [⟨some 21, none, .p (.mv (.t 6))⟩, ⟨some 22, none, .p (.bin .lss 3 false true (.t 21) (.c (.int .i64 0)))⟩, ⟨some 23, none, .p (.mv (.t 22))⟩, ⟨some 24, some (23, false), .p (.mv (.t 6))⟩, ⟨some 25, some (23, false), .p (.mv (.t 4))⟩, ⟨some 26, some (23, false), .p (.bin .gtr 3 false false (.t 24) (.t 25))⟩, ⟨some 27, none, .p (.pick (.t 23) (.c (.bool true)) (.t 26))⟩]
@[go_sem] def c58_s9 : List SQ := [⟨some 2, none, .p (.mv (.c (.int .i64 2)))⟩]
@[go_sem] def c58_s10 : List SQ := [⟨some 28, none, .p (.mv (.t 4))⟩, ⟨some 29, none, .p (.mv (.t 6))⟩, ⟨some 30, none, .p (.bin .sub 3 false false (.t 28) (.t 29))⟩, ⟨some 4, none, .p (.mv (.t 30))⟩]
@[go_sem] def c58_s11 : List SQ := [⟨some 31, none, .p (.bin .add 3 false true (.t 18) (.c (.int .i64 1)))⟩, ⟨some 18, none, .p (.mv (.t 31))⟩]
def c58_l12 : CC := (.seq (.ops c58_s6) (.seq (.cond (.t 19) .skip (.exit 0)) (.seq (.block 1 (.seq (.ops c58_s7) (.seq (.seq (.ops c58_s8) (.cond (.t 27) (.seq (.ops c58_s9) .ret) .skip)) (.ops c58_s10)))) (.ops c58_s11))))
@[go_sem] def c58_s13 : List SQ := [⟨some 32, none, .p (.fadr 0 (.t 1))⟩, ⟨some 33, none, .r (.ld none (.t 32))⟩, ⟨some 34, none, .cv (.c (.fn (.func 98) [] [])) [(.t 33), (.c (.int .i64 1)), (.c (.int .i64 64))]⟩, ⟨some 35, none, .p (.un .not (.t 34))⟩, ⟨some 36, none, .p (.mv (.t 35))⟩, ⟨some 37, some (36, false), .p (.fadr 1 (.t 1))⟩, ⟨some 38, some (36, false), .r (.ld none (.t 37))⟩, ⟨some 39, some (36, false), .cv (.c (.fn (.func 98) [] [])) [(.t 38), (.c (.int .i64 1)), (.c (.int .i64 64))]⟩, ⟨some 40, some (36, false), .p (.un .not (.t 39))⟩, ⟨some 41, none, .p (.pick (.t 36) (.c (.bool true)) (.t 40))⟩, ⟨some 42, none, .p (.mv (.t 41))⟩, ⟨some 43, some (42, false), .p (.fadr 2 (.t 1))⟩, ⟨some 44, some (42, false), .r (.ld none (.t 43))⟩, ⟨some 45, some (42, false), .p (.bin .lss 5 false true (.t 44) (.c (.int .u8 1)))⟩, ⟨some 46, none, .p (.pick (.t 42) (.c (.bool true)) (.t 45))⟩, ⟨some 47, none, .p (.mv (.t 46))⟩, ⟨some 48, some (47, false), .p (.fadr 2 (.t 1))⟩, ⟨some 49, some (47, false), .r (.ld none (.t 48))⟩, ⟨some 50, some (47, false), .p (.bin .gtr 5 false true (.t 49) (.c (.int .u8 3)))⟩, ⟨some 51, none, .p (.pick (.t 47) (.c (.bool true)) (.t 50))⟩, ⟨some 52, none, .p (.mv (.t 51))⟩, ⟨some 53, some (52, false), .p (.mv (.t 3))⟩, ⟨some 54, some (52, false), .p (.un .not (.t 53))⟩, ⟨some 55, none, .p (.pick (.t 52) (.c (.bool true)) (.t 54))⟩, ⟨some 56, none, .p (.mv (.t 55))⟩, ⟨some 57, some (56, false), .p (.fadr 4 (.t 1))⟩, ⟨some 58, some (56, false), .r (.ld (some 3) (.t 57))⟩, ⟨some 59, some (56, false), .cv (.c (.fn (.func 99) [] [])) [(.t 58)]⟩, ⟨some 60, some (56, false), .p (.bin .neq 34 false true (.t 59) (.c (.int .i64 0)))⟩, ⟨some 61, none, .p (.pick (.t 56) (.c (.bool true)) (.t 60))⟩, ⟨some 62, none, .p (.mv (.t 61))⟩, ⟨some 63, some (62, false), .p (.fadr 13 (.t 1))⟩, ⟨some 64, some (62, false), .r (.ld none (.t 63))⟩, ⟨some 65, some (62, false), .cv (.c (.fn (.func 98) [] [])) [(.t 64), (.c (.int .i64 1)), (.c (.int .i64 16))]⟩, ⟨some 66, some (62, false), .p (.un .not (.t 65))⟩, ⟨some 67, none, .p (.pick (.t 62) (.c (.bool true)) (.t 66))⟩, ⟨some 68, none, .p (.mv (.t 67))⟩, ⟨some 69, some (68, false), .p (.fadr 14 (.t 1))⟩, ⟨some 70, some (68, false), .r (.ld none (.t 69))⟩, ⟨some 71, some (68, false), .cv (.c (.fn (.func 98) [] [])) [(.t 70), (.c (.int .i64 1)), (.c (.int .i64 255))]⟩, ⟨some 72, some (68, false), .p (.un .not (.t 71))⟩, ⟨some 73, none, .p (.pick (.t 68) (.c (.bool true)) (.t 72))⟩, ⟨some 74, none, .p (.mv (.t 73))⟩, ⟨some 75, some (74, false), .p (.fadr 15 (.t 1))⟩, ⟨some 76, some (74, false), .r (.ld none (.t 75))⟩, ⟨some 77, some (74, false), .cv (.c (.fn (.func 98) [] [])) [(.t 76), (.c (.int .i64 0)), (.c (.int .i64 64))]⟩, ⟨some 78, some (74, false), .p (.un .not (.t 77))⟩, ⟨some 79, none, .p (.pick (.t 74) (.c (.bool true)) (.t 78))⟩]
@[go_sem] def c58_s14 : List SQ := [⟨some 2, none, .p (.mv (.c (.int .i64 2)))⟩]
@[go_sem] def c58_s15 : List SQ := [⟨some 2, none, .p (.mv (.c (.int .i64 0)))⟩]
@[go_sem] def c58 : CF := ⟨1, (.seq (.ops c58_s0) (.seq (.ops c58_s1) (.seq (.seq (.ops c58_s2) (.cond (.t 12) (.ops c58_s3) .skip)) (.seq (.ops c58_s4) (.seq (.seq (.ops c58_s5) (.block 0 (.loop c58_l12))) (.seq (.seq (.ops c58_s13) (.cond (.t 79) (.seq (.ops c58_s14) .ret) .skip)) (.seq (.ops c58_s15) .ret))))))), [.tmp 2]⟩

/-- a slice whose elements read as these values -/
def RdL (agg : Option Nat) (es : Nat) (h : H) (v : AV) (xs : List AV) : Prop :=
  (v = .nils ∧ xs = []) ∨ ∃ a o cap, v = .sl a o xs.length es cap ∧ xs.length ≤ 281474976710656 ∧ ∀ (i : Nat) x, xs[i]? = some x → ldA h.t.get agg a (o + i * es) = some x
theorem RdL.lenA {agg : Option Nat} {es : Nat} {h : H} {v : AV} {xs : List AV} (r : RdL agg es h v xs) : lenA v = some (.int .i64 (xs.length : Int)) := by
  rcases r with ⟨rfl, rfl⟩ | ⟨a, o, cap, rfl, _⟩ <;> rfl
theorem RdL.le {agg : Option Nat} {es : Nat} {h : H} {v : AV} {xs : List AV} (r : RdL agg es h v xs) : xs.length ≤ 281474976710656 := by
  rcases r with ⟨rfl, rfl⟩ | ⟨a, o, cap, rfl, h1, _⟩
  · exact Nat.zero_le _
  · exact h1
theorem Own.rdl1 {e : TypeId} {h : H} {v : AV} {len : Nat} {cs : List AV} (o : Own 1 e h v len cs) (hl : len ≤ 281474976710656) : RdL none 1 h v cs := by
  cases o with
  | nil => exact .inl ⟨rfl, rfl⟩
  | sl a len cs cap hc h0 hlen ha hg =>
    refine .inr ⟨a, 0, cap, by rw [hlen, Nat.mul_one], by omega, fun i x hi => ?_⟩
    rw [rLdA, hg, rBoth1, rLdO, rowGet, Nat.zero_add, Nat.mul_one]
    exact hi
theorem RdL.keep {agg : Option Nat} {es : Nat} {h h' : H} {v : AV} {xs : List AV} (r : RdL agg es h v xs) (hk : ∀ b, own v = some b → h'.t.get b = h.t.get b) : RdL agg es h' v xs := by
  rcases r with ⟨rfl, rfl⟩ | ⟨a, o, cap, rfl, h1, h2⟩
  · exact .inl ⟨rfl, rfl⟩
  · exact .inr ⟨a, o, cap, rfl, h1, fun i x hi => by have := h2 i x hi; rw [rLdA] at this ⊢; rw [hk a rfl]; exact this⟩

theorem RdL.one {agg : Option Nat} {es : Nat} {h : H} {v : AV} {xs : List AV} (r : RdL agg es h v xs) : oneA v = true := by
  rcases r with ⟨rfl, rfl⟩ | ⟨a, o, cap, rfl, _⟩ <;> rfl
structure CfgT where
  threads : Int
  slots : Int
  engine : Int
  buckets : Int
  kind : Int
  n : Int
  cuts : List Int
  t0 : Int
  t1 : Int
  t2 : Int
  t3 : Int
  t4 : Int
  t5 : Int
  locks : Int
  tries : Int
  batch : Int
def cfgC (c : CfgT) (v : AV) : List AV := [.int .i64 c.threads, .int .i64 c.slots, .int .u8 c.engine, .int .i64 c.buckets, .int .u8 c.kind, .int .i64 c.n, v, .int .i64 c.t0, .int .i64 c.t1, .int .i64 c.t2, .int .i64 c.t3, .int .i64 c.t4, .int .i64 c.t5, .int .i64 c.locks, .int .i64 c.tries, .int .i64 c.batch]
theorem w98 (P : Program) {call : CallE} {h : H} (n a b : Int) : WF P call c98 [.int .i64 n, .int .i64 a, .int .i64 b] h fun v h' => v = .bool (decide (a ≤ n ∧ n ≤ b)) ∧ h' = h := by
  simp only [go_sem, ↓reduceIte, ↓reduceDIte, zA, zM, zL, zE, zD, yA, yE, yL, yQ, yT, reduceCtorEq, c98]
  by_cases h1 : n < a
  · have h3 : ¬ (a ≤ n ∧ n ≤ b) := by omega
    simp only [go_sem, ↓reduceIte, ↓reduceDIte, zA, zM, zL, zE, zD, yA, yE, yL, yQ, yT, reduceCtorEq, h1, h3]
  · by_cases h2 : b < n
    · have h3 : ¬ (a ≤ n ∧ n ≤ b) := by omega
      simp only [go_sem, ↓reduceIte, ↓reduceDIte, zA, zM, zL, zE, zD, yA, yE, yL, yQ, yT, reduceCtorEq, h1, h2, h3]
    · have h3 : a ≤ n ∧ n ≤ b := by omega
      simp only [go_sem, ↓reduceIte, ↓reduceDIte, zA, zM, zL, zE, zD, yA, yE, yL, yQ, yT, reduceCtorEq, h1, h2, h3]
/-- strictly increasing, above the first -/
def ascB : Int → List Int → Bool
  | _, [] => true
  | a, x :: l => if x ≤ a then false else ascB x l
def I155 (h0 : H) (v : AV) (l : List Int) (k : Nat) (tm : T AV) (h : H) : Prop :=
  h = h0 ∧ ∃ (i : Nat) (a : Int), i + k = l.length ∧ tm.get 6 = some v ∧ tm.get 7 = some (.int .i64 (l.length : Int)) ∧ tm.get 8 = some (.int .i64 (i : Int)) ∧ tm.get 3 = some (.int .u64 a) ∧ ascB 0 l = ascB a (l.drop i)
theorem step155 (P : Program) {call : CallE} {h0 : H} {v : AV} {l : List Int} (hv : RdL none 1 h0 v (l.map fun x : Int => AV.int .u64 x)) (k : Nat) (tm : T AV) (h : H) (hI : I155 h0 v l k tm h) :
    WC P call c155_l9 (loopQ 0 (fun tm h => ∃ j, j < k ∧ I155 h0 v l j tm h) (fun tm h => h = h0 ∧ ascB 0 l = true) (fun tm h => h = h0 ∧ ascB 0 l = false ∧ tm.get 2 = some (.bool false))) tm h := by
  obtain ⟨rfl, i, a, hik, t6, t7, t8, t3, hasc⟩ := hI
  have hle := hv.le
  rw [List.length_map] at hle
  cases k with
  | zero =>
    have e1 : ¬ (i : Int) < (l.length : Int) := by omega
    simp only [go_sem, ↓reduceIte, ↓reduceDIte, zA, zM, zL, zE, zD, yA, yE, yL, yQ, yT, reduceCtorEq, c155_l9, t7, t8, e1]
    rw [hasc, List.drop_eq_nil_of_le (by omega)]
    rfl
  | succ k =>
    have e1 : (i : Int) < (l.length : Int) := by omega
    have hi : i < l.length := by omega
    rcases hv with ⟨_, hh⟩ | ⟨b, o, cap, rfl, _, ra⟩
    · rw [List.map_eq_nil_iff] at hh; subst hh; simp at hi
    have ha := ra i (.int .u64 l[i]) (by simp [hi])
    rw [rLdA, Nat.mul_one] at ha
    rw [List.length_map] at t6
    rw [List.drop_eq_getElem_cons hi] at hasc
    have f1 : fw .i64 ((i : Int) + 1) = (i : Int) + 1 := fwI (by omega) (by omega)
    have e3 : ((i + 1 : Nat) : Int) = (i : Int) + 1 := rfl
    simp only [go_sem, ↓reduceIte, ↓reduceDIte, zA, zM, zL, zE, zD, yA, yE, yL, yQ, yT, reduceCtorEq, c155_l9, t6, t7, t8, t3, e1, Nat.mul_one, ha]
    by_cases hx : l[i] ≤ a
    · have hx2 : ¬ a < l[i] := by omega
      simp only [go_sem, ↓reduceIte, ↓reduceDIte, zA, zM, zL, zE, zD, yA, yE, yL, yQ, yT, reduceCtorEq, hx2]
      rw [hasc, ascB, if_pos hx]
    · have hx2 : a < l[i] := by omega
      simp only [go_sem, ↓reduceIte, ↓reduceDIte, zA, zM, zL, zE, zD, yA, yE, yL, yQ, yT, reduceCtorEq, hx2, t8, f1]
      refine ⟨k, Nat.lt_succ_self k, rfl, i + 1, l[i], by omega, ?_, ?_, ?_, ?_, by rw [hasc, ascB, if_neg hx]⟩
      · simp only [go_sem, ↓reduceIte, ↓reduceDIte, zA, zM, zL, zE, zD, yA, yE, yL, yQ, yT, reduceCtorEq, t6, List.length_map]
      · simp only [go_sem, ↓reduceIte, ↓reduceDIte, zA, zM, zL, zE, zD, yA, yE, yL, yQ, yT, reduceCtorEq, t7]
      · simp only [go_sem, ↓reduceIte, ↓reduceDIte, zA, zM, zL, zE, zD, yA, yE, yL, yQ, yT, reduceCtorEq, e3]
      · simp only [go_sem, ↓reduceIte, ↓reduceDIte, zA, zM, zL, zE, zD, yA, yE, yL, yQ, yT, reduceCtorEq]
theorem w155 (P : Program) {call : CallE} {h : H} {v : AV} {l : List Int} (hv : RdL none 1 h v (l.map fun x : Int => AV.int .u64 x)) : WF P call c155 [v] h fun v' h' => v' = .bool (ascB 0 l) ∧ h' = h := by
  have hvl := hv.lenA
  rw [List.length_map] at hvl
  simp only [go_sem, ↓reduceIte, ↓reduceDIte, zA, zM, zL, zE, zD, yA, yE, yL, yQ, yT, reduceCtorEq, c155, hvl]
  refine loop_in (I155 h v l) (fun tm h' => h' = h ∧ ascB 0 l = true) (fun tm h' => h' = h ∧ ascB 0 l = false ∧ tm.get 2 = some (.bool false)) (fun k tm h' hI => step155 P hv k tm h' hI) (fun tm2 h2 hR => ?_) (fun tm2 h2 hS => ?_) l.length _ _
    ⟨rfl, 0, 0, by omega, ?_, ?_, ?_, ?_, rfl⟩
  · obtain ⟨rfl, e⟩ := hR
    simp only [go_sem, ↓reduceIte, ↓reduceDIte, zA, zM, zL, zE, zD, yA, yE, yL, yQ, yT, reduceCtorEq, e]
  · obtain ⟨rfl, e, t2⟩ := hS
    simp only [go_sem, ↓reduceIte, ↓reduceDIte, zA, zM, zL, zE, zD, yA, yE, yL, yQ, yT, reduceCtorEq, t2, e]
  · simp only [go_sem, ↓reduceIte, ↓reduceDIte, zA, zM, zL, zE, zD, yA, yE, yL, yQ, yT, reduceCtorEq]
  · simp only [go_sem, ↓reduceIte, ↓reduceDIte, zA, zM, zL, zE, zD, yA, yE, yL, yQ, yT, reduceCtorEq]
  · simp only [go_sem, ↓reduceIte, ↓reduceDIte, zA, zM, zL, zE, zD, yA, yE, yL, yQ, yT, reduceCtorEq]
  · simp only [go_sem, ↓reduceIte, ↓reduceDIte, zA, zM, zL, zE, zD, yA, yE, yL, yQ, yT, reduceCtorEq]
/-- says by an error whether something is so -/
def SaysE (p : Prop) (h : H) (v : AV) (h' : H) : Prop := ∃ e : Int, v = .int .i64 e ∧ (e = 0 ↔ p) ∧ StepN h h'
def domB (k n : Int) (cuts : List Int) : Prop := (k = 1 ∧ n = 0 ∧ cuts = []) ∨ (k = 2 ∧ (1 ≤ n ∧ n ≤ 64) ∧ cuts = []) ∨ (k = 3 ∧ n = 0 ∧ 1 ≤ cuts.length ∧ cuts.length < 64 ∧ ascB 0 cuts = true)
theorem w99 (P : Program) {call : CallE} (h155 : ∀ h v (l : List Int), RdL none 1 h v (l.map fun x : Int => AV.int .u64 x) → call 155 [v] h = some (.bool (ascB 0 l), h))
    {h : H} {k n : Int} {v : AV} {l : List Int} (hv : RdL none 1 h v (l.map fun x : Int => AV.int .u64 x)) (hlv : ∀ a, own v = some a → a < h.next) :
    WF P call c99 [.agg [.int .u8 k, .int .i64 n, v]] h (SaysE (domB k n l) h) := by
  have ov := hv.one
  have hvl := hv.lenA
  rw [List.length_map] at hvl
  have st : ∀ x, StepN h ⟨h.next + 1, h.t.set h.next x⟩ := fun x => ⟨Nat.le_add_right _ _, fun b hb => by
    have e1 : ¬ b = h.next := by omega
    simp only [go_sem, ↓reduceIte, ↓reduceDIte, zA, zM, zL, zE, zD, yA, yE, yL, yQ, yT, reduceCtorEq, e1]⟩
  have h155' := fun x => h155 ⟨h.next + 1, h.t.set h.next x⟩ v l (hv.keep fun b hb => (st x).old b (hlv b hb))
  have ln : ((l.length : Int) = 0) = (l = []) := by rw [← List.length_eq_zero_iff]; apply propext; omega
  by_cases k1 : k = 1
  · subst k1
    by_cases n0 : n = 0
    · by_cases l0 : l = []
      · simp only [go_sem, ↓reduceIte, ↓reduceDIte, zA, zM, zL, zE, zD, yA, yE, yL, yQ, yT, reduceCtorEq, c99, ov, hvl, n0, ln, l0]
        exact ⟨0, rfl, by simp [domB], st _⟩
      · simp only [go_sem, ↓reduceIte, ↓reduceDIte, zA, zM, zL, zE, zD, yA, yE, yL, yQ, yT, reduceCtorEq, c99, ov, hvl, n0, ln, l0]
        exact ⟨2, rfl, by simp [domB, l0], st _⟩
    · simp only [go_sem, ↓reduceIte, ↓reduceDIte, zA, zM, zL, zE, zD, yA, yE, yL, yQ, yT, reduceCtorEq, c99, ov, hvl, n0, ln]
      exact ⟨2, rfl, by simp [domB, n0], st _⟩
  by_cases k2 : k = 2
  · subst k2
    by_cases n1 : n < 1
    · simp only [go_sem, ↓reduceIte, ↓reduceDIte, zA, zM, zL, zE, zD, yA, yE, yL, yQ, yT, reduceCtorEq, c99, ov, hvl, n1, ln]
      exact ⟨2, rfl, by simp [domB]; intro h1 h2 h3; omega, st _⟩
    · by_cases n2 : 64 < n
      · simp only [go_sem, ↓reduceIte, ↓reduceDIte, zA, zM, zL, zE, zD, yA, yE, yL, yQ, yT, reduceCtorEq, c99, ov, hvl, n1, n2, ln]
        exact ⟨2, rfl, by simp [domB]; intro h1 h2 h3; omega, st _⟩
      · by_cases l0 : l = []
        · simp only [go_sem, ↓reduceIte, ↓reduceDIte, zA, zM, zL, zE, zD, yA, yE, yL, yQ, yT, reduceCtorEq, c99, ov, hvl, n1, n2, ln, l0]
          exact ⟨0, rfl, by simp [domB]; omega, st _⟩
        · simp only [go_sem, ↓reduceIte, ↓reduceDIte, zA, zM, zL, zE, zD, yA, yE, yL, yQ, yT, reduceCtorEq, c99, ov, hvl, n1, n2, ln, l0]
          exact ⟨2, rfl, by simp [domB, l0], st _⟩
  by_cases k3 : k = 3
  · subst k3
    by_cases n0 : n = 0
    · by_cases l1 : (l.length : Int) < 1
      · simp only [go_sem, ↓reduceIte, ↓reduceDIte, zA, zM, zL, zE, zD, yA, yE, yL, yQ, yT, reduceCtorEq, c99, ov, hvl, n0, l1]
        have hn : ¬ domB 3 0 l := by rintro (⟨h1, _⟩ | ⟨h1, _⟩ | ⟨_, _, h3, h4, _⟩) <;> omega
        exact ⟨2, rfl, by simp [hn], st _⟩
      · by_cases l2 : (l.length : Int) < 64
        · simp only [go_sem, ↓reduceIte, ↓reduceDIte, zA, zM, zL, zE, zD, yA, yE, yL, yQ, yT, reduceCtorEq, c99, ov, hvl, n0, l1, l2]
          refine opt_some (h155' _) ?_
          cases ha : ascB 0 l with
          | true =>
            simp only [go_sem, ↓reduceIte, ↓reduceDIte, zA, zM, zL, zE, zD, yA, yE, yL, yQ, yT, reduceCtorEq]
            exact ⟨0, rfl, by simp [domB, ha]; omega, st _⟩
          | false =>
            simp only [go_sem, ↓reduceIte, ↓reduceDIte, zA, zM, zL, zE, zD, yA, yE, yL, yQ, yT, reduceCtorEq]
            exact ⟨2, rfl, by simp [domB, ha], st _⟩
        · simp only [go_sem, ↓reduceIte, ↓reduceDIte, zA, zM, zL, zE, zD, yA, yE, yL, yQ, yT, reduceCtorEq, c99, ov, hvl, n0, l1, l2]
          have hn : ¬ domB 3 0 l := by rintro (⟨h1, _⟩ | ⟨h1, _⟩ | ⟨_, _, h3, h4, _⟩) <;> omega
          exact ⟨2, rfl, by simp [hn], st _⟩
    · simp only [go_sem, ↓reduceIte, ↓reduceDIte, zA, zM, zL, zE, zD, yA, yE, yL, yQ, yT, reduceCtorEq, c99, ov, hvl, n0]
      exact ⟨2, rfl, by simp [domB, n0], st _⟩
  simp only [go_sem, ↓reduceIte, ↓reduceDIte, zA, zM, zL, zE, zD, yA, yE, yL, yQ, yT, reduceCtorEq, c99, ov, hvl, k1, k2, k3]
  exact ⟨2, rfl, by simp [domB, k1, k2, k3], st _⟩

def towB : Int → List Int → Prop
  | _, [] => True
  | a, t :: l => (0 ≤ t ∧ t ≤ a) ∧ towB (a - t) l
def layB (c : CfgT) : Prop := towB 1024 [c.t0, c.t1, c.t2, c.t3, c.t4, c.t5] ∧ (1 ≤ c.threads ∧ c.threads ≤ 64) ∧ (1 ≤ c.slots ∧ c.slots ≤ 64) ∧ 1 ≤ c.engine ∧ c.engine ≤ 3 ∧ (c.engine = 3 → 1 ≤ c.buckets ∧ c.buckets ≤ 16) ∧ (c.engine ≠ 3 → c.buckets = 0) ∧ domB c.kind c.n c.cuts ∧ (1 ≤ c.locks ∧ c.locks ≤ 16) ∧ (1 ≤ c.tries ∧ c.tries ≤ 255) ∧ 0 ≤ c.batch ∧ c.batch ≤ 64
theorem fl1 : fw .i64 1 = 1 := rfl
theorem fl2 : fw .i64 2 = 2 := rfl
theorem fl3 : fw .i64 3 = 3 := rfl
theorem fl4 : fw .i64 4 = 4 := rfl
theorem fl5 : fw .i64 5 = 5 := rfl
theorem fl6 : fw .i64 6 = 6 := rfl
theorem part3 (P : Program) [p : PT P] (l : List AV) (i : Nat) : partA P 3 l i = l[i]? := by unfold partA; rw [p.agg3]

set_option maxRecDepth 10000 in
theorem w58_0 (P : Program) [PT P] {call : CallE} (h98 : ∀ h n a b, call 98 [.int .i64 n, .int .i64 a, .int .i64 b] h = some (.bool (decide (a ≤ n ∧ n ≤ b)), h))
    (h99 : ∀ h k n v (l : List Int), RdL none 1 h v (l.map fun x : Int => AV.int .u64 x) → (∀ a, own v = some a → a < h.next) → ∃ v' h', call 99 [.agg [.int .u8 k, .int .i64 n, v]] h = some (v', h') ∧ SaysE (domB k n l) h v' h')
    {h : H} {c : CfgT} {v : AV} (hv : RdL none 1 h v (c.cuts.map fun x : Int => AV.int .u64 x)) (hlv : ∀ a, own v = some a → a < h.next) (hg : ¬ c.engine = 3) :
    WF P call c58 [.agg (cfgC c v)] h (SaysE (layB c) h) := by
  have ov := hv.one
  have st : ∀ x, StepN h ⟨h.next + 1, h.t.set h.next x⟩ := fun x => ⟨Nat.le_add_right _ _, fun b hb => by
    have e1 : ¬ b = h.next := by omega
    simp only [go_sem, ↓reduceIte, ↓reduceDIte, zA, zM, zL, zE, zD, yA, yE, yL, yQ, yT, reduceCtorEq, e1]⟩
  have bad : ∀ (p : Prop) x, ¬ p → SaysE p h (.int .i64 2) ⟨h.next + 1, h.t.set h.next x⟩ := fun p x hp => ⟨2, rfl, by simp [hp], st x⟩
  simp only [go_sem, ↓reduceIte, ↓reduceDIte, zA, zM, zL, zE, zD, yA, yE, yL, yQ, yT, reduceCtorEq, c58, ov, cfgC, hg, h98]
  refine unroll 7 ?_
  simp only [go_sem, ↓reduceIte, ↓reduceDIte, zA, zM, zL, zE, zD, yA, yE, yL, yQ, yT, reduceCtorEq, c58_l12, part3]
  by_cases a0 : c.t0 < 0
  case pos =>
    simp only [go_sem, ↓reduceIte, ↓reduceDIte, zA, zM, zL, zE, zD, yA, yE, yL, yQ, yT, reduceCtorEq, c58_l12, part3, fl1, fl2, fl3, fl4, fl5, fl6, a0]
    exact bad _ _ (by rintro ⟨ht, _⟩; simp only [towB] at ht; omega)
  by_cases b0 : 1024 < c.t0
  case pos =>
    simp only [go_sem, ↓reduceIte, ↓reduceDIte, zA, zM, zL, zE, zD, yA, yE, yL, yQ, yT, reduceCtorEq, c58_l12, part3, fl1, fl2, fl3, fl4, fl5, fl6, a0, b0]
    exact bad _ _ (by rintro ⟨ht, _⟩; simp only [towB] at ht; omega)
  have f0 : fw .i64 (1024 - c.t0) = 1024 - c.t0 := fwI (by omega) (by omega)
  simp only [go_sem, ↓reduceIte, ↓reduceDIte, zA, zM, zL, zE, zD, yA, yE, yL, yQ, yT, reduceCtorEq, c58_l12, part3, fl1, fl2, fl3, fl4, fl5, fl6, a0, b0, f0]
  by_cases a1 : c.t1 < 0
  case pos =>
    simp only [go_sem, ↓reduceIte, ↓reduceDIte, zA, zM, zL, zE, zD, yA, yE, yL, yQ, yT, reduceCtorEq, c58_l12, part3, fl1, fl2, fl3, fl4, fl5, fl6, a0, b0, f0, a1]
    exact bad _ _ (by rintro ⟨ht, _⟩; simp only [towB] at ht; omega)
  by_cases b1 : 1024 - c.t0 < c.t1
  case pos =>
    simp only [go_sem, ↓reduceIte, ↓reduceDIte, zA, zM, zL, zE, zD, yA, yE, yL, yQ, yT, reduceCtorEq, c58_l12, part3, fl1, fl2, fl3, fl4, fl5, fl6, a0, b0, f0, a1, b1]
    exact bad _ _ (by rintro ⟨ht, _⟩; simp only [towB] at ht; omega)
  have f1 : fw .i64 (1024 - c.t0 - c.t1) = 1024 - c.t0 - c.t1 := fwI (by omega) (by omega)
  simp only [go_sem, ↓reduceIte, ↓reduceDIte, zA, zM, zL, zE, zD, yA, yE, yL, yQ, yT, reduceCtorEq, c58_l12, part3, fl1, fl2, fl3, fl4, fl5, fl6, a0, b0, f0, a1, b1, f1]
  by_cases a2 : c.t2 < 0
  case pos =>
    simp only [go_sem, ↓reduceIte, ↓reduceDIte, zA, zM, zL, zE, zD, yA, yE, yL, yQ, yT, reduceCtorEq, c58_l12, part3, fl1, fl2, fl3, fl4, fl5, fl6, a0, b0, f0, a1, b1, f1, a2]
    exact bad _ _ (by rintro ⟨ht, _⟩; simp only [towB] at ht; omega)
  by_cases b2 : 1024 - c.t0 - c.t1 < c.t2
  case pos =>
    simp only [go_sem, ↓reduceIte, ↓reduceDIte, zA, zM, zL, zE, zD, yA, yE, yL, yQ, yT, reduceCtorEq, c58_l12, part3, fl1, fl2, fl3, fl4, fl5, fl6, a0, b0, f0, a1, b1, f1, a2, b2]
    exact bad _ _ (by rintro ⟨ht, _⟩; simp only [towB] at ht; omega)
  have f2 : fw .i64 (1024 - c.t0 - c.t1 - c.t2) = 1024 - c.t0 - c.t1 - c.t2 := fwI (by omega) (by omega)
  simp only [go_sem, ↓reduceIte, ↓reduceDIte, zA, zM, zL, zE, zD, yA, yE, yL, yQ, yT, reduceCtorEq, c58_l12, part3, fl1, fl2, fl3, fl4, fl5, fl6, a0, b0, f0, a1, b1, f1, a2, b2, f2]
  by_cases a3 : c.t3 < 0
  case pos =>
    simp only [go_sem, ↓reduceIte, ↓reduceDIte, zA, zM, zL, zE, zD, yA, yE, yL, yQ, yT, reduceCtorEq, c58_l12, part3, fl1, fl2, fl3, fl4, fl5, fl6, a0, b0, f0, a1, b1, f1, a2, b2, f2, a3]
    exact bad _ _ (by rintro ⟨ht, _⟩; simp only [towB] at ht; omega)
  by_cases b3 : 1024 - c.t0 - c.t1 - c.t2 < c.t3
  case pos =>
    simp only [go_sem, ↓reduceIte, ↓reduceDIte, zA, zM, zL, zE, zD, yA, yE, yL, yQ, yT, reduceCtorEq, c58_l12, part3, fl1, fl2, fl3, fl4, fl5, fl6, a0, b0, f0, a1, b1, f1, a2, b2, f2, a3, b3]
    exact bad _ _ (by rintro ⟨ht, _⟩; simp only [towB] at ht; omega)
  have f3 : fw .i64 (1024 - c.t0 - c.t1 - c.t2 - c.t3) = 1024 - c.t0 - c.t1 - c.t2 - c.t3 := fwI (by omega) (by omega)
  simp only [go_sem, ↓reduceIte, ↓reduceDIte, zA, zM, zL, zE, zD, yA, yE, yL, yQ, yT, reduceCtorEq, c58_l12, part3, fl1, fl2, fl3, fl4, fl5, fl6, a0, b0, f0, a1, b1, f1, a2, b2, f2, a3, b3, f3]
  by_cases a4 : c.t4 < 0
  case pos =>
    simp only [go_sem, ↓reduceIte, ↓reduceDIte, zA, zM, zL, zE, zD, yA, yE, yL, yQ, yT, reduceCtorEq, c58_l12, part3, fl1, fl2, fl3, fl4, fl5, fl6, a0, b0, f0, a1, b1, f1, a2, b2, f2, a3, b3, f3, a4]
    exact bad _ _ (by rintro ⟨ht, _⟩; simp only [towB] at ht; omega)
  by_cases b4 : 1024 - c.t0 - c.t1 - c.t2 - c.t3 < c.t4
  case pos =>
    simp only [go_sem, ↓reduceIte, ↓reduceDIte, zA, zM, zL, zE, zD, yA, yE, yL, yQ, yT, reduceCtorEq, c58_l12, part3, fl1, fl2, fl3, fl4, fl5, fl6, a0, b0, f0, a1, b1, f1, a2, b2, f2, a3, b3, f3, a4, b4]
    exact bad _ _ (by rintro ⟨ht, _⟩; simp only [towB] at ht; omega)
  have f4 : fw .i64 (1024 - c.t0 - c.t1 - c.t2 - c.t3 - c.t4) = 1024 - c.t0 - c.t1 - c.t2 - c.t3 - c.t4 := fwI (by omega) (by omega)
  simp only [go_sem, ↓reduceIte, ↓reduceDIte, zA, zM, zL, zE, zD, yA, yE, yL, yQ, yT, reduceCtorEq, c58_l12, part3, fl1, fl2, fl3, fl4, fl5, fl6, a0, b0, f0, a1, b1, f1, a2, b2, f2, a3, b3, f3, a4, b4, f4]
  by_cases a5 : c.t5 < 0
  case pos =>
    simp only [go_sem, ↓reduceIte, ↓reduceDIte, zA, zM, zL, zE, zD, yA, yE, yL, yQ, yT, reduceCtorEq, c58_l12, part3, fl1, fl2, fl3, fl4, fl5, fl6, a0, b0, f0, a1, b1, f1, a2, b2, f2, a3, b3, f3, a4, b4, f4, a5]
    exact bad _ _ (by rintro ⟨ht, _⟩; simp only [towB] at ht; omega)
  by_cases b5 : 1024 - c.t0 - c.t1 - c.t2 - c.t3 - c.t4 < c.t5
  case pos =>
    simp only [go_sem, ↓reduceIte, ↓reduceDIte, zA, zM, zL, zE, zD, yA, yE, yL, yQ, yT, reduceCtorEq, c58_l12, part3, fl1, fl2, fl3, fl4, fl5, fl6, a0, b0, f0, a1, b1, f1, a2, b2, f2, a3, b3, f3, a4, b4, f4, a5, b5]
    exact bad _ _ (by rintro ⟨ht, _⟩; simp only [towB] at ht; omega)
  have f5 : fw .i64 (1024 - c.t0 - c.t1 - c.t2 - c.t3 - c.t4 - c.t5) = 1024 - c.t0 - c.t1 - c.t2 - c.t3 - c.t4 - c.t5 := fwI (by omega) (by omega)
  simp only [go_sem, ↓reduceIte, ↓reduceDIte, zA, zM, zL, zE, zD, yA, yE, yL, yQ, yT, reduceCtorEq, c58_l12, part3, fl1, fl2, fl3, fl4, fl5, fl6, a0, b0, f0, a1, b1, f1, a2, b2, f2, a3, b3, f3, a4, b4, f4, a5, b5, f5]
  have ht : towB 1024 [c.t0, c.t1, c.t2, c.t3, c.t4, c.t5] := by simp only [towB, and_true]; omega
  by_cases c1 : 1 ≤ c.threads ∧ c.threads ≤ 64
  case neg =>
    simp only [go_sem, ↓reduceIte, ↓reduceDIte, zA, zM, zL, zE, zD, yA, yE, yL, yQ, yT, reduceCtorEq, h98, c1]
    exact bad _ _ (by rintro ⟨_, q1, q2, q3, q4, q5, q6, q7, q8, q9, q10⟩; omega)
  by_cases c2 : 1 ≤ c.slots ∧ c.slots ≤ 64
  case neg =>
    simp only [go_sem, ↓reduceIte, ↓reduceDIte, zA, zM, zL, zE, zD, yA, yE, yL, yQ, yT, reduceCtorEq, h98, c1, c2]
    exact bad _ _ (by rintro ⟨_, q1, q2, q3, q4, q5, q6, q7, q8, q9, q10⟩; omega)
  by_cases c3 : c.engine < 1
  case pos =>
    simp only [go_sem, ↓reduceIte, ↓reduceDIte, zA, zM, zL, zE, zD, yA, yE, yL, yQ, yT, reduceCtorEq, h98, c1, c2, c3]
    exact bad _ _ (by rintro ⟨_, q1, q2, q3, q4, q5, q6, q7, q8, q9, q10⟩; omega)
  by_cases c4 : 3 < c.engine
  case pos =>
    simp only [go_sem, ↓reduceIte, ↓reduceDIte, zA, zM, zL, zE, zD, yA, yE, yL, yQ, yT, reduceCtorEq, h98, c1, c2, c3, c4]
    exact bad _ _ (by rintro ⟨_, q1, q2, q3, q4, q5, q6, q7, q8, q9, q10⟩; omega)
  by_cases c5 : c.buckets = 0
  case neg =>
    simp only [go_sem, ↓reduceIte, ↓reduceDIte, zA, zM, zL, zE, zD, yA, yE, yL, yQ, yT, reduceCtorEq, h98, c1, c2, c3, c4, c5]
    exact bad _ _ (by rintro ⟨_, q1, q2, q3, q4, q5, q6, q7, q8, q9, q10⟩; exact c5 (q6 hg))
  simp only [go_sem, ↓reduceIte, ↓reduceDIte, zA, zM, zL, zE, zD, yA, yE, yL, yQ, yT, reduceCtorEq, h98, c1, c2, c3, c4, c5]
  refine opt_by (h99 _ c.kind c.n v c.cuts (hv.keep fun b hb => (st _).old b (hlv b hb)) (fun a ha => Nat.lt_of_lt_of_le (hlv a ha) (st _).next)) fun v1 h1 p1 => ?_
  obtain ⟨e, rfl, he, st1⟩ := p1
  have stn := (st _).trans st1
  have g0 := st1.old h.next (by show h.next < h.next + 1; omega)
  simp only [go_sem, ↓reduceIte, ↓reduceDIte, zA, zM, zL, zE, zD, yA, yE, yL, yQ, yT, reduceCtorEq] at g0
  have bad2 : ∀ p : Prop, ¬ p → SaysE p h (.int .i64 2) h1 := fun p hp => ⟨2, rfl, by simp [hp], stn⟩
  by_cases d0 : e = 0
  case neg =>
    simp only [go_sem, ↓reduceIte, ↓reduceDIte, zA, zM, zL, zE, zD, yA, yE, yL, yQ, yT, reduceCtorEq, d0, g0, h98]
    exact bad2 _ (by rintro ⟨_, q1, q2, q3, q4, q5, q6, q7, q8, q9, q10⟩; exact d0 (he.2 q7))
  have dd := he.1 d0
  by_cases d1 : 1 ≤ c.locks ∧ c.locks ≤ 16
  case neg =>
    simp only [go_sem, ↓reduceIte, ↓reduceDIte, zA, zM, zL, zE, zD, yA, yE, yL, yQ, yT, reduceCtorEq, g0, h98, d0, d1]
    exact bad2 _ (by rintro ⟨_, q1, q2, q3, q4, q5, q6, q7, q8, q9, q10, q11⟩; omega)
  by_cases d2 : 1 ≤ c.tries ∧ c.tries ≤ 255
  case neg =>
    simp only [go_sem, ↓reduceIte, ↓reduceDIte, zA, zM, zL, zE, zD, yA, yE, yL, yQ, yT, reduceCtorEq, g0, h98, d0, d1, d2]
    exact bad2 _ (by rintro ⟨_, q1, q2, q3, q4, q5, q6, q7, q8, q9, q10, q11⟩; omega)
  by_cases d3 : 0 ≤ c.batch ∧ c.batch ≤ 64
  case neg =>
    simp only [go_sem, ↓reduceIte, ↓reduceDIte, zA, zM, zL, zE, zD, yA, yE, yL, yQ, yT, reduceCtorEq, g0, h98, d0, d1, d2, d3]
    exact bad2 _ (by rintro ⟨_, q1, q2, q3, q4, q5, q6, q7, q8, q9, q10, q11⟩; omega)
  simp only [go_sem, ↓reduceIte, ↓reduceDIte, zA, zM, zL, zE, zD, yA, yE, yL, yQ, yT, reduceCtorEq, g0, h98, d0, d1, d2, d3]
  exact ⟨0, rfl, by simp only [true_iff]; exact ⟨ht, c1, c2, by omega, by omega, by intro q; exact absurd q hg, by intro _; exact c5, dd, d1, d2, d3.1, d3.2⟩, stn⟩

set_option maxRecDepth 10000 in
theorem w58_1 (P : Program) [PT P] {call : CallE} (h98 : ∀ h n a b, call 98 [.int .i64 n, .int .i64 a, .int .i64 b] h = some (.bool (decide (a ≤ n ∧ n ≤ b)), h))
    (h99 : ∀ h k n v (l : List Int), RdL none 1 h v (l.map fun x : Int => AV.int .u64 x) → (∀ a, own v = some a → a < h.next) → ∃ v' h', call 99 [.agg [.int .u8 k, .int .i64 n, v]] h = some (v', h') ∧ SaysE (domB k n l) h v' h')
    {h : H} {c : CfgT} {v : AV} (hv : RdL none 1 h v (c.cuts.map fun x : Int => AV.int .u64 x)) (hlv : ∀ a, own v = some a → a < h.next) (hg : c.engine = 3) :
    WF P call c58 [.agg (cfgC c v)] h (SaysE (layB c) h) := by
  have ov := hv.one
  have st : ∀ x, StepN h ⟨h.next + 1, h.t.set h.next x⟩ := fun x => ⟨Nat.le_add_right _ _, fun b hb => by
    have e1 : ¬ b = h.next := by omega
    simp only [go_sem, ↓reduceIte, ↓reduceDIte, zA, zM, zL, zE, zD, yA, yE, yL, yQ, yT, reduceCtorEq, e1]⟩
  have bad : ∀ (p : Prop) x, ¬ p → SaysE p h (.int .i64 2) ⟨h.next + 1, h.t.set h.next x⟩ := fun p x hp => ⟨2, rfl, by simp [hp], st x⟩
  simp only [go_sem, ↓reduceIte, ↓reduceDIte, zA, zM, zL, zE, zD, yA, yE, yL, yQ, yT, reduceCtorEq, c58, ov, cfgC, hg, h98]
  refine unroll 7 ?_
  simp only [go_sem, ↓reduceIte, ↓reduceDIte, zA, zM, zL, zE, zD, yA, yE, yL, yQ, yT, reduceCtorEq, c58_l12, part3]
  by_cases a0 : c.t0 < 0
  case pos =>
    simp only [go_sem, ↓reduceIte, ↓reduceDIte, zA, zM, zL, zE, zD, yA, yE, yL, yQ, yT, reduceCtorEq, c58_l12, part3, fl1, fl2, fl3, fl4, fl5, fl6, a0]
    exact bad _ _ (by rintro ⟨ht, _⟩; simp only [towB] at ht; omega)
  by_cases b0 : 1024 < c.t0
  case pos =>
    simp only [go_sem, ↓reduceIte, ↓reduceDIte, zA, zM, zL, zE, zD, yA, yE, yL, yQ, yT, reduceCtorEq, c58_l12, part3, fl1, fl2, fl3, fl4, fl5, fl6, a0, b0]
    exact bad _ _ (by rintro ⟨ht, _⟩; simp only [towB] at ht; omega)
  have f0 : fw .i64 (1024 - c.t0) = 1024 - c.t0 := fwI (by omega) (by omega)
  simp only [go_sem, ↓reduceIte, ↓reduceDIte, zA, zM, zL, zE, zD, yA, yE, yL, yQ, yT, reduceCtorEq, c58_l12, part3, fl1, fl2, fl3, fl4, fl5, fl6, a0, b0, f0]
  by_cases a1 : c.t1 < 0
  case pos =>
    simp only [go_sem, ↓reduceIte, ↓reduceDIte, zA, zM, zL, zE, zD, yA, yE, yL, yQ, yT, reduceCtorEq, c58_l12, part3, fl1, fl2, fl3, fl4, fl5, fl6, a0, b0, f0, a1]
    exact bad _ _ (by rintro ⟨ht, _⟩; simp only [towB] at ht; omega)
  by_cases b1 : 1024 - c.t0 < c.t1
  case pos =>
    simp only [go_sem, ↓reduceIte, ↓reduceDIte, zA, zM, zL, zE, zD, yA, yE, yL, yQ, yT, reduceCtorEq, c58_l12, part3, fl1, fl2, fl3, fl4, fl5, fl6, a0, b0, f0, a1, b1]
    exact bad _ _ (by rintro ⟨ht, _⟩; simp only [towB] at ht; omega)
  have f1 : fw .i64 (1024 - c.t0 - c.t1) = 1024 - c.t0 - c.t1 := fwI (by omega) (by omega)
  simp only [go_sem, ↓reduceIte, ↓reduceDIte, zA, zM, zL, zE, zD, yA, yE, yL, yQ, yT, reduceCtorEq, c58_l12, part3, fl1, fl2, fl3, fl4, fl5, fl6, a0, b0, f0, a1, b1, f1]
  by_cases a2 : c.t2 < 0
  case pos =>
    simp only [go_sem, ↓reduceIte, ↓reduceDIte, zA, zM, zL, zE, zD, yA, yE, yL, yQ, yT, reduceCtorEq, c58_l12, part3, fl1, fl2, fl3, fl4, fl5, fl6, a0, b0, f0, a1, b1, f1, a2]
    exact bad _ _ (by rintro ⟨ht, _⟩; simp only [towB] at ht; omega)
  by_cases b2 : 1024 - c.t0 - c.t1 < c.t2
  case pos =>
    simp only [go_sem, ↓reduceIte, ↓reduceDIte, zA, zM, zL, zE, zD, yA, yE, yL, yQ, yT, reduceCtorEq, c58_l12, part3, fl1, fl2, fl3, fl4, fl5, fl6, a0, b0, f0, a1, b1, f1, a2, b2]
    exact bad _ _ (by rintro ⟨ht, _⟩; simp only [towB] at ht; omega)
  have f2 : fw .i64 (1024 - c.t0 - c.t1 - c.t2) = 1024 - c.t0 - c.t1 - c.t2 := fwI (by omega) (by omega)
  simp only [go_sem, ↓reduceIte, ↓reduceDIte, zA, zM, zL, zE, zD, yA, yE, yL, yQ, yT, reduceCtorEq, c58_l12, part3, fl1, fl2, fl3, fl4, fl5, fl6, a0, b0, f0, a1, b1, f1, a2, b2, f2]
  by_cases a3 : c.t3 < 0
  case pos =>
    simp only [go_sem, ↓reduceIte, ↓reduceDIte, zA, zM, zL, zE, zD, yA, yE, yL, yQ, yT, reduceCtorEq, c58_l12, part3, fl1, fl2, fl3, fl4, fl5, fl6, a0, b0, f0, a1, b1, f1, a2, b2, f2, a3]
    exact bad _ _ (by rintro ⟨ht, _⟩; simp only [towB] at ht; omega)
  by_cases b3 : 1024 - c.t0 - c.t1 - c.t2 < c.t3
  case pos =>
    simp only [go_sem, ↓reduceIte, ↓reduceDIte, zA, zM, zL, zE, zD, yA, yE, yL, yQ, yT, reduceCtorEq, c58_l12, part3, fl1, fl2, fl3, fl4, fl5, fl6, a0, b0, f0, a1, b1, f1, a2, b2, f2, a3, b3]
    exact bad _ _ (by rintro ⟨ht, _⟩; simp only [towB] at ht; omega)
  have f3 : fw .i64 (1024 - c.t0 - c.t1 - c.t2 - c.t3) = 1024 - c.t0 - c.t1 - c.t2 - c.t3 := fwI (by omega) (by omega)
  simp only [go_sem, ↓reduceIte, ↓reduceDIte, zA, zM, zL, zE, zD, yA, yE, yL, yQ, yT, reduceCtorEq, c58_l12, part3, fl1, fl2, fl3, fl4, fl5, fl6, a0, b0, f0, a1, b1, f1, a2, b2, f2, a3, b3, f3]
  by_cases a4 : c.t4 < 0
  case pos =>
    simp only [go_sem, ↓reduceIte, ↓reduceDIte, zA, zM, zL, zE, zD, yA, yE, yL, yQ, yT, reduceCtorEq, c58_l12, part3, fl1, fl2, fl3, fl4, fl5, fl6, a0, b0, f0, a1, b1, f1, a2, b2, f2, a3, b3, f3, a4]
    exact bad _ _ (by rintro ⟨ht, _⟩; simp only [towB] at ht; omega)
  by_cases b4 : 1024 - c.t0 - c.t1 - c.t2 - c.t3 < c.t4
  case pos =>
    simp only [go_sem, ↓reduceIte, ↓reduceDIte, zA, zM, zL, zE, zD, yA, yE, yL, yQ, yT, reduceCtorEq, c58_l12, part3, fl1, fl2, fl3, fl4, fl5, fl6, a0, b0, f0, a1, b1, f1, a2, b2, f2, a3, b3, f3, a4, b4]
    exact bad _ _ (by rintro ⟨ht, _⟩; simp only [towB] at ht; omega)
  have f4 : fw .i64 (1024 - c.t0 - c.t1 - c.t2 - c.t3 - c.t4) = 1024 - c.t0 - c.t1 - c.t2 - c.t3 - c.t4 := fwI (by omega) (by omega)
  simp only [go_sem, ↓reduceIte, ↓reduceDIte, zA, zM, zL, zE, zD, yA, yE, yL, yQ, yT, reduceCtorEq, c58_l12, part3, fl1, fl2, fl3, fl4, fl5, fl6, a0, b0, f0, a1, b1, f1, a2, b2, f2, a3, b3, f3, a4, b4, f4]
  by_cases a5 : c.t5 < 0
  case pos =>
    simp only [go_sem, ↓reduceIte, ↓reduceDIte, zA, zM, zL, zE, zD, yA, yE, yL, yQ, yT, reduceCtorEq, c58_l12, part3, fl1, fl2, fl3, fl4, fl5, fl6, a0, b0, f0, a1, b1, f1, a2, b2, f2, a3, b3, f3, a4, b4, f4, a5]
    exact bad _ _ (by rintro ⟨ht, _⟩; simp only [towB] at ht; omega)
  by_cases b5 : 1024 - c.t0 - c.t1 - c.t2 - c.t3 - c.t4 < c.t5
  case pos =>
    simp only [go_sem, ↓reduceIte, ↓reduceDIte, zA, zM, zL, zE, zD, yA, yE, yL, yQ, yT, reduceCtorEq, c58_l12, part3, fl1, fl2, fl3, fl4, fl5, fl6, a0, b0, f0, a1, b1, f1, a2, b2, f2, a3, b3, f3, a4, b4, f4, a5, b5]
    exact bad _ _ (by rintro ⟨ht, _⟩; simp only [towB] at ht; omega)
  have f5 : fw .i64 (1024 - c.t0 - c.t1 - c.t2 - c.t3 - c.t4 - c.t5) = 1024 - c.t0 - c.t1 - c.t2 - c.t3 - c.t4 - c.t5 := fwI (by omega) (by omega)
  simp only [go_sem, ↓reduceIte, ↓reduceDIte, zA, zM, zL, zE, zD, yA, yE, yL, yQ, yT, reduceCtorEq, c58_l12, part3, fl1, fl2, fl3, fl4, fl5, fl6, a0, b0, f0, a1, b1, f1, a2, b2, f2, a3, b3, f3, a4, b4, f4, a5, b5, f5]
  have ht : towB 1024 [c.t0, c.t1, c.t2, c.t3, c.t4, c.t5] := by simp only [towB, and_true]; omega
  by_cases c1 : 1 ≤ c.threads ∧ c.threads ≤ 64
  case neg =>
    simp only [go_sem, ↓reduceIte, ↓reduceDIte, zA, zM, zL, zE, zD, yA, yE, yL, yQ, yT, reduceCtorEq, h98, c1]
    exact bad _ _ (by rintro ⟨_, q1, q2, q3, q4, q5, q6, q7, q8, q9, q10⟩; omega)
  by_cases c2 : 1 ≤ c.slots ∧ c.slots ≤ 64
  case neg =>
    simp only [go_sem, ↓reduceIte, ↓reduceDIte, zA, zM, zL, zE, zD, yA, yE, yL, yQ, yT, reduceCtorEq, h98, c1, c2]
    exact bad _ _ (by rintro ⟨_, q1, q2, q3, q4, q5, q6, q7, q8, q9, q10⟩; omega)
  have c3 : ¬ c.engine < 1 := by omega
  have c4 : ¬ 3 < c.engine := by omega
  by_cases c5 : 1 ≤ c.buckets ∧ c.buckets ≤ 16
  case neg =>
    simp only [go_sem, ↓reduceIte, ↓reduceDIte, zA, zM, zL, zE, zD, yA, yE, yL, yQ, yT, reduceCtorEq, h98, c1, c2, c3, c4, hg, c5]
    exact bad _ _ (by rintro ⟨_, q1, q2, q3, q4, q5, q6, q7, q8, q9, q10⟩; exact c5 (q5 hg))
  simp only [go_sem, ↓reduceIte, ↓reduceDIte, zA, zM, zL, zE, zD, yA, yE, yL, yQ, yT, reduceCtorEq, h98, c1, c2, c3, c4, hg, c5]
  refine opt_by (h99 _ c.kind c.n v c.cuts (hv.keep fun b hb => (st _).old b (hlv b hb)) (fun a ha => Nat.lt_of_lt_of_le (hlv a ha) (st _).next)) fun v1 h1 p1 => ?_
  obtain ⟨e, rfl, he, st1⟩ := p1
  have stn := (st _).trans st1
  have g0 := st1.old h.next (by show h.next < h.next + 1; omega)
  simp only [go_sem, ↓reduceIte, ↓reduceDIte, zA, zM, zL, zE, zD, yA, yE, yL, yQ, yT, reduceCtorEq] at g0
  have bad2 : ∀ p : Prop, ¬ p → SaysE p h (.int .i64 2) h1 := fun p hp => ⟨2, rfl, by simp [hp], stn⟩
  by_cases d0 : e = 0
  case neg =>
    simp only [go_sem, ↓reduceIte, ↓reduceDIte, zA, zM, zL, zE, zD, yA, yE, yL, yQ, yT, reduceCtorEq, d0, g0, h98]
    exact bad2 _ (by rintro ⟨_, q1, q2, q3, q4, q5, q6, q7, q8, q9, q10⟩; exact d0 (he.2 q7))
  have dd := he.1 d0
  by_cases d1 : 1 ≤ c.locks ∧ c.locks ≤ 16
  case neg =>
    simp only [go_sem, ↓reduceIte, ↓reduceDIte, zA, zM, zL, zE, zD, yA, yE, yL, yQ, yT, reduceCtorEq, g0, h98, d0, d1]
    exact bad2 _ (by rintro ⟨_, q1, q2, q3, q4, q5, q6, q7, q8, q9, q10, q11⟩; omega)
  by_cases d2 : 1 ≤ c.tries ∧ c.tries ≤ 255
  case neg =>
    simp only [go_sem, ↓reduceIte, ↓reduceDIte, zA, zM, zL, zE, zD, yA, yE, yL, yQ, yT, reduceCtorEq, g0, h98, d0, d1, d2]
    exact bad2 _ (by rintro ⟨_, q1, q2, q3, q4, q5, q6, q7, q8, q9, q10, q11⟩; omega)
  by_cases d3 : 0 ≤ c.batch ∧ c.batch ≤ 64
  case neg =>
    simp only [go_sem, ↓reduceIte, ↓reduceDIte, zA, zM, zL, zE, zD, yA, yE, yL, yQ, yT, reduceCtorEq, g0, h98, d0, d1, d2, d3]
    exact bad2 _ (by rintro ⟨_, q1, q2, q3, q4, q5, q6, q7, q8, q9, q10, q11⟩; omega)
  simp only [go_sem, ↓reduceIte, ↓reduceDIte, zA, zM, zL, zE, zD, yA, yE, yL, yQ, yT, reduceCtorEq, g0, h98, d0, d1, d2, d3]
  exact ⟨0, rfl, by simp only [true_iff]; exact ⟨ht, c1, c2, by omega, by omega, by intro _; exact c5, by intro q; exact absurd hg q, dd, d1, d2, d3.1, d3.2⟩, stn⟩

theorem w58 (P : Program) [PT P] {call : CallE} (h98 : ∀ h n a b, call 98 [.int .i64 n, .int .i64 a, .int .i64 b] h = some (.bool (decide (a ≤ n ∧ n ≤ b)), h))
    (h99 : ∀ h k n v (l : List Int), RdL none 1 h v (l.map fun x : Int => AV.int .u64 x) → (∀ a, own v = some a → a < h.next) → ∃ v' h', call 99 [.agg [.int .u8 k, .int .i64 n, v]] h = some (v', h') ∧ SaysE (domB k n l) h v' h')
    {h : H} {c : CfgT} {v : AV} (hv : RdL none 1 h v (c.cuts.map fun x : Int => AV.int .u64 x)) (hlv : ∀ a, own v = some a → a < h.next) :
    WF P call c58 [.agg (cfgC c v)] h (SaysE (layB c) h) := by
  by_cases hg : c.engine = 3
  · exact w58_1 P h98 h99 hv hlv hg
  · exact w58_0 P h98 h99 hv hlv hg
end
end Go.Proofs.YtldmhpdjlgoenaaGreatDoor.BN
