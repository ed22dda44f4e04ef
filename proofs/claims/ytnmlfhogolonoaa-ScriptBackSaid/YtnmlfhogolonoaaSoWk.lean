/-
  A fixed script: known.
-/
import Derived.Test.YtnmlfhogolonoaaSoV
import Derived.Below
set_option linter.unusedVariables false
set_option linter.unusedSimpArgs false
namespace Go.Proofs.Ytnmlfhogolonoaa
open Go.Proofs.Ytnmlfhogolonoaa.Eo Go.RowKit
open Nat renaming reduceAdd → zA, reduceMul → zM, reduceLT → zL, reduceEqDiff → zE, reduceLeDiff → zD
open Int renaming reduceAdd → yA, reduceLE → yE, reduceLT → yL, reduceEq → yQ, reduceToNat → yT
noncomputable section
/-! 11: leapfrog/leapfroglaw43.known -/
@[go_sem] def c11_s0 : List SQ := [⟨some 0, none, .p (.mv (.c (.bool false)))⟩]
@[go_sem] def c11_s1 : List SQ := [⟨some 4, none, .n (.buildS 5 1 12 [.int .u8 0, .int .u8 0, .int .u8 0, .int .u8 0, .int .u8 0, .int .u8 0, .int .u8 0, .int .u8 0, .int .u8 0, .int .u8 0, .int .u8 0, .int .u8 0] [(0, 1, (.c (.int .u8 1))), (1, 1, (.c (.int .u8 0))), (2, 1, (.c (.int .u8 2))), (3, 1, (.c (.int .u8 3))), (4, 1, (.c (.int .u8 1))), (5, 1, (.c (.int .u8 1))), (6, 1, (.c (.int .u8 0))), (7, 1, (.c (.int .u8 4))), (8, 1, (.c (.int .u8 2))), (9, 1, (.c (.int .u8 1))), (10, 1, (.c (.int .u8 1))), (11, 1, (.c (.int .u8 2)))])⟩, ⟨some 5, none, .s (.b2s (.t 4))⟩, ⟨some 6, none, .cv (.c (.fn (.func 18) [] [])) [(.t 5)]⟩, ⟨some 1, none, .n (.new 31 [.int .i64 0, .int .i64 0, .int .u8 0, .int .i64 0, .int .u8 0, .int .i64 0, .nils, .int .i64 0, .int .i64 0, .int .i64 0, .int .i64 0, .int .i64 0, .int .i64 0, .int .i64 0, .int .i64 0, .int .i64 0, .nils, .nils])⟩, ⟨none, none, .e (.st 18 (.t 1) (.t 6))⟩]
@[go_sem] def c11_s2 : List SQ := [⟨some 8, none, .r (.ld (some 18) (.t 1))⟩, ⟨some 9, none, .cv (.c (.fn (.func 13) [] [])) [(.t 8)]⟩, ⟨some 7, none, .p (.mv (.t 9))⟩, ⟨some 10, none, .p (.extr (.t 7) 0)⟩, ⟨some 11, none, .p (.extr (.t 7) 1)⟩, ⟨some 2, none, .p (.mv (.t 10))⟩, ⟨some 3, none, .p (.mv (.t 11))⟩]
@[go_sem] def c11_s3 : List SQ := [⟨some 12, none, .p (.fadr 0 (.t 1))⟩, ⟨some 13, none, .p (.fadr 0 (.t 12))⟩, ⟨some 14, none, .r (.ld none (.t 13))⟩, ⟨some 15, none, .p (.bin .eql 3 false true (.t 14) (.c (.int .i64 2)))⟩, ⟨some 16, none, .p (.mv (.t 15))⟩, ⟨some 17, some (16, true), .p (.fadr 0 (.t 1))⟩, ⟨some 18, some (16, true), .p (.fadr 2 (.t 17))⟩, ⟨some 19, some (16, true), .r (.ld none (.t 18))⟩, ⟨some 20, some (16, true), .p (.bin .eql 5 false true (.t 19) (.c (.int .u8 3)))⟩, ⟨some 21, none, .p (.pick (.t 16) (.t 20) (.c (.bool false)))⟩, ⟨some 22, none, .p (.mv (.t 21))⟩, ⟨some 23, some (22, true), .p (.fadr 0 (.t 1))⟩, ⟨some 24, some (22, true), .p (.fadr 3 (.t 23))⟩, ⟨some 25, some (22, true), .r (.ld none (.t 24))⟩, ⟨some 26, some (22, true), .p (.bin .eql 3 false true (.t 25) (.c (.int .i64 4)))⟩, ⟨some 27, none, .p (.pick (.t 22) (.t 26) (.c (.bool false)))⟩, ⟨some 28, none, .p (.mv (.t 27))⟩, ⟨some 29, some (28, true), .p (.mv (.t 2))⟩, ⟨some 30, some (28, true), .p (.lens (.t 29))⟩, ⟨some 31, some (28, true), .p (.bin .gtr 3 false true (.t 30) (.c (.int .i64 10)))⟩, ⟨some 32, none, .p (.pick (.t 28) (.t 31) (.c (.bool false)))⟩, ⟨some 33, none, .p (.mv (.t 32))⟩, ⟨some 34, some (33, true), .p (.mv (.t 3))⟩, ⟨some 35, some (33, true), .p (.bin .eql 35 false true (.t 34) (.c (.int .i64 0)))⟩, ⟨some 36, none, .p (.pick (.t 33) (.t 35) (.c (.bool false)))⟩, ⟨some 0, none, .p (.mv (.t 36))⟩]
@[go_sem] def c11 : CF := ⟨0, (.seq (.ops c11_s0) (.seq (.ops c11_s1) (.seq (.ops c11_s2) (.seq (.ops c11_s3) .ret)))), [.tmp 0]⟩
theorem c11_eq : cCF Try.prog 11 0 = some c11 := by kernel_rfl

def kL : List Int := [1, 0, 2, 3, 1, 1, 0, 4, 2, 1, 1, 2]
theorem kS_th : (cfgS (strOf kL)).1.threads = 2 := by kernel_rfl
theorem kS_en : (cfgS (strOf kL)).1.engine = 3 := by kernel_rfl
theorem kS_bu : (cfgS (strOf kL)).1.buckets = 4 := by kernel_rfl
set_option maxRecDepth 4000 in
theorem w11 (n : Nat) {h : H} : WF Try.prog (cW (n + 5)) c11 [] h fun v h' => v = .bool true ∧ StepN h h' := by
  have st0 := StepN.new h (.row (putList 0 [.int .u8 1, .int .u8 0, .int .u8 2, .int .u8 3, .int .u8 1, .int .u8 1, .int .u8 0, .int .u8 4, .int .u8 2, .int .u8 1, .int .u8 1, .int .u8 2] T.e) 12 5)
  have ok : Own 1 5 ⟨h.next + 1, h.t.set h.next (.row (putList 0 [.int .u8 1, .int .u8 0, .int .u8 2, .int .u8 3, .int .u8 1, .int .u8 1, .int .u8 0, .int .u8 4, .int .u8 2, .int .u8 1, .int .u8 1, .int .u8 2] T.e) 12 5)⟩ (.sl h.next 0 12 1 (some 12)) kL.length (byV kL) := .sl _ _ _ _ (.inr rfl) (by decide) rfl (Nat.lt_succ_self _) (by simp only [go_sem, ↓reduceIte, ↓reduceDIte, zA, zM, zL, zE, zD, yA, yE, yL, yQ, yT, reduceCtorEq]; rfl)
  have hb : ∀ tm : T AV, tm.get 4 = some (.sl h.next 0 12 1 (some 12)) → evS tm (h.t.set h.next (.row (putList 0 [.int .u8 1, .int .u8 0, .int .u8 2, .int .u8 3, .int .u8 1, .int .u8 1, .int .u8 0, .int .u8 4, .int .u8 2, .int .u8 1, .int .u8 1, .int .u8 2] T.e) 12 5)).get (.b2s (.t 4)) = some (.str (strOf kL)) := fun tm ht => b2s_own (l := kL) ok ht
  have k1 := kS_th
  have k2 := kS_en
  have k3 := kS_bu
  have hsz : (strOf kL).size = 12 := strOf_len kL
  generalize strOf kL = s0 at hb k1 k2 k3 hsz
  simp only [go_sem, ↓reduceIte, ↓reduceDIte, zA, zM, zL, zE, zD, yA, yE, yL, yQ, yT, reduceCtorEq, c11, hb]
  refine opt_by (H18 (n + 1) _ s0 (by omega)) fun v1 h1 p1 => ?_
  obtain ⟨c, r, ps, r', e2, e3, is1, st1⟩ := Post18.isS p1
  have sok := scr_ok (by omega) e2 e3
  rw [e2] at k1 k2 k3
  simp only at k1 k2 k3
  generalize picksS c.threads r' = ks at is1 sok
  obtain ⟨cv, pv, kv, rfl, i1, i2, i3, i4, i5⟩ := id is1
  have ov := i1.one
  have opa := i3.one
  have oka := i4.one
  simp only [go_sem, ↓reduceIte, ↓reduceDIte, zA, zM, zL, zE, zD, yA, yE, yL, yQ, yT, reduceCtorEq, ov, opa, oka]
  have st2 := StepN.new h1 (.row (putList 0 (cfgC c cv ++ [pv, kv]) T.e) 18 31)
  refine opt_by (H13 n _ _ c ps ks (is1.keep st2) sok.op sok.cu) fun v3 h3 p3 => ?_
  obtain ⟨st3, z, e, rfl, hz, _⟩ := p3
  have hz3 := hz sok.chk
  clear hz
  have hz2 : encZ (encS c ps ks) = (strOf (encS c ps ks), 0) := if_neg (by have := sok.len; omega)
  rw [hz2] at hz3
  obtain ⟨rfl, rfl⟩ := hz3
  have gX := st3.old h1.next (by show h1.next < h1.next + 1; omega)
  simp only [go_sem, ↓reduceIte, ↓reduceDIte, zA, zM, zL, zE, zD, yA, yE, yL, yQ, yT, reduceCtorEq] at gX
  have hlen : (10 : Int) < ((encS c ps ks).length : Int) := by have := sok.ge; omega
  simp only [go_sem, ↓reduceIte, ↓reduceDIte, zA, zM, zL, zE, zD, yA, yE, yL, yQ, yT, reduceCtorEq, gX, cfgC, k1, k2, k3, strOf_len, hlen]
  exact ((st0.trans st1).trans st2).trans st3
theorem H11 (n : Nat) : ∀ h, ∃ v h', cW (n + 6) 11 [] h = some (v, h') ∧ (v = .bool true ∧ StepN h h') := fun h => callW_of (by kernel_rfl) (by kernel_rfl) c11_eq (w11 n)
end
end Go.Proofs.Ytnmlfhogolonoaa
