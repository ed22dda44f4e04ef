/-
  The operation without the fields that its kind does not use.
-/
import Derived.Test.YtiokmoepojdfmaaDoorClI
set_option linter.unusedVariables false
set_option linter.unusedSimpArgs false
namespace Go.Proofs.YtiokmoepojdfmaaDoor
open Go.Proofs.YtiokmoepojdfmaaDoor.Eo
open Nat renaming reduceAdd → zA, reduceMul → zM, reduceLT → zL, reduceEqDiff → zE, reduceLeDiff → zD
open Int renaming reduceAdd → yA, reduceLE → yE, reduceLT → yL, reduceEq → yQ, reduceToNat → yT
open Go.Lib (decDigits itoa)
noncomputable section
/-! 13: leapfrog/text.used -/
@[go_sem] def c13_s0 : List SQ := [⟨some 1, none, .n (.box 24 (.t 0))⟩, ⟨some 2, none, .n (.new 24 [.int .u8 0, .int .u64 0, .int .u64 0, .int .u64 0, .int .u64 0, .int .u64 0, .int .u64 0])⟩]
@[go_sem] def c13_s1 : List SQ := [⟨some 7, none, .p (.fadr 0 (.t 1))⟩, ⟨some 8, none, .r (.ld none (.t 7))⟩, ⟨some 9, none, .p (.build [.int .u8 0, .int .u64 0, .int .u64 0, .int .u64 0, .int .u64 0, .int .u64 0, .int .u64 0] [(0, 1, (.t 8))])⟩, ⟨some 3, none, .n (.new 24 [.int .u8 0, .int .u64 0, .int .u64 0, .int .u64 0, .int .u64 0, .int .u64 0, .int .u64 0])⟩, ⟨none, none, .e (.st 7 (.t 3) (.t 9))⟩]
@[go_sem] def c13_s2 : List SQ := [⟨some 10, none, .cv (.c (.fn (.func 15) [] [])) [(.t 1)]⟩, ⟨some 11, none, .cv (.c (.fn (.func 15) [] [])) [(.t 3)]⟩, ⟨some 4, none, .p (.mv (.t 10))⟩, ⟨some 5, none, .p (.mv (.t 11))⟩]
@[go_sem] def c13_s3 : List SQ := [⟨some 12, none, .p (.mv (.t 4))⟩, ⟨some 13, none, .p (.lenv (.t 12))⟩, ⟨some 14, none, .p (.mv (.c (.int .i64 0)))⟩]
@[go_sem] def c13_s4 : List SQ := [⟨some 15, none, .p (.bin .lss 3 false false (.t 14) (.t 13))⟩]
@[go_sem] def c13_s5 : List SQ := [⟨some 16, none, .p (.mv (.t 14))⟩, ⟨some 6, none, .p (.mv (.t 16))⟩]
@[go_sem] def c13_p6 : List (List DQ × Option DQ) := [([⟨0, [(5, none)], none, .p (.mv (.t 5))⟩, ⟨1, [(6, none)], none, .p (.mv (.t 6))⟩, ⟨2, [(17, (some 0)), (18, (some 1))], none, .p (.iadrS 1 (.t 17) (.t 18))⟩, ⟨3, [(19, (some 2))], none, .r (.ld none (.t 19))⟩, ⟨4, [(4, none)], none, .p (.mv (.t 4))⟩, ⟨5, [(6, none)], none, .p (.mv (.t 6))⟩, ⟨6, [(21, (some 4)), (22, (some 5))], none, .p (.iadrS 1 (.t 21) (.t 22))⟩, ⟨7, [(23, (some 6))], none, .r (.ld none (.t 23))⟩, ⟨8, [(24, (some 7))], none, .p (.nilck (.t 24))⟩, ⟨9, [(25, (some 8))], none, .r (.ld none (.t 25))⟩, ⟨10, [(20, (some 3))], none, .p (.nilck (.t 20))⟩], (some ⟨11, [(27, (some 10)), (26, (some 9))], none, .e (.st 1 (.t 27) (.t 26))⟩)), ([], none)]
@[go_sem] def c13_s7 : List SQ := [⟨some 28, none, .p (.bin .add 3 false true (.t 14) (.c (.int .i64 1)))⟩, ⟨some 14, none, .p (.mv (.t 28))⟩]
def c13_l8 : CC := (.seq (.ops c13_s4) (.seq (.cond (.t 15) .skip (.exit 0)) (.seq (.block 1 (.seq (.ops c13_s5) (.drw ⟨c13_p6, [(0, 17), (1, 18), (2, 19), (3, 20), (4, 21), (5, 22), (6, 23), (7, 24), (8, 25), (9, 26), (10, 27)], []⟩))) (.ops c13_s7))))
@[go_sem] def c13_s9 : List SQ := [⟨some 29, none, .r (.ld (some 7) (.t 3))⟩, ⟨none, none, .e (.st 7 (.t 2) (.t 29))⟩]
@[go_sem] def c13 : CF := ⟨1, (.seq (.ops c13_s0) (.seq (.ops c13_s1) (.seq (.ops c13_s2) (.seq (.seq (.ops c13_s3) (.block 0 (.loop c13_l8))) (.seq (.ops c13_s9) .ret))))), [(.cell 2 (some 7))]⟩
theorem c13_eq : cCF Tryd.prog 13 1 = some c13 := by kernel_rfl

theorem useL_cases (k : Int) : useL k = [0] ∨ useL k = [0, 2, 5] ∨ useL k = [0, 3, 2] ∨ useL k = [0, 1, 4, 5] ∨ useL k = [0, 1] ∨ useL k = [] := by
  rcases kind_cases k with rfl | rfl | rfl | rfl | rfl | rfl | rfl | rfl | rfl | rfl | rfl | rfl | rfl | rfl | rfl | ⟨n1, n2, n3, n4, n5, n6, n7, n8, n9, n10, n11, n12, n13, n14, n15⟩
  · exact .inr (.inr (.inr (.inr (.inr (rfl)))))
  · exact .inr (.inr (.inr (.inr (.inr (rfl)))))
  · exact .inl rfl
  · exact .inr (.inl rfl)
  · exact .inr (.inl rfl)
  · exact .inl rfl
  · exact .inr (.inr (.inl rfl))
  · exact .inr (.inr (.inr (.inl rfl)))
  · exact .inr (.inr (.inr (.inr (.inl rfl))))
  · exact .inr (.inr (.inr (.inr (.inr (rfl)))))
  · exact .inr (.inr (.inr (.inr (.inl rfl))))
  · exact .inr (.inr (.inr (.inr (.inr (rfl)))))
  · exact .inl rfl
  · exact .inr (.inr (.inr (.inr (.inr (rfl)))))
  · exact .inr (.inr (.inr (.inr (.inr (rfl)))))
  · have e : useL k = [] := by unfold useL; rw [if_neg n3, if_neg n4, if_neg n5, if_neg n6, if_neg n7, if_neg n8, if_neg n9, if_neg n11, if_neg n13]
    exact .inr (.inr (.inr (.inr (.inr e))))
def keepF (x : OpT) (i : Nat) : Int := if i ∈ useL x.1 then fld x i else 0
def usedT (x : OpT) : OpT := (x.1, keepF x 0, keepF x 1, keepF x 2, keepF x 3, keepF x 4, keepF x 5)
set_option maxRecDepth 8000 in
theorem w13 (P : Program) {call : CallE} (h15 : ∀ h A (x : OpT), h.t.get A = some (.row (putList 0 (opC x) T.e) 7 24) → ∃ v h', call 15 [.ptr A 0] h = some (v, h') ∧ PostF A (useL x.1) h v h') {h : H} {x : OpT} : WF P call c13 [.agg (opC x)] h fun v h' => v = .agg (opC (usedT x)) ∧ StepN h h' := by
  simp only [go_sem, ↓reduceIte, ↓reduceDIte, zA, zM, zL, zE, zD, yA, yE, yL, yQ, yT, reduceCtorEq, c13]
  refine opt_by (h15 _ h.next x (by simp [go_sem])) fun v1 h1 p1 => ?_
  have le1 : h.next + 3 ≤ h1.next := p1.st.next
  have g0 := p1.st.old h.next (by show h.next < h.next + 3; omega)
  have g1 := p1.st.old (h.next + 1) (by show h.next + 1 < h.next + 3; omega)
  have g2 := p1.st.old (h.next + 2) (by show h.next + 2 < h.next + 3; omega)
  simp only [go_sem, ↓reduceIte, ↓reduceDIte, zA, zM, zL, zE, zD, yA, yE, yL, yQ, yT, reduceCtorEq] at g0 g1 g2
  simp only [go_sem, ↓reduceIte, ↓reduceDIte, zA, zM, zL, zE, zD, yA, yE, yL, yQ, yT, reduceCtorEq]
  refine opt_by (h15 h1 (h.next + 2) (x.1, 0, 0, 0, 0, 0, 0) (by rw [g2]; unfold opC; rfl)) fun v2 h2 p2 => ?_
  have le2 : h1.next ≤ h2.next := p2.st.next
  have q0 := (p2.st.old h.next (by omega)).trans g0
  have q1 := (p2.st.old (h.next + 1) (by omega)).trans g1
  have q2 := (p2.st.old (h.next + 2) (by omega)).trans g2
  have o1 := Own.grow p1.ow p2.st
  have o2 := p2.ow
  have lo1 : ∀ b, own v1 = some b → h.next + 3 ≤ b := p1.lo
  have lo2 := p2.lo
  have old : ∀ b, b < h.next → h2.t.get b = h.t.get b := fun b hb => by
    rw [p2.st.old b (by omega), p1.st.old b (by show b < h.next + 3; omega)]
    have e1 : ¬ b = h.next := by omega
    have e2 : ¬ b = h.next + 1 := by omega
    have e3 : ¬ b = h.next + 2 := by omega
    simp only [go_sem, ↓reduceIte, ↓reduceDIte, zA, zM, zL, zE, zD, yA, yE, yL, yQ, yT, reduceCtorEq, e1, e2, e3]
  have fin : ∀ T : T AO, (∀ b, b < h.next → T.get b = h2.t.get b) → StepN h ⟨h2.next, T⟩ := fun T hT => ⟨by show h.next ≤ h2.next; omega, fun b hb => (hT b hb).trans (old b hb)⟩
  have hu : ∀ L, useL x.1 = L → usedT x = (x.1, (if 0 ∈ L then fld x 0 else 0), (if 1 ∈ L then fld x 1 else 0), (if 2 ∈ L then fld x 2 else 0), (if 3 ∈ L then fld x 3 else 0), (if 4 ∈ L then fld x 4 else 0), (if 5 ∈ L then fld x 5 else 0)) := fun L e => by
    unfold usedT keepF
    rw [e]
  clear p1 p2
  dsimp only at o2
  rcases useL_cases x.1 with e | e | e | e | e | e
  · have hu := hu _ e
    rw [e] at o1 o2
    simp only [List.map_cons, List.map_nil] at o1 o2
    cases o1 with
    | sl a len cs cap hc h0 hcl ha hg =>
    cases o2 with
    | sl b len' cs' cap' hc' h0' hcl' hb hg' =>
    have na : ¬ a = h.next + 2 := by have := lo1 a rfl; omega
    have nb : ¬ b = h.next + 2 := by have := lo2 b rfl; omega
    simp only [go_sem, ↓reduceIte, ↓reduceDIte, zA, zM, zL, zE, zD, yA, yE, yL, yQ, yT, reduceCtorEq]
    refine unroll 2 ?_
    simp only [go_sem, ↓reduceIte, ↓reduceDIte, zA, zM, zL, zE, zD, yA, yE, yL, yQ, yT, reduceCtorEq, c13_l8, hg, hg', q0, q1, q2, na, nb, fI1, fI2, fI3, fI4, fI5]
    refine ⟨?_, fin _ fun b hb => ?_⟩
    · rw [hu]
      rfl
    · have e1 : ¬ b = h.next + 1 := by omega
      have e2 : ¬ b = h.next + 2 := by omega
      simp only [go_sem, ↓reduceIte, ↓reduceDIte, zA, zM, zL, zE, zD, yA, yE, yL, yQ, yT, reduceCtorEq, e1, e2]
  · have hu := hu _ e
    rw [e] at o1 o2
    simp only [List.map_cons, List.map_nil] at o1 o2
    cases o1 with
    | sl a len cs cap hc h0 hcl ha hg =>
    cases o2 with
    | sl b len' cs' cap' hc' h0' hcl' hb hg' =>
    have na : ¬ a = h.next + 2 := by have := lo1 a rfl; omega
    have nb : ¬ b = h.next + 2 := by have := lo2 b rfl; omega
    simp only [go_sem, ↓reduceIte, ↓reduceDIte, zA, zM, zL, zE, zD, yA, yE, yL, yQ, yT, reduceCtorEq]
    refine unroll 4 ?_
    simp only [go_sem, ↓reduceIte, ↓reduceDIte, zA, zM, zL, zE, zD, yA, yE, yL, yQ, yT, reduceCtorEq, c13_l8, hg, hg', q0, q1, q2, na, nb, fI1, fI2, fI3, fI4, fI5]
    refine ⟨?_, fin _ fun b hb => ?_⟩
    · rw [hu]
      rfl
    · have e1 : ¬ b = h.next + 1 := by omega
      have e2 : ¬ b = h.next + 2 := by omega
      simp only [go_sem, ↓reduceIte, ↓reduceDIte, zA, zM, zL, zE, zD, yA, yE, yL, yQ, yT, reduceCtorEq, e1, e2]
  · have hu := hu _ e
    rw [e] at o1 o2
    simp only [List.map_cons, List.map_nil] at o1 o2
    cases o1 with
    | sl a len cs cap hc h0 hcl ha hg =>
    cases o2 with
    | sl b len' cs' cap' hc' h0' hcl' hb hg' =>
    have na : ¬ a = h.next + 2 := by have := lo1 a rfl; omega
    have nb : ¬ b = h.next + 2 := by have := lo2 b rfl; omega
    simp only [go_sem, ↓reduceIte, ↓reduceDIte, zA, zM, zL, zE, zD, yA, yE, yL, yQ, yT, reduceCtorEq]
    refine unroll 4 ?_
    simp only [go_sem, ↓reduceIte, ↓reduceDIte, zA, zM, zL, zE, zD, yA, yE, yL, yQ, yT, reduceCtorEq, c13_l8, hg, hg', q0, q1, q2, na, nb, fI1, fI2, fI3, fI4, fI5]
    refine ⟨?_, fin _ fun b hb => ?_⟩
    · rw [hu]
      rfl
    · have e1 : ¬ b = h.next + 1 := by omega
      have e2 : ¬ b = h.next + 2 := by omega
      simp only [go_sem, ↓reduceIte, ↓reduceDIte, zA, zM, zL, zE, zD, yA, yE, yL, yQ, yT, reduceCtorEq, e1, e2]
  · have hu := hu _ e
    rw [e] at o1 o2
    simp only [List.map_cons, List.map_nil] at o1 o2
    cases o1 with
    | sl a len cs cap hc h0 hcl ha hg =>
    cases o2 with
    | sl b len' cs' cap' hc' h0' hcl' hb hg' =>
    have na : ¬ a = h.next + 2 := by have := lo1 a rfl; omega
    have nb : ¬ b = h.next + 2 := by have := lo2 b rfl; omega
    simp only [go_sem, ↓reduceIte, ↓reduceDIte, zA, zM, zL, zE, zD, yA, yE, yL, yQ, yT, reduceCtorEq]
    refine unroll 5 ?_
    simp only [go_sem, ↓reduceIte, ↓reduceDIte, zA, zM, zL, zE, zD, yA, yE, yL, yQ, yT, reduceCtorEq, c13_l8, hg, hg', q0, q1, q2, na, nb, fI1, fI2, fI3, fI4, fI5]
    refine ⟨?_, fin _ fun b hb => ?_⟩
    · rw [hu]
      rfl
    · have e1 : ¬ b = h.next + 1 := by omega
      have e2 : ¬ b = h.next + 2 := by omega
      simp only [go_sem, ↓reduceIte, ↓reduceDIte, zA, zM, zL, zE, zD, yA, yE, yL, yQ, yT, reduceCtorEq, e1, e2]
  · have hu := hu _ e
    rw [e] at o1 o2
    simp only [List.map_cons, List.map_nil] at o1 o2
    cases o1 with
    | sl a len cs cap hc h0 hcl ha hg =>
    cases o2 with
    | sl b len' cs' cap' hc' h0' hcl' hb hg' =>
    have na : ¬ a = h.next + 2 := by have := lo1 a rfl; omega
    have nb : ¬ b = h.next + 2 := by have := lo2 b rfl; omega
    simp only [go_sem, ↓reduceIte, ↓reduceDIte, zA, zM, zL, zE, zD, yA, yE, yL, yQ, yT, reduceCtorEq]
    refine unroll 3 ?_
    simp only [go_sem, ↓reduceIte, ↓reduceDIte, zA, zM, zL, zE, zD, yA, yE, yL, yQ, yT, reduceCtorEq, c13_l8, hg, hg', q0, q1, q2, na, nb, fI1, fI2, fI3, fI4, fI5]
    refine ⟨?_, fin _ fun b hb => ?_⟩
    · rw [hu]
      rfl
    · have e1 : ¬ b = h.next + 1 := by omega
      have e2 : ¬ b = h.next + 2 := by omega
      simp only [go_sem, ↓reduceIte, ↓reduceDIte, zA, zM, zL, zE, zD, yA, yE, yL, yQ, yT, reduceCtorEq, e1, e2]
  · have hu := hu _ e
    rw [e] at o1 o2
    cases o1 with
    | sl _ _ _ _ _ h0 => exact absurd h0 (by decide)
    | nil =>
    cases o2 with
    | sl _ _ _ _ _ h0 => exact absurd h0 (by decide)
    | nil =>
    simp only [go_sem, ↓reduceIte, ↓reduceDIte, zA, zM, zL, zE, zD, yA, yE, yL, yQ, yT, reduceCtorEq]
    refine unroll 1 ?_
    simp only [go_sem, ↓reduceIte, ↓reduceDIte, zA, zM, zL, zE, zD, yA, yE, yL, yQ, yT, reduceCtorEq, c13_l8, q0, q1, q2]
    refine ⟨?_, fin _ fun b hb => ?_⟩
    · rw [hu]
      rfl
    · have e1 : ¬ b = h.next + 1 := by omega
      have e2 : ¬ b = h.next + 2 := by omega
      simp only [go_sem, ↓reduceIte, ↓reduceDIte, zA, zM, zL, zE, zD, yA, yE, yL, yQ, yT, reduceCtorEq, e1, e2]
end
end Go.Proofs.YtiokmoepojdfmaaDoor
