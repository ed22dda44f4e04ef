/-
  The fields of an operation.
-/
import Derived.Test.YtiokmoepojdfmaaDoorClG
set_option linter.unusedVariables false
set_option linter.unusedSimpArgs false
namespace Go.Proofs.YtiokmoepojdfmaaDoor
open Go.Proofs.YtiokmoepojdfmaaDoor.Eo
open Nat renaming reduceAdd → zA, reduceMul → zM, reduceLT → zL, reduceEqDiff → zE, reduceLeDiff → zD
open Int renaming reduceAdd → yA, reduceLE → yE, reduceLT → yL, reduceEq → yQ, reduceToNat → yT
open Go.Lib (decDigits itoa)
noncomputable section
structure PostF (A : Nat) (l : List Nat) (h : H) (v : AV) (h' : H) : Prop where
  st : StepN h h'
  ow : Own 1 45 h' v l.length (l.map fun i => AV.ptr A (i + 1))
  lo : ∀ b, own v = some b → h.next ≤ b
structure PostO (x : OpT) (l : List Nat) (h : H) (v : AV) (h' : H) : Prop where
  st : StepN h h'
  ow : Own 1 22 h' v l.length ((l.map (fld x)).map (AV.int .u64))
  lo : ∀ b, own v = some b → h.next ≤ b
theorem w15 (P : Program) {call : CallE} {h : H} {A : Nat} {x : OpT} (gA : h.t.get A = some (.row (putList 0 (opC x) T.e) 7 24)) : WF P call c15 [.ptr A 0] h (PostF A (useL x.1) h) := by
  obtain ⟨k, a, b, c, d, e, f⟩ := x
  unfold opC at gA
  show WF P call c15 [.ptr A 0] h (PostF A (useL k) h)
  dsimp only at gA
  rcases kind_cases k with rfl | rfl | rfl | rfl | rfl | rfl | rfl | rfl | rfl | rfl | rfl | rfl | rfl | rfl | rfl | ⟨n1, n2, n3, n4, n5, n6, n7, n8, n9, n10, n11, n12, n13, n14, n15⟩
  · simp only [go_sem, ↓reduceIte, ↓reduceDIte, zA, zM, zL, zE, zD, yA, yE, yL, yQ, yT, reduceCtorEq, c15, gA]
    exact ⟨StepN.refl _, .nil, fun b hb => by simp [own] at hb⟩
  · simp only [go_sem, ↓reduceIte, ↓reduceDIte, zA, zM, zL, zE, zD, yA, yE, yL, yQ, yT, reduceCtorEq, c15, gA]
    exact ⟨StepN.refl _, .nil, fun b hb => by simp [own] at hb⟩
  · simp only [go_sem, ↓reduceIte, ↓reduceDIte, zA, zM, zL, zE, zD, yA, yE, yL, yQ, yT, reduceCtorEq, c15, gA]
    show PostF A [0] h _ _
    exact ⟨StepN.new _ _, .sl _ _ _ _ (.inr rfl) (by decide) rfl (Nat.lt_succ_self _) (by simp only [go_sem, ↓reduceIte, ↓reduceDIte, zA, zM, zL, zE, zD, yA, yE, yL, yQ, yT, reduceCtorEq]; rfl), fun b hb => by simp only [own, Option.some.injEq] at hb; omega⟩
  · simp only [go_sem, ↓reduceIte, ↓reduceDIte, zA, zM, zL, zE, zD, yA, yE, yL, yQ, yT, reduceCtorEq, c15, gA]
    show PostF A [0, 2, 5] h _ _
    exact ⟨StepN.new _ _, .sl _ _ _ _ (.inr rfl) (by decide) rfl (Nat.lt_succ_self _) (by simp only [go_sem, ↓reduceIte, ↓reduceDIte, zA, zM, zL, zE, zD, yA, yE, yL, yQ, yT, reduceCtorEq]; rfl), fun b hb => by simp only [own, Option.some.injEq] at hb; omega⟩
  · simp only [go_sem, ↓reduceIte, ↓reduceDIte, zA, zM, zL, zE, zD, yA, yE, yL, yQ, yT, reduceCtorEq, c15, gA]
    show PostF A [0, 2, 5] h _ _
    exact ⟨StepN.new _ _, .sl _ _ _ _ (.inr rfl) (by decide) rfl (Nat.lt_succ_self _) (by simp only [go_sem, ↓reduceIte, ↓reduceDIte, zA, zM, zL, zE, zD, yA, yE, yL, yQ, yT, reduceCtorEq]; rfl), fun b hb => by simp only [own, Option.some.injEq] at hb; omega⟩
  · simp only [go_sem, ↓reduceIte, ↓reduceDIte, zA, zM, zL, zE, zD, yA, yE, yL, yQ, yT, reduceCtorEq, c15, gA]
    show PostF A [0] h _ _
    exact ⟨StepN.new _ _, .sl _ _ _ _ (.inr rfl) (by decide) rfl (Nat.lt_succ_self _) (by simp only [go_sem, ↓reduceIte, ↓reduceDIte, zA, zM, zL, zE, zD, yA, yE, yL, yQ, yT, reduceCtorEq]; rfl), fun b hb => by simp only [own, Option.some.injEq] at hb; omega⟩
  · simp only [go_sem, ↓reduceIte, ↓reduceDIte, zA, zM, zL, zE, zD, yA, yE, yL, yQ, yT, reduceCtorEq, c15, gA]
    show PostF A [0, 3, 2] h _ _
    exact ⟨StepN.new _ _, .sl _ _ _ _ (.inr rfl) (by decide) rfl (Nat.lt_succ_self _) (by simp only [go_sem, ↓reduceIte, ↓reduceDIte, zA, zM, zL, zE, zD, yA, yE, yL, yQ, yT, reduceCtorEq]; rfl), fun b hb => by simp only [own, Option.some.injEq] at hb; omega⟩
  · simp only [go_sem, ↓reduceIte, ↓reduceDIte, zA, zM, zL, zE, zD, yA, yE, yL, yQ, yT, reduceCtorEq, c15, gA]
    show PostF A [0, 1, 4, 5] h _ _
    exact ⟨StepN.new _ _, .sl _ _ _ _ (.inr rfl) (by decide) rfl (Nat.lt_succ_self _) (by simp only [go_sem, ↓reduceIte, ↓reduceDIte, zA, zM, zL, zE, zD, yA, yE, yL, yQ, yT, reduceCtorEq]; rfl), fun b hb => by simp only [own, Option.some.injEq] at hb; omega⟩
  · simp only [go_sem, ↓reduceIte, ↓reduceDIte, zA, zM, zL, zE, zD, yA, yE, yL, yQ, yT, reduceCtorEq, c15, gA]
    show PostF A [0, 1] h _ _
    exact ⟨StepN.new _ _, .sl _ _ _ _ (.inr rfl) (by decide) rfl (Nat.lt_succ_self _) (by simp only [go_sem, ↓reduceIte, ↓reduceDIte, zA, zM, zL, zE, zD, yA, yE, yL, yQ, yT, reduceCtorEq]; rfl), fun b hb => by simp only [own, Option.some.injEq] at hb; omega⟩
  · simp only [go_sem, ↓reduceIte, ↓reduceDIte, zA, zM, zL, zE, zD, yA, yE, yL, yQ, yT, reduceCtorEq, c15, gA]
    exact ⟨StepN.refl _, .nil, fun b hb => by simp [own] at hb⟩
  · simp only [go_sem, ↓reduceIte, ↓reduceDIte, zA, zM, zL, zE, zD, yA, yE, yL, yQ, yT, reduceCtorEq, c15, gA]
    show PostF A [0, 1] h _ _
    exact ⟨StepN.new _ _, .sl _ _ _ _ (.inr rfl) (by decide) rfl (Nat.lt_succ_self _) (by simp only [go_sem, ↓reduceIte, ↓reduceDIte, zA, zM, zL, zE, zD, yA, yE, yL, yQ, yT, reduceCtorEq]; rfl), fun b hb => by simp only [own, Option.some.injEq] at hb; omega⟩
  · simp only [go_sem, ↓reduceIte, ↓reduceDIte, zA, zM, zL, zE, zD, yA, yE, yL, yQ, yT, reduceCtorEq, c15, gA]
    exact ⟨StepN.refl _, .nil, fun b hb => by simp [own] at hb⟩
  · simp only [go_sem, ↓reduceIte, ↓reduceDIte, zA, zM, zL, zE, zD, yA, yE, yL, yQ, yT, reduceCtorEq, c15, gA]
    show PostF A [0] h _ _
    exact ⟨StepN.new _ _, .sl _ _ _ _ (.inr rfl) (by decide) rfl (Nat.lt_succ_self _) (by simp only [go_sem, ↓reduceIte, ↓reduceDIte, zA, zM, zL, zE, zD, yA, yE, yL, yQ, yT, reduceCtorEq]; rfl), fun b hb => by simp only [own, Option.some.injEq] at hb; omega⟩
  · simp only [go_sem, ↓reduceIte, ↓reduceDIte, zA, zM, zL, zE, zD, yA, yE, yL, yQ, yT, reduceCtorEq, c15, gA]
    exact ⟨StepN.refl _, .nil, fun b hb => by simp [own] at hb⟩
  · simp only [go_sem, ↓reduceIte, ↓reduceDIte, zA, zM, zL, zE, zD, yA, yE, yL, yQ, yT, reduceCtorEq, c15, gA]
    exact ⟨StepN.refl _, .nil, fun b hb => by simp [own] at hb⟩
  · simp only [go_sem, ↓reduceIte, ↓reduceDIte, zA, zM, zL, zE, zD, yA, yE, yL, yQ, yT, reduceCtorEq, c15, gA, n1, n2, n3, n4, n5, n6, n7, n8, n9, n10, n11, n12, n13, n14, n15]
    have e : useL k = [] := by unfold useL; rw [if_neg n3, if_neg n4, if_neg n5, if_neg n6, if_neg n7, if_neg n8, if_neg n9, if_neg n11, if_neg n13]
    rw [e]
    exact ⟨StepN.refl _, .nil, fun b hb => by simp [own] at hb⟩
theorem w23 (P : Program) {call : CallE} {h : H} {x : OpT} : WF P call c23 [.agg (opC x)] h (PostO x (useL x.1) h) := by
  obtain ⟨k, a, b, c, d, e, f⟩ := x
  have st2 : ∀ x y, StepN h ⟨h.next + 2, (h.t.set h.next x).set (h.next + 1) y⟩ := fun x y => ⟨Nat.le_add_right _ _, fun b hb => by
    have e1 : ¬ b = h.next := by omega
    have e2 : ¬ b = h.next + 1 := by omega
    simp only [go_sem, ↓reduceIte, ↓reduceDIte, zA, zM, zL, zE, zD, yA, yE, yL, yQ, yT, reduceCtorEq, e1, e2]⟩
  show WF P call c23 [.agg (opC (k, a, b, c, d, e, f))] h (PostO (k, a, b, c, d, e, f) (useL k) h)
  rcases kind_cases k with rfl | rfl | rfl | rfl | rfl | rfl | rfl | rfl | rfl | rfl | rfl | rfl | rfl | rfl | rfl | ⟨n1, n2, n3, n4, n5, n6, n7, n8, n9, n10, n11, n12, n13, n14, n15⟩
  · simp only [go_sem, ↓reduceIte, ↓reduceDIte, zA, zM, zL, zE, zD, yA, yE, yL, yQ, yT, reduceCtorEq, c23, opC]
    exact ⟨StepN.new _ _, .nil, fun b hb => by simp [own] at hb⟩
  · simp only [go_sem, ↓reduceIte, ↓reduceDIte, zA, zM, zL, zE, zD, yA, yE, yL, yQ, yT, reduceCtorEq, c23, opC]
    exact ⟨StepN.new _ _, .nil, fun b hb => by simp [own] at hb⟩
  · simp only [go_sem, ↓reduceIte, ↓reduceDIte, zA, zM, zL, zE, zD, yA, yE, yL, yQ, yT, reduceCtorEq, c23, opC]
    show PostO (3, a, b, c, d, e, f) [0] h _ _
    exact ⟨st2 _ _, .sl _ _ _ _ (.inr rfl) (by decide) rfl (Nat.lt_succ_self _) (by simp only [go_sem, ↓reduceIte, ↓reduceDIte, zA, zM, zL, zE, zD, yA, yE, yL, yQ, yT, reduceCtorEq]; rfl), fun b hb => by simp only [own, Option.some.injEq] at hb; omega⟩
  · simp only [go_sem, ↓reduceIte, ↓reduceDIte, zA, zM, zL, zE, zD, yA, yE, yL, yQ, yT, reduceCtorEq, c23, opC]
    show PostO (4, a, b, c, d, e, f) [0, 2, 5] h _ _
    exact ⟨st2 _ _, .sl _ _ _ _ (.inr rfl) (by decide) rfl (Nat.lt_succ_self _) (by simp only [go_sem, ↓reduceIte, ↓reduceDIte, zA, zM, zL, zE, zD, yA, yE, yL, yQ, yT, reduceCtorEq]; rfl), fun b hb => by simp only [own, Option.some.injEq] at hb; omega⟩
  · simp only [go_sem, ↓reduceIte, ↓reduceDIte, zA, zM, zL, zE, zD, yA, yE, yL, yQ, yT, reduceCtorEq, c23, opC]
    show PostO (5, a, b, c, d, e, f) [0, 2, 5] h _ _
    exact ⟨st2 _ _, .sl _ _ _ _ (.inr rfl) (by decide) rfl (Nat.lt_succ_self _) (by simp only [go_sem, ↓reduceIte, ↓reduceDIte, zA, zM, zL, zE, zD, yA, yE, yL, yQ, yT, reduceCtorEq]; rfl), fun b hb => by simp only [own, Option.some.injEq] at hb; omega⟩
  · simp only [go_sem, ↓reduceIte, ↓reduceDIte, zA, zM, zL, zE, zD, yA, yE, yL, yQ, yT, reduceCtorEq, c23, opC]
    show PostO (6, a, b, c, d, e, f) [0] h _ _
    exact ⟨st2 _ _, .sl _ _ _ _ (.inr rfl) (by decide) rfl (Nat.lt_succ_self _) (by simp only [go_sem, ↓reduceIte, ↓reduceDIte, zA, zM, zL, zE, zD, yA, yE, yL, yQ, yT, reduceCtorEq]; rfl), fun b hb => by simp only [own, Option.some.injEq] at hb; omega⟩
  · simp only [go_sem, ↓reduceIte, ↓reduceDIte, zA, zM, zL, zE, zD, yA, yE, yL, yQ, yT, reduceCtorEq, c23, opC]
    show PostO (7, a, b, c, d, e, f) [0, 3, 2] h _ _
    exact ⟨st2 _ _, .sl _ _ _ _ (.inr rfl) (by decide) rfl (Nat.lt_succ_self _) (by simp only [go_sem, ↓reduceIte, ↓reduceDIte, zA, zM, zL, zE, zD, yA, yE, yL, yQ, yT, reduceCtorEq]; rfl), fun b hb => by simp only [own, Option.some.injEq] at hb; omega⟩
  · simp only [go_sem, ↓reduceIte, ↓reduceDIte, zA, zM, zL, zE, zD, yA, yE, yL, yQ, yT, reduceCtorEq, c23, opC]
    show PostO (8, a, b, c, d, e, f) [0, 1, 4, 5] h _ _
    exact ⟨st2 _ _, .sl _ _ _ _ (.inr rfl) (by decide) rfl (Nat.lt_succ_self _) (by simp only [go_sem, ↓reduceIte, ↓reduceDIte, zA, zM, zL, zE, zD, yA, yE, yL, yQ, yT, reduceCtorEq]; rfl), fun b hb => by simp only [own, Option.some.injEq] at hb; omega⟩
  · simp only [go_sem, ↓reduceIte, ↓reduceDIte, zA, zM, zL, zE, zD, yA, yE, yL, yQ, yT, reduceCtorEq, c23, opC]
    show PostO (9, a, b, c, d, e, f) [0, 1] h _ _
    exact ⟨st2 _ _, .sl _ _ _ _ (.inr rfl) (by decide) rfl (Nat.lt_succ_self _) (by simp only [go_sem, ↓reduceIte, ↓reduceDIte, zA, zM, zL, zE, zD, yA, yE, yL, yQ, yT, reduceCtorEq]; rfl), fun b hb => by simp only [own, Option.some.injEq] at hb; omega⟩
  · simp only [go_sem, ↓reduceIte, ↓reduceDIte, zA, zM, zL, zE, zD, yA, yE, yL, yQ, yT, reduceCtorEq, c23, opC]
    exact ⟨StepN.new _ _, .nil, fun b hb => by simp [own] at hb⟩
  · simp only [go_sem, ↓reduceIte, ↓reduceDIte, zA, zM, zL, zE, zD, yA, yE, yL, yQ, yT, reduceCtorEq, c23, opC]
    show PostO (11, a, b, c, d, e, f) [0, 1] h _ _
    exact ⟨st2 _ _, .sl _ _ _ _ (.inr rfl) (by decide) rfl (Nat.lt_succ_self _) (by simp only [go_sem, ↓reduceIte, ↓reduceDIte, zA, zM, zL, zE, zD, yA, yE, yL, yQ, yT, reduceCtorEq]; rfl), fun b hb => by simp only [own, Option.some.injEq] at hb; omega⟩
  · simp only [go_sem, ↓reduceIte, ↓reduceDIte, zA, zM, zL, zE, zD, yA, yE, yL, yQ, yT, reduceCtorEq, c23, opC]
    exact ⟨StepN.new _ _, .nil, fun b hb => by simp [own] at hb⟩
  · simp only [go_sem, ↓reduceIte, ↓reduceDIte, zA, zM, zL, zE, zD, yA, yE, yL, yQ, yT, reduceCtorEq, c23, opC]
    show PostO (13, a, b, c, d, e, f) [0] h _ _
    exact ⟨st2 _ _, .sl _ _ _ _ (.inr rfl) (by decide) rfl (Nat.lt_succ_self _) (by simp only [go_sem, ↓reduceIte, ↓reduceDIte, zA, zM, zL, zE, zD, yA, yE, yL, yQ, yT, reduceCtorEq]; rfl), fun b hb => by simp only [own, Option.some.injEq] at hb; omega⟩
  · simp only [go_sem, ↓reduceIte, ↓reduceDIte, zA, zM, zL, zE, zD, yA, yE, yL, yQ, yT, reduceCtorEq, c23, opC]
    exact ⟨StepN.new _ _, .nil, fun b hb => by simp [own] at hb⟩
  · simp only [go_sem, ↓reduceIte, ↓reduceDIte, zA, zM, zL, zE, zD, yA, yE, yL, yQ, yT, reduceCtorEq, c23, opC]
    exact ⟨StepN.new _ _, .nil, fun b hb => by simp [own] at hb⟩
  · simp only [go_sem, ↓reduceIte, ↓reduceDIte, zA, zM, zL, zE, zD, yA, yE, yL, yQ, yT, reduceCtorEq, c23, opC, n1, n2, n3, n4, n5, n6, n7, n8, n9, n10, n11, n12, n13, n14, n15]
    have e : useL k = [] := by unfold useL; rw [if_neg n3, if_neg n4, if_neg n5, if_neg n6, if_neg n7, if_neg n8, if_neg n9, if_neg n11, if_neg n13]
    rw [e]
    exact ⟨StepN.new _ _, .nil, fun b hb => by simp [own] at hb⟩
theorem w21 (P : Program) {call : CallE} {h : H} {x : OpT} : WF P call c21 [.agg (opC x)] h (PostO x [0, 1, 2, 3, 4, 5] h) := by
  obtain ⟨k, a, b, c, d, e, f⟩ := x
  have st2 : ∀ x y, StepN h ⟨h.next + 2, (h.t.set h.next x).set (h.next + 1) y⟩ := fun x y => ⟨Nat.le_add_right _ _, fun b hb => by
    have e1 : ¬ b = h.next := by omega
    have e2 : ¬ b = h.next + 1 := by omega
    simp only [go_sem, ↓reduceIte, ↓reduceDIte, zA, zM, zL, zE, zD, yA, yE, yL, yQ, yT, reduceCtorEq, e1, e2]⟩
  simp only [go_sem, ↓reduceIte, ↓reduceDIte, zA, zM, zL, zE, zD, yA, yE, yL, yQ, yT, reduceCtorEq, c21, opC]
  exact ⟨st2 _ _, .sl _ _ _ _ (.inr rfl) (by decide) rfl (Nat.lt_succ_self _) (by simp only [go_sem, ↓reduceIte, ↓reduceDIte, zA, zM, zL, zE, zD, yA, yE, yL, yQ, yT, reduceCtorEq]; rfl), fun b hb => by simp only [own, Option.some.injEq] at hb; omega⟩
end
end Go.Proofs.YtiokmoepojdfmaaDoor
