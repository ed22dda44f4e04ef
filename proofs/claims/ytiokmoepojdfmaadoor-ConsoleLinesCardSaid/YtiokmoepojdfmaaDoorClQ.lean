/-
  The line of a call, put together.
-/
import Derived.Test.YtiokmoepojdfmaaDoorClP
set_option linter.unusedVariables false
set_option linter.unusedSimpArgs false
namespace Go.Proofs.YtiokmoepojdfmaaDoor
open Go.Proofs.YtiokmoepojdfmaaDoor.Eo
open Nat renaming reduceAdd → zA, reduceMul → zM, reduceLT → zL, reduceEqDiff → zE, reduceLeDiff → zD
open Int renaming reduceAdd → yA, reduceLE → yE, reduceLT → yL, reduceEq → yQ, reduceToNat → yT
open Go.Lib (decDigits itoa)
noncomputable section
@[go_sem] theorem callC_ld2 (c : CallT) : getList (putList 0 (callC c) T.e) 2 7 = some (opC c.op) := by
  rw [rowList _ _ _ (by rw [callC_len]; decide)]; rfl
@[go_sem] theorem callC_ld13 (c : CallT) : getList (putList 0 (callC c) T.e) 13 5 = some (resC c.r) := by
  rw [rowList _ _ _ (by rw [callC_len]; decide)]; rfl
@[go_sem] theorem callC_ld0 (c : CallT) : getList (putList 0 (callC c) T.e) 0 18 = some (callC c) := by
  rw [rowList _ _ _ (by rw [callC_len]; decide)]; rfl
theorem nums_U {c : CallT} (h : ∀ x ∈ nums c, okN x) : ∀ x ∈ nums c, inI x := fun x hx => ⟨by have := (h x hx).1; omega, by have := (h x hx).2; omega⟩
theorem rowN_len {c : CallT} (h : ∀ x ∈ nums c, okN x) : (rowB (nums c)).length ≤ 132 := by
  have := rowB_len (nums c) (nums_U h) 6 (Nat.le_refl _)
  have e : (nums c).take 6 = nums c := rfl
  rw [e] at this
  omega
theorem lineB_eq (c : CallT) : rowB (nums c) ++ [32] ++ opB c.op ++ [32, 58, 32] ++ resB c.r = lineB c := rfl
set_option maxRecDepth 4000 in
theorem w4 (P : Program) {call : CallE} (h6 : ∀ h (x : OpT), TabH h → 0 < h.next → opR x → ∃ v h', call 6 [.agg (opC x)] h = some (v, h') ∧ PostT (opB x) h v h') (h7 : ∀ h (r : ResT), TabH h → 0 < h.next → ResR r → ∃ v h', call 7 [.agg (resC r)] h = some (v, h') ∧ PostE r h v h')
    (h8 : ∀ h v (l : List Int), TabH h → 0 < h.next → Own 1 3 h v l.length (l.map (AV.int .i64)) → (∀ x ∈ l, inI x) → l ≠ [] → l.length ≤ 1000000 → ∃ v' h', call 8 [v] h = some (v', h') ∧ (v' = .str (strB (rowB l)) ∧ StepN h h'))
    {h : H} {c : CallT} (hT : TabH h) (hp : 0 < h.next) (hc : CallR c) : WF P call c4 [.agg (callC c)] h (PostLn c h) := by
  have st0 := StepN.new h (.row (putList 0 (callC c) T.e) 18 29)
  simp only [go_sem, ↓reduceIte, ↓reduceDIte, zA, zM, zL, zE, zD, yA, yE, yL, yQ, yT, reduceCtorEq, c4]
  refine opt_by (h6 _ c.op (st0.tab hT hp) (Nat.succ_pos _) hc.op) fun v1 h1 p1 => ?_
  obtain ⟨rfl, st1⟩ := p1
  have le1 : h.next + 1 ≤ h1.next := st1.next
  have g1 := st1.old h.next (Nat.lt_succ_self _)
  have st01 := st0.trans st1
  simp only [go_sem, ↓reduceIte, ↓reduceDIte, zA, zM, zL, zE, zD, yA, yE, yL, yQ, yT, reduceCtorEq] at g1
  simp only [go_sem, ↓reduceIte, ↓reduceDIte, zA, zM, zL, zE, zD, yA, yE, yL, yQ, yT, reduceCtorEq, g1]
  refine opt_by (h7 h1 c.r (st01.tab hT hp) (by omega) hc.r) fun v2 h2 p2 => ?_
  have le2 : h1.next ≤ h2.next := p2.st.next
  have g2 := (p2.st.old h.next (by omega)).trans g1
  have st02 := st01.trans p2.st
  by_cases hb : badR c.r
  · obtain rfl := p2.bad hb
    simp only [go_sem, ↓reduceIte, ↓reduceDIte, zA, zM, zL, zE, zD, yA, yE, yL, yQ, yT, reduceCtorEq]
    exact ⟨st02, fun _ => rfl, fun hg => absurd hb hg.1⟩
  obtain rfl := p2.good hb
  simp only [go_sem, ↓reduceIte, ↓reduceDIte, zA, zM, zL, zE, zD, yA, yE, yL, yQ, yT, reduceCtorEq, g2]
  have st3 := StepN.new h2 (.row (putList 0 ((nums c).map (AV.int .i64)) T.e) 6 3)
  have st03 := st02.trans st3
  have ow : Own 1 3 ⟨h2.next + 1, h2.t.set h2.next (.row (putList 0 ((nums c).map (AV.int .i64)) T.e) 6 3)⟩ (.sl h2.next 0 (nums c).length 1 (some (nums c).length)) (nums c).length ((nums c).map (AV.int .i64)) := .sl _ _ _ _ (.inr rfl) (Nat.succ_pos 5) rfl (Nat.lt_succ_self _) (by simp only [go_sem, ↓reduceIte, ↓reduceDIte, zA, zM, zL, zE, zD, yA, yE, yL, yQ, yT, reduceCtorEq]; rfl)
  refine loop_in (IL4 ⟨h2.next + 1, h2.t.set h2.next (.row (putList 0 ((nums c).map (AV.int .i64)) T.e) 6 3)⟩ (.sl h2.next 0 (nums c).length 1 (some (nums c).length)) (.str (strB (opB c.op))) (.str (strB (resB c.r))) (nums c)) _ _ (fun k tm h' hI => stepL4 P ow (by show 6 ≤ 1000000; decide) k tm h' hI) (fun tm3 h3 hR => ?_) (fun tm3 h3 hS => ?_) 6 _ _
    ⟨rfl, by simp only [go_sem, ↓reduceIte, ↓reduceDIte, zA, zM, zL, zE, zD, yA, yE, yL, yQ, yT, reduceCtorEq]; rfl, by simp only [go_sem, ↓reduceIte, ↓reduceDIte, zA, zM, zL, zE, zD, yA, yE, yL, yQ, yT, reduceCtorEq]; rfl, by simp only [go_sem, ↓reduceIte, ↓reduceDIte, zA, zM, zL, zE, zD, yA, yE, yL, yQ, yT, reduceCtorEq]; rfl, by simp [go_sem], by simp [go_sem], 0, rfl, by simp [go_sem], fun j x hj => absurd hj (Nat.not_lt_zero j)⟩
  · obtain ⟨rfl, t7, t4, t6, hok⟩ := hR
    simp only [go_sem, ↓reduceIte, ↓reduceDIte, zA, zM, zL, zE, zD, yA, yE, yL, yQ, yT, reduceCtorEq, t7]
    refine opt_by (h8 _ _ (nums c) (st03.tab hT hp) (Nat.succ_pos _) ow (nums_U hok) (by unfold nums; simp) (by show 6 ≤ 1000000; decide)) fun v4 h4 p4 => ?_
    obtain ⟨rfl, st4⟩ := p4
    have l1 := rowN_len hok
    have l2 := opB_len hc.op
    have l3 := resB_len hc.r hb
    have c1 : (⟨#[32]⟩ : ByteArray) = strB [32] := rfl
    have c3 : (⟨#[32, 58, 32]⟩ : ByteArray) = strB [32, 58, 32] := rfl
    have e1 : (strB (rowB (nums c))).size + (strB [32]).size ≤ 9223372036854775807 := by rw [strB_size, strB_size]; show _ + 1 ≤ _; omega
    have e2 : (strB (rowB (nums c) ++ [32])).size + (strB (opB c.op)).size ≤ 9223372036854775807 := by rw [strB_size, strB_size, List.length_append]; show _ + 1 + _ ≤ _; omega
    have e3 : (strB (rowB (nums c) ++ [32] ++ opB c.op)).size + (strB [32, 58, 32]).size ≤ 9223372036854775807 := by rw [strB_size, strB_size, List.length_append, List.length_append]; show _ + 1 + _ + 3 ≤ _; omega
    have e4 : (strB (rowB (nums c) ++ [32] ++ opB c.op ++ [32, 58, 32])).size + (strB (resB c.r)).size ≤ 9223372036854775807 := by rw [strB_size, strB_size, List.length_append, List.length_append, List.length_append]; show _ + 1 + _ + 3 + _ ≤ _; omega
    simp only [go_sem, ↓reduceIte, ↓reduceDIte, zA, zM, zL, zE, zD, yA, yE, yL, yQ, yT, reduceCtorEq, t4, t6, c1, c3, e1, e2, e3, e4, strB_app, lineB_eq]
    exact ⟨st03.trans st4, fun hh => absurd ⟨hb, hok⟩ hh, fun _ => rfl⟩
  · obtain ⟨rfl, t2, t3, hno⟩ := hS
    simp only [go_sem, ↓reduceIte, ↓reduceDIte, zA, zM, zL, zE, zD, yA, yE, yL, yQ, yT, reduceCtorEq, t2, t3]
    exact ⟨st03, fun _ => rfl, fun hg => absurd hg.2 hno⟩
set_option maxRecDepth 4000 in
theorem w5 (P : Program) {call : CallE} (h9 : ∀ h (x : OpT), opR x → ∃ v h', call 9 [.agg (opC x)] h = some (v, h') ∧ PostL (opB x) h v h') (h10 : ∀ h (r : ResT), ResR r → ∃ v h', call 10 [.agg (resC r)] h = some (v, h') ∧ PostE r h v h')
    (h11 : ∀ h v (l : List Int), Own 1 3 h v l.length (l.map (AV.int .i64)) → (∀ x ∈ l, inI x) → l.length ≤ 1000000 → call 11 [v] h = some (.str (strB (rowB l)), h))
    {h : H} {c : CallT} (hc : CallR c) : WF P call c5 [.agg (callC c)] h (PostLn c h) := by
  have st0 := StepN.new h (.row (putList 0 (callC c) T.e) 18 29)
  simp only [go_sem, ↓reduceIte, ↓reduceDIte, zA, zM, zL, zE, zD, yA, yE, yL, yQ, yT, reduceCtorEq, c5]
  refine opt_by (h9 _ c.op hc.op) fun v1 h1 p1 => ?_
  obtain ⟨rfl, st1⟩ := p1
  have le1 : h.next + 1 ≤ h1.next := st1.next
  have g1 := st1.old h.next (Nat.lt_succ_self _)
  have st01 := st0.trans st1
  simp only [go_sem, ↓reduceIte, ↓reduceDIte, zA, zM, zL, zE, zD, yA, yE, yL, yQ, yT, reduceCtorEq] at g1
  simp only [go_sem, ↓reduceIte, ↓reduceDIte, zA, zM, zL, zE, zD, yA, yE, yL, yQ, yT, reduceCtorEq, g1]
  refine opt_by (h10 h1 c.r hc.r) fun v2 h2 p2 => ?_
  have le2 : h1.next ≤ h2.next := p2.st.next
  have g2 := (p2.st.old h.next (by omega)).trans g1
  have st02 := st01.trans p2.st
  by_cases hb : badR c.r
  · obtain rfl := p2.bad hb
    simp only [go_sem, ↓reduceIte, ↓reduceDIte, zA, zM, zL, zE, zD, yA, yE, yL, yQ, yT, reduceCtorEq]
    exact ⟨st02, fun _ => rfl, fun hg => absurd hb hg.1⟩
  obtain rfl := p2.good hb
  simp only [go_sem, ↓reduceIte, ↓reduceDIte, zA, zM, zL, zE, zD, yA, yE, yL, yQ, yT, reduceCtorEq, g2]
  have st3 := StepN.new h2 (.row (putList 0 ((nums c).map (AV.int .i64)) T.e) 6 3)
  have st03 := st02.trans st3
  have ow : Own 1 3 ⟨h2.next + 1, h2.t.set h2.next (.row (putList 0 ((nums c).map (AV.int .i64)) T.e) 6 3)⟩ (.sl h2.next 0 (nums c).length 1 (some (nums c).length)) (nums c).length ((nums c).map (AV.int .i64)) := .sl _ _ _ _ (.inr rfl) (Nat.succ_pos 5) rfl (Nat.lt_succ_self _) (by simp only [go_sem, ↓reduceIte, ↓reduceDIte, zA, zM, zL, zE, zD, yA, yE, yL, yQ, yT, reduceCtorEq]; rfl)
  refine loop_in (IL5 ⟨h2.next + 1, h2.t.set h2.next (.row (putList 0 ((nums c).map (AV.int .i64)) T.e) 6 3)⟩ (.sl h2.next 0 (nums c).length 1 (some (nums c).length)) (.str (strB (opB c.op))) (.str (strB (resB c.r))) (nums c)) _ _ (fun k tm h' hI => stepL5 P ow (by show 6 ≤ 1000000; decide) k tm h' hI) (fun tm3 h3 hR => ?_) (fun tm3 h3 hS => ?_) 6 _ _
    ⟨rfl, by simp only [go_sem, ↓reduceIte, ↓reduceDIte, zA, zM, zL, zE, zD, yA, yE, yL, yQ, yT, reduceCtorEq]; rfl, by simp [go_sem], by simp [go_sem], 0, rfl, by simp [go_sem], fun j x hj => absurd hj (Nat.not_lt_zero j)⟩
  · obtain ⟨rfl, t7, t4, t6, hok⟩ := hR
    have hc11 := h11 _ _ (nums c) ow (nums_U hok) (by show 6 ≤ 1000000; decide)
    have l1 := rowN_len hok
    have l2 := opB_len hc.op
    have l3 := resB_len hc.r hb
    have c1 : (⟨#[32]⟩ : ByteArray) = strB [32] := rfl
    have c3 : (⟨#[32, 58, 32]⟩ : ByteArray) = strB [32, 58, 32] := rfl
    have e1 : (strB (rowB (nums c))).size + (strB [32]).size ≤ 9223372036854775807 := by rw [strB_size, strB_size]; show _ + 1 ≤ _; omega
    have e2 : (strB (rowB (nums c) ++ [32])).size + (strB (opB c.op)).size ≤ 9223372036854775807 := by rw [strB_size, strB_size, List.length_append]; show _ + 1 + _ ≤ _; omega
    have e3 : (strB (rowB (nums c) ++ [32] ++ opB c.op)).size + (strB [32, 58, 32]).size ≤ 9223372036854775807 := by rw [strB_size, strB_size, List.length_append, List.length_append]; show _ + 1 + _ + 3 ≤ _; omega
    have e4 : (strB (rowB (nums c) ++ [32] ++ opB c.op ++ [32, 58, 32])).size + (strB (resB c.r)).size ≤ 9223372036854775807 := by rw [strB_size, strB_size, List.length_append, List.length_append, List.length_append]; show _ + 1 + _ + 3 + _ ≤ _; omega
    simp only [go_sem, ↓reduceIte, ↓reduceDIte, zA, zM, zL, zE, zD, yA, yE, yL, yQ, yT, reduceCtorEq, t7, t4, t6, hc11, c1, c3, e1, e2, e3, e4, strB_app, lineB_eq]
    exact ⟨st03, fun hh => absurd ⟨hb, hok⟩ hh, fun _ => rfl⟩
  · obtain ⟨rfl, t2, t3, hno⟩ := hS
    simp only [go_sem, ↓reduceIte, ↓reduceDIte, zA, zM, zL, zE, zD, yA, yE, yL, yQ, yT, reduceCtorEq, t2, t3]
    exact ⟨st03, fun _ => rfl, fun hg => absurd hg.2 hno⟩
end
end Go.Proofs.YtiokmoepojdfmaaDoor
