/-
  The line of an operation, of the reference.
-/
import Derived.Test.YtiokmoepojdfmaaDoorClL
set_option linter.unusedVariables false
set_option linter.unusedSimpArgs false
namespace Go.Proofs.YtiokmoepojdfmaaDoor
open Go.Proofs.YtiokmoepojdfmaaDoor.Eo
open Nat renaming reduceAdd → zA, reduceMul → zM, reduceLT → zL, reduceEqDiff → zE, reduceLeDiff → zD
open Int renaming reduceAdd → yA, reduceLE → yE, reduceLT → yL, reduceEq → yQ, reduceToNat → yT
open Go.Lib (decDigits itoa)
noncomputable section
def PostL (l : List UInt8) (h : H) (v : AV) (h' : H) : Prop := v = .str (strB l) ∧ StepN h h'
set_option maxRecDepth 4000 in
theorem w9 (P : Program) {call : CallE} (h18 : ∀ h (x : OpT), ∃ v h', call 18 [.agg (opC x)] h = some (v, h') ∧ SaysF x h v h') (h20 : ∀ h (u : Nat), u < 18446744073709551616 → ∃ v h', call 20 [.int .u64 (u : Int)] h = some (v, h') ∧ (v = .str (strB (decDigits u)) ∧ StepN h h'))
    (h21 : ∀ h (x : OpT), ∃ v h', call 21 [.agg (opC x)] h = some (v, h') ∧ PostO x [0, 1, 2, 3, 4, 5] h v h') (h22 : ∀ h (k : Int), call 22 [.int .u8 k] h = some (.str (strB (wordB k)), h)) (h23 : ∀ h (x : OpT), ∃ v h', call 23 [.agg (opC x)] h = some (v, h') ∧ PostO x (useL x.1) h v h')
    (h19 : ∀ h w v (l : List Int), Own 1 22 h v l.length (l.map (AV.int .u64)) → (∀ x ∈ l, inU x) → w.length ≤ 1000000 → l.length ≤ 1000000 → ∃ v' h', call 19 [.str (strB w), v] h = some (v', h') ∧ (v' = .str (strB (joinL w l)) ∧ StepN h h'))
    {h : H} {x : OpT} (hx : opR x) : WF P call c9 [.agg (opC x)] h (PostL (opB x) h) := by
  have f0 : fw .u64 x.1 = x.1 := fwU hx.1.1 (by have := hx.1.2; omega)
  obtain ⟨u, hu⟩ : ∃ u : Nat, x.1 = u := ⟨x.1.toNat, by have := hx.1.1; omega⟩
  have hu2 : u < 256 := by have := hx.1.2; omega
  simp only [go_sem, ↓reduceIte, ↓reduceDIte, zA, zM, zL, zE, zD, yA, yE, yL, yQ, yT, reduceCtorEq, c9]
  refine opt_by (h18 _ x) fun v1 h1 p1 => ?_
  obtain ⟨⟨b, rfl, hb⟩, st1⟩ := p1
  have le1 : h.next + 1 ≤ h1.next := st1.next
  have st01 := (StepN.new h (.row (putList 0 (opC x) T.e) 7 24)).trans st1
  have g1 := st1.old h.next (Nat.lt_succ_self _)
  simp only [go_sem, ↓reduceIte, ↓reduceDIte, zA, zM, zL, zE, zD, yA, yE, yL, yQ, yT, reduceCtorEq] at g1
  cases b with
  | true =>
    have hf := hb.1 rfl
    have e : opB x = joinL (wordB x.1) ((useL x.1).map (fld x)) := by unfold opB; rw [if_pos hf]
    obtain ⟨hl1, hl2⟩ := useL_lt x.1
    have hc := h22 h1 x.1
    simp only [go_sem, ↓reduceIte, ↓reduceDIte, zA, zM, zL, zE, zD, yA, yE, yL, yQ, yT, reduceCtorEq, g1, hc]
    refine opt_by (h23 h1 x) fun v2 h2 p2 => ?_
    have le2 : h1.next ≤ h2.next := p2.st.next
    simp only [go_sem, ↓reduceIte, ↓reduceDIte, zA, zM, zL, zE, zD, yA, yE, yL, yQ, yT, reduceCtorEq, le2, g1]
    refine opt_by (h19 h2 (wordB x.1) v2 ((useL x.1).map (fld x)) (by rw [List.length_map]; exact p2.ow) (fun y hy => by obtain ⟨i, _, rfl⟩ := List.mem_map.1 hy; exact hx.2 i) (word_len _) (by rw [List.length_map]; omega)) fun v3 h3 p3 => ?_
    obtain ⟨rfl, st3⟩ := p3
    have le3 : h2.next ≤ h3.next := st3.next
    simp only [go_sem, ↓reduceIte, ↓reduceDIte, zA, zM, zL, zE, zD, yA, yE, yL, yQ, yT, reduceCtorEq, le3]
    exact ⟨by rw [e], (st01.trans p2.st).trans st3⟩
  | false =>
    have hf : ¬ formed x := fun hf => by cases hb.2 hf
    have e : opB x = joinL ([111, 112, 32] ++ decDigits u) [fld x 0, fld x 1, fld x 2, fld x 3, fld x 4, fld x 5] := by
      unfold opB joinL
      rw [if_neg hf, List.flatMap_cons, hu, Int.toNat_natCast]
      simp only [List.append_assoc, List.cons_append, List.nil_append]
    have hd := decDigits_le (u := u) (by omega)
    have c0 : (⟨#[111, 112, 32]⟩ : ByteArray) = strB [111, 112, 32] := rfl
    have sz : 3 + (decDigits u).length ≤ 9223372036854775807 := by omega
    rw [hu] at f0
    simp only [go_sem, ↓reduceIte, ↓reduceDIte, zA, zM, zL, zE, zD, yA, yE, yL, yQ, yT, reduceCtorEq, g1, hu, f0]
    refine opt_by (h20 h1 u (by omega)) fun v2 h2 p2 => ?_
    obtain ⟨rfl, st2⟩ := p2
    have le2 : h1.next ≤ h2.next := st2.next
    have g2 := (st2.old h.next (by omega)).trans g1
    simp only [go_sem, ↓reduceIte, ↓reduceDIte, zA, zM, zL, zE, zD, yA, yE, yL, yQ, yT, reduceCtorEq, le2, g1, c0, strB_size, strB_app, sz]
    refine opt_by (h21 h2 x) fun v3 h3 p3 => ?_
    have le3 : h2.next ≤ h3.next := p3.st.next
    simp only [go_sem, ↓reduceIte, ↓reduceDIte, zA, zM, zL, zE, zD, yA, yE, yL, yQ, yT, reduceCtorEq, le3, g1, g2]
    have hU : ∀ y ∈ [fld x 0, fld x 1, fld x 2, fld x 3, fld x 4, fld x 5], inU y := fun y hy => opL_U hx y (List.mem_cons_of_mem _ hy)
    refine opt_by (h19 h3 ([111, 112, 32] ++ decDigits u) v3 [fld x 0, fld x 1, fld x 2, fld x 3, fld x 4, fld x 5] p3.ow hU (by rw [List.length_append]; show 3 + _ ≤ _; omega) (by show 6 ≤ 1000000; decide)) fun v4 h4 p4 => ?_
    obtain ⟨rfl, st4⟩ := p4
    have le4 : h3.next ≤ h4.next := st4.next
    simp only [go_sem, ↓reduceIte, ↓reduceDIte, zA, zM, zL, zE, zD, yA, yE, yL, yQ, yT, reduceCtorEq, le4, g1]
    exact ⟨by rw [e]; rfl, ((st01.trans st2).trans p3.st).trans st4⟩
end
end Go.Proofs.YtiokmoepojdfmaaDoor
