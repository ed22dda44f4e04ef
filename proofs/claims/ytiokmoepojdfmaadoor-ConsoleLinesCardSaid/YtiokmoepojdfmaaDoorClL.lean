/-
  The line of an operation, of the program.
-/
import Derived.Test.YtiokmoepojdfmaaDoorClK
set_option linter.unusedVariables false
set_option linter.unusedSimpArgs false
namespace Go.Proofs.YtiokmoepojdfmaaDoor
open Go.Proofs.YtiokmoepojdfmaaDoor.Eo
open Nat renaming reduceAdd → zA, reduceMul → zM, reduceLT → zL, reduceEqDiff → zE, reduceLeDiff → zD
open Int renaming reduceAdd → yA, reduceLE → yE, reduceLT → yL, reduceEq → yQ, reduceToNat → yT
open Go.Lib (decDigits itoa)
noncomputable section
theorem opC_getS (x : OpT) {i : Nat} (h : i < 6) : (opC x)[i + 1]? = some (.int .u64 (fld x i)) := by
  match i, h with
  | 0, _ => exact opC_get1 x
  | 1, _ => exact opC_get2 x
  | 2, _ => exact opC_get3 x
  | 3, _ => exact opC_get4 x
  | 4, _ => exact opC_get5 x
  | 5, _ => exact opC_get6 x
theorem useL_lt (k : Int) : (∀ i ∈ useL k, i < 6) ∧ (useL k).length ≤ 6 := by
  rcases useL_cases k with e | e | e | e | e | e <;> rw [e] <;> exact ⟨by decide, by decide⟩
def I6 (h0 : H) (w v : AV) (x : OpT) (L : List Nat) (k : Nat) (tm : T AV) (h : H) : Prop :=
  StepN h0 h ∧ tm.get 4 = some w ∧ tm.get 36 = some v ∧ tm.get 37 = some (.int .i64 (L.length : Int)) ∧ ∃ (i : Nat) (o : AV), i + k = L.length ∧ tm.get 38 = some (.int .i64 (i : Int)) ∧ tm.get 5 = some o ∧ Own 1 22 h o i (((L.take i).map (fld x)).map (AV.int .u64)) ∧ ∀ b, own o = some b → h0.next ≤ b
theorem step6 (P : Program) {call : CallE} {h0 : H} {w v : AV} {x : OpT} {L : List Nat} {A : Nat} (hA : A < h0.next) (gA0 : h0.t.get A = some (.row (putList 0 (opC x) T.e) 7 24)) (hv0 : Own 1 45 h0 v L.length (L.map fun i => AV.ptr A (i + 1))) (hl : ∀ i ∈ L, i < 6) (hl2 : L.length ≤ 6) (k : Nat) (tm : T AV) (h : H) (hI : I6 h0 w v x L k tm h) :
    WC P call c6_l10 (loopQ 0 (fun tm h => ∃ j, j < k ∧ I6 h0 w v x L j tm h) (fun tm h => StepN h0 h ∧ tm.get 4 = some w ∧ ∃ o, tm.get 5 = some o ∧ Own 1 22 h o L.length ((L.map (fld x)).map (AV.int .u64))) (fun _ _ => False)) tm h := by
  obtain ⟨st, t4, t36, t37, i, o, hik, t38, t5, ho, hlo⟩ := hI
  have hv := Own.grow hv0 st
  have gA := (st.old A hA).trans gA0
  cases k with
  | zero =>
    have e1 : ¬ (i : Int) < (L.length : Int) := by omega
    simp only [go_sem, ↓reduceIte, ↓reduceDIte, zA, zM, zL, zE, zD, yA, yE, yL, yQ, yT, reduceCtorEq, c6_l10, t37, t38, e1]
    have hi : i = L.length := by omega
    rw [hi, List.take_length] at ho
    exact ⟨st, t4, o, t5, ho⟩
  | succ k =>
    have e1 : (i : Int) < (L.length : Int) := by omega
    have hi : i < L.length := by omega
    have hx := hl L[i] (List.getElem_mem hi)
    have hop := opC_getS x hx
    generalize hcs : L.map (fun i => AV.ptr A (i + 1)) = cs at hv hv0
    generalize hln : L.length = n at hv hv0
    have hget : cs[i]? = some (.ptr A (L[i] + 1)) := by rw [← hcs, List.getElem?_map, List.getElem?_eq_getElem hi]; rfl
    cases hv with
    | nil => omega
    | sl a len cs cap hc0 hp hcl ha hg =>
      rw [hln] at e1 hik t37
      have f1 : fw .i64 ((i : Int) + 1) = (i : Int) + 1 := fwI (by omega) (by omega)
      have e3 : ((i + 1 : Nat) : Int) = (i : Int) + 1 := rfl
      simp only [go_sem, ↓reduceIte, ↓reduceDIte, zA, zM, zL, zE, zD, yA, yE, yL, yQ, yT, reduceCtorEq, c6_l10, t36, t37, t38, t5, e1, Nat.mul_one, hg, hget, gA, hop]
      have sn : StepN h ⟨h.next + 1, h.t.set h.next (.row (putList 0 [AV.int .u64 (fld x L[i])] T.e) 1 22)⟩ := StepN.new _ _
      have oo := Own.grow ho sn
      refine opt_some (appA_own oo (by decide) (by decide) (by omega) (by omega)) ?_
      have st3 := st.app (v := o) (.row (putList 0 [AV.int .u64 (fld x L[i])] T.e) 1 22) hlo 22 (((L.take i).map (fld x)).map (AV.int .u64) ++ [AV.int .u64 (fld x L[i])])
      have n0 := st.next
      simp only [go_sem, ↓reduceIte, ↓reduceDIte, zA, zM, zL, zE, zD, yA, yE, yL, yQ, yT, reduceCtorEq, t38, f1]
      refine ⟨k, Nat.lt_succ_self k, st3, by simp [go_sem, t4], by simp [go_sem, t36], by simp [go_sem, t37, hln], i + 1, appV ⟨h.next + 1, h.t.set h.next (.row (putList 0 [AV.int .u64 (fld x L[i])] T.e) 1 22)⟩ 1 (i + 1), by omega, by simp [go_sem, e3], by simp [go_sem], ?_, fun b hb => ?_⟩
      · have := own_app (src := [AV.int .u64 (fld x L[i])]) oo (n := 1) (by decide) rfl
        rw [List.take_add_one, List.getElem?_eq_getElem hi, List.map_append, List.map_append]
        exact this
      · rw [own_appV] at hb
        simp only [Option.some.injEq] at hb
        omega
/-- the operation's numbers are of their kinds -/
def opR (x : OpT) : Prop := (0 ≤ x.1 ∧ x.1 < 256) ∧ ∀ i, inU (fld x i)
theorem word_len (k : Int) : (wordB k).length ≤ 1000000 := by
  rcases kind_cases k with rfl | rfl | rfl | rfl | rfl | rfl | rfl | rfl | rfl | rfl | rfl | rfl | rfl | rfl | rfl | ⟨n1, n2, n3, n4, n5, n6, n7, n8, n9, n10, n11, n12, n13, n14, n15⟩
  · decide
  · decide
  · decide
  · decide
  · decide
  · decide
  · decide
  · decide
  · decide
  · decide
  · decide
  · decide
  · decide
  · decide
  · decide
  · have e := (word_nil k).2 (by omega)
    rw [e]
    decide
theorem opL_U {x : OpT} (hx : opR x) : ∀ y ∈ x.1 :: [fld x 0, fld x 1, fld x 2, fld x 3, fld x 4, fld x 5], inU y := by
  intro y hy
  simp only [List.mem_cons, List.not_mem_nil, or_false] at hy
  rcases hy with rfl | rfl | rfl | rfl | rfl | rfl | rfl
  · exact ⟨hx.1.1, by have := hx.1.2; omega⟩
  · exact hx.2 0
  · exact hx.2 1
  · exact hx.2 2
  · exact hx.2 3
  · exact hx.2 4
  · exact hx.2 5
def PostT (l : List UInt8) (h : H) (v : AV) (h' : H) : Prop := v = .tup [.str (strB l), .int .i64 0] ∧ StepN h h'
set_option maxRecDepth 4000 in
theorem w6 {call : CallE} (h12 : ∀ h (k : Int), call 12 [.int .u8 k] h = some (.str (strB (wordB k)), h)) (h13 : ∀ h (x : OpT), ∃ v h', call 13 [.agg (opC x)] h = some (v, h') ∧ (v = .agg (opC (usedT x)) ∧ StepN h h'))
    (h15 : ∀ h A (x : OpT), h.t.get A = some (.row (putList 0 (opC x) T.e) 7 24) → ∃ v h', call 15 [.ptr A 0] h = some (v, h') ∧ PostF A (useL x.1) h v h')
    (h14 : ∀ h w v (l : List Int), TabH h → Own 1 22 h v l.length (l.map (AV.int .u64)) → (∀ x ∈ l, inU x) → w.length ≤ 1000000 → l.length ≤ 1000000 → call 14 [.str (strB w), v] h = some (.str (strB (joinL w l)), h))
    {h : H} {x : OpT} (hT : TabH h) (hp : 0 < h.next) (hx : opR x) : WF Tryd.prog call c6 [.agg (opC x)] h (PostT (opB x) h) := by
  have f0 : fw .u64 x.1 = x.1 := fwU hx.1.1 (by have := hx.1.2; omega)
  have c0 : (⟨#[111, 112]⟩ : ByteArray) = strB [111, 112] := rfl
  have hc12 := h12 ⟨h.next + 1, h.t.set h.next (.row (putList 0 (opC x) T.e) 7 24)⟩ x.1
  by_cases hw : wordB x.1 = []
  · have he : (strB (wordB x.1) = ⟨#[]⟩) = True := eq_true (by rw [hw]; rfl)
    have hb : opB x = joinL [111, 112] (x.1 :: [fld x 0, fld x 1, fld x 2, fld x 3, fld x 4, fld x 5]) := by
      unfold opB
      rw [if_neg (fun hf => ((formed_used x).1 hf).1 hw)]
    have st2 : ∀ x y, StepN h ⟨h.next + 2, (h.t.set h.next x).set (h.next + 1) y⟩ := fun x y => ⟨Nat.le_add_right _ _, fun b hb => by
      have e1 : ¬ b = h.next := by omega
      have e2 : ¬ b = h.next + 1 := by omega
      simp only [go_sem, ↓reduceIte, ↓reduceDIte, zA, zM, zL, zE, zD, yA, yE, yL, yQ, yT, reduceCtorEq, e1, e2]⟩
    simp only [go_sem, ↓reduceIte, ↓reduceDIte, zA, zM, zL, zE, zD, yA, yE, yL, yQ, yT, reduceCtorEq, c6, hc12, he, f0]
    refine opt_some (h14 _ [111, 112] _ (x.1 :: [fld x 0, fld x 1, fld x 2, fld x 3, fld x 4, fld x 5]) ((st2 _ _).tab hT hp) (.sl _ _ _ _ (.inr rfl) (by decide) rfl (Nat.lt_succ_self _) (by simp only [go_sem, ↓reduceIte, ↓reduceDIte, zA, zM, zL, zE, zD, yA, yE, yL, yQ, yT, reduceCtorEq]; rfl)) (opL_U hx) (by decide) (by show 7 ≤ 1000000; decide)) ?_
    simp only [go_sem, ↓reduceIte, ↓reduceDIte, zA, zM, zL, zE, zD, yA, yE, yL, yQ, yT, reduceCtorEq, hb]
    exact ⟨rfl, st2 _ _⟩
  · have he : (strB (wordB x.1) = ⟨#[]⟩) = False := eq_false fun e => hw (by
      have := congrArg (fun s : ByteArray => s.data.toList) e
      rw [strB_list] at this
      exact this)
    simp only [go_sem, ↓reduceIte, ↓reduceDIte, zA, zM, zL, zE, zD, yA, yE, yL, yQ, yT, reduceCtorEq, c6, hc12, he]
    refine opt_by (h13 _ x) fun v1 h1 p1 => ?_
    obtain ⟨rfl, st1⟩ := p1
    have le1 : h.next + 1 ≤ h1.next := st1.next
    have st01 := (StepN.new h (.row (putList 0 (opC x) T.e) 7 24)).trans st1
    have g1 := st1.old h.next (Nat.lt_succ_self _)
    simp only [go_sem, ↓reduceIte, ↓reduceDIte, zA, zM, zL, zE, zD, yA, yE, yL, yQ, yT, reduceCtorEq] at g1
    by_cases hu : x = usedT x
    · have hn : evBin Tryd.prog .neq 24 false false (.agg (opC (usedT x))) (.agg (opC x)) = some (.bool false) := by rw [neq24, decide_eq_true hu.symm]; rfl
      have hb : opB x = joinL (wordB x.1) ((useL x.1).map (fld x)) := by
        unfold opB
        rw [if_pos ((formed_used x).2 ⟨hw, hu⟩)]
      simp only [go_sem, ↓reduceIte, ↓reduceDIte, zA, zM, zL, zE, zD, yA, yE, yL, yQ, yT, reduceCtorEq, le1, g1, hn]
      refine opt_by (h15 h1 h.next x g1) fun v2 h2 p2 => ?_
      have le2 : h1.next ≤ h2.next := p2.st.next
      have g2 := (p2.st.old h.next (by omega)).trans g1
      have hla := p2.ow.lenA
      obtain ⟨hl1, hl2⟩ := useL_lt x.1
      simp only [go_sem, ↓reduceIte, ↓reduceDIte, zA, zM, zL, zE, zD, yA, yE, yL, yQ, yT, reduceCtorEq, hla]
      refine loop_in (I6 h2 (.str (strB (wordB x.1))) v2 x (useL x.1)) _ _ (fun k tm h' hI => step6 _ (by omega) g2 p2.ow hl1 hl2 k tm h' hI) (fun tm2 h3 hR => ?_) (fun _ _ hh => hh.elim) (useL x.1).length _ _
        ⟨StepN.refl h2, by simp [go_sem], by simp [go_sem], by simp [go_sem], 0, .nils, by omega, by simp [go_sem], by simp [go_sem], by rw [List.take_zero]; exact .nil, fun b hb => by simp [own] at hb⟩
      obtain ⟨st3, t4, o, t5, ho⟩ := hR
      have st03 := (st01.trans p2.st).trans st3
      simp only [go_sem, ↓reduceIte, ↓reduceDIte, zA, zM, zL, zE, zD, yA, yE, yL, yQ, yT, reduceCtorEq, t4, t5]
      refine opt_some (h14 h3 (wordB x.1) o ((useL x.1).map (fld x)) (st03.tab hT hp) (by rw [List.length_map]; exact ho) (fun y hy => ?_) (word_len _) (by rw [List.length_map]; omega)) ?_
      · obtain ⟨i, _, rfl⟩ := List.mem_map.1 hy
        exact hx.2 i
      · simp only [go_sem, ↓reduceIte, ↓reduceDIte, zA, zM, zL, zE, zD, yA, yE, yL, yQ, yT, reduceCtorEq]
        exact ⟨by rw [hb], st03⟩
    · have hn : evBin Tryd.prog .neq 24 false false (.agg (opC (usedT x))) (.agg (opC x)) = some (.bool true) := by rw [neq24, decide_eq_false (fun e => hu e.symm)]; rfl
      have hb : opB x = joinL [111, 112] (x.1 :: [fld x 0, fld x 1, fld x 2, fld x 3, fld x 4, fld x 5]) := by
        unfold opB
        rw [if_neg (fun hf => hu ((formed_used x).1 hf).2)]
      simp only [go_sem, ↓reduceIte, ↓reduceDIte, zA, zM, zL, zE, zD, yA, yE, yL, yQ, yT, reduceCtorEq, le1, g1, hn, f0]
      refine opt_some (h14 _ [111, 112] _ (x.1 :: [fld x 0, fld x 1, fld x 2, fld x 3, fld x 4, fld x 5]) ((st01.trans (StepN.new h1 _)).tab hT hp) (.sl _ _ _ _ (.inr rfl) (by decide) rfl (Nat.lt_succ_self _) (by simp only [go_sem, ↓reduceIte, ↓reduceDIte, zA, zM, zL, zE, zD, yA, yE, yL, yQ, yT, reduceCtorEq]; rfl)) (opL_U hx) (by decide) (by show 7 ≤ 1000000; decide)) ?_
      simp only [go_sem, ↓reduceIte, ↓reduceDIte, zA, zM, zL, zE, zD, yA, yE, yL, yQ, yT, reduceCtorEq, hb]
      exact ⟨rfl, st01.trans (StepN.new h1 _)⟩
end
end Go.Proofs.YtiokmoepojdfmaaDoor
