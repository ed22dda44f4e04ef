/-
  Rows of numbers, the second part.
-/
import Derived.Test.YtiokmoepojdfmaaDoorClC
set_option linter.unusedVariables false
set_option linter.unusedSimpArgs false
namespace Go.Proofs.YtiokmoepojdfmaaDoor
open Go.Proofs.YtiokmoepojdfmaaDoor.Eo
open Nat renaming reduceAdd → zA, reduceMul → zM, reduceLT → zL, reduceEqDiff → zE, reduceLeDiff → zD
open Int renaming reduceAdd → yA, reduceLE → yE, reduceLT → yL, reduceEq → yQ, reduceToNat → yT
open Go.Lib (decDigits itoa)
noncomputable section
def I19 (h0 : H) (v : AV) (w : List UInt8) (l : List Int) (k : Nat) (tm : T AV) (h : H) : Prop :=
  StepN h0 h ∧ tm.get 1 = some v ∧ ∃ i : Nat, i + k = l.length ∧ tm.get 5 = some (.int .i64 (i : Int)) ∧ tm.get 0 = some (.str (strB (joinL w (l.take i))))
theorem Own.grow {h h' : H} {es : Nat} {e : TypeId} {v : AV} {len : Nat} {cs : List AV} (o : Own es e h v len cs) (st : StepN h h') : Own es e h' v len cs := o.keep st.next fun b hb => st.old b (o.lt hb)
theorem step19 (P : Program) {call : CallE} {h0 : H} {e : TypeId} {v : AV} {w : List UInt8} {l : List Int} (hv0 : Own 1 e h0 v l.length (l.map (AV.int .u64))) (hl : ∀ x ∈ l, inU x) (hw : w.length ≤ 1000000) (hl2 : l.length ≤ 1000000)
    (h20 : ∀ h (u : Nat), u < 18446744073709551616 → ∃ v h', call 20 [.int .u64 (u : Int)] h = some (v, h') ∧ (v = .str (strB (decDigits u)) ∧ StepN h h')) (k : Nat) (tm : T AV) (h : H) (hI : I19 h0 v w l k tm h) :
    WC P call c19_l5 (loopQ 0 (fun tm h => ∃ j, j < k ∧ I19 h0 v w l j tm h) (fun tm h => StepN h0 h ∧ tm.get 0 = some (.str (strB (joinL w l)))) (fun _ _ => False)) tm h := by
  obtain ⟨st, t1, i, hik, t5, t0⟩ := hI
  have hv := Own.grow hv0 st
  have hla := hv.lenA
  cases k with
  | zero =>
    have e1 : ¬ (i : Int) < (l.length : Int) := by omega
    simp only [go_sem, ↓reduceIte, ↓reduceDIte, zA, zM, zL, zE, zD, yA, yE, yL, yQ, yT, reduceCtorEq, c19_l5, t1, t5, hla, e1]
    have hi : i = l.length := by omega
    rw [hi, List.take_length] at t0
    exact ⟨st, t0⟩
  | succ k =>
    have e1 : (i : Int) < (l.length : Int) := by omega
    have hi : i < l.length := by omega
    have hx := hl l[i] (List.getElem_mem hi)
    obtain ⟨u, hu⟩ : ∃ u : Nat, l[i] = u := ⟨l[i].toNat, by have := hx.1; omega⟩
    have hu2 : u < 18446744073709551616 := by have := hx.2; omega
    have hd := decDigits_le hu2
    have hjl := take_len w l hl i
    have hjs := joinL_succ w l hi
    rw [hu, Int.toNat_natCast] at hjs
    generalize joinL w (l.take i) = r at *
    generalize hcs : l.map (AV.int .u64) = cs at hv hv0
    generalize hln : l.length = n at hv hv0 hla
    have hget : cs[i]? = some (.int .u64 u) := by rw [← hcs, List.getElem?_map, List.getElem?_eq_getElem hi, hu]; rfl
    cases hv with
    | nil => omega
    | sl a len cs cap hc0 hp hcl ha hg =>
      rw [hln] at e1 hik
      have f1 : fw .i64 ((i : Int) + 1) = (i : Int) + 1 := fwI (by omega) (by omega)
      have e3 : ((i + 1 : Nat) : Int) = (i : Int) + 1 := rfl
      have c32 : (⟨#[32]⟩ : ByteArray) = strB [32] := rfl
      have s1 : r.length + 1 ≤ 9223372036854775807 := by omega
      have s2 : r.length + (1 + (decDigits u).length) ≤ 9223372036854775807 := by omega
      simp only [go_sem, ↓reduceIte, ↓reduceDIte, zA, zM, zL, zE, zD, yA, yE, yL, yQ, yT, reduceCtorEq, c19_l5, t1, t5, t0, e1, Nat.mul_one, hg, hget, c32, strB_size, strB_app, s1]
      refine opt_by (h20 h u hu2) fun v' h' p => ?_
      obtain ⟨rfl, st2⟩ := p
      simp only [go_sem, ↓reduceIte, ↓reduceDIte, zA, zM, zL, zE, zD, yA, yE, yL, yQ, yT, reduceCtorEq, t5, c32, strB_size, strB_app, s2, f1]
      refine ⟨k, Nat.lt_succ_self k, st.trans st2, by simp [go_sem, t1], i + 1, by omega, by simp [go_sem, e3], ?_⟩
      simp only [go_sem, ↓reduceIte, ↓reduceDIte, zA, zM, zL, zE, zD, yA, yE, yL, yQ, yT, reduceCtorEq]
      rw [hjs, List.append_assoc]
      rfl
theorem w19 (P : Program) {call : CallE} {h : H} {e : TypeId} {v : AV} {w : List UInt8} {l : List Int} (hv : Own 1 e h v l.length (l.map (AV.int .u64))) (hl : ∀ x ∈ l, inU x) (hw : w.length ≤ 1000000) (hl2 : l.length ≤ 1000000)
    (h20 : ∀ h (u : Nat), u < 18446744073709551616 → ∃ v h', call 20 [.int .u64 (u : Int)] h = some (v, h') ∧ (v = .str (strB (decDigits u)) ∧ StepN h h')) : WF P call c19 [.str (strB w), v] h fun v' h' => v' = .str (strB (joinL w l)) ∧ StepN h h' := by
  simp only [go_sem, ↓reduceIte, ↓reduceDIte, zA, zM, zL, zE, zD, yA, yE, yL, yQ, yT, reduceCtorEq, c19]
  refine loop_in (I19 h v w l) _ _ (fun k tm h' hI => step19 P hv hl hw hl2 h20 k tm h' hI) (fun tm2 h2 hR => ?_) (fun _ _ hh => hh.elim) l.length _ _
    ⟨StepN.refl h, by simp [go_sem], 0, by omega, by simp [go_sem], by simp [go_sem, joinL, List.take_zero, List.flatMap_nil, List.append_nil]⟩
  obtain ⟨st, t0⟩ := hR
  simp only [go_sem, ↓reduceIte, ↓reduceDIte, zA, zM, zL, zE, zD, yA, yE, yL, yQ, yT, reduceCtorEq, t0]
  exact st
/-- numbers with blanks between them -/
def rowB (l : List Int) : List UInt8 := Go.Lib.join (l.map itoa) [32]
theorem rowB_succ (l : List Int) {i : Nat} (hi : i < l.length) : rowB (l.take (i + 1)) = if i = 0 then itoa l[i] else rowB (l.take i) ++ ([32] ++ itoa l[i]) := by
  unfold rowB
  cases l with
  | nil => simp at hi
  | cons x r =>
    cases i with
    | zero => rw [if_pos rfl]; exact Go.Lib.join_one _ _
    | succ i =>
      have hi2 : i < r.length := by simpa using hi
      rw [if_neg (by omega), List.take_succ_cons, List.take_succ_cons, List.map_cons, List.map_cons, Go.Lib.join_cons, Go.Lib.join_cons, List.map_take, List.map_take, Go.Lib.joinTail_take_succ _ _ _ (itoa r[i]) (by rw [List.getElem?_map, List.getElem?_eq_getElem hi2]; rfl)]
      simp only [List.append_assoc, List.getElem_cons_succ]
theorem itoa_le {v : Int} (h0 : -9223372036854775808 ≤ v) (h1 : v ≤ 9223372036854775807) : (itoa v).length ≤ 21 := by
  by_cases hn : v < 0
  · obtain ⟨u, rfl⟩ : ∃ u : Nat, v = -(u : Int) := ⟨v.natAbs, by omega⟩
    rw [Go.Lib.itoa_neg u (by omega), List.length_cons]
    have := decDigits_le (u := u) (by omega)
    omega
  · obtain ⟨u, rfl⟩ : ∃ u : Nat, v = u := ⟨v.toNat, by omega⟩
    rw [Go.Lib.itoa_nonneg]
    have := decDigits_le (u := u) (by omega)
    omega
def inI (x : Int) : Prop := -9223372036854775807 ≤ x ∧ x ≤ 9223372036854775807
theorem rowB_len (l : List Int) (hl : ∀ x ∈ l, inI x) : ∀ i, i ≤ l.length → (rowB (l.take i)).length ≤ 22 * i
  | 0, _ => Nat.le_refl _
  | i + 1, hi => by
    have hi2 : i < l.length := by omega
    have ih := rowB_len l hl i (by omega)
    have hx := hl l[i] (List.getElem_mem hi2)
    have hd := itoa_le (v := l[i]) (by have := hx.1; omega) hx.2
    rw [rowB_succ l hi2]
    split
    · omega
    · simp only [List.length_append, List.length_cons, List.length_nil]; omega
def I11 (h0 : H) (v : AV) (l : List Int) (k : Nat) (tm : T AV) (h : H) : Prop :=
  h = h0 ∧ tm.get 0 = some v ∧ ∃ i : Nat, i + k = l.length ∧ tm.get 4 = some (.int .i64 (i : Int)) ∧ tm.get 3 = some (.str (strB (rowB (l.take i))))
theorem step11 (P : Program) {call : CallE} {h0 : H} {e : TypeId} {v : AV} {l : List Int} (hv : Own 1 e h0 v l.length (l.map (AV.int .i64))) (hl : ∀ x ∈ l, inI x) (hl2 : l.length ≤ 1000000)
    (h24 : ∀ u : Int, inI u → call 24 [.int .i64 u] h0 = some (.str (strB (itoa u)), h0)) (k : Nat) (tm : T AV) (h : H) (hI : I11 h0 v l k tm h) :
    WC P call c11_l8 (loopQ 0 (fun tm h => ∃ j, j < k ∧ I11 h0 v l j tm h) (fun tm h => h = h0 ∧ tm.get 3 = some (.str (strB (rowB l)))) (fun _ _ => False)) tm h := by
  obtain ⟨rfl, t0, i, hik, t4, t3⟩ := hI
  have hla := hv.lenA
  cases k with
  | zero =>
    have e1 : ¬ (i : Int) < (l.length : Int) := by omega
    simp only [go_sem, ↓reduceIte, ↓reduceDIte, zA, zM, zL, zE, zD, yA, yE, yL, yQ, yT, reduceCtorEq, c11_l8, t0, t4, hla, e1]
    have hi : i = l.length := by omega
    rw [hi, List.take_length] at t3
    exact t3
  | succ k =>
    have e1 : (i : Int) < (l.length : Int) := by omega
    have hi : i < l.length := by omega
    have hx := hl l[i] (List.getElem_mem hi)
    have hc := h24 l[i] hx
    have hd := itoa_le (v := l[i]) (by have := hx.1; omega) hx.2
    have hjl := rowB_len l hl i (by omega)
    have hjs := rowB_succ l hi
    generalize hr : rowB (l.take i) = r at *
    generalize hcs : l.map (AV.int .i64) = cs at hv
    generalize hln : l.length = n at hv hla
    have hget : cs[i]? = some (.int .i64 l[i]) := by rw [← hcs, List.getElem?_map, List.getElem?_eq_getElem hi]; rfl
    cases hv with
    | nil => omega
    | sl a len cs cap hc0 hp hcl ha hg =>
      rw [hln] at e1 hik
      have f1 : fw .i64 ((i : Int) + 1) = (i : Int) + 1 := fwI (by omega) (by omega)
      have e3 : ((i + 1 : Nat) : Int) = (i : Int) + 1 := rfl
      have c32 : (⟨#[32]⟩ : ByteArray) = strB [32] := rfl
      have s1 : r.length + 1 ≤ 9223372036854775807 := by omega
      have s2 : r.length + (1 + (itoa l[i]).length) ≤ 9223372036854775807 := by omega
      have s3 : r.length + (itoa l[i]).length ≤ 9223372036854775807 := by omega
      by_cases h0 : i = 0
      · have e4 : ¬ (0 : Int) < (i : Int) := by omega
        have r0 : r = [] := by rw [← hr, h0]; rfl
        rw [if_pos h0] at hjs
        simp only [go_sem, ↓reduceIte, ↓reduceDIte, zA, zM, zL, zE, zD, yA, yE, yL, yQ, yT, reduceCtorEq, c11_l8, t0, t4, t3, hla, e1, e4, Nat.mul_one, hg, hget, hc, c32, strB_size, strB_app, s1, s2, s3, f1]
        refine ⟨k, Nat.lt_succ_self k, rfl, by simp [go_sem, t0], i + 1, by omega, by simp [go_sem, e3], ?_⟩
        simp only [go_sem, ↓reduceIte, ↓reduceDIte, zA, zM, zL, zE, zD, yA, yE, yL, yQ, yT, reduceCtorEq]
        rw [hjs, r0, List.nil_append]
      · have e4 : (0 : Int) < (i : Int) := by omega
        rw [if_neg h0] at hjs
        simp only [go_sem, ↓reduceIte, ↓reduceDIte, zA, zM, zL, zE, zD, yA, yE, yL, yQ, yT, reduceCtorEq, c11_l8, t0, t4, t3, hla, e1, e4, Nat.mul_one, hg, hget, hc, c32, strB_size, strB_app, s1, s2, s3, f1]
        refine ⟨k, Nat.lt_succ_self k, rfl, by simp [go_sem, t0], i + 1, by omega, by simp [go_sem, e3], ?_⟩
        simp only [go_sem, ↓reduceIte, ↓reduceDIte, zA, zM, zL, zE, zD, yA, yE, yL, yQ, yT, reduceCtorEq]
        rw [hjs, List.append_assoc]
theorem w11 (P : Program) {call : CallE} {h : H} {e : TypeId} {v : AV} {l : List Int} (hv : Own 1 e h v l.length (l.map (AV.int .i64))) (hl : ∀ x ∈ l, inI x) (hl2 : l.length ≤ 1000000)
    (h24 : ∀ u : Int, inI u → call 24 [.int .i64 u] h = some (.str (strB (itoa u)), h)) : WF P call c11 [v] h fun v' h' => v' = .str (strB (rowB l)) ∧ h' = h := by
  simp only [go_sem, ↓reduceIte, ↓reduceDIte, zA, zM, zL, zE, zD, yA, yE, yL, yQ, yT, reduceCtorEq, c11]
  refine loop_in (I11 h v l) _ _ (fun k tm h' hI => step11 P hv hl hl2 h24 k tm h' hI) (fun tm2 h2 hR => ?_) (fun _ _ hh => hh.elim) l.length _ _
    ⟨rfl, by simp [go_sem], 0, by omega, by simp [go_sem], by simp only [go_sem, ↓reduceIte, ↓reduceDIte, zA, zM, zL, zE, zD, yA, yE, yL, yQ, yT, reduceCtorEq]; rfl⟩
  obtain ⟨rfl, t0⟩ := hR
  simp only [go_sem, ↓reduceIte, ↓reduceDIte, zA, zM, zL, zE, zD, yA, yE, yL, yQ, yT, reduceCtorEq, t0]
end
end Go.Proofs.YtiokmoepojdfmaaDoor
