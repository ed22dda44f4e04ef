/-
  The program's row of numbers.
-/
import Derived.Test.YtiokmoepojdfmaaDoorClD
set_option linter.unusedVariables false
set_option linter.unusedSimpArgs false
namespace Go.Proofs.YtiokmoepojdfmaaDoor
open Go.Proofs.YtiokmoepojdfmaaDoor.Eo
open Nat renaming reduceAdd → zA, reduceMul → zM, reduceLT → zL, reduceEqDiff → zE, reduceLeDiff → zD
open Int renaming reduceAdd → yA, reduceLE → yE, reduceLT → yL, reduceEq → yQ, reduceToNat → yT
open Go.Lib (decDigits itoa)
noncomputable section
theorem app_next (h : H) (e : TypeId) (v : AV) (cs : List AV) : (appT h e v cs).next = h.next + 1 := rfl
theorem StepN.app {h0 h : H} {v : AV} (st : StepN h0 h) (x : AO) (hw : ∀ a, own v = some a → h0.next ≤ a) (e : TypeId) (cs : List AV) : StepN h0 (appT ⟨h.next + 1, h.t.set h.next x⟩ e v cs) := by
  refine ⟨by rw [app_next]; have := st.next; show h0.next ≤ h.next + 1 + 1; omega, fun b hb => ?_⟩
  have := st.next
  rw [app_get (by show b < h.next + 1; omega) (fun hh => by have := hw b hh; omega), ← st.old b hb]
  have e0 : ¬ b = h.next := by omega
  simp only [go_sem, ↓reduceIte, ↓reduceDIte, zA, zM, zL, zE, zD, yA, yE, yL, yQ, yT, reduceCtorEq, e0]
def strA (x : Int) : AV := .str (strB (itoa x))
def I8 (h0 : H) (v : AV) (l : List Int) (k : Nat) (tm : T AV) (h : H) : Prop :=
  StepN h0 h ∧ tm.get 6 = some v ∧ tm.get 7 = some (.int .i64 (l.length : Int)) ∧ ∃ (i : Nat) (o : AV), i + k = l.length ∧ tm.get 8 = some (.int .i64 (i : Int)) ∧ tm.get 3 = some o ∧ Own 1 9 h o i ((l.take i).map strA) ∧ ∀ b, own o = some b → h0.next ≤ b
theorem step8 (P : Program) {call : CallE} {h0 : H} {e : TypeId} {v : AV} {l : List Int} (hT : TabH h0) (hp0 : 0 < h0.next) (hv0 : Own 1 e h0 v l.length (l.map (AV.int .i64))) (hl : ∀ x ∈ l, inI x) (hl2 : l.length ≤ 1000000)
    (h16 : ∀ h (u : Int), TabH h → inI u → call 16 [.int .i64 u] h = some (strA u, h)) (k : Nat) (tm : T AV) (h : H) (hI : I8 h0 v l k tm h) :
    WC P call c8_l7 (loopQ 0 (fun tm h => ∃ j, j < k ∧ I8 h0 v l j tm h) (fun tm h => StepN h0 h ∧ ∃ o, tm.get 3 = some o ∧ Own 1 9 h o l.length (l.map strA)) (fun _ _ => False)) tm h := by
  obtain ⟨st, t6, t7, i, o, hik, t8, t3, ho, hlo⟩ := hI
  have hv := Own.grow hv0 st
  cases k with
  | zero =>
    have e1 : ¬ (i : Int) < (l.length : Int) := by omega
    simp only [go_sem, ↓reduceIte, ↓reduceDIte, zA, zM, zL, zE, zD, yA, yE, yL, yQ, yT, reduceCtorEq, c8_l7, t7, t8, e1]
    have hi : i = l.length := by omega
    rw [hi, List.take_length] at ho
    exact ⟨st, o, t3, ho⟩
  | succ k =>
    have e1 : (i : Int) < (l.length : Int) := by omega
    have hi : i < l.length := by omega
    have hx := hl l[i] (List.getElem_mem hi)
    have hc := h16 h l[i] (st.tab hT hp0) hx
    generalize hcs : l.map (AV.int .i64) = cs at hv hv0
    generalize hln : l.length = n at hv hv0
    have hget : cs[i]? = some (.int .i64 l[i]) := by rw [← hcs, List.getElem?_map, List.getElem?_eq_getElem hi]; rfl
    cases hv with
    | nil => omega
    | sl a len cs cap hc0 hp hcl ha hg =>
      rw [hln] at e1 hik t7
      have f1 : fw .i64 ((i : Int) + 1) = (i : Int) + 1 := fwI (by omega) (by omega)
      have e3 : ((i + 1 : Nat) : Int) = (i : Int) + 1 := rfl
      have one : oneA (strA l[i]) = true := rfl
      simp only [go_sem, ↓reduceIte, ↓reduceDIte, zA, zM, zL, zE, zD, yA, yE, yL, yQ, yT, reduceCtorEq, c8_l7, t6, t7, t8, t3, e1, Nat.mul_one, hg, hget, hc, one]
      have sn : StepN h ⟨h.next + 1, h.t.set h.next (.row (putList 0 [strA l[i]] T.e) 1 9)⟩ := StepN.new _ _
      have oo := Own.grow ho sn
      refine opt_some (appA_own oo (by decide) (by decide) (by omega) (by omega)) ?_
      have st3 := st.app (v := o) (.row (putList 0 [strA l[i]] T.e) 1 9) hlo 9 ((l.take i).map strA ++ [strA l[i]])
      have n0 := st.next
      simp only [go_sem, ↓reduceIte, ↓reduceDIte, zA, zM, zL, zE, zD, yA, yE, yL, yQ, yT, reduceCtorEq, t8, f1]
      refine ⟨k, Nat.lt_succ_self k, st3, by simp [go_sem, t6], by simp [go_sem, t7, hln], i + 1, appV ⟨h.next + 1, h.t.set h.next (.row (putList 0 [strA l[i]] T.e) 1 9)⟩ 1 (i + 1), by omega, by simp [go_sem, e3], by simp [go_sem], ?_, fun b hb => ?_⟩
      · have := own_app (src := [strA l[i]]) oo (n := 1) (by decide) rfl
        rw [List.take_add_one, List.getElem?_eq_getElem hi, List.map_append]
        exact this
      · rw [own_appV] at hb
        simp only [Option.some.injEq] at hb
        omega
theorem strB_list (a : List UInt8) : (strB a).data.toList = a := by
  show a.toArray.toList = a
  simp
theorem w8 (P : Program) {call : CallE} {h : H} {e : TypeId} {v : AV} {l : List Int} (hT : TabH h) (hp0 : 0 < h.next) (hv : Own 1 e h v l.length (l.map (AV.int .i64))) (hl : ∀ x ∈ l, inI x) (hne : l ≠ []) (hl2 : l.length ≤ 1000000)
    (h16 : ∀ h (u : Int), TabH h → inI u → call 16 [.int .i64 u] h = some (strA u, h)) (h17 : ∀ h v sep xs, JoinH h v sep xs → call 17 [v, .str sep] h = some (.str (strB (JoinB xs sep)), h)) :
    WF P call c8 [v] h fun v' h' => v' = .str (strB (rowB l)) ∧ StepN h h' := by
  have hla := hv.lenA
  simp only [go_sem, ↓reduceIte, ↓reduceDIte, zA, zM, zL, zE, zD, yA, yE, yL, yQ, yT, reduceCtorEq, c8, hla]
  refine loop_in (I8 h v l) _ _ (fun k tm h' hI => step8 P hT hp0 hv hl hl2 h16 k tm h' hI) (fun tm2 h2 hR => ?_) (fun _ _ hh => hh.elim) l.length _ _
    ⟨StepN.refl h, by simp [go_sem], by simp [go_sem], 0, .nils, by omega, by simp [go_sem], by simp [go_sem], by rw [List.take_zero]; exact .nil, fun b hb => by simp [own] at hb⟩
  obtain ⟨st, o, t3, ho⟩ := hR
  have hm : (l.map fun x => strB (itoa x)).map AV.str = l.map strA := by rw [List.map_map]; rfl
  have hjb : JoinB (l.map fun x => strB (itoa x)) (strB [32]) = rowB l := by
    unfold JoinB rowB
    rw [List.map_map, strB_list]
    congr 1
  have hlen := rowB_len l hl l.length (Nat.le_refl _)
  rw [List.take_length] at hlen
  have c32 : (⟨#[32]⟩ : ByteArray) = strB [32] := rfl
  have hj : JoinH h2 o (strB [32]) (l.map fun x => strB (itoa x)) := ⟨by simpa using hne, by rw [hm, List.length_map]; exact ho, by rw [hjb]; omega, by rw [List.length_map]; omega⟩
  have hcall := h17 h2 o (strB [32]) _ hj
  rw [hjb] at hcall
  simp only [go_sem, ↓reduceIte, ↓reduceDIte, zA, zM, zL, zE, zD, yA, yE, yL, yQ, yT, reduceCtorEq, t3, c32, hcall]
  exact st
end
end Go.Proofs.YtiokmoepojdfmaaDoor
