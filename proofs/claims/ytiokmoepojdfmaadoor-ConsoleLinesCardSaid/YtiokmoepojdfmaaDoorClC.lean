/-
  Rows of numbers: of the program and of the references.
-/
import Derived.Test.YtiokmoepojdfmaaDoorClB
set_option linter.unusedVariables false
set_option linter.unusedSimpArgs false
namespace Go.Proofs.YtiokmoepojdfmaaDoor
open Go.Proofs.YtiokmoepojdfmaaDoor.Eo
open Nat renaming reduceAdd → zA, reduceMul → zM, reduceLT → zL, reduceEqDiff → zE, reduceLeDiff → zD
open Int renaming reduceAdd → yA, reduceLE → yE, reduceLT → yL, reduceEq → yQ, reduceToNat → yT
open Go.Lib (decDigits itoa)
noncomputable section
/-! 14: leapfrog/text.join -/
@[go_sem] def c14_s0 : List SQ := [⟨some 4, none, .p (.mv (.c (.str ⟨#[]⟩)))⟩]
@[go_sem] def c14_s1 : List SQ := [⟨some 7, none, .p (.mv (.t 1))⟩, ⟨some 8, none, .p (.lenv (.t 7))⟩, ⟨some 9, none, .p (.mv (.c (.int .i64 0)))⟩]
@[go_sem] def c14_s2 : List SQ := [⟨some 10, none, .p (.bin .lss 3 false false (.t 9) (.t 8))⟩]
@[go_sem] def c14_s3 : List SQ := [⟨some 11, none, .p (.iadrS 1 (.t 7) (.t 9))⟩, ⟨some 12, none, .r (.ld none (.t 11))⟩, ⟨some 6, none, .p (.mv (.t 12))⟩]
@[go_sem] def c14_s4 : List SQ := [⟨some 13, none, .p (.mv (.t 0))⟩, ⟨some 14, none, .p (.mv (.t 6))⟩, ⟨some 15, none, .cv (.c (.fn (.func 25) [] [])) [(.t 14), (.c (.int .i64 10))]⟩, ⟨some 16, none, .p (.bin .add 9 true false (.c (.str ⟨#[32]⟩)) (.t 15))⟩, ⟨some 17, none, .p (.bin .add 9 false false (.t 13) (.t 16))⟩, ⟨some 0, none, .p (.mv (.t 17))⟩]
@[go_sem] def c14_s5 : List SQ := [⟨some 18, none, .p (.bin .add 3 false true (.t 9) (.c (.int .i64 1)))⟩, ⟨some 9, none, .p (.mv (.t 18))⟩]
def c14_l6 : CC := (.seq (.ops c14_s2) (.seq (.cond (.t 10) .skip (.exit 0)) (.seq (.block 1 (.seq (.ops c14_s3) (.ops c14_s4))) (.ops c14_s5))))
@[go_sem] def c14_s7 : List SQ := [⟨some 19, none, .p (.mv (.t 0))⟩, ⟨some 4, none, .p (.mv (.t 19))⟩]
@[go_sem] def c14 : CF := ⟨2, (.seq (.ops c14_s0) (.seq (.seq (.ops c14_s1) (.block 0 (.loop c14_l6))) (.seq (.ops c14_s7) .ret))), [.tmp 4]⟩
theorem c14_eq : cCF Tryd.prog 14 2 = some c14 := by kernel_rfl
/-! 19: leapfrog/leapfrogref44.join -/
@[go_sem] def c19_s0 : List SQ := [⟨some 4, none, .p (.mv (.c (.str ⟨#[]⟩)))⟩]
@[go_sem] def c19_s1 : List SQ := [⟨some 5, none, .p (.mv (.c (.int .i64 0)))⟩]
@[go_sem] def c19_s2 : List SQ := [⟨some 6, none, .p (.mv (.t 5))⟩, ⟨some 7, none, .p (.mv (.t 1))⟩, ⟨some 8, none, .p (.lenv (.t 7))⟩, ⟨some 9, none, .p (.bin .lss 3 false false (.t 6) (.t 8))⟩]
@[go_sem] def c19_s3 : List SQ := [⟨some 12, none, .p (.mv (.t 0))⟩, ⟨some 13, none, .p (.bin .add 9 false true (.t 12) (.c (.str ⟨#[32]⟩)))⟩, ⟨some 14, none, .p (.mv (.t 1))⟩, ⟨some 15, none, .p (.mv (.t 5))⟩, ⟨some 16, none, .p (.iadrS 1 (.t 14) (.t 15))⟩, ⟨some 17, none, .r (.ld none (.t 16))⟩, ⟨some 18, none, .cv (.c (.fn (.func 20) [] [])) [(.t 17)]⟩, ⟨some 19, none, .p (.bin .add 9 false false (.t 13) (.t 18))⟩, ⟨some 0, none, .p (.mv (.t 19))⟩]
@[go_sem] def c19_s4 : List SQ := [⟨some 10, none, .p (.mv (.t 5))⟩, ⟨some 11, none, .p (.bin .add 3 false true (.t 10) (.c (.int .i64 1)))⟩, ⟨some 5, none, .p (.mv (.t 11))⟩]
def c19_l5 : CC := (.seq (.seq (.ops c19_s2) (.cond (.t 9) .skip (.exit 0))) (.seq (.block 1 (.ops c19_s3)) (.ops c19_s4)))
@[go_sem] def c19_s6 : List SQ := [⟨some 20, none, .p (.mv (.t 0))⟩, ⟨some 4, none, .p (.mv (.t 20))⟩]
@[go_sem] def c19 : CF := ⟨2, (.seq (.ops c19_s0) (.seq (.seq (.ops c19_s1) (.block 0 (.loop c19_l5))) (.seq (.ops c19_s6) .ret))), [.tmp 4]⟩
theorem c19_eq : cCF Tryd.prog 19 2 = some c19 := by kernel_rfl
/-! 11: leapfrog/leapfrogref45.row -/
@[go_sem] def c11_s0 : List SQ := [⟨some 2, none, .p (.mv (.c (.str ⟨#[]⟩)))⟩]
@[go_sem] def c11_s1 : List SQ := [⟨some 3, none, .p (.mv (.c (.str ⟨#[]⟩)))⟩]
@[go_sem] def c11_s2 : List SQ := [⟨some 4, none, .p (.mv (.c (.int .i64 0)))⟩]
@[go_sem] def c11_s3 : List SQ := [⟨some 5, none, .p (.mv (.t 4))⟩, ⟨some 6, none, .p (.mv (.t 0))⟩, ⟨some 7, none, .p (.lenv (.t 6))⟩, ⟨some 8, none, .p (.bin .lss 3 false false (.t 5) (.t 7))⟩]
@[go_sem] def c11_s4 : List SQ := [⟨some 11, none, .p (.mv (.t 4))⟩, ⟨some 12, none, .p (.bin .gtr 3 false true (.t 11) (.c (.int .i64 0)))⟩]
@[go_sem] def c11_s5 : List SQ := [⟨some 13, none, .p (.mv (.t 3))⟩, ⟨some 14, none, .p (.bin .add 9 false true (.t 13) (.c (.str ⟨#[32]⟩)))⟩, ⟨some 3, none, .p (.mv (.t 14))⟩]
@[go_sem] def c11_s6 : List SQ := [⟨some 15, none, .p (.mv (.t 3))⟩, ⟨some 16, none, .p (.mv (.t 0))⟩, ⟨some 17, none, .p (.mv (.t 4))⟩, ⟨some 18, none, .p (.iadrS 1 (.t 16) (.t 17))⟩, ⟨some 19, none, .r (.ld none (.t 18))⟩, ⟨some 20, none, .cv (.c (.fn (.func 24) [] [])) [(.t 19)]⟩, ⟨some 21, none, .p (.bin .add 9 false false (.t 15) (.t 20))⟩, ⟨some 3, none, .p (.mv (.t 21))⟩]
@[go_sem] def c11_s7 : List SQ := [⟨some 9, none, .p (.mv (.t 4))⟩, ⟨some 10, none, .p (.bin .add 3 false true (.t 9) (.c (.int .i64 1)))⟩, ⟨some 4, none, .p (.mv (.t 10))⟩]
def c11_l8 : CC := (.seq (.seq (.ops c11_s3) (.cond (.t 8) .skip (.exit 0))) (.seq (.block 1 (.seq (.seq (.ops c11_s4) (.cond (.t 12) (.ops c11_s5) .skip)) (.ops c11_s6))) (.ops c11_s7)))
@[go_sem] def c11_s9 : List SQ := [⟨some 22, none, .p (.mv (.t 3))⟩, ⟨some 2, none, .p (.mv (.t 22))⟩]
@[go_sem] def c11 : CF := ⟨1, (.seq (.ops c11_s0) (.seq (.ops c11_s1) (.seq (.seq (.ops c11_s2) (.block 0 (.loop c11_l8))) (.seq (.ops c11_s9) .ret)))), [.tmp 2]⟩
theorem c11_eq : cCF Tryd.prog 11 1 = some c11 := by kernel_rfl
/-! 8: leapfrog/console.join -/
@[go_sem] def c8_s0 : List SQ := [⟨some 2, none, .p (.mv (.c (.str ⟨#[]⟩)))⟩]
@[go_sem] def c8_s1 : List SQ := [⟨some 3, none, .p (.mv (.c .nils))⟩]
@[go_sem] def c8_s2 : List SQ := [⟨some 6, none, .p (.mv (.t 0))⟩, ⟨some 7, none, .p (.lenv (.t 6))⟩, ⟨some 8, none, .p (.mv (.c (.int .i64 0)))⟩]
@[go_sem] def c8_s3 : List SQ := [⟨some 9, none, .p (.bin .lss 3 false false (.t 8) (.t 7))⟩]
@[go_sem] def c8_s4 : List SQ := [⟨some 10, none, .p (.iadrS 1 (.t 6) (.t 8))⟩, ⟨some 11, none, .r (.ld none (.t 10))⟩, ⟨some 5, none, .p (.mv (.t 11))⟩]
@[go_sem] def c8_s5 : List SQ := [⟨some 12, none, .p (.mv (.t 3))⟩, ⟨some 13, none, .p (.mv (.t 5))⟩, ⟨some 14, none, .cv (.c (.fn (.func 16) [] [])) [(.t 13)]⟩, ⟨some 15, none, .n (.buildS 9 1 1 [.str ⟨#[]⟩] [(0, 1, (.t 14))])⟩, ⟨some 16, none, .e (.app 9 1 16 (.t 12) (.t 15))⟩, ⟨some 3, none, .p (.mv (.t 16))⟩]
@[go_sem] def c8_s6 : List SQ := [⟨some 17, none, .p (.bin .add 3 false true (.t 8) (.c (.int .i64 1)))⟩, ⟨some 8, none, .p (.mv (.t 17))⟩]
def c8_l7 : CC := (.seq (.ops c8_s3) (.seq (.cond (.t 9) .skip (.exit 0)) (.seq (.block 1 (.seq (.ops c8_s4) (.ops c8_s5))) (.ops c8_s6))))
@[go_sem] def c8_s8 : List SQ := [⟨some 18, none, .p (.mv (.t 3))⟩, ⟨some 19, none, .cv (.c (.fn (.func 17) [] [])) [(.t 18), (.c (.str ⟨#[32]⟩))]⟩, ⟨some 2, none, .p (.mv (.t 19))⟩]
@[go_sem] def c8 : CF := ⟨1, (.seq (.ops c8_s0) (.seq (.ops c8_s1) (.seq (.seq (.ops c8_s2) (.block 0 (.loop c8_l7))) (.seq (.ops c8_s8) .ret)))), [.tmp 2]⟩
theorem c8_eq : cCF Tryd.prog 8 1 = some c8 := by kernel_rfl

def I32 (h0 : H) (u : Nat) (k : Nat) (tm : T AV) (h : H) : Prop :=
  k ≤ u ∧ tm.get 0 = some (.int .u64 (k : Int)) ∧ ∃ r, tm.get 3 = some (.str (strB r)) ∧ decDigits u = decDigits k ++ r ∧ h = h0
theorem fw32 : ∀ d : Nat, d < 10 → fw .i32 (48 + (d : Int)) = 48 + (d : Int) := fun d hd => fwIn (k := .i32) ⟨by omega, by omega⟩
theorem step32 (P : Program) {call : CallE} {h0 : H} {u : Nat} (hu : u < 18446744073709551616) (k : Nat) (tm : T AV) (h : H) (hI : I32 h0 u k tm h) :
    WC P call c32_l5 (loopQ 0 (fun tm h => ∃ j, j < k ∧ I32 h0 u j tm h) (fun tm h => ∃ k : Nat, k < 10 ∧ I32 h0 u k tm h) (fun _ _ => False)) tm h := by
  obtain ⟨hk, t0, r, t3, hd, st⟩ := id hI
  have hl := decDigits_le hu
  rw [hd, List.length_append] at hl
  by_cases h9 : k < 10
  · have e1 : (k : Int) < 10 := by omega
    simp only [go_sem, ↓reduceIte, ↓reduceDIte, zA, zM, zL, zE, zD, yA, yE, yL, yQ, yT, reduceCtorEq, c32_l5, t0, e1]
    exact ⟨k, h9, hk, by simp [go_sem, t0], r, by simp [go_sem, t3], hd, st⟩
  · have e1 : ¬ (k : Int) < 10 := by omega
    have e2 : (k : Int).tmod 10 = ((k % 10 : Nat) : Int) := rfl
    have e3 : (k : Int).tdiv 10 = ((k / 10 : Nat) : Int) := rfl
    obtain ⟨d, hd0⟩ : ∃ d, d = k % 10 := ⟨_, rfl⟩
    have hd1 : d < 10 := by omega
    have f1 : fw .u64 (48 + (d : Int)) = 48 + (d : Int) := fwU (by omega) (by omega)
    have f2 := fw32 d hd1
    have f3 : fw .u64 ((k / 10 : Nat) : Int) = ((k / 10 : Nat) : Int) := fwU (by omega) (by omega)
    have f4 := enc1 d hd1
    have sz : 1 + r.length ≤ 9223372036854775807 := by omega
    have hk2 := decDigits_big h9
    rw [← hd0] at hk2 e2
    simp only [go_sem, ↓reduceIte, ↓reduceDIte, zA, zM, zL, zE, zD, yA, yE, yL, yQ, yT, reduceCtorEq, c32_l5, t0, t3, e1, e2, e3, f1, f2, f3, f4, strB_size, strB_app, sz]
    refine ⟨k / 10, by omega, by omega, by simp [go_sem], UInt8.ofNat (48 + d) :: r, by simp [go_sem], ?_, st⟩
    rw [hd, hk2, List.append_assoc]
    rfl
theorem w32 (P : Program) {call : CallE} {h : H} {u : Nat} (hu : u < 18446744073709551616) : WF P call c32 [.int .u64 (u : Int)] h fun v h' => v = .str (strB (decDigits u)) ∧ h' = h := by
  simp only [go_sem, ↓reduceIte, ↓reduceDIte, zA, zM, zL, zE, zD, yA, yE, yL, yQ, yT, reduceCtorEq, c32]
  refine loop_in (I32 h u) _ _ (fun k tm h' hI => step32 P hu k tm h' hI) (fun tm2 h2 hR => ?_) (fun _ _ hh => hh.elim) u _ _
    ⟨Nat.le_refl _, by simp [go_sem], [], by simp only [go_sem, ↓reduceIte, ↓reduceDIte, zA, zM, zL, zE, zD, yA, yE, yL, yQ, yT, reduceCtorEq]; rfl, (List.append_nil _).symm, rfl⟩
  obtain ⟨d, hd1, hk, t0, r, t3, hd, rfl⟩ := hR
  have hl := decDigits_le hu
  rw [hd, List.length_append] at hl
  have f1 : fw .u64 (48 + (d : Int)) = 48 + (d : Int) := fwU (by omega) (by omega)
  have f2 := fw32 d hd1
  have f4 := enc1 d hd1
  have sz : 1 + r.length ≤ 9223372036854775807 := by omega
  simp only [go_sem, ↓reduceIte, ↓reduceDIte, zA, zM, zL, zE, zD, yA, yE, yL, yQ, yT, reduceCtorEq, t0, t3, f1, f2, f4, strB_size, strB_app, sz]
  rw [hd, decDigits_small hd1]
  rfl
theorem w24 (P : Program) {call : CallE} (h32 : ∀ h (u : Nat), u < 18446744073709551616 → call 32 [.int .u64 (u : Int)] h = some (.str (strB (decDigits u)), h)) {h : H} {v : Int} (h0 : -9223372036854775807 ≤ v) (h1 : v ≤ 9223372036854775807) : WF P call c24 [.int .i64 v] h fun w h' => w = .str (strB (itoa v)) ∧ h' = h := by
  by_cases hn : v < 0
  · obtain ⟨u, rfl⟩ : ∃ u : Nat, v = -(u : Int) := ⟨v.natAbs, by omega⟩
    have f1 : fw .i64 (0 - -(u : Int)) = (u : Int) := by rw [show (0 : Int) - -(u : Int) = u by omega]; exact fwI (by omega) (by omega)
    have f2 : fw .u64 (u : Int) = (u : Int) := fwU (by omega) (by omega)
    have hc := h32 h u (by omega)
    have hl := decDigits_le (u := u) (by omega)
    have sz : 1 + (decDigits u).length ≤ 9223372036854775807 := by omega
    have c45 : (⟨#[45]⟩ : ByteArray) = strB [45] := rfl
    have e : itoa (-(u : Int)) = 45 :: decDigits u := Go.Lib.itoa_neg u (by omega)
    simp only [go_sem, ↓reduceIte, ↓reduceDIte, zA, zM, zL, zE, zD, yA, yE, yL, yQ, yT, reduceCtorEq, c24, hn, f1, f2, hc, c45, strB_size, strB_app, sz, e]
  · obtain ⟨u, rfl⟩ : ∃ u : Nat, v = u := ⟨v.toNat, by omega⟩
    have f2 : fw .u64 (u : Int) = (u : Int) := fwU (by omega) (by omega)
    have hc := h32 h u (by omega)
    simp only [go_sem, ↓reduceIte, ↓reduceDIte, zA, zM, zL, zE, zD, yA, yE, yL, yQ, yT, reduceCtorEq, c24, hn, f2, hc, Go.Lib.itoa_nonneg]
theorem w16 (P : Program) {call : CallE} {h : H} {v : Int} (hc : call 26 [.int .i64 v] h = some (.str (strB (itoa v)), h)) : WF P call c16 [.int .i64 v] h fun w h' => w = .str (strB (itoa v)) ∧ h' = h := by
  simp only [go_sem, ↓reduceIte, ↓reduceDIte, zA, zM, zL, zE, zD, yA, yE, yL, yQ, yT, reduceCtorEq, c16, hc]
def inU (x : Int) : Prop := 0 ≤ x ∧ x < 18446744073709551616
/-- a word and numbers -/
def joinL (w : List UInt8) (l : List Int) : List UInt8 := w ++ l.flatMap fun x => 32 :: decDigits x.toNat
theorem joinL_succ (w : List UInt8) (l : List Int) {i : Nat} (hi : i < l.length) : joinL w (l.take (i + 1)) = joinL w (l.take i) ++ (32 :: decDigits l[i].toNat) := by
  unfold joinL
  rw [List.take_add_one, List.getElem?_eq_getElem hi, List.flatMap_append, List.append_assoc]
  simp only [Option.toList_some, List.flatMap_cons, List.flatMap_nil, List.append_nil]
theorem joinL_len (w : List UInt8) : ∀ (l : List Int), (∀ x ∈ l, inU x) → (joinL w l).length ≤ w.length + 21 * l.length
  | [], _ => by unfold joinL; simp
  | x :: l, h => by
    have ih := joinL_len w l fun y hy => h y (List.mem_cons_of_mem _ hy)
    have hx := h x (List.mem_cons_self ..)
    have hd := decDigits_le (u := x.toNat) (by have := hx.2; omega)
    unfold joinL at ih ⊢
    simp only [List.length_append, List.flatMap_cons, List.length_cons] at ih ⊢
    omega
def I14 (h0 : H) (v : AV) (w : List UInt8) (l : List Int) (k : Nat) (tm : T AV) (h : H) : Prop :=
  h = h0 ∧ tm.get 7 = some v ∧ tm.get 8 = some (.int .i64 (l.length : Int)) ∧ ∃ i : Nat, i + k = l.length ∧ tm.get 9 = some (.int .i64 (i : Int)) ∧ tm.get 0 = some (.str (strB (joinL w (l.take i))))
theorem take_len (w : List UInt8) (l : List Int) (hl : ∀ x ∈ l, inU x) (i : Nat) : (joinL w (l.take i)).length ≤ w.length + 21 * l.length := by
  have h := joinL_len w (l.take i) fun x hx => hl x (List.mem_of_mem_take hx)
  have : (l.take i).length ≤ l.length := by rw [List.length_take]; omega
  omega
theorem step14 (P : Program) {call : CallE} {h0 : H} {e : TypeId} {v : AV} {w : List UInt8} {l : List Int} (hv : Own 1 e h0 v l.length (l.map (AV.int .u64))) (hl : ∀ x ∈ l, inU x) (hw : w.length ≤ 1000000) (hl2 : l.length ≤ 1000000)
    (h25 : ∀ u : Int, inU u → call 25 [.int .u64 u, .int .i64 10] h0 = some (.str (strB (decDigits u.toNat)), h0)) (k : Nat) (tm : T AV) (h : H) (hI : I14 h0 v w l k tm h) :
    WC P call c14_l6 (loopQ 0 (fun tm h => ∃ j, j < k ∧ I14 h0 v w l j tm h) (fun tm h => h = h0 ∧ tm.get 0 = some (.str (strB (joinL w l)))) (fun _ _ => False)) tm h := by
  obtain ⟨rfl, t7, t8, i, hik, t9, t0⟩ := hI
  cases k with
  | zero =>
    have e1 : ¬ (i : Int) < (l.length : Int) := by omega
    simp only [go_sem, ↓reduceIte, ↓reduceDIte, zA, zM, zL, zE, zD, yA, yE, yL, yQ, yT, reduceCtorEq, c14_l6, t8, t9, e1]
    have hi : i = l.length := by omega
    rw [hi, List.take_length] at t0
    exact t0
  | succ k =>
    have e1 : (i : Int) < (l.length : Int) := by omega
    have hi : i < l.length := by omega
    have hx := hl l[i] (List.getElem_mem hi)
    have hc := h25 l[i] hx
    have hd := decDigits_le (u := l[i].toNat) (by have := hx.2; omega)
    have hjl := take_len w l hl i
    have hjs := joinL_succ w l hi
    generalize joinL w (l.take i) = r at *
    generalize hcs : l.map (AV.int .u64) = cs at hv
    generalize hln : l.length = n at hv
    have hget : cs[i]? = some (.int .u64 l[i]) := by rw [← hcs, List.getElem?_map, List.getElem?_eq_getElem hi]; rfl
    cases hv with
    | nil => omega
    | sl a len cs cap hc0 hp hcl ha hg =>
      rw [hln] at e1 t8 hik
      have f1 : fw .i64 ((i : Int) + 1) = (i : Int) + 1 := fwI (by omega) (by omega)
      have e3 : ((i + 1 : Nat) : Int) = (i : Int) + 1 := rfl
      have c32 : (⟨#[32]⟩ : ByteArray) = strB [32] := rfl
      have s1 : 1 + (decDigits l[i].toNat).length ≤ 9223372036854775807 := by omega
      have s2 : r.length + ((decDigits l[i].toNat).length + 1) ≤ 9223372036854775807 := by omega
      simp only [go_sem, ↓reduceIte, ↓reduceDIte, zA, zM, zL, zE, zD, yA, yE, yL, yQ, yT, reduceCtorEq, c14_l6, t7, t8, t9, t0, e1, Nat.mul_one, hg, hget, hc, c32, strB_size, strB_app, s1, s2, f1]
      refine ⟨k, Nat.lt_succ_self k, rfl, by simp [go_sem, t7], by simp [go_sem, t8, hln], i + 1, by omega, by simp [go_sem, e3], by simp [go_sem, hjs]⟩
theorem w14 (P : Program) {call : CallE} {h : H} {e : TypeId} {v : AV} {w : List UInt8} {l : List Int} (hv : Own 1 e h v l.length (l.map (AV.int .u64))) (hl : ∀ x ∈ l, inU x) (hw : w.length ≤ 1000000) (hl2 : l.length ≤ 1000000)
    (h25 : ∀ u : Int, inU u → call 25 [.int .u64 u, .int .i64 10] h = some (.str (strB (decDigits u.toNat)), h)) : WF P call c14 [.str (strB w), v] h fun v' h' => v' = .str (strB (joinL w l)) ∧ h' = h := by
  have hla := hv.lenA
  simp only [go_sem, ↓reduceIte, ↓reduceDIte, zA, zM, zL, zE, zD, yA, yE, yL, yQ, yT, reduceCtorEq, c14, hla]
  refine loop_in (I14 h v w l) _ _ (fun k tm h' hI => step14 P hv hl hw hl2 h25 k tm h' hI) (fun tm2 h2 hR => ?_) (fun _ _ hh => hh.elim) l.length _ _
    ⟨rfl, by simp [go_sem], by simp [go_sem], 0, by omega, by simp [go_sem], by simp [go_sem, joinL, List.take_zero, List.flatMap_nil, List.append_nil]⟩
  obtain ⟨rfl, t0⟩ := hR
  simp only [go_sem, ↓reduceIte, ↓reduceDIte, zA, zM, zL, zE, zD, yA, yE, yL, yQ, yT, reduceCtorEq, t0]
end
end Go.Proofs.YtiokmoepojdfmaaDoor
