/-
  Numbers as digits: of the reference of layer 44, of that of layer 45.
-/
import Derived.Test.YtiokmoepojdfmaaDoorClA
set_option linter.unusedVariables false
set_option linter.unusedSimpArgs false
namespace Go.Proofs.YtiokmoepojdfmaaDoor
open Go.Proofs.YtiokmoepojdfmaaDoor.Eo
open Nat renaming reduceAdd → zA, reduceMul → zM, reduceLT → zL, reduceEqDiff → zE, reduceLeDiff → zD
open Int renaming reduceAdd → yA, reduceLE → yE, reduceLT → yL, reduceEq → yQ, reduceToNat → yT
open Go.Lib (decDigits itoa)
noncomputable section
/-! 20: leapfrog/leapfrogref44.digits -/
@[go_sem] def c20_s0 : List SQ := [⟨some 2, none, .p (.mv (.c (.str ⟨#[]⟩)))⟩]
@[go_sem] def c20_s1 : List SQ := [⟨some 3, none, .p (.mv (.c (.str ⟨#[]⟩)))⟩]
@[go_sem] def c20_s2 : List SQ := [⟨some 4, none, .p (.mv (.t 0))⟩, ⟨some 5, none, .p (.bin .gtr 22 false true (.t 4) (.c (.int .u64 9)))⟩]
@[go_sem] def c20_s3 : List SQ := [⟨some 6, none, .p (.mv (.t 0))⟩, ⟨some 7, none, .p (.bin .rem 22 false true (.t 6) (.c (.int .u64 10)))⟩, ⟨some 8, none, .p (.bin .add 22 true false (.c (.int .u64 48)) (.t 7))⟩, ⟨some 9, none, .p (.conv .u8 (.t 8))⟩, ⟨some 10, none, .n (.buildS 5 1 1 [.int .u8 0] [(0, 1, (.t 9))])⟩, ⟨some 11, none, .s (.b2s (.t 10))⟩, ⟨some 12, none, .p (.mv (.t 3))⟩, ⟨some 13, none, .p (.bin .add 9 false false (.t 11) (.t 12))⟩, ⟨some 3, none, .p (.mv (.t 13))⟩]
@[go_sem] def c20_s4 : List SQ := [⟨some 14, none, .p (.mv (.t 0))⟩, ⟨some 15, none, .p (.bin .quo 22 false true (.t 14) (.c (.int .u64 10)))⟩, ⟨some 0, none, .p (.mv (.t 15))⟩]
def c20_l5 : CC := (.seq (.seq (.ops c20_s2) (.cond (.t 5) .skip (.exit 0))) (.block 1 (.seq (.ops c20_s3) (.ops c20_s4))))
@[go_sem] def c20_s6 : List SQ := [⟨some 16, none, .p (.mv (.t 0))⟩, ⟨some 17, none, .p (.bin .add 22 true false (.c (.int .u64 48)) (.t 16))⟩, ⟨some 18, none, .p (.conv .u8 (.t 17))⟩, ⟨some 19, none, .n (.buildS 5 1 1 [.int .u8 0] [(0, 1, (.t 18))])⟩, ⟨some 20, none, .s (.b2s (.t 19))⟩, ⟨some 21, none, .p (.mv (.t 3))⟩, ⟨some 22, none, .p (.bin .add 9 false false (.t 20) (.t 21))⟩, ⟨some 2, none, .p (.mv (.t 22))⟩]
@[go_sem] def c20 : CF := ⟨1, (.seq (.ops c20_s0) (.seq (.ops c20_s1) (.seq (.block 0 (.loop c20_l5)) (.seq (.ops c20_s6) .ret)))), [.tmp 2]⟩
theorem c20_eq : cCF Tryd.prog 20 1 = some c20 := by kernel_rfl
/-! 32: leapfrog/leapfrogref45.Digits -/
@[go_sem] def c32_s0 : List SQ := [⟨some 2, none, .p (.mv (.c (.str ⟨#[]⟩)))⟩]
@[go_sem] def c32_s1 : List SQ := [⟨some 3, none, .p (.mv (.c (.str ⟨#[]⟩)))⟩]
@[go_sem] def c32_s2 : List SQ := [⟨some 4, none, .p (.mv (.t 0))⟩, ⟨some 5, none, .p (.bin .geq 22 false true (.t 4) (.c (.int .u64 10)))⟩]
@[go_sem] def c32_s3 : List SQ := [⟨some 6, none, .p (.mv (.t 0))⟩, ⟨some 7, none, .p (.bin .rem 22 false true (.t 6) (.c (.int .u64 10)))⟩, ⟨some 8, none, .p (.bin .add 22 true false (.c (.int .u64 48)) (.t 7))⟩, ⟨some 9, none, .p (.conv .i32 (.t 8))⟩, ⟨some 10, none, .p (.convs (.t 9))⟩, ⟨some 11, none, .p (.mv (.t 3))⟩, ⟨some 12, none, .p (.bin .add 9 false false (.t 10) (.t 11))⟩, ⟨some 3, none, .p (.mv (.t 12))⟩]
@[go_sem] def c32_s4 : List SQ := [⟨some 13, none, .p (.mv (.t 0))⟩, ⟨some 14, none, .p (.bin .quo 22 false true (.t 13) (.c (.int .u64 10)))⟩, ⟨some 0, none, .p (.mv (.t 14))⟩]
def c32_l5 : CC := (.seq (.seq (.ops c32_s2) (.cond (.t 5) .skip (.exit 0))) (.block 1 (.seq (.ops c32_s3) (.ops c32_s4))))
@[go_sem] def c32_s6 : List SQ := [⟨some 15, none, .p (.mv (.t 0))⟩, ⟨some 16, none, .p (.bin .add 22 true false (.c (.int .u64 48)) (.t 15))⟩, ⟨some 17, none, .p (.conv .i32 (.t 16))⟩, ⟨some 18, none, .p (.convs (.t 17))⟩, ⟨some 19, none, .p (.mv (.t 3))⟩, ⟨some 20, none, .p (.bin .add 9 false false (.t 18) (.t 19))⟩, ⟨some 2, none, .p (.mv (.t 20))⟩]
@[go_sem] def c32 : CF := ⟨1, (.seq (.ops c32_s0) (.seq (.ops c32_s1) (.seq (.block 0 (.loop c32_l5)) (.seq (.ops c32_s6) .ret)))), [.tmp 2]⟩
theorem c32_eq : cCF Tryd.prog 32 1 = some c32 := by kernel_rfl
/-! 24: leapfrog/leapfrogref45.digits -/
@[go_sem] def c24_s0 : List SQ := [⟨some 2, none, .p (.mv (.c (.str ⟨#[]⟩)))⟩]
@[go_sem] def c24_s1 : List SQ := [⟨some 3, none, .p (.mv (.t 0))⟩, ⟨some 4, none, .p (.bin .lss 3 false true (.t 3) (.c (.int .i64 0)))⟩]
@[go_sem] def c24_s2 : List SQ := [⟨some 5, none, .p (.mv (.t 0))⟩, ⟨some 6, none, .p (.un .neg (.t 5))⟩, ⟨some 7, none, .p (.conv .u64 (.t 6))⟩, ⟨some 8, none, .cv (.c (.fn (.func 32) [] [])) [(.t 7)]⟩, ⟨some 9, none, .p (.bin .add 9 true false (.c (.str ⟨#[45]⟩)) (.t 8))⟩, ⟨some 2, none, .p (.mv (.t 9))⟩]
@[go_sem] def c24_s3 : List SQ := [⟨some 10, none, .p (.mv (.t 0))⟩, ⟨some 11, none, .p (.conv .u64 (.t 10))⟩, ⟨some 12, none, .cv (.c (.fn (.func 32) [] [])) [(.t 11)]⟩, ⟨some 2, none, .p (.mv (.t 12))⟩]
@[go_sem] def c24 : CF := ⟨1, (.seq (.ops c24_s0) (.seq (.seq (.ops c24_s1) (.cond (.t 4) (.seq (.ops c24_s2) .ret) .skip)) (.seq (.ops c24_s3) .ret))), [.tmp 2]⟩
theorem c24_eq : cCF Tryd.prog 24 1 = some c24 := by kernel_rfl
/-! 16: leapfrog/console.number -/
@[go_sem] def c16_s0 : List SQ := [⟨some 2, none, .p (.mv (.c (.str ⟨#[]⟩)))⟩]
@[go_sem] def c16_s1 : List SQ := [⟨some 3, none, .p (.mv (.t 0))⟩, ⟨some 4, none, .cv (.c (.fn (.func 26) [] [])) [(.t 3)]⟩, ⟨some 2, none, .p (.mv (.t 4))⟩]
@[go_sem] def c16 : CF := ⟨1, (.seq (.ops c16_s0) (.seq (.ops c16_s1) .ret)), [.tmp 2]⟩
theorem c16_eq : cCF Tryd.prog 16 1 = some c16 := by kernel_rfl

/-- nothing old is changed -/
structure StepN (h h' : H) : Prop where
  next : h.next ≤ h'.next
  old : ∀ b, b < h.next → h'.t.get b = h.t.get b
theorem StepN.refl (h : H) : StepN h h := ⟨Nat.le_refl _, fun _ _ => rfl⟩
theorem StepN.trans {a b c : H} (h : StepN a b) (k : StepN b c) : StepN a c := ⟨Nat.le_trans h.next k.next, fun x hx => (k.old x (Nat.lt_of_lt_of_le hx h.next)).trans (h.old x hx)⟩
theorem StepN.new (h : H) (x : AO) : StepN h ⟨h.next + 1, h.t.set h.next x⟩ := ⟨Nat.le_add_right _ _, fun b hb => by
  have e1 : ¬ b = h.next := by omega
  simp only [go_sem, ↓reduceIte, ↓reduceDIte, zA, zM, zL, zE, zD, yA, yE, yL, yQ, yT, reduceCtorEq, e1]⟩
theorem StepN.tab {h h' : H} (s : StepN h h') (t : TabH h) (hn : 0 < h.next) : TabH h' := by
  obtain ⟨c, h0, hc⟩ := t
  exact ⟨c, (s.old 0 hn).trans h0, hc⟩
theorem strB_app (a b : List UInt8) : strB a ++ strB b = strB (a ++ b) := by
  apply ByteArray.ext
  show (strB a ++ strB b).data = (a ++ b).toArray
  rw [ByteArray.data_append]
  show a.toArray ++ b.toArray = _
  simp
theorem strB_size (a : List UInt8) : (strB a).size = a.length := by
  show a.toArray.size = _
  simp
theorem push1 (b : UInt8) : ByteArray.empty.push b = strB [b] := rfl
theorem enc1 : ∀ d : Nat, d < 10 → Utf8.encode (48 + (d : Int)) = strB [UInt8.ofNat (48 + d)]
  | 0, _ => rfl | 1, _ => rfl | 2, _ => rfl | 3, _ => rfl | 4, _ => rfl | 5, _ => rfl | 6, _ => rfl | 7, _ => rfl | 8, _ => rfl | 9, _ => rfl
  | n + 10, h => by omega
def b2sV (g : Nat → Option AO) : Option AV → Option AV
  | some .nils => some (.str .empty)
  | some (.sl a o len 1 _) => match g a with
    | some (.row cells _ _) => match getList cells o len with
      | some l => match bytesOf l with
        | some ns => some (.str (ns.foldl (fun r n => r.push (UInt8.ofNat n.toNat)) ByteArray.empty))
        | none => none
      | none => none
    | _ => none
  | _ => none
@[go_sem] theorem rB2s (tm : T AV) (g : Nat → Option AO) (x : Opd) : evS tm g (.b2s x) = b2sV g (evo tm x) := by
  unfold evS
  dsimp only
  generalize evo tm x = v
  unfold b2sV
  rfl
theorem decDigits_small {u : Nat} (h : u < 10) : decDigits u = [UInt8.ofNat (48 + u)] := by rw [decDigits, dif_pos h]
theorem decDigits_big {u : Nat} (h : ¬ u < 10) : decDigits u = decDigits (u / 10) ++ [UInt8.ofNat (48 + u % 10)] := by rw [decDigits, dif_neg h]
theorem decDigits_le {u : Nat} (h : u < 18446744073709551616) : (decDigits u).length ≤ 20 := by
  rw [Go.Lib.decDigits_length]
  rcases Nat.eq_zero_or_pos u with rfl | h1
  · rw [Go.Lib.nDigits_small (by omega)]; omega
  · have := Go.Lib.numDigits_eq u h1 h
    split at this <;> omega
theorem toN (d : Nat) : ((48 : Int) + (d : Int)).toNat = 48 + d := by omega
def I20 (h0 : H) (u : Nat) (k : Nat) (tm : T AV) (h : H) : Prop :=
  k ≤ u ∧ tm.get 0 = some (.int .u64 (k : Int)) ∧ ∃ r, tm.get 3 = some (.str (strB r)) ∧ decDigits u = decDigits k ++ r ∧ StepN h0 h
def R20 (h0 : H) (u : Nat) (tm : T AV) (h : H) : Prop := ∃ k : Nat, k < 10 ∧ I20 h0 u k tm h
theorem step20 (P : Program) {call : CallE} {h0 : H} {u : Nat} (hu : u < 18446744073709551616) (k : Nat) (tm : T AV) (h : H) (hI : I20 h0 u k tm h) :
    WC P call c20_l5 (loopQ 0 (fun tm h => ∃ j, j < k ∧ I20 h0 u j tm h) (R20 h0 u) (fun _ _ => False)) tm h := by
  obtain ⟨hk, t0, r, t3, hd, st⟩ := id hI
  have hl := decDigits_le hu
  rw [hd, List.length_append] at hl
  by_cases h9 : k < 10
  · have e1 : ¬ (9 : Int) < (k : Int) := by omega
    simp only [go_sem, ↓reduceIte, ↓reduceDIte, zA, zM, zL, zE, zD, yA, yE, yL, yQ, yT, reduceCtorEq, c20_l5, t0, e1]
    exact ⟨k, h9, hk, by simp [go_sem, t0], r, by simp [go_sem, t3], hd, st⟩
  · have e1 : (9 : Int) < (k : Int) := by omega
    have e2 : (k : Int).tmod 10 = ((k % 10 : Nat) : Int) := rfl
    have e3 : (k : Int).tdiv 10 = ((k / 10 : Nat) : Int) := rfl
    obtain ⟨d, hd0⟩ : ∃ d, d = k % 10 := ⟨_, rfl⟩
    have hd1 : d < 10 := by omega
    have f1 : fw .u64 (48 + (d : Int)) = 48 + (d : Int) := fwU (by omega) (by omega)
    have f2 : fw .u8 (48 + (d : Int)) = 48 + (d : Int) := fwB (by omega) (by omega)
    have f3 : fw .u64 ((k / 10 : Nat) : Int) = ((k / 10 : Nat) : Int) := fwU (by omega) (by omega)
    have sz : 1 + r.length ≤ 9223372036854775807 := by omega
    have hk2 := decDigits_big h9
    rw [← hd0] at hk2 e2
    simp only [go_sem, ↓reduceIte, ↓reduceDIte, zA, zM, zL, zE, zD, yA, yE, yL, yQ, yT, reduceCtorEq, c20_l5, t0, t3, e1, e2, e3, f1, f2, f3, b2sV, bytesOf, List.foldl_cons, List.foldl_nil, push1, strB_size, strB_app, toN, sz]
    refine ⟨k / 10, by omega, by omega, by simp [go_sem], UInt8.ofNat (48 + d) :: r, by simp [go_sem], ?_, st.trans (StepN.new _ _)⟩
    rw [hd, hk2, List.append_assoc]
    rfl
theorem w20 (P : Program) {call : CallE} {h : H} {u : Nat} (hu : u < 18446744073709551616) : WF P call c20 [.int .u64 (u : Int)] h fun v h' => v = .str (strB (decDigits u)) ∧ StepN h h' := by
  simp only [go_sem, ↓reduceIte, ↓reduceDIte, zA, zM, zL, zE, zD, yA, yE, yL, yQ, yT, reduceCtorEq, c20]
  refine loop_in (I20 h u) _ _ (fun k tm h' hI => step20 P hu k tm h' hI) (fun tm2 h2 hR => ?_) (fun _ _ hh => hh.elim) u _ _
    ⟨Nat.le_refl _, by simp [go_sem], [], by simp only [go_sem, ↓reduceIte, ↓reduceDIte, zA, zM, zL, zE, zD, yA, yE, yL, yQ, yT, reduceCtorEq]; rfl, (List.append_nil _).symm, StepN.refl h⟩
  obtain ⟨d, hd1, hk, t0, r, t3, hd, st⟩ := hR
  have hl := decDigits_le hu
  rw [hd, List.length_append] at hl
  have f1 : fw .u64 (48 + (d : Int)) = 48 + (d : Int) := fwU (by omega) (by omega)
  have f2 : fw .u8 (48 + (d : Int)) = 48 + (d : Int) := fwB (by omega) (by omega)
  have sz : 1 + r.length ≤ 9223372036854775807 := by omega
  simp only [go_sem, ↓reduceIte, ↓reduceDIte, zA, zM, zL, zE, zD, yA, yE, yL, yQ, yT, reduceCtorEq, t0, t3, f1, f2, b2sV, bytesOf, List.foldl_cons, List.foldl_nil, push1, strB_size, strB_app, toN, sz]
  refine ⟨?_, st.trans (StepN.new _ _)⟩
  rw [hd, decDigits_small hd1]
  rfl
end
end Go.Proofs.YtiokmoepojdfmaaDoor
