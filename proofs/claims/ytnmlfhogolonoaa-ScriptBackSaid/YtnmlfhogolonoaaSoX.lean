/-
  A number that is read: (*reader).number of package script.
-/
import Derived.Test.YtnmlfhogolonoaaSoV
set_option linter.unusedVariables false
set_option linter.unusedSimpArgs false
namespace Go.Proofs.Ytnmlfhogolonoaa
open Go.Proofs.Ytnmlfhogolonoaa.Eo
open Nat renaming reduceAdd → zA, reduceMul → zM, reduceLT → zL, reduceEqDiff → zE, reduceLeDiff → zD
open Int renaming reduceAdd → yA, reduceLE → yE, reduceLT → yL, reduceEq → yQ, reduceToNat → yT
noncomputable section
/-! 65: (*leapfrog/script.reader).count -/
@[go_sem] def c65_s0 : List SQ := [⟨some 4, none, .p (.mv (.c (.int .i64 0)))⟩]
@[go_sem] def c65_s1 : List SQ := [⟨some 6, none, .p (.mv (.t 0))⟩, ⟨some 7, none, .cv (.c (.fn (.func 66) [] [])) [(.t 6)]⟩, ⟨some 5, none, .p (.mv (.t 7))⟩]
@[go_sem] def c65_s2 : List SQ := [⟨some 8, none, .p (.mv (.t 5))⟩, ⟨some 9, none, .p (.mv (.t 1))⟩, ⟨some 10, none, .p (.conv .u64 (.t 9))⟩, ⟨some 11, none, .p (.bin .gtr 43 false false (.t 8) (.t 10))⟩]
@[go_sem] def c65_s3 : List SQ := [⟨some 12, none, .p (.mv (.t 0))⟩, ⟨some 13, none, .p (.mv (.t 0))⟩, ⟨some 14, none, .p (.nilck (.t 12))⟩, ⟨some 15, none, .p (.fadr 1 (.t 14))⟩, ⟨none, none, .e (.st 1 (.t 15) (.c (.bool true)))⟩, ⟨some 16, none, .p (.nilck (.t 13))⟩, ⟨some 17, none, .p (.fadr 0 (.t 16))⟩, ⟨none, none, .e (.st 1 (.t 17) (.c (.str ⟨#[]⟩)))⟩]
@[go_sem] def c65_s4 : List SQ := [⟨some 4, none, .p (.mv (.c (.int .i64 0)))⟩]
@[go_sem] def c65_s5 : List SQ := [⟨some 18, none, .p (.mv (.t 5))⟩, ⟨some 19, none, .p (.conv .i64 (.t 18))⟩, ⟨some 4, none, .p (.mv (.t 19))⟩]
@[go_sem] def c65 : CF := ⟨2, (.seq (.ops c65_s0) (.seq (.ops c65_s1) (.seq (.seq (.ops c65_s2) (.cond (.t 11) (.seq (.ops c65_s3) (.seq (.ops c65_s4) .ret)) .skip)) (.seq (.ops c65_s5) .ret)))), [.tmp 4]⟩
theorem c65_eq : cCF Try.prog 65 2 = some c65 := by kernel_rfl
/-! 66: (*leapfrog/script.reader).number -/
@[go_sem] def c66_s0 : List SQ := [⟨some 2, none, .p (.mv (.c (.int .u64 0)))⟩]
@[go_sem] def c66_s1 : List SQ := [⟨some 3, none, .p (.mv (.c (.int .u64 0)))⟩]
@[go_sem] def c66_s2 : List SQ := [⟨some 4, none, .p (.mv (.c (.int .i64 0)))⟩]
@[go_sem] def c66_s3 : List SQ := [⟨some 5, none, .p (.mv (.t 4))⟩, ⟨some 6, none, .p (.mv (.t 0))⟩, ⟨some 7, none, .p (.nilck (.t 6))⟩, ⟨some 8, none, .p (.fadr 0 (.t 7))⟩, ⟨some 9, none, .r (.ld none (.t 8))⟩, ⟨some 10, none, .p (.lens (.t 9))⟩, ⟨some 11, none, .p (.bin .lss 3 false false (.t 5) (.t 10))⟩, ⟨some 12, none, .p (.mv (.t 11))⟩, ⟨some 13, some (12, true), .p (.mv (.t 4))⟩, ⟨some 14, some (12, true), .p (.bin .lss 3 false true (.t 13) (.c (.int .i64 10)))⟩, ⟨some 15, none, .p (.pick (.t 12) (.t 14) (.c (.bool false)))⟩]
@[go_sem] def c66_s4 : List SQ := [⟨some 18, none, .p (.mv (.t 3))⟩, ⟨some 19, none, .p (.mv (.t 0))⟩, ⟨some 20, none, .p (.nilck (.t 19))⟩, ⟨some 21, none, .p (.fadr 0 (.t 20))⟩, ⟨some 22, none, .r (.ld none (.t 21))⟩, ⟨some 23, none, .p (.mv (.t 4))⟩, ⟨some 24, none, .s (.idx (.t 22) (.t 23))⟩, ⟨some 25, none, .p (.bin .rem 5 false true (.t 24) (.c (.int .u8 128)))⟩, ⟨some 26, none, .p (.conv .u64 (.t 25))⟩, ⟨some 27, none, .p (.mv (.t 4))⟩, ⟨some 28, none, .p (.bin .mul 3 true false (.c (.int .i64 7)) (.t 27))⟩, ⟨some 29, none, .p (.bin .shl 43 false false (.t 26) (.t 28))⟩, ⟨some 30, none, .p (.bin .or 43 false false (.t 18) (.t 29))⟩, ⟨some 3, none, .p (.mv (.t 30))⟩]
@[go_sem] def c66_s5 : List SQ := [⟨some 31, none, .p (.mv (.t 0))⟩, ⟨some 32, none, .p (.nilck (.t 31))⟩, ⟨some 33, none, .p (.fadr 0 (.t 32))⟩, ⟨some 34, none, .r (.ld none (.t 33))⟩, ⟨some 35, none, .p (.mv (.t 4))⟩, ⟨some 36, none, .s (.idx (.t 34) (.t 35))⟩, ⟨some 37, none, .p (.bin .lss 5 false true (.t 36) (.c (.int .u8 128)))⟩]
@[go_sem] def c66_s6 : List SQ := [⟨some 38, none, .p (.mv (.t 0))⟩, ⟨some 39, none, .p (.mv (.t 0))⟩, ⟨some 40, none, .p (.nilck (.t 39))⟩, ⟨some 41, none, .p (.fadr 0 (.t 40))⟩, ⟨some 42, none, .r (.ld none (.t 41))⟩, ⟨some 43, none, .p (.mv (.t 4))⟩, ⟨some 44, none, .p (.bin .add 3 false true (.t 43) (.c (.int .i64 1)))⟩, ⟨some 45, none, .s (.slc (.t 42) (some (.t 44)) none)⟩, ⟨some 46, none, .p (.nilck (.t 38))⟩, ⟨some 47, none, .p (.fadr 0 (.t 46))⟩, ⟨none, none, .e (.st 1 (.t 47) (.t 45))⟩]
@[go_sem] def c66_s7 : List SQ := [⟨some 48, none, .p (.mv (.t 3))⟩, ⟨some 2, none, .p (.mv (.t 48))⟩]
@[go_sem] def c66_s8 : List SQ := [⟨some 16, none, .p (.mv (.t 4))⟩, ⟨some 17, none, .p (.bin .add 3 false true (.t 16) (.c (.int .i64 1)))⟩, ⟨some 4, none, .p (.mv (.t 17))⟩]
def c66_l9 : CC := (.seq (.seq (.ops c66_s3) (.cond (.t 15) .skip (.exit 0))) (.seq (.block 1 (.seq (.ops c66_s4) (.seq (.ops c66_s5) (.cond (.t 37) (.seq (.ops c66_s6) (.seq (.ops c66_s7) .ret)) .skip)))) (.ops c66_s8)))
@[go_sem] def c66_s10 : List SQ := [⟨some 49, none, .p (.mv (.t 0))⟩, ⟨some 50, none, .p (.mv (.t 0))⟩, ⟨some 51, none, .p (.nilck (.t 49))⟩, ⟨some 52, none, .p (.fadr 1 (.t 51))⟩, ⟨none, none, .e (.st 1 (.t 52) (.c (.bool true)))⟩, ⟨some 53, none, .p (.nilck (.t 50))⟩, ⟨some 54, none, .p (.fadr 0 (.t 53))⟩, ⟨none, none, .e (.st 1 (.t 54) (.c (.str ⟨#[]⟩)))⟩]
@[go_sem] def c66_s11 : List SQ := [⟨some 2, none, .p (.mv (.c (.int .u64 0)))⟩]
@[go_sem] def c66 : CF := ⟨1, (.seq (.ops c66_s0) (.seq (.ops c66_s1) (.seq (.seq (.ops c66_s2) (.block 0 (.loop c66_l9))) (.seq (.ops c66_s10) (.seq (.ops c66_s11) .ret))))), [.tmp 2]⟩
theorem c66_eq : cCF Try.prog 66 1 = some c66 := by kernel_rfl

open Go in
theorem fwU_mod (n : Nat) : fw .u64 (n : Int) = ((n % 18446744073709551616 : Nat) : Int) := by
  rw [fw_eq]
  unfold IntKind.wrap
  have h1 : IntKind.u64.signed = false := rfl
  have h2 : (2 : Int) ^ IntKind.u64.bits = 18446744073709551616 := rfl
  simp [h1, h2]
theorem or_shift {n m K : Nat} (hK : K ≤ 63) (hn : n < 2 ^ K) : orI .u64 (n : Int) (fw .u64 ((m : Int) * 2 ^ K)) = (n : Int) + fw .u64 ((m : Int) * 2 ^ K) := by
  have e1 : ((m : Int) * 2 ^ K) = ((m * 2 ^ K : Nat) : Int) := by push_cast; rfl
  rw [e1, fwU_mod]
  have hp : (18446744073709551616 : Nat) = 2 ^ K * 2 ^ (64 - K) := by rw [← Nat.pow_add, show K + (64 - K) = 64 by omega]
  have e2 : m * 2 ^ K % 18446744073709551616 = 2 ^ K * (m % 2 ^ (64 - K)) := by rw [hp, Nat.mul_comm m, Nat.mul_mod_mul_left]
  have hlt : 2 ^ K * (m % 2 ^ (64 - K)) + n < 18446744073709551616 := by
    have : m % 2 ^ (64 - K) < 2 ^ (64 - K) := Nat.mod_lt _ (Nat.two_pow_pos _)
    have h2 : 2 ^ K * (m % 2 ^ (64 - K) + 1) ≤ 2 ^ K * 2 ^ (64 - K) := Nat.mul_le_mul_left _ this
    rw [← hp, Nat.mul_add] at h2
    omega
  rw [e2]
  generalize hq : m % 2 ^ (64 - K) = q at hlt
  unfold orI
  have e3 : (BitVec.ofInt IntKind.u64.bits (n : Int) ||| BitVec.ofInt IntKind.u64.bits ((2 ^ K * q : Nat) : Int)).toNat = 2 ^ K * q + n := by
    rw [BitVec.toNat_or, BitVec.ofInt_natCast, BitVec.ofInt_natCast, BitVec.toNat_ofNat, BitVec.toNat_ofNat]
    have h64 : (2 : Nat) ^ IntKind.u64.bits = 18446744073709551616 := rfl
    rw [h64, Nat.mod_eq_of_lt (by omega), Nat.mod_eq_of_lt (by omega), Nat.or_comm, Nat.two_pow_add_eq_or_of_lt hn]
  rw [e3, fwU (by omega) (by omega)]
  omega
theorem or_acc {acc : Int} {m i : Nat} (hi : i ≤ 9) (h0 : 0 ≤ acc) (h1 : acc < 2 ^ (7 * i)) : orI .u64 acc (fw .u64 ((m : Int) * 2 ^ (7 * i))) = acc + fw .u64 ((m : Int) * 2 ^ (7 * i)) := by
  obtain ⟨n, rfl⟩ : ∃ n : Nat, acc = n := ⟨acc.toNat, by omega⟩
  exact or_shift (by omega) (by exact_mod_cast h1)
theorem fw_bd (m K : Nat) : 0 ≤ fw .u64 ((m : Int) * 2 ^ K) ∧ fw .u64 ((m : Int) * 2 ^ K) ≤ ((m * 2 ^ K : Nat) : Int) := by
  have e1 : ((m : Int) * 2 ^ K) = ((m * 2 ^ K : Nat) : Int) := by push_cast; rfl
  rw [e1, fwU_mod]
  have := Nat.mod_le (m * 2 ^ K) 18446744073709551616
  omega
theorem acc_bd {acc : Int} {m i : Nat} (h0 : 0 ≤ acc) (h1 : acc < 2 ^ (7 * i)) (hm : m < 128) : 0 ≤ acc + fw .u64 ((m : Int) * 2 ^ (7 * i)) ∧ acc + fw .u64 ((m : Int) * 2 ^ (7 * i)) < 2 ^ (7 * (i + 1)) := by
  obtain ⟨a, b⟩ := fw_bd m (7 * i)
  obtain ⟨n, rfl⟩ : ∃ n : Nat, acc = n := ⟨acc.toNat, by omega⟩
  have h2 : n < 2 ^ (7 * i) := by exact_mod_cast h1
  have h3 : m * 2 ^ (7 * i) ≤ 127 * 2 ^ (7 * i) := Nat.mul_le_mul_right _ (by omega)
  have h4 : (2 : Nat) ^ (7 * (i + 1)) = 128 * 2 ^ (7 * i) := by rw [show 7 * (i + 1) = 7 * i + 7 by omega, Nat.pow_add]; omega
  have h5 : ((2 : Int) ^ (7 * (i + 1))) = ((2 ^ (7 * (i + 1)) : Nat) : Int) := by push_cast; rfl
  rw [h5, h4]
  omega
/-- a number's bytes read, least first -/
def numL (r : ByteArray) : Nat → Nat → Int → Option (Int × ByteArray)
  | 0, _, _ => none
  | k + 1, i, acc => if h : i < r.size then
      (if (r[i]'h).toNat < 128 then some (acc + fw .u64 (((r[i]'h).toNat : Int).tmod 128 * 2 ^ (7 * i)), subS r (i + 1) r.size) else numL r k (i + 1) (acc + fw .u64 (((r[i]'h).toNat : Int).tmod 128 * 2 ^ (7 * i))))
    else none
def numH (a : Nat) (h : H) (f : Bool) : Option (Int × ByteArray) → H
  | some (_, r') => ⟨h.next, h.t.set a (rowL [.str r', .bool f] 85)⟩
  | none => ⟨h.next, h.t.set a (rowL [.str ⟨#[]⟩, .bool true] 85)⟩
def numV : Option (Int × ByteArray) → Int
  | some (v, _) => v
  | none => 0
def I66 (h0 : H) (a : Nat) (r : ByteArray) (k : Nat) (tm : T AV) (h : H) : Prop :=
  h = h0 ∧ tm.get 0 = some (.ptr a 0) ∧ ∃ (i : Nat) (acc : Int), i + k = 10 ∧ tm.get 4 = some (.int .i64 (i : Int)) ∧ tm.get 3 = some (.int .u64 acc) ∧ 0 ≤ acc ∧ acc < 2 ^ (7 * i) ∧ numL r 10 0 0 = numL r k i acc
theorem step66 (P : Program) {call : CallE} {h0 : H} {a : Nat} {r : ByteArray} {f : Bool} (ga : h0.t.get a = some (rowL [.str r, .bool f] 85)) (hr : r.size ≤ 9223372036854775807) (k : Nat) (tm : T AV) (h : H) (hI : I66 h0 a r k tm h) :
    WC P call c66_l9 (loopQ 0 (fun tm h => ∃ j, j < k ∧ I66 h0 a r j tm h) (fun tm h => h = h0 ∧ tm.get 0 = some (.ptr a 0) ∧ numL r 10 0 0 = none) (fun tm h => tm.get 2 = some (.int .u64 (numV (numL r 10 0 0))) ∧ h = numH a h0 f (numL r 10 0 0) ∧ numL r 10 0 0 ≠ none)) tm h := by
  obtain ⟨rfl, t0, i, acc, hik, t4, t3, ha0, ha1, hnum⟩ := hI
  by_cases e1 : i < r.size
  case neg =>
    have e2 : ¬ (i : Int) < (r.size : Int) := by omega
    simp only [go_sem, ↓reduceIte, ↓reduceDIte, zA, zM, zL, zE, zD, yA, yE, yL, yQ, yT, reduceCtorEq, c66_l9, t0, t3, t4, ga, e2]
    rw [hnum]
    cases k with
    | zero => rfl
    | succ k => rw [numL, dif_neg e1]
  have e2 : (i : Int) < (r.size : Int) := by omega
  cases k with
  | zero =>
    have e3 : ¬ (i : Int) < 10 := by omega
    simp only [go_sem, ↓reduceIte, ↓reduceDIte, zA, zM, zL, zE, zD, yA, yE, yL, yQ, yT, reduceCtorEq, c66_l9, t0, t3, t4, ga, e2, e3]
    rw [hnum]
    rfl
  | succ k =>
    have e3 : (i : Int) < 10 := by omega
    have b8 : r[i].toNat < 256 := r[i].toNat_lt
    generalize hb : r[i].toNat = b at b8
    have f7 : fw .i64 (7 * (i : Int)) = 7 * (i : Int) := fwI (by omega) (by omega)
    have t7 : (b : Int).tmod 128 = ((b % 128 : Nat) : Int) := rfl
    have fb : fw .u64 ((b % 128 : Nat) : Int) = ((b % 128 : Nat) : Int) := fwU (by omega) (by omega)
    have n7 : ¬ 7 * (i : Int) < 0 := by omega
    have m7 : (7 * (i : Int)).toNat = 7 * i := by omega
    have k7 : min (7 * i) 64 = 7 * i := by omega
    have f1 : fw .i64 ((i : Int) + 1) = (i : Int) + 1 := fwI (by omega) (by omega)
    have hn2 : numL r (k + 1) i acc = if b < 128 then some (acc + fw .u64 ((b : Int).tmod 128 * 2 ^ (7 * i)), subS r (i + 1) r.size) else numL r k (i + 1) (acc + fw .u64 ((b : Int).tmod 128 * 2 ^ (7 * i))) := by rw [numL, dif_pos e1, hb]
    rw [hn2, t7] at hnum
    have hor := or_acc (m := b % 128) (i := i) (by omega) ha0 ha1
    have e5 : 0 ≤ (i : Int) + 1 ∧ (i : Int) + 1 ≤ (r.size : Int) := by omega
    have e6 : ((i : Int) + 1).toNat = i + 1 := by omega
    by_cases hlt : b < 128
    · have hlt2 : (b : Int) < 128 := by omega
      simp only [go_sem, ↓reduceIte, ↓reduceDIte, zA, zM, zL, zE, zD, yA, yE, yL, yQ, yT, reduceCtorEq, c66_l9, t0, t3, t4, ga, e1, e2, e3, hb, f7, t7, fb, n7, m7, k7, hlt2, f1, hor, e5, e6]
      rw [hnum, if_pos hlt]
      exact ⟨rfl, rfl, by simp⟩
    · have hlt2 : ¬ (b : Int) < 128 := by omega
      simp only [go_sem, ↓reduceIte, ↓reduceDIte, zA, zM, zL, zE, zD, yA, yE, yL, yQ, yT, reduceCtorEq, c66_l9, t0, t3, t4, ga, e1, e2, e3, hb, f7, t7, fb, n7, m7, k7, hlt2, f1, hor, e5, e6]
      rw [if_neg hlt] at hnum
      have e3' : ((i + 1 : Nat) : Int) = (i : Int) + 1 := rfl
      refine ⟨k, Nat.lt_succ_self k, rfl, by simp [go_sem, t0], i + 1, _, by omega, by simp [go_sem, e3'], by simp [go_sem], ?_, ?_, hnum⟩
      · exact (acc_bd ha0 ha1 (Nat.mod_lt _ (by decide))).1
      · exact (acc_bd ha0 ha1 (Nat.mod_lt _ (by decide))).2
def Post66 (a : Nat) (r : ByteArray) (f : Bool) (h : H) (v : AV) (h' : H) : Prop := v = .int .u64 (numV (numL r 10 0 0)) ∧ h' = numH a h f (numL r 10 0 0)
theorem w66 (P : Program) {call : CallE} {h : H} {a : Nat} {r : ByteArray} {f : Bool} (ga : h.t.get a = some (rowL [.str r, .bool f] 85)) (hr : r.size ≤ 9223372036854775807) : WF P call c66 [.ptr a 0] h (Post66 a r f h) := by
  simp only [go_sem, ↓reduceIte, ↓reduceDIte, zA, zM, zL, zE, zD, yA, yE, yL, yQ, yT, reduceCtorEq, c66]
  refine loop_in (I66 h a r) _ _ (fun k tm h' hI => step66 P ga hr k tm h' hI) (fun tm2 h2 hR => ?_) (fun tm2 h2 hS => ?_) 10 _ _
    ⟨rfl, by simp [go_sem], 0, 0, rfl, by simp [go_sem], by simp [go_sem], Int.le_refl _, by decide, rfl⟩
  · obtain ⟨rfl, t0, e⟩ := hR
    simp only [go_sem, ↓reduceIte, ↓reduceDIte, zA, zM, zL, zE, zD, yA, yE, yL, yQ, yT, reduceCtorEq, t0, ga]
    unfold Post66
    rw [e]
    exact ⟨rfl, rfl⟩
  · obtain ⟨t2, rfl, _⟩ := hS
    simp only [go_sem, ↓reduceIte, ↓reduceDIte, zA, zM, zL, zE, zD, yA, yE, yL, yQ, yT, reduceCtorEq, t2]
    exact ⟨rfl, rfl⟩
def cntH (a : Nat) (r : ByteArray) (f : Bool) (m : Int) (h : H) : H := if m < numV (numL r 10 0 0) then ⟨h.next, h.t.set a (rowL [.str ⟨#[]⟩, .bool true] 85)⟩ else numH a h f (numL r 10 0 0)
def cntV (r : ByteArray) (m : Int) : Int := if m < numV (numL r 10 0 0) then 0 else numV (numL r 10 0 0)
def Post65 (a : Nat) (r : ByteArray) (f : Bool) (m : Int) (h : H) (v : AV) (h' : H) : Prop := v = .int .i64 (cntV r m) ∧ h' = cntH a r f m h
theorem numL_nonneg (r : ByteArray) : ∀ (k i : Nat) (acc : Int), 0 ≤ acc → 0 ≤ numV (numL r k i acc)
  | 0, i, acc, h => Int.le_refl _
  | k + 1, i, acc, h => by
    rw [numL]
    split
    · rename_i hi
      have hm : ((r[i].toNat : Int).tmod 128) = ((r[i].toNat % 128 : Nat) : Int) := rfl
      have hb := fw_bd (r[i].toNat % 128) (7 * i)
      rw [hm]
      split
      · show 0 ≤ acc + _
        omega
      · exact numL_nonneg r k (i + 1) _ (by omega)
    · exact Int.le_refl _
theorem w65 (P : Program) {call : CallE} (h66 : ∀ h a r f, h.t.get a = some (rowL [.str r, .bool f] 85) → r.size ≤ 9223372036854775807 → ∃ v h', call 66 [.ptr a 0] h = some (v, h') ∧ Post66 a r f h v h')
    {h : H} {a : Nat} {r : ByteArray} {f : Bool} {m : Int} (ga : h.t.get a = some (rowL [.str r, .bool f] 85)) (hr : r.size ≤ 9223372036854775807) (hm : 0 ≤ m ∧ m ≤ 9223372036854775807) : WF P call c65 [.ptr a 0, .int .i64 m] h (Post65 a r f m h) := by
  simp only [go_sem, ↓reduceIte, ↓reduceDIte, zA, zM, zL, zE, zD, yA, yE, yL, yQ, yT, reduceCtorEq, c65]
  refine opt_by (h66 h a r f ga hr) fun v1 h1 p1 => ?_
  obtain ⟨rfl, rfl⟩ := p1
  have hn := numL_nonneg r 10 0 0 (Int.le_refl _)
  have fm : fw .u64 m = m := fwU (by omega) (by omega)
  have gN : ∃ l, (numH a h f (numL r 10 0 0)).t.get a = some (rowL l 85) ∧ l.length = 2 := by
    cases numL r 10 0 0 with
    | none => exact ⟨[.str ⟨#[]⟩, .bool true], by unfold numH; simp only [go_sem, ↓reduceIte, ↓reduceDIte, zA, zM, zL, zE, zD, yA, yE, yL, yQ, yT, reduceCtorEq], rfl⟩
    | some x => exact ⟨[.str x.2, .bool f], by unfold numH; simp only [go_sem, ↓reduceIte, ↓reduceDIte, zA, zM, zL, zE, zD, yA, yE, yL, yQ, yT, reduceCtorEq], rfl⟩
  have hset : ∀ x, (⟨(numH a h f (numL r 10 0 0)).next, (numH a h f (numL r 10 0 0)).t.set a x⟩ : H) = ⟨h.next, h.t.set a x⟩ := fun x => by
    cases numL r 10 0 0 <;> unfold numH <;> simp only [go_sem, ↓reduceIte, ↓reduceDIte, zA, zM, zL, zE, zD, yA, yE, yL, yQ, yT, reduceCtorEq]
  unfold Post65 cntV cntH
  generalize numH a h f (numL r 10 0 0) = hN at gN hset ⊢
  generalize numV (numL r 10 0 0) = n at hn ⊢
  by_cases hlt : m < n
  · obtain ⟨l, g1, g2⟩ := gN
    obtain ⟨x, y, rfl⟩ : ∃ x y, l = [x, y] := by
      match l, g2 with
      | [x, y], _ => exact ⟨x, y, rfl⟩
    simp only [go_sem, ↓reduceIte, ↓reduceDIte, zA, zM, zL, zE, zD, yA, yE, yL, yQ, yT, reduceCtorEq, fm, hlt, g1]
    exact hset _
  · have fn : fw .i64 n = n := fwI (by omega) (by omega)
    simp only [go_sem, ↓reduceIte, ↓reduceDIte, zA, zM, zL, zE, zD, yA, yE, yL, yQ, yT, reduceCtorEq, fm, hlt, fn]
end
end Go.Proofs.Ytnmlfhogolonoaa
