/-
  A tape is read: the reference's number, small and op.
-/
import Derived.Test.YtnmlfhogolonoaaSoRf
set_option linter.unusedVariables false
set_option linter.unusedSimpArgs false
namespace Go.Proofs.Ytnmlfhogolonoaa
open Go.Proofs.Ytnmlfhogolonoaa.Eo
open Nat renaming reduceAdd → zA, reduceMul → zM, reduceLT → zL, reduceEqDiff → zE, reduceLeDiff → zD
open Int renaming reduceAdd → yA, reduceLE → yE, reduceLT → yL, reduceEq → yQ, reduceToNat → yT
noncomputable section
/-! 50: (*leapfrog/leapfrogref43.tape).small -/
@[go_sem] def c50_s0 : List SQ := [⟨some 4, none, .p (.mv (.c (.int .i64 0)))⟩]
@[go_sem] def c50_s1 : List SQ := [⟨some 5, none, .p (.mv (.t 0))⟩, ⟨some 6, none, .p (.mv (.t 1))⟩, ⟨some 7, none, .p (.conv .u64 (.t 6))⟩, ⟨some 8, none, .cv (.c (.fn (.func 51) [] [])) [(.t 5), (.t 7)]⟩, ⟨some 9, none, .p (.conv .i64 (.t 8))⟩, ⟨some 4, none, .p (.mv (.t 9))⟩]
@[go_sem] def c50 : CF := ⟨2, (.seq (.ops c50_s0) (.seq (.ops c50_s1) .ret)), [.tmp 4]⟩
theorem c50_eq : cCF Try.prog 50 2 = some c50 := by kernel_rfl
/-! 51: (*leapfrog/leapfrogref43.tape).number -/
@[go_sem] def c51_s0 : List SQ := [⟨some 4, none, .p (.mv (.c (.int .u64 0)))⟩]
@[go_sem] def c51_s1 : List SQ := [⟨some 5, none, .p (.mv (.c (.int .u64 0)))⟩, ⟨some 6, none, .p (.mv (.c (.int .u64 1)))⟩]
@[go_sem] def c51_s2 : List SQ := [⟨some 7, none, .p (.mv (.c (.int .i64 0)))⟩]
@[go_sem] def c51_s3 : List SQ := [⟨some 9, none, .p (.mv (.t 7))⟩, ⟨some 10, none, .p (.bin .lss 3 false true (.t 9) (.c (.int .i64 10)))⟩, ⟨some 11, none, .p (.mv (.t 10))⟩, ⟨some 12, some (11, true), .p (.mv (.t 0))⟩, ⟨some 13, some (11, true), .p (.nilck (.t 12))⟩, ⟨some 14, some (11, true), .p (.fadr 0 (.t 13))⟩, ⟨some 15, some (11, true), .r (.ld none (.t 14))⟩, ⟨some 16, some (11, true), .p (.lens (.t 15))⟩, ⟨some 17, some (11, true), .p (.bin .gtr 3 false true (.t 16) (.c (.int .i64 0)))⟩, ⟨some 18, none, .p (.pick (.t 11) (.t 17) (.c (.bool false)))⟩]
@[go_sem] def c51_s4 : List SQ := [⟨some 21, none, .p (.mv (.t 0))⟩, ⟨some 22, none, .p (.nilck (.t 21))⟩, ⟨some 23, none, .p (.fadr 0 (.t 22))⟩, ⟨some 24, none, .r (.ld none (.t 23))⟩, ⟨some 25, none, .s (.idx (.t 24) (.c (.int .i64 0)))⟩, ⟨some 26, none, .p (.conv .u64 (.t 25))⟩, ⟨some 8, none, .p (.mv (.t 26))⟩]
@[go_sem] def c51_s5 : List SQ := [⟨some 27, none, .p (.mv (.t 0))⟩, ⟨some 28, none, .p (.mv (.t 0))⟩, ⟨some 29, none, .p (.nilck (.t 28))⟩, ⟨some 30, none, .p (.fadr 0 (.t 29))⟩, ⟨some 31, none, .r (.ld none (.t 30))⟩, ⟨some 32, none, .s (.slc (.t 31) (some (.c (.int .i64 1))) none)⟩, ⟨some 33, none, .p (.nilck (.t 27))⟩, ⟨some 34, none, .p (.fadr 0 (.t 33))⟩, ⟨none, none, .e (.st 1 (.t 34) (.t 32))⟩]
@[go_sem] def c51_s6 : List SQ := [⟨some 35, none, .p (.mv (.t 7))⟩, ⟨some 36, none, .p (.bin .eql 3 false true (.t 35) (.c (.int .i64 9)))⟩, ⟨some 37, none, .p (.mv (.t 36))⟩, ⟨some 38, some (37, true), .p (.mv (.t 8))⟩, ⟨some 39, some (37, true), .p (.bin .gtr 43 false true (.t 38) (.c (.int .u64 1)))⟩, ⟨some 40, none, .p (.pick (.t 37) (.t 39) (.c (.bool false)))⟩, ⟨some 41, none, .p (.mv (.t 40))⟩, ⟨some 42, some (41, false), .p (.mv (.t 7))⟩, ⟨some 43, some (41, false), .p (.bin .gtr 3 false true (.t 42) (.c (.int .i64 0)))⟩, ⟨some 44, some (41, false), .p (.mv (.t 43))⟩, ⟨some 45, some (44, true), .p (.mv (.t 8))⟩, ⟨some 46, some (44, true), .p (.bin .eql 43 false true (.t 45) (.c (.int .u64 0)))⟩, ⟨some 47, some (41, false), .p (.pick (.t 44) (.t 46) (.c (.bool false)))⟩, ⟨some 48, none, .p (.pick (.t 41) (.c (.bool true)) (.t 47))⟩]
@[go_sem] def c51_s7 : List SQ := [⟨some 49, none, .p (.mv (.t 5))⟩, ⟨some 50, none, .p (.mv (.t 8))⟩, ⟨some 51, none, .p (.bin .rem 43 false true (.t 50) (.c (.int .u64 128)))⟩, ⟨some 52, none, .p (.mv (.t 6))⟩, ⟨some 53, none, .p (.bin .mul 43 false false (.t 51) (.t 52))⟩, ⟨some 54, none, .p (.bin .add 43 false false (.t 49) (.t 53))⟩, ⟨some 5, none, .p (.mv (.t 54))⟩]
@[go_sem] def c51_s8 : List SQ := [⟨some 55, none, .p (.mv (.t 6))⟩, ⟨some 56, none, .p (.bin .mul 43 false true (.t 55) (.c (.int .u64 128)))⟩, ⟨some 6, none, .p (.mv (.t 56))⟩]
@[go_sem] def c51_s9 : List SQ := [⟨some 57, none, .p (.mv (.t 8))⟩, ⟨some 58, none, .p (.bin .lss 43 false true (.t 57) (.c (.int .u64 128)))⟩]
@[go_sem] def c51_s10 : List SQ := [⟨some 59, none, .p (.mv (.t 0))⟩, ⟨some 60, none, .p (.mv (.t 0))⟩, ⟨some 61, none, .p (.nilck (.t 60))⟩, ⟨some 62, none, .p (.fadr 1 (.t 61))⟩, ⟨some 63, none, .r (.ld none (.t 62))⟩, ⟨some 64, none, .p (.mv (.t 63))⟩, ⟨some 65, some (64, false), .p (.mv (.t 5))⟩, ⟨some 66, some (64, false), .p (.mv (.t 1))⟩, ⟨some 67, some (64, false), .p (.bin .gtr 43 false false (.t 65) (.t 66))⟩, ⟨some 68, none, .p (.pick (.t 64) (.c (.bool true)) (.t 67))⟩, ⟨some 69, none, .p (.nilck (.t 59))⟩, ⟨some 70, none, .p (.fadr 1 (.t 69))⟩, ⟨none, none, .e (.st 1 (.t 70) (.t 68))⟩]
@[go_sem] def c51_s11 : List SQ := [⟨some 71, none, .p (.mv (.t 5))⟩, ⟨some 72, none, .p (.mv (.t 1))⟩, ⟨some 73, none, .p (.mm false (.t 71) [(.t 72)])⟩, ⟨some 4, none, .p (.mv (.t 73))⟩]
@[go_sem] def c51_s12 : List SQ := [⟨some 19, none, .p (.mv (.t 7))⟩, ⟨some 20, none, .p (.bin .add 3 false true (.t 19) (.c (.int .i64 1)))⟩, ⟨some 7, none, .p (.mv (.t 20))⟩]
def c51_l13 : CC := (.seq (.seq (.ops c51_s3) (.cond (.t 18) .skip (.exit 0))) (.seq (.block 1 (.seq (.ops c51_s4) (.seq (.ops c51_s5) (.seq (.seq (.ops c51_s6) (.cond (.t 48) (.exit 0) .skip)) (.seq (.ops c51_s7) (.seq (.ops c51_s8) (.seq (.ops c51_s9) (.cond (.t 58) (.seq (.ops c51_s10) (.seq (.ops c51_s11) .ret)) .skip)))))))) (.ops c51_s12)))
@[go_sem] def c51_s14 : List SQ := [⟨some 74, none, .p (.mv (.t 0))⟩, ⟨some 75, none, .p (.nilck (.t 74))⟩, ⟨some 76, none, .p (.fadr 1 (.t 75))⟩, ⟨none, none, .e (.st 1 (.t 76) (.c (.bool true)))⟩]
@[go_sem] def c51_s15 : List SQ := [⟨some 4, none, .p (.mv (.c (.int .u64 0)))⟩]
@[go_sem] def c51 : CF := ⟨2, (.seq (.ops c51_s0) (.seq (.ops c51_s1) (.seq (.seq (.ops c51_s2) (.block 0 (.loop c51_l13))) (.seq (.ops c51_s14) (.seq (.ops c51_s15) .ret))))), [.tmp 4]⟩
theorem c51_eq : cCF Try.prog 51 2 = some c51 := by kernel_rfl
/-! 52: (*leapfrog/leapfrogref43.tape).op -/
@[go_sem] def c52_s0 : List SQ := [⟨some 2, none, .n (.new 45 [.int .u8 0, .int .u64 0, .int .u64 0, .int .u64 0, .int .u64 0, .int .u64 0, .int .u64 0])⟩]
@[go_sem] def c52_s1 : List SQ := [⟨some 7, none, .p (.mv (.t 0))⟩, ⟨some 8, none, .cv (.c (.fn (.func 50) [] [])) [(.t 7), (.c (.int .i64 255))]⟩, ⟨some 9, none, .p (.conv .u8 (.t 8))⟩, ⟨some 10, none, .p (.build [.int .u8 0, .int .u64 0, .int .u64 0, .int .u64 0, .int .u64 0, .int .u64 0, .int .u64 0] [(0, 1, (.t 9))])⟩, ⟨some 3, none, .n (.new 45 [.int .u8 0, .int .u64 0, .int .u64 0, .int .u64 0, .int .u64 0, .int .u64 0, .int .u64 0])⟩, ⟨none, none, .e (.st 7 (.t 3) (.t 10))⟩]
@[go_sem] def c52_s2 : List SQ := [⟨some 11, none, .p (.mv (.t 0))⟩, ⟨some 12, none, .cv (.c (.fn (.func 50) [] [])) [(.t 11), (.c (.int .i64 63))]⟩, ⟨some 4, none, .p (.mv (.t 12))⟩]
@[go_sem] def c52_s3 : List SQ := [⟨some 13, none, .p (.fadr 1 (.t 3))⟩, ⟨some 14, none, .p (.fadr 2 (.t 3))⟩, ⟨some 15, none, .p (.fadr 3 (.t 3))⟩, ⟨some 16, none, .p (.fadr 4 (.t 3))⟩, ⟨some 17, none, .p (.fadr 5 (.t 3))⟩, ⟨some 18, none, .p (.fadr 6 (.t 3))⟩, ⟨some 19, none, .n (.buildS 59 1 6 [.nilp, .nilp, .nilp, .nilp, .nilp, .nilp] [(0, 1, (.t 13)), (1, 1, (.t 14)), (2, 1, (.t 15)), (3, 1, (.t 16)), (4, 1, (.t 17)), (5, 1, (.t 18))])⟩, ⟨some 5, none, .p (.mv (.t 19))⟩]
@[go_sem] def c52_s4 : List SQ := [⟨some 6, none, .p (.mv (.c (.int .i64 0)))⟩]
@[go_sem] def c52_s5 : List SQ := [⟨some 20, none, .p (.mv (.t 6))⟩, ⟨some 21, none, .p (.mv (.t 5))⟩, ⟨some 22, none, .p (.lenv (.t 21))⟩, ⟨some 23, none, .p (.bin .lss 3 false false (.t 20) (.t 22))⟩]
@[go_sem] def c52_s6 : List SQ := [⟨some 26, none, .p (.mv (.t 4))⟩, ⟨some 27, none, .p (.mv (.t 6))⟩, ⟨some 28, none, .p (.conv .u64 (.t 27))⟩, ⟨some 29, none, .p (.bin .shr 3 false false (.t 26) (.t 28))⟩, ⟨some 30, none, .p (.bin .rem 3 false true (.t 29) (.c (.int .i64 2)))⟩, ⟨some 31, none, .p (.bin .eql 3 false true (.t 30) (.c (.int .i64 1)))⟩]
@[go_sem] def c52_p7 : List (List DQ × Option DQ) := [([⟨0, [(5, none)], none, .p (.mv (.t 5))⟩, ⟨1, [(6, none)], none, .p (.mv (.t 6))⟩, ⟨2, [(32, (some 0)), (33, (some 1))], none, .p (.iadrS 1 (.t 32) (.t 33))⟩, ⟨3, [(34, (some 2))], none, .r (.ld none (.t 34))⟩, ⟨4, [(0, none)], none, .p (.mv (.t 0))⟩], (some ⟨5, [(36, (some 4))], none, .cv (.c (.fn (.func 51) [] [])) [(.t 36), (.c (.int .u64 18446744073709551615))]⟩)), ([⟨6, [(35, (some 3))], none, .p (.nilck (.t 35))⟩], (some ⟨7, [(38, (some 6)), (37, (some 5))], none, .e (.st 1 (.t 38) (.t 37))⟩)), ([], none)]
@[go_sem] def c52_s8 : List SQ := [⟨some 24, none, .p (.mv (.t 6))⟩, ⟨some 25, none, .p (.bin .add 3 false true (.t 24) (.c (.int .i64 1)))⟩, ⟨some 6, none, .p (.mv (.t 25))⟩]
def c52_l9 : CC := (.seq (.seq (.ops c52_s5) (.cond (.t 23) .skip (.exit 0))) (.seq (.block 1 (.seq (.ops c52_s6) (.cond (.t 31) (.drw ⟨c52_p7, [(0, 32), (1, 33), (2, 34), (3, 35), (4, 36), (5, 37), (6, 38)], [(⟨3, [(34, (some 2))], none, .r (.ld none (.t 34))⟩, [1])]⟩) .skip))) (.ops c52_s8)))
@[go_sem] def c52_s10 : List SQ := [⟨some 39, none, .r (.ld (some 7) (.t 3))⟩, ⟨none, none, .e (.st 7 (.t 2) (.t 39))⟩]
@[go_sem] def c52 : CF := ⟨1, (.seq (.ops c52_s0) (.seq (.ops c52_s1) (.seq (.ops c52_s2) (.seq (.ops c52_s3) (.seq (.seq (.ops c52_s4) (.block 0 (.loop c52_l9))) (.seq (.ops c52_s10) .ret)))))), [(.cell 2 (some 7))]⟩
theorem c52_eq : cCF Try.prog 52 1 = some c52 := by kernel_rfl

def tpA (s : RdT) : AO := rowL [.str s.1, .bool s.2] 89
/-- a number on a tape -/
def tapL : Nat → Nat → Int → ByteArray → Option Int × ByteArray
  | 0, _, _, r => (none, r)
  | k + 1, i, acc, r => if h : 0 < r.size then
      (if (i = 9 ∧ 1 < (r[0]'h).toNat) ∨ (0 < i ∧ (r[0]'h).toNat = 0) then (none, subS r 1 r.size)
        else if (r[0]'h).toNat < 128 then (some (acc + (((r[0]'h).toNat % 128 : Nat) : Int) * 128 ^ i), subS r 1 r.size)
        else tapL k (i + 1) (acc + (((r[0]'h).toNat % 128 : Nat) : Int) * 128 ^ i) (subS r 1 r.size))
    else (none, r)
def numX (m : Int) (f : Bool) : Option Int × ByteArray → Int × RdT
  | (some v, r') => (if m < v then m else v, (r', f || decide (m < v)))
  | (none, r') => (0, (r', true))
def numT (m : Int) (s : RdT) : Int × RdT := numX m s.2 (tapL 10 0 0 s.1)
theorem tapL_pos {k i : Nat} {acc : Int} {r : ByteArray} (h : 0 < r.size) : tapL (k + 1) i acc r = (if (i = 9 ∧ 1 < (r[0]'h).toNat) ∨ (0 < i ∧ (r[0]'h).toNat = 0) then (none, subS r 1 r.size)
        else if (r[0]'h).toNat < 128 then (some (acc + (((r[0]'h).toNat % 128 : Nat) : Int) * 128 ^ i), subS r 1 r.size)
        else tapL k (i + 1) (acc + (((r[0]'h).toNat % 128 : Nat) : Int) * 128 ^ i) (subS r 1 r.size)) := by rw [tapL, dif_pos h]
theorem tapL_neg {k i : Nat} {acc : Int} {r : ByteArray} (h : ¬ 0 < r.size) : tapL (k + 1) i acc r = (none, r) := by rw [tapL, dif_neg h]
theorem tapL_ok : ∀ (k i : Nat) (acc : Int) (r : ByteArray), i + k = 10 → 0 ≤ acc → acc < 128 ^ i → (∀ v, (tapL k i acc r).1 = some v → 0 ≤ v ∧ v < 18446744073709551616) ∧ (tapL k i acc r).2.size ≤ r.size
  | 0, i, acc, r, _, _, _ => ⟨fun v h => (by cases h), Nat.le_refl _⟩
  | k + 1, i, acc, r, hk, h0, h1 => by
    rw [tapL]
    split
    · rename_i hr
      have hsz := subS_le r 1
      have hlt := Nat.mod_lt (r[0]'hr).toNat (show 0 < 128 by decide)
      split
      · exact ⟨fun v h => (by cases h), hsz⟩
      · rename_i hbr
        generalize (r[0]'hr).toNat = b at hlt hbr
        obtain ⟨q, hq⟩ : ∃ q : Nat, q = 128 ^ i := ⟨_, rfl⟩
        have hqI : (128 : Int) ^ i = (q : Int) := by rw [hq]; push_cast; rfl
        rw [hqI] at h1 ⊢
        have hmul : (((b % 128 : Nat)) : Int) * (q : Int) ≤ 127 * (q : Int) := Int.mul_le_mul_of_nonneg_right (by omega) (by omega)
        have hmul0 : 0 ≤ (((b % 128 : Nat)) : Int) * (q : Int) := Int.mul_nonneg (by omega) (by omega)
        have hnext : acc + (((b % 128 : Nat)) : Int) * (q : Int) < 128 ^ (i + 1) := by
          rw [Int.pow_succ, hqI]
          omega
        split
        · refine ⟨fun v h => ?_, hsz⟩
          simp only [Option.some.injEq] at h
          subst h
          refine ⟨by omega, ?_⟩
          rcases Nat.lt_or_ge i 9 with h9 | h9
          · have : (128 : Nat) ^ (i + 1) ≤ 128 ^ 9 := Nat.pow_le_pow_right (by decide) (by omega)
            have e : ((128 : Int) ^ (i + 1)) = ((128 ^ (i + 1) : Nat) : Int) := by push_cast; rfl
            rw [e] at hnext
            have : (128 : Nat) ^ 9 = 9223372036854775808 := rfl
            omega
          · obtain rfl : i = 9 := by omega
            have : b ≤ 1 := by omega
            have hq9 : q = 9223372036854775808 := hq
            have hb2 : b % 128 ≤ 1 := by omega
            have hm2 : (((b % 128 : Nat)) : Int) * (q : Int) ≤ 1 * (q : Int) := Int.mul_le_mul_of_nonneg_right (by omega) (by omega)
            omega
        · obtain ⟨p1, p2⟩ := tapL_ok k (i + 1) _ (subS r 1 r.size) (by omega) (show 0 ≤ acc + (((b % 128 : Nat)) : Int) * (q : Int) by omega) hnext
          exact ⟨p1, Nat.le_trans p2 hsz⟩
    · exact ⟨fun v h => (by cases h), Nat.le_refl _⟩
theorem numT_bd (m : Int) (s : RdT) (hm : 0 ≤ m) : 0 ≤ (numT m s).1 ∧ (numT m s).1 ≤ m ∧ (numT m s).2.1.size ≤ s.1.size := by
  obtain ⟨p1, p2⟩ := tapL_ok 10 0 0 s.1 rfl (Int.le_refl _) (by decide)
  unfold numT
  generalize tapL 10 0 0 s.1 = x at p1 p2
  obtain ⟨o, r⟩ := x
  cases o with
  | none => exact ⟨Int.le_refl _, hm, p2⟩
  | some v =>
    have := p1 v rfl
    unfold numX
    dsimp only at p2 ⊢
    refine ⟨?_, ?_, p2⟩ <;> split <;> omega
def I51 (h0 : H) (a : Nat) (m : Int) (f : Bool) (r0 : ByteArray) (k : Nat) (tm : T AV) (h : H) : Prop :=
  tm.get 0 = some (.ptr a 0) ∧ tm.get 1 = some (.int .u64 m) ∧ ∃ (i : Nat) (acc u : Int) (r : ByteArray), i + k = 10 ∧ tm.get 7 = some (.int .i64 (i : Int)) ∧ tm.get 5 = some (.int .u64 acc) ∧ tm.get 6 = some (.int .u64 u) ∧ (i < 10 → u = 128 ^ i) ∧ 0 ≤ acc ∧ acc < 128 ^ i ∧
    h = ⟨h0.next, h0.t.set a (tpA (r, f))⟩ ∧ r.size ≤ 9223372036854775807 ∧ tapL 10 0 0 r0 = tapL k i acc r
set_option maxRecDepth 4000 in
theorem step51 (P : Program) {call : CallE} {h0 : H} {a : Nat} {m : Int} {f : Bool} {r0 : ByteArray} (hm : 0 ≤ m ∧ m < 18446744073709551616) (k : Nat) (tm : T AV) (h : H) (hI : I51 h0 a m f r0 k tm h) :
    WC P call c51_l13 (loopQ 0 (fun tm h => ∃ j, j < k ∧ I51 h0 a m f r0 j tm h) (fun tm h => tm.get 0 = some (.ptr a 0) ∧ ∃ r, h = ⟨h0.next, h0.t.set a (tpA (r, f))⟩ ∧ numX m f (tapL 10 0 0 r0) = (0, (r, true)))
      (fun tm h => tm.get 4 = some (.int .u64 (numX m f (tapL 10 0 0 r0)).1) ∧ h = ⟨h0.next, h0.t.set a (tpA (numX m f (tapL 10 0 0 r0)).2)⟩)) tm h := by
  obtain ⟨t0, t1, i, acc, u, r, hik, t7, t5, t6, hu, ha0, ha1, rfl, hr, htap⟩ := hI
  cases k with
  | zero =>
    have e1 : ¬ (i : Int) < 10 := by omega
    simp only [go_sem, ↓reduceIte, ↓reduceDIte, zA, zM, zL, zE, zD, yA, yE, yL, yQ, yT, reduceCtorEq, c51_l13, t0, t7, e1]
    exact ⟨r, rfl, by rw [htap]; rfl⟩
  | succ k =>
    have e1 : (i : Int) < 10 := by omega
    have hui := hu (by omega)
    subst hui
    by_cases hr0 : 0 < r.size
    case neg =>
      have e2 : ¬ (0 : Int) < (r.size : Int) := by omega
      simp only [go_sem, ↓reduceIte, ↓reduceDIte, zA, zM, zL, zE, zD, yA, yE, yL, yQ, yT, reduceCtorEq, c51_l13, t0, t7, e1, e2, tpA]
      exact ⟨r, rfl, by rw [htap, tapL_neg hr0]; rfl⟩
    have e2 : (0 : Int) < (r.size : Int) := by omega
    have e3 : (1 : Int) ≤ (r.size : Int) := by omega
    rw [tapL_pos hr0] at htap
    have hb8 := (r[0]'hr0).toNat_lt
    have hok := tapL_ok (k + 1) i acc r (by omega) ha0 ha1
    rw [tapL_pos hr0] at hok
    generalize hb : (r[0]'hr0).toNat = b at htap hb8 hok
    have f0 : fw .u64 (b : Int) = (b : Int) := fwU (by omega) (by omega)
    have f00 : fw .u64 0 = 0 := rfl
    have f1 : fw .i64 ((i : Int) + 1) = (i : Int) + 1 := fwI (by omega) (by omega)
    have t7' : (b : Int).tmod 128 = ((b % 128 : Nat) : Int) := rfl
    have e4 : ((i + 1 : Nat) : Int) = (i : Int) + 1 := rfl
    obtain ⟨q, hq⟩ : ∃ q : Nat, q = 128 ^ i := ⟨_, rfl⟩
    have hqI : (128 : Int) ^ i = (q : Int) := by rw [hq]; push_cast; rfl
    rw [hqI] at ha1 htap hok t6
    have hq9 : q ≤ 9223372036854775808 := by
      have : (128 : Nat) ^ i ≤ 128 ^ 9 := Nat.pow_le_pow_right (by decide) (by omega)
      rw [← hq] at this
      exact this
    have hmul : (((b % 128 : Nat)) : Int) * (q : Int) ≤ 127 * (q : Int) := Int.mul_le_mul_of_nonneg_right (by omega) (by omega)
    have hmul0 : 0 ≤ (((b % 128 : Nat)) : Int) * (q : Int) := Int.mul_nonneg (by omega) (by omega)
    have hsz := subS_le r 1
    by_cases hbr : (i = 9 ∧ 1 < b) ∨ (0 < i ∧ b = 0)
    · rw [if_pos hbr] at htap
      have hres : numX m f (tapL 10 0 0 r0) = (0, (subS r 1 r.size, true)) := by rw [htap]; rfl
      by_cases c9 : (i : Int) = 9
      · by_cases c1 : (1 : Int) < (b : Int)
        · simp only [go_sem, ↓reduceIte, ↓reduceDIte, zA, zM, zL, zE, zD, yA, yE, yL, yQ, yT, reduceCtorEq, c51_l13, t0, t7, e1, e2, e3, hr0, hb, f0, f00, tpA, c9, c1]
          exact ⟨_, rfl, hres⟩
        · have cz : (b : Int) = 0 := by omega
          simp only [go_sem, ↓reduceIte, ↓reduceDIte, zA, zM, zL, zE, zD, yA, yE, yL, yQ, yT, reduceCtorEq, c51_l13, t0, t7, e1, e2, e3, hr0, hb, f0, f00, tpA, c9, cz]
          exact ⟨_, rfl, hres⟩
      · have c0 : (0 : Int) < (i : Int) := by omega
        have cz : (b : Int) = 0 := by omega
        simp only [go_sem, ↓reduceIte, ↓reduceDIte, zA, zM, zL, zE, zD, yA, yE, yL, yQ, yT, reduceCtorEq, c51_l13, t0, t7, e1, e2, e3, hr0, hb, f0, f00, tpA, c9, c0, cz]
        exact ⟨_, rfl, hres⟩
    · rw [if_neg hbr] at htap hok
      have hlim : acc + (((b % 128 : Nat)) : Int) * (q : Int) < 18446744073709551616 := by
        rcases Nat.lt_or_ge i 9 with h9 | h9
        · have : (128 : Nat) ^ i ≤ 128 ^ 8 := Nat.pow_le_pow_right (by decide) (by omega)
          rw [← hq] at this
          have h8 : (128 : Nat) ^ 8 = 72057594037927936 := rfl
          omega
        · have : b % 128 ≤ 1 := by omega
          have hm2 : (((b % 128 : Nat)) : Int) * (q : Int) ≤ 1 * (q : Int) := Int.mul_le_mul_of_nonneg_right (by omega) (by omega)
          omega
      have f2 : fw .u64 ((((b % 128 : Nat)) : Int) * (q : Int)) = (((b % 128 : Nat)) : Int) * (q : Int) := fwU hmul0 (by omega)
      have f3 : fw .u64 (acc + (((b % 128 : Nat)) : Int) * (q : Int)) = acc + (((b % 128 : Nat)) : Int) * (q : Int) := fwU (by omega) (by omega)
      have hq8 : i + 1 < 10 → fw .u64 ((q : Int) * 128) = 128 ^ (i + 1) := fun hh => by
        have : (128 : Nat) ^ i ≤ 128 ^ 8 := Nat.pow_le_pow_right (by decide) (by omega)
        rw [← hq] at this
        have h8 : (128 : Nat) ^ 8 = 72057594037927936 := rfl
        rw [Int.pow_succ, hqI]
        exact fwU (by omega) (by omega)
      by_cases cL : (b : Int) < 128
      · rw [if_pos (by omega)] at htap
        obtain ⟨v, hv⟩ : ∃ v, v = acc + (((b % 128 : Nat)) : Int) * (q : Int) := ⟨_, rfl⟩
        rw [← hv] at htap f3
        have hres : numX m f (tapL 10 0 0 r0) = (if m < v then m else v, (subS r 1 r.size, f || decide (m < v))) := by rw [htap]; rfl
        rw [hres]
        by_cases c9 : (i : Int) = 9
        · have c1 : ¬ (1 : Int) < (b : Int) := by omega
          have cz : ¬ (b : Int) = 0 := by omega
          cases f with
          | true =>
            by_cases cm : m < v
            · simp only [go_sem, ↓reduceIte, ↓reduceDIte, zA, zM, zL, zE, zD, yA, yE, yL, yQ, yT, reduceCtorEq, c51_l13, t0, t1, t5, t6, t7, e1, e2, e3, hr0, hb, f0, f00, tpA, c9, c1, cz, t7', f2, ← hv, f3, cL, cm, mmA, iLt_eq]
              rfl
            · simp only [go_sem, ↓reduceIte, ↓reduceDIte, zA, zM, zL, zE, zD, yA, yE, yL, yQ, yT, reduceCtorEq, c51_l13, t0, t1, t5, t6, t7, e1, e2, e3, hr0, hb, f0, f00, tpA, c9, c1, cz, t7', f2, ← hv, f3, cL, cm, mmA, iLt_eq]
              rfl
          | false =>
            by_cases cm : m < v
            · simp only [go_sem, ↓reduceIte, ↓reduceDIte, zA, zM, zL, zE, zD, yA, yE, yL, yQ, yT, reduceCtorEq, c51_l13, t0, t1, t5, t6, t7, e1, e2, e3, hr0, hb, f0, f00, tpA, c9, c1, cz, t7', f2, ← hv, f3, cL, cm, mmA, iLt_eq]
              rfl
            · simp only [go_sem, ↓reduceIte, ↓reduceDIte, zA, zM, zL, zE, zD, yA, yE, yL, yQ, yT, reduceCtorEq, c51_l13, t0, t1, t5, t6, t7, e1, e2, e3, hr0, hb, f0, f00, tpA, c9, c1, cz, t7', f2, ← hv, f3, cL, cm, mmA, iLt_eq]
              rfl
        · by_cases c0 : (0 : Int) < (i : Int)
          · have cz : ¬ (b : Int) = 0 := by omega
            cases f with
            | true =>
              by_cases cm : m < v
              · simp only [go_sem, ↓reduceIte, ↓reduceDIte, zA, zM, zL, zE, zD, yA, yE, yL, yQ, yT, reduceCtorEq, c51_l13, t0, t1, t5, t6, t7, e1, e2, e3, hr0, hb, f0, f00, tpA, c9, c0, cz, t7', f2, ← hv, f3, cL, cm, mmA, iLt_eq]
                rfl
              · simp only [go_sem, ↓reduceIte, ↓reduceDIte, zA, zM, zL, zE, zD, yA, yE, yL, yQ, yT, reduceCtorEq, c51_l13, t0, t1, t5, t6, t7, e1, e2, e3, hr0, hb, f0, f00, tpA, c9, c0, cz, t7', f2, ← hv, f3, cL, cm, mmA, iLt_eq]
                rfl
            | false =>
              by_cases cm : m < v
              · simp only [go_sem, ↓reduceIte, ↓reduceDIte, zA, zM, zL, zE, zD, yA, yE, yL, yQ, yT, reduceCtorEq, c51_l13, t0, t1, t5, t6, t7, e1, e2, e3, hr0, hb, f0, f00, tpA, c9, c0, cz, t7', f2, ← hv, f3, cL, cm, mmA, iLt_eq]
                rfl
              · simp only [go_sem, ↓reduceIte, ↓reduceDIte, zA, zM, zL, zE, zD, yA, yE, yL, yQ, yT, reduceCtorEq, c51_l13, t0, t1, t5, t6, t7, e1, e2, e3, hr0, hb, f0, f00, tpA, c9, c0, cz, t7', f2, ← hv, f3, cL, cm, mmA, iLt_eq]
                rfl
          · 
            cases f with
            | true =>
              by_cases cm : m < v
              · simp only [go_sem, ↓reduceIte, ↓reduceDIte, zA, zM, zL, zE, zD, yA, yE, yL, yQ, yT, reduceCtorEq, c51_l13, t0, t1, t5, t6, t7, e1, e2, e3, hr0, hb, f0, f00, tpA, c9, c0, t7', f2, ← hv, f3, cL, cm, mmA, iLt_eq]
                rfl
              · simp only [go_sem, ↓reduceIte, ↓reduceDIte, zA, zM, zL, zE, zD, yA, yE, yL, yQ, yT, reduceCtorEq, c51_l13, t0, t1, t5, t6, t7, e1, e2, e3, hr0, hb, f0, f00, tpA, c9, c0, t7', f2, ← hv, f3, cL, cm, mmA, iLt_eq]
                rfl
            | false =>
              by_cases cm : m < v
              · simp only [go_sem, ↓reduceIte, ↓reduceDIte, zA, zM, zL, zE, zD, yA, yE, yL, yQ, yT, reduceCtorEq, c51_l13, t0, t1, t5, t6, t7, e1, e2, e3, hr0, hb, f0, f00, tpA, c9, c0, t7', f2, ← hv, f3, cL, cm, mmA, iLt_eq]
                rfl
              · simp only [go_sem, ↓reduceIte, ↓reduceDIte, zA, zM, zL, zE, zD, yA, yE, yL, yQ, yT, reduceCtorEq, c51_l13, t0, t1, t5, t6, t7, e1, e2, e3, hr0, hb, f0, f00, tpA, c9, c0, t7', f2, ← hv, f3, cL, cm, mmA, iLt_eq]
                rfl
      · rw [if_neg (by omega)] at htap
        by_cases c9 : (i : Int) = 9
        · exfalso
          omega
        · by_cases c0 : (0 : Int) < (i : Int)
          · have cz : ¬ (b : Int) = 0 := by omega
            simp only [go_sem, ↓reduceIte, ↓reduceDIte, zA, zM, zL, zE, zD, yA, yE, yL, yQ, yT, reduceCtorEq, c51_l13, t0, t5, t6, t7, e1, e2, e3, hr0, hb, f0, f00, tpA, c9, c0, cz, t7', f2, f3, f1, cL]
            exact ⟨k, Nat.lt_succ_self k, by simp [go_sem, t0], by simp [go_sem, t1], i + 1, _, _, subS r 1 r.size, by omega, by simp [go_sem, e4], by simp [go_sem], by simp [go_sem], hq8, by omega, by rw [Int.pow_succ, hqI]; omega, rfl, by omega, htap⟩
          · 
            simp only [go_sem, ↓reduceIte, ↓reduceDIte, zA, zM, zL, zE, zD, yA, yE, yL, yQ, yT, reduceCtorEq, c51_l13, t0, t5, t6, t7, e1, e2, e3, hr0, hb, f0, f00, tpA, c9, c0, t7', f2, f3, f1, cL]
            exact ⟨k, Nat.lt_succ_self k, by simp [go_sem, t0], by simp [go_sem, t1], i + 1, _, _, subS r 1 r.size, by omega, by simp [go_sem, e4], by simp [go_sem], by simp [go_sem], hq8, by omega, by rw [Int.pow_succ, hqI]; omega, rfl, by omega, htap⟩
def F51 (call : CallE) : Prop := ∀ h a s m, h.t.get a = some (tpA s) → s.1.size ≤ 9223372036854775807 → 0 ≤ m → m < 18446744073709551616 → call 51 [.ptr a 0, .int .u64 m] h = some (.int .u64 (numT m s).1, ⟨h.next, h.t.set a (tpA (numT m s).2)⟩)
def F50 (call : CallE) : Prop := ∀ h a s m, h.t.get a = some (tpA s) → s.1.size ≤ 9223372036854775807 → 0 ≤ m → m ≤ 9223372036854775807 → call 50 [.ptr a 0, .int .i64 m] h = some (.int .i64 (numT m s).1, ⟨h.next, h.t.set a (tpA (numT m s).2)⟩)
theorem w51 (P : Program) {call : CallE} {h : H} {a : Nat} {s : RdT} {m : Int} (ga : h.t.get a = some (tpA s)) (hs : s.1.size ≤ 9223372036854775807) (hm : 0 ≤ m ∧ m < 18446744073709551616) : WF P call c51 [.ptr a 0, .int .u64 m] h fun v h' => v = .int .u64 (numT m s).1 ∧ h' = ⟨h.next, h.t.set a (tpA (numT m s).2)⟩ := by
  simp only [go_sem, ↓reduceIte, ↓reduceDIte, zA, zM, zL, zE, zD, yA, yE, yL, yQ, yT, reduceCtorEq, c51]
  refine loop_in (I51 h a m s.2 s.1) _ _ (fun k tm h'' hI => step51 P hm k tm h'' hI) (fun tm2 h2 hR => ?_) (fun tm2 h2 hS => ?_) 10 _ _
    ⟨by simp [go_sem], by simp [go_sem], 0, 0, 1, s.1, rfl, by simp [go_sem], by simp [go_sem], by simp [go_sem], fun _ => rfl, Int.le_refl _, by decide, ?_, hs, rfl⟩
  · obtain ⟨t0, r, rfl, hres⟩ := hR
    simp only [go_sem, ↓reduceIte, ↓reduceDIte, zA, zM, zL, zE, zD, yA, yE, yL, yQ, yT, reduceCtorEq, t0, tpA]
    unfold numT
    rw [hres]
    exact ⟨rfl, rfl⟩
  · obtain ⟨t4, rfl⟩ := hS
    simp only [go_sem, ↓reduceIte, ↓reduceDIte, zA, zM, zL, zE, zD, yA, yE, yL, yQ, yT, reduceCtorEq, t4]
    exact ⟨rfl, rfl⟩
  · rw [T.set_id ga]
theorem w50 (P : Program) {call : CallE} (h51 : F51 call) {h : H} {a : Nat} {s : RdT} {m : Int} (ga : h.t.get a = some (tpA s)) (hs : s.1.size ≤ 9223372036854775807) (hm : 0 ≤ m ∧ m ≤ 9223372036854775807) : WF P call c50 [.ptr a 0, .int .i64 m] h fun v h' => v = .int .i64 (numT m s).1 ∧ h' = ⟨h.next, h.t.set a (tpA (numT m s).2)⟩ := by
  have f1 : fw .u64 m = m := fwU (by omega) (by omega)
  have b := numT_bd m s hm.1
  have f2 : fw .i64 (numT m s).1 = (numT m s).1 := fwI (by omega) (by omega)
  simp only [go_sem, ↓reduceIte, ↓reduceDIte, zA, zM, zL, zE, zD, yA, yE, yL, yQ, yT, reduceCtorEq, c50, f1]
  refine opt_some (h51 h a s m ga hs hm.1 (by omega)) ?_
  simp only [go_sem, ↓reduceIte, ↓reduceDIte, zA, zM, zL, zE, zD, yA, yE, yL, yQ, yT, reduceCtorEq, f2]
/-- a number that is read of a tape, at most m -/
theorem opt50 {call : CallE} (h50 : F50 call) {a : Nat} {s : RdT} {m : Int} {h : H} {K : AV × H → Prop} (ga : h.t.get a = some (tpA s)) (hr : s.1.size ≤ 9223372036854775807) (h0 : 0 ≤ m) (h1 : m ≤ 9223372036854775807)
    (hk : ∀ (v : Int) (s' : RdT), numT m s = (v, s') → 0 ≤ v → v ≤ m → s'.1.size ≤ s.1.size → s'.1.size ≤ 9223372036854775807 → K (.int .i64 v, ⟨h.next, h.t.set a (tpA s')⟩)) : @optI _ (call 50 [.ptr a 0, .int .i64 m] h) ⟨K⟩ := by
  have b := numT_bd m s h0
  exact opt_some (h50 h a s m ga hr h0 h1) (hk _ _ rfl b.1 b.2.1 b.2.2 (by omega))
def mxU : Int := 18446744073709551615
/-- the fields of an operation that are read of a tape, from i on -/
def fT (m : Int) : Nat → Nat → List Int → RdT → List Int × RdT
  | 0, _, l, s => (l, s)
  | k + 1, i, l, s => if bitD m i then fT m k (i + 1) (l.set i (numT mxU s).1) (numT mxU s).2 else fT m k (i + 1) l s
/-- an operation of a tape -/
def opT (s : RdT) : OpT × RdT :=
  (mkOp (numT 255 s).1 (fT (numT 63 (numT 255 s).2).1 6 0 [0, 0, 0, 0, 0, 0] (numT 63 (numT 255 s).2).2).1, (fT (numT 63 (numT 255 s).2).1 6 0 [0, 0, 0, 0, 0, 0] (numT 63 (numT 255 s).2).2).2)
end
end Go.Proofs.Ytnmlfhogolonoaa
