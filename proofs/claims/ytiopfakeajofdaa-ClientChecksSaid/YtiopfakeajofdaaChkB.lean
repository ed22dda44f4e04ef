/-
  The walks of Check of package client, kind by kind.
-/
import Derived.Test.YtiopfakeajofdaaChkA
set_option linter.unusedVariables false
set_option linter.unusedSimpArgs false
namespace Go.Proofs.Ytiopfakeajofdaa
open Go.RowKit

def unused (k a b v o y d : Int) : Prop :=
  (¬ (k = 3 ∨ k = 6 ∨ k = 13 ∨ k = 4 ∨ k = 5 ∨ k = 7 ∨ k = 8 ∨ k = 9 ∨ k = 11) ∧ a ≠ 0) ∨ (¬ (k = 8 ∨ k = 9 ∨ k = 11) ∧ b ≠ 0) ∨ (¬ (k = 4 ∨ k = 5 ∨ k = 7) ∧ v ≠ 0) ∨ (k ≠ 7 ∧ o ≠ 0) ∨ (k ≠ 8 ∧ y ≠ 0) ∨ (¬ (k = 4 ∨ k = 5 ∨ k = 8) ∧ d ≠ 0)
instance (k a b v o y d : Int) : Decidable (unused k a b v o y d) := by unfold unused; infer_instance
def res24 (k a b v o y d : Int) : Int :=
  if k < 1 ∨ 15 < k ∨ unused k a b v o y d then 2 else if (k = 8 ∨ k = 9 ∨ k = 11) ∧ b < a ∨ k = 8 ∧ y = 0 then 13 else if k = 8 ∧ 18446744073709551615 - y < b then 12 else 0

set_option maxHeartbeats 1000000 in
theorem chk1 (a b v o y d : Int) (w : World) (ha : 0 ≤ a) (ha' : a ≤ 18446744073709551615) (hb : 0 ≤ b) (hb' : b ≤ 18446744073709551615) (hy : 0 ≤ y) (hy' : y ≤ 18446744073709551615) :
    Calls Try.prog 24 #[.agg #[.int .u8 1, .int .u64 a, .int .u64 b, .int .u64 v, .int .u64 o, .int .u64 y, .int .u64 d]] w fun e w' => e = .returned (.int .i64 (res24 1 a b v o y d)) ∧ Below w.heap.size w w' := by
  go_enter Try.func24, Try.ntmps24
  go_wp2
  all_goals
    go_ret
    exact ⟨ret_int (by unfold res24 unused; (repeat' split) <;> omega), ((Below.refl _ _).alloc (Nat.le_refl _) _).alloc (by simp) _⟩

set_option maxHeartbeats 1000000 in
theorem chk2 (a b v o y d : Int) (w : World) (ha : 0 ≤ a) (ha' : a ≤ 18446744073709551615) (hb : 0 ≤ b) (hb' : b ≤ 18446744073709551615) (hy : 0 ≤ y) (hy' : y ≤ 18446744073709551615) :
    Calls Try.prog 24 #[.agg #[.int .u8 2, .int .u64 a, .int .u64 b, .int .u64 v, .int .u64 o, .int .u64 y, .int .u64 d]] w fun e w' => e = .returned (.int .i64 (res24 2 a b v o y d)) ∧ Below w.heap.size w w' := by
  go_enter Try.func24, Try.ntmps24
  go_wp2
  all_goals
    go_ret
    exact ⟨ret_int (by unfold res24 unused; (repeat' split) <;> omega), ((Below.refl _ _).alloc (Nat.le_refl _) _).alloc (by simp) _⟩

set_option maxHeartbeats 1000000 in
theorem chk10 (a b v o y d : Int) (w : World) (ha : 0 ≤ a) (ha' : a ≤ 18446744073709551615) (hb : 0 ≤ b) (hb' : b ≤ 18446744073709551615) (hy : 0 ≤ y) (hy' : y ≤ 18446744073709551615) :
    Calls Try.prog 24 #[.agg #[.int .u8 10, .int .u64 a, .int .u64 b, .int .u64 v, .int .u64 o, .int .u64 y, .int .u64 d]] w fun e w' => e = .returned (.int .i64 (res24 10 a b v o y d)) ∧ Below w.heap.size w w' := by
  go_enter Try.func24, Try.ntmps24
  go_wp2
  all_goals
    go_ret
    exact ⟨ret_int (by unfold res24 unused; (repeat' split) <;> omega), ((Below.refl _ _).alloc (Nat.le_refl _) _).alloc (by simp) _⟩

set_option maxHeartbeats 1000000 in
theorem chk12 (a b v o y d : Int) (w : World) (ha : 0 ≤ a) (ha' : a ≤ 18446744073709551615) (hb : 0 ≤ b) (hb' : b ≤ 18446744073709551615) (hy : 0 ≤ y) (hy' : y ≤ 18446744073709551615) :
    Calls Try.prog 24 #[.agg #[.int .u8 12, .int .u64 a, .int .u64 b, .int .u64 v, .int .u64 o, .int .u64 y, .int .u64 d]] w fun e w' => e = .returned (.int .i64 (res24 12 a b v o y d)) ∧ Below w.heap.size w w' := by
  go_enter Try.func24, Try.ntmps24
  go_wp2
  all_goals
    go_ret
    exact ⟨ret_int (by unfold res24 unused; (repeat' split) <;> omega), ((Below.refl _ _).alloc (Nat.le_refl _) _).alloc (by simp) _⟩

set_option maxHeartbeats 1000000 in
theorem chk14 (a b v o y d : Int) (w : World) (ha : 0 ≤ a) (ha' : a ≤ 18446744073709551615) (hb : 0 ≤ b) (hb' : b ≤ 18446744073709551615) (hy : 0 ≤ y) (hy' : y ≤ 18446744073709551615) :
    Calls Try.prog 24 #[.agg #[.int .u8 14, .int .u64 a, .int .u64 b, .int .u64 v, .int .u64 o, .int .u64 y, .int .u64 d]] w fun e w' => e = .returned (.int .i64 (res24 14 a b v o y d)) ∧ Below w.heap.size w w' := by
  go_enter Try.func24, Try.ntmps24
  go_wp2
  all_goals
    go_ret
    exact ⟨ret_int (by unfold res24 unused; (repeat' split) <;> omega), ((Below.refl _ _).alloc (Nat.le_refl _) _).alloc (by simp) _⟩

set_option maxHeartbeats 1000000 in
theorem chk15 (a b v o y d : Int) (w : World) (ha : 0 ≤ a) (ha' : a ≤ 18446744073709551615) (hb : 0 ≤ b) (hb' : b ≤ 18446744073709551615) (hy : 0 ≤ y) (hy' : y ≤ 18446744073709551615) :
    Calls Try.prog 24 #[.agg #[.int .u8 15, .int .u64 a, .int .u64 b, .int .u64 v, .int .u64 o, .int .u64 y, .int .u64 d]] w fun e w' => e = .returned (.int .i64 (res24 15 a b v o y d)) ∧ Below w.heap.size w w' := by
  go_enter Try.func24, Try.ntmps24
  go_wp2
  all_goals
    go_ret
    exact ⟨ret_int (by unfold res24 unused; (repeat' split) <;> omega), ((Below.refl _ _).alloc (Nat.le_refl _) _).alloc (by simp) _⟩

set_option maxHeartbeats 1000000 in
theorem chk3 (a b v o y d : Int) (w : World) (ha : 0 ≤ a) (ha' : a ≤ 18446744073709551615) (hb : 0 ≤ b) (hb' : b ≤ 18446744073709551615) (hy : 0 ≤ y) (hy' : y ≤ 18446744073709551615) :
    Calls Try.prog 24 #[.agg #[.int .u8 3, .int .u64 a, .int .u64 b, .int .u64 v, .int .u64 o, .int .u64 y, .int .u64 d]] w fun e w' => e = .returned (.int .i64 (res24 3 a b v o y d)) ∧ Below w.heap.size w w' := by
  go_enter Try.func24, Try.ntmps24
  go_wp2
  all_goals
    go_ret
    exact ⟨ret_int (by unfold res24 unused; (repeat' split) <;> omega), ((Below.refl _ _).alloc (Nat.le_refl _) _).alloc (by simp) _⟩

set_option maxHeartbeats 1000000 in
theorem chk6 (a b v o y d : Int) (w : World) (ha : 0 ≤ a) (ha' : a ≤ 18446744073709551615) (hb : 0 ≤ b) (hb' : b ≤ 18446744073709551615) (hy : 0 ≤ y) (hy' : y ≤ 18446744073709551615) :
    Calls Try.prog 24 #[.agg #[.int .u8 6, .int .u64 a, .int .u64 b, .int .u64 v, .int .u64 o, .int .u64 y, .int .u64 d]] w fun e w' => e = .returned (.int .i64 (res24 6 a b v o y d)) ∧ Below w.heap.size w w' := by
  go_enter Try.func24, Try.ntmps24
  go_wp2
  all_goals
    go_ret
    exact ⟨ret_int (by unfold res24 unused; (repeat' split) <;> omega), ((Below.refl _ _).alloc (Nat.le_refl _) _).alloc (by simp) _⟩

set_option maxHeartbeats 1000000 in
theorem chk13 (a b v o y d : Int) (w : World) (ha : 0 ≤ a) (ha' : a ≤ 18446744073709551615) (hb : 0 ≤ b) (hb' : b ≤ 18446744073709551615) (hy : 0 ≤ y) (hy' : y ≤ 18446744073709551615) :
    Calls Try.prog 24 #[.agg #[.int .u8 13, .int .u64 a, .int .u64 b, .int .u64 v, .int .u64 o, .int .u64 y, .int .u64 d]] w fun e w' => e = .returned (.int .i64 (res24 13 a b v o y d)) ∧ Below w.heap.size w w' := by
  go_enter Try.func24, Try.ntmps24
  go_wp2
  all_goals
    go_ret
    exact ⟨ret_int (by unfold res24 unused; (repeat' split) <;> omega), ((Below.refl _ _).alloc (Nat.le_refl _) _).alloc (by simp) _⟩
end Go.Proofs.Ytiopfakeajofdaa
