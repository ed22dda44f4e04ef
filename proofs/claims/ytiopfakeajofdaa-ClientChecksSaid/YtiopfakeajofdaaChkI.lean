/-
  The walks of Formed of the reference.
-/
import Derived.Test.YtiopfakeajofdaaChkH
set_option linter.unusedVariables false
set_option linter.unusedSimpArgs false
namespace Go.Proofs.Ytiopfakeajofdaa
open Go.RowKit

set_option maxHeartbeats 1000000 in
theorem formed9 (a b v o y d : Int) (w : World) :
    Calls Try.prog 41 #[.agg #[.int .u8 9, .int .u64 a, .int .u64 b, .int .u64 v, .int .u64 o, .int .u64 y, .int .u64 d]] w fun e w' => e = .returned (.bool (formed 9 a b v o y d)) ∧ Below w.heap.size w w' := by
  go_enter Try.func41, Try.ntmps41
  go_wp2_with (go_at_call 46; refine (uses9 _).mono ?_; rintro e w' ⟨rfl, rfl⟩)
  refine wp_loop_rounds 7 ?_
  iterate 7 (all_goals (first | (rw [rounds_succ]; go_wp2) | skip))
  all_goals
    go_ret
    refine ⟨ret_bool ?_, ((((Below.refl _ _).alloc (Nat.le_refl _) _).alloc (by simp) _).alloc (by simp; omega) _).alloc (by simp; omega) _⟩
    try have e1 := bne_t ‹(a != 0) = true›
    try have e1 := bne_f ‹(a != 0) = false›
    try have e2 := bne_t ‹(b != 0) = true›
    try have e2 := bne_f ‹(b != 0) = false›
    try have e3 := bne_t ‹(v != 0) = true›
    try have e3 := bne_f ‹(v != 0) = false›
    try have e4 := bne_t ‹(o != 0) = true›
    try have e4 := bne_f ‹(o != 0) = false›
    try have e5 := bne_t ‹(y != 0) = true›
    try have e5 := bne_f ‹(y != 0) = false›
    try have e6 := bne_t ‹(d != 0) = true›
    try have e6 := bne_f ‹(d != 0) = false›
    unfold formed unused
    simp
    try omega

set_option maxHeartbeats 1000000 in
theorem formed10 (a b v o y d : Int) (w : World) :
    Calls Try.prog 41 #[.agg #[.int .u8 10, .int .u64 a, .int .u64 b, .int .u64 v, .int .u64 o, .int .u64 y, .int .u64 d]] w fun e w' => e = .returned (.bool (formed 10 a b v o y d)) ∧ Below w.heap.size w w' := by
  go_enter Try.func41, Try.ntmps41
  go_wp2_with (go_at_call 46; refine (uses10 _).mono ?_; rintro e w' ⟨rfl, rfl⟩)
  refine wp_loop_rounds 7 ?_
  iterate 7 (all_goals (first | (rw [rounds_succ]; go_wp2) | skip))
  all_goals
    go_ret
    refine ⟨ret_bool ?_, ((((Below.refl _ _).alloc (Nat.le_refl _) _).alloc (by simp) _).alloc (by simp; omega) _).alloc (by simp; omega) _⟩
    try have e1 := bne_t ‹(a != 0) = true›
    try have e1 := bne_f ‹(a != 0) = false›
    try have e2 := bne_t ‹(b != 0) = true›
    try have e2 := bne_f ‹(b != 0) = false›
    try have e3 := bne_t ‹(v != 0) = true›
    try have e3 := bne_f ‹(v != 0) = false›
    try have e4 := bne_t ‹(o != 0) = true›
    try have e4 := bne_f ‹(o != 0) = false›
    try have e5 := bne_t ‹(y != 0) = true›
    try have e5 := bne_f ‹(y != 0) = false›
    try have e6 := bne_t ‹(d != 0) = true›
    try have e6 := bne_f ‹(d != 0) = false›
    unfold formed unused
    simp
    try omega

set_option maxHeartbeats 1000000 in
theorem formed11 (a b v o y d : Int) (w : World) :
    Calls Try.prog 41 #[.agg #[.int .u8 11, .int .u64 a, .int .u64 b, .int .u64 v, .int .u64 o, .int .u64 y, .int .u64 d]] w fun e w' => e = .returned (.bool (formed 11 a b v o y d)) ∧ Below w.heap.size w w' := by
  go_enter Try.func41, Try.ntmps41
  go_wp2_with (go_at_call 46; refine (uses11 _).mono ?_; rintro e w' ⟨rfl, rfl⟩)
  refine wp_loop_rounds 7 ?_
  iterate 7 (all_goals (first | (rw [rounds_succ]; go_wp2) | skip))
  all_goals
    go_ret
    refine ⟨ret_bool ?_, ((((Below.refl _ _).alloc (Nat.le_refl _) _).alloc (by simp) _).alloc (by simp; omega) _).alloc (by simp; omega) _⟩
    try have e1 := bne_t ‹(a != 0) = true›
    try have e1 := bne_f ‹(a != 0) = false›
    try have e2 := bne_t ‹(b != 0) = true›
    try have e2 := bne_f ‹(b != 0) = false›
    try have e3 := bne_t ‹(v != 0) = true›
    try have e3 := bne_f ‹(v != 0) = false›
    try have e4 := bne_t ‹(o != 0) = true›
    try have e4 := bne_f ‹(o != 0) = false›
    try have e5 := bne_t ‹(y != 0) = true›
    try have e5 := bne_f ‹(y != 0) = false›
    try have e6 := bne_t ‹(d != 0) = true›
    try have e6 := bne_f ‹(d != 0) = false›
    unfold formed unused
    simp
    try omega

set_option maxHeartbeats 1000000 in
theorem formed12 (a b v o y d : Int) (w : World) :
    Calls Try.prog 41 #[.agg #[.int .u8 12, .int .u64 a, .int .u64 b, .int .u64 v, .int .u64 o, .int .u64 y, .int .u64 d]] w fun e w' => e = .returned (.bool (formed 12 a b v o y d)) ∧ Below w.heap.size w w' := by
  go_enter Try.func41, Try.ntmps41
  go_wp2_with (go_at_call 46; refine (uses12 _).mono ?_; rintro e w' ⟨rfl, rfl⟩)
  refine wp_loop_rounds 7 ?_
  iterate 7 (all_goals (first | (rw [rounds_succ]; go_wp2) | skip))
  all_goals
    go_ret
    refine ⟨ret_bool ?_, ((((Below.refl _ _).alloc (Nat.le_refl _) _).alloc (by simp) _).alloc (by simp; omega) _).alloc (by simp; omega) _⟩
    try have e1 := bne_t ‹(a != 0) = true›
    try have e1 := bne_f ‹(a != 0) = false›
    try have e2 := bne_t ‹(b != 0) = true›
    try have e2 := bne_f ‹(b != 0) = false›
    try have e3 := bne_t ‹(v != 0) = true›
    try have e3 := bne_f ‹(v != 0) = false›
    try have e4 := bne_t ‹(o != 0) = true›
    try have e4 := bne_f ‹(o != 0) = false›
    try have e5 := bne_t ‹(y != 0) = true›
    try have e5 := bne_f ‹(y != 0) = false›
    try have e6 := bne_t ‹(d != 0) = true›
    try have e6 := bne_f ‹(d != 0) = false›
    unfold formed unused
    simp
    try omega

set_option maxHeartbeats 1000000 in
theorem formed13 (a b v o y d : Int) (w : World) :
    Calls Try.prog 41 #[.agg #[.int .u8 13, .int .u64 a, .int .u64 b, .int .u64 v, .int .u64 o, .int .u64 y, .int .u64 d]] w fun e w' => e = .returned (.bool (formed 13 a b v o y d)) ∧ Below w.heap.size w w' := by
  go_enter Try.func41, Try.ntmps41
  go_wp2_with (go_at_call 46; refine (uses13 _).mono ?_; rintro e w' ⟨rfl, rfl⟩)
  refine wp_loop_rounds 7 ?_
  iterate 7 (all_goals (first | (rw [rounds_succ]; go_wp2) | skip))
  all_goals
    go_ret
    refine ⟨ret_bool ?_, ((((Below.refl _ _).alloc (Nat.le_refl _) _).alloc (by simp) _).alloc (by simp; omega) _).alloc (by simp; omega) _⟩
    try have e1 := bne_t ‹(a != 0) = true›
    try have e1 := bne_f ‹(a != 0) = false›
    try have e2 := bne_t ‹(b != 0) = true›
    try have e2 := bne_f ‹(b != 0) = false›
    try have e3 := bne_t ‹(v != 0) = true›
    try have e3 := bne_f ‹(v != 0) = false›
    try have e4 := bne_t ‹(o != 0) = true›
    try have e4 := bne_f ‹(o != 0) = false›
    try have e5 := bne_t ‹(y != 0) = true›
    try have e5 := bne_f ‹(y != 0) = false›
    try have e6 := bne_t ‹(d != 0) = true›
    try have e6 := bne_f ‹(d != 0) = false›
    unfold formed unused
    simp
    try omega

set_option maxHeartbeats 1000000 in
theorem formed14 (a b v o y d : Int) (w : World) :
    Calls Try.prog 41 #[.agg #[.int .u8 14, .int .u64 a, .int .u64 b, .int .u64 v, .int .u64 o, .int .u64 y, .int .u64 d]] w fun e w' => e = .returned (.bool (formed 14 a b v o y d)) ∧ Below w.heap.size w w' := by
  go_enter Try.func41, Try.ntmps41
  go_wp2_with (go_at_call 46; refine (uses14 _).mono ?_; rintro e w' ⟨rfl, rfl⟩)
  refine wp_loop_rounds 7 ?_
  iterate 7 (all_goals (first | (rw [rounds_succ]; go_wp2) | skip))
  all_goals
    go_ret
    refine ⟨ret_bool ?_, ((((Below.refl _ _).alloc (Nat.le_refl _) _).alloc (by simp) _).alloc (by simp; omega) _).alloc (by simp; omega) _⟩
    try have e1 := bne_t ‹(a != 0) = true›
    try have e1 := bne_f ‹(a != 0) = false›
    try have e2 := bne_t ‹(b != 0) = true›
    try have e2 := bne_f ‹(b != 0) = false›
    try have e3 := bne_t ‹(v != 0) = true›
    try have e3 := bne_f ‹(v != 0) = false›
    try have e4 := bne_t ‹(o != 0) = true›
    try have e4 := bne_f ‹(o != 0) = false›
    try have e5 := bne_t ‹(y != 0) = true›
    try have e5 := bne_f ‹(y != 0) = false›
    try have e6 := bne_t ‹(d != 0) = true›
    try have e6 := bne_f ‹(d != 0) = false›
    unfold formed unused
    simp
    try omega

set_option maxHeartbeats 1000000 in
theorem formed15 (a b v o y d : Int) (w : World) :
    Calls Try.prog 41 #[.agg #[.int .u8 15, .int .u64 a, .int .u64 b, .int .u64 v, .int .u64 o, .int .u64 y, .int .u64 d]] w fun e w' => e = .returned (.bool (formed 15 a b v o y d)) ∧ Below w.heap.size w w' := by
  go_enter Try.func41, Try.ntmps41
  go_wp2_with (go_at_call 46; refine (uses15 _).mono ?_; rintro e w' ⟨rfl, rfl⟩)
  refine wp_loop_rounds 7 ?_
  iterate 7 (all_goals (first | (rw [rounds_succ]; go_wp2) | skip))
  all_goals
    go_ret
    refine ⟨ret_bool ?_, ((((Below.refl _ _).alloc (Nat.le_refl _) _).alloc (by simp) _).alloc (by simp; omega) _).alloc (by simp; omega) _⟩
    try have e1 := bne_t ‹(a != 0) = true›
    try have e1 := bne_f ‹(a != 0) = false›
    try have e2 := bne_t ‹(b != 0) = true›
    try have e2 := bne_f ‹(b != 0) = false›
    try have e3 := bne_t ‹(v != 0) = true›
    try have e3 := bne_f ‹(v != 0) = false›
    try have e4 := bne_t ‹(o != 0) = true›
    try have e4 := bne_f ‹(o != 0) = false›
    try have e5 := bne_t ‹(y != 0) = true›
    try have e5 := bne_f ‹(y != 0) = false›
    try have e6 := bne_t ‹(d != 0) = true›
    try have e6 := bne_f ‹(d != 0) = false›
    unfold formed unused
    simp
    try omega
end Go.Proofs.Ytiopfakeajofdaa
