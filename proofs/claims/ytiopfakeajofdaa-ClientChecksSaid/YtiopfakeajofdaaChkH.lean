/-
  The walks of Formed of the reference.
-/
import Derived.Test.YtiopfakeajofdaaChkG
set_option linter.unusedVariables false
set_option linter.unusedSimpArgs false
namespace Go.Proofs.Ytiopfakeajofdaa
open Go.RowKit
def formed (k a b v o y d : Int) : Bool := decide (¬ unused k a b v o y d ∧ 1 ≤ k ∧ k ≤ 15)
theorem ret_bool {a b : Bool} (h : a = b) : Ending.returned (.bool a) = .returned (.bool b) := by rw [h]
theorem bne_t {x : Int} (h : (x != 0) = true) : x ≠ 0 := by simpa using h
theorem bne_f {x : Int} (h : (x != 0) = false) : x = 0 := by simpa using h

set_option maxHeartbeats 1000000 in
theorem formed0 (a b v o y d : Int) (w : World) :
    Calls Try.prog 41 #[.agg #[.int .u8 0, .int .u64 a, .int .u64 b, .int .u64 v, .int .u64 o, .int .u64 y, .int .u64 d]] w fun e w' => e = .returned (.bool (formed 0 a b v o y d)) ∧ Below w.heap.size w w' := by
  go_enter Try.func41, Try.ntmps41
  go_wp2_with (go_at_call 46; refine (uses0 _).mono ?_; rintro e w' ⟨rfl, rfl⟩)
  refine wp_loop_rounds 7 ?_
  iterate 7 (all_goals (first | (rw [rounds_succ]; go_wp2) | skip))
  all_goals
    go_ret
    refine ⟨ret_bool ?_, ((((Below.refl _ _).alloc (Nat.le_refl _) _).alloc (by simp) _).alloc (by simp; omega) _).alloc (by simp; omega) _⟩
    try have e1 := bne_t ‹(a != 0) = true›
    try have e1 := bne_f ‹(a != 0) = false›
    try have e2 := bne_t ‹(b != 0) = true›
    try have e2 := bne_f ‹(b != 0) = false›
    try have e3 := bne_t ‹(v != 0) = true›
    try have e3 := bne_f ‹(v != 0) = false›
    try have e4 := bne_t ‹(o != 0) = true›
    try have e4 := bne_f ‹(o != 0) = false›
    try have e5 := bne_t ‹(y != 0) = true›
    try have e5 := bne_f ‹(y != 0) = false›
    try have e6 := bne_t ‹(d != 0) = true›
    try have e6 := bne_f ‹(d != 0) = false›
    unfold formed unused
    simp
    try omega

set_option maxHeartbeats 1000000 in
theorem formed1 (a b v o y d : Int) (w : World) :
    Calls Try.prog 41 #[.agg #[.int .u8 1, .int .u64 a, .int .u64 b, .int .u64 v, .int .u64 o, .int .u64 y, .int .u64 d]] w fun e w' => e = .returned (.bool (formed 1 a b v o y d)) ∧ Below w.heap.size w w' := by
  go_enter Try.func41, Try.ntmps41
  go_wp2_with (go_at_call 46; refine (uses1 _).mono ?_; rintro e w' ⟨rfl, rfl⟩)
  refine wp_loop_rounds 7 ?_
  iterate 7 (all_goals (first | (rw [rounds_succ]; go_wp2) | skip))
  all_goals
    go_ret
    refine ⟨ret_bool ?_, ((((Below.refl _ _).alloc (Nat.le_refl _) _).alloc (by simp) _).alloc (by simp; omega) _).alloc (by simp; omega) _⟩
    try have e1 := bne_t ‹(a != 0) = true›
    try have e1 := bne_f ‹(a != 0) = false›
    try have e2 := bne_t ‹(b != 0) = true›
    try have e2 := bne_f ‹(b != 0) = false›
    try have e3 := bne_t ‹(v != 0) = true›
    try have e3 := bne_f ‹(v != 0) = false›
    try have e4 := bne_t ‹(o != 0) = true›
    try have e4 := bne_f ‹(o != 0) = false›
    try have e5 := bne_t ‹(y != 0) = true›
    try have e5 := bne_f ‹(y != 0) = false›
    try have e6 := bne_t ‹(d != 0) = true›
    try have e6 := bne_f ‹(d != 0) = false›
    unfold formed unused
    simp
    try omega

set_option maxHeartbeats 1000000 in
theorem formed2 (a b v o y d : Int) (w : World) :
    Calls Try.prog 41 #[.agg #[.int .u8 2, .int .u64 a, .int .u64 b, .int .u64 v, .int .u64 o, .int .u64 y, .int .u64 d]] w fun e w' => e = .returned (.bool (formed 2 a b v o y d)) ∧ Below w.heap.size w w' := by
  go_enter Try.func41, Try.ntmps41
  go_wp2_with (go_at_call 46; refine (uses2 _).mono ?_; rintro e w' ⟨rfl, rfl⟩)
  refine wp_loop_rounds 7 ?_
  iterate 7 (all_goals (first | (rw [rounds_succ]; go_wp2) | skip))
  all_goals
    go_ret
    refine ⟨ret_bool ?_, ((((Below.refl _ _).alloc (Nat.le_refl _) _).alloc (by simp) _).alloc (by simp; omega) _).alloc (by simp; omega) _⟩
    try have e1 := bne_t ‹(a != 0) = true›
    try have e1 := bne_f ‹(a != 0) = false›
    try have e2 := bne_t ‹(b != 0) = true›
    try have e2 := bne_f ‹(b != 0) = false›
    try have e3 := bne_t ‹(v != 0) = true›
    try have e3 := bne_f ‹(v != 0) = false›
    try have e4 := bne_t ‹(o != 0) = true›
    try have e4 := bne_f ‹(o != 0) = false›
    try have e5 := bne_t ‹(y != 0) = true›
    try have e5 := bne_f ‹(y != 0) = false›
    try have e6 := bne_t ‹(d != 0) = true›
    try have e6 := bne_f ‹(d != 0) = false›
    unfold formed unused
    simp
    try omega

set_option maxHeartbeats 1000000 in
theorem formed3 (a b v o y d : Int) (w : World) :
    Calls Try.prog 41 #[.agg #[.int .u8 3, .int .u64 a, .int .u64 b, .int .u64 v, .int .u64 o, .int .u64 y, .int .u64 d]] w fun e w' => e = .returned (.bool (formed 3 a b v o y d)) ∧ Below w.heap.size w w' := by
  go_enter Try.func41, Try.ntmps41
  go_wp2_with (go_at_call 46; refine (uses3 _).mono ?_; rintro e w' ⟨rfl, rfl⟩)
  refine wp_loop_rounds 7 ?_
  iterate 7 (all_goals (first | (rw [rounds_succ]; go_wp2) | skip))
  all_goals
    go_ret
    refine ⟨ret_bool ?_, ((((Below.refl _ _).alloc (Nat.le_refl _) _).alloc (by simp) _).alloc (by simp; omega) _).alloc (by simp; omega) _⟩
    try have e1 := bne_t ‹(a != 0) = true›
    try have e1 := bne_f ‹(a != 0) = false›
    try have e2 := bne_t ‹(b != 0) = true›
    try have e2 := bne_f ‹(b != 0) = false›
    try have e3 := bne_t ‹(v != 0) = true›
    try have e3 := bne_f ‹(v != 0) = false›
    try have e4 := bne_t ‹(o != 0) = true›
    try have e4 := bne_f ‹(o != 0) = false›
    try have e5 := bne_t ‹(y != 0) = true›
    try have e5 := bne_f ‹(y != 0) = false›
    try have e6 := bne_t ‹(d != 0) = true›
    try have e6 := bne_f ‹(d != 0) = false›
    unfold formed unused
    simp
    try omega

set_option maxHeartbeats 1000000 in
theorem formed4 (a b v o y d : Int) (w : World) :
    Calls Try.prog 41 #[.agg #[.int .u8 4, .int .u64 a, .int .u64 b, .int .u64 v, .int .u64 o, .int .u64 y, .int .u64 d]] w fun e w' => e = .returned (.bool (formed 4 a b v o y d)) ∧ Below w.heap.size w w' := by
  go_enter Try.func41, Try.ntmps41
  go_wp2_with (go_at_call 46; refine (uses4 _).mono ?_; rintro e w' ⟨rfl, rfl⟩)
  refine wp_loop_rounds 7 ?_
  iterate 7 (all_goals (first | (rw [rounds_succ]; go_wp2) | skip))
  all_goals
    go_ret
    refine ⟨ret_bool ?_, ((((Below.refl _ _).alloc (Nat.le_refl _) _).alloc (by simp) _).alloc (by simp; omega) _).alloc (by simp; omega) _⟩
    try have e1 := bne_t ‹(a != 0) = true›
    try have e1 := bne_f ‹(a != 0) = false›
    try have e2 := bne_t ‹(b != 0) = true›
    try have e2 := bne_f ‹(b != 0) = false›
    try have e3 := bne_t ‹(v != 0) = true›
    try have e3 := bne_f ‹(v != 0) = false›
    try have e4 := bne_t ‹(o != 0) = true›
    try have e4 := bne_f ‹(o != 0) = false›
    try have e5 := bne_t ‹(y != 0) = true›
    try have e5 := bne_f ‹(y != 0) = false›
    try have e6 := bne_t ‹(d != 0) = true›
    try have e6 := bne_f ‹(d != 0) = false›
    unfold formed unused
    simp
    try omega

set_option maxHeartbeats 1000000 in
theorem formed5 (a b v o y d : Int) (w : World) :
    Calls Try.prog 41 #[.agg #[.int .u8 5, .int .u64 a, .int .u64 b, .int .u64 v, .int .u64 o, .int .u64 y, .int .u64 d]] w fun e w' => e = .returned (.bool (formed 5 a b v o y d)) ∧ Below w.heap.size w w' := by
  go_enter Try.func41, Try.ntmps41
  go_wp2_with (go_at_call 46; refine (uses5 _).mono ?_; rintro e w' ⟨rfl, rfl⟩)
  refine wp_loop_rounds 7 ?_
  iterate 7 (all_goals (first | (rw [rounds_succ]; go_wp2) | skip))
  all_goals
    go_ret
    refine ⟨ret_bool ?_, ((((Below.refl _ _).alloc (Nat.le_refl _) _).alloc (by simp) _).alloc (by simp; omega) _).alloc (by simp; omega) _⟩
    try have e1 := bne_t ‹(a != 0) = true›
    try have e1 := bne_f ‹(a != 0) = false›
    try have e2 := bne_t ‹(b != 0) = true›
    try have e2 := bne_f ‹(b != 0) = false›
    try have e3 := bne_t ‹(v != 0) = true›
    try have e3 := bne_f ‹(v != 0) = false›
    try have e4 := bne_t ‹(o != 0) = true›
    try have e4 := bne_f ‹(o != 0) = false›
    try have e5 := bne_t ‹(y != 0) = true›
    try have e5 := bne_f ‹(y != 0) = false›
    try have e6 := bne_t ‹(d != 0) = true›
    try have e6 := bne_f ‹(d != 0) = false›
    unfold formed unused
    simp
    try omega

set_option maxHeartbeats 1000000 in
theorem formed6 (a b v o y d : Int) (w : World) :
    Calls Try.prog 41 #[.agg #[.int .u8 6, .int .u64 a, .int .u64 b, .int .u64 v, .int .u64 o, .int .u64 y, .int .u64 d]] w fun e w' => e = .returned (.bool (formed 6 a b v o y d)) ∧ Below w.heap.size w w' := by
  go_enter Try.func41, Try.ntmps41
  go_wp2_with (go_at_call 46; refine (uses6 _).mono ?_; rintro e w' ⟨rfl, rfl⟩)
  refine wp_loop_rounds 7 ?_
  iterate 7 (all_goals (first | (rw [rounds_succ]; go_wp2) | skip))
  all_goals
    go_ret
    refine ⟨ret_bool ?_, ((((Below.refl _ _).alloc (Nat.le_refl _) _).alloc (by simp) _).alloc (by simp; omega) _).alloc (by simp; omega) _⟩
    try have e1 := bne_t ‹(a != 0) = true›
    try have e1 := bne_f ‹(a != 0) = false›
    try have e2 := bne_t ‹(b != 0) = true›
    try have e2 := bne_f ‹(b != 0) = false›
    try have e3 := bne_t ‹(v != 0) = true›
    try have e3 := bne_f ‹(v != 0) = false›
    try have e4 := bne_t ‹(o != 0) = true›
    try have e4 := bne_f ‹(o != 0) = false›
    try have e5 := bne_t ‹(y != 0) = true›
    try have e5 := bne_f ‹(y != 0) = false›
    try have e6 := bne_t ‹(d != 0) = true›
    try have e6 := bne_f ‹(d != 0) = false›
    unfold formed unused
    simp
    try omega

set_option maxHeartbeats 1000000 in
theorem formed7 (a b v o y d : Int) (w : World) :
    Calls Try.prog 41 #[.agg #[.int .u8 7, .int .u64 a, .int .u64 b, .int .u64 v, .int .u64 o, .int .u64 y, .int .u64 d]] w fun e w' => e = .returned (.bool (formed 7 a b v o y d)) ∧ Below w.heap.size w w' := by
  go_enter Try.func41, Try.ntmps41
  go_wp2_with (go_at_call 46; refine (uses7 _).mono ?_; rintro e w' ⟨rfl, rfl⟩)
  refine wp_loop_rounds 7 ?_
  iterate 7 (all_goals (first | (rw [rounds_succ]; go_wp2) | skip))
  all_goals
    go_ret
    refine ⟨ret_bool ?_, ((((Below.refl _ _).alloc (Nat.le_refl _) _).alloc (by simp) _).alloc (by simp; omega) _).alloc (by simp; omega) _⟩
    try have e1 := bne_t ‹(a != 0) = true›
    try have e1 := bne_f ‹(a != 0) = false›
    try have e2 := bne_t ‹(b != 0) = true›
    try have e2 := bne_f ‹(b != 0) = false›
    try have e3 := bne_t ‹(v != 0) = true›
    try have e3 := bne_f ‹(v != 0) = false›
    try have e4 := bne_t ‹(o != 0) = true›
    try have e4 := bne_f ‹(o != 0) = false›
    try have e5 := bne_t ‹(y != 0) = true›
    try have e5 := bne_f ‹(y != 0) = false›
    try have e6 := bne_t ‹(d != 0) = true›
    try have e6 := bne_f ‹(d != 0) = false›
    unfold formed unused
    simp
    try omega

set_option maxHeartbeats 1000000 in
theorem formed8 (a b v o y d : Int) (w : World) :
    Calls Try.prog 41 #[.agg #[.int .u8 8, .int .u64 a, .int .u64 b, .int .u64 v, .int .u64 o, .int .u64 y, .int .u64 d]] w fun e w' => e = .returned (.bool (formed 8 a b v o y d)) ∧ Below w.heap.size w w' := by
  go_enter Try.func41, Try.ntmps41
  go_wp2_with (go_at_call 46; refine (uses8 _).mono ?_; rintro e w' ⟨rfl, rfl⟩)
  refine wp_loop_rounds 7 ?_
  iterate 7 (all_goals (first | (rw [rounds_succ]; go_wp2) | skip))
  all_goals
    go_ret
    refine ⟨ret_bool ?_, ((((Below.refl _ _).alloc (Nat.le_refl _) _).alloc (by simp) _).alloc (by simp; omega) _).alloc (by simp; omega) _⟩
    try have e1 := bne_t ‹(a != 0) = true›
    try have e1 := bne_f ‹(a != 0) = false›
    try have e2 := bne_t ‹(b != 0) = true›
    try have e2 := bne_f ‹(b != 0) = false›
    try have e3 := bne_t ‹(v != 0) = true›
    try have e3 := bne_f ‹(v != 0) = false›
    try have e4 := bne_t ‹(o != 0) = true›
    try have e4 := bne_f ‹(o != 0) = false›
    try have e5 := bne_t ‹(y != 0) = true›
    try have e5 := bne_f ‹(y != 0) = false›
    try have e6 := bne_t ‹(d != 0) = true›
    try have e6 := bne_f ‹(d != 0) = false›
    unfold formed unused
    simp
    try omega
end Go.Proofs.Ytiopfakeajofdaa
