/-
  The walks of package field and of its reference: what each function returns, for all arguments.
-/
import Derived.Test.YtiopfakeajofdaaRows
import Derived.WalkKit
import Derived.WalkSpells
import Derived.WalkLawsBesides
import Derived.OpenShut
import Derived.Lib.Hide
import Derived.Deep.Light
set_option linter.unusedVariables false
set_option linter.unusedSimpArgs false
namespace Go.Proofs.Ytiopfakeajofdaa
open Go.RowKit

def topV (t w : Int) : Int := if 1099511627775 < t ∨ w < 0 ∨ 1024 < w then 0 else w + 65536 * t
def topE (t w : Int) : Int := if 1099511627775 < t ∨ w < 0 ∨ 1024 < w then 2 else 0

theorem pair_eq {a b c d : Int} {k l : IntKind} (h : a = c ∧ b = d) : Ending.returned (.tuple #[.int k a, .int l b]) = .returned (.tuple #[.int k c, .int l d]) := by
  obtain ⟨rfl, rfl⟩ := h; rfl
theorem one_eq {a c : Int} {k : IntKind} (h : a = c) : Ending.returned (.int k a) = .returned (.int k c) := by
  subst h; rfl
theorem bool_eq {a c : Bool} (h : a = c) : Ending.returned (.bool a) = .returned (.bool c) := by
  subst h; rfl

set_option maxHeartbeats 400000 in
theorem top12 (a0 a1 : Int) (w : World)  (h0 : 0 ≤ a0) (h0' : a0 ≤ 18446744073709551615) (h1 : -9223372036854775808 ≤ a1) (h2 : a1 ≤ 9223372036854775807) :
    Calls Try.prog 12 #[.int .u64 a0, .int .i64 a1] w fun e w' => e = .returned (.tuple #[.int .u64 (topV a0 a1), .int .i64 (topE a0 a1)]) ∧ w = w' := by
  go_enter Try.func12, Try.ntmps12
  go_wp2
  all_goals (go_ret2; refine ⟨pair_eq ?_, rfl⟩; unfold topV topE; constructor <;> split <;> omega)

set_option maxHeartbeats 400000 in
theorem top13 (a0 a1 : Int) (w : World)  (h0 : 0 ≤ a0) (h0' : a0 ≤ 18446744073709551615) (h1 : -9223372036854775808 ≤ a1) (h2 : a1 ≤ 9223372036854775807) :
    Calls Try.prog 13 #[.int .u64 a0, .int .i64 a1] w fun e w' => e = .returned (.tuple #[.int .u64 (topV a0 a1), .int .i64 (topE a0 a1)]) ∧ w = w' := by
  go_enter Try.func13, Try.ntmps13
  go_wp2
  all_goals (go_ret2; refine ⟨pair_eq ?_, rfl⟩; unfold topV topE; constructor <;> split <;> omega)

set_option maxHeartbeats 400000 in
theorem tag14 (a0 : Int) (w : World)  (h0 : 0 ≤ a0) (h0' : a0 ≤ 18446744073709551615) :
    Calls Try.prog 14 #[.int .u64 a0] w fun e w' => e = .returned (.int .u64 (a0 / 65536)) ∧ w = w' := by
  go_enter Try.func14, Try.ntmps14
  go_wp2
  go_ret
  exact ⟨rfl, rfl⟩
theorem tag15 (a0 : Int) (w : World)  (h0 : 0 ≤ a0) (h0' : a0 ≤ 18446744073709551615) :
    Calls Try.prog 15 #[.int .u64 a0] w fun e w' => e = .returned (.int .u64 (a0 / 65536)) ∧ w = w' := by
  go_enter Try.func15, Try.ntmps15
  go_wp2
  go_ret
  exact ⟨rfl, rfl⟩
theorem tower16 (a0 : Int) (w : World)  (h0 : 0 ≤ a0) (h0' : a0 ≤ 18446744073709551615) :
    Calls Try.prog 16 #[.int .u64 a0] w fun e w' => e = .returned (.int .i64 (a0 % 65536)) ∧ w = w' := by
  go_enter Try.func16, Try.ntmps16
  go_wp2
  go_ret
  exact ⟨rfl, rfl⟩
theorem tower17 (a0 : Int) (w : World)  (h0 : 0 ≤ a0) (h0' : a0 ≤ 18446744073709551615) :
    Calls Try.prog 17 #[.int .u64 a0] w fun e w' => e = .returned (.int .i64 (a0 % 65536)) ∧ w = w' := by
  go_enter Try.func17, Try.ntmps17
  go_wp2
  go_ret
  exact ⟨rfl, rfl⟩

def descV (g : Int) (c : Bool) : Int := if 1099511627775 < g then 0 else if c then 2 * g + 1 else 2 * g
def descE (g : Int) : Int := if 1099511627775 < g then 2 else 0

set_option maxHeartbeats 400000 in
theorem desc18 (g : Int) (c : Bool) (w : World)  (h0 : 0 ≤ g) (h0' : g ≤ 18446744073709551615) :
    Calls Try.prog 18 #[.int .u64 g, .bool c] w fun e w' => e = .returned (.tuple #[.int .u64 (descV g c), .int .i64 (descE g)]) ∧ w = w' := by
  cases c
  all_goals
    go_enter Try.func18, Try.ntmps18
    go_wp2
    all_goals (go_ret2; refine ⟨pair_eq ?_, rfl⟩; unfold descV descE; constructor <;> simp <;> omega)
set_option maxHeartbeats 400000 in
theorem desc19 (g : Int) (c : Bool) (w : World)  (h0 : 0 ≤ g) (h0' : g ≤ 18446744073709551615) :
    Calls Try.prog 19 #[.int .u64 g, .bool c] w fun e w' => e = .returned (.tuple #[.int .u64 (descV g c), .int .i64 (descE g)]) ∧ w = w' := by
  cases c
  all_goals
    go_enter Try.func19, Try.ntmps19
    go_wp2
    all_goals (go_ret2; refine ⟨pair_eq ?_, rfl⟩; unfold descV descE; constructor <;> simp <;> omega)
theorem gen20 (a0 : Int) (w : World)  (h0 : 0 ≤ a0) (h0' : a0 ≤ 18446744073709551615) :
    Calls Try.prog 20 #[.int .u64 a0] w fun e w' => e = .returned (.int .u64 (a0 / 2)) ∧ w = w' := by
  go_enter Try.func20, Try.ntmps20
  go_wp2
  go_ret
  exact ⟨rfl, rfl⟩
theorem gen21 (a0 : Int) (w : World)  (h0 : 0 ≤ a0) (h0' : a0 ≤ 18446744073709551615) :
    Calls Try.prog 21 #[.int .u64 a0] w fun e w' => e = .returned (.int .u64 (a0 / 2)) ∧ w = w' := by
  go_enter Try.func21, Try.ntmps21
  go_wp2
  go_ret
  exact ⟨rfl, rfl⟩
def isOdd (a : Int) : Bool := a % 2 == 1
theorem comm22 (a0 : Int) (w : World)  (h0 : 0 ≤ a0) (h0' : a0 ≤ 18446744073709551615) :
    Calls Try.prog 22 #[.int .u64 a0] w fun e w' => e = .returned (.bool (isOdd a0)) ∧ w = w' := by
  go_enter Try.func22, Try.ntmps22
  go_wp2
  go_ret
  exact ⟨rfl, rfl⟩
theorem comm23 (a0 : Int) (w : World)  (h0 : 0 ≤ a0) (h0' : a0 ≤ 18446744073709551615) :
    Calls Try.prog 23 #[.int .u64 a0] w fun e w' => e = .returned (.bool (isOdd a0)) ∧ w = w' := by
  go_enter Try.func23, Try.ntmps23
  go_wp2
  go_ret
  exact ⟨rfl, rfl⟩
theorem kind30 (a0 : Int) (w : World)  (h0 : 0 ≤ a0) (h0' : a0 ≤ 18446744073709551615) :
    Calls Try.prog 30 #[.int .u64 a0] w fun e w' => e = .returned (.int .u8 (a0 % 8)) ∧ w = w' := by
  go_enter Try.func30, Try.ntmps30
  go_wp2
  go_ret
  exact ⟨rfl, rfl⟩
theorem kind31 (a0 : Int) (w : World)  (h0 : 0 ≤ a0) (h0' : a0 ≤ 18446744073709551615) :
    Calls Try.prog 31 #[.int .u64 a0] w fun e w' => e = .returned (.int .u8 (a0 % 8)) ∧ w = w' := by
  go_enter Try.func31, Try.ntmps31
  go_wp2
  go_ret
  exact ⟨rfl, rfl⟩
theorem entry32 (a0 : Int) (w : World)  (h0 : 0 ≤ a0) (h0' : a0 ≤ 18446744073709551615) :
    Calls Try.prog 32 #[.int .u64 a0] w fun e w' => e = .returned (.int .i64 (a0 % 65536 / 8)) ∧ w = w' := by
  go_enter Try.func32, Try.ntmps32
  go_wp2
  go_ret
  exact ⟨rfl, rfl⟩
theorem entry33 (a0 : Int) (w : World)  (h0 : 0 ≤ a0) (h0' : a0 ≤ 18446744073709551615) :
    Calls Try.prog 33 #[.int .u64 a0] w fun e w' => e = .returned (.int .i64 (a0 % 65536 / 8)) ∧ w = w' := by
  go_enter Try.func33, Try.ntmps33
  go_wp2
  go_ret
  exact ⟨rfl, rfl⟩
theorem gen34 (a0 : Int) (w : World)  (h0 : 0 ≤ a0) (h0' : a0 ≤ 18446744073709551615) :
    Calls Try.prog 34 #[.int .u64 a0] w fun e w' => e = .returned (.int .u64 (a0 / 65536)) ∧ w = w' := by
  go_enter Try.func34, Try.ntmps34
  go_wp2
  go_ret
  exact ⟨rfl, rfl⟩
theorem gen35 (a0 : Int) (w : World)  (h0 : 0 ≤ a0) (h0' : a0 ≤ 18446744073709551615) :
    Calls Try.prog 35 #[.int .u64 a0] w fun e w' => e = .returned (.int .u64 (a0 / 65536)) ∧ w = w' := by
  go_enter Try.func35, Try.ntmps35
  go_wp2
  go_ret
  exact ⟨rfl, rfl⟩
/-- 0: no kind, 1: plain, 2: conditional. -/
def grp (k : Int) : Int := if k = 0 ∨ k = 1 ∨ k = 2 then 1 else if k = 3 ∨ k = 4 ∨ k = 5 then 2 else 0
set_option maxHeartbeats 400000 in
theorem group47 (k : Int) (w : World)  (h0 : 0 ≤ k) (h0' : k ≤ 255) :
    Calls Try.prog 47 #[.int .u8 k] w fun e w' => e = .returned (.int .i64 (grp k)) ∧ w = w' := by
  go_enter Try.func47, Try.ntmps47
  go_wp2
  all_goals (go_ret; refine ⟨one_eq ?_, rfl⟩; simp_all [grp])

set_option maxHeartbeats 400000 in
theorem plain48 (k : Int) (w : World)  (h0 : 0 ≤ k) (h0' : k ≤ 255) :
    Calls Try.prog 48 #[.int .u8 k] w fun e w' => e = .returned (.bool (decide (k ≤ 2))) ∧ w = w' := by
  go_enter Try.func48, Try.ntmps48
  go_wp2
  all_goals (go_ret; go_light; refine ⟨bool_eq ?_, rfl⟩; rw [Bool.eq_iff_iff]; simp only [Bool.or_eq_true, beq_iff_eq, decide_eq_true_eq, true_iff]; omega)
/-- whether parts are those of a state word -/
def vld (k n g : Int) : Bool := if k ≤ 2 then decide (n = 0 ∧ g = 0) else if k ≤ 5 then decide (0 ≤ n ∧ n < 16 ∧ g ≤ 1099511627775) else false
theorem vld_iff (k n g : Int) : vld k n g = true ↔ (k ≤ 2 ∧ n = 0 ∧ g = 0 ∨ 2 < k ∧ k ≤ 5 ∧ 0 ≤ n ∧ n < 16 ∧ g ≤ 1099511627775) := by
  unfold vld
  split
  · simp; omega
  · split
    · simp; omega
    · simp; omega
set_option maxHeartbeats 400000 in
theorem valid43 (k n g : Int) (w : World)  (h0 : 0 ≤ k) (h0' : k ≤ 255) (h1 : -9223372036854775808 ≤ n) (h2 : n ≤ 9223372036854775807) (h3 : 0 ≤ g) (h4 : g ≤ 18446744073709551615) :
    Calls Try.prog 43 #[.int .u8 k, .int .i64 n, .int .u64 g] w fun e w' => e = .returned (.bool (vld k n g)) ∧ w = w' := by
  go_enter Try.func43, Try.ntmps43
  go_wp2
  all_goals (go_ret; go_light; refine ⟨bool_eq ?_, rfl⟩; simp only [beq_iff_eq, beq_eq_false_iff_ne] at *; rw [Bool.eq_iff_iff, vld_iff]; simp only [beq_iff_eq, decide_eq_true_eq, true_iff, false_iff, Bool.false_eq_true]; omega)
set_option maxHeartbeats 400000 in
theorem valid44 (k n g : Int) (w : World)  (h0 : 0 ≤ k) (h0' : k ≤ 255) (h1 : -9223372036854775808 ≤ n) (h2 : n ≤ 9223372036854775807) (h3 : 0 ≤ g) (h4 : g ≤ 18446744073709551615) :
    Calls Try.prog 44 #[.int .u8 k, .int .i64 n, .int .u64 g] w fun e w' => e = .returned (.bool (vld k n g)) ∧ w = w' := by
  go_enter Try.func44, Try.ntmps44
  go_wp2_with (go_at_call 48; refine (plain48 _ _ (by omega) (by omega)).mono ?_; rintro e w' ⟨rfl, rfl⟩)
  all_goals (go_ret; go_light; refine ⟨bool_eq ?_, rfl⟩; rw [Bool.eq_iff_iff, vld_iff]; simp only [beq_iff_eq, decide_eq_true_eq, true_iff, false_iff, Bool.false_eq_true]; omega)
def stV (k n g : Int) : Int := if vld k n g = true then k + 8 * n + 65536 * g else 0
def stE (k n g : Int) : Int := if vld k n g = true then 0 else 2
set_option maxHeartbeats 400000 in
theorem state26 (k n g : Int) (w : World)  (h0 : 0 ≤ k) (h0' : k ≤ 255) (h1 : -9223372036854775808 ≤ n) (h2 : n ≤ 9223372036854775807) (h3 : 0 ≤ g) (h4 : g ≤ 18446744073709551615) :
    Calls Try.prog 26 #[.int .u8 k, .int .i64 n, .int .u64 g] w fun e w' => e = .returned (.tuple #[.int .u64 (stV k n g), .int .i64 (stE k n g)]) ∧ w = w' := by
  have c := fun w => valid43 k n g w h0 h0' h1 h2 h3 h4
  by_cases hv : vld k n g = true
  · have hb := (vld_iff k n g).1 hv
    have b1 : 0 ≤ n := by omega
    have b2 : n < 16 := by omega
    have b3 : g ≤ 1099511627775 := by omega
    have b4 : k ≤ 5 := by omega
    clear hb
    rw [hv] at c
    have HV := Lib.hid hv
    clear hv
    have C := Lib.hid c
    clear c
    go_enter Try.func26, Try.ntmps26
    go_wp2_with (go_at_call 43; refine (C.out _).mono ?_; rintro e w' ⟨rfl, rfl⟩)
    go_ret2
    exact ⟨pair_eq (by simp [stV, stE, HV.out]), rfl⟩
  · simp only [Bool.not_eq_true] at hv
    rw [hv] at c
    have HV := Lib.hid hv
    clear hv
    have C := Lib.hid c
    clear c
    go_enter Try.func26, Try.ntmps26
    go_wp2_with (go_at_call 43; refine (C.out _).mono ?_; rintro e w' ⟨rfl, rfl⟩)
    go_ret2
    exact ⟨pair_eq (by simp [stV, stE, HV.out]), rfl⟩

set_option maxHeartbeats 400000 in
theorem state27 (k n g : Int) (w : World)  (h0 : 0 ≤ k) (h0' : k ≤ 255) (h1 : -9223372036854775808 ≤ n) (h2 : n ≤ 9223372036854775807) (h3 : 0 ≤ g) (h4 : g ≤ 18446744073709551615) :
    Calls Try.prog 27 #[.int .u8 k, .int .i64 n, .int .u64 g] w fun e w' => e = .returned (.tuple #[.int .u64 (stV k n g), .int .i64 (stE k n g)]) ∧ w = w' := by
  have c := fun w => valid44 k n g w h0 h0' h1 h2 h3 h4
  by_cases hv : vld k n g = true
  · have hb := (vld_iff k n g).1 hv
    have b1 : 0 ≤ n := by omega
    have b2 : n < 16 := by omega
    have b3 : g ≤ 1099511627775 := by omega
    have b4 : k ≤ 5 := by omega
    clear hb
    rw [hv] at c
    have HV := Lib.hid hv
    clear hv
    have C := Lib.hid c
    clear c
    go_enter Try.func27, Try.ntmps27
    go_wp2_with (go_at_call 44; refine (C.out _).mono ?_; rintro e w' ⟨rfl, rfl⟩)
    go_ret2
    exact ⟨pair_eq (by simp [stV, stE, HV.out]), rfl⟩
  · simp only [Bool.not_eq_true] at hv
    rw [hv] at c
    have HV := Lib.hid hv
    clear hv
    have C := Lib.hid c
    clear c
    go_enter Try.func27, Try.ntmps27
    go_wp2_with (go_at_call 44; refine (C.out _).mono ?_; rintro e w' ⟨rfl, rfl⟩)
    go_ret2
    exact ⟨pair_eq (by simp [stV, stE, HV.out]), rfl⟩
def ckE (a : Int) : Int := if vld (a % 8) (a % 65536 / 8) (a / 65536) = true then 0 else 4
set_option maxHeartbeats 400000 in
theorem check28 (a : Int) (w : World)  (h0 : 0 ≤ a) (h0' : a ≤ 18446744073709551615) :
    Calls Try.prog 28 #[.int .u64 a] w fun e w' => e = .returned (.int .i64 (ckE a)) ∧ w = w' := by
  have c := fun w => valid43 (a % 8) (a % 65536 / 8) (a / 65536) w (by omega) (by omega) (by omega) (by omega) (by omega) (by omega)
  cases hv : vld (a % 8) (a % 65536 / 8) (a / 65536)
  all_goals
    rw [hv] at c
    have HV := Lib.hid hv
    clear hv
    have C := Lib.hid c
    clear c
    go_enter Try.func28, Try.ntmps28
    go_wp2_with (first | (go_at_call 30; refine (kind30 _ _ h0 h0').mono ?_; rintro e w' ⟨rfl, rfl⟩) | (go_at_call 32; refine (entry32 _ _ h0 h0').mono ?_; rintro e w' ⟨rfl, rfl⟩) | (go_at_call 34; refine (gen34 _ _ h0 h0').mono ?_; rintro e w' ⟨rfl, rfl⟩) | (go_at_call 43; refine (C.out _).mono ?_; rintro e w' ⟨rfl, rfl⟩))
    go_ret
    exact ⟨one_eq (by simp [ckE, HV.out]), rfl⟩
set_option maxHeartbeats 400000 in
theorem check29 (a : Int) (w : World)  (h0 : 0 ≤ a) (h0' : a ≤ 18446744073709551615) :
    Calls Try.prog 29 #[.int .u64 a] w fun e w' => e = .returned (.int .i64 (ckE a)) ∧ w = w' := by
  have c := fun w => valid44 (a % 8) (a % 65536 / 8) (a / 65536) w (by omega) (by omega) (by omega) (by omega) (by omega) (by omega)
  cases hv : vld (a % 8) (a % 65536 / 8) (a / 65536)
  all_goals
    rw [hv] at c
    have HV := Lib.hid hv
    clear hv
    have C := Lib.hid c
    clear c
    go_enter Try.func29, Try.ntmps29
    go_wp2_with (first | (go_at_call 31; refine (kind31 _ _ h0 h0').mono ?_; rintro e w' ⟨rfl, rfl⟩) | (go_at_call 33; refine (entry33 _ _ h0 h0').mono ?_; rintro e w' ⟨rfl, rfl⟩) | (go_at_call 35; refine (gen35 _ _ h0 h0').mono ?_; rintro e w' ⟨rfl, rfl⟩) | (go_at_call 44; refine (C.out _).mono ?_; rintro e w' ⟨rfl, rfl⟩))
    go_ret
    exact ⟨one_eq (by simp [ckE, HV.out]), rfl⟩
def dcd (s d : Int) : Bool := !(d / 2 == s / 65536) || d % 2 == 1
set_option maxHeartbeats 400000 in
theorem decided45 (s d : Int) (w : World)  (h0 : 0 ≤ s) (h0' : s ≤ 18446744073709551615) (h1 : 0 ≤ d) (h1' : d ≤ 18446744073709551615) :
    Calls Try.prog 45 #[.int .u64 s, .int .u64 d] w fun e w' => e = .returned (.bool (dcd s d)) ∧ w = w' := by
  go_enter Try.func45, Try.ntmps45
  go_wp2
  all_goals (go_ret; go_light; refine ⟨bool_eq ?_, rfl⟩)
  · have e : (d / 2 == s / 65536) = true := by rw [beq_iff_eq]; assumption
    simp [dcd, e]
  · have e : (d / 2 == s / 65536) = false := by rw [beq_eq_false_iff_ne]; assumption
    simp [dcd, e]

def decC (s d : Int) : Bool := vld (s % 8) (s % 65536 / 8) (s / 65536) && decide (d / 2 ≤ 1099511627775)
def decP (s d : Int) : Bool := decC s d && (s % 8 == 1 || s % 8 == 3 && dcd s d || s % 8 == 4 && !dcd s d || s % 8 == 5)
def decA (s d : Int) : Bool := decC s d && (s % 8 == 5 && dcd s d)
def decE (s d : Int) : Int := if decC s d = true then 0 else 4
theorem triple_eq {a b c d : Bool} {x y : Int} {k : IntKind} (h : a = c ∧ b = d ∧ x = y) : Ending.returned (.tuple #[.bool a, .bool b, .int k x]) = .returned (.tuple #[.bool c, .bool d, .int k y]) := by
  obtain ⟨rfl, rfl, rfl⟩ := h; rfl
theorem decC_parts {s d : Int} (h : decC s d = true) : vld (s % 8) (s % 65536 / 8) (s / 65536) = true ∧ d / 2 ≤ 1099511627775 := by
  unfold decC at h; simp at h; exact h
theorem dcd_ne {s d : Int} (h : ¬ d / 2 = s / 65536) : dcd s d = true := by
  have e : (d / 2 == s / 65536) = false := by rw [beq_eq_false_iff_ne]; exact h
  simp [dcd, e]
theorem dcd_odd {s d : Int} (h : d / 2 = s / 65536) : dcd s d = isOdd d := by
  have e : (d / 2 == s / 65536) = true := by rw [beq_iff_eq]; exact h
  simp [dcd, e, isOdd]
set_option maxHeartbeats 800000 in
theorem decide36_yes (s d : Int) (w : World)  (h0 : 0 ≤ s) (h0' : s ≤ 18446744073709551615) (h1 : 0 ≤ d) (h1' : d ≤ 18446744073709551615) (hc : decC s d = true) :
    Calls Try.prog 36 #[.int .u64 s, .int .u64 d] w fun e w' => e = .returned (.tuple #[.bool (decP s d), .bool (decA s d), .int .i64 (decE s d)]) ∧ w = w' := by
  have c := fun w => check28 s w h0 h0'
  obtain ⟨hv, hd⟩ := decC_parts hc
  rw [show ckE s = 0 from by simp [ckE, hv]] at c
  have C := Lib.hid c
  have HV := Lib.hid hc
  have k5 : s % 8 ≤ 5 := by have := (vld_iff _ _ _).1 hv; omega
  clear hv c hc
  by_cases he : d / 2 = s / 65536
  · have co := fun w => comm22 d w h1 h1'
    cases ho : isOdd d
    all_goals
      rw [ho] at co
      have CO := Lib.hid co
      have HD := Lib.hid (dcd_odd he)
      have HO := Lib.hid ho
      have he' : (d / 2 != s / 65536) = false := by rw [bne, beq_iff_eq.2 he]; rfl
      clear ho co he
      go_enter Try.func36, Try.ntmps36
      go_wp2_with (first | (go_at_call 28; refine (C.out _).mono ?_; rintro e w' ⟨rfl, rfl⟩) | (go_at_call 30; refine (kind30 _ _ h0 h0').mono ?_; rintro e w' ⟨rfl, rfl⟩) | (go_at_call 34; refine (gen34 _ _ h0 h0').mono ?_; rintro e w' ⟨rfl, rfl⟩) | (go_at_call 20; refine (gen20 _ _ h1 h1').mono ?_; rintro e w' ⟨rfl, rfl⟩) | (go_at_call 22; refine (CO.out _).mono ?_; rintro e w' ⟨rfl, rfl⟩))
      all_goals (go_ret3; go_light; refine ⟨triple_eq ?_, rfl⟩; (try simp only [beq_iff_eq] at *); simp [decP, decA, decE, HV.out, HD.out, HO.out, *])
  · have HD := Lib.hid (dcd_ne he)
    have he' : (d / 2 != s / 65536) = true := by rw [bne, beq_eq_false_iff_ne.2 he]; rfl
    clear he
    go_enter Try.func36, Try.ntmps36
    go_wp2_with (first | (go_at_call 28; refine (C.out _).mono ?_; rintro e w' ⟨rfl, rfl⟩) | (go_at_call 30; refine (kind30 _ _ h0 h0').mono ?_; rintro e w' ⟨rfl, rfl⟩) | (go_at_call 34; refine (gen34 _ _ h0 h0').mono ?_; rintro e w' ⟨rfl, rfl⟩) | (go_at_call 20; refine (gen20 _ _ h1 h1').mono ?_; rintro e w' ⟨rfl, rfl⟩) | (go_at_call 22; refine (comm22 _ _ h1 h1').mono ?_; rintro e w' ⟨rfl, rfl⟩))
    all_goals (go_ret3; go_light; refine ⟨triple_eq ?_, rfl⟩; (try simp only [beq_iff_eq] at *); simp [decP, decA, decE, HV.out, HD.out, *])
theorem decC_no {s d : Int} (h : decC s d = false) (hd : d / 2 ≤ 1099511627775) : vld (s % 8) (s % 65536 / 8) (s / 65536) = false := by
  unfold decC at h; simp [hd] at h; exact h
set_option maxHeartbeats 800000 in
theorem decide36_no (s d : Int) (w : World)  (h0 : 0 ≤ s) (h0' : s ≤ 18446744073709551615) (h1 : 0 ≤ d) (h1' : d ≤ 18446744073709551615) (hc : decC s d = false) :
    Calls Try.prog 36 #[.int .u64 s, .int .u64 d] w fun e w' => e = .returned (.tuple #[.bool (decP s d), .bool (decA s d), .int .i64 (decE s d)]) ∧ w = w' := by
  have c := fun w => check28 s w h0 h0'
  have HV := Lib.hid hc
  by_cases hd : d / 2 ≤ 1099511627775
  · have hv := decC_no hc hd
    rw [show ckE s = 4 from by simp [ckE, hv]] at c
    have C := Lib.hid c
    clear hv c hc
    go_enter Try.func36, Try.ntmps36
    go_wp2_with (first | (go_at_call 28; refine (C.out _).mono ?_; rintro e w' ⟨rfl, rfl⟩))
    all_goals (go_ret3; go_light; refine ⟨triple_eq ?_, rfl⟩; simp [decP, decA, decE, HV.out])
  · cases hv : vld (s % 8) (s % 65536 / 8) (s / 65536)
    all_goals
      have e : ckE s = if vld (s % 8) (s % 65536 / 8) (s / 65536) = true then 0 else 4 := rfl
      rw [hv] at e
      simp at e
      rw [e] at c
      have C := Lib.hid c
      clear hv c hc e
      go_enter Try.func36, Try.ntmps36
      go_wp2_with (first | (go_at_call 28; refine (C.out _).mono ?_; rintro e w' ⟨rfl, rfl⟩) | (go_at_call 20; refine (gen20 _ _ h1 h1').mono ?_; rintro e w' ⟨rfl, rfl⟩))
      all_goals (go_ret3; go_light; refine ⟨triple_eq ?_, rfl⟩; simp [decP, decA, decE, HV.out])
theorem decide36 (s d : Int) (w : World)  (h0 : 0 ≤ s) (h0' : s ≤ 18446744073709551615) (h1 : 0 ≤ d) (h1' : d ≤ 18446744073709551615) :
    Calls Try.prog 36 #[.int .u64 s, .int .u64 d] w fun e w' => e = .returned (.tuple #[.bool (decP s d), .bool (decA s d), .int .i64 (decE s d)]) ∧ w = w' := by
  cases hc : decC s d
  · exact decide36_no s d w h0 h0' h1 h1' hc
  · exact decide36_yes s d w h0 h0' h1 h1' hc
set_option maxHeartbeats 800000 in
theorem decide37_yes (s d : Int) (w : World)  (h0 : 0 ≤ s) (h0' : s ≤ 18446744073709551615) (h1 : 0 ≤ d) (h1' : d ≤ 18446744073709551615) (hc : decC s d = true) :
    Calls Try.prog 37 #[.int .u64 s, .int .u64 d] w fun e w' => e = .returned (.tuple #[.bool (decP s d), .bool (decA s d), .int .i64 (decE s d)]) ∧ w = w' := by
  have c := fun w => check29 s w h0 h0'
  obtain ⟨hv, hd⟩ := decC_parts hc
  rw [show ckE s = 0 from by simp [ckE, hv]] at c
  have C := Lib.hid c
  have HV := Lib.hid hc
  clear hv c hc
  have cd := fun w => decided45 s d w h0 h0' h1 h1'
  cases hdc : dcd s d
  all_goals
    rw [hdc] at cd
    have CD := Lib.hid cd
    have HD := Lib.hid hdc
    clear cd hdc
    go_enter Try.func37, Try.ntmps37
    go_wp2_with (first | (go_at_call 29; refine (C.out _).mono ?_; rintro e w' ⟨rfl, rfl⟩) | (go_at_call 31; refine (kind31 _ _ h0 h0').mono ?_; rintro e w' ⟨rfl, rfl⟩) | (go_at_call 45; refine (CD.out _).mono ?_; rintro e w' ⟨rfl, rfl⟩) | (go_at_call 21; refine (gen21 _ _ h1 h1').mono ?_; rintro e w' ⟨rfl, rfl⟩))
    all_goals (go_ret3; go_light; refine ⟨triple_eq ?_, rfl⟩; (try simp only [beq_iff_eq] at *); first | (simp [decP, decA, decE, HV.out, HD.out, *]; done) | (simp [decP, decA, decE, HV.out, HD.out, *]; rw [Bool.eq_iff_iff]; simp; omega))
set_option maxHeartbeats 800000 in
theorem decide37_no (s d : Int) (w : World)  (h0 : 0 ≤ s) (h0' : s ≤ 18446744073709551615) (h1 : 0 ≤ d) (h1' : d ≤ 18446744073709551615) (hc : decC s d = false) :
    Calls Try.prog 37 #[.int .u64 s, .int .u64 d] w fun e w' => e = .returned (.tuple #[.bool (decP s d), .bool (decA s d), .int .i64 (decE s d)]) ∧ w = w' := by
  have c := fun w => check29 s w h0 h0'
  have HV := Lib.hid hc
  by_cases hd : d / 2 ≤ 1099511627775
  · have hv := decC_no hc hd
    rw [show ckE s = 4 from by simp [ckE, hv]] at c
    have C := Lib.hid c
    clear hv c hc
    go_enter Try.func37, Try.ntmps37
    go_wp2_with (first | (go_at_call 29; refine (C.out _).mono ?_; rintro e w' ⟨rfl, rfl⟩))
    all_goals (go_ret3; go_light; refine ⟨triple_eq ?_, rfl⟩; simp [decP, decA, decE, HV.out])
  · cases hv : vld (s % 8) (s % 65536 / 8) (s / 65536)
    all_goals
      have e : ckE s = if vld (s % 8) (s % 65536 / 8) (s / 65536) = true then 0 else 4 := rfl
      rw [hv] at e
      simp at e
      rw [e] at c
      have C := Lib.hid c
      clear hv c hc e
      go_enter Try.func37, Try.ntmps37
      go_wp2_with (first | (go_at_call 29; refine (C.out _).mono ?_; rintro e w' ⟨rfl, rfl⟩) | (go_at_call 21; refine (gen21 _ _ h1 h1').mono ?_; rintro e w' ⟨rfl, rfl⟩))
      all_goals (go_ret3; go_light; refine ⟨triple_eq ?_, rfl⟩; simp [decP, decA, decE, HV.out])
theorem decide37 (s d : Int) (w : World)  (h0 : 0 ≤ s) (h0' : s ≤ 18446744073709551615) (h1 : 0 ≤ d) (h1' : d ≤ 18446744073709551615) :
    Calls Try.prog 37 #[.int .u64 s, .int .u64 d] w fun e w' => e = .returned (.tuple #[.bool (decP s d), .bool (decA s d), .int .i64 (decE s d)]) ∧ w = w' := by
  cases hc : decC s d
  · exact decide37_no s d w h0 h0' h1 h1' hc
  · exact decide37_yes s d w h0 h0' h1 h1' hc
end Go.Proofs.Ytiopfakeajofdaa
