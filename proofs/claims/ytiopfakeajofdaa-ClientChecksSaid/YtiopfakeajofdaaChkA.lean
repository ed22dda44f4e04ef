/-
  The walks of Check of package client and of its reference.
-/
import Derived.Test.YtiopfakeajofdaaRows
import Derived.WalkKit
import Derived.WalkSpells
import Derived.WalkLawsBesides
import Derived.OpenShut
import Derived.Lib.Hide
import Derived.Deep.Light
set_option linter.unusedVariables false
set_option linter.unusedSimpArgs false
namespace Go.Proofs.Ytiopfakeajofdaa
open Go.RowKit

theorem ret_int {k : IntKind} {a b : Int} (h : a = b) : Ending.returned (.int k a) = .returned (.int k b) := by rw [h]

set_option maxHeartbeats 400000 in
theorem span40 (lo hi : Int) (w : World) (h0 : 0 ≤ lo) (h0' : lo ≤ 18446744073709551615) (h1 : 0 ≤ hi) (h1' : hi ≤ 18446744073709551615) :
    Calls Try.prog 40 #[.agg #[.int .u64 lo, .int .u64 hi]] w fun e w' => e = .returned (.int .i64 (if hi < lo then 13 else 0)) ∧ w' = w.alloc (.cells #[.int .u64 lo, .int .u64 hi] 55) := by
  by_cases h : hi < lo
  · go_enter Try.func40, Try.ntmps40
    go_wp2
    go_ret
    exact ⟨ret_int (by simp [h]), rfl⟩
  · go_enter Try.func40, Try.ntmps40
    go_wp2
    go_ret
    exact ⟨ret_int (by simp [h]), rfl⟩

def opV (k a b v o y d : Int) : Value := .agg #[.int .u8 k, .int .u64 a, .int .u64 b, .int .u64 v, .int .u64 o, .int .u64 y, .int .u64 d]
abbrev U64 (x : Int) : Prop := 0 ≤ x ∧ x ≤ 18446744073709551615

def res33 (k a b y : Int) : Int := if b < a ∨ k = 8 ∧ y = 0 then 13 else if k = 8 ∧ 18446744073709551615 - y < b then 12 else 0
set_option maxHeartbeats 1000000 in
theorem ref42 (k a b v o y d : Int) (w : World) (hk : 0 ≤ k) (hk' : k ≤ 255) (ha : 0 ≤ a) (ha' : a ≤ 18446744073709551615) (hb : 0 ≤ b) (hb' : b ≤ 18446744073709551615) (hy : 0 ≤ y) (hy' : y ≤ 18446744073709551615) :
    Calls Try.prog 42 #[.agg #[.int .u8 k, .int .u64 a, .int .u64 b, .int .u64 v, .int .u64 o, .int .u64 y, .int .u64 d]] w fun e w' => e = .returned (.int .i64 (res33 k a b y)) ∧ Below w.heap.size w w' := by
  by_cases h : b < a <;> by_cases h2 : k = 8 <;> by_cases h3 : y = 0 <;> by_cases h4 : 18446744073709551615 - y < b <;> (try (exfalso; omega)) <;> (try subst h2) <;> (try (subst h3; clear hy hy'))
  all_goals
    go_enter Try.func42, Try.ntmps42
    go_wp2
    go_ret
    exact ⟨ret_int (by unfold res33; first | omega | simp_all <;> omega), (Below.refl _ _).alloc (Nat.le_refl _) _⟩
end Go.Proofs.Ytiopfakeajofdaa
