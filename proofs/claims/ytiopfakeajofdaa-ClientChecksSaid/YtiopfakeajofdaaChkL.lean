/-
  The walks of Formed of the reference.
-/
import Derived.Test.YtiopfakeajofdaaChkH
set_option linter.unusedVariables false
set_option linter.unusedSimpArgs false
namespace Go.Proofs.Ytiopfakeajofdaa
open Go.RowKit

set_option maxHeartbeats 1000000 in
theorem formedX (k : Int) (hk : 15 < k) (hk' : k ≤ 255) (a b v o y d : Int) (w : World) :
    Calls Try.prog 41 #[.agg #[.int .u8 k, .int .u64 a, .int .u64 b, .int .u64 v, .int .u64 o, .int .u64 y, .int .u64 d]] w fun e w' => e = .returned (.bool (formed k a b v o y d)) ∧ Below w.heap.size w w' := by
  go_enter Try.func41, Try.ntmps41
  go_wp2_with (go_at_call 46; refine (usesX k hk hk' _).mono ?_; rintro e w' ⟨rfl, rfl⟩)
  refine wp_loop_rounds 7 ?_
  iterate 7 (all_goals (first | (rw [rounds_succ]; go_wp2) | skip))
  all_goals
    go_ret
    refine ⟨ret_bool ?_, ((((Below.refl _ _).alloc (Nat.le_refl _) _).alloc (by simp) _).alloc (by simp; omega) _).alloc (by simp; omega) _⟩
    have n : ¬ k ≤ 15 := by omega
    simp [formed, n]
end Go.Proofs.Ytiopfakeajofdaa
