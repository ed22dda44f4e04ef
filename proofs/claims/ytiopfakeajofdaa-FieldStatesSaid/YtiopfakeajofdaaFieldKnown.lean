/-
  What the fixed words of package leapfroglaw01 come to: known returns true, and says returns true wherever Decide says so.
-/
import Derived.Test.YtiopfakeajofdaaFieldWalks
set_option linter.unusedVariables false
set_option linter.unusedSimpArgs false
namespace Go.Proofs.Ytiopfakeajofdaa
open Go.RowKit

set_option maxHeartbeats 800000 in
theorem known38 (w : World) : Calls Try.prog 38 #[] w fun e w' => e = .returned (.bool true) ∧ w = w' := by
  have s1 := fun w => state26 5 2 1 w (by omega) (by omega) (by omega) (by omega) (by omega) (by omega)
  rw [show stV 5 2 1 = 65557 from by decide, show stE 5 2 1 = 0 from by decide] at s1
  have t1 := fun w => top12 1 1 w (by omega) (by omega) (by omega) (by omega)
  rw [show topV 1 1 = 65537 from by decide, show topE 1 1 = 0 from by decide] at t1
  have d1 := fun w => decide36 65557 3 w (by omega) (by omega) (by omega) (by omega)
  rw [show decP 65557 3 = true from by decide, show decA 65557 3 = true from by decide, show decE 65557 3 = 0 from by decide] at d1
  have S1 := Lib.hid s1
  have T1 := Lib.hid t1
  have D1 := Lib.hid d1
  clear s1 t1 d1
  go_enter Try.func38, Try.ntmps38
  go_wp2_with (first | (go_at_call 26; refine (S1.out _).mono ?_; rintro e w' ⟨rfl, rfl⟩) | (go_at_call 12; refine (T1.out _).mono ?_; rintro e w' ⟨rfl, rfl⟩) | (go_at_call 36; refine (D1.out _).mono ?_; rintro e w' ⟨rfl, rfl⟩))
  go_ret
  exact ⟨rfl, rfl⟩

set_option maxHeartbeats 400000 in
theorem says39 (s d : Int) (p a : Bool) (w : World) (h0 : 0 ≤ s) (h0' : s ≤ 18446744073709551615) (h1 : 0 ≤ d) (h1' : d ≤ 18446744073709551615) (hp : decP s d = p) (ha : decA s d = a) (he : decE s d = 0) :
    Calls Try.prog 39 #[.int .u64 s, .int .u64 d, .bool p, .bool a] w fun e w' => e = .returned (.bool true) ∧ w = w' := by
  have d1 := fun w => decide36 s d w h0 h0' h1 h1'
  rw [hp, ha, he] at d1
  have D1 := Lib.hid d1
  clear d1 hp ha he
  cases p
  all_goals
    cases a
    all_goals
      go_enter Try.func39, Try.ntmps39
      go_wp2_with (go_at_call 36; refine (D1.out _).mono ?_; rintro e w' ⟨rfl, rfl⟩)
      go_ret
      exact ⟨rfl, rfl⟩

theorem word_parts (a : Int) : a % 8 + 8 * (a % 65536 / 8) + 65536 * (a / 65536) = a := by omega
end Go.Proofs.Ytiopfakeajofdaa
