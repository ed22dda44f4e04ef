/-
  The walks of Uses of the reference.
-/
import Derived.Test.YtiopfakeajofdaaChkB
set_option linter.unusedVariables false
set_option linter.unusedSimpArgs false
namespace Go.Proofs.Ytiopfakeajofdaa
open Go.RowKit

set_option maxHeartbeats 1000000 in
theorem uses0 (w : World) :
    Calls Try.prog 46 #[.int .u8 0] w fun e w' => e = .returned (.agg #[.bool false, .bool false, .bool false, .bool false, .bool false, .bool false]) ∧ w' = w.alloc (.cells #[.bool false, .bool false, .bool false, .bool false, .bool false, .bool false] 57) := by
  go_enter Try.func46, Try.ntmps46
  go_wp2
  exact bodyPost_ret (v := .agg #[.bool false, .bool false, .bool false, .bool false, .bool false, .bool false]) (by simp [results, Try.results46, go_sem]) rfl ⟨rfl, rfl⟩

set_option maxHeartbeats 1000000 in
theorem uses1 (w : World) :
    Calls Try.prog 46 #[.int .u8 1] w fun e w' => e = .returned (.agg #[.bool false, .bool false, .bool false, .bool false, .bool false, .bool false]) ∧ w' = w.alloc (.cells #[.bool false, .bool false, .bool false, .bool false, .bool false, .bool false] 57) := by
  go_enter Try.func46, Try.ntmps46
  go_wp2
  exact bodyPost_ret (v := .agg #[.bool false, .bool false, .bool false, .bool false, .bool false, .bool false]) (by simp [results, Try.results46, go_sem]) rfl ⟨rfl, rfl⟩

set_option maxHeartbeats 1000000 in
theorem uses2 (w : World) :
    Calls Try.prog 46 #[.int .u8 2] w fun e w' => e = .returned (.agg #[.bool false, .bool false, .bool false, .bool false, .bool false, .bool false]) ∧ w' = w.alloc (.cells #[.bool false, .bool false, .bool false, .bool false, .bool false, .bool false] 57) := by
  go_enter Try.func46, Try.ntmps46
  go_wp2
  exact bodyPost_ret (v := .agg #[.bool false, .bool false, .bool false, .bool false, .bool false, .bool false]) (by simp [results, Try.results46, go_sem]) rfl ⟨rfl, rfl⟩

set_option maxHeartbeats 1000000 in
theorem uses3 (w : World) :
    Calls Try.prog 46 #[.int .u8 3] w fun e w' => e = .returned (.agg #[.bool true, .bool false, .bool false, .bool false, .bool false, .bool false]) ∧ w' = w.alloc (.cells #[.bool true, .bool false, .bool false, .bool false, .bool false, .bool false] 57) := by
  go_enter Try.func46, Try.ntmps46
  go_wp2
  exact bodyPost_ret (v := .agg #[.bool true, .bool false, .bool false, .bool false, .bool false, .bool false]) (by simp [results, Try.results46, go_sem]) rfl ⟨rfl, rfl⟩

set_option maxHeartbeats 1000000 in
theorem uses4 (w : World) :
    Calls Try.prog 46 #[.int .u8 4] w fun e w' => e = .returned (.agg #[.bool true, .bool false, .bool true, .bool false, .bool false, .bool true]) ∧ w' = w.alloc (.cells #[.bool true, .bool false, .bool true, .bool false, .bool false, .bool true] 57) := by
  go_enter Try.func46, Try.ntmps46
  go_wp2
  exact bodyPost_ret (v := .agg #[.bool true, .bool false, .bool true, .bool false, .bool false, .bool true]) (by simp [results, Try.results46, go_sem]) rfl ⟨rfl, rfl⟩

set_option maxHeartbeats 1000000 in
theorem uses5 (w : World) :
    Calls Try.prog 46 #[.int .u8 5] w fun e w' => e = .returned (.agg #[.bool true, .bool false, .bool true, .bool false, .bool false, .bool true]) ∧ w' = w.alloc (.cells #[.bool true, .bool false, .bool true, .bool false, .bool false, .bool true] 57) := by
  go_enter Try.func46, Try.ntmps46
  go_wp2
  exact bodyPost_ret (v := .agg #[.bool true, .bool false, .bool true, .bool false, .bool false, .bool true]) (by simp [results, Try.results46, go_sem]) rfl ⟨rfl, rfl⟩

set_option maxHeartbeats 1000000 in
theorem uses6 (w : World) :
    Calls Try.prog 46 #[.int .u8 6] w fun e w' => e = .returned (.agg #[.bool true, .bool false, .bool false, .bool false, .bool false, .bool false]) ∧ w' = w.alloc (.cells #[.bool true, .bool false, .bool false, .bool false, .bool false, .bool false] 57) := by
  go_enter Try.func46, Try.ntmps46
  go_wp2
  exact bodyPost_ret (v := .agg #[.bool true, .bool false, .bool false, .bool false, .bool false, .bool false]) (by simp [results, Try.results46, go_sem]) rfl ⟨rfl, rfl⟩

set_option maxHeartbeats 1000000 in
theorem uses7 (w : World) :
    Calls Try.prog 46 #[.int .u8 7] w fun e w' => e = .returned (.agg #[.bool true, .bool false, .bool true, .bool true, .bool false, .bool false]) ∧ w' = w.alloc (.cells #[.bool true, .bool false, .bool true, .bool true, .bool false, .bool false] 57) := by
  go_enter Try.func46, Try.ntmps46
  go_wp2
  exact bodyPost_ret (v := .agg #[.bool true, .bool false, .bool true, .bool true, .bool false, .bool false]) (by simp [results, Try.results46, go_sem]) rfl ⟨rfl, rfl⟩

set_option maxHeartbeats 1000000 in
theorem uses8 (w : World) :
    Calls Try.prog 46 #[.int .u8 8] w fun e w' => e = .returned (.agg #[.bool true, .bool true, .bool false, .bool false, .bool true, .bool true]) ∧ w' = w.alloc (.cells #[.bool true, .bool true, .bool false, .bool false, .bool true, .bool true] 57) := by
  go_enter Try.func46, Try.ntmps46
  go_wp2
  exact bodyPost_ret (v := .agg #[.bool true, .bool true, .bool false, .bool false, .bool true, .bool true]) (by simp [results, Try.results46, go_sem]) rfl ⟨rfl, rfl⟩

set_option maxHeartbeats 1000000 in
theorem uses9 (w : World) :
    Calls Try.prog 46 #[.int .u8 9] w fun e w' => e = .returned (.agg #[.bool true, .bool true, .bool false, .bool false, .bool false, .bool false]) ∧ w' = w.alloc (.cells #[.bool true, .bool true, .bool false, .bool false, .bool false, .bool false] 57) := by
  go_enter Try.func46, Try.ntmps46
  go_wp2
  exact bodyPost_ret (v := .agg #[.bool true, .bool true, .bool false, .bool false, .bool false, .bool false]) (by simp [results, Try.results46, go_sem]) rfl ⟨rfl, rfl⟩

set_option maxHeartbeats 1000000 in
theorem uses10 (w : World) :
    Calls Try.prog 46 #[.int .u8 10] w fun e w' => e = .returned (.agg #[.bool false, .bool false, .bool false, .bool false, .bool false, .bool false]) ∧ w' = w.alloc (.cells #[.bool false, .bool false, .bool false, .bool false, .bool false, .bool false] 57) := by
  go_enter Try.func46, Try.ntmps46
  go_wp2
  exact bodyPost_ret (v := .agg #[.bool false, .bool false, .bool false, .bool false, .bool false, .bool false]) (by simp [results, Try.results46, go_sem]) rfl ⟨rfl, rfl⟩

set_option maxHeartbeats 1000000 in
theorem uses11 (w : World) :
    Calls Try.prog 46 #[.int .u8 11] w fun e w' => e = .returned (.agg #[.bool true, .bool true, .bool false, .bool false, .bool false, .bool false]) ∧ w' = w.alloc (.cells #[.bool true, .bool true, .bool false, .bool false, .bool false, .bool false] 57) := by
  go_enter Try.func46, Try.ntmps46
  go_wp2
  exact bodyPost_ret (v := .agg #[.bool true, .bool true, .bool false, .bool false, .bool false, .bool false]) (by simp [results, Try.results46, go_sem]) rfl ⟨rfl, rfl⟩

set_option maxHeartbeats 1000000 in
theorem uses12 (w : World) :
    Calls Try.prog 46 #[.int .u8 12] w fun e w' => e = .returned (.agg #[.bool false, .bool false, .bool false, .bool false, .bool false, .bool false]) ∧ w' = w.alloc (.cells #[.bool false, .bool false, .bool false, .bool false, .bool false, .bool false] 57) := by
  go_enter Try.func46, Try.ntmps46
  go_wp2
  exact bodyPost_ret (v := .agg #[.bool false, .bool false, .bool false, .bool false, .bool false, .bool false]) (by simp [results, Try.results46, go_sem]) rfl ⟨rfl, rfl⟩

set_option maxHeartbeats 1000000 in
theorem uses13 (w : World) :
    Calls Try.prog 46 #[.int .u8 13] w fun e w' => e = .returned (.agg #[.bool true, .bool false, .bool false, .bool false, .bool false, .bool false]) ∧ w' = w.alloc (.cells #[.bool true, .bool false, .bool false, .bool false, .bool false, .bool false] 57) := by
  go_enter Try.func46, Try.ntmps46
  go_wp2
  exact bodyPost_ret (v := .agg #[.bool true, .bool false, .bool false, .bool false, .bool false, .bool false]) (by simp [results, Try.results46, go_sem]) rfl ⟨rfl, rfl⟩

set_option maxHeartbeats 1000000 in
theorem uses14 (w : World) :
    Calls Try.prog 46 #[.int .u8 14] w fun e w' => e = .returned (.agg #[.bool false, .bool false, .bool false, .bool false, .bool false, .bool false]) ∧ w' = w.alloc (.cells #[.bool false, .bool false, .bool false, .bool false, .bool false, .bool false] 57) := by
  go_enter Try.func46, Try.ntmps46
  go_wp2
  exact bodyPost_ret (v := .agg #[.bool false, .bool false, .bool false, .bool false, .bool false, .bool false]) (by simp [results, Try.results46, go_sem]) rfl ⟨rfl, rfl⟩

set_option maxHeartbeats 1000000 in
theorem uses15 (w : World) :
    Calls Try.prog 46 #[.int .u8 15] w fun e w' => e = .returned (.agg #[.bool false, .bool false, .bool false, .bool false, .bool false, .bool false]) ∧ w' = w.alloc (.cells #[.bool false, .bool false, .bool false, .bool false, .bool false, .bool false] 57) := by
  go_enter Try.func46, Try.ntmps46
  go_wp2
  exact bodyPost_ret (v := .agg #[.bool false, .bool false, .bool false, .bool false, .bool false, .bool false]) (by simp [results, Try.results46, go_sem]) rfl ⟨rfl, rfl⟩

set_option maxHeartbeats 1000000 in
theorem usesX (k : Int) (hk : 15 < k) (hk' : k ≤ 255) (w : World) :
    Calls Try.prog 46 #[.int .u8 k] w fun e w' => e = .returned (.agg #[.bool false, .bool false, .bool false, .bool false, .bool false, .bool false]) ∧ w' = w.alloc (.cells #[.bool false, .bool false, .bool false, .bool false, .bool false, .bool false] 57) := by
  go_enter Try.func46, Try.ntmps46
  go_wp2
  all_goals exact bodyPost_ret (v := .agg #[.bool false, .bool false, .bool false, .bool false, .bool false, .bool false]) (by simp [results, Try.results46, go_sem]) rfl ⟨rfl, rfl⟩
end Go.Proofs.Ytiopfakeajofdaa
