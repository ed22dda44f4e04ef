/-
  The walk of the law ClientChecks.
-/
import Derived.Test.YtiopfakeajofdaaChkJ
import Derived.Deep.RegionHeld3
import Derived.Lib.SmallJoins
set_option linter.unusedVariables false
set_option linter.unusedSimpArgs false
namespace Go.Proofs.Ytiopfakeajofdaa
open Go.RowKit
theorem keepS {W w w1 : World} {c0 c1 c2 c3 c4 c5 c6 : Value} (hb : Below w.heap.size w w1) (l0 : w.cell? ⟨W.heap.size, 0, none⟩ = some c0) (l1 : w.cell? ⟨W.heap.size, 1, none⟩ = some c1) (l2 : w.cell? ⟨W.heap.size, 2, none⟩ = some c2) (l3 : w.cell? ⟨W.heap.size, 3, none⟩ = some c3) (l4 : w.cell? ⟨W.heap.size, 4, none⟩ = some c4) (l5 : w.cell? ⟨W.heap.size, 5, none⟩ = some c5) (l6 : w.cell? ⟨W.heap.size, 6, none⟩ = some c6) (l7 : Below W.heap.size W w) (l8 : W.heap.size < w.heap.size) :
    w1.cell? ⟨W.heap.size, 0, none⟩ = some c0 ∧ w1.cell? ⟨W.heap.size, 1, none⟩ = some c1 ∧ w1.cell? ⟨W.heap.size, 2, none⟩ = some c2 ∧ w1.cell? ⟨W.heap.size, 3, none⟩ = some c3 ∧ w1.cell? ⟨W.heap.size, 4, none⟩ = some c4 ∧ w1.cell? ⟨W.heap.size, 5, none⟩ = some c5 ∧ w1.cell? ⟨W.heap.size, 6, none⟩ = some c6 ∧ Below W.heap.size W w1 ∧ W.heap.size < w1.heap.size := by
  obtain ⟨hc, hz⟩ := bcell hb
  exact ⟨(hc _ _ l8).trans l0, (hc _ _ l8).trans l1, (hc _ _ l8).trans l2, (hc _ _ l8).trans l3, (hc _ _ l8).trans l4, (hc _ _ l8).trans l5, (hc _ _ l8).trans l6, l7.trans (hb.mono (Nat.le_of_lt l8)), Nat.lt_of_lt_of_le l8 hb.size⟩
theorem c10 : res24 10 0 0 0 0 0 0 = 0 := by decide +kernel
theorem c8 : res24 8 0 0 0 0 0 0 = 13 := by decide +kernel
set_option maxRecDepth 100000 in
set_option maxHeartbeats 3200000 in
theorem law5 (k a b v o y d : Int) (W : World) (hk : 0 ≤ k) (hk' : k ≤ 255) (ha : 0 ≤ a) (ha' : a ≤ 18446744073709551615) (hb : 0 ≤ b) (hb' : b ≤ 18446744073709551615) (hy : 0 ≤ y) (hy' : y ≤ 18446744073709551615) :
    Calls Try.prog 5 #[.agg #[.int .u8 k, .int .u64 a, .int .u64 b, .int .u64 v, .int .u64 o, .int .u64 y, .int .u64 d]] W fun e W' => e = .returned (.bool true) ∧ Below W.heap.size W W' := by
  obtain ⟨R, hR⟩ : ∃ R, R = res24 k a b v o y d := ⟨_, rfl⟩
  have C24 : ∀ w, Calls Try.prog 24 #[.agg #[.int .u8 k, .int .u64 a, .int .u64 b, .int .u64 v, .int .u64 o, .int .u64 y, .int .u64 d]] w fun e w' => e = .returned (.int .i64 R) ∧ Below w.heap.size w w' := fun w => by
    rw [hR]; exact chkAny k a b v o y d w hk hk' ha ha' hb hb' hy hy'
  have C25 : ∀ w, Calls Try.prog 25 #[.agg #[.int .u8 k, .int .u64 a, .int .u64 b, .int .u64 v, .int .u64 o, .int .u64 y, .int .u64 d]] w fun e w' => e = .returned (.int .i64 R) ∧ Below w.heap.size w w' := fun w => by
    rw [hR, ← same]; exact ref25 k a b v o y d w hk hk' ha ha' hb hb' hy hy'
  have D10 : ∀ w, Calls Try.prog 24 #[.agg #[.int .u8 10, .int .u64 0, .int .u64 0, .int .u64 0, .int .u64 0, .int .u64 0, .int .u64 0]] w fun e w' => e = .returned (.int .i64 0) ∧ Below w.heap.size w w' := fun w => by
    have := chk10 0 0 0 0 0 0 w (by omega) (by omega) (by omega) (by omega) (by omega) (by omega)
    rwa [c10] at this
  have D8 : ∀ w, Calls Try.prog 24 #[.agg #[.int .u8 8, .int .u64 0, .int .u64 0, .int .u64 0, .int .u64 0, .int .u64 0, .int .u64 0]] w fun e w' => e = .returned (.int .i64 13) ∧ Below w.heap.size w w' := fun w => by
    have := chk8 0 0 0 0 0 0 w (by omega) (by omega) (by omega) (by omega) (by omega) (by omega)
    rwa [c8] at this
  have hcases : R = 0 ∨ R = 2 ∨ R = 12 ∨ R = 13 := by
    rw [hR]; unfold res24; (repeat' split) <;> simp
  clear hR hk hk' ha ha' hb hb' hy hy'
  rcases hcases with rfl | rfl | rfl | rfl
  all_goals
    have K24 := Lib.hid C24
    have K25 := Lib.hid C25
    have K10 := Lib.hid D10
    have K8 := Lib.hid D8
    clear C24 C25 D10 D8
    go_enter Try.func5, Try.ntmps5
    go_wp2_with fail
    go_region_held3 (fun w' => w'.cell? ⟨W.heap.size, 0, none⟩ = some (.int .u8 k) ∧ w'.cell? ⟨W.heap.size, 1, none⟩ = some (.int .u64 a) ∧ w'.cell? ⟨W.heap.size, 2, none⟩ = some (.int .u64 b) ∧ w'.cell? ⟨W.heap.size, 3, none⟩ = some (.int .u64 v) ∧ w'.cell? ⟨W.heap.size, 4, none⟩ = some (.int .u64 o) ∧ w'.cell? ⟨W.heap.size, 5, none⟩ = some (.int .u64 y) ∧ w'.cell? ⟨W.heap.size, 6, none⟩ = some (.int .u64 d) ∧ Below W.heap.size W w' ∧ W.heap.size < w'.heap.size)
      (first
        | (refine ⟨?_, ?_, ?_, ?_, ?_, ?_, ?_, ((Below.refl _ _).alloc (Nat.le_refl _) _).drew, ?_⟩ <;> (simp [go_sem]; done))
        | (go_split_ands; refine keepS hb1 ?_ ?_ ?_ ?_ ?_ ?_ ?_ ?_ ?_ <;> assumption))
      (first
        | (go_at_call_of 24 (Value.agg #[.int .u8 k, .int .u64 a, .int .u64 b, .int .u64 v, .int .u64 o, .int .u64 y, .int .u64 d]); refine (K24.out _).mono ?_; rintro e w1 ⟨rfl, hb1⟩)
        | (go_at_call_of 25 (Value.agg #[.int .u8 k, .int .u64 a, .int .u64 b, .int .u64 v, .int .u64 o, .int .u64 y, .int .u64 d]); refine (K25.out _).mono ?_; rintro e w1 ⟨rfl, hb1⟩)
        | (go_at_call_of 24 (Value.agg #[.int .u8 10, .int .u64 0, .int .u64 0, .int .u64 0, .int .u64 0, .int .u64 0, .int .u64 0]); refine (K10.out _).mono ?_; rintro e w1 ⟨rfl, hb1⟩)
        | (go_at_call_of 24 (Value.agg #[.int .u8 8, .int .u64 0, .int .u64 0, .int .u64 0, .int .u64 0, .int .u64 0, .int .u64 0]); refine (K8.out _).mono ?_; rintro e w1 ⟨rfl, hb1⟩))
    go_wp2
    go_ret
    exact ⟨rfl, by go_split_ands; assumption⟩
end Go.Proofs.Ytiopfakeajofdaa
