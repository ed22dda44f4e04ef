/-
  Check of package client and of its reference, for any operation.
-/
import Derived.Test.YtiopfakeajofdaaChkI
import Derived.Test.YtiopfakeajofdaaChkL
import Derived.Test.YtiopfakeajofdaaChkC
import Derived.Test.YtiopfakeajofdaaChkD
import Derived.Test.YtiopfakeajofdaaChkE
import Derived.Test.YtiopfakeajofdaaChkF
set_option linter.unusedVariables false
set_option linter.unusedSimpArgs false
namespace Go.Proofs.Ytiopfakeajofdaa
open Go.RowKit
theorem kinds {k : Int} (h : 0 ≤ k) (h' : ¬ 15 < k) : k = 0 ∨ k = 1 ∨ k = 2 ∨ k = 3 ∨ k = 4 ∨ k = 5 ∨ k = 6 ∨ k = 7 ∨ k = 8 ∨ k = 9 ∨ k = 10 ∨ k = 11 ∨ k = 12 ∨ k = 13 ∨ k = 14 ∨ k = 15 := by omega
theorem formedAny (k a b v o y d : Int) (w : World) (hk : 0 ≤ k) (hk' : k ≤ 255) :
    Calls Try.prog 41 #[.agg #[.int .u8 k, .int .u64 a, .int .u64 b, .int .u64 v, .int .u64 o, .int .u64 y, .int .u64 d]] w fun e w' => e = .returned (.bool (formed k a b v o y d)) ∧ Below w.heap.size w w' := by
  by_cases h : 15 < k
  · exact formedX k h hk' a b v o y d w
  · rcases kinds hk h with rfl | rfl | rfl | rfl | rfl | rfl | rfl | rfl | rfl | rfl | rfl | rfl | rfl | rfl | rfl | rfl
    · exact formed0 a b v o y d w
    · exact formed1 a b v o y d w
    · exact formed2 a b v o y d w
    · exact formed3 a b v o y d w
    · exact formed4 a b v o y d w
    · exact formed5 a b v o y d w
    · exact formed6 a b v o y d w
    · exact formed7 a b v o y d w
    · exact formed8 a b v o y d w
    · exact formed9 a b v o y d w
    · exact formed10 a b v o y d w
    · exact formed11 a b v o y d w
    · exact formed12 a b v o y d w
    · exact formed13 a b v o y d w
    · exact formed14 a b v o y d w
    · exact formed15 a b v o y d w

theorem chkAny (k a b v o y d : Int) (w : World) (hk : 0 ≤ k) (hk' : k ≤ 255) (ha : 0 ≤ a) (ha' : a ≤ 18446744073709551615) (hb : 0 ≤ b) (hb' : b ≤ 18446744073709551615) (hy : 0 ≤ y) (hy' : y ≤ 18446744073709551615) :
    Calls Try.prog 24 #[.agg #[.int .u8 k, .int .u64 a, .int .u64 b, .int .u64 v, .int .u64 o, .int .u64 y, .int .u64 d]] w fun e w' => e = .returned (.int .i64 (res24 k a b v o y d)) ∧ Below w.heap.size w w' := by
  by_cases h : 15 < k
  · exact chkX k a b v o y d w h hk' ha ha' hb hb' hy hy'
  · rcases kinds hk h with rfl | rfl | rfl | rfl | rfl | rfl | rfl | rfl | rfl | rfl | rfl | rfl | rfl | rfl | rfl | rfl
    · exact chk0 a b v o y d w ha ha' hb hb' hy hy'
    · exact chk1 a b v o y d w ha ha' hb hb' hy hy'
    · exact chk2 a b v o y d w ha ha' hb hb' hy hy'
    · exact chk3 a b v o y d w ha ha' hb hb' hy hy'
    · exact chk4 a b v o y d w ha ha' hb hb' hy hy'
    · exact chk5 a b v o y d w ha ha' hb hb' hy hy'
    · exact chk6 a b v o y d w ha ha' hb hb' hy hy'
    · exact chk7 a b v o y d w ha ha' hb hb' hy hy'
    · exact chk8 a b v o y d w ha ha' hb hb' hy hy'
    · exact chk9 a b v o y d w ha ha' hb hb' hy hy'
    · exact chk10 a b v o y d w ha ha' hb hb' hy hy'
    · exact chk11 a b v o y d w ha ha' hb hb' hy hy'
    · exact chk12 a b v o y d w ha ha' hb hb' hy hy'
    · exact chk13 a b v o y d w ha ha' hb hb' hy hy'
    · exact chk14 a b v o y d w ha ha' hb hb' hy hy'
    · exact chk15 a b v o y d w ha ha' hb hb' hy hy'

theorem formedT {k a b v o y d : Int} (hf : formed k a b v o y d = true) (w : World) (hk : 0 ≤ k) (hk' : k ≤ 255) :
    Calls Try.prog 41 #[.agg #[.int .u8 k, .int .u64 a, .int .u64 b, .int .u64 v, .int .u64 o, .int .u64 y, .int .u64 d]] w fun e w' => e = .returned (.bool true) ∧ Below w.heap.size w w' := by
  have := formedAny k a b v o y d w hk hk'
  rwa [hf] at this
theorem formedF {k a b v o y d : Int} (hf : formed k a b v o y d = false) (w : World) (hk : 0 ≤ k) (hk' : k ≤ 255) :
    Calls Try.prog 41 #[.agg #[.int .u8 k, .int .u64 a, .int .u64 b, .int .u64 v, .int .u64 o, .int .u64 y, .int .u64 d]] w fun e w' => e = .returned (.bool false) ∧ Below w.heap.size w w' := by
  have := formedAny k a b v o y d w hk hk'
  rwa [hf] at this
theorem bcell {W w1 : World} (hb : Below W.heap.size W w1) : (∀ b o, b < W.heap.size → w1.cell? ⟨b, o, none⟩ = W.cell? ⟨b, o, none⟩) ∧ (∀ b o, b < W.heap.size → w1.frozen? ⟨b, o, none⟩ = W.frozen? ⟨b, o, none⟩) :=
  ⟨fun b o h => hb.cell (p := ⟨b, o, none⟩) h, fun b o h => hb.frozen (p := ⟨b, o, none⟩) h⟩
def res25 (k a b v o y d : Int) : Int := if formed k a b v o y d = false then 2 else if k = 8 ∨ k = 9 then res33 k a b y else if k = 11 then (if b < a then 13 else 0) else 0
theorem same (k a b v o y d : Int) : res25 k a b v o y d = res24 k a b v o y d := by
  unfold res25 res24 formed res33
  by_cases hu : unused k a b v o y d
  · simp [hu]
  · simp only [hu, not_false_eq_true, true_and, or_false, decide_eq_false_iff_not]
    (repeat' split) <;> omega
set_option maxHeartbeats 1000000 in
theorem ref25 (k a b v o y d : Int) (w : World) (hk : 0 ≤ k) (hk' : k ≤ 255) (ha : 0 ≤ a) (ha' : a ≤ 18446744073709551615) (hb : 0 ≤ b) (hb' : b ≤ 18446744073709551615) (hy : 0 ≤ y) (hy' : y ≤ 18446744073709551615) :
    Calls Try.prog 25 #[.agg #[.int .u8 k, .int .u64 a, .int .u64 b, .int .u64 v, .int .u64 o, .int .u64 y, .int .u64 d]] w fun e w' => e = .returned (.int .i64 (res25 k a b v o y d)) ∧ Below w.heap.size w w' := by
  obtain ⟨f, hF⟩ : ∃ f, f = formed k a b v o y d := ⟨_, rfl⟩
  cases f
  · have c41 := formedF (a := a) (b := b) (v := v) (o := o) (y := y) (d := d) hF.symm
    have e : res25 k a b v o y d = 2 := by unfold res25; rw [if_pos hF.symm]
    rw [e]; clear e hF
    go_enter Try.func25, Try.ntmps25
    go_wp2_with (go_at_call 41; refine (c41 _ hk hk').mono ?_; rintro e w1 ⟨rfl, hb1⟩)
    go_ret
    exact ⟨rfl, ((Below.refl _ _).alloc (Nat.le_refl _) _).trans (hb1.mono (by simp))⟩
  · have c41 := formedT (a := a) (b := b) (v := v) (o := o) (y := y) (d := d) hF.symm
    have e : res25 k a b v o y d = if k = 8 ∨ k = 9 then res33 k a b y else if k = 11 then (if b < a then 13 else 0) else 0 := by
      unfold res25; rw [if_neg (by rw [← hF]; simp)]
    rw [e]; clear e hF
    by_cases h8 : k = 8 ∨ k = 9
    · rw [if_pos h8]
      have c42 := fun w => ref42 k a b v o y d w hk hk' ha ha' hb hb' hy hy'
      rcases h8 with rfl | rfl
      all_goals
        clear hk hk'
        go_enter Try.func25, Try.ntmps25
        go_wp2_with (first | (go_at_call 41; refine (c41 _ (by omega) (by omega)).mono ?_; rintro e w1 ⟨rfl, hb1⟩; obtain ⟨hc, hz⟩ := bcell hb1) | (go_at_call 42; refine (c42 _).mono ?_; rintro e w2 ⟨rfl, hb2⟩))
        go_ret
        exact ⟨rfl, (((Below.refl _ _).alloc (Nat.le_refl _) _).trans (hb1.mono (by simp))).trans (hb2.mono (by have := hb1.size; simp at this; omega))⟩
    · rw [if_neg h8]
      by_cases h11 : k = 11
      · subst h11
        clear h8
        rw [if_pos rfl]
        by_cases hba : b < a
        · rw [if_pos hba]
          go_enter Try.func25, Try.ntmps25
          go_wp2_with (go_at_call 41; refine (c41 _ (by omega) (by omega)).mono ?_; rintro e w1 ⟨rfl, hb1⟩; obtain ⟨hc, hz⟩ := bcell hb1)
          go_ret
          exact ⟨rfl, ((Below.refl _ _).alloc (Nat.le_refl _) _).trans (hb1.mono (by simp))⟩
        · rw [if_neg hba]
          go_enter Try.func25, Try.ntmps25
          go_wp2_with (go_at_call 41; refine (c41 _ (by omega) (by omega)).mono ?_; rintro e w1 ⟨rfl, hb1⟩; obtain ⟨hc, hz⟩ := bcell hb1)
          go_ret
          exact ⟨rfl, ((Below.refl _ _).alloc (Nat.le_refl _) _).trans (hb1.mono (by simp))⟩
      · rw [if_neg h11]
        have n8 : ¬ k = 8 := fun e => h8 (.inl e)
        have n9 : ¬ k = 9 := fun e => h8 (.inr e)
        clear h8
        go_enter Try.func25, Try.ntmps25
        go_wp2_with (go_at_call 41; refine (c41 _ hk hk').mono ?_; rintro e w1 ⟨rfl, hb1⟩; obtain ⟨hc, hz⟩ := bcell hb1)
        go_ret
        exact ⟨rfl, ((Below.refl _ _).alloc (Nat.le_refl _) _).trans (hb1.mono (by simp))⟩
end Go.Proofs.Ytiopfakeajofdaa
