/-
  The reader of package script as a function on its state.
-/
import Derived.Test.YtnmlfhogolonoaaSoX
set_option linter.unusedVariables false
set_option linter.unusedSimpArgs false
namespace Go.Proofs.Ytnmlfhogolonoaa
open Go.Proofs.Ytnmlfhogolonoaa.Eo
open Nat renaming reduceAdd → zA, reduceMul → zM, reduceLT → zL, reduceEqDiff → zE, reduceLeDiff → zD
open Int renaming reduceAdd → yA, reduceLE → yE, reduceLT → yL, reduceEq → yQ, reduceToNat → yT
noncomputable section
/-! 67: (*leapfrog/script.reader).program -/
@[go_sem] def c67_s0 : List SQ := [⟨some 2, none, .p (.mv (.c .nils))⟩]
@[go_sem] def c67_s1 : List SQ := [⟨some 3, none, .p (.mv (.c .nils))⟩]
@[go_sem] def c67_s2 : List SQ := [⟨some 8, none, .p (.mv (.t 0))⟩, ⟨some 9, none, .cv (.c (.fn (.func 65) [] [])) [(.t 8), (.c (.int .i64 256))]⟩, ⟨some 10, none, .p (.mv (.c (.int .i64 0)))⟩]
@[go_sem] def c67_s3 : List SQ := [⟨some 11, none, .p (.bin .lss 3 false false (.t 10) (.t 9))⟩]
@[go_sem] def c67_s4 : List SQ := [⟨some 4, none, .n (.new 45 [.int .u8 0, .int .u64 0, .int .u64 0, .int .u64 0, .int .u64 0, .int .u64 0, .int .u64 0])⟩]
@[go_sem] def c67_s5 : List SQ := [⟨some 12, none, .p (.mv (.t 0))⟩, ⟨some 13, none, .cv (.c (.fn (.func 65) [] [])) [(.t 12), (.c (.int .i64 255))]⟩, ⟨some 14, none, .p (.conv .u8 (.t 13))⟩, ⟨some 15, none, .p (.fadr 0 (.t 4))⟩, ⟨none, none, .e (.st 1 (.t 15) (.t 14))⟩]
@[go_sem] def c67_s6 : List SQ := [⟨some 16, none, .p (.mv (.t 0))⟩, ⟨some 17, none, .cv (.c (.fn (.func 65) [] [])) [(.t 16), (.c (.int .i64 63))]⟩, ⟨some 5, none, .p (.mv (.t 17))⟩]
@[go_sem] def c67_s7 : List SQ := [⟨some 18, none, .cv (.c (.fn (.func 30) [] [])) [(.t 4)]⟩, ⟨some 19, none, .p (.lenv (.t 18))⟩, ⟨some 20, none, .p (.mv (.c (.int .i64 0)))⟩]
@[go_sem] def c67_s8 : List SQ := [⟨some 21, none, .p (.bin .lss 3 false false (.t 20) (.t 19))⟩]
@[go_sem] def c67_s9 : List SQ := [⟨some 22, none, .p (.mv (.t 20))⟩, ⟨some 23, none, .p (.iadrS 1 (.t 18) (.t 20))⟩, ⟨some 24, none, .r (.ld none (.t 23))⟩, ⟨some 6, none, .p (.mv (.t 22))⟩, ⟨some 7, none, .p (.mv (.t 24))⟩]
@[go_sem] def c67_s10 : List SQ := [⟨some 25, none, .p (.mv (.t 5))⟩, ⟨some 26, none, .p (.mv (.t 6))⟩, ⟨some 27, none, .p (.bin .shr 3 false false (.t 25) (.t 26))⟩, ⟨some 28, none, .p (.bin .rem 3 false true (.t 27) (.c (.int .i64 2)))⟩, ⟨some 29, none, .p (.bin .eql 3 false true (.t 28) (.c (.int .i64 1)))⟩]
@[go_sem] def c67_s11 : List SQ := [⟨some 30, none, .p (.mv (.t 7))⟩, ⟨some 31, none, .p (.mv (.t 0))⟩, ⟨some 32, none, .cv (.c (.fn (.func 66) [] [])) [(.t 31)]⟩, ⟨some 33, none, .p (.nilck (.t 30))⟩, ⟨none, none, .e (.st 1 (.t 33) (.t 32))⟩]
@[go_sem] def c67_s12 : List SQ := [⟨some 34, none, .p (.bin .add 3 false true (.t 20) (.c (.int .i64 1)))⟩, ⟨some 20, none, .p (.mv (.t 34))⟩]
def c67_l13 : CC := (.seq (.ops c67_s8) (.seq (.cond (.t 21) .skip (.exit 2)) (.seq (.block 3 (.seq (.ops c67_s9) (.seq (.ops c67_s10) (.cond (.t 29) (.ops c67_s11) .skip)))) (.ops c67_s12))))
@[go_sem] def c67_s14 : List SQ := [⟨some 35, none, .p (.mv (.t 3))⟩, ⟨some 36, none, .r (.ld (some 7) (.t 4))⟩, ⟨some 37, none, .n (.buildS 45 7 1 [.int .u8 0, .int .u64 0, .int .u64 0, .int .u64 0, .int .u64 0, .int .u64 0, .int .u64 0] [(0, 7, (.t 36))])⟩, ⟨some 38, none, .e (.app 45 7 56 (.t 35) (.t 37))⟩, ⟨some 3, none, .p (.mv (.t 38))⟩]
@[go_sem] def c67_s15 : List SQ := [⟨some 39, none, .p (.bin .add 3 false true (.t 10) (.c (.int .i64 1)))⟩, ⟨some 10, none, .p (.mv (.t 39))⟩]
def c67_l16 : CC := (.seq (.ops c67_s3) (.seq (.cond (.t 11) .skip (.exit 0)) (.seq (.block 1 (.seq (.ops c67_s4) (.seq (.ops c67_s5) (.seq (.ops c67_s6) (.seq (.seq (.ops c67_s7) (.block 2 (.loop c67_l13))) (.ops c67_s14)))))) (.ops c67_s15))))
@[go_sem] def c67_s17 : List SQ := [⟨some 40, none, .p (.mv (.t 3))⟩, ⟨some 2, none, .p (.mv (.t 40))⟩]
@[go_sem] def c67 : CF := ⟨1, (.seq (.ops c67_s0) (.seq (.ops c67_s1) (.seq (.seq (.ops c67_s2) (.block 0 (.loop c67_l16))) (.seq (.ops c67_s17) .ret)))), [.tmp 2]⟩
theorem c67_eq : cCF Try.prog 67 1 = some c67 := by kernel_rfl

/-- a reader's state: what is left, whether it failed -/
abbrev RdT := ByteArray × Bool
def rdA (s : RdT) : AO := rowL [.str s.1, .bool s.2] 85
def numR (s : RdT) : Int × RdT := match numL s.1 10 0 0 with
  | some (v, r') => (v, (r', s.2))
  | none => (0, (⟨#[]⟩, true))
def cntR (m : Int) (s : RdT) : Int × RdT := if m < (numR s).1 then (0, (⟨#[]⟩, true)) else numR s
theorem numR_V (s : RdT) : (numR s).1 = numV (numL s.1 10 0 0) := by
  unfold numR
  cases numL s.1 10 0 0 <;> rfl
theorem numH_R (a : Nat) (h : H) (s : RdT) : numH a h s.2 (numL s.1 10 0 0) = ⟨h.next, h.t.set a (rdA (numR s).2)⟩ := by
  unfold numR
  cases numL s.1 10 0 0 <;> rfl
theorem cntV_R (m : Int) (s : RdT) : (cntR m s).1 = cntV s.1 m := by
  unfold cntR cntV
  rw [numR_V]
  split
  · rfl
  · exact numR_V s
theorem cntH_R (a : Nat) (h : H) (m : Int) (s : RdT) : cntH a s.1 s.2 m h = ⟨h.next, h.t.set a (rdA (cntR m s).2)⟩ := by
  unfold cntR cntH
  rw [numR_V]
  split
  · rfl
  · exact numH_R a h s
theorem subS_le (r : ByteArray) (l : Nat) : (subS r l r.size).size ≤ r.size := by rw [subS_size _ _ _ (Nat.le_refl _)]; omega
theorem numL_le (r : ByteArray) : ∀ (k i : Nat) (acc : Int) (v : Int) (r' : ByteArray), numL r k i acc = some (v, r') → r'.size ≤ r.size
  | 0, i, acc, v, r', h => by cases h
  | k + 1, i, acc, v, r', h => by
    rw [numL] at h
    split at h
    · split at h
      · simp only [Option.some.injEq, Prod.mk.injEq] at h
        rw [← h.2]
        exact subS_le _ _
      · exact numL_le r k _ _ v r' h
    · cases h
theorem numR_le (s : RdT) : (numR s).2.1.size ≤ s.1.size := by
  unfold numR
  cases hN : numL s.1 10 0 0 with
  | none => exact Nat.zero_le _
  | some x => exact numL_le _ _ _ _ _ _ hN
theorem cntR_le (m : Int) (s : RdT) : (cntR m s).2.1.size ≤ s.1.size := by
  unfold cntR
  split
  · exact Nat.zero_le _
  · exact numR_le s
theorem numR_nonneg (s : RdT) : 0 ≤ (numR s).1 := by rw [numR_V]; exact numL_nonneg _ _ _ _ (Int.le_refl _)
theorem cntR_bd (m : Int) (s : RdT) (hm : 0 ≤ m) : 0 ≤ (cntR m s).1 ∧ (cntR m s).1 ≤ m := by
  unfold cntR
  have := numR_nonneg s
  split
  · exact ⟨Int.le_refl _, hm⟩
  · exact ⟨this, by omega⟩
/-- what is known of calls of number and count -/
def F66 (call : CallE) : Prop := ∀ h a s, h.t.get a = some (rdA s) → s.1.size ≤ 9223372036854775807 → call 66 [.ptr a 0] h = some (.int .u64 (numR s).1, ⟨h.next, h.t.set a (rdA (numR s).2)⟩)
def F65 (call : CallE) : Prop := ∀ h a s m, h.t.get a = some (rdA s) → s.1.size ≤ 9223372036854775807 → 0 ≤ m → m ≤ 9223372036854775807 → call 65 [.ptr a 0, .int .i64 m] h = some (.int .i64 (cntR m s).1, ⟨h.next, h.t.set a (rdA (cntR m s).2)⟩)
theorem H66 (n : Nat) : F66 (cW (n + 1)) := fun h a s ga hr => by
  obtain ⟨v, h', e, rfl, rfl⟩ := callW_of (n := n) (f := 66) (args := [.ptr a 0]) (h := h) (by kernel_rfl) (by kernel_rfl) c66_eq (w66 Try.prog (r := s.1) (f := s.2) ga hr)
  rw [numR_V, ← numH_R]
  exact e
theorem H65 (n : Nat) : F65 (cW (n + 2)) := fun h a s m ga hr h0 h1 => by
  obtain ⟨v, h', e, rfl, rfl⟩ := callW_of (n := n + 1) (f := 65) (args := [.ptr a 0, .int .i64 m]) (h := h) (by kernel_rfl) (by kernel_rfl) c65_eq (w65 Try.prog (fun h a r f ga hr => ⟨_, _, H66 n h a (r, f) ga hr, by rw [numR_V], by rw [← numH_R]⟩) (r := s.1) (f := s.2) ga hr ⟨h0, h1⟩)
  rw [cntV_R, ← cntH_R]
  exact e
end
end Go.Proofs.Ytnmlfhogolonoaa
