/-
  The law ScriptDecodes: what it does with a string.
-/
import Derived.Test.YtnmlfhogolonoaaSoRm
import Derived.Test.YtnmlfhogolonoaaSoWk
set_option linter.unusedVariables false
set_option linter.unusedSimpArgs false
namespace Go.Proofs.Ytnmlfhogolonoaa
open Go.Proofs.Ytnmlfhogolonoaa.Eo Go.RowKit
open Nat renaming reduceAdd → zA, reduceMul → zM, reduceLT → zL, reduceEqDiff → zE, reduceLeDiff → zD
open Int renaming reduceAdd → yA, reduceLE → yE, reduceLT → yL, reduceEq → yQ, reduceToNat → yT
noncomputable section
/-! 7: leapfrog/leapfroglaw43.ScriptDecodes -/
@[go_sem] def c7_s0 : List SQ := [⟨some 2, none, .p (.mv (.c (.bool false)))⟩]
@[go_sem] def c7_s1 : List SQ := [⟨some 7, none, .p (.mv (.t 0))⟩, ⟨some 8, none, .p (.lens (.t 7))⟩, ⟨some 9, none, .p (.bin .gtr 3 false true (.t 8) (.c (.int .i64 5000)))⟩, ⟨some 10, none, .p (.mv (.t 9))⟩, ⟨some 11, some (10, true), .p (.mv (.t 0))⟩, ⟨some 12, some (10, true), .p (.lens (.t 11))⟩, ⟨some 13, some (10, true), .p (.bin .leq 3 false true (.t 12) (.c (.int .i64 65536)))⟩, ⟨some 14, none, .p (.pick (.t 10) (.t 13) (.c (.bool false)))⟩]
@[go_sem] def c7_s2 : List SQ := [⟨some 15, none, .cv (.c (.fn (.func 11) [] [])) []⟩, ⟨some 2, none, .p (.mv (.t 15))⟩]
@[go_sem] def c7_s3 : List SQ := [⟨some 17, none, .p (.mv (.t 0))⟩, ⟨some 18, none, .cv (.c (.fn (.func 22) [] [])) [(.t 17)]⟩, ⟨some 16, none, .p (.mv (.t 18))⟩, ⟨some 19, none, .p (.extr (.t 16) 0)⟩, ⟨some 20, none, .p (.extr (.t 16) 1)⟩, ⟨some 3, none, .n (.new 31 [.int .i64 0, .int .i64 0, .int .u8 0, .int .i64 0, .int .u8 0, .int .i64 0, .nils, .int .i64 0, .int .i64 0, .int .i64 0, .int .i64 0, .int .i64 0, .int .i64 0, .int .i64 0, .int .i64 0, .int .i64 0, .nils, .nils])⟩, ⟨none, none, .e (.st 18 (.t 3) (.t 19))⟩, ⟨some 4, none, .p (.mv (.t 20))⟩]
@[go_sem] def c7_s4 : List SQ := [⟨some 22, none, .p (.mv (.t 0))⟩, ⟨some 23, none, .cv (.c (.fn (.func 23) [] [])) [(.t 22)]⟩, ⟨some 21, none, .p (.mv (.t 23))⟩, ⟨some 24, none, .p (.extr (.t 21) 0)⟩, ⟨some 25, none, .p (.extr (.t 21) 1)⟩, ⟨some 5, none, .n (.new 31 [.int .i64 0, .int .i64 0, .int .u8 0, .int .i64 0, .int .u8 0, .int .i64 0, .nils, .int .i64 0, .int .i64 0, .int .i64 0, .int .i64 0, .int .i64 0, .int .i64 0, .int .i64 0, .int .i64 0, .int .i64 0, .nils, .nils])⟩, ⟨none, none, .e (.st 18 (.t 5) (.t 24))⟩, ⟨some 6, none, .p (.mv (.t 25))⟩]
@[go_sem] def c7_s5 : List SQ := [⟨some 26, none, .r (.ld (some 18) (.t 3))⟩, ⟨some 27, none, .r (.ld (some 18) (.t 5))⟩, ⟨some 28, none, .cv (.c (.fn (.func 17) [] [])) [(.t 26), (.t 27)]⟩, ⟨some 29, none, .p (.mv (.t 28))⟩, ⟨some 30, some (29, true), .p (.mv (.t 4))⟩, ⟨some 31, some (29, true), .p (.mv (.t 6))⟩, ⟨some 32, some (29, true), .p (.bin .eql 35 false false (.t 30) (.t 31))⟩, ⟨some 33, none, .p (.pick (.t 29) (.t 32) (.c (.bool false)))⟩, ⟨some 2, none, .p (.mv (.t 33))⟩]
@[go_sem] def c7 : CF := ⟨1, (.seq (.ops c7_s0) (.seq (.seq (.ops c7_s1) (.cond (.t 14) (.seq (.ops c7_s2) .ret) .skip)) (.seq (.ops c7_s3) (.seq (.ops c7_s4) (.seq (.ops c7_s5) .ret))))), [.tmp 2]⟩
theorem c7_eq : cCF Try.prog 7 1 = some c7 := by kernel_rfl

theorem anyD_inU (s : RdT) : ∀ y ∈ (anyD s).c.cuts, inU y := by
  have h := cfgD_in s
  unfold anyD
  generalize cfgD s = x at h ⊢
  exact h
theorem anyT_in (s : RdT) : (∀ p ∈ (anyT s).ps, ∀ x ∈ p, opR x) ∧ ∀ y ∈ (anyT s).c.cuts, inU y := by
  have h2 := headT_cuts s
  unfold anyT
  generalize headT s = y at *
  have h5 := cfgY_in y h2
  generalize cfgY y = x at *
  exact ⟨progsT_R _ _, h5.1⟩
theorem encZ_ok {l : List Int} {s : ByteArray} (h : encZ l = (s, 0)) : s = strOf l ∧ l.length ≤ 65536 := by
  unfold encZ at h
  by_cases hl : 65536 < l.length
  · rw [if_pos hl] at h
    have h2 : (5 : Int) = 0 := (Prod.ext_iff.1 h).2
    exact absurd h2 (by decide)
  · rw [if_neg hl] at h
    exact ⟨(Prod.ext_iff.1 h).1.symm, by omega⟩
theorem resS_ok {c : CfgT} {ps : List (List OpT)} {ks : List Int} {s : ByteArray} (h : resS c ps ks = (s, 0)) : chkB c ps ks ∧ encZ (encS c ps ks) = (s, 0) := by
  unfold resS at h
  by_cases hc : chkB c ps ks
  · rw [if_pos hc] at h
    exact ⟨hc, h⟩
  · rw [if_neg hc] at h
    exact absurd (chkE_iff.1 (Prod.ext_iff.1 h).2) hc
theorem acc_iff {s : ByteArray} : (Acc s (anyD (s, false)) → accT s (anyT (s, false)) ∧ anyT (s, false) = anyD (s, false)) ∧ (accT s (anyT (s, false)) → Acc s (anyD (s, false))) := by
  constructor
  · intro h
    obtain ⟨hg, ha, hc, he⟩ := h
    have op := (anyD_in (s, false)).1
    have cu := anyD_inU (s, false)
    obtain ⟨hs, hl⟩ := encZ_ok he
    have hz : anyD (s, false) = ⟨(anyD (s, false)).c, (anyD (s, false)).ps, (anyD (s, false)).ks, stI []⟩ := by
      have := anyD_put ⟨hc, op, cu⟩
      unfold stI at this
      rw [← hs] at this
      exact this
    have ht := anyT_put ⟨hc, op, cu⟩
    have e : stI (encS (anyD (s, false)).c (anyD (s, false)).ps (anyD (s, false)).ks) = (s, false) := by unfold stI; rw [← hs]
    rw [e] at ht
    rw [ht]
    refine ⟨⟨rfl, ?_⟩, hz.symm⟩
    show resS _ _ _ = _
    unfold resS
    rw [if_pos hc, he]
  · intro h
    obtain ⟨op, cu⟩ := anyT_in (s, false)
    generalize anyT (s, false) = A at h op cu
    obtain ⟨hg, hr⟩ := h
    obtain ⟨hc, he⟩ := resS_ok hr
    obtain ⟨hs, hl⟩ := encZ_ok he
    have ht := anyD_put ⟨hc, op, cu⟩
    have e : stI (encS A.c A.ps A.ks) = (s, false) := by unfold stI; rw [← hs]
    rw [e] at ht
    rw [ht]
    have h0 : (stI []).1.size = 0 := by
      unfold stI
      show (strOf []).size = 0
      rw [strOf_len]
      rfl
    have h1 : (stI []).2 = false := rfl
    generalize stI [] = z at h0 h1 ⊢
    exact ⟨h1, h0, hc, he⟩
theorem dec_eq {s : ByteArray} {e e' : Int} {c c' : CfgT} {ps ps' : List (List OpT)} {ks ks' : List Int} (h1 : DecA s (Acc s (anyD (s, false))) (anyD (s, false)) e c ps ks) (h2 : DecA s (accT s (anyT (s, false))) (anyT (s, false)) e' c' ps' ks') :
    e = e' ∧ c = c' ∧ ps = ps' ∧ ks = ks' := by
  obtain ⟨a1, a2⟩ := acc_iff (s := s)
  cases h1 with
  | long h =>
    cases h2 with
    | long h => exact ⟨rfl, rfl, rfl, rfl⟩
    | ok h' _ => omega
    | form h' _ => omega
  | ok h g =>
    obtain ⟨b1, b2⟩ := a1 g
    cases h2 with
    | long h' => omega
    | ok h' _ => rw [b2]; exact ⟨rfl, rfl, rfl, rfl⟩
    | form h' g' => exact absurd b1 g'
  | form h g =>
    cases h2 with
    | long h' => omega
    | ok h' g' => exact absurd (a2 g') g
    | form h' g' => exact ⟨rfl, rfl, rfl, rfl⟩
set_option maxRecDepth 8000 in
theorem w7 (n : Nat) {h : H} {s : ByteArray} : WF Try.prog (cW (n + 6)) c7 [.str s] h fun v h' => v = .bool true := by
  by_cases hk : 5000 < s.size ∧ s.size ≤ 65536
  · have e1 : (5000 : Int) < (s.size : Int) := by omega
    have e2 : ¬ (65536 : Int) < (s.size : Int) := by omega
    simp only [go_sem, ↓reduceIte, ↓reduceDIte, zA, zM, zL, zE, zD, yA, yE, yL, yQ, yT, reduceCtorEq, c7, e1, e2]
    refine opt_by (H11 n _) fun v1 h1 p1 => ?_
    obtain ⟨rfl, _⟩ := p1
    simp only [go_sem, ↓reduceIte, ↓reduceDIte, zA, zM, zL, zE, zD, yA, yE, yL, yQ, yT, reduceCtorEq]
  by_cases h5 : 5000 < s.size
  · have e1 : (5000 : Int) < (s.size : Int) := by omega
    have e2 : (65536 : Int) < (s.size : Int) := by omega
    simp only [go_sem, ↓reduceIte, ↓reduceDIte, zA, zM, zL, zE, zD, yA, yE, yL, yQ, yT, reduceCtorEq, c7, e1, e2]
    refine opt_by (H22 n _ s) fun v1 h1 p1 => ?_
    obtain ⟨st1, v1, e, c, ps, ks, rfl, is1, d1⟩ := p1
    obtain ⟨cv, pv, kv, rfl, i1, i2, i3, i4, i5⟩ := id is1
    have ov := i1.one
    have opa := i3.one
    have oka := i4.one
    have st2 := StepN.new h1 (.row (putList 0 (cfgC c cv ++ [pv, kv]) T.e) 18 31)
    simp only [go_sem, ↓reduceIte, ↓reduceDIte, zA, zM, zL, zE, zD, yA, yE, yL, yQ, yT, reduceCtorEq, ov, opa, oka, cfg_len]
    refine opt_by (H23 (n + 1) _ s) fun v2 h2 p2 => ?_
    obtain ⟨st3, v2, e', c', ps', ks', rfl, is3, d2⟩ := p2
    obtain ⟨rfl, rfl, rfl, rfl⟩ := dec_eq d1 d2
    obtain ⟨cv', pv', kv', rfl, j1, j2, j3, j4, j5⟩ := id is3
    have ov' := j1.one
    have opa' := j3.one
    have oka' := j4.one
    have st4 := StepN.new h2 (.row (putList 0 (cfgC c cv' ++ [pv', kv']) T.e) 18 31)
    have gX := (st3.old h1.next (Nat.lt_succ_self _))
    simp only [go_sem, ↓reduceIte, ↓reduceDIte, zA, zM, zL, zE, zD, yA, yE, yL, yQ, yT, reduceCtorEq] at gX
    have nX : ¬ h1.next = h2.next := by
      have := st3.next
      have h3 : h1.next + 1 ≤ h2.next := this
      omega
    simp only [go_sem, ↓reduceIte, ↓reduceDIte, zA, zM, zL, zE, zD, yA, yE, yL, yQ, yT, reduceCtorEq, ov, opa, oka, ov', opa', oka', cfg_len, gX, nX]
    refine opt_by (H17 (n + 2) _ _ _ _ _ _ _ _ _ ((is1.keep st2).keep st3 |>.keep st4) (is3.keep st4)) fun v3 h3 p3 => ?_
    obtain ⟨b, rfl, hb, st5⟩ := p3
    have hb2 : b = true := hb.2 ⟨rfl, rfl, rfl⟩
    subst hb2
    simp only [go_sem, ↓reduceIte, ↓reduceDIte, zA, zM, zL, zE, zD, yA, yE, yL, yQ, yT, reduceCtorEq]
  · have e1 : ¬ (5000 : Int) < (s.size : Int) := by omega
    simp only [go_sem, ↓reduceIte, ↓reduceDIte, zA, zM, zL, zE, zD, yA, yE, yL, yQ, yT, reduceCtorEq, c7, e1]
    refine opt_by (H22 n _ s) fun v1 h1 p1 => ?_
    obtain ⟨st1, v1, e, c, ps, ks, rfl, is1, d1⟩ := p1
    obtain ⟨cv, pv, kv, rfl, i1, i2, i3, i4, i5⟩ := id is1
    have ov := i1.one
    have opa := i3.one
    have oka := i4.one
    have st2 := StepN.new h1 (.row (putList 0 (cfgC c cv ++ [pv, kv]) T.e) 18 31)
    simp only [go_sem, ↓reduceIte, ↓reduceDIte, zA, zM, zL, zE, zD, yA, yE, yL, yQ, yT, reduceCtorEq, ov, opa, oka, cfg_len]
    refine opt_by (H23 (n + 1) _ s) fun v2 h2 p2 => ?_
    obtain ⟨st3, v2, e', c', ps', ks', rfl, is3, d2⟩ := p2
    obtain ⟨rfl, rfl, rfl, rfl⟩ := dec_eq d1 d2
    obtain ⟨cv', pv', kv', rfl, j1, j2, j3, j4, j5⟩ := id is3
    have ov' := j1.one
    have opa' := j3.one
    have oka' := j4.one
    have st4 := StepN.new h2 (.row (putList 0 (cfgC c cv' ++ [pv', kv']) T.e) 18 31)
    have gX := (st3.old h1.next (Nat.lt_succ_self _))
    simp only [go_sem, ↓reduceIte, ↓reduceDIte, zA, zM, zL, zE, zD, yA, yE, yL, yQ, yT, reduceCtorEq] at gX
    have nX : ¬ h1.next = h2.next := by
      have := st3.next
      have h3 : h1.next + 1 ≤ h2.next := this
      omega
    simp only [go_sem, ↓reduceIte, ↓reduceDIte, zA, zM, zL, zE, zD, yA, yE, yL, yQ, yT, reduceCtorEq, ov, opa, oka, ov', opa', oka', cfg_len, gX, nX]
    refine opt_by (H17 (n + 2) _ _ _ _ _ _ _ _ _ ((is1.keep st2).keep st3 |>.keep st4) (is3.keep st4)) fun v3 h3 p3 => ?_
    obtain ⟨b, rfl, hb, st5⟩ := p3
    have hb2 : b = true := hb.2 ⟨rfl, rfl, rfl⟩
    subst hb2
    simp only [go_sem, ↓reduceIte, ↓reduceDIte, zA, zM, zL, zE, zD, yA, yE, yL, yQ, yT, reduceCtorEq]
/-- THE LAW -/
theorem law7 (s : ByteArray) (W : World) : Calls Try.prog 7 #[.string s] W fun e W' => e = .returned (.bool true) ∧ Below W.heap.size W W' :=
  calls_of (cW_ok 6) (callW_plain 6) (args := [.str s]) (ARGS := [.string s]) ⟨_, [], rfl, rfl, rfl⟩ rfl (by kernel_rfl) (by kernel_rfl) c7_eq (w7 0) W
end
end Go.Proofs.Ytnmlfhogolonoaa
