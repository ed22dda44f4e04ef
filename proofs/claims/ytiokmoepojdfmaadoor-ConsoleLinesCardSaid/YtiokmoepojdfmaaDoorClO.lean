/-
  The line of a result, put together.
-/
import Derived.Test.YtiokmoepojdfmaaDoorClN
set_option linter.unusedVariables false
set_option linter.unusedSimpArgs false
namespace Go.Proofs.YtiokmoepojdfmaaDoor
open Go.Proofs.YtiokmoepojdfmaaDoor.Eo
open Nat renaming reduceAdd → zA, reduceMul → zM, reduceLT → zL, reduceEqDiff → zE, reduceLeDiff → zD
open Int renaming reduceAdd → yA, reduceLE → yE, reduceLT → yL, reduceEq → yQ, reduceToNat → yT
open Go.Lib (decDigits itoa)
noncomputable section
def resB (r : ResT) : List UInt8 := r4B r (r3B r (r2B r (r1B r (r0B r))))
def badR (r : ResT) : Prop := r.err < 0 ∨ 23 < r.err ∨ r.cnt < 0
theorem r0_len {r : ResT} (he : 0 ≤ r.err ∧ r.err ≤ 23) : (r0B r).length ≤ 30 := by
  have := num_len (z := r.err) ⟨he.1, by have := he.2; omega⟩
  unfold r0B
  split
  · decide
  · rw [List.length_append]; show 5 + _ ≤ _; omega
theorem r1_len (r : ResT) (s : List UInt8) : (r1B r s).length ≤ s.length + 30 := by
  unfold r1B
  split
  · rw [List.length_append]; show _ + 6 ≤ _; omega
  · omega
theorem r2_len {r : ResT} (hr : ResR r) (s : List UInt8) : (r2B r s).length ≤ s.length + 30 := by
  have := num_len hr.k
  unfold r2B
  split
  · omega
  · rw [List.length_append, List.length_append]; show _ + 4 + _ ≤ _; omega
theorem r3_len {r : ResT} (hr : ResR r) (s : List UInt8) : (r3B r s).length ≤ s.length + 30 := by
  have := num_len hr.v
  unfold r3B
  split
  · omega
  · rw [List.length_append, List.length_append]; show _ + 6 + _ ≤ _; omega
theorem r4_len {r : ResT} (hr : ResR r) (hc : 0 ≤ r.cnt) (s : List UInt8) : (r4B r s).length ≤ s.length + 30 := by
  have := num_len (z := r.cnt) ⟨hc, by have := hr.c.2; omega⟩
  unfold r4B
  split
  · omega
  · rw [List.length_append, List.length_append]; show _ + 6 + _ ≤ _; omega
theorem resB_len {r : ResT} (hr : ResR r) (hg : ¬ badR r) : (resB r).length ≤ 200 := by
  unfold badR at hg
  have h0 := r0_len (r := r) (by omega)
  have h1 := r1_len r (r0B r)
  have h2 := r2_len hr (r1B r (r0B r))
  have h3 := r3_len hr (r2B r (r1B r (r0B r)))
  have h4 := r4_len hr (by omega) (r3B r (r2B r (r1B r (r0B r))))
  unfold resB
  omega
@[go_sem] theorem resC_len (r : ResT) : (resC r).length = 5 := rfl
@[go_sem] theorem resC_all (r : ResT) : (resC r).all oneA = true := rfl
@[go_sem] theorem resC_get0 (r : ResT) : (resC r)[0]? = some (.int .i64 r.err) := rfl
@[go_sem] theorem resC_get4 (r : ResT) : (resC r)[4]? = some (.int .i64 r.cnt) := rfl
structure PostE (r : ResT) (h : H) (v : AV) (h' : H) : Prop where
  st : StepN h h'
  bad : badR r → v = .tup [.str ⟨#[]⟩, .int .i64 2]
  good : ¬ badR r → v = .tup [.str (strB (resB r)), .int .i64 0]
def rest7 : CC := .seq (.seq (.ops c7_s4) (.cond (.t 20) (.ops c7_s5) .skip)) (.seq (.seq (.ops c7_s6) (.cond (.t 27) (.ops c7_s7) .skip)) (.seq (.seq (.ops c7_s8) (.cond (.t 32) (.ops c7_s9) .skip)) (.seq (.seq (.ops c7_s10) (.cond (.t 41) (.ops c7_s11) .skip)) (.seq (.seq (.ops c7_s12) (.cond (.t 50) (.ops c7_s13) .skip)) (.seq (.ops c7_s14) .ret)))))
theorem c7_is : c7 = ⟨1, .seq (.ops c7_s0) (.seq (.seq (.ops c7_s1) (.cond (.t 17) (.seq (.ops c7_s2) .ret) .skip)) (.seq (.ops c7_s3) rest7)), [.tmp 2, .tmp 3]⟩ := rfl
theorem w7 (P : Program) {call : CallE} (h14 : ∀ h w v (l : List Int), TabH h → Own 1 22 h v l.length (l.map (AV.int .u64)) → (∀ x ∈ l, inU x) → w.length ≤ 1000000 → l.length ≤ 1000000 → call 14 [.str (strB w), v] h = some (.str (strB (joinL w l)), h)) {h : H} {r : ResT} (hT : TabH h) (hp : 0 < h.next) (hr : ResR r) : WF P call c7 [.agg (resC r)] h (PostE r h) := by
  rw [c7_is]
  by_cases h1 : r.err < 0
  · simp only [go_sem, ↓reduceIte, ↓reduceDIte, zA, zM, zL, zE, zD, yA, yE, yL, yQ, yT, reduceCtorEq, h1]
    exact ⟨StepN.new h _, fun _ => rfl, fun hg => absurd (.inl h1) hg⟩
  by_cases h2 : 23 < r.err
  · simp only [go_sem, ↓reduceIte, ↓reduceDIte, zA, zM, zL, zE, zD, yA, yE, yL, yQ, yT, reduceCtorEq, h1, h2]
    exact ⟨StepN.new h _, fun _ => rfl, fun hg => absurd (.inr (.inl h2)) hg⟩
  by_cases h3 : r.cnt < 0
  · simp only [go_sem, ↓reduceIte, ↓reduceDIte, zA, zM, zL, zE, zD, yA, yE, yL, yQ, yT, reduceCtorEq, h1, h2, h3]
    exact ⟨StepN.new h _, fun _ => rfl, fun hg => absurd (.inr (.inr h3)) hg⟩
  simp only [go_sem, ↓reduceIte, ↓reduceDIte, zA, zM, zL, zE, zD, yA, yE, yL, yQ, yT, reduceCtorEq, h1, h2, h3]
  have he : 0 ≤ r.err ∧ r.err ≤ 23 := by omega
  have hc0 : 0 ≤ r.cnt := by omega
  have hg : ¬ badR r := fun hh => by unfold badR at hh; omega
  have st0 := StepN.new h (.row (putList 0 (resC r) T.e) 5 27)
  have gA : (⟨h.next + 1, h.t.set h.next (.row (putList 0 (resC r) T.e) 5 27)⟩ : H).t.get h.next = some (.row (putList 0 (resC r) T.e) 5 27) := by simp only [go_sem, ↓reduceIte, ↓reduceDIte, zA, zM, zL, zE, zD, yA, yE, yL, yQ, yT, reduceCtorEq]
  have l0 := r0_len he
  have l1 := r1_len r (r0B r)
  have l2 := r2_len hr (r1B r (r0B r))
  have l3 := r3_len hr (r2B r (r1B r (r0B r)))
  unfold rest7
  refine st7_err P h14 (st0.tab hT hp) (Nat.succ_pos _) he gA (by simp [go_sem]) (by simp [go_sem]) fun tm1 k1 s1 a1 b1 => ?_
  have n1 : h.next + 1 ≤ k1.next := s1.next
  have g1 := (s1.old h.next (Nat.lt_succ_self _)).trans gA
  refine st7_found P g1 a1 b1 (by omega) fun tm2 k2 s2 a2 b2 => ?_
  have n2 := s2.next
  have g2 := (s2.old h.next (by omega)).trans g1
  have s02 := (st0.trans s1).trans s2
  refine st7_key P h14 (s02.tab hT hp) (by omega) hr (by omega) g2 a2 b2 (by omega) fun tm3 k3 s3 a3 b3 => ?_
  have n3 := s3.next
  have g3 := (s3.old h.next (by omega)).trans g2
  have s03 := s02.trans s3
  refine st7_val P h14 (s03.tab hT hp) (by omega) hr (by omega) g3 a3 b3 (by omega) fun tm4 k4 s4 a4 b4 => ?_
  have n4 := s4.next
  have g4 := (s4.old h.next (by omega)).trans g3
  have s04 := s03.trans s4
  refine st7_cnt P h14 (s04.tab hT hp) (by omega) hr hc0 (by omega) g4 a4 b4 (by omega) fun tm5 k5 s5 a5 b5 => ?_
  simp only [go_sem, ↓reduceIte, ↓reduceDIte, zA, zM, zL, zE, zD, yA, yE, yL, yQ, yT, reduceCtorEq, b5]
  exact ⟨s04.trans s5, fun hh => absurd hh hg, fun _ => rfl⟩
def rest10 : CC := .seq (.seq (.ops c10_s4) (.cond (.t 20) (.ops c10_s5) .skip)) (.seq (.seq (.ops c10_s6) (.cond (.t 27) (.ops c10_s7) .skip)) (.seq (.seq (.ops c10_s8) (.cond (.t 32) (.ops c10_s9) .skip)) (.seq (.seq (.ops c10_s10) (.cond (.t 41) (.ops c10_s11) .skip)) (.seq (.seq (.ops c10_s12) (.cond (.t 50) (.ops c10_s13) .skip)) (.seq (.ops c10_s14) .ret)))))
theorem c10_is : c10 = ⟨1, .seq (.ops c10_s0) (.seq (.seq (.ops c10_s1) (.cond (.t 17) (.seq (.ops c10_s2) .ret) .skip)) (.seq (.ops c10_s3) rest10)), [.tmp 2, .tmp 3]⟩ := rfl
theorem w10 (P : Program) {call : CallE} (h20 : ∀ h (u : Nat), u < 18446744073709551616 → ∃ v h', call 20 [.int .u64 (u : Int)] h = some (v, h') ∧ (v = .str (strB (decDigits u)) ∧ StepN h h')) {h : H} {r : ResT} (hr : ResR r) : WF P call c10 [.agg (resC r)] h (PostE r h) := by
  rw [c10_is]
  by_cases h1 : r.err < 0
  · simp only [go_sem, ↓reduceIte, ↓reduceDIte, zA, zM, zL, zE, zD, yA, yE, yL, yQ, yT, reduceCtorEq, h1]
    exact ⟨StepN.new h _, fun _ => rfl, fun hg => absurd (.inl h1) hg⟩
  by_cases h2 : 23 < r.err
  · simp only [go_sem, ↓reduceIte, ↓reduceDIte, zA, zM, zL, zE, zD, yA, yE, yL, yQ, yT, reduceCtorEq, h1, h2]
    exact ⟨StepN.new h _, fun _ => rfl, fun hg => absurd (.inr (.inl h2)) hg⟩
  by_cases h3 : r.cnt < 0
  · simp only [go_sem, ↓reduceIte, ↓reduceDIte, zA, zM, zL, zE, zD, yA, yE, yL, yQ, yT, reduceCtorEq, h1, h2, h3]
    exact ⟨StepN.new h _, fun _ => rfl, fun hg => absurd (.inr (.inr h3)) hg⟩
  simp only [go_sem, ↓reduceIte, ↓reduceDIte, zA, zM, zL, zE, zD, yA, yE, yL, yQ, yT, reduceCtorEq, h1, h2, h3]
  have he : 0 ≤ r.err ∧ r.err ≤ 23 := by omega
  have hc0 : 0 ≤ r.cnt := by omega
  have hg : ¬ badR r := fun hh => by unfold badR at hh; omega
  have st0 := StepN.new h (.row (putList 0 (resC r) T.e) 5 27)
  have gA : (⟨h.next + 1, h.t.set h.next (.row (putList 0 (resC r) T.e) 5 27)⟩ : H).t.get h.next = some (.row (putList 0 (resC r) T.e) 5 27) := by simp only [go_sem, ↓reduceIte, ↓reduceDIte, zA, zM, zL, zE, zD, yA, yE, yL, yQ, yT, reduceCtorEq]
  have l0 := r0_len he
  have l1 := r1_len r (r0B r)
  have l2 := r2_len hr (r1B r (r0B r))
  have l3 := r3_len hr (r2B r (r1B r (r0B r)))
  unfold rest10
  refine st10_err P h20 he gA (by simp [go_sem]) (by simp [go_sem]) fun tm1 k1 s1 a1 b1 => ?_
  have n1 : h.next + 1 ≤ k1.next := s1.next
  have g1 := (s1.old h.next (Nat.lt_succ_self _)).trans gA
  refine st10_found P g1 a1 b1 (by omega) fun tm2 k2 s2 a2 b2 => ?_
  have n2 := s2.next
  have g2 := (s2.old h.next (by omega)).trans g1
  have s02 := (st0.trans s1).trans s2
  refine st10_key P h20 hr (by omega) g2 a2 b2 (by omega) fun tm3 k3 s3 a3 b3 => ?_
  have n3 := s3.next
  have g3 := (s3.old h.next (by omega)).trans g2
  have s03 := s02.trans s3
  refine st10_val P h20 hr (by omega) g3 a3 b3 (by omega) fun tm4 k4 s4 a4 b4 => ?_
  have n4 := s4.next
  have g4 := (s4.old h.next (by omega)).trans g3
  have s04 := s03.trans s4
  refine st10_cnt P h20 hr hc0 (by omega) g4 a4 b4 (by omega) fun tm5 k5 s5 a5 b5 => ?_
  simp only [go_sem, ↓reduceIte, ↓reduceDIte, zA, zM, zL, zE, zD, yA, yE, yL, yQ, yT, reduceCtorEq, b5]
  exact ⟨s04.trans s5, fun hh => absurd hh hg, fun _ => rfl⟩
end
end Go.Proofs.YtiokmoepojdfmaaDoor
