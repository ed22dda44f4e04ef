/-
  An operation and a program that are read: (*reader).program of package script.
-/
import Derived.Test.YtnmlfhogolonoaaSoY
set_option linter.unusedVariables false
set_option linter.unusedSimpArgs false
namespace Go.Proofs.Ytnmlfhogolonoaa
open Go.Proofs.Ytnmlfhogolonoaa.Eo
open Nat renaming reduceAdd → zA, reduceMul → zM, reduceLT → zL, reduceEqDiff → zE, reduceLeDiff → zD
open Int renaming reduceAdd → yA, reduceLE → yE, reduceLT → yL, reduceEq → yQ, reduceToNat → yT
noncomputable section
def opL (k : Int) (l : List Int) : List AV := .int .u8 k :: l.map (AV.int .u64)
def bitD (m : Int) (i : Nat) : Prop := (m.fdiv (2 ^ i)).tmod 2 = 1
instance (m : Int) (i : Nat) : Decidable (bitD m i) := inferInstanceAs (Decidable (_ = _))
/-- the fields of an operation that are read from i on -/
def fD (m : Int) : Nat → Nat → List Int → RdT → List Int × RdT
  | 0, _, l, s => (l, s)
  | k + 1, i, l, s => if bitD m i then fD m k (i + 1) (l.set i (numR s).1) (numR s).2 else fD m k (i + 1) l s
def I67 (h0 : H) (a D : Nat) (v w : AV) (c m j n : Int) (l0 : List Int) (s0 : RdT) (k : Nat) (tm : T AV) (h : H) : Prop :=
  tm.get 0 = some (.ptr a 0) ∧ tm.get 3 = some w ∧ tm.get 4 = some (.ptr D 0) ∧ tm.get 5 = some (.int .i64 m) ∧ tm.get 9 = some (.int .i64 n) ∧ tm.get 10 = some (.int .i64 j) ∧ tm.get 18 = some v ∧ tm.get 19 = some (.int .i64 6) ∧
    ∃ (q : Nat) (l : List Int) (s : RdT), q + k = 6 ∧ l.length = 6 ∧ s.1.size ≤ s0.1.size ∧ tm.get 20 = some (.int .i64 (q : Int)) ∧ h.t.get a = some (rdA s) ∧ h.t.get D = some (rowL (opL c l) 45) ∧ h.next = h0.next ∧ (∀ b, b ≠ a → b ≠ D → h.t.get b = h0.t.get b) ∧ fD m 6 0 l0 s0 = fD m k q l s
theorem step67 (P : Program) {call : CallE} (h66 : F66 call) {h0 : H} {a D : Nat} {v w : AV} {c m j n : Int} {l0 : List Int} {s0 : RdT} (haD : a ≠ D) (hv : RdL none 1 h0 v (ptrs D)) (hvk : ∀ b, own v = some b → b ≠ a ∧ b ≠ D) (hs : s0.1.size ≤ 9223372036854775807) (hm : 0 ≤ m ∧ m ≤ 63) (k : Nat) (tm : T AV) (h : H) (hI : I67 h0 a D v w c m j n l0 s0 k tm h) :
    WC P call c67_l13 (loopQ 2 (fun tm h => ∃ i, i < k ∧ I67 h0 a D v w c m j n l0 s0 i tm h) (fun tm h => tm.get 0 = some (.ptr a 0) ∧ tm.get 3 = some w ∧ tm.get 4 = some (.ptr D 0) ∧ tm.get 9 = some (.int .i64 n) ∧ tm.get 10 = some (.int .i64 j) ∧ h.t.get a = some (rdA (fD m 6 0 l0 s0).2) ∧ h.t.get D = some (rowL (opL c (fD m 6 0 l0 s0).1) 45) ∧ h.next = h0.next ∧ (∀ b, b ≠ a → b ≠ D → h.t.get b = h0.t.get b) ∧ (fD m 6 0 l0 s0).1.length = 6 ∧ (fD m 6 0 l0 s0).2.1.size ≤ s0.1.size) (fun _ _ => False)) tm h := by
  obtain ⟨t0, t3, t4, t5, t9, t10, t18, t19, q, l, s, hq, hl, hss, t20, ga, gD, hn, hold, hf⟩ := hI
  cases k with
  | zero =>
    have hq6 : q = 6 := by omega
    subst hq6
    have e1 : ¬ ((6 : Nat) : Int) < 6 := by omega
    simp only [go_sem, ↓reduceIte, ↓reduceDIte, zA, zM, zL, zE, zD, yA, yE, yL, yQ, yT, reduceCtorEq, c67_l13, t19, t20, e1, t0, t3, t4, t9, t10]
    rw [hf]
    exact ⟨ga, gD, hn, hold, hl, hss⟩
  | succ k =>
    have e1 : (q : Int) < 6 := by omega
    have hv2 := hv.keep (h' := h) fun b hb => hold b (hvk b hb).1 (hvk b hb).2
    rcases hv2 with ⟨_, hh⟩ | ⟨b, o, cap, rfl, _, ra⟩
    · cases hh
    have ha := ra q _ (ptrs_get D q (by omega))
    rw [rLdA, Nat.mul_one] at ha
    have f1 : fw .i64 ((q : Int) + 1) = (q : Int) + 1 := fwI (by omega) (by omega)
    have e3 : ((q + 1 : Nat) : Int) = (q : Int) + 1 := rfl
    have e4 : (ptrs D).length = 6 := rfl
    have e5 : (q : Int) < ((6 : Nat) : Int) := e1
    have e6 : ¬ (q : Int) < 0 := by omega
    have t18' := t18
    rw [e4] at t18'
    have k7 : min q 64 = q := by omega
    by_cases hb : bitD m q
    · have hb2 : (m.fdiv (2 ^ q)).tmod 2 = 1 := hb
      simp only [go_sem, ↓reduceIte, ↓reduceDIte, zA, zM, zL, zE, zD, yA, yE, yL, yQ, yT, reduceCtorEq, c67_l13, t0, t5, t18', t19, t20, e1, e5, e6, Nat.mul_one, ha, k7, hb2, Int.toNat_natCast]
      refine opt_some (h66 h a s ga (by omega)) ?_
      have hle := numR_le s
      have hDa : ¬ D = a := fun e => haD e.symm
      have hlen : (opL c l).length = 7 := by unfold opL; rw [List.length_cons, List.length_map, hl]
      have hq1 : q + 1 < 7 := by omega
      have hq2 : q + 1 + 1 ≤ 7 := by omega
      have hset : ∀ x, putList (q + 1) [AV.int .u64 x] (putList 0 (opL c l) T.e) = putList 0 (opL c (l.set q x)) T.e := fun x => by
        rw [rowPut1 _ _ _ (by omega)]
        unfold opL
        rw [List.set_cons_succ, List.map_set]
      have hn2 : fD m (k + 1) q l s = fD m k (q + 1) (l.set q (numR s).1) (numR s).2 := by rw [fD, if_pos hb]
      rw [hn2] at hf
      simp only [go_sem, ↓reduceIte, ↓reduceDIte, zA, zM, zL, zE, zD, yA, yE, yL, yQ, yT, reduceCtorEq, t20, f1, hDa, gD, hlen, hset, hq1, hq2]
      refine ⟨k, Nat.lt_succ_self k, by simp [go_sem, t0], by simp [go_sem, t3], by simp [go_sem, t4], by simp [go_sem, t5], by simp [go_sem, t9], by simp [go_sem, t10], by simp [go_sem, t18], by simp [go_sem, t19], q + 1, l.set q (numR s).1, (numR s).2, by omega, by rw [List.length_set]; exact hl, by omega, by simp [go_sem, e3], ?_, ?_, ?_, ?_, hf⟩
      · simp only [go_sem, ↓reduceIte, ↓reduceDIte, zA, zM, zL, zE, zD, yA, yE, yL, yQ, yT, reduceCtorEq, haD]
      · have hl2 : (opL c (l.set q (numR s).1)).length = 7 := by unfold opL; rw [List.length_cons, List.length_map, List.length_set, hl]
        simp only [go_sem, ↓reduceIte, ↓reduceDIte, zA, zM, zL, zE, zD, yA, yE, yL, yQ, yT, reduceCtorEq]
        rw [rowL, hl2]
      · exact hn
      · intro b' h1 h2
        rw [← hold b' h1 h2]
        simp only [go_sem, ↓reduceIte, ↓reduceDIte, zA, zM, zL, zE, zD, yA, yE, yL, yQ, yT, reduceCtorEq, h1, h2]
    · have hb2 : ¬ (m.fdiv (2 ^ q)).tmod 2 = 1 := hb
      simp only [go_sem, ↓reduceIte, ↓reduceDIte, zA, zM, zL, zE, zD, yA, yE, yL, yQ, yT, reduceCtorEq, c67_l13, t0, t5, t18', t19, t20, e1, e5, e6, Nat.mul_one, ha, k7, hb2, f1, Int.toNat_natCast]
      have hn2 : fD m (k + 1) q l s = fD m k (q + 1) l s := by rw [fD, if_neg hb]
      rw [hn2] at hf
      refine ⟨k, Nat.lt_succ_self k, by simp [go_sem, t0], by simp [go_sem, t3], by simp [go_sem, t4], by simp [go_sem, t5], by simp [go_sem, t9], by simp [go_sem, t10], by simp [go_sem, t18], by simp [go_sem, t19], q + 1, l, s, by omega, hl, hss, by simp [go_sem, e3], ga, gD, hn, hold, hf⟩
end
end Go.Proofs.Ytnmlfhogolonoaa
