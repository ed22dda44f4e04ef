/-
  An operation is read of a tape: the reference.
-/
import Derived.Test.YtnmlfhogolonoaaSoRg
set_option linter.unusedVariables false
set_option linter.unusedSimpArgs false
namespace Go.Proofs.Ytnmlfhogolonoaa
open Go.Proofs.Ytnmlfhogolonoaa.Eo
open Nat renaming reduceAdd → zA, reduceMul → zM, reduceLT → zL, reduceEqDiff → zE, reduceLeDiff → zD
open Int renaming reduceAdd → yA, reduceLE → yE, reduceLT → yL, reduceEq → yQ, reduceToNat → yT
noncomputable section
theorem fT_le (m : Int) : ∀ (k i : Nat) (l : List Int) (s : RdT), (fT m k i l s).2.1.size ≤ s.1.size := by
  intro k
  induction k with
  | zero => intro i l s; exact Nat.le_refl _
  | succ k ih =>
    intro i l s
    rw [fT]
    split
    · exact Nat.le_trans (ih _ _ _) (numT_bd mxU s (by decide)).2.2
    · exact ih _ _ _
theorem fT_len (m : Int) : ∀ (k i : Nat) (l : List Int) (s : RdT), (fT m k i l s).1.length = l.length := by
  intro k
  induction k with
  | zero => intro i l s; rfl
  | succ k ih =>
    intro i l s
    rw [fT]
    split
    · rw [ih, List.length_set]
    · exact ih _ _ _
theorem opT_le (s : RdT) : (opT s).2.1.size ≤ s.1.size := Nat.le_trans (fT_le _ _ _ _ _) (Nat.le_trans (numT_bd 63 _ (by decide)).2.2 (numT_bd 255 s (by decide)).2.2)
def I52t (h0 : H) (a R D : Nat) (v : AV) (c m : Int) (l0 : List Int) (s0 : RdT) (k : Nat) (tm : T AV) (h : H) : Prop :=
  tm.get 0 = some (.ptr a 0) ∧ tm.get 2 = some (.ptr R 0) ∧ tm.get 3 = some (.ptr D 0) ∧ tm.get 4 = some (.int .i64 m) ∧ tm.get 5 = some v ∧
    ∃ (q : Nat) (l : List Int) (s : RdT), q + k = 6 ∧ l.length = 6 ∧ s.1.size ≤ s0.1.size ∧ tm.get 6 = some (.int .i64 (q : Int)) ∧ h.t.get a = some (tpA s) ∧ h.t.get D = some (rowL (opL c l) 45) ∧ h.next = h0.next ∧ (∀ b, b ≠ a → b ≠ D → h.t.get b = h0.t.get b) ∧ fT m 6 0 l0 s0 = fT m k q l s
theorem step52t (P : Program) {call : CallE} (h51 : F51 call) {h0 : H} {a R D : Nat} {v : AV} {c m : Int} {l0 : List Int} {s0 : RdT} (haD : a ≠ D) (hv : RdL none 1 h0 v (ptrs D)) (hvk : ∀ b, own v = some b → b ≠ a ∧ b ≠ D) (hs : s0.1.size ≤ 9223372036854775807) (hm : 0 ≤ m ∧ m ≤ 63) (k : Nat) (tm : T AV) (h : H) (hI : I52t h0 a R D v c m l0 s0 k tm h) :
    WC P call c52_l9 (loopQ 0 (fun tm h => ∃ i, i < k ∧ I52t h0 a R D v c m l0 s0 i tm h) (fun tm h => tm.get 2 = some (.ptr R 0) ∧ tm.get 3 = some (.ptr D 0) ∧ h.t.get a = some (tpA (fT m 6 0 l0 s0).2) ∧ h.t.get D = some (rowL (opL c (fT m 6 0 l0 s0).1) 45) ∧ h.next = h0.next ∧ (∀ b, b ≠ a → b ≠ D → h.t.get b = h0.t.get b)) (fun _ _ => False)) tm h := by
  obtain ⟨t0, t2, t3, t4, t5, q, l, s, hq, hl, hss, t6, ga, gD, hn, hold, hf⟩ := hI
  have vl := hv.lenA
  have e4 : ((ptrs D).length : Int) = 6 := rfl
  rw [e4] at vl
  cases k with
  | zero =>
    have hq6 : q = 6 := by omega
    subst hq6
    have e1 : ¬ ((6 : Nat) : Int) < 6 := by omega
    simp only [go_sem, ↓reduceIte, ↓reduceDIte, zA, zM, zL, zE, zD, yA, yE, yL, yQ, yT, reduceCtorEq, c52_l9, t5, t6, vl, e1, t2, t3]
    rw [hf]
    exact ⟨ga, gD, hn, hold⟩
  | succ k =>
    have e1 : (q : Int) < 6 := by omega
    have hv2 := hv.keep (h' := h) fun b hb => hold b (hvk b hb).1 (hvk b hb).2
    rcases hv2 with ⟨_, hh⟩ | ⟨b, o, cap, rfl, _, ra⟩
    · cases hh
    have ha := ra q _ (ptrs_get D q (by omega))
    rw [rLdA, Nat.mul_one] at ha
    have f1 : fw .i64 ((q : Int) + 1) = (q : Int) + 1 := fwI (by omega) (by omega)
    have f2 : fw .u64 (q : Int) = (q : Int) := fwU (by omega) (by omega)
    have e3 : ((q + 1 : Nat) : Int) = (q : Int) + 1 := rfl
    have e5 : (q : Int) < ((6 : Nat) : Int) := e1
    have e6 : ¬ (q : Int) < 0 := by omega
    have t5' := t5
    have e4n : (ptrs D).length = 6 := rfl
    rw [e4n] at t5' vl
    have k7 : min q 64 = q := by omega
    by_cases hb : bitD m q
    · have hb2 : (m.fdiv (2 ^ q)).tmod 2 = 1 := hb
      obtain ⟨nb1, nb2⟩ := hvk b rfl
      simp only [go_sem, ↓reduceIte, ↓reduceDIte, zA, zM, zL, zE, zD, yA, yE, yL, yQ, yT, reduceCtorEq, c52_l9, t0, t4, t5', t6, vl, e1, e5, e6, f2, Nat.mul_one, ha, k7, hb2, Int.toNat_natCast]
      refine opt_some (h51 h a s mxU ga (by omega) (by decide) (by decide)) ?_
      have hle := (numT_bd mxU s (by decide)).2.2
      have hDa : ¬ D = a := fun e => haD e.symm
      have hlen : (opL c l).length = 7 := by unfold opL; rw [List.length_cons, List.length_map, hl]
      have hq1 : q + 1 < 7 := by omega
      have hq2 : q + 1 + 1 ≤ 7 := by omega
      have hset : ∀ x, putList (q + 1) [AV.int .u64 x] (putList 0 (opL c l) T.e) = putList 0 (opL c (l.set q x)) T.e := fun x => by
        rw [rowPut1 _ _ _ (by omega)]
        unfold opL
        rw [List.set_cons_succ, List.map_set]
      have hn2 : fT m (k + 1) q l s = fT m k (q + 1) (l.set q (numT mxU s).1) (numT mxU s).2 := by rw [fT, if_pos hb]
      rw [hn2] at hf
      simp only [go_sem, ↓reduceIte, ↓reduceDIte, zA, zM, zL, zE, zD, yA, yE, yL, yQ, yT, reduceCtorEq, t6, f1, hDa, gD, hlen, hset, hq1, hq2, nb1, ha]
      refine ⟨k, Nat.lt_succ_self k, by simp [go_sem, t0], by simp [go_sem, t2], by simp [go_sem, t3], by simp [go_sem, t4], by simp [go_sem, t5], q + 1, l.set q (numT mxU s).1, (numT mxU s).2, by omega, by rw [List.length_set]; exact hl, by omega, by simp [go_sem, e3], ?_, ?_, ?_, ?_, hf⟩
      · simp only [go_sem, ↓reduceIte, ↓reduceDIte, zA, zM, zL, zE, zD, yA, yE, yL, yQ, yT, reduceCtorEq, haD]
      · have hl2 : (opL c (l.set q (numT mxU s).1)).length = 7 := by unfold opL; rw [List.length_cons, List.length_map, List.length_set, hl]
        simp only [go_sem, ↓reduceIte, ↓reduceDIte, zA, zM, zL, zE, zD, yA, yE, yL, yQ, yT, reduceCtorEq]
        rw [rowL, hl2]
      · exact hn
      · intro b' h1 h2
        rw [← hold b' h1 h2]
        simp only [go_sem, ↓reduceIte, ↓reduceDIte, zA, zM, zL, zE, zD, yA, yE, yL, yQ, yT, reduceCtorEq, h1, h2]
    · have hb2 : ¬ (m.fdiv (2 ^ q)).tmod 2 = 1 := hb
      simp only [go_sem, ↓reduceIte, ↓reduceDIte, zA, zM, zL, zE, zD, yA, yE, yL, yQ, yT, reduceCtorEq, c52_l9, t0, t4, t5', t6, vl, e1, e5, e6, f2, Nat.mul_one, ha, k7, hb2, f1, Int.toNat_natCast]
      have hn2 : fT m (k + 1) q l s = fT m k (q + 1) l s := by rw [fT, if_neg hb]
      rw [hn2] at hf
      exact ⟨k, Nat.lt_succ_self k, by simp [go_sem, t0], by simp [go_sem, t2], by simp [go_sem, t3], by simp [go_sem, t4], by simp [go_sem, t5], q + 1, l, s, by omega, hl, hss, by simp [go_sem, e3], ga, gD, hn, hold, hf⟩
structure Post52 (a : Nat) (s : RdT) (h : H) (v : AV) (h' : H) : Prop where
  val : v = .agg (opC (opT s).1)
  ga : h'.t.get a = some (tpA (opT s).2)
  next : h.next ≤ h'.next
  old : ∀ b, b < h.next → b ≠ a → h'.t.get b = h.t.get b
set_option maxRecDepth 4000 in
theorem w52 (P : Program) {call : CallE} (h51 : F51 call) (h50 : F50 call) {h : H} {a : Nat} {s : RdT} (ga : h.t.get a = some (tpA s)) (han : a < h.next) (hs : s.1.size ≤ 9223372036854775807) : WF P call c52 [.ptr a 0] h (Post52 a s h) := by
  have n1 : ¬ a = h.next := by omega
  have n2 : ¬ a = h.next + 1 := by omega
  have n3 : ¬ a = h.next + 2 := by omega
  simp only [go_sem, ↓reduceIte, ↓reduceDIte, zA, zM, zL, zE, zD, yA, yE, yL, yQ, yT, reduceCtorEq, c52]
  refine opt50 h50 (s := s) (by simp [go_sem, n1, ga]) hs (by decide) (by decide) fun v1 s1 q1 l1 u1 z1 r1 => ?_
  have fb : fw .u8 v1 = v1 := fwB (by omega) (by omega)
  simp only [go_sem, ↓reduceIte, ↓reduceDIte, zA, zM, zL, zE, zD, yA, yE, yL, yQ, yT, reduceCtorEq, fb, n1]
  refine opt50 h50 (s := s1) (by simp [go_sem, n1, n2]) r1 (by decide) (by decide) fun v2 s2 q2 l2 u2 z2 r2 => ?_
  simp only [go_sem, ↓reduceIte, ↓reduceDIte, zA, zM, zL, zE, zD, yA, yE, yL, yQ, yT, reduceCtorEq]
  have m1 : ¬ h.next + 1 = a := by omega
  have m0 : ¬ h.next = a := by omega
  have hop : opT s = (mkOp v1 (fT v2 6 0 [0, 0, 0, 0, 0, 0] s2).1, (fT v2 6 0 [0, 0, 0, 0, 0, 0] s2).2) := by unfold opT; rw [q1]; dsimp only; rw [q2]
  obtain ⟨HB, hHB⟩ : ∃ HB : H, HB = ⟨h.next + 3, ((((h.t.set h.next (.row (putList 0 [.int .u8 0, .int .u64 0, .int .u64 0, .int .u64 0, .int .u64 0, .int .u64 0, .int .u64 0] T.e) 7 45)).set a (tpA s1)).set (h.next + 1) (.row (putList 0 [.int .u8 v1, .int .u64 0, .int .u64 0, .int .u64 0, .int .u64 0, .int .u64 0, .int .u64 0] T.e) 7 45)).set a (tpA s2)).set (h.next + 2) (.row (putList 0 [.ptr (h.next + 1) 1, .ptr (h.next + 1) 2, .ptr (h.next + 1) 3, .ptr (h.next + 1) 4, .ptr (h.next + 1) 5, .ptr (h.next + 1) 6] T.e) 6 59)⟩ := ⟨_, rfl⟩
  rw [← hHB]
  have gaB : HB.t.get a = some (tpA s2) := by rw [hHB]; simp only [go_sem, ↓reduceIte, ↓reduceDIte, zA, zM, zL, zE, zD, yA, yE, yL, yQ, yT, reduceCtorEq, n3]
  have gDB : HB.t.get (h.next + 1) = some (rowL (opL v1 [0, 0, 0, 0, 0, 0]) 45) := by rw [hHB]; simp only [go_sem, ↓reduceIte, ↓reduceDIte, zA, zM, zL, zE, zD, yA, yE, yL, yQ, yT, reduceCtorEq, m1]; rfl
  have gRB : HB.t.get h.next = some (rowL [.int .u8 0, .int .u64 0, .int .u64 0, .int .u64 0, .int .u64 0, .int .u64 0, .int .u64 0] 45) := by rw [hHB]; simp only [go_sem, ↓reduceIte, ↓reduceDIte, zA, zM, zL, zE, zD, yA, yE, yL, yQ, yT, reduceCtorEq, m0]; rfl
  have oldB : ∀ b, b < h.next → b ≠ a → HB.t.get b = h.t.get b := fun b h1 h2 => by
    rw [hHB]
    have e0 : ¬ b = h.next := by omega
    have e2 : ¬ b = h.next + 1 := by omega
    have e3 : ¬ b = h.next + 2 := by omega
    simp only [go_sem, ↓reduceIte, ↓reduceDIte, zA, zM, zL, zE, zD, yA, yE, yL, yQ, yT, reduceCtorEq, e0, e2, e3, h2]
  have nxB : HB.next = h.next + 3 := by rw [hHB]
  have rdB : RdL none 1 HB (.sl (h.next + 2) 0 6 1 (some 6)) (ptrs (h.next + 1)) := .inr ⟨h.next + 2, 0, some 6, rfl, by show 6 ≤ _; decide, fun i y hi => by
    rw [rLdA, Nat.mul_one, Nat.zero_add, hHB]
    simp only [go_sem, ↓reduceIte, ↓reduceDIte, zA, zM, zL, zE, zD, yA, yE, yL, yQ, yT, reduceCtorEq]
    exact hi⟩
  clear hHB
  refine loop_in (I52t HB a h.next (h.next + 1) (.sl (h.next + 2) 0 6 1 (some 6)) v1 v2 [0, 0, 0, 0, 0, 0] s2) _ _ (fun k tm h' hI => step52t P h51 (by omega) rdB (fun b hb => by simp only [own, Option.some.injEq] at hb; omega) r2 (by omega) k tm h' hI) (fun tm5 h5 hR => ?_) (fun _ _ hh => hh.elim) 6 _ _
    ⟨by simp [go_sem], by simp [go_sem], by simp [go_sem], by simp [go_sem], by simp [go_sem], 0, [0, 0, 0, 0, 0, 0], s2, rfl, rfl, Nat.le_refl _, by simp [go_sem], gaB, gDB, rfl, fun _ _ _ => rfl, rfl⟩
  obtain ⟨u2, u3, ga5, gD5, nx5, old5⟩ := hR
  have fl5 : (fT v2 6 0 [0, 0, 0, 0, 0, 0] s2).1.length = 6 := by rw [fT_len]; rfl
  rw [opL_C _ _ fl5] at gD5
  have gR5 := (old5 h.next (by omega) (by omega)).trans gRB
  simp only [go_sem, ↓reduceIte, ↓reduceDIte, zA, zM, zL, zE, zD, yA, yE, yL, yQ, yT, reduceCtorEq, u2, u3, gD5, gR5]
  rw [nx5, nxB]
  refine ⟨by rw [hop], ?_, by show h.next ≤ h.next + 3; omega, fun b h1 h2 => ?_⟩
  · simp only [go_sem, ↓reduceIte, ↓reduceDIte, zA, zM, zL, zE, zD, yA, yE, yL, yQ, yT, reduceCtorEq, n1]
    rw [ga5, hop]
  · have e0 : ¬ b = h.next := by omega
    simp only [go_sem, ↓reduceIte, ↓reduceDIte, zA, zM, zL, zE, zD, yA, yE, yL, yQ, yT, reduceCtorEq, e0]
    rw [old5 b h2 (by omega)]
    exact oldB b h1 h2
end
end Go.Proofs.Ytnmlfhogolonoaa
