/-
  A program that is read: the outer loop.
-/
import Derived.Test.YtnmlfhogolonoaaSoZ
set_option linter.unusedVariables false
set_option linter.unusedSimpArgs false
namespace Go.Proofs.Ytnmlfhogolonoaa
open Go.Proofs.Ytnmlfhogolonoaa.Eo
open Nat renaming reduceAdd → zA, reduceMul → zM, reduceLT → zL, reduceEqDiff → zE, reduceLeDiff → zD
open Int renaming reduceAdd → yA, reduceLE → yE, reduceLT → yL, reduceEq → yQ, reduceToNat → yT
noncomputable section
def mkOp (k : Int) (l : List Int) : OpT := (k, l.getD 0 0, l.getD 1 0, l.getD 2 0, l.getD 3 0, l.getD 4 0, l.getD 5 0)
theorem opL_C (k : Int) : ∀ l : List Int, l.length = 6 → opL k l = opC (mkOp k l)
  | [a, b, c, d, e, f], _ => rfl
/-- an operation that is decoded -/
def opD (s : RdT) : OpT × RdT :=
  (mkOp (cntR 255 s).1 (fD (cntR 63 (cntR 255 s).2).1 6 0 [0, 0, 0, 0, 0, 0] (cntR 63 (cntR 255 s).2).2).1, (fD (cntR 63 (cntR 255 s).2).1 6 0 [0, 0, 0, 0, 0, 0] (cntR 63 (cntR 255 s).2).2).2)
def progD : Nat → RdT → List OpT × RdT
  | 0, s => ([], s)
  | n + 1, s => ((opD s).1 :: (progD n (opD s).2).1, (progD n (opD s).2).2)
def I67o (h0 : H) (a : Nat) (n : Nat) (s0 : RdT) (k : Nat) (tm : T AV) (h : H) : Prop :=
  tm.get 0 = some (.ptr a 0) ∧ tm.get 9 = some (.int .i64 (n : Int)) ∧ ∃ (q : Nat) (w : AV) (dn : List OpT) (s : RdT), q + k = n ∧ dn.length = q ∧ tm.get 10 = some (.int .i64 (q : Int)) ∧ tm.get 3 = some w ∧ s.1.size ≤ s0.1.size ∧ h.t.get a = some (rdA s) ∧ h0.next ≤ h.next ∧ (∀ b, b < h0.next → b ≠ a → h.t.get b = h0.t.get b) ∧
    Own 7 45 h w dn.length (dn.flatMap opC) ∧ (∀ b, own w = some b → h0.next ≤ b) ∧ progD n s0 = (dn ++ (progD k s).1, (progD k s).2)
set_option maxRecDepth 4000 in
theorem step67o (P : Program) {call : CallE} (h66 : F66 call) (h65 : F65 call) (h30 : F30 call) {h0 : H} {a n : Nat} {s0 : RdT} (han : a < h0.next) (hn : n ≤ 256) (hs : s0.1.size ≤ 9223372036854775807) (k : Nat) (tm : T AV) (h : H) (hI : I67o h0 a n s0 k tm h) :
    WC P call c67_l16 (loopQ 0 (fun tm h => ∃ i, i < k ∧ I67o h0 a n s0 i tm h) (fun tm h => ∃ w, tm.get 3 = some w ∧ h.t.get a = some (rdA (progD n s0).2) ∧ h0.next ≤ h.next ∧ (∀ b, b < h0.next → b ≠ a → h.t.get b = h0.t.get b) ∧ Own 7 45 h w (progD n s0).1.length ((progD n s0).1.flatMap opC) ∧ (∀ b, own w = some b → h0.next ≤ b)) (fun _ _ => False)) tm h := by
  obtain ⟨t0, t9, q, w, dn, s, hq, hdl, t10, t3, hss, ga, hnx, hold, ow, hw, hpr⟩ := hI
  cases k with
  | zero =>
    have e1 : ¬ (q : Int) < (n : Int) := by omega
    simp only [go_sem, ↓reduceIte, ↓reduceDIte, zA, zM, zL, zE, zD, yA, yE, yL, yQ, yT, reduceCtorEq, c67_l16, t9, t10, e1, t3]
    rw [hpr]
    simp only [progD, List.append_nil]
    exact ⟨w, rfl, ga, hnx, hold, ow, hw⟩
  | succ k =>
    have e1 : (q : Int) < (n : Int) := by omega
    have haD : ¬ a = h.next := by omega
    have hDa : ¬ h.next = a := by omega
    simp only [go_sem, ↓reduceIte, ↓reduceDIte, zA, zM, zL, zE, zD, yA, yE, yL, yQ, yT, reduceCtorEq, c67_l16, t0, t9, t10, e1]
    refine opt_some (h65 _ a s 255 (by simp [go_sem, haD, ga]) (by omega) (by decide) (by decide)) ?_
    obtain ⟨b1, b2⟩ := cntR_bd 255 s (by decide)
    have c1 := cntR_le 255 s
    have fb : fw .u8 (cntR 255 s).1 = (cntR 255 s).1 := fwB (by omega) (by omega)
    simp only [go_sem, ↓reduceIte, ↓reduceDIte, zA, zM, zL, zE, zD, yA, yE, yL, yQ, yT, reduceCtorEq, fb, hDa, t0]
    refine opt_some (h65 _ a (cntR 255 s).2 63 (by simp [go_sem, haD]) (by omega) (by decide) (by decide)) ?_
    obtain ⟨b3, b4⟩ := cntR_bd 63 (cntR 255 s).2 (by decide)
    have c2 := cntR_le 63 (cntR 255 s).2
    simp only [go_sem, ↓reduceIte, ↓reduceDIte, zA, zM, zL, zE, zD, yA, yE, yL, yQ, yT, reduceCtorEq]
    obtain ⟨HB, hHB⟩ : ∃ HB : H, HB = ⟨h.next + 1, (((h.t.set h.next (.row (putList 0 [.int .u8 0, .int .u64 0, .int .u64 0, .int .u64 0, .int .u64 0, .int .u64 0, .int .u64 0] T.e) 7 45)).set a (rdA (cntR 255 s).2)).set h.next (.row (putList 0 [.int .u8 (cntR 255 s).1, .int .u64 0, .int .u64 0, .int .u64 0, .int .u64 0, .int .u64 0, .int .u64 0] T.e) 7 45)).set a (rdA (cntR 63 (cntR 255 s).2).2)⟩ := ⟨_, rfl⟩
    rw [← hHB]
    have gaB : HB.t.get a = some (rdA (cntR 63 (cntR 255 s).2).2) := by rw [hHB]; simp only [go_sem, ↓reduceIte, ↓reduceDIte, zA, zM, zL, zE, zD, yA, yE, yL, yQ, yT, reduceCtorEq]
    have gDB : HB.t.get h.next = some (rowL (opL (cntR 255 s).1 [0, 0, 0, 0, 0, 0]) 45) := by rw [hHB]; simp only [go_sem, ↓reduceIte, ↓reduceDIte, zA, zM, zL, zE, zD, yA, yE, yL, yQ, yT, reduceCtorEq, hDa]; rfl
    have oldB : ∀ b, b ≠ a → b ≠ h.next → HB.t.get b = h.t.get b := fun b h1 h2 => by rw [hHB]; simp only [go_sem, ↓reduceIte, ↓reduceDIte, zA, zM, zL, zE, zD, yA, yE, yL, yQ, yT, reduceCtorEq, h1, h2]
    have nxB : HB.next = h.next + 1 := by rw [hHB]
    clear hHB
    refine opt_by (h30 HB h.next) fun v2 h2 p2 => ?_
    obtain ⟨st2, rd2, ow2⟩ := p2
    have vl2 : lenA v2 = some (.int .i64 6) := rd2.lenA
    have on2 := rd2.one
    have haB : a < HB.next := by omega
    have hDB : h.next < HB.next := by omega
    have nx2 := st2.next
    simp only [go_sem, ↓reduceIte, ↓reduceDIte, zA, zM, zL, zE, zD, yA, yE, yL, yQ, yT, reduceCtorEq, vl2, on2]
    refine loop_in (I67 h2 a h.next v2 w (cntR 255 s).1 (cntR 63 (cntR 255 s).2).1 (q : Int) (n : Int) [0, 0, 0, 0, 0, 0] (cntR 63 (cntR 255 s).2).2) _ _ (fun k tm h' hI => step67 P h66 haD rd2 (fun b hb => by have := ow2 b hb; omega) (by omega) (by omega) k tm h' hI) (fun tm5 h5 hR => ?_) (fun _ _ hh => hh.elim) 6 _ _
      ⟨by simp [go_sem, t0], by simp [go_sem, t3], by simp [go_sem], by simp [go_sem], by simp [go_sem, t9], by simp [go_sem, t10], by simp [go_sem], by simp [go_sem], 0, [0, 0, 0, 0, 0, 0], (cntR 63 (cntR 255 s).2).2, rfl, rfl, Nat.le_refl _, by simp [go_sem], (st2.old a haB).trans gaB, (st2.old h.next hDB).trans gDB, rfl, fun _ _ _ => rfl, rfl⟩
    obtain ⟨u0, u3, u4, u9, u10, ga5, gD5, nx5, old5, fl5, fs5⟩ := hR
    have oldT : ∀ b, b < h.next → b ≠ a → h5.t.get b = h.t.get b := fun b h1 h2 => (old5 b h2 (by omega)).trans ((st2.old b (by omega)).trans (oldB b h2 (by omega)))
    have hopD : opD s = (mkOp (cntR 255 s).1 (fD (cntR 63 (cntR 255 s).2).1 6 0 [0, 0, 0, 0, 0, 0] (cntR 63 (cntR 255 s).2).2).1, (fD (cntR 63 (cntR 255 s).2).1 6 0 [0, 0, 0, 0, 0, 0] (cntR 63 (cntR 255 s).2).2).2) := rfl
    rw [opL_C _ _ fl5] at gD5
    generalize mkOp (cntR 255 s).1 (fD (cntR 63 (cntR 255 s).2).1 6 0 [0, 0, 0, 0, 0, 0] (cntR 63 (cntR 255 s).2).2).1 = x at hopD gD5
    generalize (fD (cntR 63 (cntR 255 s).2).1 6 0 [0, 0, 0, 0, 0, 0] (cntR 63 (cntR 255 s).2).2).2 = s5 at hopD ga5 fs5
    have ow5 := ow.keep (h' := h5) (by omega) (fun b hb => oldT b (ow.lt hb) (by have := hw b hb; omega))
    have ov1 := ow5.keep (h' := ⟨h5.next + 1, h5.t.set h5.next (.row (putList 0 (opC x) T.e) 7 45)⟩) (Nat.le_succ _) (fun b hb => by
      have := ow5.lt hb
      have e0 : ¬ b = h5.next := by omega
      simp only [go_sem, ↓reduceIte, ↓reduceDIte, zA, zM, zL, zE, zD, yA, yE, yL, yQ, yT, reduceCtorEq, e0])
    simp only [go_sem, ↓reduceIte, ↓reduceDIte, zA, zM, zL, zE, zD, yA, yE, yL, yQ, yT, reduceCtorEq, u3, u4, gD5]
    refine opt_some (appA_own (src := opC x) (n := 1) ov1 (by decide) (by decide) (by omega) (by omega)) ?_
    have ov2 := own_app (src := opC x) ov1 (n := 1) (by decide) rfl
    simp only [go_sem, ↓reduceIte, ↓reduceDIte, zA, zM, zL, zE, zD, yA, yE, yL, yQ, yT, reduceCtorEq, u10]
    have f1 : fw .i64 ((q : Int) + 1) = (q : Int) + 1 := fwI (by omega) (by omega)
    have e3 : ((q + 1 : Nat) : Int) = (q : Int) + 1 := rfl
    have hwa : own w ≠ some a := fun hh => by have := hw a hh; omega
    have gq : ∀ b, b < h.next → own w ≠ some b → (appT ⟨h5.next + 1, h5.t.set h5.next (.row (putList 0 (opC x) T.e) 7 45)⟩ 45 w (dn.flatMap opC ++ opC x)).t.get b = h5.t.get b := fun b h1 h2 => by
      rw [app_get (by show b < h5.next + 1; omega) h2]
      have e0 : ¬ b = h5.next := by omega
      simp only [go_sem, ↓reduceIte, ↓reduceDIte, zA, zM, zL, zE, zD, yA, yE, yL, yQ, yT, reduceCtorEq, e0]
    refine ⟨k, Nat.lt_succ_self k, by simp [go_sem, u0], by simp [go_sem, u9], q + 1, appV ⟨h5.next + 1, h5.t.set h5.next (.row (putList 0 (opC x) T.e) 7 45)⟩ 7 (dn.length + 1), dn ++ [x], s5, by omega, by rw [List.length_append, hdl]; rfl, by simp [go_sem, f1, e3], by simp [go_sem], by omega, (gq a (by omega) hwa).trans ga5, ?_, ?_, ?_, ?_, ?_⟩
    · rw [app_next]; show h0.next ≤ h5.next + 1 + 1; omega
    · intro b h1 h2
      rw [gq b (by omega) (fun hh => by have := hw b hh; omega), oldT b (by omega) h2, hold b h1 h2]
    · rw [List.length_append, List.flatMap_append]
      have e7 : [x].flatMap opC = opC x := by simp
      rw [e7]
      exact ov2
    · intro b hb
      rw [own_appV] at hb
      simp only [Option.some.injEq] at hb
      omega
    · rw [hpr]
      show (dn ++ ((opD s).1 :: (progD k (opD s).2).1), (progD k (opD s).2).2) = _
      rw [hopD]
      simp
/-- a program that is decoded -/
def prD (s : RdT) : List OpT × RdT := progD (cntR 256 s).1.toNat (cntR 256 s).2
structure Post67 (a : Nat) (s : RdT) (h : H) (v : AV) (h' : H) : Prop where
  ga : h'.t.get a = some (rdA (prD s).2)
  next : h.next ≤ h'.next
  old : ∀ b, b < h.next → b ≠ a → h'.t.get b = h.t.get b
  ow : Own 7 45 h' v (prD s).1.length ((prD s).1.flatMap opC)
  own : ∀ b, own v = some b → h.next ≤ b
theorem w67 (P : Program) {call : CallE} (h66 : F66 call) (h65 : F65 call) (h30 : F30 call) {h : H} {a : Nat} {s : RdT} (ga : h.t.get a = some (rdA s)) (han : a < h.next) (hs : s.1.size ≤ 9223372036854775807) : WF P call c67 [.ptr a 0] h (Post67 a s h) := by
  simp only [go_sem, ↓reduceIte, ↓reduceDIte, zA, zM, zL, zE, zD, yA, yE, yL, yQ, yT, reduceCtorEq, c67]
  refine opt_some (h65 h a s 256 ga hs (by decide) (by decide)) ?_
  obtain ⟨b1, b2⟩ := cntR_bd 256 s (by decide)
  have c1 := cntR_le 256 s
  obtain ⟨n, hn⟩ : ∃ n : Nat, (cntR 256 s).1 = (n : Int) := ⟨(cntR 256 s).1.toNat, by omega⟩
  have hpr : prD s = progD n (cntR 256 s).2 := by unfold prD; rw [hn]; rfl
  simp only [go_sem, ↓reduceIte, ↓reduceDIte, zA, zM, zL, zE, zD, yA, yE, yL, yQ, yT, reduceCtorEq, hn]
  refine loop_in (I67o ⟨h.next, h.t.set a (rdA (cntR 256 s).2)⟩ a n (cntR 256 s).2) _ _ (fun k tm h' hI => step67o (h0 := ⟨h.next, h.t.set a (rdA (cntR 256 s).2)⟩) P h66 h65 h30 han (by omega) (by omega) k tm h' hI) (fun tm2 h2 hR => ?_) (fun _ _ hh => hh.elim) n _ _
    ⟨by simp [go_sem], by simp [go_sem], 0, .nils, [], (cntR 256 s).2, by omega, rfl, by simp [go_sem], by simp [go_sem], Nat.le_refl _, by simp [go_sem], Nat.le_refl _, fun _ _ _ => rfl, .nil, by intro b hb; simp [own] at hb, rfl⟩
  obtain ⟨w, t3, g1, g2, g3, g4, g5⟩ := hR
  simp only [go_sem, ↓reduceIte, ↓reduceDIte, zA, zM, zL, zE, zD, yA, yE, yL, yQ, yT, reduceCtorEq, t3]
  refine ⟨by rw [hpr]; exact g1, g2, fun b h1 h2 => ?_, by rw [hpr]; exact g4, g5⟩
  rw [g3 b h1 h2]
  simp only [go_sem, ↓reduceIte, ↓reduceDIte, zA, zM, zL, zE, zD, yA, yE, yL, yQ, yT, reduceCtorEq, h2]
end
end Go.Proofs.Ytnmlfhogolonoaa
