/-
  A script is read: the reference.
-/
import Derived.Test.YtnmlfhogolonoaaSoE
set_option linter.unusedVariables false
set_option linter.unusedSimpArgs false
namespace Go.Proofs.Ytnmlfhogolonoaa
open Go.Proofs.Ytnmlfhogolonoaa.Eo
noncomputable section
/-- the part of the code behind the configuration -/
def c19_tail : CC := .seq (.seq (.ops c19_s27) (.block 2 (.loop c19_l38))) (.seq (.block 6 (.loop c19_l41)) (.seq (.ops c19_s42) .ret))
theorem c19_cut : c19 = ⟨1, (.seq (.ops c19_s0) (.seq (.ops c19_s1) (.seq (.ops c19_s2) (.seq (.ops c19_s3) (.seq (.ops c19_s4) (.seq (.ops c19_s5) (.seq (.ops c19_s6) (.seq (.seq (.ops c19_s7) (.cond (.t 40) (.ops c19_s8) .skip)) (.seq (.ops c19_s9) (.seq (.ops c19_s10) (.seq (.ops c19_s11) (.seq (.drw ⟨c19_p12, [(0, 64), (1, 65), (2, 66), (3, 67), (4, 68), (5, 69)], []⟩) (.seq (.drw ⟨c19_p13, [(0, 70), (1, 71), (2, 72), (3, 73), (4, 74), (5, 75)], []⟩) (.seq (.drw ⟨c19_p14, [(0, 76), (1, 77), (2, 78), (3, 79), (4, 80), (5, 81)], []⟩) (.seq (.ops c19_s15) (.seq (.seq (.ops c19_s16) (.cond (.t 95) (.ops c19_s17) .skip)) (.seq (.seq (.ops c19_s18) (.cond (.t 108) (.seq (.ops c19_s19) (.seq (.ops c19_s20) (.seq (.ops c19_s21) (.block 0 (.loop c19_l26))))) .skip)) c19_tail))))))))))))))))), [.cell 2 (some 18)]⟩ := rfl
set_option maxRecDepth 4000 in
theorem tail19 (P : Program) {call : CallE} (h42 : Has call 42 takeK)
    (h43 : ∀ h B t r, h.t.get B = some (rowL [.str r] t) → B < h.next → r.size ≤ 9223372036854775807 → ∃ v h', call 43 [.ptr B 0] h = some (v, h') ∧ Post41 B t r h v h')
    {s : ByteArray} (hs : s.size ≤ 9223372036854775807) {h0 h : H} {tm : T AV} {c : CfgT} {cv : AV} {r : ByteArray} (hc : cfgS s = (c, r)) {lo : Nat}
    (t2 : tm.get 2 = some (.ptr h0.next 0)) (t3 : tm.get 3 = some (.ptr (h0.next + 1) 0)) (t4 : tm.get 4 = some (.ptr (h0.next + 2) 0)) (t5 : tm.get 5 = some (.ptr (h0.next + 2) 0))
    (rd : RdS 77 h0.next h0.t.get h0.next (h0.next + 1) (h0.next + 2) lo h.next c cv .nils .nils r [] h) :
    WC P call c19_tail (endW [.cell 2 (some 18)] (Post18 s h0)) tm h := by
  have ho := cfgS_ok s
  have hsz := cfgS_size hs
  rw [hc] at ho hsz
  obtain ⟨m, hm, hm1, hm2⟩ := ho
  simp only [] at hm hsz
  have one := rd.oc.one
  simp only [go_sem, ↓reduceIte, ↓reduceDIte, Nat.reduceAdd, Nat.reduceMul, Nat.reduceLT, Nat.reduceEqDiff, Nat.reduceLeDiff, Int.reduceAdd, Int.reduceLE, Int.reduceLT, Int.reduceEq, Int.reduceToNat, reduceCtorEq, c19_tail, c19_s27, c19_s42]
  refine loop_in (I13r h0.next h0.t.get h0.next (h0.next + 1) (h0.next + 2) lo c cv m r) (R13r h0.next h0.t.get h0.next (h0.next + 1) (h0.next + 2) lo c cv m r) (fun _ _ => False) (fun k tm h hI => step13r P h42 h43 (by omega) hm k tm h hI) (fun tm2 h2 hR => ?_) (fun _ _ hh => hh.elim) m _ _
    ⟨0, r, [], .nils, by omega, ⟨?_, ?_, ?_, ?_, ?_⟩, rd, hsz, rfl, by simp⟩
  · obtain ⟨pv, ⟨t2, t3, t4, t5, t9⟩, rd2, hr2⟩ := hR
    simp only [go_sem, ↓reduceIte, ↓reduceDIte, Nat.reduceAdd, Nat.reduceMul, Nat.reduceLT, Nat.reduceEqDiff, Nat.reduceLeDiff, Int.reduceAdd, Int.reduceLE, Int.reduceLT, Int.reduceEq, Int.reduceToNat, reduceCtorEq]
    refine loop_in (I18r h0.next h0.t.get h0.next (h0.next + 1) (h0.next + 2) lo h2.next c cv pv (progsS m r).2 (progsS m r).1) (R18r h0.next h0.t.get h0.next (h0.next + 1) (h0.next + 2) lo h2.next c cv pv (progsS m r).2 (progsS m r).1) (fun _ _ => False) (fun k tm h hI => step18r P h42 hr2 (by omega) (by omega) k tm h hI) (fun tm3 h3 hR => ?_) (fun _ _ hh => hh.elim) (min (progsS m r).2.size 65536) _ _
      ⟨0, m, .nils, by omega, ⟨?_, ?_, ?_, ?_, ?_⟩, rd2, .nil, by intro a ha; simp [own] at ha⟩
    · obtain ⟨kv, r', t2, t4, rd3, ok, okv⟩ := hR
      have hX := rd3.hX
      obtain ⟨zs, hz, hR⟩ := rd3.hR
      obtain ⟨vs, pv1, pv2, pv3⟩ := rd3.pr.ex
      have onev := pv1.one
      have onek := ok.one
      have ord := rd3.ord
      simp only [go_sem, ↓reduceIte, ↓reduceDIte, Nat.reduceAdd, Nat.reduceMul, Nat.reduceLT, Nat.reduceEqDiff, Nat.reduceLeDiff, Int.reduceAdd, Int.reduceLE, Int.reduceLT, Int.reduceEq, Int.reduceToNat, reduceCtorEq, t2, t4, hX, hR, hz, one, onev, onek]
      refine ⟨c, r, (progsS m r).1, (progsS m r).2, cv, pv, kv, hc, by rw [hm]; rfl, rfl, rd3.oc.keep (Nat.le_refl _) (fun b hb => ?_), ?_, ?_, fun b hb => ?_, by show h0.next ≤ h3.next; omega⟩
      · have := rd3.cvlo b hb
        have e1 : ¬ b = h0.next := by omega
        simp only [go_sem, ↓reduceIte, ↓reduceDIte, Nat.reduceAdd, Nat.reduceMul, Nat.reduceLT, Nat.reduceEqDiff, Nat.reduceLeDiff, Int.reduceAdd, Int.reduceLE, Int.reduceLT, Int.reduceEq, Int.reduceToNat, reduceCtorEq, e1]
      · refine ⟨vs, pv1.keep (Nat.le_refl _) (fun b hb => ?_), fun a ha => ⟨by have := (pv2 a ha).1; omega, ?_⟩, fun i v p hv hp => ⟨(pv3 i v p hv hp).1.keep (Nat.le_refl _) (fun b hb => ?_), fun a ha => ⟨by have := ((pv3 i v p hv hp).2 a ha).1; omega, ?_, ((pv3 i v p hv hp).2 a ha).2.2⟩⟩⟩
        · have := pv2 b hb
          have e1 : ¬ b = h0.next := by omega
          simp only [go_sem, ↓reduceIte, ↓reduceDIte, Nat.reduceAdd, Nat.reduceMul, Nat.reduceLT, Nat.reduceEqDiff, Nat.reduceLeDiff, Int.reduceAdd, Int.reduceLE, Int.reduceLT, Int.reduceEq, Int.reduceToNat, reduceCtorEq, e1]
        · show a < h3.next
          have := (pv2 a ha).2
          omega
        · have := (pv3 i v p hv hp).2 b hb
          have e1 : ¬ b = h0.next := by omega
          simp only [go_sem, ↓reduceIte, ↓reduceDIte, Nat.reduceAdd, Nat.reduceMul, Nat.reduceLT, Nat.reduceEqDiff, Nat.reduceLeDiff, Int.reduceAdd, Int.reduceLE, Int.reduceLT, Int.reduceEq, Int.reduceToNat, reduceCtorEq, e1]
        · show a < h3.next
          have := ((pv3 i v p hv hp).2 a ha).2.1
          omega
      · have : (picksS c.threads (progsS m r).2).length = min (progsS m r).2.size 65536 := by simp [picksS]
        rw [this]
        refine ok.keep (Nat.le_refl _) (fun b hb => ?_)
        have := okv b hb
        have e1 : ¬ b = h0.next := by omega
        simp only [go_sem, ↓reduceIte, ↓reduceDIte, Nat.reduceAdd, Nat.reduceMul, Nat.reduceLT, Nat.reduceEqDiff, Nat.reduceLeDiff, Int.reduceAdd, Int.reduceLE, Int.reduceLT, Int.reduceEq, Int.reduceToNat, reduceCtorEq, e1]
      · have e1 : ¬ b = h0.next := by omega
        simp only [go_sem, ↓reduceIte, ↓reduceDIte, Nat.reduceAdd, Nat.reduceMul, Nat.reduceLT, Nat.reduceEqDiff, Nat.reduceLeDiff, Int.reduceAdd, Int.reduceLE, Int.reduceLT, Int.reduceEq, Int.reduceToNat, reduceCtorEq, e1]
        exact rd3.old b hb
    · simp only [go_sem, ↓reduceIte, ↓reduceDIte, Nat.reduceAdd, Nat.reduceMul, Nat.reduceLT, Nat.reduceEqDiff, Nat.reduceLeDiff, Int.reduceAdd, Int.reduceLE, Int.reduceLT, Int.reduceEq, Int.reduceToNat, reduceCtorEq, t2]
    · simp only [go_sem, ↓reduceIte, ↓reduceDIte, Nat.reduceAdd, Nat.reduceMul, Nat.reduceLT, Nat.reduceEqDiff, Nat.reduceLeDiff, Int.reduceAdd, Int.reduceLE, Int.reduceLT, Int.reduceEq, Int.reduceToNat, reduceCtorEq, t3]
    · simp only [go_sem, ↓reduceIte, ↓reduceDIte, Nat.reduceAdd, Nat.reduceMul, Nat.reduceLT, Nat.reduceEqDiff, Nat.reduceLeDiff, Int.reduceAdd, Int.reduceLE, Int.reduceLT, Int.reduceEq, Int.reduceToNat, reduceCtorEq, t4]
    · simp only [go_sem, ↓reduceIte, ↓reduceDIte, Nat.reduceAdd, Nat.reduceMul, Nat.reduceLT, Nat.reduceEqDiff, Nat.reduceLeDiff, Int.reduceAdd, Int.reduceLE, Int.reduceLT, Int.reduceEq, Int.reduceToNat, reduceCtorEq, t5]
    · simp only [go_sem, ↓reduceIte, ↓reduceDIte, Nat.reduceAdd, Nat.reduceMul, Nat.reduceLT, Nat.reduceEqDiff, Nat.reduceLeDiff, Int.reduceAdd, Int.reduceLE, Int.reduceLT, Int.reduceEq, Int.reduceToNat, reduceCtorEq, t9]
  · simp only [go_sem, ↓reduceIte, ↓reduceDIte, Nat.reduceAdd, Nat.reduceMul, Nat.reduceLT, Nat.reduceEqDiff, Nat.reduceLeDiff, Int.reduceAdd, Int.reduceLE, Int.reduceLT, Int.reduceEq, Int.reduceToNat, reduceCtorEq, t2]
  · simp only [go_sem, ↓reduceIte, ↓reduceDIte, Nat.reduceAdd, Nat.reduceMul, Nat.reduceLT, Nat.reduceEqDiff, Nat.reduceLeDiff, Int.reduceAdd, Int.reduceLE, Int.reduceLT, Int.reduceEq, Int.reduceToNat, reduceCtorEq, t3]
  · simp only [go_sem, ↓reduceIte, ↓reduceDIte, Nat.reduceAdd, Nat.reduceMul, Nat.reduceLT, Nat.reduceEqDiff, Nat.reduceLeDiff, Int.reduceAdd, Int.reduceLE, Int.reduceLT, Int.reduceEq, Int.reduceToNat, reduceCtorEq, t4]
  · simp only [go_sem, ↓reduceIte, ↓reduceDIte, Nat.reduceAdd, Nat.reduceMul, Nat.reduceLT, Nat.reduceEqDiff, Nat.reduceLeDiff, Int.reduceAdd, Int.reduceLE, Int.reduceLT, Int.reduceEq, Int.reduceToNat, reduceCtorEq, t5]
  · simp only [go_sem, ↓reduceIte, ↓reduceDIte, Nat.reduceAdd, Nat.reduceMul, Nat.reduceLT, Nat.reduceEqDiff, Nat.reduceLeDiff, Int.reduceAdd, Int.reduceLE, Int.reduceLT, Int.reduceEq, Int.reduceToNat, reduceCtorEq]
set_option maxRecDepth 10000 in
set_option maxHeartbeats 1000000 in
theorem w19_000 (P : Program) {call : CallE} (h42 : Has call 42 takeK)
    (h43 : ∀ h B t r, h.t.get B = some (rowL [.str r] t) → B < h.next → r.size ≤ 9223372036854775807 → ∃ v h', call 43 [.ptr B 0] h = some (v, h') ∧ Post41 B t r h v h')
    {h : H} {r : ByteArray} (hr : r.size ≤ 9223372036854775807) (hg : ¬ vl (nxn 2 r) 3 = 2) (hk : vl (nxn 9 r) 3 = 0) :
    WF P call c19 [.str (nxn 0 r)] h (Post18 r h) := by
  have C42 : ∀ args h, (takeK args h).isSome = true → call 42 args h = takeK args h := fun _ _ hs => h42.eq hs
  have z0 : (nxn 0 r).size ≤ 9223372036854775807 := nxn_le 0 hr
  have e0 : nx (nxn 0 r) = nxn 1 r := nx_nxn 0 r
  obtain ⟨l0, u0⟩ := vl_bound (nxn 0 r) (n := 4) (by decide)
  obtain ⟨x0, hx0⟩ : ∃ x, vl (nxn 0 r) 4 = x := ⟨_, rfl⟩
  rw [hx0] at l0 u0
  have f0 : fw .i64 (1 + x0) = 1 + x0 := fwI (by omega) (by omega)
  have z1 : (nxn 1 r).size ≤ 9223372036854775807 := nxn_le 1 hr
  have e1 : nx (nxn 1 r) = nxn 2 r := nx_nxn 1 r
  obtain ⟨l1, u1⟩ := vl_bound (nxn 1 r) (n := 4) (by decide)
  obtain ⟨x1, hx1⟩ : ∃ x, vl (nxn 1 r) 4 = x := ⟨_, rfl⟩
  rw [hx1] at l1 u1
  have f1 : fw .i64 (1 + x1) = 1 + x1 := fwI (by omega) (by omega)
  have z2 : (nxn 2 r).size ≤ 9223372036854775807 := nxn_le 2 hr
  have e2 : nx (nxn 2 r) = nxn 3 r := nx_nxn 2 r
  obtain ⟨l2, u2⟩ := vl_bound (nxn 2 r) (n := 3) (by decide)
  obtain ⟨x2, hx2⟩ : ∃ x, vl (nxn 2 r) 3 = x := ⟨_, rfl⟩
  rw [hx2] at l2 u2
  have f2 : fw .i64 (1 + x2) = 1 + x2 := fwI (by omega) (by omega)
  have z3 : (nxn 3 r).size ≤ 9223372036854775807 := nxn_le 3 hr
  have e3 : nx (nxn 3 r) = nxn 4 r := nx_nxn 3 r
  obtain ⟨l3, u3⟩ := vl_bound (nxn 3 r) (n := 3) (by decide)
  obtain ⟨x3, hx3⟩ : ∃ x, vl (nxn 3 r) 3 = x := ⟨_, rfl⟩
  rw [hx3] at l3 u3
  have f3 : fw .i64 (1 + x3) = 1 + x3 := fwI (by omega) (by omega)
  have z4 : (nxn 4 r).size ≤ 9223372036854775807 := nxn_le 4 hr
  have e4 : nx (nxn 4 r) = nxn 5 r := nx_nxn 4 r
  obtain ⟨l4, u4⟩ := vl_bound (nxn 4 r) (n := 8) (by decide)
  obtain ⟨x4, hx4⟩ : ∃ x, vl (nxn 4 r) 8 = x := ⟨_, rfl⟩
  rw [hx4] at l4 u4
  have f4 : fw .i64 (1 + x4) = 1 + x4 := fwI (by omega) (by omega)
  have z5 : (nxn 5 r).size ≤ 9223372036854775807 := nxn_le 5 hr
  have e5 : nx (nxn 5 r) = nxn 6 r := nx_nxn 5 r
  obtain ⟨l5, u5⟩ := vl_bound (nxn 5 r) (n := 4) (by decide)
  obtain ⟨x5, hx5⟩ : ∃ x, vl (nxn 5 r) 4 = x := ⟨_, rfl⟩
  rw [hx5] at l5 u5
  have f5 : fw .i64 (1 + x5) = 1 + x5 := fwI (by omega) (by omega)
  have z6 : (nxn 6 r).size ≤ 9223372036854775807 := nxn_le 6 hr
  have e6 : nx (nxn 6 r) = nxn 7 r := nx_nxn 6 r
  obtain ⟨l6, u6⟩ := vl_bound (nxn 6 r) (n := 8) (by decide)
  obtain ⟨x6, hx6⟩ : ∃ x, vl (nxn 6 r) 8 = x := ⟨_, rfl⟩
  rw [hx6] at l6 u6
  have f6 : fw .i64 (1 + x6) = 1 + x6 := fwI (by omega) (by omega)
  have z7 : (nxn 7 r).size ≤ 9223372036854775807 := nxn_le 7 hr
  have e7 : nx (nxn 7 r) = nxn 8 r := nx_nxn 7 r
  obtain ⟨l7, u7⟩ := vl_bound (nxn 7 r) (n := 4) (by decide)
  obtain ⟨x7, hx7⟩ : ∃ x, vl (nxn 7 r) 4 = x := ⟨_, rfl⟩
  rw [hx7] at l7 u7
  have f7 : fw .i64 (1 + x7) = 1 + x7 := fwI (by omega) (by omega)
  have z8 : (nxn 8 r).size ≤ 9223372036854775807 := nxn_le 8 hr
  have e8 : nx (nxn 8 r) = nxn 9 r := nx_nxn 8 r
  obtain ⟨l8, u8⟩ := vl_bound (nxn 8 r) (n := 3) (by decide)
  obtain ⟨x8, hx8⟩ : ∃ x, vl (nxn 8 r) 3 = x := ⟨_, rfl⟩
  rw [hx8] at l8 u8
  have f8 : fw .i64 (1 + x8) = 1 + x8 := fwI (by omega) (by omega)
  have z9 : (nxn 9 r).size ≤ 9223372036854775807 := nxn_le 9 hr
  have e9 : nx (nxn 9 r) = nxn 10 r := nx_nxn 9 r
  obtain ⟨l9, u9⟩ := vl_bound (nxn 9 r) (n := 3) (by decide)
  rw [hx2] at hg
  have ge : ¬ 1 + x2 = 3 := by omega
  have gu : fw .u8 (1 + x2) = 1 + x2 := fwB (by omega) (by omega)
  have li1 : fw .i64 1 = 1 := by decide
  have lu1 : fw .u8 1 = 1 := by decide
  have li2 : fw .i64 2 = 2 := by decide
  have lu2 : fw .u8 2 = 2 := by decide
  have li3 : fw .i64 3 = 3 := by decide
  have lu3 : fw .u8 3 = 3 := by decide
  have hc : cfgS r = (⟨1 + x0, 1 + x1, 1 + x2, 0, 1, 0, [], x6, x7, x8, 0, 0, 0, 1 + x3, 1 + x4, x5⟩, nxn 10 r) := by
    have hx0' : vl r 4 = x0 := hx0
    simp only [cfgS, hg, if_pos, if_true, if_false, ↓reduceIte, cfgS2, nxn_add, Nat.reduceAdd, hk, nx_nxn, Int.reduceAdd, Int.reduceEq, Int.reduceToNat, cutsS, hx0', hx1, hx2, hx3, hx4, hx5, hx6, hx7, hx8]
  rw [c19_cut]
  simp only [go_sem, ↓reduceIte, ↓reduceDIte, Nat.reduceAdd, Nat.reduceMul, Nat.reduceLT, Nat.reduceEqDiff, Nat.reduceLeDiff, Int.reduceAdd, Int.reduceLE, Int.reduceLT, Int.reduceEq, Int.reduceToNat, reduceCtorEq, c19_s0, c19_s1, c19_s2, c19_s3, c19_s4, c19_s5, c19_s6, c19_s7, c19_s8, c19_s9, c19_s10, c19_s11, c19_p12, c19_p13, c19_p14, c19_s15, c19_s16, c19_s17, c19_s18, c19_s19, c19_s20, c19_s21, appA, appNew, C42, takeK, hk, Option.isSome_some, z0, e0, hx0, f0, z1, e1, hx1, f1, z2, e2, hx2, f2, z3, e3, hx3, f3, z4, e4, hx4, f4, z5, e5, hx5, f5, z6, e6, hx6, f6, z7, e7, hx7, f7, z8, e8, hx8, f8, z9, e9, ge, gu, li1, lu1, li2, lu2, li3, lu3]
  refine tail19 (cv := .nils) (lo := h.next + 3) P h42 h43 hr hc ?_ ?_ ?_ ?_ ⟨?_, ?_, ⟨[.int .i64 0, .int .i64 0, .int .u8 0, .int .i64 0, .int .u8 0, .int .i64 0, .nils, .int .i64 0, .int .i64 0, .int .i64 0, .int .i64 0, .int .i64 0, .int .i64 0, .int .i64 0, .int .i64 0, .int .i64 0, .nils, .nils], rfl, ?_⟩, ?_, ?_, ?_, ⟨[], .nil, by intro a ha; simp [own] at ha, by intro i v p hv; simp at hv⟩, fun b hb => ?_⟩
  · simp only [go_sem, ↓reduceIte, ↓reduceDIte, Nat.reduceAdd, Nat.reduceMul, Nat.reduceLT, Nat.reduceEqDiff, Nat.reduceLeDiff, Int.reduceAdd, Int.reduceLE, Int.reduceLT, Int.reduceEq, Int.reduceToNat, reduceCtorEq]
  · simp only [go_sem, ↓reduceIte, ↓reduceDIte, Nat.reduceAdd, Nat.reduceMul, Nat.reduceLT, Nat.reduceEqDiff, Nat.reduceLeDiff, Int.reduceAdd, Int.reduceLE, Int.reduceLT, Int.reduceEq, Int.reduceToNat, reduceCtorEq]
  · simp only [go_sem, ↓reduceIte, ↓reduceDIte, Nat.reduceAdd, Nat.reduceMul, Nat.reduceLT, Nat.reduceEqDiff, Nat.reduceLeDiff, Int.reduceAdd, Int.reduceLE, Int.reduceLT, Int.reduceEq, Int.reduceToNat, reduceCtorEq]
  · simp only [go_sem, ↓reduceIte, ↓reduceDIte, Nat.reduceAdd, Nat.reduceMul, Nat.reduceLT, Nat.reduceEqDiff, Nat.reduceLeDiff, Int.reduceAdd, Int.reduceLE, Int.reduceLT, Int.reduceEq, Int.reduceToNat, reduceCtorEq]
  · refine ⟨?_, ?_, ?_, ?_, ?_, ?_, ?_, ?_, ?_, ?_, ?_⟩ <;> (first | omega | (show h.next + 3 ≤ h.next + 3; omega))
  · simp only [go_sem, ↓reduceIte, ↓reduceDIte, Nat.reduceAdd, Nat.reduceMul, Nat.reduceLT, Nat.reduceEqDiff, Nat.reduceLeDiff, Int.reduceAdd, Int.reduceLE, Int.reduceLT, Int.reduceEq, Int.reduceToNat, reduceCtorEq, rowL]
  · simp only [go_sem, ↓reduceIte, ↓reduceDIte, Nat.reduceAdd, Nat.reduceMul, Nat.reduceLT, Nat.reduceEqDiff, Nat.reduceLeDiff, Int.reduceAdd, Int.reduceLE, Int.reduceLT, Int.reduceEq, Int.reduceToNat, reduceCtorEq]
  · simp only [go_sem, ↓reduceIte, ↓reduceDIte, Nat.reduceAdd, Nat.reduceMul, Nat.reduceLT, Nat.reduceEqDiff, Nat.reduceLeDiff, Int.reduceAdd, Int.reduceLE, Int.reduceLT, Int.reduceEq, Int.reduceToNat, reduceCtorEq, rowL, cfgC]
  · exact .nil
  · intro a ha; simp [own] at ha
  · have o0 : ¬ b = h.next := by omega
    have o1 : ¬ b = h.next + 1 := by omega
    have o2 : ¬ b = h.next + 2 := by omega
    simp only [go_sem, ↓reduceIte, ↓reduceDIte, Nat.reduceAdd, Nat.reduceMul, Nat.reduceLT, Nat.reduceEqDiff, Nat.reduceLeDiff, Int.reduceAdd, Int.reduceLE, Int.reduceLT, Int.reduceEq, Int.reduceToNat, reduceCtorEq, o0, o1, o2]
set_option maxRecDepth 10000 in
set_option maxHeartbeats 1000000 in
theorem w19_010 (P : Program) {call : CallE} (h42 : Has call 42 takeK)
    (h43 : ∀ h B t r, h.t.get B = some (rowL [.str r] t) → B < h.next → r.size ≤ 9223372036854775807 → ∃ v h', call 43 [.ptr B 0] h = some (v, h') ∧ Post41 B t r h v h')
    {h : H} {r : ByteArray} (hr : r.size ≤ 9223372036854775807) (hg : ¬ vl (nxn 2 r) 3 = 2) (hk : vl (nxn 9 r) 3 = 1) :
    WF P call c19 [.str (nxn 0 r)] h (Post18 r h) := by
  have C42 : ∀ args h, (takeK args h).isSome = true → call 42 args h = takeK args h := fun _ _ hs => h42.eq hs
  have z0 : (nxn 0 r).size ≤ 9223372036854775807 := nxn_le 0 hr
  have e0 : nx (nxn 0 r) = nxn 1 r := nx_nxn 0 r
  obtain ⟨l0, u0⟩ := vl_bound (nxn 0 r) (n := 4) (by decide)
  obtain ⟨x0, hx0⟩ : ∃ x, vl (nxn 0 r) 4 = x := ⟨_, rfl⟩
  rw [hx0] at l0 u0
  have f0 : fw .i64 (1 + x0) = 1 + x0 := fwI (by omega) (by omega)
  have z1 : (nxn 1 r).size ≤ 9223372036854775807 := nxn_le 1 hr
  have e1 : nx (nxn 1 r) = nxn 2 r := nx_nxn 1 r
  obtain ⟨l1, u1⟩ := vl_bound (nxn 1 r) (n := 4) (by decide)
  obtain ⟨x1, hx1⟩ : ∃ x, vl (nxn 1 r) 4 = x := ⟨_, rfl⟩
  rw [hx1] at l1 u1
  have f1 : fw .i64 (1 + x1) = 1 + x1 := fwI (by omega) (by omega)
  have z2 : (nxn 2 r).size ≤ 9223372036854775807 := nxn_le 2 hr
  have e2 : nx (nxn 2 r) = nxn 3 r := nx_nxn 2 r
  obtain ⟨l2, u2⟩ := vl_bound (nxn 2 r) (n := 3) (by decide)
  obtain ⟨x2, hx2⟩ : ∃ x, vl (nxn 2 r) 3 = x := ⟨_, rfl⟩
  rw [hx2] at l2 u2
  have f2 : fw .i64 (1 + x2) = 1 + x2 := fwI (by omega) (by omega)
  have z3 : (nxn 3 r).size ≤ 9223372036854775807 := nxn_le 3 hr
  have e3 : nx (nxn 3 r) = nxn 4 r := nx_nxn 3 r
  obtain ⟨l3, u3⟩ := vl_bound (nxn 3 r) (n := 3) (by decide)
  obtain ⟨x3, hx3⟩ : ∃ x, vl (nxn 3 r) 3 = x := ⟨_, rfl⟩
  rw [hx3] at l3 u3
  have f3 : fw .i64 (1 + x3) = 1 + x3 := fwI (by omega) (by omega)
  have z4 : (nxn 4 r).size ≤ 9223372036854775807 := nxn_le 4 hr
  have e4 : nx (nxn 4 r) = nxn 5 r := nx_nxn 4 r
  obtain ⟨l4, u4⟩ := vl_bound (nxn 4 r) (n := 8) (by decide)
  obtain ⟨x4, hx4⟩ : ∃ x, vl (nxn 4 r) 8 = x := ⟨_, rfl⟩
  rw [hx4] at l4 u4
  have f4 : fw .i64 (1 + x4) = 1 + x4 := fwI (by omega) (by omega)
  have z5 : (nxn 5 r).size ≤ 9223372036854775807 := nxn_le 5 hr
  have e5 : nx (nxn 5 r) = nxn 6 r := nx_nxn 5 r
  obtain ⟨l5, u5⟩ := vl_bound (nxn 5 r) (n := 4) (by decide)
  obtain ⟨x5, hx5⟩ : ∃ x, vl (nxn 5 r) 4 = x := ⟨_, rfl⟩
  rw [hx5] at l5 u5
  have f5 : fw .i64 (1 + x5) = 1 + x5 := fwI (by omega) (by omega)
  have z6 : (nxn 6 r).size ≤ 9223372036854775807 := nxn_le 6 hr
  have e6 : nx (nxn 6 r) = nxn 7 r := nx_nxn 6 r
  obtain ⟨l6, u6⟩ := vl_bound (nxn 6 r) (n := 8) (by decide)
  obtain ⟨x6, hx6⟩ : ∃ x, vl (nxn 6 r) 8 = x := ⟨_, rfl⟩
  rw [hx6] at l6 u6
  have f6 : fw .i64 (1 + x6) = 1 + x6 := fwI (by omega) (by omega)
  have z7 : (nxn 7 r).size ≤ 9223372036854775807 := nxn_le 7 hr
  have e7 : nx (nxn 7 r) = nxn 8 r := nx_nxn 7 r
  obtain ⟨l7, u7⟩ := vl_bound (nxn 7 r) (n := 4) (by decide)
  obtain ⟨x7, hx7⟩ : ∃ x, vl (nxn 7 r) 4 = x := ⟨_, rfl⟩
  rw [hx7] at l7 u7
  have f7 : fw .i64 (1 + x7) = 1 + x7 := fwI (by omega) (by omega)
  have z8 : (nxn 8 r).size ≤ 9223372036854775807 := nxn_le 8 hr
  have e8 : nx (nxn 8 r) = nxn 9 r := nx_nxn 8 r
  obtain ⟨l8, u8⟩ := vl_bound (nxn 8 r) (n := 3) (by decide)
  obtain ⟨x8, hx8⟩ : ∃ x, vl (nxn 8 r) 3 = x := ⟨_, rfl⟩
  rw [hx8] at l8 u8
  have f8 : fw .i64 (1 + x8) = 1 + x8 := fwI (by omega) (by omega)
  have z9 : (nxn 9 r).size ≤ 9223372036854775807 := nxn_le 9 hr
  have e9 : nx (nxn 9 r) = nxn 10 r := nx_nxn 9 r
  obtain ⟨l9, u9⟩ := vl_bound (nxn 9 r) (n := 3) (by decide)
  have z10 : (nxn 10 r).size ≤ 9223372036854775807 := nxn_le 10 hr
  have e10 : nx (nxn 10 r) = nxn 11 r := nx_nxn 10 r
  obtain ⟨l10, u10⟩ := vl_bound (nxn 10 r) (n := 5) (by decide)
  obtain ⟨x10, hx10⟩ : ∃ x, vl (nxn 10 r) 5 = x := ⟨_, rfl⟩
  rw [hx10] at l10 u10
  have f10 : fw .i64 (1 + x10) = 1 + x10 := fwI (by omega) (by omega)
  rw [hx2] at hg
  have ge : ¬ 1 + x2 = 3 := by omega
  have gu : fw .u8 (1 + x2) = 1 + x2 := fwB (by omega) (by omega)
  have li1 : fw .i64 1 = 1 := by decide
  have lu1 : fw .u8 1 = 1 := by decide
  have li2 : fw .i64 2 = 2 := by decide
  have lu2 : fw .u8 2 = 2 := by decide
  have li3 : fw .i64 3 = 3 := by decide
  have lu3 : fw .u8 3 = 3 := by decide
  have hc : cfgS r = (⟨1 + x0, 1 + x1, 1 + x2, 0, 2, 1 + x10, [], x6, x7, x8, 0, 0, 0, 1 + x3, 1 + x4, x5⟩, nxn 11 r) := by
    have hx0' : vl r 4 = x0 := hx0
    simp only [cfgS, hg, if_pos, if_true, if_false, ↓reduceIte, cfgS2, nxn_add, Nat.reduceAdd, hk, nx_nxn, Int.reduceAdd, Int.reduceEq, Int.reduceToNat, cutsS, hx0', hx1, hx2, hx3, hx4, hx5, hx6, hx7, hx8, hx10]
  rw [c19_cut]
  simp only [go_sem, ↓reduceIte, ↓reduceDIte, Nat.reduceAdd, Nat.reduceMul, Nat.reduceLT, Nat.reduceEqDiff, Nat.reduceLeDiff, Int.reduceAdd, Int.reduceLE, Int.reduceLT, Int.reduceEq, Int.reduceToNat, reduceCtorEq, c19_s0, c19_s1, c19_s2, c19_s3, c19_s4, c19_s5, c19_s6, c19_s7, c19_s8, c19_s9, c19_s10, c19_s11, c19_p12, c19_p13, c19_p14, c19_s15, c19_s16, c19_s17, c19_s18, c19_s19, c19_s20, c19_s21, appA, appNew, C42, takeK, hk, Option.isSome_some, z0, e0, hx0, f0, z1, e1, hx1, f1, z2, e2, hx2, f2, z3, e3, hx3, f3, z4, e4, hx4, f4, z5, e5, hx5, f5, z6, e6, hx6, f6, z7, e7, hx7, f7, z8, e8, hx8, f8, z9, e9, z10, e10, hx10, f10, ge, gu, li1, lu1, li2, lu2, li3, lu3]
  refine tail19 (cv := .nils) (lo := h.next + 3) P h42 h43 hr hc ?_ ?_ ?_ ?_ ⟨?_, ?_, ⟨[.int .i64 0, .int .i64 0, .int .u8 0, .int .i64 0, .int .u8 0, .int .i64 0, .nils, .int .i64 0, .int .i64 0, .int .i64 0, .int .i64 0, .int .i64 0, .int .i64 0, .int .i64 0, .int .i64 0, .int .i64 0, .nils, .nils], rfl, ?_⟩, ?_, ?_, ?_, ⟨[], .nil, by intro a ha; simp [own] at ha, by intro i v p hv; simp at hv⟩, fun b hb => ?_⟩
  · simp only [go_sem, ↓reduceIte, ↓reduceDIte, Nat.reduceAdd, Nat.reduceMul, Nat.reduceLT, Nat.reduceEqDiff, Nat.reduceLeDiff, Int.reduceAdd, Int.reduceLE, Int.reduceLT, Int.reduceEq, Int.reduceToNat, reduceCtorEq]
  · simp only [go_sem, ↓reduceIte, ↓reduceDIte, Nat.reduceAdd, Nat.reduceMul, Nat.reduceLT, Nat.reduceEqDiff, Nat.reduceLeDiff, Int.reduceAdd, Int.reduceLE, Int.reduceLT, Int.reduceEq, Int.reduceToNat, reduceCtorEq]
  · simp only [go_sem, ↓reduceIte, ↓reduceDIte, Nat.reduceAdd, Nat.reduceMul, Nat.reduceLT, Nat.reduceEqDiff, Nat.reduceLeDiff, Int.reduceAdd, Int.reduceLE, Int.reduceLT, Int.reduceEq, Int.reduceToNat, reduceCtorEq]
  · simp only [go_sem, ↓reduceIte, ↓reduceDIte, Nat.reduceAdd, Nat.reduceMul, Nat.reduceLT, Nat.reduceEqDiff, Nat.reduceLeDiff, Int.reduceAdd, Int.reduceLE, Int.reduceLT, Int.reduceEq, Int.reduceToNat, reduceCtorEq]
  · refine ⟨?_, ?_, ?_, ?_, ?_, ?_, ?_, ?_, ?_, ?_, ?_⟩ <;> (first | omega | (show h.next + 3 ≤ h.next + 3; omega))
  · simp only [go_sem, ↓reduceIte, ↓reduceDIte, Nat.reduceAdd, Nat.reduceMul, Nat.reduceLT, Nat.reduceEqDiff, Nat.reduceLeDiff, Int.reduceAdd, Int.reduceLE, Int.reduceLT, Int.reduceEq, Int.reduceToNat, reduceCtorEq, rowL]
  · simp only [go_sem, ↓reduceIte, ↓reduceDIte, Nat.reduceAdd, Nat.reduceMul, Nat.reduceLT, Nat.reduceEqDiff, Nat.reduceLeDiff, Int.reduceAdd, Int.reduceLE, Int.reduceLT, Int.reduceEq, Int.reduceToNat, reduceCtorEq]
  · simp only [go_sem, ↓reduceIte, ↓reduceDIte, Nat.reduceAdd, Nat.reduceMul, Nat.reduceLT, Nat.reduceEqDiff, Nat.reduceLeDiff, Int.reduceAdd, Int.reduceLE, Int.reduceLT, Int.reduceEq, Int.reduceToNat, reduceCtorEq, rowL, cfgC]
  · exact .nil
  · intro a ha; simp [own] at ha
  · have o0 : ¬ b = h.next := by omega
    have o1 : ¬ b = h.next + 1 := by omega
    have o2 : ¬ b = h.next + 2 := by omega
    simp only [go_sem, ↓reduceIte, ↓reduceDIte, Nat.reduceAdd, Nat.reduceMul, Nat.reduceLT, Nat.reduceEqDiff, Nat.reduceLeDiff, Int.reduceAdd, Int.reduceLE, Int.reduceLT, Int.reduceEq, Int.reduceToNat, reduceCtorEq, o0, o1, o2]
set_option maxRecDepth 10000 in
set_option maxHeartbeats 1000000 in
theorem w19_020 (P : Program) {call : CallE} (h42 : Has call 42 takeK)
    (h43 : ∀ h B t r, h.t.get B = some (rowL [.str r] t) → B < h.next → r.size ≤ 9223372036854775807 → ∃ v h', call 43 [.ptr B 0] h = some (v, h') ∧ Post41 B t r h v h')
    {h : H} {r : ByteArray} (hr : r.size ≤ 9223372036854775807) (hg : ¬ vl (nxn 2 r) 3 = 2) (hk : vl (nxn 9 r) 3 = 2) (hn : vl (nxn 10 r) 3 = 0) :
    WF P call c19 [.str (nxn 0 r)] h (Post18 r h) := by
  have C42 : ∀ args h, (takeK args h).isSome = true → call 42 args h = takeK args h := fun _ _ hs => h42.eq hs
  have z0 : (nxn 0 r).size ≤ 9223372036854775807 := nxn_le 0 hr
  have e0 : nx (nxn 0 r) = nxn 1 r := nx_nxn 0 r
  obtain ⟨l0, u0⟩ := vl_bound (nxn 0 r) (n := 4) (by decide)
  obtain ⟨x0, hx0⟩ : ∃ x, vl (nxn 0 r) 4 = x := ⟨_, rfl⟩
  rw [hx0] at l0 u0
  have f0 : fw .i64 (1 + x0) = 1 + x0 := fwI (by omega) (by omega)
  have z1 : (nxn 1 r).size ≤ 9223372036854775807 := nxn_le 1 hr
  have e1 : nx (nxn 1 r) = nxn 2 r := nx_nxn 1 r
  obtain ⟨l1, u1⟩ := vl_bound (nxn 1 r) (n := 4) (by decide)
  obtain ⟨x1, hx1⟩ : ∃ x, vl (nxn 1 r) 4 = x := ⟨_, rfl⟩
  rw [hx1] at l1 u1
  have f1 : fw .i64 (1 + x1) = 1 + x1 := fwI (by omega) (by omega)
  have z2 : (nxn 2 r).size ≤ 9223372036854775807 := nxn_le 2 hr
  have e2 : nx (nxn 2 r) = nxn 3 r := nx_nxn 2 r
  obtain ⟨l2, u2⟩ := vl_bound (nxn 2 r) (n := 3) (by decide)
  obtain ⟨x2, hx2⟩ : ∃ x, vl (nxn 2 r) 3 = x := ⟨_, rfl⟩
  rw [hx2] at l2 u2
  have f2 : fw .i64 (1 + x2) = 1 + x2 := fwI (by omega) (by omega)
  have z3 : (nxn 3 r).size ≤ 9223372036854775807 := nxn_le 3 hr
  have e3 : nx (nxn 3 r) = nxn 4 r := nx_nxn 3 r
  obtain ⟨l3, u3⟩ := vl_bound (nxn 3 r) (n := 3) (by decide)
  obtain ⟨x3, hx3⟩ : ∃ x, vl (nxn 3 r) 3 = x := ⟨_, rfl⟩
  rw [hx3] at l3 u3
  have f3 : fw .i64 (1 + x3) = 1 + x3 := fwI (by omega) (by omega)
  have z4 : (nxn 4 r).size ≤ 9223372036854775807 := nxn_le 4 hr
  have e4 : nx (nxn 4 r) = nxn 5 r := nx_nxn 4 r
  obtain ⟨l4, u4⟩ := vl_bound (nxn 4 r) (n := 8) (by decide)
  obtain ⟨x4, hx4⟩ : ∃ x, vl (nxn 4 r) 8 = x := ⟨_, rfl⟩
  rw [hx4] at l4 u4
  have f4 : fw .i64 (1 + x4) = 1 + x4 := fwI (by omega) (by omega)
  have z5 : (nxn 5 r).size ≤ 9223372036854775807 := nxn_le 5 hr
  have e5 : nx (nxn 5 r) = nxn 6 r := nx_nxn 5 r
  obtain ⟨l5, u5⟩ := vl_bound (nxn 5 r) (n := 4) (by decide)
  obtain ⟨x5, hx5⟩ : ∃ x, vl (nxn 5 r) 4 = x := ⟨_, rfl⟩
  rw [hx5] at l5 u5
  have f5 : fw .i64 (1 + x5) = 1 + x5 := fwI (by omega) (by omega)
  have z6 : (nxn 6 r).size ≤ 9223372036854775807 := nxn_le 6 hr
  have e6 : nx (nxn 6 r) = nxn 7 r := nx_nxn 6 r
  obtain ⟨l6, u6⟩ := vl_bound (nxn 6 r) (n := 8) (by decide)
  obtain ⟨x6, hx6⟩ : ∃ x, vl (nxn 6 r) 8 = x := ⟨_, rfl⟩
  rw [hx6] at l6 u6
  have f6 : fw .i64 (1 + x6) = 1 + x6 := fwI (by omega) (by omega)
  have z7 : (nxn 7 r).size ≤ 9223372036854775807 := nxn_le 7 hr
  have e7 : nx (nxn 7 r) = nxn 8 r := nx_nxn 7 r
  obtain ⟨l7, u7⟩ := vl_bound (nxn 7 r) (n := 4) (by decide)
  obtain ⟨x7, hx7⟩ : ∃ x, vl (nxn 7 r) 4 = x := ⟨_, rfl⟩
  rw [hx7] at l7 u7
  have f7 : fw .i64 (1 + x7) = 1 + x7 := fwI (by omega) (by omega)
  have z8 : (nxn 8 r).size ≤ 9223372036854775807 := nxn_le 8 hr
  have e8 : nx (nxn 8 r) = nxn 9 r := nx_nxn 8 r
  obtain ⟨l8, u8⟩ := vl_bound (nxn 8 r) (n := 3) (by decide)
  obtain ⟨x8, hx8⟩ : ∃ x, vl (nxn 8 r) 3 = x := ⟨_, rfl⟩
  rw [hx8] at l8 u8
  have f8 : fw .i64 (1 + x8) = 1 + x8 := fwI (by omega) (by omega)
  have z9 : (nxn 9 r).size ≤ 9223372036854775807 := nxn_le 9 hr
  have e9 : nx (nxn 9 r) = nxn 10 r := nx_nxn 9 r
  obtain ⟨l9, u9⟩ := vl_bound (nxn 9 r) (n := 3) (by decide)
  have z10 : (nxn 10 r).size ≤ 9223372036854775807 := nxn_le 10 hr
  have e10 : nx (nxn 10 r) = nxn 11 r := nx_nxn 10 r
  obtain ⟨l10, u10⟩ := vl_bound (nxn 10 r) (n := 3) (by decide)
  have z11 : (nxn 11 r).size ≤ 9223372036854775807 := nxn_le 11 hr
  have e11 : nx (nxn 11 r) = nxn 12 r := nx_nxn 11 r
  obtain ⟨l11, u11⟩ := vl_bound (nxn 11 r) (n := 8) (by decide)
  obtain ⟨x11, hx11⟩ : ∃ x, vl (nxn 11 r) 8 = x := ⟨_, rfl⟩
  rw [hx11] at l11 u11
  have f11 : fw .i64 (1 + x11) = 1 + x11 := fwI (by omega) (by omega)
  rw [hx2] at hg
  have ge : ¬ 1 + x2 = 3 := by omega
  have gu : fw .u8 (1 + x2) = 1 + x2 := fwB (by omega) (by omega)
  have li1 : fw .i64 1 = 1 := by decide
  have lu1 : fw .u8 1 = 1 := by decide
  have li2 : fw .i64 2 = 2 := by decide
  have lu2 : fw .u8 2 = 2 := by decide
  have li3 : fw .i64 3 = 3 := by decide
  have lu3 : fw .u8 3 = 3 := by decide
  have fu0 : fw .u64 (1 + x11) = 1 + x11 := fwU (by omega) (by omega)
  have fa0 : fw .u64 (0 + (1 + x11)) = 0 + (1 + x11) := fwU (by omega) (by omega)
  have hc : cfgS r = (⟨1 + x0, 1 + x1, 1 + x2, 0, 3, 0, [0 + (1 + x11)], x6, x7, x8, 0, 0, 0, 1 + x3, 1 + x4, x5⟩, nxn 12 r) := by
    have hx0' : vl r 4 = x0 := hx0
    simp only [cfgS, hg, if_pos, if_true, if_false, ↓reduceIte, cfgS2, nxn_add, Nat.reduceAdd, hk, nx_nxn, Int.reduceAdd, Int.reduceEq, Int.reduceToNat, cutsS, hn, hx0', hx1, hx2, hx3, hx4, hx5, hx6, hx7, hx8, hx11]
  rw [c19_cut]
  simp only [go_sem, ↓reduceIte, ↓reduceDIte, Nat.reduceAdd, Nat.reduceMul, Nat.reduceLT, Nat.reduceEqDiff, Nat.reduceLeDiff, Int.reduceAdd, Int.reduceLE, Int.reduceLT, Int.reduceEq, Int.reduceToNat, reduceCtorEq, c19_s0, c19_s1, c19_s2, c19_s3, c19_s4, c19_s5, c19_s6, c19_s7, c19_s8, c19_s9, c19_s10, c19_s11, c19_p12, c19_p13, c19_p14, c19_s15, c19_s16, c19_s17, c19_s18, c19_s19, c19_s20, c19_s21, appA, appNew, C42, takeK, hk, Option.isSome_some, hn, z0, e0, hx0, f0, z1, e1, hx1, f1, z2, e2, hx2, f2, z3, e3, hx3, f3, z4, e4, hx4, f4, z5, e5, hx5, f5, z6, e6, hx6, f6, z7, e7, hx7, f7, z8, e8, hx8, f8, z9, e9, z10, e10, z11, e11, hx11, f11, ge, gu, li1, lu1, li2, lu2, li3, lu3, fu0, fa0]
  refine unroll 2 ?_
  simp only [go_sem, ↓reduceIte, ↓reduceDIte, Nat.reduceAdd, Nat.reduceMul, Nat.reduceLT, Nat.reduceEqDiff, Nat.reduceLeDiff, Int.reduceAdd, Int.reduceLE, Int.reduceLT, Int.reduceEq, Int.reduceToNat, reduceCtorEq, c19_l26, c19_s22, c19_s23, c19_s24, c19_s25, appA, appNew, C42, takeK, hk, Option.isSome_some, hn, z0, e0, hx0, f0, z1, e1, hx1, f1, z2, e2, hx2, f2, z3, e3, hx3, f3, z4, e4, hx4, f4, z5, e5, hx5, f5, z6, e6, hx6, f6, z7, e7, hx7, f7, z8, e8, hx8, f8, z9, e9, z10, e10, z11, e11, hx11, f11, ge, gu, li1, lu1, li2, lu2, li3, lu3, fu0, fa0]
  refine tail19 (cv := (.sl (h.next + 4) 0 1 1 none)) (lo := h.next + 5) P h42 h43 hr hc ?_ ?_ ?_ ?_ ⟨?_, ?_, ⟨[.int .i64 0, .int .i64 0, .int .u8 0, .int .i64 0, .int .u8 0, .int .i64 0, .nils, .int .i64 0, .int .i64 0, .int .i64 0, .int .i64 0, .int .i64 0, .int .i64 0, .int .i64 0, .int .i64 0, .int .i64 0, .nils, .nils], rfl, ?_⟩, ?_, ?_, ?_, ⟨[], .nil, by intro a ha; simp [own] at ha, by intro i v p hv; simp at hv⟩, fun b hb => ?_⟩
  · simp only [go_sem, ↓reduceIte, ↓reduceDIte, Nat.reduceAdd, Nat.reduceMul, Nat.reduceLT, Nat.reduceEqDiff, Nat.reduceLeDiff, Int.reduceAdd, Int.reduceLE, Int.reduceLT, Int.reduceEq, Int.reduceToNat, reduceCtorEq]
  · simp only [go_sem, ↓reduceIte, ↓reduceDIte, Nat.reduceAdd, Nat.reduceMul, Nat.reduceLT, Nat.reduceEqDiff, Nat.reduceLeDiff, Int.reduceAdd, Int.reduceLE, Int.reduceLT, Int.reduceEq, Int.reduceToNat, reduceCtorEq]
  · simp only [go_sem, ↓reduceIte, ↓reduceDIte, Nat.reduceAdd, Nat.reduceMul, Nat.reduceLT, Nat.reduceEqDiff, Nat.reduceLeDiff, Int.reduceAdd, Int.reduceLE, Int.reduceLT, Int.reduceEq, Int.reduceToNat, reduceCtorEq]
  · simp only [go_sem, ↓reduceIte, ↓reduceDIte, Nat.reduceAdd, Nat.reduceMul, Nat.reduceLT, Nat.reduceEqDiff, Nat.reduceLeDiff, Int.reduceAdd, Int.reduceLE, Int.reduceLT, Int.reduceEq, Int.reduceToNat, reduceCtorEq]
  · refine ⟨?_, ?_, ?_, ?_, ?_, ?_, ?_, ?_, ?_, ?_, ?_⟩ <;> (first | omega | (show h.next + 5 ≤ h.next + 5; omega))
  · simp only [go_sem, ↓reduceIte, ↓reduceDIte, Nat.reduceAdd, Nat.reduceMul, Nat.reduceLT, Nat.reduceEqDiff, Nat.reduceLeDiff, Int.reduceAdd, Int.reduceLE, Int.reduceLT, Int.reduceEq, Int.reduceToNat, reduceCtorEq, rowL]
  · simp only [go_sem, ↓reduceIte, ↓reduceDIte, Nat.reduceAdd, Nat.reduceMul, Nat.reduceLT, Nat.reduceEqDiff, Nat.reduceLeDiff, Int.reduceAdd, Int.reduceLE, Int.reduceLT, Int.reduceEq, Int.reduceToNat, reduceCtorEq]
  · simp only [go_sem, ↓reduceIte, ↓reduceDIte, Nat.reduceAdd, Nat.reduceMul, Nat.reduceLT, Nat.reduceEqDiff, Nat.reduceLeDiff, Int.reduceAdd, Int.reduceLE, Int.reduceLT, Int.reduceEq, Int.reduceToNat, reduceCtorEq, rowL, cfgC]
  · refine .sl _ _ _ _ (.inl rfl) (by decide) rfl (by show h.next + 4 < h.next + 5; omega) ?_
    simp only [go_sem, ↓reduceIte, ↓reduceDIte, Nat.reduceAdd, Nat.reduceMul, Nat.reduceLT, Nat.reduceEqDiff, Nat.reduceLeDiff, Int.reduceAdd, Int.reduceLE, Int.reduceLT, Int.reduceEq, Int.reduceToNat, reduceCtorEq, rowL, List.map_cons, List.map_nil]
  · intro a ha; simp only [own, Option.some.injEq] at ha; omega
  · have o0 : ¬ b = h.next := by omega
    have o1 : ¬ b = h.next + 1 := by omega
    have o2 : ¬ b = h.next + 2 := by omega
    have o3 : ¬ b = h.next + 3 := by omega
    have o4 : ¬ b = h.next + 4 := by omega
    simp only [go_sem, ↓reduceIte, ↓reduceDIte, Nat.reduceAdd, Nat.reduceMul, Nat.reduceLT, Nat.reduceEqDiff, Nat.reduceLeDiff, Int.reduceAdd, Int.reduceLE, Int.reduceLT, Int.reduceEq, Int.reduceToNat, reduceCtorEq, o0, o1, o2, o3, o4]
set_option maxRecDepth 10000 in
set_option maxHeartbeats 1000000 in
theorem w19_021 (P : Program) {call : CallE} (h42 : Has call 42 takeK)
    (h43 : ∀ h B t r, h.t.get B = some (rowL [.str r] t) → B < h.next → r.size ≤ 9223372036854775807 → ∃ v h', call 43 [.ptr B 0] h = some (v, h') ∧ Post41 B t r h v h')
    {h : H} {r : ByteArray} (hr : r.size ≤ 9223372036854775807) (hg : ¬ vl (nxn 2 r) 3 = 2) (hk : vl (nxn 9 r) 3 = 2) (hn : vl (nxn 10 r) 3 = 1) :
    WF P call c19 [.str (nxn 0 r)] h (Post18 r h) := by
  have C42 : ∀ args h, (takeK args h).isSome = true → call 42 args h = takeK args h := fun _ _ hs => h42.eq hs
  have z0 : (nxn 0 r).size ≤ 9223372036854775807 := nxn_le 0 hr
  have e0 : nx (nxn 0 r) = nxn 1 r := nx_nxn 0 r
  obtain ⟨l0, u0⟩ := vl_bound (nxn 0 r) (n := 4) (by decide)
  obtain ⟨x0, hx0⟩ : ∃ x, vl (nxn 0 r) 4 = x := ⟨_, rfl⟩
  rw [hx0] at l0 u0
  have f0 : fw .i64 (1 + x0) = 1 + x0 := fwI (by omega) (by omega)
  have z1 : (nxn 1 r).size ≤ 9223372036854775807 := nxn_le 1 hr
  have e1 : nx (nxn 1 r) = nxn 2 r := nx_nxn 1 r
  obtain ⟨l1, u1⟩ := vl_bound (nxn 1 r) (n := 4) (by decide)
  obtain ⟨x1, hx1⟩ : ∃ x, vl (nxn 1 r) 4 = x := ⟨_, rfl⟩
  rw [hx1] at l1 u1
  have f1 : fw .i64 (1 + x1) = 1 + x1 := fwI (by omega) (by omega)
  have z2 : (nxn 2 r).size ≤ 9223372036854775807 := nxn_le 2 hr
  have e2 : nx (nxn 2 r) = nxn 3 r := nx_nxn 2 r
  obtain ⟨l2, u2⟩ := vl_bound (nxn 2 r) (n := 3) (by decide)
  obtain ⟨x2, hx2⟩ : ∃ x, vl (nxn 2 r) 3 = x := ⟨_, rfl⟩
  rw [hx2] at l2 u2
  have f2 : fw .i64 (1 + x2) = 1 + x2 := fwI (by omega) (by omega)
  have z3 : (nxn 3 r).size ≤ 9223372036854775807 := nxn_le 3 hr
  have e3 : nx (nxn 3 r) = nxn 4 r := nx_nxn 3 r
  obtain ⟨l3, u3⟩ := vl_bound (nxn 3 r) (n := 3) (by decide)
  obtain ⟨x3, hx3⟩ : ∃ x, vl (nxn 3 r) 3 = x := ⟨_, rfl⟩
  rw [hx3] at l3 u3
  have f3 : fw .i64 (1 + x3) = 1 + x3 := fwI (by omega) (by omega)
  have z4 : (nxn 4 r).size ≤ 9223372036854775807 := nxn_le 4 hr
  have e4 : nx (nxn 4 r) = nxn 5 r := nx_nxn 4 r
  obtain ⟨l4, u4⟩ := vl_bound (nxn 4 r) (n := 8) (by decide)
  obtain ⟨x4, hx4⟩ : ∃ x, vl (nxn 4 r) 8 = x := ⟨_, rfl⟩
  rw [hx4] at l4 u4
  have f4 : fw .i64 (1 + x4) = 1 + x4 := fwI (by omega) (by omega)
  have z5 : (nxn 5 r).size ≤ 9223372036854775807 := nxn_le 5 hr
  have e5 : nx (nxn 5 r) = nxn 6 r := nx_nxn 5 r
  obtain ⟨l5, u5⟩ := vl_bound (nxn 5 r) (n := 4) (by decide)
  obtain ⟨x5, hx5⟩ : ∃ x, vl (nxn 5 r) 4 = x := ⟨_, rfl⟩
  rw [hx5] at l5 u5
  have f5 : fw .i64 (1 + x5) = 1 + x5 := fwI (by omega) (by omega)
  have z6 : (nxn 6 r).size ≤ 9223372036854775807 := nxn_le 6 hr
  have e6 : nx (nxn 6 r) = nxn 7 r := nx_nxn 6 r
  obtain ⟨l6, u6⟩ := vl_bound (nxn 6 r) (n := 8) (by decide)
  obtain ⟨x6, hx6⟩ : ∃ x, vl (nxn 6 r) 8 = x := ⟨_, rfl⟩
  rw [hx6] at l6 u6
  have f6 : fw .i64 (1 + x6) = 1 + x6 := fwI (by omega) (by omega)
  have z7 : (nxn 7 r).size ≤ 9223372036854775807 := nxn_le 7 hr
  have e7 : nx (nxn 7 r) = nxn 8 r := nx_nxn 7 r
  obtain ⟨l7, u7⟩ := vl_bound (nxn 7 r) (n := 4) (by decide)
  obtain ⟨x7, hx7⟩ : ∃ x, vl (nxn 7 r) 4 = x := ⟨_, rfl⟩
  rw [hx7] at l7 u7
  have f7 : fw .i64 (1 + x7) = 1 + x7 := fwI (by omega) (by omega)
  have z8 : (nxn 8 r).size ≤ 9223372036854775807 := nxn_le 8 hr
  have e8 : nx (nxn 8 r) = nxn 9 r := nx_nxn 8 r
  obtain ⟨l8, u8⟩ := vl_bound (nxn 8 r) (n := 3) (by decide)
  obtain ⟨x8, hx8⟩ : ∃ x, vl (nxn 8 r) 3 = x := ⟨_, rfl⟩
  rw [hx8] at l8 u8
  have f8 : fw .i64 (1 + x8) = 1 + x8 := fwI (by omega) (by omega)
  have z9 : (nxn 9 r).size ≤ 9223372036854775807 := nxn_le 9 hr
  have e9 : nx (nxn 9 r) = nxn 10 r := nx_nxn 9 r
  obtain ⟨l9, u9⟩ := vl_bound (nxn 9 r) (n := 3) (by decide)
  have z10 : (nxn 10 r).size ≤ 9223372036854775807 := nxn_le 10 hr
  have e10 : nx (nxn 10 r) = nxn 11 r := nx_nxn 10 r
  obtain ⟨l10, u10⟩ := vl_bound (nxn 10 r) (n := 3) (by decide)
  have z11 : (nxn 11 r).size ≤ 9223372036854775807 := nxn_le 11 hr
  have e11 : nx (nxn 11 r) = nxn 12 r := nx_nxn 11 r
  obtain ⟨l11, u11⟩ := vl_bound (nxn 11 r) (n := 8) (by decide)
  obtain ⟨x11, hx11⟩ : ∃ x, vl (nxn 11 r) 8 = x := ⟨_, rfl⟩
  rw [hx11] at l11 u11
  have f11 : fw .i64 (1 + x11) = 1 + x11 := fwI (by omega) (by omega)
  have z12 : (nxn 12 r).size ≤ 9223372036854775807 := nxn_le 12 hr
  have e12 : nx (nxn 12 r) = nxn 13 r := nx_nxn 12 r
  obtain ⟨l12, u12⟩ := vl_bound (nxn 12 r) (n := 8) (by decide)
  obtain ⟨x12, hx12⟩ : ∃ x, vl (nxn 12 r) 8 = x := ⟨_, rfl⟩
  rw [hx12] at l12 u12
  have f12 : fw .i64 (1 + x12) = 1 + x12 := fwI (by omega) (by omega)
  rw [hx2] at hg
  have ge : ¬ 1 + x2 = 3 := by omega
  have gu : fw .u8 (1 + x2) = 1 + x2 := fwB (by omega) (by omega)
  have li1 : fw .i64 1 = 1 := by decide
  have lu1 : fw .u8 1 = 1 := by decide
  have li2 : fw .i64 2 = 2 := by decide
  have lu2 : fw .u8 2 = 2 := by decide
  have li3 : fw .i64 3 = 3 := by decide
  have lu3 : fw .u8 3 = 3 := by decide
  have fu0 : fw .u64 (1 + x11) = 1 + x11 := fwU (by omega) (by omega)
  have fa0 : fw .u64 (0 + (1 + x11)) = 0 + (1 + x11) := fwU (by omega) (by omega)
  have fu1 : fw .u64 (1 + x12) = 1 + x12 := fwU (by omega) (by omega)
  have fa1 : fw .u64 (0 + (1 + x11) + (1 + x12)) = 0 + (1 + x11) + (1 + x12) := fwU (by omega) (by omega)
  have hc : cfgS r = (⟨1 + x0, 1 + x1, 1 + x2, 0, 3, 0, [0 + (1 + x11), 0 + (1 + x11) + (1 + x12)], x6, x7, x8, 0, 0, 0, 1 + x3, 1 + x4, x5⟩, nxn 13 r) := by
    have hx0' : vl r 4 = x0 := hx0
    simp only [cfgS, hg, if_pos, if_true, if_false, ↓reduceIte, cfgS2, nxn_add, Nat.reduceAdd, hk, nx_nxn, Int.reduceAdd, Int.reduceEq, Int.reduceToNat, cutsS, hn, hx0', hx1, hx2, hx3, hx4, hx5, hx6, hx7, hx8, hx11, hx12]
  rw [c19_cut]
  simp only [go_sem, ↓reduceIte, ↓reduceDIte, Nat.reduceAdd, Nat.reduceMul, Nat.reduceLT, Nat.reduceEqDiff, Nat.reduceLeDiff, Int.reduceAdd, Int.reduceLE, Int.reduceLT, Int.reduceEq, Int.reduceToNat, reduceCtorEq, c19_s0, c19_s1, c19_s2, c19_s3, c19_s4, c19_s5, c19_s6, c19_s7, c19_s8, c19_s9, c19_s10, c19_s11, c19_p12, c19_p13, c19_p14, c19_s15, c19_s16, c19_s17, c19_s18, c19_s19, c19_s20, c19_s21, appA, appNew, C42, takeK, hk, Option.isSome_some, hn, z0, e0, hx0, f0, z1, e1, hx1, f1, z2, e2, hx2, f2, z3, e3, hx3, f3, z4, e4, hx4, f4, z5, e5, hx5, f5, z6, e6, hx6, f6, z7, e7, hx7, f7, z8, e8, hx8, f8, z9, e9, z10, e10, z11, e11, hx11, f11, z12, e12, hx12, f12, ge, gu, li1, lu1, li2, lu2, li3, lu3, fu0, fa0, fu1, fa1]
  refine unroll 3 ?_
  simp only [go_sem, ↓reduceIte, ↓reduceDIte, Nat.reduceAdd, Nat.reduceMul, Nat.reduceLT, Nat.reduceEqDiff, Nat.reduceLeDiff, Int.reduceAdd, Int.reduceLE, Int.reduceLT, Int.reduceEq, Int.reduceToNat, reduceCtorEq, c19_l26, c19_s22, c19_s23, c19_s24, c19_s25, appA, appNew, C42, takeK, hk, Option.isSome_some, hn, z0, e0, hx0, f0, z1, e1, hx1, f1, z2, e2, hx2, f2, z3, e3, hx3, f3, z4, e4, hx4, f4, z5, e5, hx5, f5, z6, e6, hx6, f6, z7, e7, hx7, f7, z8, e8, hx8, f8, z9, e9, z10, e10, z11, e11, hx11, f11, z12, e12, hx12, f12, ge, gu, li1, lu1, li2, lu2, li3, lu3, fu0, fa0, fu1, fa1]
  refine tail19 (cv := (.sl (h.next + 6) 0 2 1 none)) (lo := h.next + 7) P h42 h43 hr hc ?_ ?_ ?_ ?_ ⟨?_, ?_, ⟨[.int .i64 0, .int .i64 0, .int .u8 0, .int .i64 0, .int .u8 0, .int .i64 0, .nils, .int .i64 0, .int .i64 0, .int .i64 0, .int .i64 0, .int .i64 0, .int .i64 0, .int .i64 0, .int .i64 0, .int .i64 0, .nils, .nils], rfl, ?_⟩, ?_, ?_, ?_, ⟨[], .nil, by intro a ha; simp [own] at ha, by intro i v p hv; simp at hv⟩, fun b hb => ?_⟩
  · simp only [go_sem, ↓reduceIte, ↓reduceDIte, Nat.reduceAdd, Nat.reduceMul, Nat.reduceLT, Nat.reduceEqDiff, Nat.reduceLeDiff, Int.reduceAdd, Int.reduceLE, Int.reduceLT, Int.reduceEq, Int.reduceToNat, reduceCtorEq]
  · simp only [go_sem, ↓reduceIte, ↓reduceDIte, Nat.reduceAdd, Nat.reduceMul, Nat.reduceLT, Nat.reduceEqDiff, Nat.reduceLeDiff, Int.reduceAdd, Int.reduceLE, Int.reduceLT, Int.reduceEq, Int.reduceToNat, reduceCtorEq]
  · simp only [go_sem, ↓reduceIte, ↓reduceDIte, Nat.reduceAdd, Nat.reduceMul, Nat.reduceLT, Nat.reduceEqDiff, Nat.reduceLeDiff, Int.reduceAdd, Int.reduceLE, Int.reduceLT, Int.reduceEq, Int.reduceToNat, reduceCtorEq]
  · simp only [go_sem, ↓reduceIte, ↓reduceDIte, Nat.reduceAdd, Nat.reduceMul, Nat.reduceLT, Nat.reduceEqDiff, Nat.reduceLeDiff, Int.reduceAdd, Int.reduceLE, Int.reduceLT, Int.reduceEq, Int.reduceToNat, reduceCtorEq]
  · refine ⟨?_, ?_, ?_, ?_, ?_, ?_, ?_, ?_, ?_, ?_, ?_⟩ <;> (first | omega | (show h.next + 7 ≤ h.next + 7; omega))
  · simp only [go_sem, ↓reduceIte, ↓reduceDIte, Nat.reduceAdd, Nat.reduceMul, Nat.reduceLT, Nat.reduceEqDiff, Nat.reduceLeDiff, Int.reduceAdd, Int.reduceLE, Int.reduceLT, Int.reduceEq, Int.reduceToNat, reduceCtorEq, rowL]
  · simp only [go_sem, ↓reduceIte, ↓reduceDIte, Nat.reduceAdd, Nat.reduceMul, Nat.reduceLT, Nat.reduceEqDiff, Nat.reduceLeDiff, Int.reduceAdd, Int.reduceLE, Int.reduceLT, Int.reduceEq, Int.reduceToNat, reduceCtorEq]
  · simp only [go_sem, ↓reduceIte, ↓reduceDIte, Nat.reduceAdd, Nat.reduceMul, Nat.reduceLT, Nat.reduceEqDiff, Nat.reduceLeDiff, Int.reduceAdd, Int.reduceLE, Int.reduceLT, Int.reduceEq, Int.reduceToNat, reduceCtorEq, rowL, cfgC]
  · refine .sl _ _ _ _ (.inl rfl) (by decide) rfl (by show h.next + 6 < h.next + 7; omega) ?_
    simp only [go_sem, ↓reduceIte, ↓reduceDIte, Nat.reduceAdd, Nat.reduceMul, Nat.reduceLT, Nat.reduceEqDiff, Nat.reduceLeDiff, Int.reduceAdd, Int.reduceLE, Int.reduceLT, Int.reduceEq, Int.reduceToNat, reduceCtorEq, rowL, List.map_cons, List.map_nil]
  · intro a ha; simp only [own, Option.some.injEq] at ha; omega
  · have o0 : ¬ b = h.next := by omega
    have o1 : ¬ b = h.next + 1 := by omega
    have o2 : ¬ b = h.next + 2 := by omega
    have o3 : ¬ b = h.next + 3 := by omega
    have o4 : ¬ b = h.next + 4 := by omega
    have o5 : ¬ b = h.next + 5 := by omega
    have o6 : ¬ b = h.next + 6 := by omega
    simp only [go_sem, ↓reduceIte, ↓reduceDIte, Nat.reduceAdd, Nat.reduceMul, Nat.reduceLT, Nat.reduceEqDiff, Nat.reduceLeDiff, Int.reduceAdd, Int.reduceLE, Int.reduceLT, Int.reduceEq, Int.reduceToNat, reduceCtorEq, o0, o1, o2, o3, o4, o5, o6]
set_option maxRecDepth 10000 in
set_option maxHeartbeats 1000000 in
theorem w19_022 (P : Program) {call : CallE} (h42 : Has call 42 takeK)
    (h43 : ∀ h B t r, h.t.get B = some (rowL [.str r] t) → B < h.next → r.size ≤ 9223372036854775807 → ∃ v h', call 43 [.ptr B 0] h = some (v, h') ∧ Post41 B t r h v h')
    {h : H} {r : ByteArray} (hr : r.size ≤ 9223372036854775807) (hg : ¬ vl (nxn 2 r) 3 = 2) (hk : vl (nxn 9 r) 3 = 2) (hn : vl (nxn 10 r) 3 = 2) :
    WF P call c19 [.str (nxn 0 r)] h (Post18 r h) := by
  have C42 : ∀ args h, (takeK args h).isSome = true → call 42 args h = takeK args h := fun _ _ hs => h42.eq hs
  have z0 : (nxn 0 r).size ≤ 9223372036854775807 := nxn_le 0 hr
  have e0 : nx (nxn 0 r) = nxn 1 r := nx_nxn 0 r
  obtain ⟨l0, u0⟩ := vl_bound (nxn 0 r) (n := 4) (by decide)
  obtain ⟨x0, hx0⟩ : ∃ x, vl (nxn 0 r) 4 = x := ⟨_, rfl⟩
  rw [hx0] at l0 u0
  have f0 : fw .i64 (1 + x0) = 1 + x0 := fwI (by omega) (by omega)
  have z1 : (nxn 1 r).size ≤ 9223372036854775807 := nxn_le 1 hr
  have e1 : nx (nxn 1 r) = nxn 2 r := nx_nxn 1 r
  obtain ⟨l1, u1⟩ := vl_bound (nxn 1 r) (n := 4) (by decide)
  obtain ⟨x1, hx1⟩ : ∃ x, vl (nxn 1 r) 4 = x := ⟨_, rfl⟩
  rw [hx1] at l1 u1
  have f1 : fw .i64 (1 + x1) = 1 + x1 := fwI (by omega) (by omega)
  have z2 : (nxn 2 r).size ≤ 9223372036854775807 := nxn_le 2 hr
  have e2 : nx (nxn 2 r) = nxn 3 r := nx_nxn 2 r
  obtain ⟨l2, u2⟩ := vl_bound (nxn 2 r) (n := 3) (by decide)
  obtain ⟨x2, hx2⟩ : ∃ x, vl (nxn 2 r) 3 = x := ⟨_, rfl⟩
  rw [hx2] at l2 u2
  have f2 : fw .i64 (1 + x2) = 1 + x2 := fwI (by omega) (by omega)
  have z3 : (nxn 3 r).size ≤ 9223372036854775807 := nxn_le 3 hr
  have e3 : nx (nxn 3 r) = nxn 4 r := nx_nxn 3 r
  obtain ⟨l3, u3⟩ := vl_bound (nxn 3 r) (n := 3) (by decide)
  obtain ⟨x3, hx3⟩ : ∃ x, vl (nxn 3 r) 3 = x := ⟨_, rfl⟩
  rw [hx3] at l3 u3
  have f3 : fw .i64 (1 + x3) = 1 + x3 := fwI (by omega) (by omega)
  have z4 : (nxn 4 r).size ≤ 9223372036854775807 := nxn_le 4 hr
  have e4 : nx (nxn 4 r) = nxn 5 r := nx_nxn 4 r
  obtain ⟨l4, u4⟩ := vl_bound (nxn 4 r) (n := 8) (by decide)
  obtain ⟨x4, hx4⟩ : ∃ x, vl (nxn 4 r) 8 = x := ⟨_, rfl⟩
  rw [hx4] at l4 u4
  have f4 : fw .i64 (1 + x4) = 1 + x4 := fwI (by omega) (by omega)
  have z5 : (nxn 5 r).size ≤ 9223372036854775807 := nxn_le 5 hr
  have e5 : nx (nxn 5 r) = nxn 6 r := nx_nxn 5 r
  obtain ⟨l5, u5⟩ := vl_bound (nxn 5 r) (n := 4) (by decide)
  obtain ⟨x5, hx5⟩ : ∃ x, vl (nxn 5 r) 4 = x := ⟨_, rfl⟩
  rw [hx5] at l5 u5
  have f5 : fw .i64 (1 + x5) = 1 + x5 := fwI (by omega) (by omega)
  have z6 : (nxn 6 r).size ≤ 9223372036854775807 := nxn_le 6 hr
  have e6 : nx (nxn 6 r) = nxn 7 r := nx_nxn 6 r
  obtain ⟨l6, u6⟩ := vl_bound (nxn 6 r) (n := 8) (by decide)
  obtain ⟨x6, hx6⟩ : ∃ x, vl (nxn 6 r) 8 = x := ⟨_, rfl⟩
  rw [hx6] at l6 u6
  have f6 : fw .i64 (1 + x6) = 1 + x6 := fwI (by omega) (by omega)
  have z7 : (nxn 7 r).size ≤ 9223372036854775807 := nxn_le 7 hr
  have e7 : nx (nxn 7 r) = nxn 8 r := nx_nxn 7 r
  obtain ⟨l7, u7⟩ := vl_bound (nxn 7 r) (n := 4) (by decide)
  obtain ⟨x7, hx7⟩ : ∃ x, vl (nxn 7 r) 4 = x := ⟨_, rfl⟩
  rw [hx7] at l7 u7
  have f7 : fw .i64 (1 + x7) = 1 + x7 := fwI (by omega) (by omega)
  have z8 : (nxn 8 r).size ≤ 9223372036854775807 := nxn_le 8 hr
  have e8 : nx (nxn 8 r) = nxn 9 r := nx_nxn 8 r
  obtain ⟨l8, u8⟩ := vl_bound (nxn 8 r) (n := 3) (by decide)
  obtain ⟨x8, hx8⟩ : ∃ x, vl (nxn 8 r) 3 = x := ⟨_, rfl⟩
  rw [hx8] at l8 u8
  have f8 : fw .i64 (1 + x8) = 1 + x8 := fwI (by omega) (by omega)
  have z9 : (nxn 9 r).size ≤ 9223372036854775807 := nxn_le 9 hr
  have e9 : nx (nxn 9 r) = nxn 10 r := nx_nxn 9 r
  obtain ⟨l9, u9⟩ := vl_bound (nxn 9 r) (n := 3) (by decide)
  have z10 : (nxn 10 r).size ≤ 9223372036854775807 := nxn_le 10 hr
  have e10 : nx (nxn 10 r) = nxn 11 r := nx_nxn 10 r
  obtain ⟨l10, u10⟩ := vl_bound (nxn 10 r) (n := 3) (by decide)
  have z11 : (nxn 11 r).size ≤ 9223372036854775807 := nxn_le 11 hr
  have e11 : nx (nxn 11 r) = nxn 12 r := nx_nxn 11 r
  obtain ⟨l11, u11⟩ := vl_bound (nxn 11 r) (n := 8) (by decide)
  obtain ⟨x11, hx11⟩ : ∃ x, vl (nxn 11 r) 8 = x := ⟨_, rfl⟩
  rw [hx11] at l11 u11
  have f11 : fw .i64 (1 + x11) = 1 + x11 := fwI (by omega) (by omega)
  have z12 : (nxn 12 r).size ≤ 9223372036854775807 := nxn_le 12 hr
  have e12 : nx (nxn 12 r) = nxn 13 r := nx_nxn 12 r
  obtain ⟨l12, u12⟩ := vl_bound (nxn 12 r) (n := 8) (by decide)
  obtain ⟨x12, hx12⟩ : ∃ x, vl (nxn 12 r) 8 = x := ⟨_, rfl⟩
  rw [hx12] at l12 u12
  have f12 : fw .i64 (1 + x12) = 1 + x12 := fwI (by omega) (by omega)
  have z13 : (nxn 13 r).size ≤ 9223372036854775807 := nxn_le 13 hr
  have e13 : nx (nxn 13 r) = nxn 14 r := nx_nxn 13 r
  obtain ⟨l13, u13⟩ := vl_bound (nxn 13 r) (n := 8) (by decide)
  obtain ⟨x13, hx13⟩ : ∃ x, vl (nxn 13 r) 8 = x := ⟨_, rfl⟩
  rw [hx13] at l13 u13
  have f13 : fw .i64 (1 + x13) = 1 + x13 := fwI (by omega) (by omega)
  rw [hx2] at hg
  have ge : ¬ 1 + x2 = 3 := by omega
  have gu : fw .u8 (1 + x2) = 1 + x2 := fwB (by omega) (by omega)
  have li1 : fw .i64 1 = 1 := by decide
  have lu1 : fw .u8 1 = 1 := by decide
  have li2 : fw .i64 2 = 2 := by decide
  have lu2 : fw .u8 2 = 2 := by decide
  have li3 : fw .i64 3 = 3 := by decide
  have lu3 : fw .u8 3 = 3 := by decide
  have fu0 : fw .u64 (1 + x11) = 1 + x11 := fwU (by omega) (by omega)
  have fa0 : fw .u64 (0 + (1 + x11)) = 0 + (1 + x11) := fwU (by omega) (by omega)
  have fu1 : fw .u64 (1 + x12) = 1 + x12 := fwU (by omega) (by omega)
  have fa1 : fw .u64 (0 + (1 + x11) + (1 + x12)) = 0 + (1 + x11) + (1 + x12) := fwU (by omega) (by omega)
  have fu2 : fw .u64 (1 + x13) = 1 + x13 := fwU (by omega) (by omega)
  have fa2 : fw .u64 (0 + (1 + x11) + (1 + x12) + (1 + x13)) = 0 + (1 + x11) + (1 + x12) + (1 + x13) := fwU (by omega) (by omega)
  have hc : cfgS r = (⟨1 + x0, 1 + x1, 1 + x2, 0, 3, 0, [0 + (1 + x11), 0 + (1 + x11) + (1 + x12), 0 + (1 + x11) + (1 + x12) + (1 + x13)], x6, x7, x8, 0, 0, 0, 1 + x3, 1 + x4, x5⟩, nxn 14 r) := by
    have hx0' : vl r 4 = x0 := hx0
    simp only [cfgS, hg, if_pos, if_true, if_false, ↓reduceIte, cfgS2, nxn_add, Nat.reduceAdd, hk, nx_nxn, Int.reduceAdd, Int.reduceEq, Int.reduceToNat, cutsS, hn, hx0', hx1, hx2, hx3, hx4, hx5, hx6, hx7, hx8, hx11, hx12, hx13]
  rw [c19_cut]
  simp only [go_sem, ↓reduceIte, ↓reduceDIte, Nat.reduceAdd, Nat.reduceMul, Nat.reduceLT, Nat.reduceEqDiff, Nat.reduceLeDiff, Int.reduceAdd, Int.reduceLE, Int.reduceLT, Int.reduceEq, Int.reduceToNat, reduceCtorEq, c19_s0, c19_s1, c19_s2, c19_s3, c19_s4, c19_s5, c19_s6, c19_s7, c19_s8, c19_s9, c19_s10, c19_s11, c19_p12, c19_p13, c19_p14, c19_s15, c19_s16, c19_s17, c19_s18, c19_s19, c19_s20, c19_s21, appA, appNew, C42, takeK, hk, Option.isSome_some, hn, z0, e0, hx0, f0, z1, e1, hx1, f1, z2, e2, hx2, f2, z3, e3, hx3, f3, z4, e4, hx4, f4, z5, e5, hx5, f5, z6, e6, hx6, f6, z7, e7, hx7, f7, z8, e8, hx8, f8, z9, e9, z10, e10, z11, e11, hx11, f11, z12, e12, hx12, f12, z13, e13, hx13, f13, ge, gu, li1, lu1, li2, lu2, li3, lu3, fu0, fa0, fu1, fa1, fu2, fa2]
  refine unroll 4 ?_
  simp only [go_sem, ↓reduceIte, ↓reduceDIte, Nat.reduceAdd, Nat.reduceMul, Nat.reduceLT, Nat.reduceEqDiff, Nat.reduceLeDiff, Int.reduceAdd, Int.reduceLE, Int.reduceLT, Int.reduceEq, Int.reduceToNat, reduceCtorEq, c19_l26, c19_s22, c19_s23, c19_s24, c19_s25, appA, appNew, C42, takeK, hk, Option.isSome_some, hn, z0, e0, hx0, f0, z1, e1, hx1, f1, z2, e2, hx2, f2, z3, e3, hx3, f3, z4, e4, hx4, f4, z5, e5, hx5, f5, z6, e6, hx6, f6, z7, e7, hx7, f7, z8, e8, hx8, f8, z9, e9, z10, e10, z11, e11, hx11, f11, z12, e12, hx12, f12, z13, e13, hx13, f13, ge, gu, li1, lu1, li2, lu2, li3, lu3, fu0, fa0, fu1, fa1, fu2, fa2]
  refine tail19 (cv := (.sl (h.next + 8) 0 3 1 none)) (lo := h.next + 9) P h42 h43 hr hc ?_ ?_ ?_ ?_ ⟨?_, ?_, ⟨[.int .i64 0, .int .i64 0, .int .u8 0, .int .i64 0, .int .u8 0, .int .i64 0, .nils, .int .i64 0, .int .i64 0, .int .i64 0, .int .i64 0, .int .i64 0, .int .i64 0, .int .i64 0, .int .i64 0, .int .i64 0, .nils, .nils], rfl, ?_⟩, ?_, ?_, ?_, ⟨[], .nil, by intro a ha; simp [own] at ha, by intro i v p hv; simp at hv⟩, fun b hb => ?_⟩
  · simp only [go_sem, ↓reduceIte, ↓reduceDIte, Nat.reduceAdd, Nat.reduceMul, Nat.reduceLT, Nat.reduceEqDiff, Nat.reduceLeDiff, Int.reduceAdd, Int.reduceLE, Int.reduceLT, Int.reduceEq, Int.reduceToNat, reduceCtorEq]
  · simp only [go_sem, ↓reduceIte, ↓reduceDIte, Nat.reduceAdd, Nat.reduceMul, Nat.reduceLT, Nat.reduceEqDiff, Nat.reduceLeDiff, Int.reduceAdd, Int.reduceLE, Int.reduceLT, Int.reduceEq, Int.reduceToNat, reduceCtorEq]
  · simp only [go_sem, ↓reduceIte, ↓reduceDIte, Nat.reduceAdd, Nat.reduceMul, Nat.reduceLT, Nat.reduceEqDiff, Nat.reduceLeDiff, Int.reduceAdd, Int.reduceLE, Int.reduceLT, Int.reduceEq, Int.reduceToNat, reduceCtorEq]
  · simp only [go_sem, ↓reduceIte, ↓reduceDIte, Nat.reduceAdd, Nat.reduceMul, Nat.reduceLT, Nat.reduceEqDiff, Nat.reduceLeDiff, Int.reduceAdd, Int.reduceLE, Int.reduceLT, Int.reduceEq, Int.reduceToNat, reduceCtorEq]
  · refine ⟨?_, ?_, ?_, ?_, ?_, ?_, ?_, ?_, ?_, ?_, ?_⟩ <;> (first | omega | (show h.next + 9 ≤ h.next + 9; omega))
  · simp only [go_sem, ↓reduceIte, ↓reduceDIte, Nat.reduceAdd, Nat.reduceMul, Nat.reduceLT, Nat.reduceEqDiff, Nat.reduceLeDiff, Int.reduceAdd, Int.reduceLE, Int.reduceLT, Int.reduceEq, Int.reduceToNat, reduceCtorEq, rowL]
  · simp only [go_sem, ↓reduceIte, ↓reduceDIte, Nat.reduceAdd, Nat.reduceMul, Nat.reduceLT, Nat.reduceEqDiff, Nat.reduceLeDiff, Int.reduceAdd, Int.reduceLE, Int.reduceLT, Int.reduceEq, Int.reduceToNat, reduceCtorEq]
  · simp only [go_sem, ↓reduceIte, ↓reduceDIte, Nat.reduceAdd, Nat.reduceMul, Nat.reduceLT, Nat.reduceEqDiff, Nat.reduceLeDiff, Int.reduceAdd, Int.reduceLE, Int.reduceLT, Int.reduceEq, Int.reduceToNat, reduceCtorEq, rowL, cfgC]
  · refine .sl _ _ _ _ (.inl rfl) (by decide) rfl (by show h.next + 8 < h.next + 9; omega) ?_
    simp only [go_sem, ↓reduceIte, ↓reduceDIte, Nat.reduceAdd, Nat.reduceMul, Nat.reduceLT, Nat.reduceEqDiff, Nat.reduceLeDiff, Int.reduceAdd, Int.reduceLE, Int.reduceLT, Int.reduceEq, Int.reduceToNat, reduceCtorEq, rowL, List.map_cons, List.map_nil]
  · intro a ha; simp only [own, Option.some.injEq] at ha; omega
  · have o0 : ¬ b = h.next := by omega
    have o1 : ¬ b = h.next + 1 := by omega
    have o2 : ¬ b = h.next + 2 := by omega
    have o3 : ¬ b = h.next + 3 := by omega
    have o4 : ¬ b = h.next + 4 := by omega
    have o5 : ¬ b = h.next + 5 := by omega
    have o6 : ¬ b = h.next + 6 := by omega
    have o7 : ¬ b = h.next + 7 := by omega
    have o8 : ¬ b = h.next + 8 := by omega
    simp only [go_sem, ↓reduceIte, ↓reduceDIte, Nat.reduceAdd, Nat.reduceMul, Nat.reduceLT, Nat.reduceEqDiff, Nat.reduceLeDiff, Int.reduceAdd, Int.reduceLE, Int.reduceLT, Int.reduceEq, Int.reduceToNat, reduceCtorEq, o0, o1, o2, o3, o4, o5, o6, o7, o8]
set_option maxRecDepth 10000 in
set_option maxHeartbeats 1000000 in
theorem w19_100 (P : Program) {call : CallE} (h42 : Has call 42 takeK)
    (h43 : ∀ h B t r, h.t.get B = some (rowL [.str r] t) → B < h.next → r.size ≤ 9223372036854775807 → ∃ v h', call 43 [.ptr B 0] h = some (v, h') ∧ Post41 B t r h v h')
    {h : H} {r : ByteArray} (hr : r.size ≤ 9223372036854775807) (hg : vl (nxn 2 r) 3 = 2) (hk : vl (nxn 10 r) 3 = 0) :
    WF P call c19 [.str (nxn 0 r)] h (Post18 r h) := by
  have C42 : ∀ args h, (takeK args h).isSome = true → call 42 args h = takeK args h := fun _ _ hs => h42.eq hs
  have z0 : (nxn 0 r).size ≤ 9223372036854775807 := nxn_le 0 hr
  have e0 : nx (nxn 0 r) = nxn 1 r := nx_nxn 0 r
  obtain ⟨l0, u0⟩ := vl_bound (nxn 0 r) (n := 4) (by decide)
  obtain ⟨x0, hx0⟩ : ∃ x, vl (nxn 0 r) 4 = x := ⟨_, rfl⟩
  rw [hx0] at l0 u0
  have f0 : fw .i64 (1 + x0) = 1 + x0 := fwI (by omega) (by omega)
  have z1 : (nxn 1 r).size ≤ 9223372036854775807 := nxn_le 1 hr
  have e1 : nx (nxn 1 r) = nxn 2 r := nx_nxn 1 r
  obtain ⟨l1, u1⟩ := vl_bound (nxn 1 r) (n := 4) (by decide)
  obtain ⟨x1, hx1⟩ : ∃ x, vl (nxn 1 r) 4 = x := ⟨_, rfl⟩
  rw [hx1] at l1 u1
  have f1 : fw .i64 (1 + x1) = 1 + x1 := fwI (by omega) (by omega)
  have z2 : (nxn 2 r).size ≤ 9223372036854775807 := nxn_le 2 hr
  have e2 : nx (nxn 2 r) = nxn 3 r := nx_nxn 2 r
  obtain ⟨l2, u2⟩ := vl_bound (nxn 2 r) (n := 3) (by decide)
  have z3 : (nxn 3 r).size ≤ 9223372036854775807 := nxn_le 3 hr
  have e3 : nx (nxn 3 r) = nxn 4 r := nx_nxn 3 r
  obtain ⟨l3, u3⟩ := vl_bound (nxn 3 r) (n := 4) (by decide)
  obtain ⟨x3, hx3⟩ : ∃ x, vl (nxn 3 r) 4 = x := ⟨_, rfl⟩
  rw [hx3] at l3 u3
  have f3 : fw .i64 (1 + x3) = 1 + x3 := fwI (by omega) (by omega)
  have z4 : (nxn 4 r).size ≤ 9223372036854775807 := nxn_le 4 hr
  have e4 : nx (nxn 4 r) = nxn 5 r := nx_nxn 4 r
  obtain ⟨l4, u4⟩ := vl_bound (nxn 4 r) (n := 3) (by decide)
  obtain ⟨x4, hx4⟩ : ∃ x, vl (nxn 4 r) 3 = x := ⟨_, rfl⟩
  rw [hx4] at l4 u4
  have f4 : fw .i64 (1 + x4) = 1 + x4 := fwI (by omega) (by omega)
  have z5 : (nxn 5 r).size ≤ 9223372036854775807 := nxn_le 5 hr
  have e5 : nx (nxn 5 r) = nxn 6 r := nx_nxn 5 r
  obtain ⟨l5, u5⟩ := vl_bound (nxn 5 r) (n := 8) (by decide)
  obtain ⟨x5, hx5⟩ : ∃ x, vl (nxn 5 r) 8 = x := ⟨_, rfl⟩
  rw [hx5] at l5 u5
  have f5 : fw .i64 (1 + x5) = 1 + x5 := fwI (by omega) (by omega)
  have z6 : (nxn 6 r).size ≤ 9223372036854775807 := nxn_le 6 hr
  have e6 : nx (nxn 6 r) = nxn 7 r := nx_nxn 6 r
  obtain ⟨l6, u6⟩ := vl_bound (nxn 6 r) (n := 4) (by decide)
  obtain ⟨x6, hx6⟩ : ∃ x, vl (nxn 6 r) 4 = x := ⟨_, rfl⟩
  rw [hx6] at l6 u6
  have f6 : fw .i64 (1 + x6) = 1 + x6 := fwI (by omega) (by omega)
  have z7 : (nxn 7 r).size ≤ 9223372036854775807 := nxn_le 7 hr
  have e7 : nx (nxn 7 r) = nxn 8 r := nx_nxn 7 r
  obtain ⟨l7, u7⟩ := vl_bound (nxn 7 r) (n := 8) (by decide)
  obtain ⟨x7, hx7⟩ : ∃ x, vl (nxn 7 r) 8 = x := ⟨_, rfl⟩
  rw [hx7] at l7 u7
  have f7 : fw .i64 (1 + x7) = 1 + x7 := fwI (by omega) (by omega)
  have z8 : (nxn 8 r).size ≤ 9223372036854775807 := nxn_le 8 hr
  have e8 : nx (nxn 8 r) = nxn 9 r := nx_nxn 8 r
  obtain ⟨l8, u8⟩ := vl_bound (nxn 8 r) (n := 4) (by decide)
  obtain ⟨x8, hx8⟩ : ∃ x, vl (nxn 8 r) 4 = x := ⟨_, rfl⟩
  rw [hx8] at l8 u8
  have f8 : fw .i64 (1 + x8) = 1 + x8 := fwI (by omega) (by omega)
  have z9 : (nxn 9 r).size ≤ 9223372036854775807 := nxn_le 9 hr
  have e9 : nx (nxn 9 r) = nxn 10 r := nx_nxn 9 r
  obtain ⟨l9, u9⟩ := vl_bound (nxn 9 r) (n := 3) (by decide)
  obtain ⟨x9, hx9⟩ : ∃ x, vl (nxn 9 r) 3 = x := ⟨_, rfl⟩
  rw [hx9] at l9 u9
  have f9 : fw .i64 (1 + x9) = 1 + x9 := fwI (by omega) (by omega)
  have z10 : (nxn 10 r).size ≤ 9223372036854775807 := nxn_le 10 hr
  have e10 : nx (nxn 10 r) = nxn 11 r := nx_nxn 10 r
  obtain ⟨l10, u10⟩ := vl_bound (nxn 10 r) (n := 3) (by decide)
  have li1 : fw .i64 1 = 1 := by decide
  have lu1 : fw .u8 1 = 1 := by decide
  have li2 : fw .i64 2 = 2 := by decide
  have lu2 : fw .u8 2 = 2 := by decide
  have li3 : fw .i64 3 = 3 := by decide
  have lu3 : fw .u8 3 = 3 := by decide
  have hc : cfgS r = (⟨1 + x0, 1 + x1, 3, 1 + x3, 1, 0, [], x7, x8, x9, 0, 0, 0, 1 + x4, 1 + x5, x6⟩, nxn 11 r) := by
    have hx0' : vl r 4 = x0 := hx0
    simp only [cfgS, hg, if_pos, if_true, if_false, ↓reduceIte, cfgS2, nxn_add, Nat.reduceAdd, hk, nx_nxn, Int.reduceAdd, Int.reduceEq, Int.reduceToNat, cutsS, hx0', hx1, hx3, hx4, hx5, hx6, hx7, hx8, hx9]
  rw [c19_cut]
  simp only [go_sem, ↓reduceIte, ↓reduceDIte, Nat.reduceAdd, Nat.reduceMul, Nat.reduceLT, Nat.reduceEqDiff, Nat.reduceLeDiff, Int.reduceAdd, Int.reduceLE, Int.reduceLT, Int.reduceEq, Int.reduceToNat, reduceCtorEq, c19_s0, c19_s1, c19_s2, c19_s3, c19_s4, c19_s5, c19_s6, c19_s7, c19_s8, c19_s9, c19_s10, c19_s11, c19_p12, c19_p13, c19_p14, c19_s15, c19_s16, c19_s17, c19_s18, c19_s19, c19_s20, c19_s21, appA, appNew, C42, takeK, hk, Option.isSome_some, hg, z0, e0, hx0, f0, z1, e1, hx1, f1, z2, e2, z3, e3, hx3, f3, z4, e4, hx4, f4, z5, e5, hx5, f5, z6, e6, hx6, f6, z7, e7, hx7, f7, z8, e8, hx8, f8, z9, e9, hx9, f9, z10, e10, li1, lu1, li2, lu2, li3, lu3]
  refine tail19 (cv := .nils) (lo := h.next + 3) P h42 h43 hr hc ?_ ?_ ?_ ?_ ⟨?_, ?_, ⟨[.int .i64 0, .int .i64 0, .int .u8 0, .int .i64 0, .int .u8 0, .int .i64 0, .nils, .int .i64 0, .int .i64 0, .int .i64 0, .int .i64 0, .int .i64 0, .int .i64 0, .int .i64 0, .int .i64 0, .int .i64 0, .nils, .nils], rfl, ?_⟩, ?_, ?_, ?_, ⟨[], .nil, by intro a ha; simp [own] at ha, by intro i v p hv; simp at hv⟩, fun b hb => ?_⟩
  · simp only [go_sem, ↓reduceIte, ↓reduceDIte, Nat.reduceAdd, Nat.reduceMul, Nat.reduceLT, Nat.reduceEqDiff, Nat.reduceLeDiff, Int.reduceAdd, Int.reduceLE, Int.reduceLT, Int.reduceEq, Int.reduceToNat, reduceCtorEq]
  · simp only [go_sem, ↓reduceIte, ↓reduceDIte, Nat.reduceAdd, Nat.reduceMul, Nat.reduceLT, Nat.reduceEqDiff, Nat.reduceLeDiff, Int.reduceAdd, Int.reduceLE, Int.reduceLT, Int.reduceEq, Int.reduceToNat, reduceCtorEq]
  · simp only [go_sem, ↓reduceIte, ↓reduceDIte, Nat.reduceAdd, Nat.reduceMul, Nat.reduceLT, Nat.reduceEqDiff, Nat.reduceLeDiff, Int.reduceAdd, Int.reduceLE, Int.reduceLT, Int.reduceEq, Int.reduceToNat, reduceCtorEq]
  · simp only [go_sem, ↓reduceIte, ↓reduceDIte, Nat.reduceAdd, Nat.reduceMul, Nat.reduceLT, Nat.reduceEqDiff, Nat.reduceLeDiff, Int.reduceAdd, Int.reduceLE, Int.reduceLT, Int.reduceEq, Int.reduceToNat, reduceCtorEq]
  · refine ⟨?_, ?_, ?_, ?_, ?_, ?_, ?_, ?_, ?_, ?_, ?_⟩ <;> (first | omega | (show h.next + 3 ≤ h.next + 3; omega))
  · simp only [go_sem, ↓reduceIte, ↓reduceDIte, Nat.reduceAdd, Nat.reduceMul, Nat.reduceLT, Nat.reduceEqDiff, Nat.reduceLeDiff, Int.reduceAdd, Int.reduceLE, Int.reduceLT, Int.reduceEq, Int.reduceToNat, reduceCtorEq, rowL]
  · simp only [go_sem, ↓reduceIte, ↓reduceDIte, Nat.reduceAdd, Nat.reduceMul, Nat.reduceLT, Nat.reduceEqDiff, Nat.reduceLeDiff, Int.reduceAdd, Int.reduceLE, Int.reduceLT, Int.reduceEq, Int.reduceToNat, reduceCtorEq]
  · simp only [go_sem, ↓reduceIte, ↓reduceDIte, Nat.reduceAdd, Nat.reduceMul, Nat.reduceLT, Nat.reduceEqDiff, Nat.reduceLeDiff, Int.reduceAdd, Int.reduceLE, Int.reduceLT, Int.reduceEq, Int.reduceToNat, reduceCtorEq, rowL, cfgC]
  · exact .nil
  · intro a ha; simp [own] at ha
  · have o0 : ¬ b = h.next := by omega
    have o1 : ¬ b = h.next + 1 := by omega
    have o2 : ¬ b = h.next + 2 := by omega
    simp only [go_sem, ↓reduceIte, ↓reduceDIte, Nat.reduceAdd, Nat.reduceMul, Nat.reduceLT, Nat.reduceEqDiff, Nat.reduceLeDiff, Int.reduceAdd, Int.reduceLE, Int.reduceLT, Int.reduceEq, Int.reduceToNat, reduceCtorEq, o0, o1, o2]
set_option maxRecDepth 10000 in
set_option maxHeartbeats 1000000 in
theorem w19_110 (P : Program) {call : CallE} (h42 : Has call 42 takeK)
    (h43 : ∀ h B t r, h.t.get B = some (rowL [.str r] t) → B < h.next → r.size ≤ 9223372036854775807 → ∃ v h', call 43 [.ptr B 0] h = some (v, h') ∧ Post41 B t r h v h')
    {h : H} {r : ByteArray} (hr : r.size ≤ 9223372036854775807) (hg : vl (nxn 2 r) 3 = 2) (hk : vl (nxn 10 r) 3 = 1) :
    WF P call c19 [.str (nxn 0 r)] h (Post18 r h) := by
  have C42 : ∀ args h, (takeK args h).isSome = true → call 42 args h = takeK args h := fun _ _ hs => h42.eq hs
  have z0 : (nxn 0 r).size ≤ 9223372036854775807 := nxn_le 0 hr
  have e0 : nx (nxn 0 r) = nxn 1 r := nx_nxn 0 r
  obtain ⟨l0, u0⟩ := vl_bound (nxn 0 r) (n := 4) (by decide)
  obtain ⟨x0, hx0⟩ : ∃ x, vl (nxn 0 r) 4 = x := ⟨_, rfl⟩
  rw [hx0] at l0 u0
  have f0 : fw .i64 (1 + x0) = 1 + x0 := fwI (by omega) (by omega)
  have z1 : (nxn 1 r).size ≤ 9223372036854775807 := nxn_le 1 hr
  have e1 : nx (nxn 1 r) = nxn 2 r := nx_nxn 1 r
  obtain ⟨l1, u1⟩ := vl_bound (nxn 1 r) (n := 4) (by decide)
  obtain ⟨x1, hx1⟩ : ∃ x, vl (nxn 1 r) 4 = x := ⟨_, rfl⟩
  rw [hx1] at l1 u1
  have f1 : fw .i64 (1 + x1) = 1 + x1 := fwI (by omega) (by omega)
  have z2 : (nxn 2 r).size ≤ 9223372036854775807 := nxn_le 2 hr
  have e2 : nx (nxn 2 r) = nxn 3 r := nx_nxn 2 r
  obtain ⟨l2, u2⟩ := vl_bound (nxn 2 r) (n := 3) (by decide)
  have z3 : (nxn 3 r).size ≤ 9223372036854775807 := nxn_le 3 hr
  have e3 : nx (nxn 3 r) = nxn 4 r := nx_nxn 3 r
  obtain ⟨l3, u3⟩ := vl_bound (nxn 3 r) (n := 4) (by decide)
  obtain ⟨x3, hx3⟩ : ∃ x, vl (nxn 3 r) 4 = x := ⟨_, rfl⟩
  rw [hx3] at l3 u3
  have f3 : fw .i64 (1 + x3) = 1 + x3 := fwI (by omega) (by omega)
  have z4 : (nxn 4 r).size ≤ 9223372036854775807 := nxn_le 4 hr
  have e4 : nx (nxn 4 r) = nxn 5 r := nx_nxn 4 r
  obtain ⟨l4, u4⟩ := vl_bound (nxn 4 r) (n := 3) (by decide)
  obtain ⟨x4, hx4⟩ : ∃ x, vl (nxn 4 r) 3 = x := ⟨_, rfl⟩
  rw [hx4] at l4 u4
  have f4 : fw .i64 (1 + x4) = 1 + x4 := fwI (by omega) (by omega)
  have z5 : (nxn 5 r).size ≤ 9223372036854775807 := nxn_le 5 hr
  have e5 : nx (nxn 5 r) = nxn 6 r := nx_nxn 5 r
  obtain ⟨l5, u5⟩ := vl_bound (nxn 5 r) (n := 8) (by decide)
  obtain ⟨x5, hx5⟩ : ∃ x, vl (nxn 5 r) 8 = x := ⟨_, rfl⟩
  rw [hx5] at l5 u5
  have f5 : fw .i64 (1 + x5) = 1 + x5 := fwI (by omega) (by omega)
  have z6 : (nxn 6 r).size ≤ 9223372036854775807 := nxn_le 6 hr
  have e6 : nx (nxn 6 r) = nxn 7 r := nx_nxn 6 r
  obtain ⟨l6, u6⟩ := vl_bound (nxn 6 r) (n := 4) (by decide)
  obtain ⟨x6, hx6⟩ : ∃ x, vl (nxn 6 r) 4 = x := ⟨_, rfl⟩
  rw [hx6] at l6 u6
  have f6 : fw .i64 (1 + x6) = 1 + x6 := fwI (by omega) (by omega)
  have z7 : (nxn 7 r).size ≤ 9223372036854775807 := nxn_le 7 hr
  have e7 : nx (nxn 7 r) = nxn 8 r := nx_nxn 7 r
  obtain ⟨l7, u7⟩ := vl_bound (nxn 7 r) (n := 8) (by decide)
  obtain ⟨x7, hx7⟩ : ∃ x, vl (nxn 7 r) 8 = x := ⟨_, rfl⟩
  rw [hx7] at l7 u7
  have f7 : fw .i64 (1 + x7) = 1 + x7 := fwI (by omega) (by omega)
  have z8 : (nxn 8 r).size ≤ 9223372036854775807 := nxn_le 8 hr
  have e8 : nx (nxn 8 r) = nxn 9 r := nx_nxn 8 r
  obtain ⟨l8, u8⟩ := vl_bound (nxn 8 r) (n := 4) (by decide)
  obtain ⟨x8, hx8⟩ : ∃ x, vl (nxn 8 r) 4 = x := ⟨_, rfl⟩
  rw [hx8] at l8 u8
  have f8 : fw .i64 (1 + x8) = 1 + x8 := fwI (by omega) (by omega)
  have z9 : (nxn 9 r).size ≤ 9223372036854775807 := nxn_le 9 hr
  have e9 : nx (nxn 9 r) = nxn 10 r := nx_nxn 9 r
  obtain ⟨l9, u9⟩ := vl_bound (nxn 9 r) (n := 3) (by decide)
  obtain ⟨x9, hx9⟩ : ∃ x, vl (nxn 9 r) 3 = x := ⟨_, rfl⟩
  rw [hx9] at l9 u9
  have f9 : fw .i64 (1 + x9) = 1 + x9 := fwI (by omega) (by omega)
  have z10 : (nxn 10 r).size ≤ 9223372036854775807 := nxn_le 10 hr
  have e10 : nx (nxn 10 r) = nxn 11 r := nx_nxn 10 r
  obtain ⟨l10, u10⟩ := vl_bound (nxn 10 r) (n := 3) (by decide)
  have z11 : (nxn 11 r).size ≤ 9223372036854775807 := nxn_le 11 hr
  have e11 : nx (nxn 11 r) = nxn 12 r := nx_nxn 11 r
  obtain ⟨l11, u11⟩ := vl_bound (nxn 11 r) (n := 5) (by decide)
  obtain ⟨x11, hx11⟩ : ∃ x, vl (nxn 11 r) 5 = x := ⟨_, rfl⟩
  rw [hx11] at l11 u11
  have f11 : fw .i64 (1 + x11) = 1 + x11 := fwI (by omega) (by omega)
  have li1 : fw .i64 1 = 1 := by decide
  have lu1 : fw .u8 1 = 1 := by decide
  have li2 : fw .i64 2 = 2 := by decide
  have lu2 : fw .u8 2 = 2 := by decide
  have li3 : fw .i64 3 = 3 := by decide
  have lu3 : fw .u8 3 = 3 := by decide
  have hc : cfgS r = (⟨1 + x0, 1 + x1, 3, 1 + x3, 2, 1 + x11, [], x7, x8, x9, 0, 0, 0, 1 + x4, 1 + x5, x6⟩, nxn 12 r) := by
    have hx0' : vl r 4 = x0 := hx0
    simp only [cfgS, hg, if_pos, if_true, if_false, ↓reduceIte, cfgS2, nxn_add, Nat.reduceAdd, hk, nx_nxn, Int.reduceAdd, Int.reduceEq, Int.reduceToNat, cutsS, hx0', hx1, hx3, hx4, hx5, hx6, hx7, hx8, hx9, hx11]
  rw [c19_cut]
  simp only [go_sem, ↓reduceIte, ↓reduceDIte, Nat.reduceAdd, Nat.reduceMul, Nat.reduceLT, Nat.reduceEqDiff, Nat.reduceLeDiff, Int.reduceAdd, Int.reduceLE, Int.reduceLT, Int.reduceEq, Int.reduceToNat, reduceCtorEq, c19_s0, c19_s1, c19_s2, c19_s3, c19_s4, c19_s5, c19_s6, c19_s7, c19_s8, c19_s9, c19_s10, c19_s11, c19_p12, c19_p13, c19_p14, c19_s15, c19_s16, c19_s17, c19_s18, c19_s19, c19_s20, c19_s21, appA, appNew, C42, takeK, hk, Option.isSome_some, hg, z0, e0, hx0, f0, z1, e1, hx1, f1, z2, e2, z3, e3, hx3, f3, z4, e4, hx4, f4, z5, e5, hx5, f5, z6, e6, hx6, f6, z7, e7, hx7, f7, z8, e8, hx8, f8, z9, e9, hx9, f9, z10, e10, z11, e11, hx11, f11, li1, lu1, li2, lu2, li3, lu3]
  refine tail19 (cv := .nils) (lo := h.next + 3) P h42 h43 hr hc ?_ ?_ ?_ ?_ ⟨?_, ?_, ⟨[.int .i64 0, .int .i64 0, .int .u8 0, .int .i64 0, .int .u8 0, .int .i64 0, .nils, .int .i64 0, .int .i64 0, .int .i64 0, .int .i64 0, .int .i64 0, .int .i64 0, .int .i64 0, .int .i64 0, .int .i64 0, .nils, .nils], rfl, ?_⟩, ?_, ?_, ?_, ⟨[], .nil, by intro a ha; simp [own] at ha, by intro i v p hv; simp at hv⟩, fun b hb => ?_⟩
  · simp only [go_sem, ↓reduceIte, ↓reduceDIte, Nat.reduceAdd, Nat.reduceMul, Nat.reduceLT, Nat.reduceEqDiff, Nat.reduceLeDiff, Int.reduceAdd, Int.reduceLE, Int.reduceLT, Int.reduceEq, Int.reduceToNat, reduceCtorEq]
  · simp only [go_sem, ↓reduceIte, ↓reduceDIte, Nat.reduceAdd, Nat.reduceMul, Nat.reduceLT, Nat.reduceEqDiff, Nat.reduceLeDiff, Int.reduceAdd, Int.reduceLE, Int.reduceLT, Int.reduceEq, Int.reduceToNat, reduceCtorEq]
  · simp only [go_sem, ↓reduceIte, ↓reduceDIte, Nat.reduceAdd, Nat.reduceMul, Nat.reduceLT, Nat.reduceEqDiff, Nat.reduceLeDiff, Int.reduceAdd, Int.reduceLE, Int.reduceLT, Int.reduceEq, Int.reduceToNat, reduceCtorEq]
  · simp only [go_sem, ↓reduceIte, ↓reduceDIte, Nat.reduceAdd, Nat.reduceMul, Nat.reduceLT, Nat.reduceEqDiff, Nat.reduceLeDiff, Int.reduceAdd, Int.reduceLE, Int.reduceLT, Int.reduceEq, Int.reduceToNat, reduceCtorEq]
  · refine ⟨?_, ?_, ?_, ?_, ?_, ?_, ?_, ?_, ?_, ?_, ?_⟩ <;> (first | omega | (show h.next + 3 ≤ h.next + 3; omega))
  · simp only [go_sem, ↓reduceIte, ↓reduceDIte, Nat.reduceAdd, Nat.reduceMul, Nat.reduceLT, Nat.reduceEqDiff, Nat.reduceLeDiff, Int.reduceAdd, Int.reduceLE, Int.reduceLT, Int.reduceEq, Int.reduceToNat, reduceCtorEq, rowL]
  · simp only [go_sem, ↓reduceIte, ↓reduceDIte, Nat.reduceAdd, Nat.reduceMul, Nat.reduceLT, Nat.reduceEqDiff, Nat.reduceLeDiff, Int.reduceAdd, Int.reduceLE, Int.reduceLT, Int.reduceEq, Int.reduceToNat, reduceCtorEq]
  · simp only [go_sem, ↓reduceIte, ↓reduceDIte, Nat.reduceAdd, Nat.reduceMul, Nat.reduceLT, Nat.reduceEqDiff, Nat.reduceLeDiff, Int.reduceAdd, Int.reduceLE, Int.reduceLT, Int.reduceEq, Int.reduceToNat, reduceCtorEq, rowL, cfgC]
  · exact .nil
  · intro a ha; simp [own] at ha
  · have o0 : ¬ b = h.next := by omega
    have o1 : ¬ b = h.next + 1 := by omega
    have o2 : ¬ b = h.next + 2 := by omega
    simp only [go_sem, ↓reduceIte, ↓reduceDIte, Nat.reduceAdd, Nat.reduceMul, Nat.reduceLT, Nat.reduceEqDiff, Nat.reduceLeDiff, Int.reduceAdd, Int.reduceLE, Int.reduceLT, Int.reduceEq, Int.reduceToNat, reduceCtorEq, o0, o1, o2]
set_option maxRecDepth 10000 in
set_option maxHeartbeats 1000000 in
theorem w19_120 (P : Program) {call : CallE} (h42 : Has call 42 takeK)
    (h43 : ∀ h B t r, h.t.get B = some (rowL [.str r] t) → B < h.next → r.size ≤ 9223372036854775807 → ∃ v h', call 43 [.ptr B 0] h = some (v, h') ∧ Post41 B t r h v h')
    {h : H} {r : ByteArray} (hr : r.size ≤ 9223372036854775807) (hg : vl (nxn 2 r) 3 = 2) (hk : vl (nxn 10 r) 3 = 2) (hn : vl (nxn 11 r) 3 = 0) :
    WF P call c19 [.str (nxn 0 r)] h (Post18 r h) := by
  have C42 : ∀ args h, (takeK args h).isSome = true → call 42 args h = takeK args h := fun _ _ hs => h42.eq hs
  have z0 : (nxn 0 r).size ≤ 9223372036854775807 := nxn_le 0 hr
  have e0 : nx (nxn 0 r) = nxn 1 r := nx_nxn 0 r
  obtain ⟨l0, u0⟩ := vl_bound (nxn 0 r) (n := 4) (by decide)
  obtain ⟨x0, hx0⟩ : ∃ x, vl (nxn 0 r) 4 = x := ⟨_, rfl⟩
  rw [hx0] at l0 u0
  have f0 : fw .i64 (1 + x0) = 1 + x0 := fwI (by omega) (by omega)
  have z1 : (nxn 1 r).size ≤ 9223372036854775807 := nxn_le 1 hr
  have e1 : nx (nxn 1 r) = nxn 2 r := nx_nxn 1 r
  obtain ⟨l1, u1⟩ := vl_bound (nxn 1 r) (n := 4) (by decide)
  obtain ⟨x1, hx1⟩ : ∃ x, vl (nxn 1 r) 4 = x := ⟨_, rfl⟩
  rw [hx1] at l1 u1
  have f1 : fw .i64 (1 + x1) = 1 + x1 := fwI (by omega) (by omega)
  have z2 : (nxn 2 r).size ≤ 9223372036854775807 := nxn_le 2 hr
  have e2 : nx (nxn 2 r) = nxn 3 r := nx_nxn 2 r
  obtain ⟨l2, u2⟩ := vl_bound (nxn 2 r) (n := 3) (by decide)
  have z3 : (nxn 3 r).size ≤ 9223372036854775807 := nxn_le 3 hr
  have e3 : nx (nxn 3 r) = nxn 4 r := nx_nxn 3 r
  obtain ⟨l3, u3⟩ := vl_bound (nxn 3 r) (n := 4) (by decide)
  obtain ⟨x3, hx3⟩ : ∃ x, vl (nxn 3 r) 4 = x := ⟨_, rfl⟩
  rw [hx3] at l3 u3
  have f3 : fw .i64 (1 + x3) = 1 + x3 := fwI (by omega) (by omega)
  have z4 : (nxn 4 r).size ≤ 9223372036854775807 := nxn_le 4 hr
  have e4 : nx (nxn 4 r) = nxn 5 r := nx_nxn 4 r
  obtain ⟨l4, u4⟩ := vl_bound (nxn 4 r) (n := 3) (by decide)
  obtain ⟨x4, hx4⟩ : ∃ x, vl (nxn 4 r) 3 = x := ⟨_, rfl⟩
  rw [hx4] at l4 u4
  have f4 : fw .i64 (1 + x4) = 1 + x4 := fwI (by omega) (by omega)
  have z5 : (nxn 5 r).size ≤ 9223372036854775807 := nxn_le 5 hr
  have e5 : nx (nxn 5 r) = nxn 6 r := nx_nxn 5 r
  obtain ⟨l5, u5⟩ := vl_bound (nxn 5 r) (n := 8) (by decide)
  obtain ⟨x5, hx5⟩ : ∃ x, vl (nxn 5 r) 8 = x := ⟨_, rfl⟩
  rw [hx5] at l5 u5
  have f5 : fw .i64 (1 + x5) = 1 + x5 := fwI (by omega) (by omega)
  have z6 : (nxn 6 r).size ≤ 9223372036854775807 := nxn_le 6 hr
  have e6 : nx (nxn 6 r) = nxn 7 r := nx_nxn 6 r
  obtain ⟨l6, u6⟩ := vl_bound (nxn 6 r) (n := 4) (by decide)
  obtain ⟨x6, hx6⟩ : ∃ x, vl (nxn 6 r) 4 = x := ⟨_, rfl⟩
  rw [hx6] at l6 u6
  have f6 : fw .i64 (1 + x6) = 1 + x6 := fwI (by omega) (by omega)
  have z7 : (nxn 7 r).size ≤ 9223372036854775807 := nxn_le 7 hr
  have e7 : nx (nxn 7 r) = nxn 8 r := nx_nxn 7 r
  obtain ⟨l7, u7⟩ := vl_bound (nxn 7 r) (n := 8) (by decide)
  obtain ⟨x7, hx7⟩ : ∃ x, vl (nxn 7 r) 8 = x := ⟨_, rfl⟩
  rw [hx7] at l7 u7
  have f7 : fw .i64 (1 + x7) = 1 + x7 := fwI (by omega) (by omega)
  have z8 : (nxn 8 r).size ≤ 9223372036854775807 := nxn_le 8 hr
  have e8 : nx (nxn 8 r) = nxn 9 r := nx_nxn 8 r
  obtain ⟨l8, u8⟩ := vl_bound (nxn 8 r) (n := 4) (by decide)
  obtain ⟨x8, hx8⟩ : ∃ x, vl (nxn 8 r) 4 = x := ⟨_, rfl⟩
  rw [hx8] at l8 u8
  have f8 : fw .i64 (1 + x8) = 1 + x8 := fwI (by omega) (by omega)
  have z9 : (nxn 9 r).size ≤ 9223372036854775807 := nxn_le 9 hr
  have e9 : nx (nxn 9 r) = nxn 10 r := nx_nxn 9 r
  obtain ⟨l9, u9⟩ := vl_bound (nxn 9 r) (n := 3) (by decide)
  obtain ⟨x9, hx9⟩ : ∃ x, vl (nxn 9 r) 3 = x := ⟨_, rfl⟩
  rw [hx9] at l9 u9
  have f9 : fw .i64 (1 + x9) = 1 + x9 := fwI (by omega) (by omega)
  have z10 : (nxn 10 r).size ≤ 9223372036854775807 := nxn_le 10 hr
  have e10 : nx (nxn 10 r) = nxn 11 r := nx_nxn 10 r
  obtain ⟨l10, u10⟩ := vl_bound (nxn 10 r) (n := 3) (by decide)
  have z11 : (nxn 11 r).size ≤ 9223372036854775807 := nxn_le 11 hr
  have e11 : nx (nxn 11 r) = nxn 12 r := nx_nxn 11 r
  obtain ⟨l11, u11⟩ := vl_bound (nxn 11 r) (n := 3) (by decide)
  have z12 : (nxn 12 r).size ≤ 9223372036854775807 := nxn_le 12 hr
  have e12 : nx (nxn 12 r) = nxn 13 r := nx_nxn 12 r
  obtain ⟨l12, u12⟩ := vl_bound (nxn 12 r) (n := 8) (by decide)
  obtain ⟨x12, hx12⟩ : ∃ x, vl (nxn 12 r) 8 = x := ⟨_, rfl⟩
  rw [hx12] at l12 u12
  have f12 : fw .i64 (1 + x12) = 1 + x12 := fwI (by omega) (by omega)
  have li1 : fw .i64 1 = 1 := by decide
  have lu1 : fw .u8 1 = 1 := by decide
  have li2 : fw .i64 2 = 2 := by decide
  have lu2 : fw .u8 2 = 2 := by decide
  have li3 : fw .i64 3 = 3 := by decide
  have lu3 : fw .u8 3 = 3 := by decide
  have fu0 : fw .u64 (1 + x12) = 1 + x12 := fwU (by omega) (by omega)
  have fa0 : fw .u64 (0 + (1 + x12)) = 0 + (1 + x12) := fwU (by omega) (by omega)
  have hc : cfgS r = (⟨1 + x0, 1 + x1, 3, 1 + x3, 3, 0, [0 + (1 + x12)], x7, x8, x9, 0, 0, 0, 1 + x4, 1 + x5, x6⟩, nxn 13 r) := by
    have hx0' : vl r 4 = x0 := hx0
    simp only [cfgS, hg, if_pos, if_true, if_false, ↓reduceIte, cfgS2, nxn_add, Nat.reduceAdd, hk, nx_nxn, Int.reduceAdd, Int.reduceEq, Int.reduceToNat, cutsS, hn, hx0', hx1, hx3, hx4, hx5, hx6, hx7, hx8, hx9, hx12]
  rw [c19_cut]
  simp only [go_sem, ↓reduceIte, ↓reduceDIte, Nat.reduceAdd, Nat.reduceMul, Nat.reduceLT, Nat.reduceEqDiff, Nat.reduceLeDiff, Int.reduceAdd, Int.reduceLE, Int.reduceLT, Int.reduceEq, Int.reduceToNat, reduceCtorEq, c19_s0, c19_s1, c19_s2, c19_s3, c19_s4, c19_s5, c19_s6, c19_s7, c19_s8, c19_s9, c19_s10, c19_s11, c19_p12, c19_p13, c19_p14, c19_s15, c19_s16, c19_s17, c19_s18, c19_s19, c19_s20, c19_s21, appA, appNew, C42, takeK, hk, Option.isSome_some, hg, hn, z0, e0, hx0, f0, z1, e1, hx1, f1, z2, e2, z3, e3, hx3, f3, z4, e4, hx4, f4, z5, e5, hx5, f5, z6, e6, hx6, f6, z7, e7, hx7, f7, z8, e8, hx8, f8, z9, e9, hx9, f9, z10, e10, z11, e11, z12, e12, hx12, f12, li1, lu1, li2, lu2, li3, lu3, fu0, fa0]
  refine unroll 2 ?_
  simp only [go_sem, ↓reduceIte, ↓reduceDIte, Nat.reduceAdd, Nat.reduceMul, Nat.reduceLT, Nat.reduceEqDiff, Nat.reduceLeDiff, Int.reduceAdd, Int.reduceLE, Int.reduceLT, Int.reduceEq, Int.reduceToNat, reduceCtorEq, c19_l26, c19_s22, c19_s23, c19_s24, c19_s25, appA, appNew, C42, takeK, hk, Option.isSome_some, hg, hn, z0, e0, hx0, f0, z1, e1, hx1, f1, z2, e2, z3, e3, hx3, f3, z4, e4, hx4, f4, z5, e5, hx5, f5, z6, e6, hx6, f6, z7, e7, hx7, f7, z8, e8, hx8, f8, z9, e9, hx9, f9, z10, e10, z11, e11, z12, e12, hx12, f12, li1, lu1, li2, lu2, li3, lu3, fu0, fa0]
  refine tail19 (cv := (.sl (h.next + 4) 0 1 1 none)) (lo := h.next + 5) P h42 h43 hr hc ?_ ?_ ?_ ?_ ⟨?_, ?_, ⟨[.int .i64 0, .int .i64 0, .int .u8 0, .int .i64 0, .int .u8 0, .int .i64 0, .nils, .int .i64 0, .int .i64 0, .int .i64 0, .int .i64 0, .int .i64 0, .int .i64 0, .int .i64 0, .int .i64 0, .int .i64 0, .nils, .nils], rfl, ?_⟩, ?_, ?_, ?_, ⟨[], .nil, by intro a ha; simp [own] at ha, by intro i v p hv; simp at hv⟩, fun b hb => ?_⟩
  · simp only [go_sem, ↓reduceIte, ↓reduceDIte, Nat.reduceAdd, Nat.reduceMul, Nat.reduceLT, Nat.reduceEqDiff, Nat.reduceLeDiff, Int.reduceAdd, Int.reduceLE, Int.reduceLT, Int.reduceEq, Int.reduceToNat, reduceCtorEq]
  · simp only [go_sem, ↓reduceIte, ↓reduceDIte, Nat.reduceAdd, Nat.reduceMul, Nat.reduceLT, Nat.reduceEqDiff, Nat.reduceLeDiff, Int.reduceAdd, Int.reduceLE, Int.reduceLT, Int.reduceEq, Int.reduceToNat, reduceCtorEq]
  · simp only [go_sem, ↓reduceIte, ↓reduceDIte, Nat.reduceAdd, Nat.reduceMul, Nat.reduceLT, Nat.reduceEqDiff, Nat.reduceLeDiff, Int.reduceAdd, Int.reduceLE, Int.reduceLT, Int.reduceEq, Int.reduceToNat, reduceCtorEq]
  · simp only [go_sem, ↓reduceIte, ↓reduceDIte, Nat.reduceAdd, Nat.reduceMul, Nat.reduceLT, Nat.reduceEqDiff, Nat.reduceLeDiff, Int.reduceAdd, Int.reduceLE, Int.reduceLT, Int.reduceEq, Int.reduceToNat, reduceCtorEq]
  · refine ⟨?_, ?_, ?_, ?_, ?_, ?_, ?_, ?_, ?_, ?_, ?_⟩ <;> (first | omega | (show h.next + 5 ≤ h.next + 5; omega))
  · simp only [go_sem, ↓reduceIte, ↓reduceDIte, Nat.reduceAdd, Nat.reduceMul, Nat.reduceLT, Nat.reduceEqDiff, Nat.reduceLeDiff, Int.reduceAdd, Int.reduceLE, Int.reduceLT, Int.reduceEq, Int.reduceToNat, reduceCtorEq, rowL]
  · simp only [go_sem, ↓reduceIte, ↓reduceDIte, Nat.reduceAdd, Nat.reduceMul, Nat.reduceLT, Nat.reduceEqDiff, Nat.reduceLeDiff, Int.reduceAdd, Int.reduceLE, Int.reduceLT, Int.reduceEq, Int.reduceToNat, reduceCtorEq]
  · simp only [go_sem, ↓reduceIte, ↓reduceDIte, Nat.reduceAdd, Nat.reduceMul, Nat.reduceLT, Nat.reduceEqDiff, Nat.reduceLeDiff, Int.reduceAdd, Int.reduceLE, Int.reduceLT, Int.reduceEq, Int.reduceToNat, reduceCtorEq, rowL, cfgC]
  · refine .sl _ _ _ _ (.inl rfl) (by decide) rfl (by show h.next + 4 < h.next + 5; omega) ?_
    simp only [go_sem, ↓reduceIte, ↓reduceDIte, Nat.reduceAdd, Nat.reduceMul, Nat.reduceLT, Nat.reduceEqDiff, Nat.reduceLeDiff, Int.reduceAdd, Int.reduceLE, Int.reduceLT, Int.reduceEq, Int.reduceToNat, reduceCtorEq, rowL, List.map_cons, List.map_nil]
  · intro a ha; simp only [own, Option.some.injEq] at ha; omega
  · have o0 : ¬ b = h.next := by omega
    have o1 : ¬ b = h.next + 1 := by omega
    have o2 : ¬ b = h.next + 2 := by omega
    have o3 : ¬ b = h.next + 3 := by omega
    have o4 : ¬ b = h.next + 4 := by omega
    simp only [go_sem, ↓reduceIte, ↓reduceDIte, Nat.reduceAdd, Nat.reduceMul, Nat.reduceLT, Nat.reduceEqDiff, Nat.reduceLeDiff, Int.reduceAdd, Int.reduceLE, Int.reduceLT, Int.reduceEq, Int.reduceToNat, reduceCtorEq, o0, o1, o2, o3, o4]
set_option maxRecDepth 10000 in
set_option maxHeartbeats 1000000 in
theorem w19_121 (P : Program) {call : CallE} (h42 : Has call 42 takeK)
    (h43 : ∀ h B t r, h.t.get B = some (rowL [.str r] t) → B < h.next → r.size ≤ 9223372036854775807 → ∃ v h', call 43 [.ptr B 0] h = some (v, h') ∧ Post41 B t r h v h')
    {h : H} {r : ByteArray} (hr : r.size ≤ 9223372036854775807) (hg : vl (nxn 2 r) 3 = 2) (hk : vl (nxn 10 r) 3 = 2) (hn : vl (nxn 11 r) 3 = 1) :
    WF P call c19 [.str (nxn 0 r)] h (Post18 r h) := by
  have C42 : ∀ args h, (takeK args h).isSome = true → call 42 args h = takeK args h := fun _ _ hs => h42.eq hs
  have z0 : (nxn 0 r).size ≤ 9223372036854775807 := nxn_le 0 hr
  have e0 : nx (nxn 0 r) = nxn 1 r := nx_nxn 0 r
  obtain ⟨l0, u0⟩ := vl_bound (nxn 0 r) (n := 4) (by decide)
  obtain ⟨x0, hx0⟩ : ∃ x, vl (nxn 0 r) 4 = x := ⟨_, rfl⟩
  rw [hx0] at l0 u0
  have f0 : fw .i64 (1 + x0) = 1 + x0 := fwI (by omega) (by omega)
  have z1 : (nxn 1 r).size ≤ 9223372036854775807 := nxn_le 1 hr
  have e1 : nx (nxn 1 r) = nxn 2 r := nx_nxn 1 r
  obtain ⟨l1, u1⟩ := vl_bound (nxn 1 r) (n := 4) (by decide)
  obtain ⟨x1, hx1⟩ : ∃ x, vl (nxn 1 r) 4 = x := ⟨_, rfl⟩
  rw [hx1] at l1 u1
  have f1 : fw .i64 (1 + x1) = 1 + x1 := fwI (by omega) (by omega)
  have z2 : (nxn 2 r).size ≤ 9223372036854775807 := nxn_le 2 hr
  have e2 : nx (nxn 2 r) = nxn 3 r := nx_nxn 2 r
  obtain ⟨l2, u2⟩ := vl_bound (nxn 2 r) (n := 3) (by decide)
  have z3 : (nxn 3 r).size ≤ 9223372036854775807 := nxn_le 3 hr
  have e3 : nx (nxn 3 r) = nxn 4 r := nx_nxn 3 r
  obtain ⟨l3, u3⟩ := vl_bound (nxn 3 r) (n := 4) (by decide)
  obtain ⟨x3, hx3⟩ : ∃ x, vl (nxn 3 r) 4 = x := ⟨_, rfl⟩
  rw [hx3] at l3 u3
  have f3 : fw .i64 (1 + x3) = 1 + x3 := fwI (by omega) (by omega)
  have z4 : (nxn 4 r).size ≤ 9223372036854775807 := nxn_le 4 hr
  have e4 : nx (nxn 4 r) = nxn 5 r := nx_nxn 4 r
  obtain ⟨l4, u4⟩ := vl_bound (nxn 4 r) (n := 3) (by decide)
  obtain ⟨x4, hx4⟩ : ∃ x, vl (nxn 4 r) 3 = x := ⟨_, rfl⟩
  rw [hx4] at l4 u4
  have f4 : fw .i64 (1 + x4) = 1 + x4 := fwI (by omega) (by omega)
  have z5 : (nxn 5 r).size ≤ 9223372036854775807 := nxn_le 5 hr
  have e5 : nx (nxn 5 r) = nxn 6 r := nx_nxn 5 r
  obtain ⟨l5, u5⟩ := vl_bound (nxn 5 r) (n := 8) (by decide)
  obtain ⟨x5, hx5⟩ : ∃ x, vl (nxn 5 r) 8 = x := ⟨_, rfl⟩
  rw [hx5] at l5 u5
  have f5 : fw .i64 (1 + x5) = 1 + x5 := fwI (by omega) (by omega)
  have z6 : (nxn 6 r).size ≤ 9223372036854775807 := nxn_le 6 hr
  have e6 : nx (nxn 6 r) = nxn 7 r := nx_nxn 6 r
  obtain ⟨l6, u6⟩ := vl_bound (nxn 6 r) (n := 4) (by decide)
  obtain ⟨x6, hx6⟩ : ∃ x, vl (nxn 6 r) 4 = x := ⟨_, rfl⟩
  rw [hx6] at l6 u6
  have f6 : fw .i64 (1 + x6) = 1 + x6 := fwI (by omega) (by omega)
  have z7 : (nxn 7 r).size ≤ 9223372036854775807 := nxn_le 7 hr
  have e7 : nx (nxn 7 r) = nxn 8 r := nx_nxn 7 r
  obtain ⟨l7, u7⟩ := vl_bound (nxn 7 r) (n := 8) (by decide)
  obtain ⟨x7, hx7⟩ : ∃ x, vl (nxn 7 r) 8 = x := ⟨_, rfl⟩
  rw [hx7] at l7 u7
  have f7 : fw .i64 (1 + x7) = 1 + x7 := fwI (by omega) (by omega)
  have z8 : (nxn 8 r).size ≤ 9223372036854775807 := nxn_le 8 hr
  have e8 : nx (nxn 8 r) = nxn 9 r := nx_nxn 8 r
  obtain ⟨l8, u8⟩ := vl_bound (nxn 8 r) (n := 4) (by decide)
  obtain ⟨x8, hx8⟩ : ∃ x, vl (nxn 8 r) 4 = x := ⟨_, rfl⟩
  rw [hx8] at l8 u8
  have f8 : fw .i64 (1 + x8) = 1 + x8 := fwI (by omega) (by omega)
  have z9 : (nxn 9 r).size ≤ 9223372036854775807 := nxn_le 9 hr
  have e9 : nx (nxn 9 r) = nxn 10 r := nx_nxn 9 r
  obtain ⟨l9, u9⟩ := vl_bound (nxn 9 r) (n := 3) (by decide)
  obtain ⟨x9, hx9⟩ : ∃ x, vl (nxn 9 r) 3 = x := ⟨_, rfl⟩
  rw [hx9] at l9 u9
  have f9 : fw .i64 (1 + x9) = 1 + x9 := fwI (by omega) (by omega)
  have z10 : (nxn 10 r).size ≤ 9223372036854775807 := nxn_le 10 hr
  have e10 : nx (nxn 10 r) = nxn 11 r := nx_nxn 10 r
  obtain ⟨l10, u10⟩ := vl_bound (nxn 10 r) (n := 3) (by decide)
  have z11 : (nxn 11 r).size ≤ 9223372036854775807 := nxn_le 11 hr
  have e11 : nx (nxn 11 r) = nxn 12 r := nx_nxn 11 r
  obtain ⟨l11, u11⟩ := vl_bound (nxn 11 r) (n := 3) (by decide)
  have z12 : (nxn 12 r).size ≤ 9223372036854775807 := nxn_le 12 hr
  have e12 : nx (nxn 12 r) = nxn 13 r := nx_nxn 12 r
  obtain ⟨l12, u12⟩ := vl_bound (nxn 12 r) (n := 8) (by decide)
  obtain ⟨x12, hx12⟩ : ∃ x, vl (nxn 12 r) 8 = x := ⟨_, rfl⟩
  rw [hx12] at l12 u12
  have f12 : fw .i64 (1 + x12) = 1 + x12 := fwI (by omega) (by omega)
  have z13 : (nxn 13 r).size ≤ 9223372036854775807 := nxn_le 13 hr
  have e13 : nx (nxn 13 r) = nxn 14 r := nx_nxn 13 r
  obtain ⟨l13, u13⟩ := vl_bound (nxn 13 r) (n := 8) (by decide)
  obtain ⟨x13, hx13⟩ : ∃ x, vl (nxn 13 r) 8 = x := ⟨_, rfl⟩
  rw [hx13] at l13 u13
  have f13 : fw .i64 (1 + x13) = 1 + x13 := fwI (by omega) (by omega)
  have li1 : fw .i64 1 = 1 := by decide
  have lu1 : fw .u8 1 = 1 := by decide
  have li2 : fw .i64 2 = 2 := by decide
  have lu2 : fw .u8 2 = 2 := by decide
  have li3 : fw .i64 3 = 3 := by decide
  have lu3 : fw .u8 3 = 3 := by decide
  have fu0 : fw .u64 (1 + x12) = 1 + x12 := fwU (by omega) (by omega)
  have fa0 : fw .u64 (0 + (1 + x12)) = 0 + (1 + x12) := fwU (by omega) (by omega)
  have fu1 : fw .u64 (1 + x13) = 1 + x13 := fwU (by omega) (by omega)
  have fa1 : fw .u64 (0 + (1 + x12) + (1 + x13)) = 0 + (1 + x12) + (1 + x13) := fwU (by omega) (by omega)
  have hc : cfgS r = (⟨1 + x0, 1 + x1, 3, 1 + x3, 3, 0, [0 + (1 + x12), 0 + (1 + x12) + (1 + x13)], x7, x8, x9, 0, 0, 0, 1 + x4, 1 + x5, x6⟩, nxn 14 r) := by
    have hx0' : vl r 4 = x0 := hx0
    simp only [cfgS, hg, if_pos, if_true, if_false, ↓reduceIte, cfgS2, nxn_add, Nat.reduceAdd, hk, nx_nxn, Int.reduceAdd, Int.reduceEq, Int.reduceToNat, cutsS, hn, hx0', hx1, hx3, hx4, hx5, hx6, hx7, hx8, hx9, hx12, hx13]
  rw [c19_cut]
  simp only [go_sem, ↓reduceIte, ↓reduceDIte, Nat.reduceAdd, Nat.reduceMul, Nat.reduceLT, Nat.reduceEqDiff, Nat.reduceLeDiff, Int.reduceAdd, Int.reduceLE, Int.reduceLT, Int.reduceEq, Int.reduceToNat, reduceCtorEq, c19_s0, c19_s1, c19_s2, c19_s3, c19_s4, c19_s5, c19_s6, c19_s7, c19_s8, c19_s9, c19_s10, c19_s11, c19_p12, c19_p13, c19_p14, c19_s15, c19_s16, c19_s17, c19_s18, c19_s19, c19_s20, c19_s21, appA, appNew, C42, takeK, hk, Option.isSome_some, hg, hn, z0, e0, hx0, f0, z1, e1, hx1, f1, z2, e2, z3, e3, hx3, f3, z4, e4, hx4, f4, z5, e5, hx5, f5, z6, e6, hx6, f6, z7, e7, hx7, f7, z8, e8, hx8, f8, z9, e9, hx9, f9, z10, e10, z11, e11, z12, e12, hx12, f12, z13, e13, hx13, f13, li1, lu1, li2, lu2, li3, lu3, fu0, fa0, fu1, fa1]
  refine unroll 3 ?_
  simp only [go_sem, ↓reduceIte, ↓reduceDIte, Nat.reduceAdd, Nat.reduceMul, Nat.reduceLT, Nat.reduceEqDiff, Nat.reduceLeDiff, Int.reduceAdd, Int.reduceLE, Int.reduceLT, Int.reduceEq, Int.reduceToNat, reduceCtorEq, c19_l26, c19_s22, c19_s23, c19_s24, c19_s25, appA, appNew, C42, takeK, hk, Option.isSome_some, hg, hn, z0, e0, hx0, f0, z1, e1, hx1, f1, z2, e2, z3, e3, hx3, f3, z4, e4, hx4, f4, z5, e5, hx5, f5, z6, e6, hx6, f6, z7, e7, hx7, f7, z8, e8, hx8, f8, z9, e9, hx9, f9, z10, e10, z11, e11, z12, e12, hx12, f12, z13, e13, hx13, f13, li1, lu1, li2, lu2, li3, lu3, fu0, fa0, fu1, fa1]
  refine tail19 (cv := (.sl (h.next + 6) 0 2 1 none)) (lo := h.next + 7) P h42 h43 hr hc ?_ ?_ ?_ ?_ ⟨?_, ?_, ⟨[.int .i64 0, .int .i64 0, .int .u8 0, .int .i64 0, .int .u8 0, .int .i64 0, .nils, .int .i64 0, .int .i64 0, .int .i64 0, .int .i64 0, .int .i64 0, .int .i64 0, .int .i64 0, .int .i64 0, .int .i64 0, .nils, .nils], rfl, ?_⟩, ?_, ?_, ?_, ⟨[], .nil, by intro a ha; simp [own] at ha, by intro i v p hv; simp at hv⟩, fun b hb => ?_⟩
  · simp only [go_sem, ↓reduceIte, ↓reduceDIte, Nat.reduceAdd, Nat.reduceMul, Nat.reduceLT, Nat.reduceEqDiff, Nat.reduceLeDiff, Int.reduceAdd, Int.reduceLE, Int.reduceLT, Int.reduceEq, Int.reduceToNat, reduceCtorEq]
  · simp only [go_sem, ↓reduceIte, ↓reduceDIte, Nat.reduceAdd, Nat.reduceMul, Nat.reduceLT, Nat.reduceEqDiff, Nat.reduceLeDiff, Int.reduceAdd, Int.reduceLE, Int.reduceLT, Int.reduceEq, Int.reduceToNat, reduceCtorEq]
  · simp only [go_sem, ↓reduceIte, ↓reduceDIte, Nat.reduceAdd, Nat.reduceMul, Nat.reduceLT, Nat.reduceEqDiff, Nat.reduceLeDiff, Int.reduceAdd, Int.reduceLE, Int.reduceLT, Int.reduceEq, Int.reduceToNat, reduceCtorEq]
  · simp only [go_sem, ↓reduceIte, ↓reduceDIte, Nat.reduceAdd, Nat.reduceMul, Nat.reduceLT, Nat.reduceEqDiff, Nat.reduceLeDiff, Int.reduceAdd, Int.reduceLE, Int.reduceLT, Int.reduceEq, Int.reduceToNat, reduceCtorEq]
  · refine ⟨?_, ?_, ?_, ?_, ?_, ?_, ?_, ?_, ?_, ?_, ?_⟩ <;> (first | omega | (show h.next + 7 ≤ h.next + 7; omega))
  · simp only [go_sem, ↓reduceIte, ↓reduceDIte, Nat.reduceAdd, Nat.reduceMul, Nat.reduceLT, Nat.reduceEqDiff, Nat.reduceLeDiff, Int.reduceAdd, Int.reduceLE, Int.reduceLT, Int.reduceEq, Int.reduceToNat, reduceCtorEq, rowL]
  · simp only [go_sem, ↓reduceIte, ↓reduceDIte, Nat.reduceAdd, Nat.reduceMul, Nat.reduceLT, Nat.reduceEqDiff, Nat.reduceLeDiff, Int.reduceAdd, Int.reduceLE, Int.reduceLT, Int.reduceEq, Int.reduceToNat, reduceCtorEq]
  · simp only [go_sem, ↓reduceIte, ↓reduceDIte, Nat.reduceAdd, Nat.reduceMul, Nat.reduceLT, Nat.reduceEqDiff, Nat.reduceLeDiff, Int.reduceAdd, Int.reduceLE, Int.reduceLT, Int.reduceEq, Int.reduceToNat, reduceCtorEq, rowL, cfgC]
  · refine .sl _ _ _ _ (.inl rfl) (by decide) rfl (by show h.next + 6 < h.next + 7; omega) ?_
    simp only [go_sem, ↓reduceIte, ↓reduceDIte, Nat.reduceAdd, Nat.reduceMul, Nat.reduceLT, Nat.reduceEqDiff, Nat.reduceLeDiff, Int.reduceAdd, Int.reduceLE, Int.reduceLT, Int.reduceEq, Int.reduceToNat, reduceCtorEq, rowL, List.map_cons, List.map_nil]
  · intro a ha; simp only [own, Option.some.injEq] at ha; omega
  · have o0 : ¬ b = h.next := by omega
    have o1 : ¬ b = h.next + 1 := by omega
    have o2 : ¬ b = h.next + 2 := by omega
    have o3 : ¬ b = h.next + 3 := by omega
    have o4 : ¬ b = h.next + 4 := by omega
    have o5 : ¬ b = h.next + 5 := by omega
    have o6 : ¬ b = h.next + 6 := by omega
    simp only [go_sem, ↓reduceIte, ↓reduceDIte, Nat.reduceAdd, Nat.reduceMul, Nat.reduceLT, Nat.reduceEqDiff, Nat.reduceLeDiff, Int.reduceAdd, Int.reduceLE, Int.reduceLT, Int.reduceEq, Int.reduceToNat, reduceCtorEq, o0, o1, o2, o3, o4, o5, o6]
set_option maxRecDepth 10000 in
set_option maxHeartbeats 1000000 in
theorem w19_122 (P : Program) {call : CallE} (h42 : Has call 42 takeK)
    (h43 : ∀ h B t r, h.t.get B = some (rowL [.str r] t) → B < h.next → r.size ≤ 9223372036854775807 → ∃ v h', call 43 [.ptr B 0] h = some (v, h') ∧ Post41 B t r h v h')
    {h : H} {r : ByteArray} (hr : r.size ≤ 9223372036854775807) (hg : vl (nxn 2 r) 3 = 2) (hk : vl (nxn 10 r) 3 = 2) (hn : vl (nxn 11 r) 3 = 2) :
    WF P call c19 [.str (nxn 0 r)] h (Post18 r h) := by
  have C42 : ∀ args h, (takeK args h).isSome = true → call 42 args h = takeK args h := fun _ _ hs => h42.eq hs
  have z0 : (nxn 0 r).size ≤ 9223372036854775807 := nxn_le 0 hr
  have e0 : nx (nxn 0 r) = nxn 1 r := nx_nxn 0 r
  obtain ⟨l0, u0⟩ := vl_bound (nxn 0 r) (n := 4) (by decide)
  obtain ⟨x0, hx0⟩ : ∃ x, vl (nxn 0 r) 4 = x := ⟨_, rfl⟩
  rw [hx0] at l0 u0
  have f0 : fw .i64 (1 + x0) = 1 + x0 := fwI (by omega) (by omega)
  have z1 : (nxn 1 r).size ≤ 9223372036854775807 := nxn_le 1 hr
  have e1 : nx (nxn 1 r) = nxn 2 r := nx_nxn 1 r
  obtain ⟨l1, u1⟩ := vl_bound (nxn 1 r) (n := 4) (by decide)
  obtain ⟨x1, hx1⟩ : ∃ x, vl (nxn 1 r) 4 = x := ⟨_, rfl⟩
  rw [hx1] at l1 u1
  have f1 : fw .i64 (1 + x1) = 1 + x1 := fwI (by omega) (by omega)
  have z2 : (nxn 2 r).size ≤ 9223372036854775807 := nxn_le 2 hr
  have e2 : nx (nxn 2 r) = nxn 3 r := nx_nxn 2 r
  obtain ⟨l2, u2⟩ := vl_bound (nxn 2 r) (n := 3) (by decide)
  have z3 : (nxn 3 r).size ≤ 9223372036854775807 := nxn_le 3 hr
  have e3 : nx (nxn 3 r) = nxn 4 r := nx_nxn 3 r
  obtain ⟨l3, u3⟩ := vl_bound (nxn 3 r) (n := 4) (by decide)
  obtain ⟨x3, hx3⟩ : ∃ x, vl (nxn 3 r) 4 = x := ⟨_, rfl⟩
  rw [hx3] at l3 u3
  have f3 : fw .i64 (1 + x3) = 1 + x3 := fwI (by omega) (by omega)
  have z4 : (nxn 4 r).size ≤ 9223372036854775807 := nxn_le 4 hr
  have e4 : nx (nxn 4 r) = nxn 5 r := nx_nxn 4 r
  obtain ⟨l4, u4⟩ := vl_bound (nxn 4 r) (n := 3) (by decide)
  obtain ⟨x4, hx4⟩ : ∃ x, vl (nxn 4 r) 3 = x := ⟨_, rfl⟩
  rw [hx4] at l4 u4
  have f4 : fw .i64 (1 + x4) = 1 + x4 := fwI (by omega) (by omega)
  have z5 : (nxn 5 r).size ≤ 9223372036854775807 := nxn_le 5 hr
  have e5 : nx (nxn 5 r) = nxn 6 r := nx_nxn 5 r
  obtain ⟨l5, u5⟩ := vl_bound (nxn 5 r) (n := 8) (by decide)
  obtain ⟨x5, hx5⟩ : ∃ x, vl (nxn 5 r) 8 = x := ⟨_, rfl⟩
  rw [hx5] at l5 u5
  have f5 : fw .i64 (1 + x5) = 1 + x5 := fwI (by omega) (by omega)
  have z6 : (nxn 6 r).size ≤ 9223372036854775807 := nxn_le 6 hr
  have e6 : nx (nxn 6 r) = nxn 7 r := nx_nxn 6 r
  obtain ⟨l6, u6⟩ := vl_bound (nxn 6 r) (n := 4) (by decide)
  obtain ⟨x6, hx6⟩ : ∃ x, vl (nxn 6 r) 4 = x := ⟨_, rfl⟩
  rw [hx6] at l6 u6
  have f6 : fw .i64 (1 + x6) = 1 + x6 := fwI (by omega) (by omega)
  have z7 : (nxn 7 r).size ≤ 9223372036854775807 := nxn_le 7 hr
  have e7 : nx (nxn 7 r) = nxn 8 r := nx_nxn 7 r
  obtain ⟨l7, u7⟩ := vl_bound (nxn 7 r) (n := 8) (by decide)
  obtain ⟨x7, hx7⟩ : ∃ x, vl (nxn 7 r) 8 = x := ⟨_, rfl⟩
  rw [hx7] at l7 u7
  have f7 : fw .i64 (1 + x7) = 1 + x7 := fwI (by omega) (by omega)
  have z8 : (nxn 8 r).size ≤ 9223372036854775807 := nxn_le 8 hr
  have e8 : nx (nxn 8 r) = nxn 9 r := nx_nxn 8 r
  obtain ⟨l8, u8⟩ := vl_bound (nxn 8 r) (n := 4) (by decide)
  obtain ⟨x8, hx8⟩ : ∃ x, vl (nxn 8 r) 4 = x := ⟨_, rfl⟩
  rw [hx8] at l8 u8
  have f8 : fw .i64 (1 + x8) = 1 + x8 := fwI (by omega) (by omega)
  have z9 : (nxn 9 r).size ≤ 9223372036854775807 := nxn_le 9 hr
  have e9 : nx (nxn 9 r) = nxn 10 r := nx_nxn 9 r
  obtain ⟨l9, u9⟩ := vl_bound (nxn 9 r) (n := 3) (by decide)
  obtain ⟨x9, hx9⟩ : ∃ x, vl (nxn 9 r) 3 = x := ⟨_, rfl⟩
  rw [hx9] at l9 u9
  have f9 : fw .i64 (1 + x9) = 1 + x9 := fwI (by omega) (by omega)
  have z10 : (nxn 10 r).size ≤ 9223372036854775807 := nxn_le 10 hr
  have e10 : nx (nxn 10 r) = nxn 11 r := nx_nxn 10 r
  obtain ⟨l10, u10⟩ := vl_bound (nxn 10 r) (n := 3) (by decide)
  have z11 : (nxn 11 r).size ≤ 9223372036854775807 := nxn_le 11 hr
  have e11 : nx (nxn 11 r) = nxn 12 r := nx_nxn 11 r
  obtain ⟨l11, u11⟩ := vl_bound (nxn 11 r) (n := 3) (by decide)
  have z12 : (nxn 12 r).size ≤ 9223372036854775807 := nxn_le 12 hr
  have e12 : nx (nxn 12 r) = nxn 13 r := nx_nxn 12 r
  obtain ⟨l12, u12⟩ := vl_bound (nxn 12 r) (n := 8) (by decide)
  obtain ⟨x12, hx12⟩ : ∃ x, vl (nxn 12 r) 8 = x := ⟨_, rfl⟩
  rw [hx12] at l12 u12
  have f12 : fw .i64 (1 + x12) = 1 + x12 := fwI (by omega) (by omega)
  have z13 : (nxn 13 r).size ≤ 9223372036854775807 := nxn_le 13 hr
  have e13 : nx (nxn 13 r) = nxn 14 r := nx_nxn 13 r
  obtain ⟨l13, u13⟩ := vl_bound (nxn 13 r) (n := 8) (by decide)
  obtain ⟨x13, hx13⟩ : ∃ x, vl (nxn 13 r) 8 = x := ⟨_, rfl⟩
  rw [hx13] at l13 u13
  have f13 : fw .i64 (1 + x13) = 1 + x13 := fwI (by omega) (by omega)
  have z14 : (nxn 14 r).size ≤ 9223372036854775807 := nxn_le 14 hr
  have e14 : nx (nxn 14 r) = nxn 15 r := nx_nxn 14 r
  obtain ⟨l14, u14⟩ := vl_bound (nxn 14 r) (n := 8) (by decide)
  obtain ⟨x14, hx14⟩ : ∃ x, vl (nxn 14 r) 8 = x := ⟨_, rfl⟩
  rw [hx14] at l14 u14
  have f14 : fw .i64 (1 + x14) = 1 + x14 := fwI (by omega) (by omega)
  have li1 : fw .i64 1 = 1 := by decide
  have lu1 : fw .u8 1 = 1 := by decide
  have li2 : fw .i64 2 = 2 := by decide
  have lu2 : fw .u8 2 = 2 := by decide
  have li3 : fw .i64 3 = 3 := by decide
  have lu3 : fw .u8 3 = 3 := by decide
  have fu0 : fw .u64 (1 + x12) = 1 + x12 := fwU (by omega) (by omega)
  have fa0 : fw .u64 (0 + (1 + x12)) = 0 + (1 + x12) := fwU (by omega) (by omega)
  have fu1 : fw .u64 (1 + x13) = 1 + x13 := fwU (by omega) (by omega)
  have fa1 : fw .u64 (0 + (1 + x12) + (1 + x13)) = 0 + (1 + x12) + (1 + x13) := fwU (by omega) (by omega)
  have fu2 : fw .u64 (1 + x14) = 1 + x14 := fwU (by omega) (by omega)
  have fa2 : fw .u64 (0 + (1 + x12) + (1 + x13) + (1 + x14)) = 0 + (1 + x12) + (1 + x13) + (1 + x14) := fwU (by omega) (by omega)
  have hc : cfgS r = (⟨1 + x0, 1 + x1, 3, 1 + x3, 3, 0, [0 + (1 + x12), 0 + (1 + x12) + (1 + x13), 0 + (1 + x12) + (1 + x13) + (1 + x14)], x7, x8, x9, 0, 0, 0, 1 + x4, 1 + x5, x6⟩, nxn 15 r) := by
    have hx0' : vl r 4 = x0 := hx0
    simp only [cfgS, hg, if_pos, if_true, if_false, ↓reduceIte, cfgS2, nxn_add, Nat.reduceAdd, hk, nx_nxn, Int.reduceAdd, Int.reduceEq, Int.reduceToNat, cutsS, hn, hx0', hx1, hx3, hx4, hx5, hx6, hx7, hx8, hx9, hx12, hx13, hx14]
  rw [c19_cut]
  simp only [go_sem, ↓reduceIte, ↓reduceDIte, Nat.reduceAdd, Nat.reduceMul, Nat.reduceLT, Nat.reduceEqDiff, Nat.reduceLeDiff, Int.reduceAdd, Int.reduceLE, Int.reduceLT, Int.reduceEq, Int.reduceToNat, reduceCtorEq, c19_s0, c19_s1, c19_s2, c19_s3, c19_s4, c19_s5, c19_s6, c19_s7, c19_s8, c19_s9, c19_s10, c19_s11, c19_p12, c19_p13, c19_p14, c19_s15, c19_s16, c19_s17, c19_s18, c19_s19, c19_s20, c19_s21, appA, appNew, C42, takeK, hk, Option.isSome_some, hg, hn, z0, e0, hx0, f0, z1, e1, hx1, f1, z2, e2, z3, e3, hx3, f3, z4, e4, hx4, f4, z5, e5, hx5, f5, z6, e6, hx6, f6, z7, e7, hx7, f7, z8, e8, hx8, f8, z9, e9, hx9, f9, z10, e10, z11, e11, z12, e12, hx12, f12, z13, e13, hx13, f13, z14, e14, hx14, f14, li1, lu1, li2, lu2, li3, lu3, fu0, fa0, fu1, fa1, fu2, fa2]
  refine unroll 4 ?_
  simp only [go_sem, ↓reduceIte, ↓reduceDIte, Nat.reduceAdd, Nat.reduceMul, Nat.reduceLT, Nat.reduceEqDiff, Nat.reduceLeDiff, Int.reduceAdd, Int.reduceLE, Int.reduceLT, Int.reduceEq, Int.reduceToNat, reduceCtorEq, c19_l26, c19_s22, c19_s23, c19_s24, c19_s25, appA, appNew, C42, takeK, hk, Option.isSome_some, hg, hn, z0, e0, hx0, f0, z1, e1, hx1, f1, z2, e2, z3, e3, hx3, f3, z4, e4, hx4, f4, z5, e5, hx5, f5, z6, e6, hx6, f6, z7, e7, hx7, f7, z8, e8, hx8, f8, z9, e9, hx9, f9, z10, e10, z11, e11, z12, e12, hx12, f12, z13, e13, hx13, f13, z14, e14, hx14, f14, li1, lu1, li2, lu2, li3, lu3, fu0, fa0, fu1, fa1, fu2, fa2]
  refine tail19 (cv := (.sl (h.next + 8) 0 3 1 none)) (lo := h.next + 9) P h42 h43 hr hc ?_ ?_ ?_ ?_ ⟨?_, ?_, ⟨[.int .i64 0, .int .i64 0, .int .u8 0, .int .i64 0, .int .u8 0, .int .i64 0, .nils, .int .i64 0, .int .i64 0, .int .i64 0, .int .i64 0, .int .i64 0, .int .i64 0, .int .i64 0, .int .i64 0, .int .i64 0, .nils, .nils], rfl, ?_⟩, ?_, ?_, ?_, ⟨[], .nil, by intro a ha; simp [own] at ha, by intro i v p hv; simp at hv⟩, fun b hb => ?_⟩
  · simp only [go_sem, ↓reduceIte, ↓reduceDIte, Nat.reduceAdd, Nat.reduceMul, Nat.reduceLT, Nat.reduceEqDiff, Nat.reduceLeDiff, Int.reduceAdd, Int.reduceLE, Int.reduceLT, Int.reduceEq, Int.reduceToNat, reduceCtorEq]
  · simp only [go_sem, ↓reduceIte, ↓reduceDIte, Nat.reduceAdd, Nat.reduceMul, Nat.reduceLT, Nat.reduceEqDiff, Nat.reduceLeDiff, Int.reduceAdd, Int.reduceLE, Int.reduceLT, Int.reduceEq, Int.reduceToNat, reduceCtorEq]
  · simp only [go_sem, ↓reduceIte, ↓reduceDIte, Nat.reduceAdd, Nat.reduceMul, Nat.reduceLT, Nat.reduceEqDiff, Nat.reduceLeDiff, Int.reduceAdd, Int.reduceLE, Int.reduceLT, Int.reduceEq, Int.reduceToNat, reduceCtorEq]
  · simp only [go_sem, ↓reduceIte, ↓reduceDIte, Nat.reduceAdd, Nat.reduceMul, Nat.reduceLT, Nat.reduceEqDiff, Nat.reduceLeDiff, Int.reduceAdd, Int.reduceLE, Int.reduceLT, Int.reduceEq, Int.reduceToNat, reduceCtorEq]
  · refine ⟨?_, ?_, ?_, ?_, ?_, ?_, ?_, ?_, ?_, ?_, ?_⟩ <;> (first | omega | (show h.next + 9 ≤ h.next + 9; omega))
  · simp only [go_sem, ↓reduceIte, ↓reduceDIte, Nat.reduceAdd, Nat.reduceMul, Nat.reduceLT, Nat.reduceEqDiff, Nat.reduceLeDiff, Int.reduceAdd, Int.reduceLE, Int.reduceLT, Int.reduceEq, Int.reduceToNat, reduceCtorEq, rowL]
  · simp only [go_sem, ↓reduceIte, ↓reduceDIte, Nat.reduceAdd, Nat.reduceMul, Nat.reduceLT, Nat.reduceEqDiff, Nat.reduceLeDiff, Int.reduceAdd, Int.reduceLE, Int.reduceLT, Int.reduceEq, Int.reduceToNat, reduceCtorEq]
  · simp only [go_sem, ↓reduceIte, ↓reduceDIte, Nat.reduceAdd, Nat.reduceMul, Nat.reduceLT, Nat.reduceEqDiff, Nat.reduceLeDiff, Int.reduceAdd, Int.reduceLE, Int.reduceLT, Int.reduceEq, Int.reduceToNat, reduceCtorEq, rowL, cfgC]
  · refine .sl _ _ _ _ (.inl rfl) (by decide) rfl (by show h.next + 8 < h.next + 9; omega) ?_
    simp only [go_sem, ↓reduceIte, ↓reduceDIte, Nat.reduceAdd, Nat.reduceMul, Nat.reduceLT, Nat.reduceEqDiff, Nat.reduceLeDiff, Int.reduceAdd, Int.reduceLE, Int.reduceLT, Int.reduceEq, Int.reduceToNat, reduceCtorEq, rowL, List.map_cons, List.map_nil]
  · intro a ha; simp only [own, Option.some.injEq] at ha; omega
  · have o0 : ¬ b = h.next := by omega
    have o1 : ¬ b = h.next + 1 := by omega
    have o2 : ¬ b = h.next + 2 := by omega
    have o3 : ¬ b = h.next + 3 := by omega
    have o4 : ¬ b = h.next + 4 := by omega
    have o5 : ¬ b = h.next + 5 := by omega
    have o6 : ¬ b = h.next + 6 := by omega
    have o7 : ¬ b = h.next + 7 := by omega
    have o8 : ¬ b = h.next + 8 := by omega
    simp only [go_sem, ↓reduceIte, ↓reduceDIte, Nat.reduceAdd, Nat.reduceMul, Nat.reduceLT, Nat.reduceEqDiff, Nat.reduceLeDiff, Int.reduceAdd, Int.reduceLE, Int.reduceLT, Int.reduceEq, Int.reduceToNat, reduceCtorEq, o0, o1, o2, o3, o4, o5, o6, o7, o8]

theorem w19 (P : Program) {call : CallE} (h42 : Has call 42 takeK)
    (h43 : ∀ h B t r, h.t.get B = some (rowL [.str r] t) → B < h.next → r.size ≤ 9223372036854775807 → ∃ v h', call 43 [.ptr B 0] h = some (v, h') ∧ Post41 B t r h v h')
    {h : H} {r : ByteArray} (hr : r.size ≤ 9223372036854775807) : WF P call c19 [.str r] h (Post18 r h) := by
  show WF P call c19 [.str (nxn 0 r)] h (Post18 r h)
  by_cases hg : vl (nxn 2 r) 3 = 2
  · obtain ⟨k0, k1⟩ := vl_bound (nxn 10 r) (n := 3) (by decide)
    obtain ⟨n0, n1⟩ := vl_bound (nxn 11 r) (n := 3) (by decide)
    have hk : vl (nxn 10 r) 3 = 0 ∨ vl (nxn 10 r) 3 = 1 ∨ vl (nxn 10 r) 3 = 2 := by omega
    have hn : vl (nxn 11 r) 3 = 0 ∨ vl (nxn 11 r) 3 = 1 ∨ vl (nxn 11 r) 3 = 2 := by omega
    rcases hk with hk | hk | hk
    · exact w19_100 P h42 h43 hr hg hk
    · exact w19_110 P h42 h43 hr hg hk
    · rcases hn with hn | hn | hn
      · exact w19_120 P h42 h43 hr hg hk hn
      · exact w19_121 P h42 h43 hr hg hk hn
      · exact w19_122 P h42 h43 hr hg hk hn
  · obtain ⟨k0, k1⟩ := vl_bound (nxn 9 r) (n := 3) (by decide)
    obtain ⟨n0, n1⟩ := vl_bound (nxn 10 r) (n := 3) (by decide)
    have hk : vl (nxn 9 r) 3 = 0 ∨ vl (nxn 9 r) 3 = 1 ∨ vl (nxn 9 r) 3 = 2 := by omega
    have hn : vl (nxn 10 r) 3 = 0 ∨ vl (nxn 10 r) 3 = 1 ∨ vl (nxn 10 r) 3 = 2 := by omega
    rcases hk with hk | hk | hk
    · exact w19_000 P h42 h43 hr hg hk
    · exact w19_010 P h42 h43 hr hg hk
    · rcases hn with hn | hn | hn
      · exact w19_020 P h42 h43 hr hg hk hn
      · exact w19_021 P h42 h43 hr hg hk hn
      · exact w19_022 P h42 h43 hr hg hk hn
end
end Go.Proofs.Ytnmlfhogolonoaa
