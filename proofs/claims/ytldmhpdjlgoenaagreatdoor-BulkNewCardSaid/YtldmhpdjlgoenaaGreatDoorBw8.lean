/-
  The reference's layout: New.
  The reference's words and engines.
  The reference's engines and store.
-/
import Derived.Test.YtldmhpdjlgoenaaGreatDoorBw7
set_option linter.unusedVariables false
set_option linter.unusedSimpArgs false
namespace Go.Proofs.YtldmhpdjlgoenaaGreatDoor.BN
open Go.Proofs.YtldmhpdjlgoenaaGreatDoor.Eo
open Nat renaming reduceAdd → zA, reduceMul → zM, reduceLT → zL, reduceEqDiff → zE, reduceLeDiff → zD
open Int renaming reduceAdd → yA, reduceLE → yE, reduceLT → yL, reduceEq → yQ, reduceToNat → yT
noncomputable section
def F74 (call : CallE) : Prop := ∀ g0 L c cv p hs wl h (kd fi pe n : Int) (nn : Nat), n = (nn : Int) → oneA cv = true → wl + nn ≤ 10000 → 1 ≤ pe → RL g0 L c cv p hs wl h → ∃ v h', call 74 [.ptr L 0, .int .i64 n, .int .u8 kd, .int .i64 fi, .int .i64 pe] h = some (v, h') ∧ (v = .int .i64 (wl : Int) ∧ RL g0 L c cv p hs (wl + nn) h' ∧ h.next ≤ h'.next)
/-- a copy onto nothing -/
theorem emp_copy {h : H} {a : Nat} {l : List Int} (hg : h.t.get a = some (.row (putList 0 [] T.e) 0 28)) (hl : l.length ≤ 65536) : ∃ cv h', appA h 28 1 8 (.sl a 0 0 1 (some 0)) (uL l).length (uL l) = some (cv, h') ∧ oneA cv = true ∧ StepN h h' := by
  by_cases hz : l.length = 0
  · have : l = [] := List.eq_nil_of_length_eq_zero hz
    subst this
    exact ⟨_, _, rfl, rfl, StepN.refl _⟩
  · have hul := uL_len l
    rw [hul]
    exact ⟨_, _, appA_emp hg (by omega) (by omega) (by omega), rfl, ⟨Nat.le_succ _, fun b hb => app_get hb (by simp [own])⟩⟩
/-- the words of towers are placed -/
def I27b (g0 : Nat → Option AO) (L : Nat) (c : CfgT) (cv : AV) (p : PlT) (hs : List Int) (tot : Int) (k : Nat) (tm : T AV) (h : H) : Prop :=
  tm.get 5 = some (.ptr L 0) ∧ ∃ (i : Nat) (wl : Nat), i + k = hs.length ∧ tm.get 11 = some (.int .i64 ((i : Int) + 1)) ∧ (wl : Int) + sumH (hs.drop i) = tot ∧ RL g0 L c cv p hs wl h
theorem step27b (P : Program) {call : CallE} (h74 : F74 call) {g0 : Nat → Option AO} {L : Nat} {c : CfgT} {cv : AV} {p : PlT} {hs : List Int} {tot : Int} (ov : oneA cv = true) (hb : ∀ x ∈ hs, 1 ≤ x ∧ x ≤ 6) (hl : hs.length ≤ 1000) (htot : tot ≤ 9000) (k : Nat) (tm : T AV) (h : H) (hI : I27b g0 L c cv p hs tot k tm h) :
    WC P call c27_l34 (loopQ 4 (fun tm h => ∃ j, j < k ∧ I27b g0 L c cv p hs tot j tm h) (fun tm h => tm.get 5 = some (.ptr L 0) ∧ ∃ wl : Nat, (wl : Int) = tot ∧ RL g0 L c cv p hs wl h) (fun _ _ => False)) tm h := by
  obtain ⟨t5, i, wl, hik, t11, hat, r⟩ := hI
  obtain ⟨hv, wv, wcs, g, oh, ow, ohl, owl⟩ := r.ex
  have hlen := oh.lenA
  cases k with
  | zero =>
    have e1 : (hs.length : Int) < (i : Int) + 1 := by omega
    simp only [go_sem, ↓reduceIte, ↓reduceDIte, zA, zM, zL, zE, zD, yA, yE, yL, yQ, yT, reduceCtorEq, c27_l34, t5, t11, g, cfgC, plC, hlen, e1]
    rw [List.drop_eq_nil_of_le (by omega), sumH, Int.add_zero] at hat
    exact ⟨wl, hat, r⟩
  | succ k =>
    have e1 : ¬ (hs.length : Int) < (i : Int) + 1 := by omega
    have hi : i < hs.length := by omega
    obtain ⟨x, hx⟩ : ∃ x, hs[i]? = some x := ⟨_, List.getElem?_eq_getElem hi⟩
    have hxm := hb x (List.mem_of_getElem? hx)
    have hdr : hs.drop i = x :: hs.drop (i + 1) := by
      rw [List.drop_eq_getElem_cons hi]
      rw [List.getElem?_eq_getElem hi] at hx
      rw [Option.some.inj hx]
    rw [hdr, sumH] at hat
    have hrest := sumH_le (hs.drop (i + 1)) fun y hy => hb y (List.mem_of_mem_drop hy)
    have f1 : fw .i64 (5 + x) = 5 + x := fwI (by omega) (by omega)
    have f2 : fw .i64 ((i : Int) + 1 - 1) = (i : Int) := by rw [show (i : Int) + 1 - 1 = (i : Int) by omega]; exact fwI (by omega) (by omega)
    have f3 : fw .i64 ((i : Int) + 1 + 1) = (i : Int) + 1 + 1 := fwI (by omega) (by omega)
    have e3 : ((i + 1 : Nat) : Int) = (i : Int) + 1 := rfl
    have e2 : (i : Int) < (hs.length : Int) := by omega
    have hcell : (iL hs)[i]? = some (.int .i64 x) := by unfold iL; rw [List.getElem?_map, hx]; rfl
    obtain ⟨xn, hxn⟩ : ∃ n : Nat, 5 + x = (n : Int) := ⟨(5 + x).toNat, by omega⟩
    have r0 := r
    generalize hn : hs.length = n at *
    generalize hcs : iL hs = cs at *
    cases oh with
    | nil => omega
    | sl a len cs cap hcp hp hcl hlt hg =>
      simp only [go_sem, ↓reduceIte, ↓reduceDIte, zA, zM, zL, zE, zD, yA, yE, yL, yQ, yT, reduceCtorEq, c27_l34, t5, t11, g, cfgC, plC, e1, f2, e2, hg, Nat.mul_one, hcell, f1]
      refine opt_by (h74 g0 L c cv p hs wl h 9 _ _ _ xn hxn ov (by omega) (by omega) r0) fun v1 h1 p1 => ?_
      obtain ⟨rfl, r1, nx1⟩ := p1
      simp only [go_sem, ↓reduceIte, ↓reduceDIte, zA, zM, zL, zE, zD, yA, yE, yL, yQ, yT, reduceCtorEq, t11, f3, nx1]
      exact ⟨k, Nat.lt_succ_self k, by simp [go_sem, t5], i + 1, wl + xn, by omega, by simp [go_sem, e3], by omega, r1⟩
/-- the reference's layout lies there -/
structure RLay (h : H) (L : Nat) (c : CfgT) (p : PlT) (hs : List Int) : Prop where
  ex : ∃ cv hv wv wl wcs, h.t.get L = some (rowL (cfgC c cv ++ (plC p ++ [hv, wv])) 96) ∧ oneA cv = true ∧ Own 1 3 h hv hs.length (iL hs) ∧ Own 3 298 h wv wl wcs ∧ p.wo = (wl : Int)
  lt : L < h.next
theorem RLay.step {h h' : H} {L : Nat} {c : CfgT} {p : PlT} {hs : List Int} (l : RLay h L c p hs) (s : StepN h h') : RLay h' L c p hs := by
  obtain ⟨cv, hv, wv, wl, wcs, g, o, oh, ow, e⟩ := l.ex
  exact ⟨⟨cv, hv, wv, wl, wcs, (s.old L l.lt).trans g, o, oh.keep s.next fun b hb => s.old b (oh.lt hb), ow.keep s.next fun b hb => s.old b (ow.lt hb), e⟩, Nat.lt_of_lt_of_le l.lt s.next⟩
structure Post27 (c : CfgT) (h : H) (v : AV) (h' : H) : Prop where
  ex : ∃ L p, v = .tup [.ptr L 0, .int .i64 0] ∧ h.next ≤ L ∧ PlOK c p ∧ RLay h' L c p (hsL c)
  st : StepN h h'
def F5 (call : CallE) : Prop := ∀ h c v, RdL none 1 h v (uL c.cuts) → (∀ a, own v = some a → a < h.next) → (∀ x ∈ c.cuts, inU x) → ∃ v' h', call 5 [.agg (cfgC c v)] h = some (v', h') ∧ SaysE (layB c) h v' h'
def F73 (call : CallE) : Prop := ∀ h k n v (l : List Int), domB k n l → RdL none 1 h v (uL l) → (∀ a, own v = some a → a < h.next) → (∀ x ∈ l, inU x) → ∃ v' h', call 73 [.agg [.int .u8 k, .int .i64 n, v]] h = some (v', h') ∧ (v' = .tup [.int .i64 (valN k n l), .int .i64 0] ∧ StepN h h')
set_option maxHeartbeats 1000000 in
theorem w27 (P : Program) [PT P] {call : CallE} (h5 : F5 call) (h73 : F73 call) (h74 : F74 call)
    {h : H} {c : CfgT} {v : AV} (hv : RdL none 1 h v (uL c.cuts)) (hlv : ∀ a, own v = some a → a < h.next) (hin : ∀ x ∈ c.cuts, inU x) (hc : layB c) (hn : (hsL c).length ≤ 60) : WF P call c27 [.agg (cfgC c v)] h (Post27 c h) := by
  have hc0 := hc
  obtain ⟨hT, hth, hsl, he1, he2, hb1, hb2, hd, hlo, htr, hba⟩ := hc
  have hvN := valN_ok hd
  have heN := engOK hc0
  have hcl : c.cuts.length ≤ 1000 := by
    rcases hd with ⟨_, _, h1⟩ | ⟨_, _, h1⟩ | ⟨_, _, _, h1, _⟩
    · rw [h1]; decide
    · rw [h1]; decide
    · omega
  have ov := hv.one
  have st0 := StepN.new h (.row (putList 0 (cfgC c v) T.e) 16 27)
  simp only [go_sem, ↓reduceIte, ↓reduceDIte, zA, zM, zL, zE, zD, yA, yE, yL, yQ, yT, reduceCtorEq, c27, ov, cfgC]
  refine opt_by (h5 _ c v (hv.keep fun b hb => st0.old b (hlv b hb)) (fun a ha => Nat.lt_succ_of_lt (hlv a ha)) hin) fun v1 h1 p1 => ?_
  obtain ⟨e, rfl, he, st1⟩ := p1
  obtain rfl := he.2 hc0
  have g1 := st1.old h.next (Nat.lt_succ_self _)
  simp only [go_sem, ↓reduceIte, ↓reduceDIte, zA, zM, zL, zE, zD, yA, yE, yL, yQ, yT, reduceCtorEq, cfgC] at g1
  have st01 := st0.trans st1
  have nx1 : h.next < h1.next := st1.next
  obtain ⟨B, hB⟩ : ∃ B, B = h.next := ⟨_, rfl⟩
  obtain ⟨L, hL⟩ : ∃ L, L = h1.next := ⟨_, rfl⟩
  rw [← hB] at g1
  simp only [← hB]
  have BL : ¬ B = L := by omega
  have LB : ¬ L = B := by omega
  have B1 : ¬ B = L + 1 := by omega
  have L1 : ¬ L = L + 1 := by omega
  have st2 : ∀ x y, StepN h1 ⟨h1.next + 2, ((h1.t.set h1.next x).set (h1.next + 1) y)⟩ := fun x y => ⟨by show h1.next ≤ h1.next + 2; omega, fun b hb => by
    have q1 : ¬ b = h1.next := by omega
    have q2 : ¬ b = h1.next + 1 := by omega
    simp only [go_sem, ↓reduceIte, ↓reduceDIte, zA, zM, zL, zE, zD, yA, yE, yL, yQ, yT, reduceCtorEq, q1, q2]⟩
  have hsrc := fun x y => (hv.keep fun b hb => (st01.trans (st2 x y)).old b (hlv b hb)).src1
  have hgE : ∀ x, (⟨h1.next + 2, ((h1.t.set h1.next x).set (h1.next + 1) (.row (putList 0 [] T.e) 0 28))⟩ : H).t.get (h1.next + 1) = some (.row (putList 0 [] T.e) 0 28) := fun x => by simp only [go_sem, ↓reduceIte, ↓reduceDIte, zA, zM, zL, zE, zD, yA, yE, yL, yQ, yT, reduceCtorEq]
  simp only [← hL] at hsrc hgE st2
  have hs0 := hsrc (.row (putList 0 (cfgC c v ++ (plC plZ ++ [.nils, .nils])) T.e) 28 96) (.row (putList 0 [] T.e) 0 28)
  obtain ⟨cv, h2, ecv, ocv, st3⟩ := emp_copy (h := ⟨L + 2, ((h1.t.set L (.row (putList 0 (cfgC c v ++ (plC plZ ++ [.nils, .nils])) T.e) 28 96)).set (L + 1) (.row (putList 0 [] T.e) 0 28))⟩) (a := L + 1) (by simp [go_sem]) (by omega : c.cuts.length ≤ 65536)
  have gL3 := st3.old L (by show L < L + 2; omega)
  have gB3 := st3.old B (by show B < L + 2; omega)
  have nx3 : L + 2 ≤ h2.next := st3.next
  simp only [go_sem, ↓reduceIte, ↓reduceDIte, zA, zM, zL, zE, zD, yA, yE, yL, yQ, yT, reduceCtorEq, cfgC, plC, plZ, BL, B1, L1, g1] at hs0 ecv gL3 gB3
  simp only [go_sem, ↓reduceIte, ↓reduceDIte, zA, zM, zL, zE, zD, yA, yE, yL, yQ, yT, reduceCtorEq, ← hL, g1, ov, BL, B1, L1, hs0, ecv, gL3, ocv]
  have old3 : ∀ b, b < L → h2.t.get b = h1.t.get b := fun b hb => by
    have q1 : ¬ b = L := by omega
    have q2 : ¬ b = L + 1 := by omega
    have := st3.old b (by show b < L + 2; omega)
    simp only [go_sem, ↓reduceIte, ↓reduceDIte, zA, zM, zL, zE, zD, yA, yE, yL, yQ, yT, reduceCtorEq, q1, q2] at this
    exact this
  obtain ⟨g0, hg0⟩ : ∃ g0, g0 = h2.t.get := ⟨_, rfl⟩
  have gB0 : g0 B = some (rowL (cfgC c v) 27) := by rw [hg0, gB3]; rfl
  refine loop_in (I27a g0 B L c v cv) _ _ (fun k tm h' hI => step27a P ocv (towB_pos _ _ hT) (Nat.le_trans hn (by decide)) k tm h' hI) (fun tm4 h4 hR => ?_) (fun _ _ hh => hh.elim) 6 _ _
    ⟨0, rfl, by simp [go_sem], by simp [go_sem], by simp [go_sem], by omega, gB0, [], rfl, ⟨fun b hb => ?_, by show L < h2.next; omega, .nils, .nils, [], by simp [go_sem, cfgC, plC, plZ], .nil, .nil, fun a ha => (by cases ha), fun a ha => (by cases ha)⟩⟩
  · obtain ⟨t1, t5, r0⟩ := hR
    obtain ⟨hs, hhs⟩ : ∃ l, l = hsL c := ⟨_, rfl⟩
    have hmem : ∀ x ∈ hs, 1 ≤ x ∧ x ≤ 6 := by rw [hhs]; exact hsL_mem
    rw [← hhs] at r0 hn
    have hsum := sumH_le hs hmem
    have gB4 := (r0.old B (by omega)).trans gB0
    have fE1 : fw .i64 (2 * c.slots) = 2 * c.slots := fwI (by omega) (by omega)
    have hbk : 0 ≤ c.buckets ∧ c.buckets ≤ 16 := by
      by_cases e : c.engine = 3
      · have := hb1 e; omega
      · have := hb2 e; omega
    have fE2 : fw .i64 (4 * c.buckets) = 4 * c.buckets := fwI (by omega) (by omega)
    have fE3 : fw .i64 (3 * c.locks) = 3 * c.locks := fwI (by omega) (by omega)
    have fE4 : fw .i64 (valN c.kind c.n c.cuts * 7) = valN c.kind c.n c.cuts * 7 := fwI (by omega) (by omega)
    rw [rThenN]
    refine seq_by (fun tm h' => h' = h4 ∧ tm.get 1 = some (.ptr B 0) ∧ tm.get 5 = some (.ptr L 0) ∧ tm.get 8 = some (.int .i64 c.slots)) ?_ fun tm5 h5 hR5 => ?_
    · simp only [go_sem, ↓reduceIte, ↓reduceDIte, zA, zM, zL, zE, zD, yA, yE, yL, yQ, yT, reduceCtorEq, t1, gB4, cfgC]
      exact t5
    obtain ⟨rfl, t1, t5, t8⟩ := hR5
    refine seq_by (fun tm h' => h' = h5 ∧ tm.get 1 = some (.ptr B 0) ∧ tm.get 5 = some (.ptr L 0) ∧ tm.get 8 = some (.int .i64 (if c.engine = 2 then 2 * c.slots else c.slots))) ?_ fun tm6 h6 hR6 => ?_
    · by_cases e2 : c.engine = 2
      · simp only [go_sem, ↓reduceIte, ↓reduceDIte, zA, zM, zL, zE, zD, yA, yE, yL, yQ, yT, reduceCtorEq, t1, gB4, cfgC, e2, fE1]
        exact t5
      · simp only [go_sem, ↓reduceIte, ↓reduceDIte, zA, zM, zL, zE, zD, yA, yE, yL, yQ, yT, reduceCtorEq, t1, gB4, cfgC, e2]
        exact ⟨t5, t8⟩
    obtain ⟨rfl, t1, t5, t8⟩ := hR6
    refine seq_by (fun tm h' => h' = h6 ∧ tm.get 1 = some (.ptr B 0) ∧ tm.get 5 = some (.ptr L 0) ∧ tm.get 8 = some (.int .i64 (engN c))) ?_ fun tm7 h7 hR7 => ?_
    · by_cases e3 : c.engine = 3
      · simp only [go_sem, ↓reduceIte, ↓reduceDIte, zA, zM, zL, zE, zD, yA, yE, yL, yQ, yT, reduceCtorEq, t1, gB4, cfgC, e3, fE2, engN]
        exact t5
      · by_cases e2 : c.engine = 2
        · rw [if_pos e2] at t8
          simp only [go_sem, ↓reduceIte, ↓reduceDIte, zA, zM, zL, zE, zD, yA, yE, yL, yQ, yT, reduceCtorEq, t1, gB4, cfgC, e2, e3, engN]
          exact ⟨t5, t8⟩
        · have e1 : c.engine = 1 := by omega
          rw [if_neg e2] at t8
          simp only [go_sem, ↓reduceIte, ↓reduceDIte, zA, zM, zL, zE, zD, yA, yE, yL, yQ, yT, reduceCtorEq, t1, gB4, cfgC, e1, engN]
          exact ⟨t5, t8⟩
    obtain ⟨rfl, t1, t5, t8⟩ := hR7
    simp only [go_sem, ↓reduceIte, ↓reduceDIte, zA, zM, zL, zE, zD, yA, yE, yL, yQ, yT, reduceCtorEq, t1, t5, t8, gB4, cfgC]
    have hv7 : RdL none 1 h7 v (uL c.cuts) := hv.keep fun b hb => by
      have hlt := hlv b hb
      exact ((r0.old b (by omega)).trans (by rw [hg0])).trans ((old3 b (by omega)).trans (st01.old b hlt))
    refine opt_by (h73 h7 c.kind c.n v c.cuts hd hv7 (fun a ha => by have := hlv a ha; have := r0.nx; omega) hin) fun v8 h8 p8 => ?_
    obtain ⟨rfl, st8⟩ := p8
    have q0 := r0.step st8
    have gB8 := (q0.old B (by omega)).trans gB0
    obtain ⟨sN, hsN⟩ : ∃ n : Nat, c.slots = (n : Int) := ⟨c.slots.toNat, by omega⟩
    obtain ⟨eN, heNN⟩ : ∃ n : Nat, engN c = (n : Int) := ⟨(engN c).toNat, by omega⟩
    obtain ⟨lN, hlN⟩ : ∃ n : Nat, c.locks = (n : Int) := ⟨c.locks.toNat, by omega⟩
    obtain ⟨vN, hvNN⟩ : ∃ n : Nat, valN c.kind c.n c.cuts = (n : Int) := ⟨(valN c.kind c.n c.cuts).toNat, by omega⟩
    obtain ⟨hv0, wv0, wcs0, gL0, oh0, ow0, ohl0, owl0⟩ := q0.ex
    have oh0v := oh0.one
    have ow0v := ow0.one
    have ohA := oh0.lenA
    simp only [plZ] at gL0
    simp only [go_sem, ↓reduceIte, ↓reduceDIte, zA, zM, zL, zE, zD, yA, yE, yL, yQ, yT, reduceCtorEq, t1, t5, t8, gB8, gL0, cfgC, plC]
    refine opt_by (h74 g0 L c cv _ hs 0 _ 1 0 1 c.slots sN hsN ocv (by omega) (by omega) q0) fun v11 k1 q1' => ?_
    obtain ⟨rfl, r1, nx1q⟩ := q1'
    obtain ⟨a1, ha1⟩ : ∃ a : Nat, a = 0 + sN := ⟨_, rfl⟩
    rw [← ha1] at r1
    obtain ⟨hv1, wv1, wcs1, gL1q, oh1, ow1, ohl1, owl1⟩ := r1.ex
    have gB1q := (r1.old B (by omega)).trans gB0
    have oh1v := oh1.one
    have ow1v := ow1.one
    have ohA1 := oh1.lenA
    have owA1 := ow1.lenA
    simp only [go_sem, ↓reduceIte, ↓reduceDIte, zA, zM, zL, zE, zD, yA, yE, yL, yQ, yT, reduceCtorEq, gL1q, gB1q, oh1v, ow1v, ocv, BL, LB, ohA1, owA1, t1, t5, t8, fE3, fE4, cfgC, plC]
    have q1 := r1.setp oh1 ow1 ohl1 owl1 ⟨0, 0, 0, 0, 0, 0, 0, 0, 0, 0⟩
    refine opt_by (h74 g0 L c cv _ hs a1 _ 2 0 (engN c) (engN c) eN heNN ocv (by omega) (by omega) q1) fun v12 k2 q2' => ?_
    obtain ⟨rfl, r2, nx2q⟩ := q2'
    obtain ⟨a2, ha2⟩ : ∃ a : Nat, a = a1 + eN := ⟨_, rfl⟩
    rw [← ha2] at r2
    obtain ⟨hv2, wv2, wcs2, gL2q, oh2, ow2, ohl2, owl2⟩ := r2.ex
    have gB2q := (r2.old B (by omega)).trans gB0
    have oh2v := oh2.one
    have ow2v := ow2.one
    have ohA2 := oh2.lenA
    have owA2 := ow2.lenA
    simp only [go_sem, ↓reduceIte, ↓reduceDIte, zA, zM, zL, zE, zD, yA, yE, yL, yQ, yT, reduceCtorEq, gL2q, gB2q, oh2v, ow2v, ocv, BL, LB, ohA2, owA2, t1, t5, t8, fE3, fE4, cfgC, plC]
    have q2 := r2.setp oh2 ow2 ohl2 owl2 ⟨0, (a1 : Int), 0, 0, 0, 0, 0, 0, 0, 0⟩
    refine opt_by (h74 g0 L c cv _ hs a2 _ 3 0 1 1 1 rfl ocv (by omega) (by omega) q2) fun v13 k3 q3' => ?_
    obtain ⟨rfl, r3, nx3q⟩ := q3'
    obtain ⟨a3, ha3⟩ : ∃ a : Nat, a = a2 + 1 := ⟨_, rfl⟩
    rw [← ha3] at r3
    obtain ⟨hv3, wv3, wcs3, gL3q, oh3, ow3, ohl3, owl3⟩ := r3.ex
    have gB3q := (r3.old B (by omega)).trans gB0
    have oh3v := oh3.one
    have ow3v := ow3.one
    have ohA3 := oh3.lenA
    have owA3 := ow3.lenA
    simp only [go_sem, ↓reduceIte, ↓reduceDIte, zA, zM, zL, zE, zD, yA, yE, yL, yQ, yT, reduceCtorEq, gL3q, gB3q, oh3v, ow3v, ocv, BL, LB, ohA3, owA3, t1, t5, t8, fE3, fE4, cfgC, plC]
    have q3 := r3.setp oh3 ow3 ohl3 owl3 ⟨0, (a1 : Int), (a2 : Int), 0, 0, 0, 0, 0, 0, 0⟩
    refine opt_by (h74 g0 L c cv _ hs a3 _ 4 0 3 (3 * c.locks) (3 * lN) (by omega) ocv (by omega) (by omega) q3) fun v14 k4 q4' => ?_
    obtain ⟨rfl, r4, nx4q⟩ := q4'
    obtain ⟨a4, ha4⟩ : ∃ a : Nat, a = a3 + (3 * lN) := ⟨_, rfl⟩
    rw [← ha4] at r4
    obtain ⟨hv4, wv4, wcs4, gL4q, oh4, ow4, ohl4, owl4⟩ := r4.ex
    have gB4q := (r4.old B (by omega)).trans gB0
    have oh4v := oh4.one
    have ow4v := ow4.one
    have ohA4 := oh4.lenA
    have owA4 := ow4.lenA
    simp only [go_sem, ↓reduceIte, ↓reduceDIte, zA, zM, zL, zE, zD, yA, yE, yL, yQ, yT, reduceCtorEq, gL4q, gB4q, oh4v, ow4v, ocv, BL, LB, ohA4, owA4, t1, t5, t8, fE3, fE4, cfgC, plC]
    have q4 := r4.setp oh4 ow4 ohl4 owl4 ⟨0, (a1 : Int), (a2 : Int), (a3 : Int), 0, 0, 0, 0, 0, 0⟩
    refine opt_by (h74 g0 L c cv _ hs a4 _ 5 0 1 c.locks lN hlN ocv (by omega) (by omega) q4) fun v15 k5 q5' => ?_
    obtain ⟨rfl, r5, nx5q⟩ := q5'
    obtain ⟨a5, ha5⟩ : ∃ a : Nat, a = a4 + lN := ⟨_, rfl⟩
    rw [← ha5] at r5
    obtain ⟨hv5, wv5, wcs5, gL5q, oh5, ow5, ohl5, owl5⟩ := r5.ex
    have gB5q := (r5.old B (by omega)).trans gB0
    have oh5v := oh5.one
    have ow5v := ow5.one
    have ohA5 := oh5.lenA
    have owA5 := ow5.lenA
    simp only [go_sem, ↓reduceIte, ↓reduceDIte, zA, zM, zL, zE, zD, yA, yE, yL, yQ, yT, reduceCtorEq, gL5q, gB5q, oh5v, ow5v, ocv, BL, LB, ohA5, owA5, t1, t5, t8, fE3, fE4, cfgC, plC]
    have q5 := r5.setp oh5 ow5 ohl5 owl5 ⟨0, (a1 : Int), (a2 : Int), (a3 : Int), (a4 : Int), 0, 0, 0, 0, 0⟩
    refine opt_by (h74 g0 L c cv _ hs a5 _ 6 0 1 6 6 rfl ocv (by omega) (by omega) q5) fun v16 k6 q6' => ?_
    obtain ⟨rfl, r6, nx6q⟩ := q6'
    obtain ⟨a6, ha6⟩ : ∃ a : Nat, a = a5 + 6 := ⟨_, rfl⟩
    rw [← ha6] at r6
    obtain ⟨hv6, wv6, wcs6, gL6q, oh6, ow6, ohl6, owl6⟩ := r6.ex
    have gB6q := (r6.old B (by omega)).trans gB0
    have oh6v := oh6.one
    have ow6v := ow6.one
    have ohA6 := oh6.lenA
    have owA6 := ow6.lenA
    simp only [go_sem, ↓reduceIte, ↓reduceDIte, zA, zM, zL, zE, zD, yA, yE, yL, yQ, yT, reduceCtorEq, gL6q, gB6q, oh6v, ow6v, ocv, BL, LB, ohA6, owA6, t1, t5, t8, fE3, fE4, cfgC, plC]
    have q6 := r6.setp oh6 ow6 ohl6 owl6 ⟨0, (a1 : Int), (a2 : Int), (a3 : Int), (a4 : Int), (a5 : Int), 0, 0, 0, 0⟩
    refine opt_by (h74 g0 L c cv _ hs a6 _ 7 1 1 (hs.length : Int) hs.length rfl ocv (by omega) (by omega) q6) fun v17 k7 q7' => ?_
    obtain ⟨rfl, r7, nx7q⟩ := q7'
    obtain ⟨a7, ha7⟩ : ∃ a : Nat, a = a6 + hs.length := ⟨_, rfl⟩
    rw [← ha7] at r7
    obtain ⟨hv7, wv7, wcs7, gL7q, oh7, ow7, ohl7, owl7⟩ := r7.ex
    have gB7q := (r7.old B (by omega)).trans gB0
    have oh7v := oh7.one
    have ow7v := ow7.one
    have ohA7 := oh7.lenA
    have owA7 := ow7.lenA
    simp only [go_sem, ↓reduceIte, ↓reduceDIte, zA, zM, zL, zE, zD, yA, yE, yL, yQ, yT, reduceCtorEq, gL7q, gB7q, oh7v, ow7v, ocv, BL, LB, ohA7, owA7, t1, t5, t8, fE3, fE4, cfgC, plC]
    have q7 := r7.setp oh7 ow7 ohl7 owl7 ⟨0, (a1 : Int), (a2 : Int), (a3 : Int), (a4 : Int), (a5 : Int), (a6 : Int), 0, 0, 0⟩
    refine opt_by (h74 g0 L c cv _ hs a7 _ 8 0 7 (valN c.kind c.n c.cuts * 7) (vN * 7) (by omega) ocv (by omega) (by omega) q7) fun v18 k8 q8' => ?_
    obtain ⟨rfl, r8, nx8q⟩ := q8'
    obtain ⟨a8, ha8⟩ : ∃ a : Nat, a = a7 + (vN * 7) := ⟨_, rfl⟩
    rw [← ha8] at r8
    obtain ⟨hv8, wv8, wcs8, gL8q, oh8, ow8, ohl8, owl8⟩ := r8.ex
    have gB8q := (r8.old B (by omega)).trans gB0
    have oh8v := oh8.one
    have ow8v := ow8.one
    have ohA8 := oh8.lenA
    have owA8 := ow8.lenA
    simp only [go_sem, ↓reduceIte, ↓reduceDIte, zA, zM, zL, zE, zD, yA, yE, yL, yQ, yT, reduceCtorEq, gL8q, gB8q, oh8v, ow8v, ocv, BL, LB, ohA8, owA8, t1, t5, t8, fE3, fE4, cfgC, plC]
    have q9 := r8.setp oh8 ow8 ohl8 owl8 ⟨0, (a1 : Int), (a2 : Int), (a3 : Int), (a4 : Int), (a5 : Int), (a6 : Int), (a7 : Int), (a8 : Int), 0⟩
    refine loop_in (I27b g0 L c cv ⟨0, (a1 : Int), (a2 : Int), (a3 : Int), (a4 : Int), (a5 : Int), (a6 : Int), (a7 : Int), (a8 : Int), 0⟩ hs ((a8 : Int) + sumH hs)) _ _ (fun k tm h' hI => step27b P h74 ocv hmem (by omega) (by omega) k tm h' hI) (fun tm9 h9 hR9 => ?_) (fun _ _ hh => hh.elim) hs.length _ _
      ⟨by simp [go_sem, t5], 0, a8, by omega, by simp [go_sem], by rw [List.drop_zero], q9⟩
    obtain ⟨s5, wl9, hwl9, r9⟩ := hR9
    obtain ⟨hv9, wv9, wcs9, gL9, oh9, ow9, ohl9, owl9⟩ := r9.ex
    have oh9v := oh9.one
    have ow9v := ow9.one
    have owA9 := ow9.lenA
    have nx9 := r9.nx
    simp only [go_sem, ↓reduceIte, ↓reduceDIte, zA, zM, zL, zE, zD, yA, yE, yL, yQ, yT, reduceCtorEq, s5, gL9, oh9v, ow9v, ocv, owA9, cfgC, plC]
    have q10 := r9.setp oh9 ow9 ohl9 owl9 ⟨0, (a1 : Int), (a2 : Int), (a3 : Int), (a4 : Int), (a5 : Int), (a6 : Int), (a7 : Int), (a8 : Int), (wl9 : Int)⟩
    refine ⟨⟨L, ⟨0, (a1 : Int), (a2 : Int), (a3 : Int), (a4 : Int), (a5 : Int), (a6 : Int), (a7 : Int), (a8 : Int), (wl9 : Int)⟩, rfl, by omega, ⟨rfl, by show (a1 : Int) = c.slots; omega, ?_, ?_, ?_, ?_⟩, ⟨⟨cv, hv9, wv9, wl9, wcs9, by simp [go_sem, cfgC, plC], ocv, ?_, ?_, rfl⟩, nx9⟩⟩, ⟨by show h.next ≤ h9.next; omega, fun b hb => ?_⟩⟩
    · show (a1 : Int) + engN c ≤ wl9
      omega
    · show c.slots ≤ (a5 : Int) ∧ (a5 : Int) + 6 ≤ wl9
      omega
    · rw [← hhs]
      show c.slots ≤ (a6 : Int) ∧ (a6 : Int) + (hs.length : Int) ≤ wl9
      omega
    · show (wl9 : Int) ≤ 5000
      omega
    · rw [← hhs]
      refine oh9.keep (Nat.le_refl _) fun b hb => ?_
      have n1 : ¬ b = L := by have := (ohl9 b hb).1; omega
      simp only [go_sem, ↓reduceIte, ↓reduceDIte, zA, zM, zL, zE, zD, yA, yE, yL, yQ, yT, reduceCtorEq, n1]
    · refine ow9.keep (Nat.le_refl _) fun b hb => ?_
      have n1 : ¬ b = L := by have := owl9 b hb; omega
      simp only [go_sem, ↓reduceIte, ↓reduceDIte, zA, zM, zL, zE, zD, yA, yE, yL, yQ, yT, reduceCtorEq, n1]
    · have n1 : ¬ b = L := by omega
      simp only [go_sem, ↓reduceIte, ↓reduceDIte, zA, zM, zL, zE, zD, yA, yE, yL, yQ, yT, reduceCtorEq, n1]
      exact ((r9.old b (by omega)).trans (by rw [hg0])).trans ((old3 b (by omega)).trans (st01.old b hb))
  · have n1 : ¬ b = L := by omega
    simp only [go_sem, ↓reduceIte, ↓reduceDIte, zA, zM, zL, zE, zD, yA, yE, yL, yQ, yT, reduceCtorEq, n1, hg0]
end
end Go.Proofs.YtldmhpdjlgoenaaGreatDoor.BN

namespace Go.Proofs.YtldmhpdjlgoenaaGreatDoor.BN
open Go.Proofs.YtldmhpdjlgoenaaGreatDoor.Eo
open Nat renaming reduceAdd → zA, reduceMul → zM, reduceLT → zL, reduceEqDiff → zE, reduceLeDiff → zD
open Int renaming reduceAdd → yA, reduceLE → yE, reduceLT → yL, reduceEq → yQ, reduceToNat → yT
noncomputable section
/-! 29: (*leapfrog/leapfrogref09.Layout).Initial -/
@[go_sem] def c29_s0 : List SQ := [⟨some 2, none, .p (.mv (.c .nils))⟩]
@[go_sem] def c29_s1 : List SQ := [⟨some 6, none, .p (.mv (.t 0))⟩, ⟨some 7, none, .p (.bin .eql 91 false true (.t 6) (.c .nilp))⟩]
@[go_sem] def c29_s2 : List SQ := [⟨some 2, none, .p (.mv (.c .nils))⟩]
@[go_sem] def c29_s3 : List SQ := [⟨some 8, none, .p (.mv (.t 0))⟩, ⟨some 9, none, .p (.nilck (.t 8))⟩, ⟨some 10, none, .p (.fadr 27 (.t 9))⟩, ⟨some 11, none, .r (.ld none (.t 10))⟩, ⟨some 12, none, .p (.lenv (.t 11))⟩, ⟨some 13, none, .n (.mksl 28 1 8 [.int .u64 0] (.t 12) (.t 12))⟩, ⟨some 3, none, .p (.mv (.t 13))⟩]
@[go_sem] def c29_s4 : List SQ := [⟨some 14, none, .p (.mv (.t 0))⟩, ⟨some 15, none, .p (.nilck (.t 14))⟩, ⟨some 16, none, .p (.fadr 26 (.t 15))⟩, ⟨some 17, none, .r (.ld none (.t 16))⟩, ⟨some 18, none, .p (.lenv (.t 17))⟩, ⟨some 4, none, .p (.mv (.t 18))⟩]
@[go_sem] def c29_s5 : List SQ := [⟨some 19, none, .p (.mv (.t 4))⟩, ⟨some 20, none, .p (.bin .geq 3 false true (.t 19) (.c (.int .i64 1)))⟩]
@[go_sem] def c29_s6 : List SQ := [⟨some 23, none, .p (.mv (.t 0))⟩, ⟨some 24, none, .p (.nilck (.t 23))⟩, ⟨some 25, none, .p (.fadr 26 (.t 24))⟩, ⟨some 26, none, .r (.ld none (.t 25))⟩, ⟨some 27, none, .p (.mv (.t 4))⟩, ⟨some 28, none, .p (.bin .sub 3 false true (.t 27) (.c (.int .i64 1)))⟩, ⟨some 29, none, .p (.iadrS 1 (.t 26) (.t 28))⟩, ⟨some 30, none, .r (.ld none (.t 29))⟩, ⟨some 5, none, .p (.mv (.t 30))⟩]
@[go_sem] def c29_p7 : List (List DQ × Option DQ) := [([⟨0, [(3, none)], none, .p (.mv (.t 3))⟩, ⟨1, [(0, none)], none, .p (.mv (.t 0))⟩, ⟨2, [(32, (some 1))], none, .p (.nilck (.t 32))⟩, ⟨3, [(33, (some 2))], none, .p (.fadr 16 (.t 33))⟩, ⟨4, [(34, (some 3))], none, .p (.fadr 6 (.t 34))⟩, ⟨5, [(35, (some 4))], none, .r (.ld none (.t 35))⟩, ⟨6, [(4, none)], none, .p (.mv (.t 4))⟩, ⟨7, [(36, (some 5)), (37, (some 6))], none, .p (.bin .add 3 false false (.t 36) (.t 37))⟩, ⟨8, [(38, (some 7))], none, .p (.bin .sub 3 false true (.t 38) (.c (.int .i64 1)))⟩, ⟨9, [(3, none)], none, .p (.mv (.t 3))⟩, ⟨10, [(0, none)], none, .p (.mv (.t 0))⟩, ⟨11, [(41, (some 10))], none, .p (.nilck (.t 41))⟩, ⟨12, [(42, (some 11))], none, .p (.fadr 16 (.t 42))⟩, ⟨13, [(43, (some 12))], none, .p (.fadr 5 (.t 43))⟩, ⟨14, [(44, (some 13))], none, .r (.ld none (.t 44))⟩, ⟨15, [(5, none)], none, .p (.mv (.t 5))⟩, ⟨16, [(45, (some 14)), (46, (some 15))], none, .p (.bin .add 3 false false (.t 45) (.t 46))⟩, ⟨17, [(47, (some 16))], none, .p (.bin .sub 3 false true (.t 47) (.c (.int .i64 1)))⟩, ⟨18, [(40, (some 9)), (48, (some 17))], none, .p (.iadrS 1 (.t 40) (.t 48))⟩, ⟨19, [(49, (some 18))], none, .r (.ld none (.t 49))⟩, ⟨20, [(31, (some 0)), (39, (some 8))], none, .p (.iadrS 1 (.t 31) (.t 39))⟩], (some ⟨21, [(51, (some 20)), (50, (some 19))], none, .e (.st 1 (.t 51) (.t 50))⟩)), ([], none)]
@[go_sem] def c29_s8 : List SQ := [⟨some 52, none, .p (.mv (.t 3))⟩, ⟨some 53, none, .p (.mv (.t 0))⟩, ⟨some 54, none, .p (.nilck (.t 53))⟩, ⟨some 55, none, .p (.fadr 16 (.t 54))⟩, ⟨some 56, none, .p (.fadr 5 (.t 55))⟩, ⟨some 57, none, .r (.ld none (.t 56))⟩, ⟨some 58, none, .p (.mv (.t 5))⟩, ⟨some 59, none, .p (.bin .add 3 false false (.t 57) (.t 58))⟩, ⟨some 60, none, .p (.bin .sub 3 false true (.t 59) (.c (.int .i64 1)))⟩, ⟨some 61, none, .p (.mv (.t 4))⟩, ⟨some 62, none, .p (.conv .u64 (.t 61))⟩, ⟨some 63, none, .p (.iadrS 1 (.t 52) (.t 60))⟩, ⟨none, none, .e (.st 1 (.t 63) (.t 62))⟩]
@[go_sem] def c29_s9 : List SQ := [⟨some 21, none, .p (.mv (.t 4))⟩, ⟨some 22, none, .p (.bin .sub 3 false true (.t 21) (.c (.int .i64 1)))⟩, ⟨some 4, none, .p (.mv (.t 22))⟩]
def c29_l10 : CC := (.seq (.seq (.ops c29_s5) (.cond (.t 20) .skip (.exit 0))) (.seq (.block 1 (.seq (.ops c29_s6) (.seq (.drw ⟨c29_p7, [(0, 31), (1, 32), (2, 33), (3, 34), (4, 35), (5, 36), (6, 37), (7, 38), (8, 39), (9, 40), (10, 41), (11, 42), (12, 43), (13, 44), (14, 45), (15, 46), (16, 47), (17, 48), (18, 49), (19, 50), (20, 51)], []⟩) (.ops c29_s8)))) (.ops c29_s9)))
@[go_sem] def c29_s11 : List SQ := [⟨some 64, none, .p (.mv (.t 3))⟩, ⟨some 2, none, .p (.mv (.t 64))⟩]
@[go_sem] def c29 : CF := ⟨1, (.seq (.ops c29_s0) (.seq (.seq (.ops c29_s1) (.cond (.t 7) (.seq (.ops c29_s2) .ret) .skip)) (.seq (.ops c29_s3) (.seq (.seq (.ops c29_s4) (.block 0 (.loop c29_l10))) (.seq (.ops c29_s11) .ret))))), [.tmp 2]⟩
/-! 28: leapfrog/leapfrogref08.New -/
@[go_sem] def c28_s0 : List SQ := [⟨some 2, none, .p (.mv (.c .nilp))⟩, ⟨some 3, none, .p (.mv (.c (.int .i64 0)))⟩]
@[go_sem] def c28_s1 : List SQ := [⟨some 4, none, .p (.mv (.t 0))⟩, ⟨some 5, none, .p (.lenv (.t 4))⟩, ⟨some 6, none, .p (.bin .eql 3 false true (.t 5) (.c (.int .i64 0)))⟩]
@[go_sem] def c28_s2 : List SQ := [⟨some 2, none, .p (.mv (.c .nilp))⟩, ⟨some 3, none, .p (.mv (.c (.int .i64 2)))⟩]
@[go_sem] def c28_s3 : List SQ := [⟨some 7, none, .p (.mv (.t 0))⟩, ⟨some 8, none, .p (.lenv (.t 7))⟩, ⟨some 9, none, .p (.bin .gtr 3 false true (.t 8) (.c (.int .i64 65536)))⟩]
@[go_sem] def c28_s4 : List SQ := [⟨some 2, none, .p (.mv (.c .nilp))⟩, ⟨some 3, none, .p (.mv (.c (.int .i64 5)))⟩]
@[go_sem] def c28_s5 : List SQ := [⟨some 10, none, .n (.buildS 28 1 0 [] [])⟩, ⟨some 11, none, .p (.mv (.t 0))⟩, ⟨some 12, none, .e (.app 28 1 8 (.t 10) (.t 11))⟩, ⟨some 13, none, .p (.build [.nils, .nils] [(0, 1, (.t 12))])⟩, ⟨some 14, none, .n (.box 222 (.t 13))⟩, ⟨some 2, none, .p (.mv (.t 14))⟩, ⟨some 3, none, .p (.mv (.c (.int .i64 0)))⟩]
@[go_sem] def c28 : CF := ⟨1, (.seq (.ops c28_s0) (.seq (.seq (.ops c28_s1) (.cond (.t 6) (.seq (.ops c28_s2) .ret) .skip)) (.seq (.seq (.ops c28_s3) (.cond (.t 9) (.seq (.ops c28_s4) .ret) .skip)) (.seq (.ops c28_s5) .ret)))), [.tmp 2, .tmp 3]⟩
/-! 30: leapfrog/leapfrogref14.New -/
@[go_sem] def c30_s0 : List SQ := [⟨some 4, none, .p (.mv (.c .nilp))⟩, ⟨some 5, none, .p (.mv (.c (.int .i64 0)))⟩]
@[go_sem] def c30_s1 : List SQ := [⟨some 7, none, .p (.mv (.t 0))⟩, ⟨some 8, none, .p (.bin .eql 97 false true (.t 7) (.c .nilp))⟩, ⟨some 9, none, .p (.mv (.t 8))⟩, ⟨some 10, some (9, false), .p (.mv (.t 1))⟩, ⟨some 11, some (9, false), .p (.bin .eql 91 false true (.t 10) (.c .nilp))⟩, ⟨some 12, none, .p (.pick (.t 9) (.c (.bool true)) (.t 11))⟩]
@[go_sem] def c30_s2 : List SQ := [⟨some 4, none, .p (.mv (.c .nilp))⟩, ⟨some 5, none, .p (.mv (.c (.int .i64 1)))⟩]
@[go_sem] def c30_p3 : List (List DQ × Option DQ) := [([⟨0, [(0, none)], none, .p (.mv (.t 0))⟩, ⟨1, [(13, (some 0))], none, .p (.nilck (.t 13))⟩, ⟨2, [(14, (some 1))], none, .p (.fadr 0 (.t 14))⟩, ⟨3, [(15, (some 2))], none, .r (.ld none (.t 15))⟩, ⟨4, [(16, (some 3))], none, .p (.lenv (.t 16))⟩, ⟨5, [(1, none)], none, .p (.mv (.t 1))⟩, ⟨6, [(18, (some 5))], none, .p (.nilck (.t 18))⟩, ⟨7, [(19, (some 6))], none, .p (.fadr 16 (.t 19))⟩, ⟨8, [(20, (some 7))], none, .p (.fadr 9 (.t 20))⟩, ⟨9, [(21, (some 8))], none, .r (.ld none (.t 21))⟩, ⟨10, [(17, (some 4)), (22, (some 9))], none, .p (.bin .neq 3 false false (.t 17) (.t 22))⟩], none)]
@[go_sem] def c30_s4 : List SQ := [⟨some 4, none, .p (.mv (.c .nilp))⟩, ⟨some 5, none, .p (.mv (.c (.int .i64 2)))⟩]
@[go_sem] def c30_s5 : List SQ := [⟨some 24, none, .p (.mv (.t 1))⟩, ⟨some 25, none, .p (.nilck (.t 24))⟩, ⟨some 26, none, .p (.fadr 26 (.t 25))⟩, ⟨some 27, none, .r (.ld none (.t 26))⟩, ⟨some 28, none, .p (.lenv (.t 27))⟩, ⟨some 29, none, .p (.bin .add 3 false true (.t 28) (.c (.int .i64 1)))⟩, ⟨some 6, none, .p (.mv (.t 29))⟩]
@[go_sem] def c30_p6 : List (List DQ × Option DQ) := [([⟨0, [(0, none)], none, .p (.mv (.t 0))⟩, ⟨1, [(1, none)], none, .p (.mv (.t 1))⟩, ⟨2, [(6, none)], none, .p (.mv (.t 6))⟩, ⟨3, [(32, (some 2)), (32, (some 2))], none, .n (.mksl 4 1 1 [.bool false] (.t 32) (.t 32))⟩, ⟨4, [(6, none)], none, .p (.mv (.t 6))⟩, ⟨5, [(34, (some 4)), (34, (some 4))], none, .n (.mksl 4 1 1 [.bool false] (.t 34) (.t 34))⟩, ⟨6, [(6, none)], none, .p (.mv (.t 6))⟩, ⟨7, [(36, (some 6)), (36, (some 6))], none, .n (.mksl 3 1 8 [.int .i64 0] (.t 36) (.t 36))⟩, ⟨8, [(30, (some 0)), (31, (some 1)), (33, (some 3)), (35, (some 5)), (37, (some 7))], none, .p (.build [.nilp, .nilp, .nils, .nils, .nils] [(0, 1, (.t 30)), (1, 1, (.t 31)), (2, 1, (.t 33)), (3, 1, (.t 35)), (4, 1, (.t 37))])⟩, ⟨9, [(38, (some 8))], none, .n (.box 225 (.t 38))⟩, ⟨10, [(39, (some 9))], none, .p (.mv (.t 39))⟩, ⟨11, [], none, .p (.mv (.c (.int .i64 0)))⟩], none)]
@[go_sem] def c30 : CF := ⟨2, (.seq (.ops c30_s0) (.seq (.seq (.ops c30_s1) (.cond (.t 12) (.seq (.ops c30_s2) .ret) .skip)) (.seq (.seq (.drw ⟨c30_p3, [(0, 13), (1, 14), (2, 15), (3, 16), (4, 17), (5, 18), (6, 19), (7, 20), (8, 21), (9, 22), (10, 23)], []⟩) (.cond (.t 23) (.seq (.ops c30_s4) .ret) .skip)) (.seq (.ops c30_s5) (.seq (.drw ⟨c30_p6, [(0, 30), (1, 31), (2, 32), (3, 33), (4, 34), (5, 35), (6, 36), (7, 37), (8, 38), (9, 39), (10, 4), (11, 5)], []⟩) .ret))))), [.tmp 4, .tmp 5]⟩
/-! 31: leapfrog/leapfrogref15.New -/
@[go_sem] def c31_s0 : List SQ := [⟨some 4, none, .p (.mv (.c .nilp))⟩, ⟨some 5, none, .p (.mv (.c (.int .i64 0)))⟩]
@[go_sem] def c31_s1 : List SQ := [⟨some 6, none, .p (.mv (.t 0))⟩, ⟨some 7, none, .p (.bin .eql 97 false true (.t 6) (.c .nilp))⟩, ⟨some 8, none, .p (.mv (.t 7))⟩, ⟨some 9, some (8, false), .p (.mv (.t 1))⟩, ⟨some 10, some (8, false), .p (.bin .eql 91 false true (.t 9) (.c .nilp))⟩, ⟨some 11, none, .p (.pick (.t 8) (.c (.bool true)) (.t 10))⟩]
@[go_sem] def c31_s2 : List SQ := [⟨some 4, none, .p (.mv (.c .nilp))⟩, ⟨some 5, none, .p (.mv (.c (.int .i64 1)))⟩]
@[go_sem] def c31_p3 : List (List DQ × Option DQ) := [([⟨0, [(0, none)], none, .p (.mv (.t 0))⟩, ⟨1, [(12, (some 0))], none, .p (.nilck (.t 12))⟩, ⟨2, [(13, (some 1))], none, .p (.fadr 0 (.t 13))⟩, ⟨3, [(14, (some 2))], none, .r (.ld none (.t 14))⟩, ⟨4, [(15, (some 3))], none, .p (.lenv (.t 15))⟩, ⟨5, [(1, none)], none, .p (.mv (.t 1))⟩, ⟨6, [(17, (some 5))], none, .p (.nilck (.t 17))⟩, ⟨7, [(18, (some 6))], none, .p (.fadr 16 (.t 18))⟩, ⟨8, [(19, (some 7))], none, .p (.fadr 9 (.t 19))⟩, ⟨9, [(20, (some 8))], none, .r (.ld none (.t 20))⟩, ⟨10, [(16, (some 4)), (21, (some 9))], none, .p (.bin .neq 3 false false (.t 16) (.t 21))⟩], none)]
@[go_sem] def c31_s4 : List SQ := [⟨some 4, none, .p (.mv (.c .nilp))⟩, ⟨some 5, none, .p (.mv (.c (.int .i64 2)))⟩]
@[go_sem] def c31_s5 : List SQ := [⟨some 23, none, .p (.mv (.t 0))⟩, ⟨some 24, none, .p (.mv (.t 1))⟩, ⟨some 25, none, .p (.build [.nilp, .nilp] [(0, 1, (.t 23)), (1, 1, (.t 24))])⟩, ⟨some 26, none, .n (.box 227 (.t 25))⟩, ⟨some 4, none, .p (.mv (.t 26))⟩, ⟨some 5, none, .p (.mv (.c (.int .i64 0)))⟩]
@[go_sem] def c31 : CF := ⟨2, (.seq (.ops c31_s0) (.seq (.seq (.ops c31_s1) (.cond (.t 11) (.seq (.ops c31_s2) .ret) .skip)) (.seq (.seq (.drw ⟨c31_p3, [(0, 12), (1, 13), (2, 14), (3, 15), (4, 16), (5, 17), (6, 18), (7, 19), (8, 20), (9, 21), (10, 22)], []⟩) (.cond (.t 22) (.seq (.ops c31_s4) .ret) .skip)) (.seq (.ops c31_s5) .ret)))), [.tmp 4, .tmp 5]⟩
/-! 75: leapfrog/leapfrogref19.Words -/
@[go_sem] def c75_s0 : List SQ := [⟨some 6, none, .p (.mv (.c (.int .i64 0)))⟩, ⟨some 7, none, .p (.mv (.c (.int .i64 0)))⟩]
@[go_sem] def c75_s1 : List SQ := [⟨some 8, none, .p (.mv (.t 0))⟩, ⟨some 9, none, .p (.bin .lss 5 false true (.t 8) (.c (.int .u8 1)))⟩, ⟨some 10, none, .p (.mv (.t 9))⟩, ⟨some 11, some (10, false), .p (.mv (.t 0))⟩, ⟨some 12, some (10, false), .p (.bin .gtr 5 false true (.t 11) (.c (.int .u8 3)))⟩, ⟨some 13, none, .p (.pick (.t 10) (.c (.bool true)) (.t 12))⟩, ⟨some 14, none, .p (.mv (.t 13))⟩, ⟨some 15, some (14, false), .p (.mv (.t 1))⟩, ⟨some 16, some (14, false), .p (.bin .lss 3 false true (.t 15) (.c (.int .i64 1)))⟩, ⟨some 17, none, .p (.pick (.t 14) (.c (.bool true)) (.t 16))⟩, ⟨some 18, none, .p (.mv (.t 17))⟩, ⟨some 19, some (18, false), .p (.mv (.t 1))⟩, ⟨some 20, some (18, false), .p (.bin .gtr 3 false true (.t 19) (.c (.int .i64 64)))⟩, ⟨some 21, none, .p (.pick (.t 18) (.c (.bool true)) (.t 20))⟩]
@[go_sem] def c75_s2 : List SQ := [⟨some 6, none, .p (.mv (.c (.int .i64 0)))⟩, ⟨some 7, none, .p (.mv (.c (.int .i64 2)))⟩]
@[go_sem] def c75_s3 : List SQ := [⟨some 22, none, .p (.mv (.t 0))⟩, ⟨some 23, none, .p (.bin .eql 5 false true (.t 22) (.c (.int .u8 3)))⟩]
@[go_sem] def c75_s4 : List SQ := [⟨some 24, none, .p (.mv (.t 2))⟩, ⟨some 25, none, .cv (.c (.fn (.func 108) [] [])) [(.t 24)]⟩, ⟨some 26, none, .p (.extr (.t 25) 0)⟩, ⟨some 27, none, .p (.extr (.t 25) 1)⟩, ⟨some 6, none, .p (.mv (.t 26))⟩, ⟨some 7, none, .p (.mv (.t 27))⟩]
@[go_sem] def c75_s5 : List SQ := [⟨some 28, none, .p (.mv (.t 2))⟩, ⟨some 29, none, .p (.bin .neq 3 false true (.t 28) (.c (.int .i64 0)))⟩]
@[go_sem] def c75_s6 : List SQ := [⟨some 6, none, .p (.mv (.c (.int .i64 0)))⟩, ⟨some 7, none, .p (.mv (.c (.int .i64 2)))⟩]
@[go_sem] def c75_s7 : List SQ := [⟨some 30, none, .p (.mv (.t 0))⟩, ⟨some 31, none, .p (.bin .eql 5 false true (.t 30) (.c (.int .u8 1)))⟩]
@[go_sem] def c75_s8 : List SQ := [⟨some 32, none, .p (.mv (.t 1))⟩, ⟨some 33, none, .cv (.c (.fn (.func 109) [] [])) [(.t 32)]⟩, ⟨some 34, none, .p (.extr (.t 33) 0)⟩, ⟨some 35, none, .p (.extr (.t 33) 1)⟩, ⟨some 6, none, .p (.mv (.t 34))⟩, ⟨some 7, none, .p (.mv (.t 35))⟩]
@[go_sem] def c75_s9 : List SQ := [⟨some 36, none, .p (.mv (.t 1))⟩, ⟨some 37, none, .cv (.c (.fn (.func 110) [] [])) [(.t 36)]⟩, ⟨some 38, none, .p (.extr (.t 37) 0)⟩, ⟨some 39, none, .p (.extr (.t 37) 1)⟩, ⟨some 6, none, .p (.mv (.t 38))⟩, ⟨some 7, none, .p (.mv (.t 39))⟩]
@[go_sem] def c75 : CF := ⟨3, (.seq (.ops c75_s0) (.seq (.seq (.ops c75_s1) (.cond (.t 21) (.seq (.ops c75_s2) .ret) .skip)) (.seq (.seq (.ops c75_s3) (.cond (.t 23) (.seq (.ops c75_s4) .ret) .skip)) (.seq (.seq (.ops c75_s5) (.cond (.t 29) (.seq (.ops c75_s6) .ret) .skip)) (.seq (.seq (.ops c75_s7) (.cond (.t 31) (.seq (.ops c75_s8) .ret) .skip)) (.seq (.ops c75_s9) .ret)))))), [.tmp 6, .tmp 7]⟩
/-! 76: leapfrog/leapfrogref16.New -/
@[go_sem] def c76_s0 : List SQ := [⟨some 6, none, .p (.mv (.c .nilp))⟩, ⟨some 7, none, .p (.mv (.c (.int .i64 0)))⟩]
@[go_sem] def c76_s1 : List SQ := [⟨some 10, none, .p (.mv (.t 0))⟩, ⟨some 11, none, .p (.bin .eql 97 false true (.t 10) (.c .nilp))⟩]
@[go_sem] def c76_s2 : List SQ := [⟨some 6, none, .p (.mv (.c .nilp))⟩, ⟨some 7, none, .p (.mv (.c (.int .i64 1)))⟩]
@[go_sem] def c76_s3 : List SQ := [⟨some 13, none, .p (.mv (.t 2))⟩, ⟨some 14, none, .cv (.c (.fn (.func 109) [] [])) [(.t 13)]⟩, ⟨some 12, none, .p (.mv (.t 14))⟩, ⟨some 15, none, .p (.extr (.t 12) 0)⟩, ⟨some 16, none, .p (.extr (.t 12) 1)⟩, ⟨some 8, none, .p (.mv (.t 15))⟩, ⟨some 9, none, .p (.mv (.t 16))⟩]
@[go_sem] def c76_s4 : List SQ := [⟨some 17, none, .p (.mv (.t 9))⟩, ⟨some 18, none, .p (.bin .neq 34 false true (.t 17) (.c (.int .i64 0)))⟩]
@[go_sem] def c76_s5 : List SQ := [⟨some 19, none, .p (.mv (.t 9))⟩, ⟨some 6, none, .p (.mv (.c .nilp))⟩, ⟨some 7, none, .p (.mv (.t 19))⟩]
@[go_sem] def c76_s6 : List SQ := [⟨some 20, none, .p (.mv (.t 0))⟩, ⟨some 21, none, .p (.mv (.t 1))⟩, ⟨some 22, none, .p (.mv (.t 8))⟩, ⟨some 23, none, .cv (.c (.fn (.func 111) [] [])) [(.t 20), (.t 21), (.t 22)]⟩, ⟨some 24, none, .p (.un .not (.t 23))⟩]
@[go_sem] def c76_s7 : List SQ := [⟨some 6, none, .p (.mv (.c .nilp))⟩, ⟨some 7, none, .p (.mv (.c (.int .i64 3)))⟩]
@[go_sem] def c76_s8 : List SQ := [⟨some 25, none, .p (.mv (.t 0))⟩, ⟨some 26, none, .p (.mv (.t 1))⟩, ⟨some 27, none, .p (.mv (.t 2))⟩, ⟨some 28, none, .n (.mksl 396 3 16 [.int .u64 0, .bool false, .bool false] (.t 27) (.t 27))⟩, ⟨some 29, none, .p (.build [.nilp, .int .i64 0, .nils] [(0, 1, (.t 25)), (1, 1, (.t 26)), (2, 1, (.t 28))])⟩, ⟨some 30, none, .n (.box 302 (.t 29))⟩, ⟨some 6, none, .p (.mv (.t 30))⟩, ⟨some 7, none, .p (.mv (.c (.int .i64 0)))⟩]
@[go_sem] def c76 : CF := ⟨3, (.seq (.ops c76_s0) (.seq (.seq (.ops c76_s1) (.cond (.t 11) (.seq (.ops c76_s2) .ret) .skip)) (.seq (.ops c76_s3) (.seq (.seq (.ops c76_s4) (.cond (.t 18) (.seq (.ops c76_s5) .ret) .skip)) (.seq (.seq (.ops c76_s6) (.cond (.t 24) (.seq (.ops c76_s7) .ret) .skip)) (.seq (.ops c76_s8) .ret)))))), [.tmp 6, .tmp 7]⟩
/-! 77: leapfrog/leapfrogref17.New -/
@[go_sem] def c77_s0 : List SQ := [⟨some 6, none, .p (.mv (.c .nilp))⟩, ⟨some 7, none, .p (.mv (.c (.int .i64 0)))⟩]
@[go_sem] def c77_s1 : List SQ := [⟨some 10, none, .p (.mv (.t 0))⟩, ⟨some 11, none, .p (.bin .eql 97 false true (.t 10) (.c .nilp))⟩]
@[go_sem] def c77_s2 : List SQ := [⟨some 6, none, .p (.mv (.c .nilp))⟩, ⟨some 7, none, .p (.mv (.c (.int .i64 1)))⟩]
@[go_sem] def c77_s3 : List SQ := [⟨some 13, none, .p (.mv (.t 2))⟩, ⟨some 14, none, .cv (.c (.fn (.func 110) [] [])) [(.t 13)]⟩, ⟨some 12, none, .p (.mv (.t 14))⟩, ⟨some 15, none, .p (.extr (.t 12) 0)⟩, ⟨some 16, none, .p (.extr (.t 12) 1)⟩, ⟨some 8, none, .p (.mv (.t 15))⟩, ⟨some 9, none, .p (.mv (.t 16))⟩]
@[go_sem] def c77_s4 : List SQ := [⟨some 17, none, .p (.mv (.t 9))⟩, ⟨some 18, none, .p (.bin .neq 34 false true (.t 17) (.c (.int .i64 0)))⟩]
@[go_sem] def c77_s5 : List SQ := [⟨some 19, none, .p (.mv (.t 9))⟩, ⟨some 6, none, .p (.mv (.c .nilp))⟩, ⟨some 7, none, .p (.mv (.t 19))⟩]
@[go_sem] def c77_s6 : List SQ := [⟨some 20, none, .p (.mv (.t 0))⟩, ⟨some 21, none, .p (.mv (.t 1))⟩, ⟨some 22, none, .p (.mv (.t 8))⟩, ⟨some 23, none, .cv (.c (.fn (.func 111) [] [])) [(.t 20), (.t 21), (.t 22)]⟩, ⟨some 24, none, .p (.un .not (.t 23))⟩]
@[go_sem] def c77_s7 : List SQ := [⟨some 6, none, .p (.mv (.c .nilp))⟩, ⟨some 7, none, .p (.mv (.c (.int .i64 3)))⟩]
@[go_sem] def c77_s8 : List SQ := [⟨some 25, none, .p (.mv (.t 0))⟩, ⟨some 26, none, .p (.mv (.t 1))⟩, ⟨some 27, none, .p (.mv (.t 2))⟩, ⟨some 28, none, .n (.mksl 396 3 16 [.int .u64 0, .bool false, .bool false] (.t 27) (.t 27))⟩, ⟨some 29, none, .p (.build [.nilp, .int .i64 0, .nils] [(0, 1, (.t 25)), (1, 1, (.t 26)), (2, 1, (.t 28))])⟩, ⟨some 30, none, .n (.box 303 (.t 29))⟩, ⟨some 6, none, .p (.mv (.t 30))⟩, ⟨some 7, none, .p (.mv (.c (.int .i64 0)))⟩]
@[go_sem] def c77 : CF := ⟨3, (.seq (.ops c77_s0) (.seq (.seq (.ops c77_s1) (.cond (.t 11) (.seq (.ops c77_s2) .ret) .skip)) (.seq (.ops c77_s3) (.seq (.seq (.ops c77_s4) (.cond (.t 18) (.seq (.ops c77_s5) .ret) .skip)) (.seq (.seq (.ops c77_s6) (.cond (.t 24) (.seq (.ops c77_s7) .ret) .skip)) (.seq (.ops c77_s8) .ret)))))), [.tmp 6, .tmp 7]⟩
/-! 78: leapfrog/leapfrogref18.New -/
@[go_sem] def c78_s0 : List SQ := [⟨some 6, none, .p (.mv (.c .nilp))⟩, ⟨some 7, none, .p (.mv (.c (.int .i64 0)))⟩]
@[go_sem] def c78_s1 : List SQ := [⟨some 10, none, .p (.mv (.t 0))⟩, ⟨some 11, none, .p (.bin .eql 97 false true (.t 10) (.c .nilp))⟩]
@[go_sem] def c78_s2 : List SQ := [⟨some 6, none, .p (.mv (.c .nilp))⟩, ⟨some 7, none, .p (.mv (.c (.int .i64 1)))⟩]
@[go_sem] def c78_s3 : List SQ := [⟨some 13, none, .p (.mv (.t 2))⟩, ⟨some 14, none, .cv (.c (.fn (.func 108) [] [])) [(.t 13)]⟩, ⟨some 12, none, .p (.mv (.t 14))⟩, ⟨some 15, none, .p (.extr (.t 12) 0)⟩, ⟨some 16, none, .p (.extr (.t 12) 1)⟩, ⟨some 8, none, .p (.mv (.t 15))⟩, ⟨some 9, none, .p (.mv (.t 16))⟩]
@[go_sem] def c78_s4 : List SQ := [⟨some 17, none, .p (.mv (.t 9))⟩, ⟨some 18, none, .p (.bin .neq 34 false true (.t 17) (.c (.int .i64 0)))⟩]
@[go_sem] def c78_s5 : List SQ := [⟨some 19, none, .p (.mv (.t 9))⟩, ⟨some 6, none, .p (.mv (.c .nilp))⟩, ⟨some 7, none, .p (.mv (.t 19))⟩]
@[go_sem] def c78_s6 : List SQ := [⟨some 20, none, .p (.mv (.t 0))⟩, ⟨some 21, none, .p (.mv (.t 1))⟩, ⟨some 22, none, .p (.mv (.t 8))⟩, ⟨some 23, none, .cv (.c (.fn (.func 111) [] [])) [(.t 20), (.t 21), (.t 22)]⟩, ⟨some 24, none, .p (.un .not (.t 23))⟩]
@[go_sem] def c78_s7 : List SQ := [⟨some 6, none, .p (.mv (.c .nilp))⟩, ⟨some 7, none, .p (.mv (.c (.int .i64 3)))⟩]
@[go_sem] def c78_s8 : List SQ := [⟨some 25, none, .p (.mv (.t 0))⟩, ⟨some 26, none, .p (.mv (.t 1))⟩, ⟨some 27, none, .p (.mv (.t 2))⟩, ⟨some 28, none, .p (.build [.nilp, .int .i64 0, .int .i64 0, .bool false, .bool false, .int .i64 0, .int .u64 0, .bool false, .bool false, .int .i64 0, .int .u64 0, .bool false, .bool false, .int .i64 0, .int .u64 0, .bool false, .bool false, .int .i64 0, .int .u64 0, .bool false, .bool false, .int .i64 0, .int .u64 0, .bool false, .bool false, .int .i64 0, .int .u64 0, .bool false, .bool false, .int .i64 0, .int .u64 0, .bool false, .bool false, .int .i64 0, .int .u64 0, .bool false, .bool false, .int .i64 0, .int .u64 0, .bool false, .bool false, .int .i64 0, .int .u64 0, .bool false, .bool false, .int .i64 0, .int .u64 0, .bool false, .bool false, .int .i64 0, .int .u64 0, .bool false, .bool false, .int .i64 0, .int .u64 0, .bool false, .bool false, .int .i64 0, .int .u64 0, .bool false, .bool false, .int .i64 0, .int .u64 0, .bool false, .bool false, .int .i64 0, .int .u64 0, .bool false, .bool false, .int .i64 0, .int .u64 0, .bool false, .bool false, .int .i64 0, .int .u64 0, .bool false, .bool false, .int .i64 0, .int .u64 0, .bool false, .bool false, .int .i64 0, .int .u64 0, .bool false, .bool false, .int .i64 0, .int .u64 0, .bool false, .bool false, .int .i64 0, .int .u64 0, .bool false, .bool false, .int .i64 0, .int .u64 0, .bool false, .bool false, .int .i64 0, .int .u64 0, .bool false, .bool false, .int .i64 0, .int .u64 0, .bool false, .bool false, .int .i64 0, .int .u64 0, .bool false, .bool false, .int .i64 0, .int .u64 0, .bool false, .bool false, .int .i64 0, .int .u64 0, .bool false, .bool false, .int .i64 0, .int .u64 0, .bool false, .bool false, .int .i64 0, .int .u64 0, .bool false, .bool false, .int .i64 0, .int .u64 0, .bool false, .bool false, .int .i64 0, .int .u64 0, .bool false, .bool false, .int .i64 0, .int .u64 0, .bool false, .bool false, .int .i64 0, .int .u64 0, .bool false, .bool false, .int .i64 0, .int .u64 0, .bool false, .bool false, .int .i64 0, .int .u64 0, .bool false, .bool false, .int .i64 0, .int .u64 0, .bool false, .bool false, .int .i64 0, .int .u64 0, .bool false, .bool false, .int .i64 0, .int .u64 0, .bool false, .bool false, .int .i64 0, .int .u64 0, .bool false, .bool false, .int .i64 0, .int .u64 0, .bool false, .bool false, .int .i64 0, .int .u64 0, .bool false, .bool false, .int .i64 0, .int .u64 0, .bool false, .bool false, .int .i64 0, .int .u64 0, .bool false, .bool false, .int .i64 0, .int .u64 0, .bool false, .bool false, .int .i64 0, .int .u64 0, .bool false, .bool false, .int .i64 0, .int .u64 0, .bool false, .bool false, .int .i64 0, .int .u64 0, .bool false, .bool false, .int .i64 0, .int .u64 0, .bool false, .bool false, .int .i64 0, .int .u64 0, .bool false, .bool false, .int .i64 0, .int .u64 0, .bool false, .bool false, .int .i64 0, .int .u64 0, .bool false, .bool false, .int .i64 0, .int .u64 0, .bool false, .bool false, .int .i64 0, .int .u64 0, .bool false, .bool false, .int .i64 0, .int .u64 0, .bool false, .bool false, .int .i64 0, .int .u64 0, .bool false, .bool false, .int .i64 0, .int .u64 0, .bool false, .bool false, .int .i64 0, .int .u64 0, .bool false, .bool false, .int .i64 0, .int .u64 0, .bool false, .bool false, .int .i64 0, .int .u64 0, .bool false, .bool false, .int .i64 0, .int .u64 0, .bool false, .bool false, .int .i64 0, .int .u64 0, .bool false, .bool false, .int .i64 0, .int .u64 0, .bool false, .bool false, .int .i64 0, .int .u64 0] [(0, 1, (.t 25)), (1, 1, (.t 26)), (2, 1, (.t 27))])⟩, ⟨some 29, none, .n (.box 308 (.t 28))⟩, ⟨some 6, none, .p (.mv (.t 29))⟩, ⟨some 7, none, .p (.mv (.c (.int .i64 0)))⟩]
@[go_sem] def c78 : CF := ⟨3, (.seq (.ops c78_s0) (.seq (.seq (.ops c78_s1) (.cond (.t 11) (.seq (.ops c78_s2) .ret) .skip)) (.seq (.ops c78_s3) (.seq (.seq (.ops c78_s4) (.cond (.t 18) (.seq (.ops c78_s5) .ret) .skip)) (.seq (.seq (.ops c78_s6) (.cond (.t 24) (.seq (.ops c78_s7) .ret) .skip)) (.seq (.ops c78_s8) .ret)))))), [.tmp 6, .tmp 7]⟩
/-! 32: leapfrog/leapfrogref19.New -/
@[go_sem] def c32_s0 : List SQ := [⟨some 10, none, .p (.mv (.c .nilp))⟩, ⟨some 11, none, .p (.mv (.c (.int .i64 0)))⟩]
@[go_sem] def c32_s1 : List SQ := [⟨some 16, none, .p (.mv (.t 0))⟩, ⟨some 17, none, .p (.bin .eql 97 false true (.t 16) (.c .nilp))⟩]
@[go_sem] def c32_s2 : List SQ := [⟨some 10, none, .p (.mv (.c .nilp))⟩, ⟨some 11, none, .p (.mv (.c (.int .i64 1)))⟩]
@[go_sem] def c32_s3 : List SQ := [⟨some 19, none, .p (.mv (.t 1))⟩, ⟨some 20, none, .p (.mv (.t 3))⟩, ⟨some 21, none, .p (.mv (.t 4))⟩, ⟨some 22, none, .cv (.c (.fn (.func 75) [] [])) [(.t 19), (.t 20), (.t 21)]⟩, ⟨some 18, none, .p (.mv (.t 22))⟩, ⟨some 23, none, .p (.extr (.t 18) 0)⟩, ⟨some 24, none, .p (.extr (.t 18) 1)⟩, ⟨some 12, none, .p (.mv (.t 23))⟩, ⟨some 13, none, .p (.mv (.t 24))⟩]
@[go_sem] def c32_s4 : List SQ := [⟨some 25, none, .p (.mv (.t 13))⟩, ⟨some 26, none, .p (.bin .neq 34 false true (.t 25) (.c (.int .i64 0)))⟩]
@[go_sem] def c32_s5 : List SQ := [⟨some 27, none, .p (.mv (.t 13))⟩, ⟨some 10, none, .p (.mv (.c .nilp))⟩, ⟨some 11, none, .p (.mv (.t 27))⟩]
@[go_sem] def c32_s6 : List SQ := [⟨some 28, none, .p (.mv (.t 1))⟩, ⟨some 29, none, .p (.mv (.t 3))⟩, ⟨some 30, none, .p (.build [.int .u8 0, .int .i64 0, .nilp, .nilp, .nilp] [(0, 1, (.t 28)), (1, 1, (.t 29))])⟩, ⟨some 31, none, .n (.box 232 (.t 30))⟩, ⟨some 14, none, .p (.mv (.t 31))⟩]
@[go_sem] def c32_s7 : List SQ := [⟨some 15, none, .p (.mv (.c (.int .i64 0)))⟩]
@[go_sem] def c32_s8 : List SQ := [⟨some 32, none, .p (.mv (.t 1))⟩]
@[go_sem] def c32_s9 : List SQ := [⟨some 44, none, .p (.bin .eql 5 false true (.t 32) (.c (.int .u8 1)))⟩, ⟨some 43, none, .p (.mv (.t 44))⟩]
@[go_sem] def c32_s10 : List SQ := [⟨some 46, none, .p (.mv (.t 14))⟩, ⟨some 47, none, .p (.mv (.t 0))⟩, ⟨some 48, none, .p (.mv (.t 2))⟩, ⟨some 49, none, .p (.mv (.t 3))⟩, ⟨some 50, none, .cv (.c (.fn (.func 76) [] [])) [(.t 47), (.t 48), (.t 49)]⟩, ⟨some 45, none, .p (.mv (.t 50))⟩, ⟨some 51, none, .p (.extr (.t 45) 0)⟩, ⟨some 52, none, .p (.extr (.t 45) 1)⟩, ⟨some 53, none, .p (.nilck (.t 46))⟩, ⟨some 54, none, .p (.fadr 2 (.t 53))⟩, ⟨none, none, .e (.st 1 (.t 54) (.t 51))⟩, ⟨some 15, none, .p (.mv (.t 52))⟩]
@[go_sem] def c32_s11 : List SQ := [⟨some 56, none, .p (.bin .eql 5 false true (.t 32) (.c (.int .u8 2)))⟩, ⟨some 55, none, .p (.mv (.t 56))⟩]
@[go_sem] def c32_s12 : List SQ := [⟨some 58, none, .p (.mv (.t 14))⟩, ⟨some 59, none, .p (.mv (.t 0))⟩, ⟨some 60, none, .p (.mv (.t 2))⟩, ⟨some 61, none, .p (.mv (.t 3))⟩, ⟨some 62, none, .cv (.c (.fn (.func 77) [] [])) [(.t 59), (.t 60), (.t 61)]⟩, ⟨some 57, none, .p (.mv (.t 62))⟩, ⟨some 63, none, .p (.extr (.t 57) 0)⟩, ⟨some 64, none, .p (.extr (.t 57) 1)⟩, ⟨some 65, none, .p (.nilck (.t 58))⟩, ⟨some 66, none, .p (.fadr 3 (.t 65))⟩, ⟨none, none, .e (.st 1 (.t 66) (.t 63))⟩, ⟨some 15, none, .p (.mv (.t 64))⟩]
@[go_sem] def c32_s13 : List SQ := [⟨some 34, none, .p (.mv (.t 14))⟩, ⟨some 35, none, .p (.mv (.t 0))⟩, ⟨some 36, none, .p (.mv (.t 2))⟩, ⟨some 37, none, .p (.mv (.t 4))⟩, ⟨some 38, none, .cv (.c (.fn (.func 78) [] [])) [(.t 35), (.t 36), (.t 37)]⟩, ⟨some 33, none, .p (.mv (.t 38))⟩, ⟨some 39, none, .p (.extr (.t 33) 0)⟩, ⟨some 40, none, .p (.extr (.t 33) 1)⟩, ⟨some 41, none, .p (.nilck (.t 34))⟩, ⟨some 42, none, .p (.fadr 4 (.t 41))⟩, ⟨none, none, .e (.st 1 (.t 42) (.t 39))⟩, ⟨some 15, none, .p (.mv (.t 40))⟩]
@[go_sem] def c32_s14 : List SQ := [⟨some 67, none, .p (.mv (.t 15))⟩, ⟨some 68, none, .p (.bin .neq 34 false true (.t 67) (.c (.int .i64 0)))⟩]
@[go_sem] def c32_s15 : List SQ := [⟨some 69, none, .p (.mv (.t 15))⟩, ⟨some 10, none, .p (.mv (.c .nilp))⟩, ⟨some 11, none, .p (.mv (.t 69))⟩]
@[go_sem] def c32_s16 : List SQ := [⟨some 70, none, .p (.mv (.t 14))⟩, ⟨some 10, none, .p (.mv (.t 70))⟩, ⟨some 11, none, .p (.mv (.c (.int .i64 0)))⟩]
@[go_sem] def c32 : CF := ⟨5, (.seq (.ops c32_s0) (.seq (.seq (.ops c32_s1) (.cond (.t 17) (.seq (.ops c32_s2) .ret) .skip)) (.seq (.seq (.ops c32_s3) (.seq (.ops c32_s4) (.cond (.t 26) (.seq (.ops c32_s5) .ret) .skip))) (.seq (.ops c32_s6) (.seq (.ops c32_s7) (.seq (.seq (.ops c32_s8) (.block 0 (.seq (.ops c32_s9) (.cond (.t 43) (.ops c32_s10) (.seq (.ops c32_s11) (.cond (.t 55) (.ops c32_s12) (.ops c32_s13))))))) (.seq (.seq (.ops c32_s14) (.cond (.t 68) (.seq (.ops c32_s15) .ret) .skip)) (.seq (.ops c32_s16) .ret)))))))), [.tmp 10, .tmp 11]⟩
/-! 109: leapfrog/leapfrogref16.Words -/
@[go_sem] def c109_s0 : List SQ := [⟨some 2, none, .p (.mv (.c (.int .i64 0)))⟩, ⟨some 3, none, .p (.mv (.c (.int .i64 0)))⟩]
@[go_sem] def c109_s1 : List SQ := [⟨some 4, none, .p (.mv (.t 0))⟩, ⟨some 5, none, .p (.bin .lss 3 false true (.t 4) (.c (.int .i64 1)))⟩, ⟨some 6, none, .p (.mv (.t 5))⟩, ⟨some 7, some (6, false), .p (.mv (.t 0))⟩, ⟨some 8, some (6, false), .p (.bin .gtr 3 false true (.t 7) (.c (.int .i64 64)))⟩, ⟨some 9, none, .p (.pick (.t 6) (.c (.bool true)) (.t 8))⟩]
@[go_sem] def c109_s2 : List SQ := [⟨some 2, none, .p (.mv (.c (.int .i64 0)))⟩, ⟨some 3, none, .p (.mv (.c (.int .i64 2)))⟩]
@[go_sem] def c109_s3 : List SQ := [⟨some 10, none, .p (.mv (.t 0))⟩, ⟨some 2, none, .p (.mv (.t 10))⟩, ⟨some 3, none, .p (.mv (.c (.int .i64 0)))⟩]
@[go_sem] def c109 : CF := ⟨1, (.seq (.ops c109_s0) (.seq (.seq (.ops c109_s1) (.cond (.t 9) (.seq (.ops c109_s2) .ret) .skip)) (.seq (.ops c109_s3) .ret))), [.tmp 2, .tmp 3]⟩
/-! 110: leapfrog/leapfrogref17.Words -/
@[go_sem] def c110_s0 : List SQ := [⟨some 2, none, .p (.mv (.c (.int .i64 0)))⟩, ⟨some 3, none, .p (.mv (.c (.int .i64 0)))⟩]
@[go_sem] def c110_s1 : List SQ := [⟨some 4, none, .p (.mv (.t 0))⟩, ⟨some 5, none, .p (.bin .lss 3 false true (.t 4) (.c (.int .i64 1)))⟩, ⟨some 6, none, .p (.mv (.t 5))⟩, ⟨some 7, some (6, false), .p (.mv (.t 0))⟩, ⟨some 8, some (6, false), .p (.bin .gtr 3 false true (.t 7) (.c (.int .i64 64)))⟩, ⟨some 9, none, .p (.pick (.t 6) (.c (.bool true)) (.t 8))⟩]
@[go_sem] def c110_s2 : List SQ := [⟨some 2, none, .p (.mv (.c (.int .i64 0)))⟩, ⟨some 3, none, .p (.mv (.c (.int .i64 2)))⟩]
@[go_sem] def c110_s3 : List SQ := [⟨some 10, none, .p (.mv (.t 0))⟩, ⟨some 11, none, .p (.bin .mul 3 true false (.c (.int .i64 2)) (.t 10))⟩, ⟨some 2, none, .p (.mv (.t 11))⟩, ⟨some 3, none, .p (.mv (.c (.int .i64 0)))⟩]
@[go_sem] def c110 : CF := ⟨1, (.seq (.ops c110_s0) (.seq (.seq (.ops c110_s1) (.cond (.t 9) (.seq (.ops c110_s2) .ret) .skip)) (.seq (.ops c110_s3) .ret))), [.tmp 2, .tmp 3]⟩
/-! 108: leapfrog/leapfrogref18.Words -/
@[go_sem] def c108_s0 : List SQ := [⟨some 2, none, .p (.mv (.c (.int .i64 0)))⟩, ⟨some 3, none, .p (.mv (.c (.int .i64 0)))⟩]
@[go_sem] def c108_s1 : List SQ := [⟨some 4, none, .p (.mv (.t 0))⟩, ⟨some 5, none, .p (.bin .lss 3 false true (.t 4) (.c (.int .i64 1)))⟩, ⟨some 6, none, .p (.mv (.t 5))⟩, ⟨some 7, some (6, false), .p (.mv (.t 0))⟩, ⟨some 8, some (6, false), .p (.bin .gtr 3 false true (.t 7) (.c (.int .i64 16)))⟩, ⟨some 9, none, .p (.pick (.t 6) (.c (.bool true)) (.t 8))⟩]
@[go_sem] def c108_s2 : List SQ := [⟨some 2, none, .p (.mv (.c (.int .i64 0)))⟩, ⟨some 3, none, .p (.mv (.c (.int .i64 2)))⟩]
@[go_sem] def c108_s3 : List SQ := [⟨some 10, none, .p (.mv (.t 0))⟩, ⟨some 11, none, .p (.bin .mul 3 true false (.c (.int .i64 4)) (.t 10))⟩, ⟨some 2, none, .p (.mv (.t 11))⟩, ⟨some 3, none, .p (.mv (.c (.int .i64 0)))⟩]
@[go_sem] def c108 : CF := ⟨1, (.seq (.ops c108_s0) (.seq (.seq (.ops c108_s1) (.cond (.t 9) (.seq (.ops c108_s2) .ret) .skip)) (.seq (.ops c108_s3) .ret))), [.tmp 2, .tmp 3]⟩
/-! 111: leapfrog/leapfrogref16.Fits -/
@[go_sem] def c111_s0 : List SQ := [⟨some 6, none, .p (.mv (.c (.bool false)))⟩]
@[go_sem] def c111_s1 : List SQ := [⟨some 7, none, .p (.mv (.t 1))⟩, ⟨some 8, none, .p (.bin .geq 3 false true (.t 7) (.c (.int .i64 0)))⟩, ⟨some 9, none, .p (.mv (.t 8))⟩, ⟨some 10, some (9, true), .p (.mv (.t 2))⟩, ⟨some 11, some (9, true), .p (.mv (.t 0))⟩, ⟨some 12, some (9, true), .p (.nilck (.t 11))⟩, ⟨some 13, some (9, true), .p (.fadr 0 (.t 12))⟩, ⟨some 14, some (9, true), .r (.ld none (.t 13))⟩, ⟨some 15, some (9, true), .p (.lenv (.t 14))⟩, ⟨some 16, some (9, true), .p (.bin .leq 3 false false (.t 10) (.t 15))⟩, ⟨some 17, none, .p (.pick (.t 9) (.t 16) (.c (.bool false)))⟩, ⟨some 18, none, .p (.mv (.t 17))⟩, ⟨some 19, some (18, true), .p (.mv (.t 1))⟩, ⟨some 20, some (18, true), .p (.mv (.t 0))⟩, ⟨some 21, some (18, true), .p (.nilck (.t 20))⟩, ⟨some 22, some (18, true), .p (.fadr 0 (.t 21))⟩, ⟨some 23, some (18, true), .r (.ld none (.t 22))⟩, ⟨some 24, some (18, true), .p (.lenv (.t 23))⟩, ⟨some 25, some (18, true), .p (.mv (.t 2))⟩, ⟨some 26, some (18, true), .p (.bin .sub 3 false false (.t 24) (.t 25))⟩, ⟨some 27, some (18, true), .p (.bin .leq 3 false false (.t 19) (.t 26))⟩, ⟨some 28, none, .p (.pick (.t 18) (.t 27) (.c (.bool false)))⟩, ⟨some 6, none, .p (.mv (.t 28))⟩]
@[go_sem] def c111 : CF := ⟨3, (.seq (.ops c111_s0) (.seq (.ops c111_s1) .ret)), [.tmp 6]⟩

def I29 (h0 : H) (L W : Nat) (s : Int) (k : Nat) (tm : T AV) (h : H) : Prop :=
  tm.get 0 = some (.ptr L 0) ∧ tm.get 3 = some (.sl h0.next 0 W 1 (some W)) ∧ tm.get 4 = some (.int .i64 (k : Int)) ∧ h.next = h0.next + 1 ∧ (∀ b, b < h0.next → h.t.get b = h0.t.get b) ∧ ∃ ws, h.t.get h0.next = some (.row (putList 0 (uL ws) T.e) W 28) ∧ Zero W s ws
theorem step29 (P : Program) {call : CallE} {h0 : H} {L : Nat} {c : CfgT} {p : PlT} {cv hv wv : AV} {hs : List Int} {W : Nat} (hp : PlOK c p) (hlen : (hs.length : Int) = (hsL c).length) (hs0 : 0 ≤ c.slots) (hm : ∀ x ∈ hs, 1 ≤ x ∧ x ≤ 6) (hn : hs.length ≤ 60) (hW : p.wo = (W : Int)) (hL : L < h0.next)
    (gL : h0.t.get L = some (rowL (cfgC c cv ++ (plC p ++ [hv, wv])) 96)) (oh : Own 1 3 h0 hv hs.length (iL hs)) (k : Nat) (hk : k ≤ hs.length) (tm : T AV) (h : H) (hI : I29 h0 L W c.slots k tm h) :
    WC P call c29_l10 (loopQ 0 (fun tm h => ∃ j, j < k ∧ j ≤ hs.length ∧ I29 h0 L W c.slots j tm h) (fun tm h => tm.get 3 = some (.sl h0.next 0 W 1 (some W)) ∧ StepN h0 h ∧ h0.next < h.next ∧ ∃ ws, h.t.get h0.next = some (.row (putList 0 (uL ws) T.e) W 28) ∧ Zero W c.slots ws) (fun _ _ => False)) tm h := by
  obtain ⟨t0, t3, t4, nx, old, ws, gO, z⟩ := hI
  have gL1 := (old L hL).trans gL
  cases k with
  | zero =>
    have e1 : (((0 : Nat) : Int) < 1) = True := by simp
    simp only [go_sem, ↓reduceIte, ↓reduceDIte, zA, zM, zL, zE, zD, yA, yE, yL, yQ, yT, reduceCtorEq, c29_l10, t3, t4]
    exact ⟨⟨by omega, old⟩, by omega, ws, gO, z⟩
  | succ i =>
    have hi : i < hs.length := by omega
    have p1 := hp.po
    have p2 := hp.li
    have p3 := hp.wo
    obtain ⟨x, hx, hx1, hx6⟩ : ∃ x, (iL hs)[i]? = some (.int .i64 x) ∧ 1 ≤ x ∧ x ≤ 6 := ⟨hs[i], by unfold iL; rw [List.getElem?_map, List.getElem?_eq_getElem hi]; rfl, hm _ (List.getElem_mem hi)⟩
    have c1 : ((i + 1 : Nat) : Int) = (i : Int) + 1 := rfl
    rw [c1] at t4
    have e1 : ¬ (i : Int) + 1 < 1 := by omega
    have f2 : fw .i64 ((i : Int) + 1 - 1) = (i : Int) := by rw [show (i : Int) + 1 - 1 = (i : Int) by omega]; exact fwI (by omega) (by omega)
    have f2' : fw .u64 ((i : Int) + 1) = (i : Int) + 1 := fwU (by omega) (by omega)
    have f3 : fw .i64 (p.po + x) = p.po + x := fwI (by omega) (by omega)
    have f5 : fw .i64 (p.li + ((i : Int) + 1)) = p.li + ((i : Int) + 1) := fwI (by omega) (by omega)
    obtain ⟨q, hq⟩ : ∃ q : Nat, p.po + x - 1 = (q : Int) := ⟨(p.po + x - 1).toNat, by omega⟩
    obtain ⟨q2, hq2⟩ : ∃ q : Nat, p.li + ((i : Int) + 1) - 1 = (q : Int) := ⟨(p.li + ((i : Int) + 1) - 1).toNat, by omega⟩
    have fq : fw .i64 (q : Int) = (q : Int) := fwI (by omega) (by omega)
    have fq2 : fw .i64 (q2 : Int) = (q2 : Int) := fwI (by omega) (by omega)
    have hqW : q < W := by omega
    have hqW' : (q : Int) < (W : Int) := by omega
    have hqW2 : q2 < W := by omega
    have hqW2' : (q2 : Int) < (W : Int) := by omega
    have hul := uL_len ws
    rw [z.len] at hul
    obtain ⟨y, hy⟩ : ∃ y, ws[q]? = some y := ⟨_, List.getElem?_eq_getElem (by rw [z.len]; exact hqW)⟩
    have hy1 : (uL ws)[q]? = some (.int .u64 y) := by unfold uL; rw [List.getElem?_map, hy]; rfl
    have e2 : (i : Int) < (hs.length : Int) := by omega
    have lW : ¬ L = h0.next := by omega
    have ohl : ∀ b, own hv = some b → h.t.get b = h0.t.get b := fun b hb => old b (oh.lt hb)
    generalize hnn : hs.length = n at *
    generalize hcs : iL hs = cs at *
    cases oh with
    | nil => omega
    | sl a len cs cap hcp hpo hcl hlt hg =>
      have hg1 := (ohl a rfl).trans hg
      simp only [go_sem, ↓reduceIte, ↓reduceDIte, zA, zM, zL, zE, zD, yA, yE, yL, yQ, yT, reduceCtorEq, c29_l10, t0, t3, t4, e1, f2, gL1, cfgC, plC, hg1, e2, Nat.mul_one, hx, f3, f5, hq, hq2, fq, fq2, hqW', hqW2', gO, hul, hqW, hqW2, hy1, Nat.succ_le_of_lt, f2', lW]
      refine ⟨i, Nat.lt_succ_self i, by omega, by simp [go_sem, t0], by simp [go_sem, t3], by simp [go_sem], nx, fun b hb => ?_, (ws.set q2 y).set q ((i : Int) + 1), by simp [go_sem, uL_set], (z.set (by omega) y).set (by omega) _⟩
      have e0 : ¬ b = h0.next := by omega
      simp only [go_sem, ↓reduceIte, ↓reduceDIte, zA, zM, zL, zE, zD, yA, yE, yL, yQ, yT, reduceCtorEq, e0]
      exact old b hb
theorem w29 (P : Program) [PT P] {call : CallE} {h : H} {L : Nat} {c : CfgT} {p : PlT} (hL : RLay h L c p (hsL c)) (hp : PlOK c p) (hs0 : 0 ≤ c.slots) (hn : (hsL c).length ≤ 60) (W : Nat) (hW : p.wo = (W : Int)) (hW0 : 0 < W) :
    WF P call c29 [.ptr L 0] h (PostI W c.slots h) := by
  obtain ⟨cv, hv, wv, wl, wcs, gL, o1, oh, ow, ew⟩ := hL.ex
  have hlt := hL.lt
  have p3 := hp.wo
  have hwl : wl = W := by omega
  subst hwl
  have e1 : 8 * wl ≤ 281474976710656 := by omega
  have e2 : wl ≤ 281474976710656 := by omega
  have x1 : ¬ L = h.next := by omega
  have hll := oh.lenA
  have hwA := ow.lenA
  have z0 : Zero wl c.slots (List.replicate wl 0) := ⟨List.length_replicate, fun i hi => by
    have := hp.po
    rw [List.getElem?_replicate, if_pos (by omega)]⟩
  have hz : uL (List.replicate wl 0) = List.replicate wl (.int .u64 0) := by unfold uL; rw [List.map_replicate]
  simp only [go_sem, ↓reduceIte, ↓reduceDIte, zA, zM, zL, zE, zD, yA, yE, yL, yQ, yT, reduceCtorEq, c29, gL, cfgC, plC, x1, hwA, evLenN, rep_one, Nat.mul_one, Nat.le_refl, e1, e2, decide_true, Bool.and_self, cond_true, hll]
  refine loop_in (fun k tm h' => k ≤ (hsL c).length ∧ I29 h L wl c.slots k tm h') _ (fun _ _ => False) (fun k tm h' hI => step29 P hp rfl hs0 hsL_mem hn hW hlt gL oh k hI.1 tm h' hI.2) (fun tm2 h2 hR => ?_) (fun _ _ hh => hh.elim) (hsL c).length _ _
    ⟨Nat.le_refl _, by simp [go_sem], by simp [go_sem], by simp [go_sem], rfl, fun b hb => ?_, List.replicate wl 0, by simp [go_sem, hz], z0⟩
  · obtain ⟨t3, st, hlt2, ws, gO, z⟩ := hR
    simp only [go_sem, ↓reduceIte, ↓reduceDIte, zA, zM, zL, zE, zD, yA, yE, yL, yQ, yT, reduceCtorEq, t3]
    refine ⟨⟨ws, ?_, z⟩, fun a ha => by cases ha; exact Nat.le_refl _, st⟩
    rw [z.len]
    refine .sl _ _ _ _ (.inr rfl) hW0 (by rw [uL_len, z.len, Nat.mul_one]) hlt2 ?_
    rw [gO, rowL, uL_len, z.len]
  · have n1 : ¬ b = h.next := by omega
    simp only [go_sem, ↓reduceIte, ↓reduceDIte, zA, zM, zL, zE, zD, yA, yE, yL, yQ, yT, reduceCtorEq, n1]
/-- the reference's memory -/
structure RMem (h : H) (M W : Nat) (ws : List Int) (lg : AV) : Prop where
  g : h.t.get M = some (rowL [.sl W 0 ws.length 1 none, lg] 222)
  o : oneA lg = true
  w : h.t.get W = some (rowL (uL ws) 28)
  ne : M ≠ W
theorem RMem.step {h h' : H} {M W : Nat} {ws : List Int} {lg : AV} (m : RMem h M W ws lg) (hM : M < h.next) (hW : W < h.next) (s : StepN h h') : RMem h' M W ws lg := ⟨(s.old M hM).trans m.g, m.o, (s.old W hW).trans m.w, m.ne⟩
def Post28 (ws : List Int) (h : H) (v : AV) (h' : H) : Prop := StepN h h' ∧ ∃ M W, v = .tup [.ptr M 0, .int .i64 0] ∧ RMem h' M W ws .nils ∧ h.next ≤ M ∧ h.next ≤ W ∧ M < h'.next ∧ W < h'.next
theorem w28 (P : Program) {call : CallE} {h : H} {v : AV} {ws : List Int} (hv : Own 1 28 h v ws.length (uL ws)) (h0 : 0 < ws.length) (h1 : ws.length ≤ 60000) : WF P call c28 [v] h (Post28 ws h) := by
  have hla := hv.lenA
  have e1 : ¬ (ws.length : Int) = 0 := by omega
  have e2 : ¬ (65536 : Int) < (ws.length : Int) := by omega
  have st0 := StepN.new h (.row (putList 0 [] T.e) 0 28)
  have hv1 := hv.keep st0.next fun b hb => st0.old b (hv.lt hb)
  have hul := uL_len ws
  have hs : srcA (h.t.set h.next (.row (putList 0 [] T.e) 0 28)).get 1 v = some (ws.length, uL ws) := by
    have := (Own.rdl1 hv1 (by omega)).src1
    rw [hul] at this
    exact this
  simp only [go_sem, ↓reduceIte, ↓reduceDIte, zA, zM, zL, zE, zD, yA, yE, yL, yQ, yT, reduceCtorEq] at hs
  simp only [go_sem, ↓reduceIte, ↓reduceDIte, zA, zM, zL, zE, zD, yA, yE, yL, yQ, yT, reduceCtorEq, c28, hla, e1, e2, hs]
  have hap := appA_emp (e := 28) (es := 1) (bytes := 8) (n := ws.length) (a := h.next) (bl := 0) (cells := putList 0 [] T.e) (h := ⟨h.next + 1, h.t.set h.next (.row (putList 0 [] T.e) 0 28)⟩) (src := uL ws) (by simp [go_sem]) h0 (by omega) (by omega)
  refine opt_some hap ?_
  unfold appT appV
  simp only [go_sem, ↓reduceIte, ↓reduceDIte, zA, zM, zL, zE, zD, yA, yE, yL, yQ, yT, reduceCtorEq]
  refine ⟨⟨by show h.next ≤ h.next + 3; omega, fun b hb => ?_⟩, h.next + 2, h.next + 1, rfl, ⟨by simp only [go_sem, ↓reduceIte, ↓reduceDIte, zA, zM, zL, zE, zD, yA, yE, yL, yQ, yT, reduceCtorEq]; rfl, rfl, ?_, by omega⟩, by omega, by omega, by show h.next + 2 < h.next + 3; omega, by show h.next + 1 < h.next + 3; omega⟩
  · have n1 : ¬ b = h.next := by omega
    have n2 : ¬ b = h.next + 1 := by omega
    have n3 : ¬ b = h.next + 2 := by omega
    simp only [go_sem, ↓reduceIte, ↓reduceDIte, zA, zM, zL, zE, zD, yA, yE, yL, yQ, yT, reduceCtorEq, n1, n2, n3]
  · have n1 : ¬ h.next + 1 = h.next + 2 := by omega
    simp only [go_sem, ↓reduceIte, ↓reduceDIte, zA, zM, zL, zE, zD, yA, yE, yL, yQ, yT, reduceCtorEq, n1]
theorem w30 (P : Program) [PT P] {call : CallE} {h : H} {M W L : Nat} {ws : List Int} {lg : AV} {c : CfgT} {p : PlT} (hM : M < h.next) (hW : W < h.next) (m : RMem h M W ws lg) (hL : RLay h L c p (hsL c)) (hw : p.wo = (ws.length : Int)) (hn : (hsL c).length ≤ 60) :
    WF P call c30 [.ptr M 0, .ptr L 0] h fun v h' => (∃ R, v = .tup [.ptr R 0, .int .i64 0]) ∧ StepN h h' := by
  obtain ⟨cv, hv, wv, wl, wcs, gL, o1, oh, ow, ew⟩ := hL.ex
  have hll := oh.lenA
  have gM := m.g
  have f1 : fw .i64 (((hsL c).length : Int) + 1) = (((hsL c).length + 1 : Nat) : Int) := fwI (by omega) (by omega)
  have m1 : 1 * ((hsL c).length + 1) ≤ 281474976710656 := by omega
  have m2 : (hsL c).length + 1 ≤ 281474976710656 := by omega
  have m3 : 8 * ((hsL c).length + 1) ≤ 281474976710656 := by omega
  simp only [go_sem, ↓reduceIte, ↓reduceDIte, zA, zM, zL, zE, zD, yA, yE, yL, yQ, yT, reduceCtorEq, c30, gM, gL, cfgC, plC, hw, hll, f1, evLenN, rep_one, Nat.mul_one, Nat.le_refl, m1, m2, m3, decide_true, Bool.and_self, cond_true]
  refine ⟨⟨_, rfl⟩, by show h.next ≤ h.next + 4; omega, fun b hb => ?_⟩
  have e1 : ¬ b = h.next := by omega
  have e2 : ¬ b = h.next + 1 := by omega
  have e3 : ¬ b = h.next + 2 := by omega
  have e4 : ¬ b = h.next + 3 := by omega
  simp only [go_sem, ↓reduceIte, ↓reduceDIte, zA, zM, zL, zE, zD, yA, yE, yL, yQ, yT, reduceCtorEq, e1, e2, e3, e4]
theorem w31 (P : Program) [PT P] {call : CallE} {h : H} {M W L : Nat} {ws : List Int} {lg : AV} {c : CfgT} {p : PlT} (m : RMem h M W ws lg) (hL : RLay h L c p (hsL c)) (hw : p.wo = (ws.length : Int)) :
    WF P call c31 [.ptr M 0, .ptr L 0] h fun v h' => (∃ R, v = .tup [.ptr R 0, .int .i64 0]) ∧ StepN h h' := by
  obtain ⟨cv, hv, wv, wl, wcs, gL, o1, oh, ow, ew⟩ := hL.ex
  have gM := m.g
  simp only [go_sem, ↓reduceIte, ↓reduceDIte, zA, zM, zL, zE, zD, yA, yE, yL, yQ, yT, reduceCtorEq, c31, gM, gL, cfgC, plC, hw]
  exact ⟨⟨_, rfl⟩, StepN.new h _⟩
theorem w109 (P : Program) {call : CallE} {h : H} {n : Int} (h1 : 1 ≤ n) (h2 : n ≤ 64) : WF P call c109 [.int .i64 n] h fun v h' => v = .tup [.int .i64 (1 * n), .int .i64 0] ∧ h' = h := by
  have e1 : ¬ n < 1 := by omega
  have e2 : ¬ 64 < n := by omega
  simp only [go_sem, ↓reduceIte, ↓reduceDIte, zA, zM, zL, zE, zD, yA, yE, yL, yQ, yT, reduceCtorEq, c109, e1, e2, Int.one_mul]
theorem w110 (P : Program) {call : CallE} {h : H} {n : Int} (h1 : 1 ≤ n) (h2 : n ≤ 64) : WF P call c110 [.int .i64 n] h fun v h' => v = .tup [.int .i64 (2 * n), .int .i64 0] ∧ h' = h := by
  have e1 : ¬ n < 1 := by omega
  have e2 : ¬ 64 < n := by omega
  have f1 : fw .i64 (2 * n) = 2 * n := fwI (by omega) (by omega)
  simp only [go_sem, ↓reduceIte, ↓reduceDIte, zA, zM, zL, zE, zD, yA, yE, yL, yQ, yT, reduceCtorEq, c110, e1, e2, f1]
theorem w108 (P : Program) {call : CallE} {h : H} {n : Int} (h1 : 1 ≤ n) (h2 : n ≤ 16) : WF P call c108 [.int .i64 n] h fun v h' => v = .tup [.int .i64 (4 * n), .int .i64 0] ∧ h' = h := by
  have e1 : ¬ n < 1 := by omega
  have e2 : ¬ 16 < n := by omega
  have f1 : fw .i64 (4 * n) = 4 * n := fwI (by omega) (by omega)
  simp only [go_sem, ↓reduceIte, ↓reduceDIte, zA, zM, zL, zE, zD, yA, yE, yL, yQ, yT, reduceCtorEq, c108, e1, e2, f1]
theorem w75 (P : Program) {call : CallE} (h109 : FW call 109 64 1) (h110 : FW call 110 64 2) (h108 : FW call 108 16 4) {h : H} {c : CfgT} (hc : EngOK c) :
    WF P call c75 [.int .u8 c.engine, .int .i64 c.slots, .int .i64 c.buckets] h fun v h' => v = .tup [.int .i64 (engN c), .int .i64 0] ∧ h' = h := by
  obtain ⟨hs, hc⟩ := hc
  have e1 : ¬ c.slots < 1 := by omega
  have e2 : ¬ 64 < c.slots := by omega
  have k1 := h109 h c.slots hs.1 hs.2
  have k2 := h110 h c.slots hs.1 hs.2
  rw [Int.one_mul] at k1
  rcases hc with ⟨he, hb⟩ | ⟨he, hb⟩ | ⟨he, hb1, hb2⟩
  · simp only [go_sem, ↓reduceIte, ↓reduceDIte, zA, zM, zL, zE, zD, yA, yE, yL, yQ, yT, reduceCtorEq, c75, e1, e2, he, hb, k1, engN]
  · simp only [go_sem, ↓reduceIte, ↓reduceDIte, zA, zM, zL, zE, zD, yA, yE, yL, yQ, yT, reduceCtorEq, c75, e1, e2, he, hb, k2, engN]
  · have k3 := h108 h c.buckets hb1 hb2
    simp only [go_sem, ↓reduceIte, ↓reduceDIte, zA, zM, zL, zE, zD, yA, yE, yL, yQ, yT, reduceCtorEq, c75, e1, e2, he, k3, engN]
theorem w111 (P : Program) [PT P] {call : CallE} {h : H} {M W : Nat} {ws : List Int} {lg : AV} (m : RMem h M W ws lg) {base n : Int} (b0 : 0 ≤ base) (n0 : 0 ≤ n) (hb : base + n ≤ (ws.length : Int)) (hl : ws.length ≤ 60000) : WF P call c111 [.ptr M 0, .int .i64 base, .int .i64 n] h fun v h' => v = .bool true ∧ h' = h := by
  have gM := m.g
  have e1 : ¬ base < 0 := by omega
  have e2 : ¬ (ws.length : Int) < n := by omega
  have f1 : fw .i64 ((ws.length : Int) - n) = (ws.length : Int) - n := fwI (by omega) (by omega)
  have e3 : ¬ (ws.length : Int) - n < base := by omega
  simp only [go_sem, ↓reduceIte, ↓reduceDIte, zA, zM, zL, zE, zD, yA, yE, yL, yQ, yT, reduceCtorEq, c111, gM, e1, e2, f1, e3]
end
end Go.Proofs.YtldmhpdjlgoenaaGreatDoor.BN

namespace Go.Proofs.YtldmhpdjlgoenaaGreatDoor.BN
open Go.Proofs.YtldmhpdjlgoenaaGreatDoor.Eo
open Nat renaming reduceAdd → zA, reduceMul → zM, reduceLT → zL, reduceEqDiff → zE, reduceLeDiff → zD
open Int renaming reduceAdd → yA, reduceLE → yE, reduceLT → yL, reduceEq → yQ, reduceToNat → yT
noncomputable section
/-- the cells of slots, none of them there -/
def quads (n : Nat) (q : List AV) : List AV := (List.replicate n q).flatten
theorem quads_get (q : List AV) (w : Nat) (hq : q.length = w) (j : Nat) (hj : j < w) : ∀ (n i : Nat), i < n → (quads n q)[i * w + j]? = q[j]?
  | 0, i, h => by omega
  | n + 1, 0, h => by
    unfold quads
    rw [List.replicate_succ, List.flatten_cons, Nat.zero_mul, Nat.zero_add, List.getElem?_append_left (by omega)]
  | n + 1, i + 1, h => by
    have ih := quads_get q w hq j hj n i (by omega)
    unfold quads at ih ⊢
    rw [List.replicate_succ, List.flatten_cons, List.getElem?_append_right (by rw [Nat.succ_mul]; omega)]
    rw [← ih]
    congr 1
    rw [Nat.succ_mul]
    omega
theorem rep_get (q : List AV) (w : Nat) (hq : q.length = w) (n i j : Nat) (hi : i < n) (hj : j < w) : (rep q (n * w))[i * w + j]? = q[j]? := by
  have h1 : i * w + j < n * w := by
    have : (i + 1) * w ≤ n * w := Nat.mul_le_mul_right _ hi
    rw [Nat.succ_mul] at this
    omega
  unfold rep
  rw [List.getElem?_map, List.getElem?_range h1]
  have h2 : (i * w + j) % q.length = j := by rw [hq, Nat.add_comm, Nat.add_mul_mod_self_right, Nat.mod_eq_of_lt hj]
  simp only [Option.map_some, h2]
  rw [List.getElem?_eq_getElem (by omega)]
  simp [List.getD_eq_getElem?_getD, hq, hj]
/-- the reference's engine, no section begun -/
inductive RPrcu (h : H) (R n : Nat) : Prop where
  | a (G N M : Nat) (base : Int) (gR : h.t.get R = some (rowL [.int .u8 1, .int .i64 (n : Int), .ptr G 0, .nilp, .nilp] 232)) (gG : h.t.get G = some (rowL [.ptr M 0, .int .i64 base, .sl N 0 n 3 (some n)] 302)) (gN : h.t.get N = some (.row (putList 0 (rep [.int .u64 0, .bool false, .bool false] (n * 3)) T.e) (n * 3) 396)) (lR : R < h.next) (lG : G < h.next) (lN : N < h.next)
  | b (G N M : Nat) (base : Int) (gR : h.t.get R = some (rowL [.int .u8 2, .int .i64 (n : Int), .nilp, .ptr G 0, .nilp] 232)) (gG : h.t.get G = some (rowL [.ptr M 0, .int .i64 base, .sl N 0 n 3 (some n)] 303)) (gN : h.t.get N = some (.row (putList 0 (rep [.int .u64 0, .bool false, .bool false] (n * 3)) T.e) (n * 3) 396)) (lR : R < h.next) (lG : G < h.next) (lN : N < h.next)
  | c (G M : Nat) (base nb : Int) (ty : TypeId) (gR : h.t.get R = some (rowL [.int .u8 3, .int .i64 (n : Int), .nilp, .nilp, .ptr G 0] 232)) (gG : h.t.get G = some (.row (putList 0 ([.ptr M 0, .int .i64 base, .int .i64 nb] ++ quads 64 [.bool false, .bool false, .int .i64 0, .int .u64 0]) T.e) 259 ty)) (hty : ty = 308) (lR : R < h.next) (lG : G < h.next)
def REng (M n ty : Nat) (h : H) (v : AV) (h' : H) : Prop := StepN h h' ∧ ∃ G N base, v = .tup [.ptr G 0, .int .i64 0] ∧ h'.t.get G = some (rowL [.ptr M 0, .int .i64 base, .sl N 0 n 3 (some n)] ty) ∧ h'.t.get N = some (.row (putList 0 (rep [.int .u64 0, .bool false, .bool false] (n * 3)) T.e) (n * 3) 396) ∧ G < h'.next ∧ N < h'.next
def F111 (call : CallE) : Prop := ∀ h M W (ws : List Int) lg (base n : Int), RMem h M W ws lg → 0 ≤ base → 0 ≤ n → base + n ≤ (ws.length : Int) → ws.length ≤ 60000 → call 111 [.ptr M 0, .int .i64 base, .int .i64 n] h = some (.bool true, h)
theorem w76 (P : Program) [PT P] {call : CallE} (h109 : FW call 109 64 1) (h111 : F111 call) {h : H} {M W : Nat} {ws : List Int} {lg : AV} (m : RMem h M W ws lg) {n : Nat} (h1 : 1 ≤ n) (h2 : n ≤ 64) {base : Int} (b0 : 0 ≤ base) (b1 : base + (n : Int) ≤ (ws.length : Int)) (b2 : ws.length ≤ 60000) :
    WF P call c76 [.ptr M 0, .int .i64 base, .int .i64 (n : Int)] h (REng M n 302 h) := by
  have k1 := h109 h (n : Int) (by omega) (by omega)
  rw [Int.one_mul] at k1
  have k2 := h111 h M W ws lg base (n : Int) m b0 (by omega) b1 b2
  have m1 : 16 * n ≤ 281474976710656 := by omega
  have m2 : n ≤ 281474976710656 := by omega
  simp only [go_sem, ↓reduceIte, ↓reduceDIte, zA, zM, zL, zE, zD, yA, yE, yL, yQ, yT, reduceCtorEq, c76, k1, k2, evLenN, Nat.le_refl, m1, m2, decide_true, Bool.and_self, cond_true]
  refine ⟨⟨by show h.next ≤ h.next + 2; omega, fun b hb => ?_⟩, _, _, _, rfl, by simp only [go_sem, ↓reduceIte, ↓reduceDIte, zA, zM, zL, zE, zD, yA, yE, yL, yQ, yT, reduceCtorEq]; rfl, ?_, by show h.next + 1 < h.next + 2; omega, by show h.next < h.next + 2; omega⟩
  · have n1 : ¬ b = h.next := by omega
    have n2 : ¬ b = h.next + 1 := by omega
    simp only [go_sem, ↓reduceIte, ↓reduceDIte, zA, zM, zL, zE, zD, yA, yE, yL, yQ, yT, reduceCtorEq, n1, n2]
  · have n1 : ¬ h.next = h.next + 1 := by omega
    simp only [go_sem, ↓reduceIte, ↓reduceDIte, zA, zM, zL, zE, zD, yA, yE, yL, yQ, yT, reduceCtorEq, n1]
theorem w77 (P : Program) [PT P] {call : CallE} (h110 : FW call 110 64 2) (h111 : F111 call) {h : H} {M W : Nat} {ws : List Int} {lg : AV} (m : RMem h M W ws lg) {n : Nat} (h1 : 1 ≤ n) (h2 : n ≤ 64) {base : Int} (b0 : 0 ≤ base) (b1 : base + 2 * (n : Int) ≤ (ws.length : Int)) (b2 : ws.length ≤ 60000) :
    WF P call c77 [.ptr M 0, .int .i64 base, .int .i64 (n : Int)] h (REng M n 303 h) := by
  have k1 := h110 h (n : Int) (by omega) (by omega)
  have k2 := h111 h M W ws lg base (2 * (n : Int)) m b0 (by omega) b1 b2
  have m1 : 16 * n ≤ 281474976710656 := by omega
  have m2 : n ≤ 281474976710656 := by omega
  simp only [go_sem, ↓reduceIte, ↓reduceDIte, zA, zM, zL, zE, zD, yA, yE, yL, yQ, yT, reduceCtorEq, c77, k1, k2, evLenN, Nat.le_refl, m1, m2, decide_true, Bool.and_self, cond_true]
  refine ⟨⟨by show h.next ≤ h.next + 2; omega, fun b hb => ?_⟩, _, _, _, rfl, by simp only [go_sem, ↓reduceIte, ↓reduceDIte, zA, zM, zL, zE, zD, yA, yE, yL, yQ, yT, reduceCtorEq]; rfl, ?_, by show h.next + 1 < h.next + 2; omega, by show h.next < h.next + 2; omega⟩
  · have n1 : ¬ b = h.next := by omega
    have n2 : ¬ b = h.next + 1 := by omega
    simp only [go_sem, ↓reduceIte, ↓reduceDIte, zA, zM, zL, zE, zD, yA, yE, yL, yQ, yT, reduceCtorEq, n1, n2]
  · have n1 : ¬ h.next = h.next + 1 := by omega
    simp only [go_sem, ↓reduceIte, ↓reduceDIte, zA, zM, zL, zE, zD, yA, yE, yL, yQ, yT, reduceCtorEq, n1]
def REngC (M : Nat) (h : H) (v : AV) (h' : H) : Prop := StepN h h' ∧ ∃ G base nb, v = .tup [.ptr G 0, .int .i64 0] ∧ h'.t.get G = some (.row (putList 0 ([.ptr M 0, .int .i64 base, .int .i64 nb] ++ quads 64 [.bool false, .bool false, .int .i64 0, .int .u64 0]) T.e) 259 308) ∧ G < h'.next
set_option maxRecDepth 100000 in
theorem w78 (P : Program) [PT P] {call : CallE} (h108 : FW call 108 16 4) (h111 : F111 call) {h : H} {M W : Nat} {ws : List Int} {lg : AV} (m : RMem h M W ws lg) {n : Int} (h1 : 1 ≤ n) (h2 : n ≤ 16) {base : Int} (b0 : 0 ≤ base) (b1 : base + 4 * n ≤ (ws.length : Int)) (b2 : ws.length ≤ 60000) :
    WF P call c78 [.ptr M 0, .int .i64 base, .int .i64 n] h (REngC M h) := by
  have k1 := h108 h n (by omega) (by omega)
  have k2 := h111 h M W ws lg base (4 * n) m b0 (by omega) b1 b2
  simp only [go_sem, ↓reduceIte, ↓reduceDIte, zA, zM, zL, zE, zD, yA, yE, yL, yQ, yT, reduceCtorEq, c78, k1, k2]
  refine ⟨StepN.new h _, _, _, _, rfl, by simp only [go_sem, ↓reduceIte, ↓reduceDIte, zA, zM, zL, zE, zD, yA, yE, yL, yQ, yT, reduceCtorEq]; rfl, Nat.lt_succ_self _⟩
end
end Go.Proofs.YtldmhpdjlgoenaaGreatDoor.BN
