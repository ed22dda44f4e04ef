/-
  The numbers of which a script's bytes are made: the reference, whole.
-/
import Derived.Test.YtnmlfhogolonoaaSoRd
set_option linter.unusedVariables false
set_option linter.unusedSimpArgs false
namespace Go.Proofs.Ytnmlfhogolonoaa
open Go.Proofs.Ytnmlfhogolonoaa.Eo
open Nat renaming reduceAdd → zA, reduceMul → zM, reduceLT → zL, reduceEqDiff → zE, reduceLeDiff → zD
open Int renaming reduceAdd → yA, reduceLE → yE, reduceLT → yL, reduceEq → yQ, reduceToNat → yT
noncomputable section
theorem PN.step {h0 h h' : H} {ns : List Int} {v : AV} (p : PN h0 .nils ns h v) (st : StepN h h') (hn : h0.next ≤ h.next) : PN h0 .nils ns h' v :=
  ⟨p.ow.keep st.next fun b hb => st.old b (p.ow.lt hb), Nat.le_trans p.gr.next st.next, fun c hc ho => (st.old c (Nat.lt_of_lt_of_le hc hn)).trans (p.gr.old c hc ho), p.gr.own⟩
theorem numsO_len (x : OpT) : (numsO x).length ≤ 8 := by
  unfold numsO
  rw [List.length_append]
  have := List.length_filter_le (fun y => decide (y ≠ 0)) (fldL x)
  have h6 : (fldL x).length = 6 := rfl
  simp only [List.length_cons, List.length_nil]
  omega
theorem numsOs_len (l : List OpT) : (l.flatMap numsO).length ≤ 8 * l.length := by
  induction l with
  | nil => exact Nat.le_refl _
  | cons x l ih =>
    have := numsO_len x
    rw [List.flatMap_cons, List.length_append, List.length_cons]
    omega
def F55 (call : CallE) : Prop := ∀ h x, ∃ v h', call 55 [.agg (opC x)] h = some (v, h') ∧ (v = .int .i64 (mk x 6) ∧ StepN h h')
def I33o (h1 : H) (A C : Nat) (i : Int) (l : List OpT) (ns : List Int) (k : Nat) (tm : T AV) (h : H) : Prop :=
  ∃ (j : Nat) (w : AV) (ms : List Int), j + k = l.length ∧ Ti33 A C i (j : Int) 0 tm ∧ tm.get 4 = some w ∧ PN h1 .nils ms h w ∧ ms.length ≤ ns.length + 8 * j ∧ ms ++ (l.drop j).flatMap numsO = ns ++ l.flatMap numsO
set_option maxRecDepth 4000 in
theorem step33o (P : Program) {call : CallE} (h55 : F55 call) (h56 : F56 call) {h1 : H} {A C : Nat} {c : CfgT} {cv pv kv : AV} {ps : List (List OpT)} {ks : List Int} (sc : Sc33 h1 A C c cv pv kv ps ks) {vs : List AV} {i : Nat} {p : AV} {l : List OpT} (hpv : RdL none 1 h1 pv vs) (hpvl : ∀ a, own pv = some a → a < h1.next) (hvs : vs.length = ps.length) (hi : vs[i]? = some p)
    (hp : RdL (some 7) 7 h1 p (l.map fun x => .agg (opC x))) (hpl : ∀ a, own p = some a → a < h1.next) (hop : ∀ x ∈ l, opR x) (hll : l.length ≤ 256) {ns : List Int} (hn : ns.length ≤ 1000000) (k : Nat) (tm : T AV) (h : H) (hI : I33o h1 A C (i : Int) l ns k tm h) :
    WC P call c33_l35 (loopQ 6 (fun tm h => ∃ j, j < k ∧ I33o h1 A C (i : Int) l ns j tm h) (fun tm h => At33 A C tm ∧ tm.get 8 = some (.int .i64 (i : Int)) ∧ ∃ w, tm.get 4 = some w ∧ PN h1 .nils (ns ++ l.flatMap numsO) h w) (fun _ _ => False)) tm h := by
  obtain ⟨j, w, ms, hjk, ⟨⟨t1, t3⟩, t8, t9⟩, t4, pn, hml, hms⟩ := hI
  have gA := (pn.get sc.lA).trans sc.gA
  have hil : i < vs.length := (List.getElem?_eq_some_iff.1 hi).1
  have nx := pn.gr.next
  have hpv' := hpv.keep (h' := h) fun b hb => pn.get (hpvl b hb)
  have pl := hp.lenA
  rw [List.length_map] at pl
  rcases id hpv' with ⟨_, hh⟩ | ⟨a, o, cap, rfl, _, ra⟩
  · rw [hh] at hil; simp at hil
  have hav := ra i p hi
  rw [rLdA, Nat.mul_one] at hav
  have e0 : (i : Int) < (vs.length : Int) := by omega
  cases k with
  | zero =>
    have e1 : ¬ (j : Int) < (l.length : Int) := by omega
    simp only [go_sem, ↓reduceIte, ↓reduceDIte, zA, zM, zL, zE, zD, yA, yE, yL, yQ, yT, reduceCtorEq, c33_l35, t1, t8, t9, gA, e0, Nat.mul_one, hav, pl, e1]
    rw [List.drop_eq_nil_of_le (by omega)] at hms
    have e2 : ms = ns ++ l.flatMap numsO := by rw [← hms]; exact (List.append_nil ms).symm
    rw [← e2]
    exact ⟨⟨by simp [go_sem, t1], by simp [go_sem, t3]⟩, w, by simp [go_sem, t4], pn⟩
  | succ k =>
    have e1 : (j : Int) < (l.length : Int) := by omega
    have hj : j < l.length := by omega
    have hp' := hp.keep (h' := h) fun b hb => pn.get (hpl b hb)
    rcases id hp' with ⟨_, hh⟩ | ⟨a2, o2, cap2, rfl, _, ra2⟩
    · rw [List.map_eq_nil_iff] at hh; rw [hh] at hj; simp at hj
    have ha2 := ra2 j (.agg (opC l[j])) (by simp [hj])
    rw [rLdA] at ha2
    rw [List.length_map] at hav pl
    have hx := hop l[j] (List.getElem_mem hj)
    rw [List.drop_eq_getElem_cons hj, List.flatMap_cons] at hms
    generalize l[j] = x at ha2 hx hms
    have nA : ¬ A = h.next := by have := sc.lA; omega
    have na : ¬ a = h.next := by have := hpvl a rfl; omega
    have na2 : ¬ a2 = h.next := by have := hpl a2 rfl; omega
    have f1 : fw .u64 x.1 = x.1 := fw_u ⟨hx.1.1, by have := hx.1.2; omega⟩
    obtain ⟨m1, m2⟩ := mk_bound x 6
    have m3 : mk x 6 < 64 := m2
    have f2 : fw .u64 (mk x 6) = mk x 6 := fw_u ⟨m1, by omega⟩
    have hx0 : (opC x)[0]? = some (.int .u8 x.1) := rfl
    have hz : (opC x).length = 7 := rfl
    simp only [go_sem, ↓reduceIte, ↓reduceDIte, zA, zM, zL, zE, zD, yA, yE, yL, yQ, yT, reduceCtorEq, c33_l35, t1, t4, t8, t9, gA, e0, Nat.mul_one, hav, pl, e1, ha2, hx0, f1]
    have stD : StepN h ⟨h.next + 1, h.t.set h.next (.row (putList 0 (opC x) T.e) 7 45)⟩ := StepN.new h _
    refine opt_by (h55 _ x) fun v2 h2 p2 => ?_
    obtain ⟨rfl, st2⟩ := p2
    have gD2 := st2.old h.next (Nat.lt_succ_self _)
    simp only [go_sem, ↓reduceIte, ↓reduceDIte, zA, zM, zL, zE, zD, yA, yE, yL, yQ, yT, reduceCtorEq] at gD2
    have nx2 : h.next + 1 ≤ h2.next := st2.next
    have pn2 := (pn.step stD nx).step st2 (Nat.le_trans nx (Nat.le_succ _))
    simp only [go_sem, ↓reduceIte, ↓reduceDIte, zA, zM, zL, zE, zD, yA, yE, yL, yQ, yT, reduceCtorEq, f2, nx2, gD2]
    refine opt_app2 pn2 (by omega) fun w3 h3 pn3 nx3 old3 _ => ?_
    have gD3 := (old3 h.next (by omega) (fun hh => by have := pn.ow.lt hh; omega)).trans gD2
    have nd : ¬ h.next = h2.next := by omega
    simp only [go_sem, ↓reduceIte, ↓reduceDIte, zA, zM, zL, zE, zD, yA, yE, yL, yQ, yT, reduceCtorEq, gD2, gD3, nx3, nd, hx0, f1]
    refine opt_by (h56 h3 x) fun v4 h4 p4 => ?_
    obtain ⟨st4, rd4, ow4⟩ := p4
    have pn4 := pn3.step st4 (by omega)
    simp only [go_sem, ↓reduceIte, ↓reduceDIte, zA, zM, zL, zE, zD, yA, yE, yL, yQ, yT, reduceCtorEq]
    refine loop_in (I33f h1 A C (i : Int) (j : Int) 0 x v4 (ms ++ [x.1, mk x 6])) _ _ (fun k tm h hI => step33f P (by rw [List.length_append]; simp only [List.length_cons, List.length_nil]; omega) k tm h hI) (fun tm5 h5 hR => ?_) (fun _ _ hh => hh.elim) 6 _ _
      ⟨⟨⟨by simp [go_sem, t1], by simp [go_sem, t3]⟩, by simp [go_sem, t8], by simp [go_sem, t9]⟩, by simp [go_sem], 0, w3, ms ++ [x.1, mk x 6], rfl, by simp [go_sem], by simp [go_sem], pn4, rd4, fun b hb => ⟨fun hh => by have := pn3.ow.lt hh; have := (ow4 b hb).1; omega, (ow4 b hb).2⟩, by omega, rfl⟩
    obtain ⟨⟨⟨u1, u3⟩, u8, u9⟩, w5, u4, pn5⟩ := hR
    have f5 : fw .i64 ((j : Int) + 1) = (j : Int) + 1 := fwI (by omega) (by omega)
    have e3 : ((j + 1 : Nat) : Int) = (j : Int) + 1 := rfl
    have hO : numsO x = [x.1, mk x 6] ++ (fldL x).filter fun y => decide (y ≠ 0) := rfl
    have hlO := numsO_len x
    rw [List.append_assoc, ← hO] at pn5
    simp only [go_sem, ↓reduceIte, ↓reduceDIte, zA, zM, zL, zE, zD, yA, yE, yL, yQ, yT, reduceCtorEq, u9, f5]
    exact ⟨k, Nat.lt_succ_self k, j + 1, w5, ms ++ numsO x, by omega, ⟨⟨by simp [go_sem, u1], by simp [go_sem, u3]⟩, by simp [go_sem, u8], by simp [go_sem, e3]⟩, by simp [go_sem, u4], pn5, by rw [List.length_append]; omega, by rw [← hms, List.append_assoc]⟩
/-- the loop over the programs -/
def I33p (h1 : H) (A C : Nat) (ps : List (List OpT)) (ns : List Int) (k : Nat) (tm : T AV) (h : H) : Prop :=
  ∃ (i : Nat) (w : AV) (ms : List Int), i + k = ps.length ∧ At33 A C tm ∧ tm.get 8 = some (.int .i64 (i : Int)) ∧ tm.get 4 = some w ∧ PN h1 .nils ms h w ∧ ms.length ≤ ns.length + 2049 * i ∧ ms ++ (ps.drop i).flatMap numsP = ns ++ ps.flatMap numsP
set_option maxRecDepth 4000 in
theorem step33p (P : Program) {call : CallE} (h55 : F55 call) (h56 : F56 call) {h1 : H} {A C : Nat} {c : CfgT} {cv pv kv : AV} {ps : List (List OpT)} {ks : List Int} (sc : Sc33 h1 A C c cv pv kv ps ks) (hop : ∀ p ∈ ps, (∀ x ∈ p, opR x) ∧ p.length ≤ 256) (hpl : ps.length ≤ 64)
    {ns : List Int} (hn : ns.length ≤ 10000) (k : Nat) (tm : T AV) (h : H) (hI : I33p h1 A C ps ns k tm h) :
    WC P call c33_l37 (loopQ 4 (fun tm h => ∃ j, j < k ∧ I33p h1 A C ps ns j tm h) (R33 h1 A C (ns ++ ps.flatMap numsP)) (fun _ _ => False)) tm h := by
  obtain ⟨i, w, ms, hik, ⟨t1, t3⟩, t8, t4, pn, hml, hms⟩ := hI
  have gA := (pn.get sc.lA).trans sc.gA
  obtain ⟨vs, q1, q2, q3, q4, q5⟩ := id sc.ps
  have pvl := q1.lenA
  rw [q2] at pvl
  cases k with
  | zero =>
    have e1 : ¬ (i : Int) < (ps.length : Int) := by omega
    simp only [go_sem, ↓reduceIte, ↓reduceDIte, zA, zM, zL, zE, zD, yA, yE, yL, yQ, yT, reduceCtorEq, c33_l37, t1, t8, gA, pvl, e1]
    rw [List.drop_eq_nil_of_le (by omega)] at hms
    have e2 : ms = ns ++ ps.flatMap numsP := by rw [← hms]; exact (List.append_nil ms).symm
    rw [← e2]
    exact ⟨⟨by simp [go_sem, t1], by simp [go_sem, t3]⟩, w, by simp [go_sem, t4], pn⟩
  | succ k =>
    have e1 : (i : Int) < (ps.length : Int) := by omega
    have hi : i < ps.length := by omega
    have hiv : i < vs.length := by omega
    have e0 : (i : Int) < (vs.length : Int) := by omega
    have hp := q3 i vs[i] ps[i] (by simp [hiv]) (by simp [hi])
    have hpk := q5 i vs[i] (by simp [hiv])
    have pl := hp.lenA
    rw [List.length_map] at pl
    have q1' := q1.keep (h' := h) fun b hb => pn.get (q4 b hb)
    have q1s := q1
    have q4s := q4
    rcases id q1' with ⟨_, hh⟩ | ⟨a, o, cap, rfl, _, ra⟩
    · rw [hh] at hiv; simp at hiv
    have hav := ra i vs[i] (by simp [hiv])
    rw [rLdA, Nat.mul_one] at hav
    obtain ⟨o1, o2⟩ := hop ps[i] (List.getElem_mem hi)
    have f1 : fw .u64 (ps[i].length : Int) = (ps[i].length : Int) := fw_u ⟨by omega, by omega⟩
    rw [List.drop_eq_getElem_cons hi, List.flatMap_cons] at hms
    generalize hpi : ps[i] = p at hp pl o1 o2 f1 hms
    simp only [go_sem, ↓reduceIte, ↓reduceDIte, zA, zM, zL, zE, zD, yA, yE, yL, yQ, yT, reduceCtorEq, c33_l37, t1, t4, t8, gA, pvl, e0, e1, Nat.mul_one, hav, pl, f1]
    refine opt_app1 pn (by omega) fun w3 h3 pn3 => ?_
    simp only [go_sem, ↓reduceIte, ↓reduceDIte, zA, zM, zL, zE, zD, yA, yE, yL, yQ, yT, reduceCtorEq]
    refine loop_in (I33o h1 A C (i : Int) p (ms ++ [(p.length : Int)])) _ _ (fun k tm h hI => step33o P h55 h56 sc q1s q4s q2 (by simp [hiv]) hp hpk o1 o2 (by rw [List.length_append, List.length_cons, List.length_nil]; omega) k tm h hI) (fun tm5 h5 hR => ?_) (fun _ _ hh => hh.elim) p.length _ _
      ⟨0, w3, ms ++ [(p.length : Int)], by omega, ⟨⟨by simp [go_sem, t1], by simp [go_sem, t3]⟩, by simp [go_sem, t8], by simp [go_sem]⟩, by simp [go_sem], pn3, by omega, rfl⟩
    obtain ⟨⟨u1, u3⟩, u8, w5, u4, pn5⟩ := hR
    have f5 : fw .i64 ((i : Int) + 1) = (i : Int) + 1 := fwI (by omega) (by omega)
    have e3 : ((i + 1 : Nat) : Int) = (i : Int) + 1 := rfl
    have hlO := numsOs_len p
    have hP : [(p.length : Int)] ++ p.flatMap numsO = numsP p := rfl
    rw [List.append_assoc, hP] at pn5
    have hPl : (numsP p).length ≤ 2049 := by rw [← hP, List.length_append, List.length_cons, List.length_nil]; omega
    simp only [go_sem, ↓reduceIte, ↓reduceDIte, zA, zM, zL, zE, zD, yA, yE, yL, yQ, yT, reduceCtorEq, u8, f5]
    exact ⟨k, Nat.lt_succ_self k, i + 1, w5, ms ++ numsP p, by omega, ⟨by simp [go_sem, u1], by simp [go_sem, u3]⟩, by simp [go_sem, e3], by simp [go_sem, u4], pn5, by rw [List.length_append]; omega, by rw [← hms, List.append_assoc]⟩
/-- the loop over the runs -/
def I33k (h1 : H) (rv : AV) (r : List (Int × Int)) (ns : List Int) (k : Nat) (tm : T AV) (h : H) : Prop :=
  tm.get 13 = some rv ∧ ∃ (q : Nat) (w : AV) (ms : List Int), q + k = r.length ∧ tm.get 14 = some (.int .i64 (q : Int)) ∧ tm.get 4 = some w ∧ PN h1 .nils ms h w ∧ Own 2 98 h rv r.length (runC r) ∧ (∀ b, own rv = some b → own w ≠ some b) ∧ ms.length ≤ ns.length + 2 * q ∧ ms ++ numsR (r.drop q) = ns ++ numsR r
theorem runC_at : ∀ (r : List (Int × Int)) (q : Nat) (hq : q < r.length), (runC r)[q * 2]? = some (.int .i64 (r[q].1)) ∧ (runC r)[q * 2 + 1]? = some (.int .i64 (r[q].2))
  | [], q, hq => by simp at hq
  | p :: r, 0, hq => ⟨rfl, rfl⟩
  | p :: r, q + 1, hq => by
    have e1 : (q + 1) * 2 = q * 2 + 2 := by omega
    have e2 : runC (p :: r) = .int .i64 p.1 :: .int .i64 p.2 :: runC r := rfl
    rw [e1, e2]
    exact runC_at r q (by simpa using hq)
set_option maxRecDepth 4000 in
theorem step33k (P : Program) {call : CallE} {h1 : H} {rv : AV} {r : List (Int × Int)} (hr : ∀ p ∈ r, (0 ≤ p.1 ∧ p.1 < 64) ∧ (1 ≤ p.2 ∧ p.2 ≤ 65536)) (hrl : r.length ≤ 65536) {ns : List Int} (hn : ns.length ≤ 1000000) (k : Nat) (tm : T AV) (h : H) (hI : I33k h1 rv r ns k tm h) :
    WC P call c33_l44 (loopQ 10 (fun tm h => ∃ j, j < k ∧ I33k h1 rv r ns j tm h) (fun tm h => ∃ w, tm.get 4 = some w ∧ PN h1 .nils (ns ++ numsR r) h w) (fun _ _ => False)) tm h := by
  obtain ⟨t13, q, w, ms, hqk, t14, t4, pn, ow, hrw, hml, hms⟩ := hI
  have rl := ow.lenA
  cases k with
  | zero =>
    have e1 : ¬ (q : Int) < (r.length : Int) := by omega
    simp only [go_sem, ↓reduceIte, ↓reduceDIte, zA, zM, zL, zE, zD, yA, yE, yL, yQ, yT, reduceCtorEq, c33_l44, t13, t14, rl, e1]
    rw [List.drop_eq_nil_of_le (by omega)] at hms
    have e2 : ms = ns ++ numsR r := by rw [← hms]; exact (List.append_nil ms).symm
    rw [← e2]
    exact ⟨w, by simp [go_sem, t4], pn⟩
  | succ k =>
    have e1 : (q : Int) < (r.length : Int) := by omega
    have hq : q < r.length := by omega
    obtain ⟨g1, g2⟩ := runC_at r q hq
    obtain ⟨b1, b2⟩ := hr r[q] (List.getElem_mem hq)
    have hcl := runC_len r
    rw [List.drop_eq_getElem_cons hq] at hms
    generalize r[q] = p at g1 g2 b1 b2 hms
    have hms' : ms ++ ([p.1, p.2] ++ numsR (r.drop (q + 1))) = ns ++ numsR r := hms
    have f1 : fw .u64 p.1 = p.1 := fw_u ⟨by omega, by omega⟩
    have f2 : fw .u64 p.2 = p.2 := fw_u ⟨by omega, by omega⟩
    have f5 : fw .i64 ((q : Int) + 1) = (q : Int) + 1 := fwI (by omega) (by omega)
    have e3 : ((q + 1 : Nat) : Int) = (q : Int) + 1 := rfl
    have ow0 := ow
    generalize hrn : r.length = n at ow rl e1
    generalize hcs : runC r = cs at ow g1 g2
    cases ow with
    | nil => omega
    | sl a n cs cap hc h0 hcl' hlt hg =>
    have nb : ¬ a = h.next := by omega
    have e7 : q * 2 + 1 < cs.length := by rw [← hcs, hcl]; omega
    simp only [go_sem, ↓reduceIte, ↓reduceDIte, zA, zM, zL, zE, zD, yA, yE, yL, yQ, yT, reduceCtorEq, c33_l44, t4, t13, t14, rl, e1, hg, g1, g2, f1, f2]
    refine opt_app2 pn (by omega) fun w3 h3 pn3 nx3 old3 ow3 => ?_
    have g3 := (old3 a hlt (hrw a rfl)).trans hg
    simp only [go_sem, ↓reduceIte, ↓reduceDIte, zA, zM, zL, zE, zD, yA, yE, yL, yQ, yT, reduceCtorEq, t14, hg, g3, nb, g1, g2, nx3, f5]
    exact ⟨k, Nat.lt_succ_self k, by simp [go_sem, t13], q + 1, w3, ms ++ [p.1, p.2], by omega, by simp [go_sem, e3], by simp [go_sem], pn3, by rw [hrn]; rw [← hcs] at hg; rw [hrn] at ow0; exact ow0.keep (by omega) (fun b hb => by simp only [own, Option.some.injEq] at hb; subst hb; rw [g3, ← hcs, hg]), fun b hb hh => by simp only [own, Option.some.injEq] at hb; subst hb; have := ow3 _ hh; omega, by rw [List.length_append]; simp only [List.length_cons, List.length_nil]; omega, by rw [← hms', List.append_assoc]⟩
def Post33 (l : List Int) (h : H) (v : AV) (h' : H) : Prop := StepN h h' ∧ Own 1 43 h' v l.length (l.map (AV.int .u64)) ∧ ∀ b, own v = some b → h.next ≤ b
theorem numsPs_len {ps : List (List OpT)} (hop : ∀ p ∈ ps, p.length ≤ 256) : (ps.flatMap numsP).length ≤ 2049 * ps.length := by
  induction ps with
  | nil => exact Nat.le_refl _
  | cons p ps ih =>
    have h1 := ih fun q hq => hop q (List.mem_cons_of_mem _ hq)
    have h2 := hop p (List.mem_cons_self ..)
    have h3 := numsOs_len p
    rw [List.flatMap_cons, List.length_append, List.length_cons]
    have : (numsP p).length = (p.flatMap numsO).length + 1 := rfl
    omega
theorem PN.stepN {h h' : H} {ns : List Int} {v : AV} (p : PN h .nils ns h' v) : StepN h h' := ⟨p.gr.next, fun b hb => p.get hb⟩
def tl33 : CC := .seq (.seq (.ops c33_s20) (.block 4 (.loop c33_l37))) (.seq (.ops c33_s38) (.seq (.ops c33_s39) (.seq (.seq (.ops c33_s40) (.block 10 (.loop c33_l44))) (.seq (.ops c33_s45) .ret))))
def hd33 (X : CC) : CC := .seq (.ops c33_s0) (.seq (.ops c33_s1) (.seq (.ops c33_s2) (.seq (.seq (.ops c33_s3) (.block 0 (.loop c33_l7))) (.seq (.ops c33_s8) (.seq (.seq (.ops c33_s9) (.cond (.t 61) (.ops c33_s10) .skip)) (.seq (.seq (.ops c33_s11) (.cond (.t 72) (.seq (.ops c33_s12) (.seq (.ops c33_s13) (.seq (.ops c33_s14) (.block 2 (.loop c33_l19))))) .skip)) X))))))
theorem c33_split : c33 = ⟨1, hd33 tl33, [.tmp 2]⟩ := rfl
def F57 (call : CallE) : Prop := ∀ h v (l : List Int), l.length ≤ 65536 → RdL none 1 h v (l.map fun x : Int => AV.int .i64 x) → (∀ a, own v = some a → a < h.next) → ∃ v' h', call 57 [v] h = some (v', h') ∧ Post57 l h v' h'
theorem numsD_len {c : CfgT} (hc : c.cuts.length ≤ 64) : (numsD c).length ≤ 65 := by
  unfold numsD
  split
  · show 1 ≤ 65
    decide
  · split
    · rw [List.length_cons, diffs_len]; omega
    · exact Nat.zero_le _
set_option maxRecDepth 8000 in
theorem tl33_w (P : Program) {call : CallE} (h55 : F55 call) (h56 : F56 call) (h57 : F57 call) {h0 h1 : H} {A C : Nat} {c : CfgT} {cv pv kv : AV} {ps : List (List OpT)} {ks : List Int} (st0 : StepN h0 h1) (sc : Sc33 h1 A C c cv pv kv ps ks) (hchk : chkB c ps ks) (hop : ∀ p ∈ ps, ∀ x ∈ p, opR x)
    (hcl : c.cuts.length ≤ 64) {tm : T AV} {h : H} (hR : R33 h1 A C (numsC c ++ numsD c) tm h) : WC P call tl33 (endW [.tmp 2] (Post33 (numsS c ps ks) h0)) tm h := by
  obtain ⟨⟨ht, ⟨th1, th2⟩, _⟩, hpl, hpo, hkl, hkr⟩ := id hchk
  obtain ⟨⟨t1, t3⟩, w, t4, pn⟩ := hR
  have lD := numsD_len hcl
  have lC : (numsC c).length = 14 := rfl
  simp only [go_sem, ↓reduceIte, ↓reduceDIte, zA, zM, zL, zE, zD, yA, yE, yL, yQ, yT, reduceCtorEq, tl33]
  refine loop_in (I33p h1 A C ps (numsC c ++ numsD c)) _ _ (fun k tm h hI => step33p P h55 h56 sc (fun p hp => ⟨hop p hp, hpo p hp⟩) (by omega) (by rw [List.length_append]; omega) k tm h hI) (fun tm2 h2 hR => ?_) (fun _ _ hh => hh.elim) ps.length _ _
    ⟨0, w, numsC c ++ numsD c, by omega, ⟨by simp [go_sem, t1], by simp [go_sem, t3]⟩, by simp [go_sem], by simp [go_sem, t4], pn, by omega, rfl⟩
  obtain ⟨⟨u1, u3⟩, w2, u4, pn2⟩ := hR
  have gA := (pn2.get sc.lA).trans sc.gA
  have lP := numsPs_len hpo
  have hps64 : ps.length ≤ 64 := by omega
  have oka := sc.ks.one
  simp only [go_sem, ↓reduceIte, ↓reduceDIte, zA, zM, zL, zE, zD, yA, yE, yL, yQ, yT, reduceCtorEq, u1, gA, oka]
  refine opt_by (h57 h2 kv ks hkl (sc.ks.keep fun b hb => pn2.get (sc.ksl b hb)) (fun b hb => Nat.lt_of_lt_of_le (sc.ksl b hb) pn2.gr.next)) fun v3 h3 p3 => ?_
  obtain ⟨st3, ow3, lo3⟩ := p3
  obtain ⟨rl, rr⟩ := runsF_ok (fun x hx => by have := hkr x hx; omega) hkl
  have pn3 := pn2.step st3 pn2.gr.next
  have vl3 := ow3.lenA
  have f1 : fw .u64 ((runsF ks).length : Int) = ((runsF ks).length : Int) := fw_u ⟨by omega, by omega⟩
  have lA : (numsC c ++ numsD c ++ ps.flatMap numsP).length ≤ 200000 := by rw [List.length_append, List.length_append]; omega
  simp only [go_sem, ↓reduceIte, ↓reduceDIte, zA, zM, zL, zE, zD, yA, yE, yL, yQ, yT, reduceCtorEq, u4, vl3, f1]
  have own3 : ∀ b, own v3 = some b → own w2 ≠ some b := fun b hb hh => by have := pn2.ow.lt hh; have := lo3 b hb; omega
  have ov1 := pn3.ow.keep (h' := ⟨h3.next + 1, h3.t.set h3.next (.row (putList 0 [.int .u64 ((runsF ks).length : Int)] T.e) 1 43)⟩) (Nat.le_succ _) (fun b hb => by
    have := pn3.ow.lt hb
    have e0 : ¬ b = h3.next := by omega
    simp only [go_sem, ↓reduceIte, ↓reduceDIte, zA, zM, zL, zE, zD, yA, yE, yL, yQ, yT, reduceCtorEq, e0])
  have g := Grow.stepG (n := 1) pn3.ow (.row (putList 0 [.int .u64 ((runsF ks).length : Int)] T.e) 1 43) [.int .u64 ((runsF ks).length : Int)]
  refine opt_some (appA_own ov1 (by decide) (by decide) (by omega) (by omega)) ?_
  have ov2 := own_app (src := [.int .u64 ((runsF ks).length : Int)]) ov1 (n := 1) (by decide) rfl
  simp only [go_sem, ↓reduceIte, ↓reduceDIte, zA, zM, zL, zE, zD, yA, yE, yL, yQ, yT, reduceCtorEq]
  refine loop_in (I33k h1 v3 (runsF ks) (numsC c ++ numsD c ++ ps.flatMap numsP ++ [((runsF ks).length : Int)])) _ _ (fun k tm h hI => step33k P rr (by omega) (by rw [List.length_append]; simp only [List.length_cons, List.length_nil]; omega) k tm h hI) (fun tm4 h4 hR => ?_) (fun _ _ hh => hh.elim) (runsF ks).length _ _
    ⟨by simp [go_sem], 0, _, numsC c ++ numsD c ++ ps.flatMap numsP ++ [((runsF ks).length : Int)], by omega, by simp [go_sem], by simp [go_sem], ⟨?_, pn3.gr.trans g⟩, ow3.keep (by rw [app_next]; show h3.next ≤ h3.next + 1 + 1; omega) (fun b hb => g.old b (ow3.lt hb) (own3 b hb)), fun b hb hh => ?_, by omega, rfl⟩
  · obtain ⟨w4, u4, pn4⟩ := hR
    simp only [go_sem, ↓reduceIte, ↓reduceDIte, zA, zM, zL, zE, zD, yA, yE, yL, yQ, yT, reduceCtorEq, u4]
    have e : numsC c ++ numsD c ++ ps.flatMap numsP ++ [((runsF ks).length : Int)] ++ numsR (runsF ks) = numsS c ps ks := by
      unfold numsS numsK
      rw [List.append_assoc _ [_]]
      rfl
    rw [e] at pn4
    refine ⟨st0.trans pn4.stepN, pn4.ow, fun b hb => ?_⟩
    rcases pn4.gr.own b hb with h | h
    · simp [own] at h
    · exact Nat.le_trans st0.next h
  · have e1 : ∀ (l : List Int) (x : Int), (l ++ [x]).length = l.length + 1 := fun l x => by simp
    have e2 : ∀ (l : List Int) (x : Int), (l ++ [x]).map (AV.int .u64) = l.map (AV.int .u64) ++ [.int .u64 x] := fun l x => by simp
    rw [e1, e2]
    exact ov2
  · have h1 := ow3.lt hb
    rw [own_appV] at hh
    simp only [Option.some.injEq] at hh
    omega
set_option maxHeartbeats 1000000 in
set_option maxRecDepth 8000 in
theorem hd33_w (P : Program) {call : CallE} {h : H} {v : AV} {c : CfgT} {ps : List (List OpT)} {ks : List Int} (hs : IsS h v c ps ks) (hchk : chkB c ps ks) (hcu : ∀ x ∈ c.cuts, inU x) {X : CC} {Q : Cont}
    (hX : ∀ tm' h' h1 A C cv pv kv, StepN h h1 → Sc33 h1 A C c cv pv kv ps ks → R33 h1 A C (numsC c ++ numsD c) tm' h' → WC P call X Q tm' h') : WC P call (hd33 X) Q (putList 0 [v] T.e) h := by
  obtain ⟨cv, pv, kv, rfl, i1, i2, i3, i4, i5⟩ := id hs
  have ov := i1.one
  have opa := i3.one
  have oka := i4.one
  obtain ⟨⟨ht, ⟨th1, th2⟩, ⟨sl1, sl2⟩, en1, en2, bk3, bkn, dom, ⟨lo1, lo2⟩, ⟨tr1, tr2⟩, ba1, ba2⟩, hpl, hpo, hkl, hkr⟩ := id hchk
  have bk : 0 ≤ c.buckets ∧ c.buckets ≤ 16 := by
    by_cases hg : c.engine = 3
    · have := bk3 hg; omega
    · have := bkn hg; omega
  have kd : 1 ≤ c.kind ∧ c.kind ≤ 3 := by rcases dom with ⟨a, _⟩ | ⟨a, _⟩ | ⟨a, _⟩ <;> omega
  have hcl : c.cuts.length ≤ 64 := by rcases dom with ⟨_, _, a⟩ | ⟨_, _, a⟩ | ⟨_, _, _, a, _⟩ <;> first | (rw [a]; exact Nat.zero_le _) | omega
  simp only [towB, and_true] at ht
  have F : ∀ x : Int, 0 ≤ x → x ≤ 100000 → fw .u64 x = x := fun x h1 h2 => fw_u ⟨h1, by omega⟩
  have a1 := F c.threads (by omega) (by omega)
  have a2 := F c.slots (by omega) (by omega)
  have a3 := F c.engine (by omega) (by omega)
  have a4 := F c.buckets (by omega) (by omega)
  have a5 := F c.locks (by omega) (by omega)
  have a6 := F c.tries (by omega) (by omega)
  have a7 := F c.batch (by omega) (by omega)
  have b0 := F c.t0 (by omega) (by omega)
  have b1 := F c.t1 (by omega) (by omega)
  have b2 := F c.t2 (by omega) (by omega)
  have b3 := F c.t3 (by omega) (by omega)
  have b4 := F c.t4 (by omega) (by omega)
  have b5 := F c.t5 (by omega) (by omega)
  have a8 := F c.kind (by omega) (by omega)
  have hz : ∀ l : List AV, l.length = 16 → putList 0 l (putList 0 [.int .i64 0, .int .i64 0, .int .u8 0, .int .i64 0, .int .u8 0, .int .i64 0, .nils, .int .i64 0, .int .i64 0, .int .i64 0, .int .i64 0, .int .i64 0, .int .i64 0, .int .i64 0, .int .i64 0, .int .i64 0] T.e) = putList 0 l T.e := fun l hl => rowPutAll _ _ hl
  simp only [go_sem, ↓reduceIte, ↓reduceDIte, zA, zM, zL, zE, zD, yA, yE, yL, yQ, yT, reduceCtorEq, hd33, ov, opa, oka, cfgC, a1, a2, a3, a4, a5, a6, a7]
  refine unroll 7 ?_
  simp only [go_sem, ↓reduceIte, ↓reduceDIte, zA, zM, zL, zE, zD, yA, yE, yL, yQ, yT, reduceCtorEq, c33_l7, b0]
  obtain ⟨h1, hh1⟩ : ∃ h1 : H, h1 = ⟨h.next + 2, (h.t.set h.next (.row (putList 0 (cfgC c cv ++ [pv, kv]) T.e) 18 31)).set (h.next + 1) (.row (putList 0 (cfgC c cv) T.e) 16 27)⟩ := ⟨_, rfl⟩
  have st01 : StepN h h1 := by
    rw [hh1]
    refine ⟨by show h.next ≤ h.next + 2; omega, fun b hb => ?_⟩
    have e0 : ¬ b = h.next := by omega
    have e1 : ¬ b = h.next + 1 := by omega
    simp only [go_sem, ↓reduceIte, ↓reduceDIte, zA, zM, zL, zE, zD, yA, yE, yL, yQ, yT, reduceCtorEq, e0, e1]
  have sc : Sc33 h1 h.next (h.next + 1) c cv pv kv ps ks := by
    refine ⟨by rw [hh1]; simp only [go_sem, ↓reduceIte, ↓reduceDIte, zA, zM, zL, zE, zD, yA, yE, yL, yQ, yT, reduceCtorEq], by rw [hh1]; simp only [go_sem, ↓reduceIte, ↓reduceDIte, zA, zM, zL, zE, zD, yA, yE, yL, yQ, yT, reduceCtorEq], by rw [hh1]; show h.next < h.next + 2; omega, by rw [hh1]; show h.next + 1 < h.next + 2; omega, i1.keep fun b hb => st01.old b (i2 b hb), fun b hb => Nat.lt_of_lt_of_le (i2 b hb) st01.next, i3.keep st01, i4.keep fun b hb => st01.old b (i5 b hb), fun b hb => Nat.lt_of_lt_of_le (i5 b hb) st01.next⟩
  have pn0 : PN h1 .nils [c.threads, c.slots, c.engine, c.buckets, c.locks, c.tries, c.batch] ⟨h.next + 3, h1.t.set (h.next + 2) (.row (putList 0 [.int .u64 c.threads, .int .u64 c.slots, .int .u64 c.engine, .int .u64 c.buckets, .int .u64 c.locks, .int .u64 c.tries, .int .u64 c.batch] T.e) 7 43)⟩ (.sl (h.next + 2) 0 7 1 (some 7)) := by
    refine ⟨.sl _ _ _ _ (.inr rfl) (by decide) rfl (Nat.lt_succ_self _) (by simp only [go_sem, ↓reduceIte, ↓reduceDIte, zA, zM, zL, zE, zD, yA, yE, yL, yQ, yT, reduceCtorEq]; rfl), ⟨?_, fun b hb _ => ?_, fun b hb => .inr ?_⟩⟩
    · rw [hh1]; show h.next + 2 ≤ h.next + 3; omega
    · have : b < h.next + 2 := by rw [hh1] at hb; exact hb
      have e0 : ¬ b = h.next + 2 := by omega
      simp only [go_sem, ↓reduceIte, ↓reduceDIte, zA, zM, zL, zE, zD, yA, yE, yL, yQ, yT, reduceCtorEq, e0]
    · simp only [own, Option.some.injEq] at hb
      rw [hh1]
      show h.next + 2 ≤ b
      omega
  have hc1 := sc.gC
  have hlC := sc.lC
  have hlA := sc.lA
  rw [hh1] at pn0
  unfold cfgC at pn0
  refine opt_app1 pn0 (by simp) fun w1 k1 pn1 => ?_
  unfold cfgC at hh1
  rw [← hh1] at pn1
  have g1 := (pn1.get hlC).trans hc1
  simp only [go_sem, ↓reduceIte, ↓reduceDIte, zA, zM, zL, zE, zD, yA, yE, yL, yQ, yT, reduceCtorEq, c33_l7, g1, cfgC, fl1, fl2, fl3, fl4, fl5, fl6, b1]
  refine opt_app1 pn1 (by simp) fun w2 k2 pn2 => ?_
  have g2 := (pn2.get hlC).trans hc1
  simp only [go_sem, ↓reduceIte, ↓reduceDIte, zA, zM, zL, zE, zD, yA, yE, yL, yQ, yT, reduceCtorEq, c33_l7, g2, cfgC, fl1, fl2, fl3, fl4, fl5, fl6, b2]
  refine opt_app1 pn2 (by simp) fun w3 k3 pn3 => ?_
  have g3 := (pn3.get hlC).trans hc1
  simp only [go_sem, ↓reduceIte, ↓reduceDIte, zA, zM, zL, zE, zD, yA, yE, yL, yQ, yT, reduceCtorEq, c33_l7, g3, cfgC, fl1, fl2, fl3, fl4, fl5, fl6, b3]
  refine opt_app1 pn3 (by simp) fun w4 k4 pn4 => ?_
  have g4 := (pn4.get hlC).trans hc1
  simp only [go_sem, ↓reduceIte, ↓reduceDIte, zA, zM, zL, zE, zD, yA, yE, yL, yQ, yT, reduceCtorEq, c33_l7, g4, cfgC, fl1, fl2, fl3, fl4, fl5, fl6, b4]
  refine opt_app1 pn4 (by simp) fun w5 k5 pn5 => ?_
  have g5 := (pn5.get hlC).trans hc1
  simp only [go_sem, ↓reduceIte, ↓reduceDIte, zA, zM, zL, zE, zD, yA, yE, yL, yQ, yT, reduceCtorEq, c33_l7, g5, cfgC, fl1, fl2, fl3, fl4, fl5, fl6, b5]
  refine opt_app1 pn5 (by simp) fun w6 k6 pn6 => ?_
  have g6 := (pn6.get hlC).trans hc1
  simp only [go_sem, ↓reduceIte, ↓reduceDIte, zA, zM, zL, zE, zD, yA, yE, yL, yQ, yT, reduceCtorEq, c33_l7, g6, cfg16_get4, fl1, fl2, fl3, fl4, fl5, fl6, a8]
  refine opt_app1 pn6 (by simp) fun w7 k7 pn7 => ?_
  have e7 : [c.threads, c.slots, c.engine, c.buckets, c.locks, c.tries, c.batch] ++ [c.t0] ++ [c.t1] ++ [c.t2] ++ [c.t3] ++ [c.t4] ++ [c.t5] ++ [c.kind] = numsC c := rfl
  rw [e7] at pn7
  have g7 := (pn7.get hlC).trans hc1
  have t1f : ∀ tm : T AV, tm.get 1 = some (.ptr h.next 0) → tm.get 3 = some (.ptr (h.next + 1) 0) → At33 h.next (h.next + 1) tm := fun tm x y => ⟨x, y⟩
  have vl := sc.cu.lenA
  rw [List.length_map] at vl
  by_cases k2 : c.kind = 2
  · have nn : 0 ≤ c.n ∧ c.n ≤ 64 := by rcases dom with ⟨a, _⟩ | ⟨_, b, _⟩ | ⟨a, _⟩ <;> omega
    have fn := F c.n (by omega) (by omega)
    have eD : numsD c = [c.n] := by unfold numsD; rw [if_pos k2]
    simp only [go_sem, ↓reduceIte, ↓reduceDIte, zA, zM, zL, zE, zD, yA, yE, yL, yQ, yT, reduceCtorEq, g7, k2, fn]
    refine opt_app1 pn7 (show 14 ≤ 100000000 by decide) fun w8 k8 pn8 => ?_
    have g8 := (pn8.get hlC).trans hc1
    simp only [go_sem, ↓reduceIte, ↓reduceDIte, zA, zM, zL, zE, zD, yA, yE, yL, yQ, yT, reduceCtorEq, g8, k2]
    exact hX _ _ h1 h.next (h.next + 1) cv pv kv st01 sc ⟨t1f _ (by simp [go_sem]) (by simp [go_sem]), w8, by simp [go_sem], by rw [eD]; exact pn8⟩
  · by_cases k3 : c.kind = 3
    · have fn := F (c.cuts.length : Int) (by omega) (by omega)
      have hasc : ascB 0 c.cuts = true := by rcases dom with ⟨a, _⟩ | ⟨a, _⟩ | ⟨_, _, _, _, b⟩ <;> first | exact b | (exfalso; omega)
      have eD : numsD c = (c.cuts.length : Int) :: diffs 0 c.cuts := by unfold numsD; rw [if_neg k2, if_pos k3]
      simp only [go_sem, ↓reduceIte, ↓reduceDIte, zA, zM, zL, zE, zD, yA, yE, yL, yQ, yT, reduceCtorEq, g7, k2, k3, vl, fn]
      refine opt_app1 pn7 (show 14 ≤ 100000000 by decide) fun w8 k8 pn8 => ?_
      simp only [go_sem, ↓reduceIte, ↓reduceDIte, zA, zM, zL, zE, zD, yA, yE, yL, yQ, yT, reduceCtorEq]
      refine loop_in (I33c h1 h.next (h.next + 1) (numsC c ++ [(c.cuts.length : Int)]) c.cuts) _ _ (fun k tm h hI => step33c P sc hcu (by show 15 ≤ 10000; decide) hcl k tm h hI) (fun tm9 h9 hR => ?_) (fun _ _ hh => hh.elim) c.cuts.length _ _
        ⟨t1f _ (by simp [go_sem]) (by simp [go_sem]), 0, 0, w8, _, by omega, by simp [go_sem], by simp [go_sem], by simp [go_sem], pn8, Int.le_refl _, hasc, rfl⟩
      refine hX _ _ h1 h.next (h.next + 1) cv pv kv st01 sc ?_
      rw [eD]
      have e9 : numsC c ++ [(c.cuts.length : Int)] ++ diffs 0 c.cuts = numsC c ++ (c.cuts.length : Int) :: diffs 0 c.cuts := by simp
      rw [e9] at hR
      exact hR
    · have eD : numsD c = [] := by unfold numsD; rw [if_neg k2, if_neg k3]
      simp only [go_sem, ↓reduceIte, ↓reduceDIte, zA, zM, zL, zE, zD, yA, yE, yL, yQ, yT, reduceCtorEq, g7, k2, k3]
      exact hX _ _ h1 h.next (h.next + 1) cv pv kv st01 sc ⟨t1f _ (by simp [go_sem]) (by simp [go_sem]), w7, by simp [go_sem], by rw [eD, List.append_nil]; exact pn7⟩
theorem w33 (P : Program) {call : CallE} (h55 : F55 call) (h56 : F56 call) (h57 : F57 call) {h : H} {v : AV} {c : CfgT} {ps : List (List OpT)} {ks : List Int} (hs : IsS h v c ps ks) (hchk : chkB c ps ks) (hop : ∀ p ∈ ps, ∀ x ∈ p, opR x) (hcu : ∀ x ∈ c.cuts, inU x) : WF P call c33 [v] h (Post33 (numsS c ps ks) h) := by
  have hcl : c.cuts.length ≤ 64 := by rcases hchk.1.2.2.2.2.2.2.2.1 with ⟨_, _, a⟩ | ⟨_, _, a⟩ | ⟨_, _, _, a, _⟩ <;> first | (rw [a]; exact Nat.zero_le _) | omega
  rw [c33_split, rWF]
  exact hd33_w P hs hchk hcu fun tm' h' h1 A C cv pv kv st sc hR => tl33_w P h55 h56 h57 st sc hchk hop hcl hR
end
end Go.Proofs.Ytnmlfhogolonoaa
