/-
  The bytes of the programs and of the runs: parts of Encode.
-/
import Derived.Test.YtnmlfhogolonoaaSoQ
set_option linter.unusedVariables false
set_option linter.unusedSimpArgs false
namespace Go.Proofs.Ytnmlfhogolonoaa
open Go.Proofs.Ytnmlfhogolonoaa.Eo
open Nat renaming reduceAdd → zA, reduceMul → zM, reduceLT → zL, reduceEqDiff → zE, reduceLeDiff → zD
open Int renaming reduceAdd → yA, reduceLE → yE, reduceLT → yL, reduceEq → yQ, reduceToNat → yT
noncomputable section
def encP (p : List OpT) : List Int := pI (p.length : Int) ++ p.flatMap encO
theorem encP_len {p : List OpT} (hp : ∀ x ∈ p, opR x) (hl : p.length ≤ 256) : (encP p).length ≤ 20490 := by
  have h1 := pI_len (x := (p.length : Int)) (by omega)
  have h2 := encOs_len hp
  unfold encP
  rw [List.length_append]
  omega
theorem encPs_len {ps : List (List OpT)} (hp : ∀ p ∈ ps, (∀ x ∈ p, opR x) ∧ p.length ≤ 256) : (ps.flatMap encP).length ≤ 20490 * ps.length := by
  induction ps with
  | nil => exact Nat.le_refl _
  | cons x l ih =>
    have h1 := ih fun y hy => hp y (List.mem_cons_of_mem _ hy)
    have h2 := hp x (List.mem_cons_self ..)
    have h3 := encP_len h2.1 h2.2
    rw [List.flatMap_cons, List.length_append, List.length_cons]
    omega
def I56 (h1 : H) (bs1 : List Int) (A : Nat) (pv : AV) (ps : List (List OpT)) (k : Nat) (tm : T AV) (h : H) : Prop :=
  ∃ (q : Nat) (w : AV), q + k = ps.length ∧ T0 A pv (ps.length : Int) (q : Int) tm ∧ tm.get 6 = some w ∧ PB h1 .nils (bs1 ++ (ps.take q).flatMap encP) h w
set_option maxRecDepth 4000 in
theorem step56 (P : Program) {call : CallE} (h27 : PutF call 27 .i64) (h28 : PutF call 28 .u8) (h29 : PutF call 29 .u64) (h30 : F30 call) {h1 : H} {bs1 : List Int} {A : Nat} {pv : AV} {ps : List (List OpT)} (hps : RdP h1 pv ps) (hp : ∀ p ∈ ps, (∀ x ∈ p, opR x) ∧ p.length ≤ 256) (hpl : ps.length ≤ 64) (hlen : bs1.length ≤ 10000) (k : Nat) (tm : T AV) (h : H) (hI : I56 h1 bs1 A pv ps k tm h) :
    WC P call c13_l56 (loopQ 5 (fun tm h => ∃ m, m < k ∧ I56 h1 bs1 A pv ps m tm h) (fun tm h => tm.get 1 = some (.ptr A 0) ∧ ∃ w, tm.get 6 = some w ∧ PB h1 .nils (bs1 ++ ps.flatMap encP) h w) (fun _ _ => False)) tm h := by
  obtain ⟨q, w, hq, ⟨t1, t103, t104, t105⟩, t6, pb⟩ := hI
  cases k with
  | zero =>
    have e1 : ¬ (q : Int) < (ps.length : Int) := by omega
    simp only [go_sem, ↓reduceIte, ↓reduceDIte, zA, zM, zL, zE, zD, yA, yE, yL, yQ, yT, reduceCtorEq, c13_l56, t104, t105, e1, t1, t6]
    refine ⟨w, rfl, ?_⟩
    rw [List.take_of_length_le (by omega)] at pb
    exact pb
  | succ k =>
    have e1 : (q : Int) < (ps.length : Int) := by omega
    have hi : q < ps.length := by omega
    obtain ⟨hx, hxl⟩ := hp ps[q] (List.getElem_mem hi)
    obtain ⟨vs, p1, p2, p3, p4, p5⟩ := hps
    have hiv : q < vs.length := by omega
    have r1 := p1.keep (h' := h) fun b hb => pb.get (p4 b hb) (by simp [own])
    rcases r1 with ⟨_, hh⟩ | ⟨a, o, cap, rfl, _, ra⟩
    · subst hh; simp at hiv
    have ha := ra q vs[q] (by simp [hiv])
    rw [rLdA, Nat.mul_one] at ha
    have rp := p3 q vs[q] ps[q] (by simp [hiv]) (by simp [hi])
    have rpk := p5 q vs[q] (by simp [hiv])
    have lp := rp.lenA
    have op := rp.one
    rw [List.length_map] at lp
    have t103' := t103
    rw [p2] at t103'
    have hlt := encPs_len (ps := ps.take q) fun x hx => hp x (List.mem_of_mem_take hx)
    rw [List.length_take] at hlt
    have f1 : fw .i64 ((q : Int) + 1) = (q : Int) + 1 := fwI (by omega) (by omega)
    have e3 : ((q + 1 : Nat) : Int) = (q : Int) + 1 := rfl
    have pl := pI_len (x := (ps[q].length : Int)) (by omega)
    generalize hB0 : bs1 ++ (ps.take q).flatMap encP = B0 at pb
    have hB0l : B0.length ≤ bs1.length + 20490 * q := by rw [← hB0, List.length_append]; omega
    simp only [go_sem, ↓reduceIte, ↓reduceDIte, zA, zM, zL, zE, zD, yA, yE, yL, yQ, yT, reduceCtorEq, c13_l56, t6, t103', t104, t105, e1, Nat.mul_one, ha, lp, op]
    refine opt_by (h27 h w B0 (ps[q].length : Int) pb.ow (by omega) (by omega) (by omega)) fun v1 h' pb1 => ?_
    simp only [go_sem, ↓reduceIte, ↓reduceDIte, zA, zM, zL, zE, zD, yA, yE, yL, yQ, yT, reduceCtorEq, lp]
    refine loop_in (I54 h1 (B0 ++ pI (ps[q].length : Int)) A (.sl a o vs.length 1 cap) (ps.length : Int) (q : Int) vs[q] ps[q]) _ _ (fun k tm h hI => step54 P h27 h28 h29 h30 rp rpk hx (by rw [List.length_append]; omega) k tm h hI) (fun tm2 h2 hR => ?_) (fun _ _ hh => hh.elim) ps[q].length _ _
      ⟨by simp [go_sem, T0, t1, t103, t104, t105], 0, v1, by omega, by simp [go_sem, T1], by simp [go_sem], by rw [List.take_zero, List.flatMap_nil, List.append_nil]; exact pb.trans pb1⟩
    obtain ⟨⟨t1, t103, t104, t105⟩, w5, t6, pb5⟩ := hR
    simp only [go_sem, ↓reduceIte, ↓reduceDIte, zA, zM, zL, zE, zD, yA, yE, yL, yQ, yT, reduceCtorEq, t105, f1]
    refine ⟨k, Nat.lt_succ_self k, q + 1, w5, by omega, by simp [go_sem, T0, t1, t103, t104, e3], by simp [go_sem, t6], ?_⟩
    have eB : bs1 ++ (ps.take (q + 1)).flatMap encP = B0 ++ pI (ps[q].length : Int) ++ ps[q].flatMap encO := by
      rw [List.take_succ_eq_append_getElem hi, List.flatMap_append, ← List.append_assoc, hB0]
      simp [encP]
    rw [eB]
    exact pb5
/-! ### The runs -/
def encR (r : List (Int × Int)) : List Int := r.flatMap fun p => pI p.1 ++ pI p.2
theorem encR_len {r : List (Int × Int)} (h : ∀ p ∈ r, p.1 < 18446744073709551616 ∧ p.2 < 18446744073709551616) : (encR r).length ≤ 20 * r.length := by
  induction r with
  | nil => exact Nat.le_refl _
  | cons x l ih =>
    have h1 := ih fun y hy => h y (List.mem_cons_of_mem _ hy)
    have h2 := h x (List.mem_cons_self ..)
    have h3 := pI_len h2.1
    have h4 := pI_len h2.2
    unfold encR at h1 ⊢
    rw [List.flatMap_cons, List.length_append, List.length_append, List.length_cons]
    omega
abbrev runV (r : List (Int × Int)) : List AV := r.map fun p => .agg [.int .i64 p.1, .int .i64 p.2]
theorem runC_get : ∀ (l : List (Int × Int)) (i : Nat) (x : Int × Int), l[i]? = some x → ((runC l).drop (i * 2)).take 2 = [.int .i64 x.1, .int .i64 x.2] ∧ i * 2 + 2 ≤ (runC l).length
  | [], i, x, h => by simp at h
  | y :: l, 0, x, h => by
    simp at h; subst h
    exact ⟨rfl, by rw [runC_len, List.length_cons]; omega⟩
  | y :: l, i + 1, x, h => by
    obtain ⟨h1, h2⟩ := runC_get l i x (by simpa using h)
    have e : (i + 1) * 2 = 2 + i * 2 := by omega
    have e2 : runC (y :: l) = [.int .i64 y.1, .int .i64 y.2] ++ runC l := rfl
    refine ⟨?_, ?_⟩
    · rw [e2, e, ← List.drop_drop]
      exact h1
    · rw [e2, List.length_append]; simp; omega
theorem Own.rdl2 {e : TypeId} {h : H} {v : AV} {l : List (Int × Int)} (o : Own 2 e h v l.length (runC l)) (hl : l.length ≤ 281474976710656) : RdL (some 2) 2 h v (runV l) := by
  generalize hcs : runC l = cs at o
  generalize hlen : l.length = n at o
  cases o with
  | nil =>
    have : l = [] := List.length_eq_zero_iff.1 hlen
    subst this
    exact .inl ⟨rfl, rfl⟩
  | sl a len cs cap hc h0 hlen2 ha hg =>
    refine .inr ⟨a, 0, cap, by rw [List.length_map, hlen], by rw [List.length_map]; exact hl, fun i x hi => ?_⟩
    rw [List.getElem?_map] at hi
    cases hx : l[i]? with
    | none => rw [hx] at hi; cases hi
    | some y =>
      rw [hx] at hi
      simp only [Option.map_some, Option.some.injEq] at hi
      obtain ⟨g1, g2⟩ := runC_get l i y hx
      rw [hcs] at g1 g2
      rw [rLdA, hg, rBoth1, rLdOn, Nat.zero_add, rowList _ _ _ g2, rBoth1, g1, ← hi]
def I64 (h2 : H) (w2 : AV) (bs2 : List Int) (u : AV) (r : List (Int × Int)) (k : Nat) (tm : T AV) (h : H) : Prop :=
  ∃ (q : Nat) (w : AV), q + k = r.length ∧ tm.get 167 = some u ∧ tm.get 168 = some (.int .i64 (r.length : Int)) ∧ tm.get 169 = some (.int .i64 (q : Int)) ∧ tm.get 6 = some w ∧ PB h2 w2 (bs2 ++ encR (r.take q)) h w
set_option maxRecDepth 4000 in
theorem step64 (P : Program) {call : CallE} (h27 : PutF call 27 .i64) {h2 : H} {w2 : AV} {bs2 : List Int} {u : AV} {r : List (Int × Int)} (hu : RdL (some 2) 2 h2 u (runV r)) (huk : ∀ a, own u = some a → a < h2.next ∧ own w2 ≠ some a)
    (hr : ∀ p ∈ r, (0 ≤ p.1 ∧ p.1 < 18446744073709551616) ∧ (0 ≤ p.2 ∧ p.2 < 18446744073709551616)) (hrl : r.length ≤ 65536) (hlen : bs2.length ≤ 10000000) (k : Nat) (tm : T AV) (h : H) (hI : I64 h2 w2 bs2 u r k tm h) :
    WC P call c13_l64 (loopQ 13 (fun tm h => ∃ m, m < k ∧ I64 h2 w2 bs2 u r m tm h) (fun tm h => ∃ w, tm.get 6 = some w ∧ PB h2 w2 (bs2 ++ encR r) h w) (fun _ _ => False)) tm h := by
  obtain ⟨q, w, hq, t167, t168, t169, t6, pb⟩ := hI
  cases k with
  | zero =>
    have e1 : ¬ (q : Int) < (r.length : Int) := by omega
    simp only [go_sem, ↓reduceIte, ↓reduceDIte, zA, zM, zL, zE, zD, yA, yE, yL, yQ, yT, reduceCtorEq, c13_l64, t168, t169, e1, t6]
    refine ⟨w, rfl, ?_⟩
    rw [List.take_of_length_le (by omega)] at pb
    exact pb
  | succ k =>
    have e1 : (q : Int) < (r.length : Int) := by omega
    have hi : q < r.length := by omega
    have hx := hr r[q] (List.getElem_mem hi)
    have hle := hu.le
    have r1 := hu.keep (h' := h) fun b hb => pb.get (huk b hb).1 (huk b hb).2
    rcases r1 with ⟨_, hh⟩ | ⟨a, o, cap, rfl, _, ra⟩
    · rw [List.map_eq_nil_iff] at hh; subst hh; simp at hi
    have ha := ra q (.agg [.int .i64 r[q].1, .int .i64 r[q].2]) (by simp [hi])
    rw [rLdA] at ha
    have t167' := t167
    rw [List.length_map] at t167' hle
    have hlt := encR_len (r := r.take q) fun x hx => ⟨(hr x (List.mem_of_mem_take hx)).1.2, (hr x (List.mem_of_mem_take hx)).2.2⟩
    rw [List.length_take] at hlt
    have f1 : fw .i64 ((q : Int) + 1) = (q : Int) + 1 := fwI (by omega) (by omega)
    have e3 : ((q + 1 : Nat) : Int) = (q : Int) + 1 := rfl
    have pl := pI_len hx.1.2
    generalize hB0 : bs2 ++ encR (r.take q) = B0 at pb
    have hB0l : B0.length ≤ bs2.length + 20 * q := by rw [← hB0, List.length_append]; omega
    have hwD : own w ≠ some h.next := fun hh => by have := pb.ow.lt hh; omega
    have pb0 := pb.stepN (StepN.new h (.row (putList 0 [.int .i64 r[q].1, .int .i64 r[q].2] T.e) 2 62))
    simp only [go_sem, ↓reduceIte, ↓reduceDIte, zA, zM, zL, zE, zD, yA, yE, yL, yQ, yT, reduceCtorEq, c13_l64, t6, t167', t168, t169, e1, ha]
    have gD : (⟨h.next + 1, h.t.set h.next (.row (putList 0 [.int .i64 r[q].1, .int .i64 r[q].2] T.e) 2 62)⟩ : H).t.get h.next = some (rowL [.int .i64 r[q].1, .int .i64 r[q].2] 62) := by simp only [go_sem, ↓reduceIte, ↓reduceDIte, zA, zM, zL, zE, zD, yA, yE, yL, yQ, yT, reduceCtorEq]; rfl
    have hDn : h.next < (⟨h.next + 1, h.t.set h.next (.row (putList 0 [.int .i64 r[q].1, .int .i64 r[q].2] T.e) 2 62)⟩ : H).next := Nat.lt_succ_self _
    generalize (⟨h.next + 1, h.t.set h.next (.row (putList 0 [.int .i64 r[q].1, .int .i64 r[q].2] T.e) 2 62)⟩ : H) = hx0 at pb0 gD hDn ⊢
    generalize h.next = D at hwD gD hDn ⊢
    refine opt_by (h27 hx0 w B0 r[q].1 pb0.ow hx.1.1 hx.1.2 (by omega)) fun v1 h' pb1 => ?_
    have gD2 := (pb1.get hDn hwD).trans gD
    simp only [go_sem, ↓reduceIte, ↓reduceDIte, zA, zM, zL, zE, zD, yA, yE, yL, yQ, yT, reduceCtorEq, gD, gD2]
    refine ⟨pb1.gr.next, ?_⟩
    refine opt_by (h27 h' v1 _ r[q].2 pb1.ow hx.2.1 hx.2.2 (by rw [List.length_append]; omega)) fun v3 h3 pb3 => ?_
    simp only [go_sem, ↓reduceIte, ↓reduceDIte, zA, zM, zL, zE, zD, yA, yE, yL, yQ, yT, reduceCtorEq, t169, f1]
    refine ⟨pb3.gr.next, by simp [go_sem, gD2], k, Nat.lt_succ_self k, q + 1, v3, by omega, by simp [go_sem, t167], by simp [go_sem, t168], by simp [go_sem, e3], by simp [go_sem], ?_⟩
    have eB : bs2 ++ encR (r.take (q + 1)) = B0 ++ pI r[q].1 ++ pI r[q].2 := by
      rw [List.take_succ_eq_append_getElem hi, encR, List.flatMap_append, ← List.append_assoc]
      rw [encR] at hB0
      rw [hB0]
      simp
    rw [eB]
    exact (pb0.trans pb1).trans pb3
end
end Go.Proofs.Ytnmlfhogolonoaa
