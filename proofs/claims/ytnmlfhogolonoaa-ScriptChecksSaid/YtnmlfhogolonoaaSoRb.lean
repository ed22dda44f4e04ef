/-
  Check of a script: the reference.
-/
import Derived.Test.YtnmlfhogolonoaaSoRa
set_option linter.unusedVariables false
set_option linter.unusedSimpArgs false
namespace Go.Proofs.Ytnmlfhogolonoaa
open Go.Proofs.Ytnmlfhogolonoaa.Eo
open Nat renaming reduceAdd → zA, reduceMul → zM, reduceLT → zL, reduceEqDiff → zE, reduceLeDiff → zD
open Int renaming reduceAdd → yA, reduceLE → yE, reduceLT → yL, reduceEq → yQ, reduceToNat → yT
noncomputable section
/-! 16: leapfrog/leapfrogref43.Check -/
@[go_sem] def c16_s0 : List SQ := [⟨some 1, none, .n (.box 31 (.t 0))⟩, ⟨some 2, none, .p (.mv (.c (.int .i64 0)))⟩]
@[go_sem] def c16_s1 : List SQ := [⟨some 5, none, .p (.fadr 0 (.t 1))⟩, ⟨some 6, none, .r (.ld (some 16) (.t 5))⟩, ⟨some 7, none, .cv (.c (.fn (.func 35) [] [])) [(.t 6)]⟩, ⟨some 8, none, .p (.bin .neq 35 false true (.t 7) (.c (.int .i64 0)))⟩, ⟨some 9, none, .p (.mv (.t 8))⟩, ⟨some 10, some (9, false), .p (.fadr 16 (.t 1))⟩, ⟨some 11, some (9, false), .r (.ld none (.t 10))⟩, ⟨some 12, some (9, false), .p (.lenv (.t 11))⟩, ⟨some 13, some (9, false), .p (.fadr 0 (.t 1))⟩, ⟨some 14, some (9, false), .p (.fadr 0 (.t 13))⟩, ⟨some 15, some (9, false), .r (.ld none (.t 14))⟩, ⟨some 16, some (9, false), .p (.bin .neq 3 false false (.t 12) (.t 15))⟩, ⟨some 17, none, .p (.pick (.t 9) (.c (.bool true)) (.t 16))⟩]
@[go_sem] def c16_s2 : List SQ := [⟨some 2, none, .p (.mv (.c (.int .i64 2)))⟩]
@[go_sem] def c16_s3 : List SQ := [⟨some 3, none, .p (.mv (.c (.int .i64 0)))⟩]
@[go_sem] def c16_s4 : List SQ := [⟨some 18, none, .p (.mv (.t 3))⟩, ⟨some 19, none, .p (.fadr 16 (.t 1))⟩, ⟨some 20, none, .r (.ld none (.t 19))⟩, ⟨some 21, none, .p (.lenv (.t 20))⟩, ⟨some 22, none, .p (.bin .lss 3 false false (.t 18) (.t 21))⟩]
@[go_sem] def c16_s5 : List SQ := [⟨some 25, none, .p (.fadr 16 (.t 1))⟩, ⟨some 26, none, .r (.ld none (.t 25))⟩, ⟨some 27, none, .p (.mv (.t 3))⟩, ⟨some 28, none, .p (.iadrS 1 (.t 26) (.t 27))⟩, ⟨some 29, none, .r (.ld none (.t 28))⟩, ⟨some 30, none, .p (.lenv (.t 29))⟩, ⟨some 31, none, .p (.bin .gtr 3 false true (.t 30) (.c (.int .i64 256)))⟩]
@[go_sem] def c16_s6 : List SQ := [⟨some 2, none, .p (.mv (.c (.int .i64 5)))⟩]
@[go_sem] def c16_s7 : List SQ := [⟨some 23, none, .p (.mv (.t 3))⟩, ⟨some 24, none, .p (.bin .add 3 false true (.t 23) (.c (.int .i64 1)))⟩, ⟨some 3, none, .p (.mv (.t 24))⟩]
def c16_l8 : CC := (.seq (.seq (.ops c16_s4) (.cond (.t 22) .skip (.exit 0))) (.seq (.block 1 (.seq (.ops c16_s5) (.cond (.t 31) (.seq (.ops c16_s6) .ret) .skip))) (.ops c16_s7)))
@[go_sem] def c16_s9 : List SQ := [⟨some 32, none, .p (.fadr 17 (.t 1))⟩, ⟨some 33, none, .r (.ld none (.t 32))⟩, ⟨some 34, none, .p (.lenv (.t 33))⟩, ⟨some 35, none, .p (.bin .gtr 3 false true (.t 34) (.c (.int .i64 65536)))⟩]
@[go_sem] def c16_s10 : List SQ := [⟨some 2, none, .p (.mv (.c (.int .i64 5)))⟩]
@[go_sem] def c16_s11 : List SQ := [⟨some 4, none, .p (.mv (.c (.int .i64 0)))⟩]
@[go_sem] def c16_s12 : List SQ := [⟨some 36, none, .p (.mv (.t 4))⟩, ⟨some 37, none, .p (.fadr 17 (.t 1))⟩, ⟨some 38, none, .r (.ld none (.t 37))⟩, ⟨some 39, none, .p (.lenv (.t 38))⟩, ⟨some 40, none, .p (.bin .lss 3 false false (.t 36) (.t 39))⟩]
@[go_sem] def c16_p13 : List (List DQ × Option DQ) := [([⟨0, [(1, none)], none, .p (.fadr 17 (.t 1))⟩, ⟨1, [(43, (some 0))], none, .r (.ld none (.t 43))⟩, ⟨2, [(4, none)], none, .p (.mv (.t 4))⟩, ⟨3, [(44, (some 1)), (45, (some 2))], none, .p (.iadrS 1 (.t 44) (.t 45))⟩, ⟨4, [(46, (some 3))], none, .r (.ld none (.t 46))⟩, ⟨5, [(47, (some 4))], none, .p (.bin .lss 3 false true (.t 47) (.c (.int .i64 0)))⟩, ⟨6, [(48, (some 5))], none, .p (.mv (.t 48))⟩, ⟨7, [(49, (some 6)), (1, none)], some (49, false), .p (.fadr 17 (.t 1))⟩, ⟨8, [(49, (some 6)), (50, (some 7))], some (49, false), .r (.ld none (.t 50))⟩, ⟨9, [(49, (some 6)), (4, none)], some (49, false), .p (.mv (.t 4))⟩, ⟨10, [(49, (some 6)), (51, (some 8)), (52, (some 9))], some (49, false), .p (.iadrS 1 (.t 51) (.t 52))⟩, ⟨11, [(49, (some 6)), (53, (some 10))], some (49, false), .r (.ld none (.t 53))⟩, ⟨12, [(49, (some 6)), (1, none)], some (49, false), .p (.fadr 0 (.t 1))⟩, ⟨13, [(49, (some 6)), (55, (some 12))], some (49, false), .p (.fadr 0 (.t 55))⟩, ⟨14, [(49, (some 6)), (56, (some 13))], some (49, false), .r (.ld none (.t 56))⟩, ⟨15, [(49, (some 6)), (54, (some 11)), (57, (some 14))], some (49, false), .p (.bin .geq 3 false false (.t 54) (.t 57))⟩, ⟨16, [(49, (some 6)), (58, (some 15))], none, .p (.pick (.t 49) (.c (.bool true)) (.t 58))⟩], none)]
@[go_sem] def c16_s14 : List SQ := [⟨some 2, none, .p (.mv (.c (.int .i64 3)))⟩]
@[go_sem] def c16_s15 : List SQ := [⟨some 41, none, .p (.mv (.t 4))⟩, ⟨some 42, none, .p (.bin .add 3 false true (.t 41) (.c (.int .i64 1)))⟩, ⟨some 4, none, .p (.mv (.t 42))⟩]
def c16_l16 : CC := (.seq (.seq (.ops c16_s12) (.cond (.t 40) .skip (.exit 2))) (.seq (.block 3 (.seq (.drw ⟨c16_p13, [(0, 43), (1, 44), (2, 45), (3, 46), (4, 47), (5, 48), (6, 49), (7, 50), (8, 51), (9, 52), (10, 53), (11, 54), (12, 55), (13, 56), (14, 57), (15, 58), (16, 59)], []⟩) (.cond (.t 59) (.seq (.ops c16_s14) .ret) .skip))) (.ops c16_s15)))
@[go_sem] def c16_s17 : List SQ := [⟨some 2, none, .p (.mv (.c (.int .i64 0)))⟩]
@[go_sem] def c16 : CF := ⟨1, (.seq (.ops c16_s0) (.seq (.seq (.ops c16_s1) (.cond (.t 17) (.seq (.ops c16_s2) .ret) .skip)) (.seq (.seq (.ops c16_s3) (.block 0 (.loop c16_l8))) (.seq (.seq (.ops c16_s9) (.cond (.t 35) (.seq (.ops c16_s10) .ret) .skip)) (.seq (.seq (.ops c16_s11) (.block 2 (.loop c16_l16))) (.seq (.ops c16_s17) .ret)))))), [.tmp 2]⟩
theorem c16_eq : cCF Try.prog 16 1 = some c16 := by kernel_rfl

def I16 (h0 : H) (a : Nat) (ps : List (List OpT)) (k : Nat) (tm : T AV) (h : H) : Prop :=
  h = h0 ∧ ∃ i : Nat, i + k = ps.length ∧ tm.get 1 = some (.ptr a 0) ∧ tm.get 3 = some (.int .i64 (i : Int)) ∧ ∀ j p, j < i → ps[j]? = some p → p.length ≤ 256
theorem step16 (P : Program) {call : CallE} {h0 : H} {A : Nat} {c : CfgT} {cv pv kv : AV} {vs : List AV} {ps : List (List OpT)} (gA : h0.t.get A = some (.row (putList 0 (cfgC c cv ++ [pv, kv]) T.e) 18 31)) (hv : RdL none 1 h0 pv vs) (hvl : vs.length = ps.length)
    (hve : ∀ (i : Nat) x p, vs[i]? = some x → ps[i]? = some p → RdL (some 7) 7 h0 x (p.map fun x => AV.agg (opC x))) (k : Nat) (tm : T AV) (h : H) (hI : I16 h0 A ps k tm h) :
    WC P call c16_l8 (loopQ 0 (fun tm h => ∃ j, j < k ∧ I16 h0 A ps j tm h) (fun tm h => h = h0 ∧ tm.get 1 = some (.ptr A 0) ∧ ∀ p ∈ ps, p.length ≤ 256) (fun tm h => h = h0 ∧ (¬ ∀ p ∈ ps, p.length ≤ 256) ∧ tm.get 2 = some (.int .i64 5))) tm h := by
  obtain ⟨rfl, i, hik, t1, t3, hpre⟩ := hI
  have hle := hv.le
  have pl := hv.lenA
  rw [hvl] at hle pl
  cases k with
  | zero =>
    have e1 : ¬ (i : Int) < (ps.length : Int) := by omega
    simp only [go_sem, ↓reduceIte, ↓reduceDIte, zA, zM, zL, zE, zD, yA, yE, yL, yQ, yT, reduceCtorEq, c16_l8, t1, t3, gA, pl, e1]
    intro p hp
    obtain ⟨j, hj, rfl⟩ := List.getElem_of_mem hp
    exact hpre j _ (by omega) (List.getElem?_eq_getElem hj)
  | succ k =>
    have e1 : (i : Int) < (ps.length : Int) := by omega
    have hi : i < ps.length := by omega
    have hiv : i < vs.length := by omega
    rcases hv with ⟨_, hh⟩ | ⟨a, o, cap, rfl, _, ra⟩
    · subst hh; simp at hiv
    have ha := ra i vs[i] (by simp [hiv])
    have hpl := (hve i vs[i] ps[i] (by simp [hiv]) (by simp [hi])).lenA
    rw [List.length_map] at hpl
    rw [hvl] at gA pl
    rw [rLdA, Nat.mul_one] at ha
    have f1 : fw .i64 ((i : Int) + 1) = (i : Int) + 1 := fwI (by omega) (by omega)
    have e3 : ((i + 1 : Nat) : Int) = (i : Int) + 1 := rfl
    simp only [go_sem, ↓reduceIte, ↓reduceDIte, zA, zM, zL, zE, zD, yA, yE, yL, yQ, yT, reduceCtorEq, c16_l8, t1, t3, gA, pl, e1, Nat.mul_one, ha, hpl]
    by_cases hx : (256 : Int) < (ps[i].length : Int)
    · simp only [go_sem, ↓reduceIte, ↓reduceDIte, zA, zM, zL, zE, zD, yA, yE, yL, yQ, yT, reduceCtorEq, hx]
      intro hh
      have := hh ps[i] (List.getElem_mem hi)
      omega
    · simp only [go_sem, ↓reduceIte, ↓reduceDIte, zA, zM, zL, zE, zD, yA, yE, yL, yQ, yT, reduceCtorEq, hx, t3, f1]
      refine ⟨k, Nat.lt_succ_self k, rfl, i + 1, by omega, by simp [go_sem, t1], by simp [go_sem, e3], fun j p hj hp => ?_⟩
      by_cases hj2 : j = i
      · subst hj2
        rw [List.getElem?_eq_getElem hi] at hp
        simp only [Option.some.injEq] at hp
        subst hp
        omega
      · exact hpre j p (by omega) hp
def J16 (h0 : H) (a : Nat) (ks : List Int) (n : Int) (k : Nat) (tm : T AV) (h : H) : Prop :=
  h = h0 ∧ ∃ i : Nat, i + k = ks.length ∧ tm.get 1 = some (.ptr a 0) ∧ tm.get 4 = some (.int .i64 (i : Int)) ∧ ∀ j p, j < i → ks[j]? = some p → 0 ≤ p ∧ p < n
theorem step16k (P : Program) {call : CallE} {h0 : H} {A : Nat} {c : CfgT} {cv pv kv : AV} {ks : List Int} (hv : RdL none 1 h0 kv (ks.map fun x : Int => AV.int .i64 x))
    (gA : h0.t.get A = some (.row (putList 0 (cfgC c cv ++ [pv, kv]) T.e) 18 31)) (k : Nat) (tm : T AV) (h : H) (hI : J16 h0 A ks c.threads k tm h) :
    WC P call c16_l16 (loopQ 2 (fun tm h => ∃ j, j < k ∧ J16 h0 A ks c.threads j tm h) (fun tm h => h = h0 ∧ ∀ k ∈ ks, 0 ≤ k ∧ k < c.threads) (fun tm h => h = h0 ∧ (¬ ∀ k ∈ ks, 0 ≤ k ∧ k < c.threads) ∧ tm.get 2 = some (.int .i64 3))) tm h := by
  obtain ⟨rfl, i, hik, t1, t4, hpre⟩ := hI
  have hle := hv.le
  have pl := hv.lenA
  rw [List.length_map] at hle pl
  cases k with
  | zero =>
    have e1 : ¬ (i : Int) < (ks.length : Int) := by omega
    simp only [go_sem, ↓reduceIte, ↓reduceDIte, zA, zM, zL, zE, zD, yA, yE, yL, yQ, yT, reduceCtorEq, c16_l16, t1, t4, gA, pl, e1]
    intro p hp
    obtain ⟨j, hj, rfl⟩ := List.getElem_of_mem hp
    exact hpre j _ (by omega) (List.getElem?_eq_getElem hj)
  | succ k =>
    have e1 : (i : Int) < (ks.length : Int) := by omega
    have hi : i < ks.length := by omega
    rcases hv with ⟨_, hh⟩ | ⟨a', o, cap, rfl, _, ra⟩
    · rw [List.map_eq_nil_iff] at hh; subst hh; simp at hi
    have ha := ra i (.int .i64 ks[i]) (by simp [hi])
    rw [List.length_map] at gA pl
    rw [rLdA, Nat.mul_one] at ha
    have f1 : fw .i64 ((i : Int) + 1) = (i : Int) + 1 := fwI (by omega) (by omega)
    have e3 : ((i + 1 : Nat) : Int) = (i : Int) + 1 := rfl
    by_cases hx : ks[i] < 0
    · simp only [go_sem, ↓reduceIte, ↓reduceDIte, zA, zM, zL, zE, zD, yA, yE, yL, yQ, yT, reduceCtorEq, c16_l16, t1, t4, gA, pl, e1, Nat.mul_one, ha, hx]
      intro hh
      have := hh ks[i] (List.getElem_mem hi)
      omega
    by_cases hy : ks[i] < c.threads
    · simp only [go_sem, ↓reduceIte, ↓reduceDIte, zA, zM, zL, zE, zD, yA, yE, yL, yQ, yT, reduceCtorEq, c16_l16, t1, t4, gA, pl, e1, Nat.mul_one, ha, hx, hy, f1]
      refine ⟨k, Nat.lt_succ_self k, rfl, i + 1, by omega, by simp [go_sem, t1], by simp [go_sem, e3], fun j p hj hp => ?_⟩
      by_cases hj2 : j = i
      · subst hj2
        rw [List.getElem?_eq_getElem hi] at hp
        simp only [Option.some.injEq] at hp
        subst hp
        omega
      · exact hpre j p (by omega) hp
    · simp only [go_sem, ↓reduceIte, ↓reduceDIte, zA, zM, zL, zE, zD, yA, yE, yL, yQ, yT, reduceCtorEq, c16_l16, t1, t4, gA, pl, e1, Nat.mul_one, ha, hx, hy]
      intro hh
      have := hh ks[i] (List.getElem_mem hi)
      omega
set_option maxRecDepth 4000 in
theorem w16 (P : Program) {call : CallE} (h35 : ∀ h (c : CfgT) v, RdL none 1 h v (c.cuts.map fun x : Int => AV.int .u64 x) → (∀ a, own v = some a → a < h.next) → (∀ x ∈ c.cuts, inU x) → ∃ v' h', call 35 [.agg (cfgC c v)] h = some (v', h') ∧ SaysE (layB c) h v' h')
    {h : H} {v : AV} {c : CfgT} {ps : List (List OpT)} {ks : List Int} (hs : IsS h v c ps ks) (hin : ∀ x ∈ c.cuts, inU x) : WF P call c16 [v] h (SaysX (chkE c ps ks) h) := by
  obtain ⟨cv, pv, kv, rfl, h1, h2, h3, h4, h5⟩ := hs
  have ov := h1.one
  have opa := h3.one
  have oka := h4.one
  have st : ∀ x, StepN h ⟨h.next + 1, h.t.set h.next x⟩ := fun x => StepN.new h x
  simp only [go_sem, ↓reduceIte, ↓reduceDIte, zA, zM, zL, zE, zD, yA, yE, yL, yQ, yT, reduceCtorEq, c16, ov, opa, oka]
  refine opt_by (h35 _ c cv (h1.keep fun b hb => (st _).old b (h2 b hb)) (fun x hx => Nat.lt_of_lt_of_le (h2 x hx) (st _).next) hin) fun v1 h' p1 => ?_
  obtain ⟨e, rfl, he, st1⟩ := p1
  have stn := (st _).trans st1
  have g0 := st1.old h.next (by show h.next < h.next + 1; omega)
  simp only [go_sem, ↓reduceIte, ↓reduceDIte, zA, zM, zL, zE, zD, yA, yE, yL, yQ, yT, reduceCtorEq] at g0
  have bad : ∀ (x : Int), chkE c ps ks = x → SaysX (chkE c ps ks) h (.int .i64 x) h' := fun x hx => ⟨by rw [hx], stn⟩
  have h3' := h3.keep stn
  have h4' := h4.keep fun b hb => stn.old b (h5 b hb)
  obtain ⟨vs, p1, p2, p3, p4, p5⟩ := h3'
  have pl := p1.lenA
  have kl := h4'.lenA
  rw [p2] at pl
  rw [List.length_map] at kl
  by_cases d0 : e = 0
  case neg =>
    simp only [go_sem, ↓reduceIte, ↓reduceDIte, zA, zM, zL, zE, zD, yA, yE, yL, yQ, yT, reduceCtorEq, d0, g0]
    exact bad _ (chkE_2 fun hh => d0 (he.2 hh.1))
  by_cases d1 : (ps.length : Int) = c.threads
  case neg =>
    simp only [go_sem, ↓reduceIte, ↓reduceDIte, zA, zM, zL, zE, zD, yA, yE, yL, yQ, yT, reduceCtorEq, d0, g0, pl, cfgC, d1]
    exact bad _ (chkE_2 fun hh => d1 hh.2)
  simp only [go_sem, ↓reduceIte, ↓reduceDIte, zA, zM, zL, zE, zD, yA, yE, yL, yQ, yT, reduceCtorEq, d0, g0, pl, cfgC, d1]
  refine loop_in (I16 h' h.next ps) _ _ (fun k tm h'' hI => step16 P g0 p1 p2 p3 k tm h'' hI) (fun tm2 h2 hR => ?_) (fun tm2 h2 hS => ?_) ps.length _ _
    ⟨rfl, 0, by omega, by simp [go_sem], by simp [go_sem], fun j p hj => by omega⟩
  · obtain ⟨rfl, t1, hp⟩ := hR
    by_cases d2 : (65536 : Int) < (ks.length : Int)
    · simp only [go_sem, ↓reduceIte, ↓reduceDIte, zA, zM, zL, zE, zD, yA, yE, yL, yQ, yT, reduceCtorEq, t1, g0, kl, cfgC, d2]
      exact bad _ (chkE_5 ⟨he.1 d0, d1⟩ fun hh => by have := hh.2; omega)
    simp only [go_sem, ↓reduceIte, ↓reduceDIte, zA, zM, zL, zE, zD, yA, yE, yL, yQ, yT, reduceCtorEq, t1, g0, kl, cfgC, d2]
    refine loop_in (J16 h2 h.next ks c.threads) _ _ (fun k tm h'' hI => step16k P h4' g0 k tm h'' hI) (fun tm3 h3 hR => ?_) (fun tm3 h3 hS => ?_) ks.length _ _
      ⟨rfl, 0, by omega, by simp [go_sem, t1], by simp [go_sem], fun j p hj => by omega⟩
    · obtain ⟨rfl, hk⟩ := hR
      simp only [go_sem, ↓reduceIte, ↓reduceDIte, zA, zM, zL, zE, zD, yA, yE, yL, yQ, yT, reduceCtorEq]
      exact bad _ (chkE_iff.2 ⟨he.1 d0, d1, hp, by omega, hk⟩)
    · obtain ⟨rfl, hk, t2⟩ := hS
      simp only [go_sem, ↓reduceIte, ↓reduceDIte, zA, zM, zL, zE, zD, yA, yE, yL, yQ, yT, reduceCtorEq, t2]
      exact bad _ (chkE_3 ⟨he.1 d0, d1⟩ ⟨hp, by omega⟩ hk)
  · obtain ⟨rfl, hp, t2⟩ := hS
    simp only [go_sem, ↓reduceIte, ↓reduceDIte, zA, zM, zL, zE, zD, yA, yE, yL, yQ, yT, reduceCtorEq, t2]
    exact bad _ (chkE_5 ⟨he.1 d0, d1⟩ fun hh => hp hh.1)
end
end Go.Proofs.Ytnmlfhogolonoaa
