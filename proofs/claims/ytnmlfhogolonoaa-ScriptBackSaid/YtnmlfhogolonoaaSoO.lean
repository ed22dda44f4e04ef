/-
  Checks of a script.
-/
import Derived.Test.YtnmlfhogolonoaaSoN
import Derived.Test.YtnmlfhogolonoaaSoHa
set_option linter.unusedVariables false
set_option linter.unusedSimpArgs false
namespace Go.Proofs.Ytnmlfhogolonoaa
open Go.Proofs.Ytnmlfhogolonoaa.Eo
open Nat renaming reduceAdd → zA, reduceMul → zM, reduceLT → zL, reduceEqDiff → zE, reduceLeDiff → zD
open Int renaming reduceAdd → yA, reduceLE → yE, reduceLT → yL, reduceEq → yQ, reduceToNat → yT
noncomputable section
/-! 15: leapfrog/script.Check -/
@[go_sem] def c15_s0 : List SQ := [⟨some 1, none, .n (.box 31 (.t 0))⟩, ⟨some 2, none, .p (.mv (.c (.int .i64 0)))⟩]
@[go_sem] def c15_s1 : List SQ := [⟨some 7, none, .p (.fadr 0 (.t 1))⟩, ⟨some 8, none, .r (.ld (some 16) (.t 7))⟩, ⟨some 9, none, .cv (.c (.fn (.func 34) [] [])) [(.t 8)]⟩, ⟨some 10, none, .p (.bin .neq 35 false true (.t 9) (.c (.int .i64 0)))⟩, ⟨some 11, none, .p (.mv (.t 10))⟩, ⟨some 12, some (11, false), .p (.fadr 16 (.t 1))⟩, ⟨some 13, some (11, false), .r (.ld none (.t 12))⟩, ⟨some 14, some (11, false), .p (.lenv (.t 13))⟩, ⟨some 15, some (11, false), .p (.fadr 0 (.t 1))⟩, ⟨some 16, some (11, false), .p (.fadr 0 (.t 15))⟩, ⟨some 17, some (11, false), .r (.ld none (.t 16))⟩, ⟨some 18, some (11, false), .p (.bin .neq 3 false false (.t 14) (.t 17))⟩, ⟨some 19, none, .p (.pick (.t 11) (.c (.bool true)) (.t 18))⟩]
@[go_sem] def c15_s2 : List SQ := [⟨some 2, none, .p (.mv (.c (.int .i64 2)))⟩]
@[go_sem] def c15_s3 : List SQ := [⟨some 20, none, .p (.fadr 16 (.t 1))⟩, ⟨some 21, none, .r (.ld none (.t 20))⟩, ⟨some 22, none, .p (.lenv (.t 21))⟩, ⟨some 23, none, .p (.mv (.c (.int .i64 0)))⟩]
@[go_sem] def c15_s4 : List SQ := [⟨some 24, none, .p (.bin .lss 3 false false (.t 23) (.t 22))⟩]
@[go_sem] def c15_s5 : List SQ := [⟨some 25, none, .p (.iadrS 1 (.t 21) (.t 23))⟩, ⟨some 26, none, .r (.ld none (.t 25))⟩, ⟨some 4, none, .p (.mv (.t 26))⟩]
@[go_sem] def c15_s6 : List SQ := [⟨some 27, none, .p (.mv (.t 4))⟩, ⟨some 28, none, .p (.lenv (.t 27))⟩, ⟨some 29, none, .p (.bin .gtr 3 false true (.t 28) (.c (.int .i64 256)))⟩]
@[go_sem] def c15_s7 : List SQ := [⟨some 2, none, .p (.mv (.c (.int .i64 5)))⟩]
@[go_sem] def c15_s8 : List SQ := [⟨some 30, none, .p (.bin .add 3 false true (.t 23) (.c (.int .i64 1)))⟩, ⟨some 23, none, .p (.mv (.t 30))⟩]
def c15_l9 : CC := (.seq (.ops c15_s4) (.seq (.cond (.t 24) .skip (.exit 0)) (.seq (.block 1 (.seq (.ops c15_s5) (.seq (.ops c15_s6) (.cond (.t 29) (.seq (.ops c15_s7) .ret) .skip)))) (.ops c15_s8))))
@[go_sem] def c15_s10 : List SQ := [⟨some 31, none, .p (.fadr 17 (.t 1))⟩, ⟨some 32, none, .r (.ld none (.t 31))⟩, ⟨some 33, none, .p (.lenv (.t 32))⟩, ⟨some 34, none, .p (.bin .gtr 3 false true (.t 33) (.c (.int .i64 65536)))⟩]
@[go_sem] def c15_s11 : List SQ := [⟨some 2, none, .p (.mv (.c (.int .i64 5)))⟩]
@[go_sem] def c15_s12 : List SQ := [⟨some 35, none, .p (.fadr 17 (.t 1))⟩, ⟨some 36, none, .r (.ld none (.t 35))⟩, ⟨some 37, none, .p (.lenv (.t 36))⟩, ⟨some 38, none, .p (.mv (.c (.int .i64 0)))⟩]
@[go_sem] def c15_s13 : List SQ := [⟨some 39, none, .p (.bin .lss 3 false false (.t 38) (.t 37))⟩]
@[go_sem] def c15_s14 : List SQ := [⟨some 40, none, .p (.iadrS 1 (.t 36) (.t 38))⟩, ⟨some 41, none, .r (.ld none (.t 40))⟩, ⟨some 6, none, .p (.mv (.t 41))⟩]
@[go_sem] def c15_s15 : List SQ := [⟨some 42, none, .p (.mv (.t 6))⟩, ⟨some 43, none, .p (.bin .lss 3 false true (.t 42) (.c (.int .i64 0)))⟩, ⟨some 44, none, .p (.mv (.t 43))⟩, ⟨some 45, some (44, false), .p (.mv (.t 6))⟩, ⟨some 46, some (44, false), .p (.fadr 0 (.t 1))⟩, ⟨some 47, some (44, false), .p (.fadr 0 (.t 46))⟩, ⟨some 48, some (44, false), .r (.ld none (.t 47))⟩, ⟨some 49, some (44, false), .p (.bin .geq 3 false false (.t 45) (.t 48))⟩, ⟨some 50, none, .p (.pick (.t 44) (.c (.bool true)) (.t 49))⟩]
@[go_sem] def c15_s16 : List SQ := [⟨some 2, none, .p (.mv (.c (.int .i64 3)))⟩]
@[go_sem] def c15_s17 : List SQ := [⟨some 51, none, .p (.bin .add 3 false true (.t 38) (.c (.int .i64 1)))⟩, ⟨some 38, none, .p (.mv (.t 51))⟩]
def c15_l18 : CC := (.seq (.ops c15_s13) (.seq (.cond (.t 39) .skip (.exit 2)) (.seq (.block 3 (.seq (.ops c15_s14) (.seq (.ops c15_s15) (.cond (.t 50) (.seq (.ops c15_s16) .ret) .skip)))) (.ops c15_s17))))
@[go_sem] def c15_s19 : List SQ := [⟨some 2, none, .p (.mv (.c (.int .i64 0)))⟩]
@[go_sem] def c15 : CF := ⟨1, (.seq (.ops c15_s0) (.seq (.seq (.ops c15_s1) (.cond (.t 19) (.seq (.ops c15_s2) .ret) .skip)) (.seq (.seq (.ops c15_s3) (.block 0 (.loop c15_l9))) (.seq (.seq (.ops c15_s10) (.cond (.t 34) (.seq (.ops c15_s11) .ret) .skip)) (.seq (.seq (.ops c15_s12) (.block 2 (.loop c15_l18))) (.seq (.ops c15_s19) .ret)))))), [.tmp 2]⟩
theorem c15_eq : cCF Try.prog 15 1 = some c15 := by kernel_rfl

/-- what Check asks of a script -/
def chkB (c : CfgT) (ps : List (List OpT)) (ks : List Int) : Prop := layB c ∧ ((ps.length : Int) = c.threads) ∧ (∀ p ∈ ps, p.length ≤ 256) ∧ ks.length ≤ 65536 ∧ ∀ k ∈ ks, 0 ≤ k ∧ k < c.threads
open Classical in
/-- the error of Check -/
def chkE (c : CfgT) (ps : List (List OpT)) (ks : List Int) : Int :=
  if layB c ∧ ((ps.length : Int) = c.threads) then if (∀ p ∈ ps, p.length ≤ 256) ∧ ks.length ≤ 65536 then if ∀ k ∈ ks, 0 ≤ k ∧ k < c.threads then 0 else 3 else 5 else 2
theorem chkE_iff {c : CfgT} {ps : List (List OpT)} {ks : List Int} : chkE c ps ks = 0 ↔ chkB c ps ks := by
  unfold chkE chkB
  by_cases h1 : layB c ∧ ((ps.length : Int) = c.threads)
  · by_cases h2 : (∀ p ∈ ps, p.length ≤ 256) ∧ ks.length ≤ 65536
    · by_cases h3 : ∀ k ∈ ks, 0 ≤ k ∧ k < c.threads
      · rw [if_pos h1, if_pos h2, if_pos h3]; exact ⟨fun _ => ⟨h1.1, h1.2, h2.1, h2.2, h3⟩, fun _ => rfl⟩
      · rw [if_pos h1, if_pos h2, if_neg h3]; exact ⟨fun h => absurd h (by decide), fun h => absurd h.2.2.2.2 h3⟩
    · rw [if_pos h1, if_neg h2]; exact ⟨fun h => absurd h (by decide), fun h => absurd ⟨h.2.2.1, h.2.2.2.1⟩ h2⟩
  · rw [if_neg h1]; exact ⟨fun h => absurd h (by decide), fun h => absurd ⟨h.1, h.2.1⟩ h1⟩
theorem chkE_2 {c : CfgT} {ps : List (List OpT)} {ks : List Int} (h : ¬ (layB c ∧ ((ps.length : Int) = c.threads))) : chkE c ps ks = 2 := by unfold chkE; rw [if_neg h]
theorem chkE_5 {c : CfgT} {ps : List (List OpT)} {ks : List Int} (h1 : layB c ∧ ((ps.length : Int) = c.threads)) (h : ¬ ((∀ p ∈ ps, p.length ≤ 256) ∧ ks.length ≤ 65536)) : chkE c ps ks = 5 := by unfold chkE; rw [if_pos h1, if_neg h]
theorem chkE_3 {c : CfgT} {ps : List (List OpT)} {ks : List Int} (h1 : layB c ∧ ((ps.length : Int) = c.threads)) (h2 : (∀ p ∈ ps, p.length ≤ 256) ∧ ks.length ≤ 65536) (h : ¬ ∀ k ∈ ks, 0 ≤ k ∧ k < c.threads) : chkE c ps ks = 3 := by unfold chkE; rw [if_pos h1, if_pos h2, if_neg h]
/-- says an error -/
def SaysX (e : Int) (h : H) (v : AV) (h' : H) : Prop := v = .int .i64 e ∧ StepN h h'
theorem SaysX.e {c : CfgT} {ps : List (List OpT)} {ks : List Int} {h : H} {v : AV} {h' : H} (s : SaysX (chkE c ps ks) h v h') : SaysE (chkB c ps ks) h v h' := ⟨_, s.1, chkE_iff, s.2⟩
def I15 (h0 : H) (x1 v : AV) (ps : List (List OpT)) (k : Nat) (tm : T AV) (h : H) : Prop :=
  h = h0 ∧ ∃ i : Nat, i + k = ps.length ∧ tm.get 1 = some x1 ∧ tm.get 21 = some v ∧ tm.get 22 = some (.int .i64 (ps.length : Int)) ∧ tm.get 23 = some (.int .i64 (i : Int)) ∧ ∀ j p, j < i → ps[j]? = some p → p.length ≤ 256
theorem step15 (P : Program) {call : CallE} {h0 : H} {x1 v : AV} {vs : List AV} {ps : List (List OpT)} (hv : RdL none 1 h0 v vs) (hvl : vs.length = ps.length)
    (hve : ∀ (i : Nat) x p, vs[i]? = some x → ps[i]? = some p → RdL (some 7) 7 h0 x (p.map fun x => AV.agg (opC x))) (k : Nat) (tm : T AV) (h : H) (hI : I15 h0 x1 v ps k tm h) :
    WC P call c15_l9 (loopQ 0 (fun tm h => ∃ j, j < k ∧ I15 h0 x1 v ps j tm h) (fun tm h => h = h0 ∧ tm.get 1 = some x1 ∧ ∀ p ∈ ps, p.length ≤ 256) (fun tm h => h = h0 ∧ (¬ ∀ p ∈ ps, p.length ≤ 256) ∧ tm.get 2 = some (.int .i64 5))) tm h := by
  obtain ⟨rfl, i, hik, t1, t21, t22, t23, hpre⟩ := hI
  have hle := hv.le
  rw [hvl] at hle
  cases k with
  | zero =>
    have e1 : ¬ (i : Int) < (ps.length : Int) := by omega
    simp only [go_sem, ↓reduceIte, ↓reduceDIte, zA, zM, zL, zE, zD, yA, yE, yL, yQ, yT, reduceCtorEq, c15_l9, t1, t22, t23, e1]
    intro p hp
    obtain ⟨j, hj, rfl⟩ := List.getElem_of_mem hp
    exact hpre j _ (by omega) (List.getElem?_eq_getElem hj)
  | succ k =>
    have e1 : (i : Int) < (ps.length : Int) := by omega
    have hi : i < ps.length := by omega
    have hiv : i < vs.length := by omega
    rcases hv with ⟨_, hh⟩ | ⟨a, o, cap, rfl, _, ra⟩
    · subst hh; simp at hiv
    have ha := ra i vs[i] (by simp [hiv])
    have hpl := (hve i vs[i] ps[i] (by simp [hiv]) (by simp [hi])).lenA
    rw [List.length_map] at hpl
    rw [hvl] at t21
    rw [rLdA, Nat.mul_one] at ha
    have f1 : fw .i64 ((i : Int) + 1) = (i : Int) + 1 := fwI (by omega) (by omega)
    have e3 : ((i + 1 : Nat) : Int) = (i : Int) + 1 := rfl
    simp only [go_sem, ↓reduceIte, ↓reduceDIte, zA, zM, zL, zE, zD, yA, yE, yL, yQ, yT, reduceCtorEq, c15_l9, t21, t22, t23, e1, Nat.mul_one, ha, hpl]
    by_cases hx : (256 : Int) < (ps[i].length : Int)
    · simp only [go_sem, ↓reduceIte, ↓reduceDIte, zA, zM, zL, zE, zD, yA, yE, yL, yQ, yT, reduceCtorEq, hx]
      intro hh
      have := hh ps[i] (List.getElem_mem hi)
      omega
    · simp only [go_sem, ↓reduceIte, ↓reduceDIte, zA, zM, zL, zE, zD, yA, yE, yL, yQ, yT, reduceCtorEq, hx, t23, f1]
      refine ⟨k, Nat.lt_succ_self k, rfl, i + 1, by omega, ?_, ?_, ?_, ?_, fun j p hj hp => ?_⟩
      · simp only [go_sem, ↓reduceIte, ↓reduceDIte, zA, zM, zL, zE, zD, yA, yE, yL, yQ, yT, reduceCtorEq, t1]
      · simp only [go_sem, ↓reduceIte, ↓reduceDIte, zA, zM, zL, zE, zD, yA, yE, yL, yQ, yT, reduceCtorEq, t21, hvl]
      · simp only [go_sem, ↓reduceIte, ↓reduceDIte, zA, zM, zL, zE, zD, yA, yE, yL, yQ, yT, reduceCtorEq, t22]
      · simp only [go_sem, ↓reduceIte, ↓reduceDIte, zA, zM, zL, zE, zD, yA, yE, yL, yQ, yT, reduceCtorEq, e3]
      · by_cases hj2 : j = i
        · subst hj2
          rw [List.getElem?_eq_getElem hi] at hp
          simp only [Option.some.injEq] at hp
          subst hp
          omega
        · exact hpre j p (by omega) hp
def J15 (h0 : H) (a : Nat) (v : AV) (ks : List Int) (n : Int) (k : Nat) (tm : T AV) (h : H) : Prop :=
  h = h0 ∧ ∃ i : Nat, i + k = ks.length ∧ tm.get 1 = some (.ptr a 0) ∧ tm.get 36 = some v ∧ tm.get 37 = some (.int .i64 (ks.length : Int)) ∧ tm.get 38 = some (.int .i64 (i : Int)) ∧ ∀ j p, j < i → ks[j]? = some p → 0 ≤ p ∧ p < n
theorem step15k (P : Program) {call : CallE} {h0 : H} {a : Nat} {c : CfgT} {cv pv kv v : AV} {ks : List Int} (hv : RdL none 1 h0 v (ks.map fun x : Int => AV.int .i64 x))
    (hb : h0.t.get a = some (.row (putList 0 (cfgC c cv ++ [pv, kv]) T.e) 18 31)) (k : Nat) (tm : T AV) (h : H) (hI : J15 h0 a v ks c.threads k tm h) :
    WC P call c15_l18 (loopQ 2 (fun tm h => ∃ j, j < k ∧ J15 h0 a v ks c.threads j tm h) (fun tm h => h = h0 ∧ ∀ k ∈ ks, 0 ≤ k ∧ k < c.threads) (fun tm h => h = h0 ∧ (¬ ∀ k ∈ ks, 0 ≤ k ∧ k < c.threads) ∧ tm.get 2 = some (.int .i64 3))) tm h := by
  obtain ⟨rfl, i, hik, t1, t36, t37, t38, hpre⟩ := hI
  have hle := hv.le
  rw [List.length_map] at hle
  cases k with
  | zero =>
    have e1 : ¬ (i : Int) < (ks.length : Int) := by omega
    simp only [go_sem, ↓reduceIte, ↓reduceDIte, zA, zM, zL, zE, zD, yA, yE, yL, yQ, yT, reduceCtorEq, c15_l18, t1, t37, t38, e1]
    intro p hp
    obtain ⟨j, hj, rfl⟩ := List.getElem_of_mem hp
    exact hpre j _ (by omega) (List.getElem?_eq_getElem hj)
  | succ k =>
    have e1 : (i : Int) < (ks.length : Int) := by omega
    have hi : i < ks.length := by omega
    rcases hv with ⟨_, hh⟩ | ⟨a', o, cap, rfl, _, ra⟩
    · rw [List.map_eq_nil_iff] at hh; subst hh; simp at hi
    have ha := ra i (.int .i64 ks[i]) (by simp [hi])
    rw [List.length_map] at t36
    rw [rLdA, Nat.mul_one] at ha
    have f1 : fw .i64 ((i : Int) + 1) = (i : Int) + 1 := fwI (by omega) (by omega)
    have e3 : ((i + 1 : Nat) : Int) = (i : Int) + 1 := rfl
    have bad : (¬ (0 ≤ ks[i] ∧ ks[i] < c.threads)) → ¬ ∀ k ∈ ks, 0 ≤ k ∧ k < c.threads := fun hn hh => hn (hh _ (List.getElem_mem hi))
    simp only [go_sem, ↓reduceIte, ↓reduceDIte, zA, zM, zL, zE, zD, yA, yE, yL, yQ, yT, reduceCtorEq, c15_l18, t1, t36, t37, t38, e1, Nat.mul_one, ha]
    by_cases hx : ks[i] < 0
    · simp only [go_sem, ↓reduceIte, ↓reduceDIte, zA, zM, zL, zE, zD, yA, yE, yL, yQ, yT, reduceCtorEq, hx]
      exact bad (by omega)
    · by_cases hy : ks[i] < c.threads
      case neg =>
        simp only [go_sem, ↓reduceIte, ↓reduceDIte, zA, zM, zL, zE, zD, yA, yE, yL, yQ, yT, reduceCtorEq, hx, t1, hb, hy, cfgC]
        exact bad (by omega)
      · simp only [go_sem, ↓reduceIte, ↓reduceDIte, zA, zM, zL, zE, zD, yA, yE, yL, yQ, yT, reduceCtorEq, hx, t1, hb, hy, cfgC, t38, f1]
        refine ⟨k, Nat.lt_succ_self k, rfl, i + 1, by omega, ?_, ?_, ?_, ?_, fun j p hj hp => ?_⟩
        · simp only [go_sem, ↓reduceIte, ↓reduceDIte, zA, zM, zL, zE, zD, yA, yE, yL, yQ, yT, reduceCtorEq, t1]
        · simp only [go_sem, ↓reduceIte, ↓reduceDIte, zA, zM, zL, zE, zD, yA, yE, yL, yQ, yT, reduceCtorEq, t36, List.length_map]
        · simp only [go_sem, ↓reduceIte, ↓reduceDIte, zA, zM, zL, zE, zD, yA, yE, yL, yQ, yT, reduceCtorEq, t37]
        · simp only [go_sem, ↓reduceIte, ↓reduceDIte, zA, zM, zL, zE, zD, yA, yE, yL, yQ, yT, reduceCtorEq, e3]
        · by_cases hj2 : j = i
          · subst hj2
            rw [List.getElem?_eq_getElem hi] at hp
            simp only [Option.some.injEq] at hp
            subst hp
            omega
          · exact hpre j p (by omega) hp
set_option maxRecDepth 4000 in
theorem w15 (P : Program) {call : CallE} (h34 : ∀ h (c : CfgT) v, RdL none 1 h v (c.cuts.map fun x : Int => AV.int .u64 x) → (∀ a, own v = some a → a < h.next) → ∃ v' h', call 34 [.agg (cfgC c v)] h = some (v', h') ∧ SaysE (layB c) h v' h')
    {h : H} {v : AV} {c : CfgT} {ps : List (List OpT)} {ks : List Int} (hs : IsS h v c ps ks) : WF P call c15 [v] h (SaysX (chkE c ps ks) h) := by
  obtain ⟨cv, pv, kv, rfl, h1, h2, h3, h4, h5⟩ := hs
  have ov := h1.one
  have opa := h3.one
  have oka := h4.one
  have st : ∀ x, StepN h ⟨h.next + 1, h.t.set h.next x⟩ := fun x => ⟨Nat.le_add_right _ _, fun b hb => by
    have e1 : ¬ b = h.next := by omega
    simp only [go_sem, ↓reduceIte, ↓reduceDIte, zA, zM, zL, zE, zD, yA, yE, yL, yQ, yT, reduceCtorEq, e1]⟩
  simp only [go_sem, ↓reduceIte, ↓reduceDIte, zA, zM, zL, zE, zD, yA, yE, yL, yQ, yT, reduceCtorEq, c15, ov, opa, oka]
  refine opt_by (h34 _ c cv (h1.keep fun b hb => (st _).old b (h2 b hb)) (fun x hx => Nat.lt_of_lt_of_le (h2 x hx) (st _).next)) fun v1 h' p1 => ?_
  obtain ⟨e, rfl, he, st1⟩ := p1
  have stn := (st _).trans st1
  have g0 := st1.old h.next (by show h.next < h.next + 1; omega)
  simp only [go_sem, ↓reduceIte, ↓reduceDIte, zA, zM, zL, zE, zD, yA, yE, yL, yQ, yT, reduceCtorEq] at g0
  have bad : ∀ (x : Int), chkE c ps ks = x → SaysX (chkE c ps ks) h (.int .i64 x) h' := fun x hx => ⟨by rw [hx], stn⟩
  have h3' := h3.keep stn
  have h4' := h4.keep fun b hb => stn.old b (h5 b hb)
  obtain ⟨vs, p1, p2, p3, p4, p5⟩ := h3'
  have pl := p1.lenA
  have kl := h4'.lenA
  rw [p2] at pl
  rw [List.length_map] at kl
  by_cases d0 : e = 0
  case neg =>
    simp only [go_sem, ↓reduceIte, ↓reduceDIte, zA, zM, zL, zE, zD, yA, yE, yL, yQ, yT, reduceCtorEq, d0, g0]
    exact bad _ (chkE_2 fun hh => d0 (he.2 hh.1))
  by_cases d1 : (ps.length : Int) = c.threads
  case neg =>
    simp only [go_sem, ↓reduceIte, ↓reduceDIte, zA, zM, zL, zE, zD, yA, yE, yL, yQ, yT, reduceCtorEq, d0, g0, pl, cfgC, d1]
    exact bad _ (chkE_2 fun hh => d1 hh.2)
  simp only [go_sem, ↓reduceIte, ↓reduceDIte, zA, zM, zL, zE, zD, yA, yE, yL, yQ, yT, reduceCtorEq, d0, g0, pl, cfgC, d1]
  refine loop_in (I15 h' (.ptr h.next 0) pv ps) _ _ (fun k tm h'' hI => step15 P p1 p2 p3 k tm h'' hI) (fun tm2 h2 hR => ?_) (fun tm2 h2 hS => ?_) ps.length _ _
    ⟨rfl, 0, by omega, ?_, ?_, ?_, ?_, fun j p hj => by omega⟩
  · obtain ⟨rfl, t1, hp⟩ := hR
    by_cases d2 : (65536 : Int) < (ks.length : Int)
    · simp only [go_sem, ↓reduceIte, ↓reduceDIte, zA, zM, zL, zE, zD, yA, yE, yL, yQ, yT, reduceCtorEq, t1, g0, kl, cfgC, d2]
      exact bad _ (chkE_5 ⟨he.1 d0, d1⟩ fun hh => by have := hh.2; omega)
    simp only [go_sem, ↓reduceIte, ↓reduceDIte, zA, zM, zL, zE, zD, yA, yE, yL, yQ, yT, reduceCtorEq, t1, g0, kl, cfgC, d2]
    refine loop_in (J15 h2 h.next kv ks c.threads) _ _ (fun k tm h'' hI => step15k P h4' g0 k tm h'' hI) (fun tm3 h3 hR => ?_) (fun tm3 h3 hS => ?_) ks.length _ _
      ⟨rfl, 0, by omega, ?_, ?_, ?_, ?_, fun j p hj => by omega⟩
    · obtain ⟨rfl, hk⟩ := hR
      simp only [go_sem, ↓reduceIte, ↓reduceDIte, zA, zM, zL, zE, zD, yA, yE, yL, yQ, yT, reduceCtorEq]
      exact bad _ (chkE_iff.2 ⟨he.1 d0, d1, hp, by omega, hk⟩)
    · obtain ⟨rfl, hk, t2⟩ := hS
      simp only [go_sem, ↓reduceIte, ↓reduceDIte, zA, zM, zL, zE, zD, yA, yE, yL, yQ, yT, reduceCtorEq, t2]
      exact bad _ (chkE_3 ⟨he.1 d0, d1⟩ ⟨hp, by omega⟩ hk)
    · simp only [go_sem, ↓reduceIte, ↓reduceDIte, zA, zM, zL, zE, zD, yA, yE, yL, yQ, yT, reduceCtorEq, t1]
    · simp only [go_sem, ↓reduceIte, ↓reduceDIte, zA, zM, zL, zE, zD, yA, yE, yL, yQ, yT, reduceCtorEq]
    · simp only [go_sem, ↓reduceIte, ↓reduceDIte, zA, zM, zL, zE, zD, yA, yE, yL, yQ, yT, reduceCtorEq]
    · simp only [go_sem, ↓reduceIte, ↓reduceDIte, zA, zM, zL, zE, zD, yA, yE, yL, yQ, yT, reduceCtorEq]
  · obtain ⟨rfl, hp, t2⟩ := hS
    simp only [go_sem, ↓reduceIte, ↓reduceDIte, zA, zM, zL, zE, zD, yA, yE, yL, yQ, yT, reduceCtorEq, t2]
    exact bad _ (chkE_5 ⟨he.1 d0, d1⟩ fun hh => hp hh.1)
  · simp only [go_sem, ↓reduceIte, ↓reduceDIte, zA, zM, zL, zE, zD, yA, yE, yL, yQ, yT, reduceCtorEq]
  · simp only [go_sem, ↓reduceIte, ↓reduceDIte, zA, zM, zL, zE, zD, yA, yE, yL, yQ, yT, reduceCtorEq]
  · simp only [go_sem, ↓reduceIte, ↓reduceDIte, zA, zM, zL, zE, zD, yA, yE, yL, yQ, yT, reduceCtorEq, d1]
  · simp only [go_sem, ↓reduceIte, ↓reduceDIte, zA, zM, zL, zE, zD, yA, yE, yL, yQ, yT, reduceCtorEq]
end
end Go.Proofs.Ytnmlfhogolonoaa
