/-
  The line of an operation.
-/
import Derived.Test.YtiokmoepojdfmaaDoorClJ
set_option linter.unusedVariables false
set_option linter.unusedSimpArgs false
namespace Go.Proofs.YtiokmoepojdfmaaDoor
open Go.Proofs.YtiokmoepojdfmaaDoor.Eo
open Nat renaming reduceAdd → zA, reduceMul → zM, reduceLT → zL, reduceEqDiff → zE, reduceLeDiff → zD
open Int renaming reduceAdd → yA, reduceLE → yE, reduceLT → yL, reduceEq → yQ, reduceToNat → yT
open Go.Lib (decDigits itoa)
noncomputable section
/-! 6: leapfrog/text.Op -/
@[go_sem] def c6_s0 : List SQ := [⟨some 1, none, .n (.box 24 (.t 0))⟩, ⟨some 2, none, .p (.mv (.c (.str ⟨#[]⟩)))⟩, ⟨some 3, none, .p (.mv (.c (.int .i64 0)))⟩]
@[go_sem] def c6_s1 : List SQ := [⟨some 8, none, .p (.fadr 0 (.t 1))⟩, ⟨some 9, none, .r (.ld none (.t 8))⟩, ⟨some 10, none, .cv (.c (.fn (.func 12) [] [])) [(.t 9)]⟩, ⟨some 4, none, .p (.mv (.t 10))⟩]
@[go_sem] def c6_p2 : List (List DQ × Option DQ) := [([⟨0, [(4, none)], none, .p (.mv (.t 4))⟩, ⟨1, [(11, (some 0))], none, .p (.bin .eql 9 false true (.t 11) (.c (.str ⟨#[]⟩)))⟩, ⟨2, [(12, (some 1))], none, .p (.mv (.t 12))⟩, ⟨3, [(13, (some 2)), (1, none)], some (13, false), .r (.ld (some 7) (.t 1))⟩, ⟨5, [(13, (some 2)), (1, none)], some (13, false), .r (.ld (some 7) (.t 1))⟩], (some ⟨4, [(13, (some 2)), (14, (some 3))], some (13, false), .cv (.c (.fn (.func 13) [] [])) [(.t 14)]⟩)), ([⟨6, [(13, (some 2)), (15, (some 4)), (16, (some 5))], some (13, false), .p (.bin .neq 24 false false (.t 15) (.t 16))⟩, ⟨7, [(13, (some 2)), (17, (some 6))], none, .p (.pick (.t 13) (.c (.bool true)) (.t 17))⟩], none)]
@[go_sem] def c6_s3 : List SQ := [⟨some 19, none, .p (.fadr 0 (.t 1))⟩, ⟨some 20, none, .r (.ld none (.t 19))⟩, ⟨some 21, none, .p (.conv .u64 (.t 20))⟩, ⟨some 22, none, .p (.fadr 1 (.t 1))⟩, ⟨some 23, none, .r (.ld none (.t 22))⟩, ⟨some 24, none, .p (.fadr 2 (.t 1))⟩, ⟨some 25, none, .r (.ld none (.t 24))⟩, ⟨some 26, none, .p (.fadr 3 (.t 1))⟩, ⟨some 27, none, .r (.ld none (.t 26))⟩, ⟨some 28, none, .p (.fadr 4 (.t 1))⟩, ⟨some 29, none, .r (.ld none (.t 28))⟩, ⟨some 30, none, .p (.fadr 5 (.t 1))⟩, ⟨some 31, none, .r (.ld none (.t 30))⟩, ⟨some 32, none, .p (.fadr 6 (.t 1))⟩, ⟨some 33, none, .r (.ld none (.t 32))⟩, ⟨some 34, none, .n (.buildS 22 1 7 [.int .u64 0, .int .u64 0, .int .u64 0, .int .u64 0, .int .u64 0, .int .u64 0, .int .u64 0] [(0, 1, (.t 21)), (1, 1, (.t 23)), (2, 1, (.t 25)), (3, 1, (.t 27)), (4, 1, (.t 29)), (5, 1, (.t 31)), (6, 1, (.t 33))])⟩, ⟨some 35, none, .cv (.c (.fn (.func 14) [] [])) [(.c (.str ⟨#[111, 112]⟩)), (.t 34)]⟩, ⟨some 2, none, .p (.mv (.t 35))⟩, ⟨some 3, none, .p (.mv (.c (.int .i64 0)))⟩]
@[go_sem] def c6_s4 : List SQ := [⟨some 5, none, .p (.mv (.c .nils))⟩]
@[go_sem] def c6_s5 : List SQ := [⟨some 36, none, .cv (.c (.fn (.func 15) [] [])) [(.t 1)]⟩, ⟨some 37, none, .p (.lenv (.t 36))⟩, ⟨some 38, none, .p (.mv (.c (.int .i64 0)))⟩]
@[go_sem] def c6_s6 : List SQ := [⟨some 39, none, .p (.bin .lss 3 false false (.t 38) (.t 37))⟩]
@[go_sem] def c6_s7 : List SQ := [⟨some 40, none, .p (.iadrS 1 (.t 36) (.t 38))⟩, ⟨some 41, none, .r (.ld none (.t 40))⟩, ⟨some 7, none, .p (.mv (.t 41))⟩]
@[go_sem] def c6_s8 : List SQ := [⟨some 42, none, .p (.mv (.t 5))⟩, ⟨some 43, none, .p (.mv (.t 7))⟩, ⟨some 44, none, .p (.nilck (.t 43))⟩, ⟨some 45, none, .r (.ld none (.t 44))⟩, ⟨some 46, none, .n (.buildS 22 1 1 [.int .u64 0] [(0, 1, (.t 45))])⟩, ⟨some 47, none, .e (.app 22 1 8 (.t 42) (.t 46))⟩, ⟨some 5, none, .p (.mv (.t 47))⟩]
@[go_sem] def c6_s9 : List SQ := [⟨some 48, none, .p (.bin .add 3 false true (.t 38) (.c (.int .i64 1)))⟩, ⟨some 38, none, .p (.mv (.t 48))⟩]
def c6_l10 : CC := (.seq (.ops c6_s6) (.seq (.cond (.t 39) .skip (.exit 0)) (.seq (.block 1 (.seq (.ops c6_s7) (.ops c6_s8))) (.ops c6_s9))))
@[go_sem] def c6_s11 : List SQ := [⟨some 49, none, .p (.mv (.t 4))⟩, ⟨some 50, none, .p (.mv (.t 5))⟩, ⟨some 51, none, .cv (.c (.fn (.func 14) [] [])) [(.t 49), (.t 50)]⟩, ⟨some 2, none, .p (.mv (.t 51))⟩, ⟨some 3, none, .p (.mv (.c (.int .i64 0)))⟩]
@[go_sem] def c6 : CF := ⟨1, (.seq (.ops c6_s0) (.seq (.ops c6_s1) (.seq (.seq (.drw ⟨c6_p2, [(0, 11), (1, 12), (2, 13), (3, 14), (4, 15), (5, 16), (6, 17), (7, 18)], [(⟨5, [(13, (some 2)), (1, none)], some (13, false), .r (.ld (some 7) (.t 1))⟩, [1])]⟩) (.cond (.t 18) (.seq (.ops c6_s3) .ret) .skip)) (.seq (.ops c6_s4) (.seq (.seq (.ops c6_s5) (.block 0 (.loop c6_l10))) (.seq (.ops c6_s11) .ret)))))), [.tmp 2, .tmp 3]⟩
theorem c6_eq : cCF Tryd.prog 6 1 = some c6 := by kernel_rfl
/-! 9: leapfrog/leapfrogref44.Op -/
@[go_sem] def c9_s0 : List SQ := [⟨some 1, none, .n (.box 24 (.t 0))⟩, ⟨some 2, none, .p (.mv (.c (.str ⟨#[]⟩)))⟩]
@[go_sem] def c9_s1 : List SQ := [⟨some 3, none, .r (.ld (some 7) (.t 1))⟩, ⟨some 4, none, .cv (.c (.fn (.func 18) [] [])) [(.t 3)]⟩, ⟨some 5, none, .p (.un .not (.t 4))⟩]
@[go_sem] def c9_p2 : List (List DQ × Option DQ) := [([⟨0, [(1, none)], none, .p (.fadr 0 (.t 1))⟩, ⟨1, [(6, (some 0))], none, .r (.ld none (.t 6))⟩, ⟨2, [(7, (some 1))], none, .p (.conv .u64 (.t 7))⟩, ⟨5, [(1, none)], none, .r (.ld (some 7) (.t 1))⟩], (some ⟨3, [(8, (some 2))], none, .cv (.c (.fn (.func 20) [] [])) [(.t 8)]⟩)), ([⟨4, [(9, (some 3))], none, .p (.bin .add 9 true false (.c (.str ⟨#[111, 112, 32]⟩)) (.t 9))⟩], (some ⟨6, [(11, (some 5))], none, .cv (.c (.fn (.func 21) [] [])) [(.t 11)]⟩)), ([], (some ⟨7, [(10, (some 4)), (12, (some 6))], none, .cv (.c (.fn (.func 19) [] [])) [(.t 10), (.t 12)]⟩)), ([⟨8, [(13, (some 7))], none, .p (.mv (.t 13))⟩], none)]
@[go_sem] def c9_p3 : List (List DQ × Option DQ) := [([⟨0, [(1, none)], none, .p (.fadr 0 (.t 1))⟩, ⟨1, [(14, (some 0))], none, .r (.ld none (.t 14))⟩, ⟨3, [(1, none)], none, .r (.ld (some 7) (.t 1))⟩], (some ⟨2, [(15, (some 1))], none, .cv (.c (.fn (.func 22) [] [])) [(.t 15)]⟩)), ([], (some ⟨4, [(17, (some 3))], none, .cv (.c (.fn (.func 23) [] [])) [(.t 17)]⟩)), ([], (some ⟨5, [(16, (some 2)), (18, (some 4))], none, .cv (.c (.fn (.func 19) [] [])) [(.t 16), (.t 18)]⟩)), ([⟨6, [(19, (some 5))], none, .p (.mv (.t 19))⟩], none)]
@[go_sem] def c9 : CF := ⟨1, (.seq (.ops c9_s0) (.seq (.seq (.ops c9_s1) (.cond (.t 5) (.seq (.drw ⟨c9_p2, [(0, 6), (1, 7), (2, 8), (3, 9), (4, 10), (5, 11), (6, 12), (7, 13), (8, 2)], [(⟨5, [(1, none)], none, .r (.ld (some 7) (.t 1))⟩, [1])]⟩) .ret) .skip)) (.seq (.drw ⟨c9_p3, [(0, 14), (1, 15), (2, 16), (3, 17), (4, 18), (5, 19), (6, 2)], [(⟨3, [(1, none)], none, .r (.ld (some 7) (.t 1))⟩, [1])]⟩) .ret))), [.tmp 2]⟩
theorem c9_eq : cCF Tryd.prog 9 1 = some c9 := by kernel_rfl

theorem part5 (xs : List AV) (o : Nat) : partA Tryd.prog 5 xs o = xs[o]? := by
  have : aggOf Tryd.prog 5 = some none := by kernel_rfl
  unfold partA
  rw [this]
theorem part22 (xs : List AV) (o : Nat) : partA Tryd.prog 22 xs o = xs[o]? := by
  have : aggOf Tryd.prog 22 = some none := by kernel_rfl
  unfold partA
  rw [this]
theorem eqU (n : Nat) (a b : Int) : eqA Tryd.prog (n + 1) 22 (.int .u64 a) (.int .u64 b) = some (decide (a = b)) := by
  rw [eqA, Tryd.underlying22]
  simp only [decide_true, cond_true, rIEq]
theorem eqK (n : Nat) (a b : Int) : eqA Tryd.prog (n + 1) 5 (.int .u8 a) (.int .u8 b) = some (decide (a = b)) := by
  rw [eqA, Tryd.underlying5]
  simp only [decide_true, cond_true, rIEq]
instance : DecidableEq OpT := fun _ _ => Classical.propDecidable _
theorem eq24 (x y : OpT) : eqA Tryd.prog 10000 24 (.agg (opC x)) (.agg (opC y)) = some (decide (x = y)) := by
  have hs : Tryd.prog.stoodInHeld 24 = false := by kernel_rfl
  rw [show (10000 : Nat) = 9998 + 1 + 1 from rfl, eqA, Tryd.underlying24]
  all_goals try (intros; contradiction)
  have m0 : decide ("Kind" ≠ "_") = true := by decide
  have m1 : decide ("Key" ≠ "_") = true := by decide
  have m2 : decide ("Hi" ≠ "_") = true := by decide
  have m3 : decide ("Value" ≠ "_") = true := by decide
  have m4 : decide ("Old" ≠ "_") = true := by decide
  have m5 : decide ("By" ≠ "_") = true := by decide
  have m6 : decide ("Draw" ≠ "_") = true := by decide
  simp only [hs, cond_false]
  simp only [eqFs, part5, part22, opC, List.getElem?_cons_zero, List.getElem?_cons_succ, eqU, eqK, m0, m1, m2, m3, m4, m5, m6, cond_true]
  have hx : x = y ↔ x.1 = y.1 ∧ x.2.1 = y.2.1 ∧ x.2.2.1 = y.2.2.1 ∧ x.2.2.2.1 = y.2.2.2.1 ∧ x.2.2.2.2.1 = y.2.2.2.2.1 ∧ x.2.2.2.2.2.1 = y.2.2.2.2.2.1 ∧ x.2.2.2.2.2.2 = y.2.2.2.2.2.2 := by
    constructor
    · intro h; subst h; exact ⟨rfl, rfl, rfl, rfl, rfl, rfl, rfl⟩
    · obtain ⟨k, a, b, c, d, e, f⟩ := x
      obtain ⟨k', a', b', c', d', e', f'⟩ := y
      rintro ⟨h1, h2, h3, h4, h5, h6, h7⟩
      dsimp only at h1 h2 h3 h4 h5 h6 h7
      subst h1 h2 h3 h4 h5 h6 h7
      rfl
  have hd : decide (x = y) = decide (x.1 = y.1 ∧ x.2.1 = y.2.1 ∧ x.2.2.1 = y.2.2.1 ∧ x.2.2.2.1 = y.2.2.2.1 ∧ x.2.2.2.2.1 = y.2.2.2.2.1 ∧ x.2.2.2.2.2.1 = y.2.2.2.2.2.1 ∧ x.2.2.2.2.2.2 = y.2.2.2.2.2.2) := decide_eq_decide.2 hx
  rw [hd]
  by_cases h0 : x.1 = y.1 <;> by_cases h1 : x.2.1 = y.2.1 <;> by_cases h2 : x.2.2.1 = y.2.2.1 <;> by_cases h3 : x.2.2.2.1 = y.2.2.2.1 <;> by_cases h4 : x.2.2.2.2.1 = y.2.2.2.2.1 <;> by_cases h5 : x.2.2.2.2.2.1 = y.2.2.2.2.2.1 <;> simp [h0, h1, h2, h3, h4, h5]
  by_cases h6 : x.2.2.2.2.2.2 = y.2.2.2.2.2.2 <;> simp [h6]
theorem neq24 (x y : OpT) : evBin Tryd.prog .neq 24 false false (.agg (opC x)) (.agg (opC y)) = some (.bool (!decide (x = y))) := by
  have hg : Tryd.prog.eqGuardType Tryd.prog.depth 24 = false := by kernel_rfl
  unfold evBin
  simp only [hg, cond_false, eq24]
theorem word_nil (k : Int) : wordB k = [] ↔ ¬ (1 ≤ k ∧ k ≤ 15) := by
  rcases kind_cases k with rfl | rfl | rfl | rfl | rfl | rfl | rfl | rfl | rfl | rfl | rfl | rfl | rfl | rfl | rfl | ⟨n1, n2, n3, n4, n5, n6, n7, n8, n9, n10, n11, n12, n13, n14, n15⟩
  · exact ⟨fun h => absurd h (by decide), fun h => absurd (by decide) h⟩
  · exact ⟨fun h => absurd h (by decide), fun h => absurd (by decide) h⟩
  · exact ⟨fun h => absurd h (by decide), fun h => absurd (by decide) h⟩
  · exact ⟨fun h => absurd h (by decide), fun h => absurd (by decide) h⟩
  · exact ⟨fun h => absurd h (by decide), fun h => absurd (by decide) h⟩
  · exact ⟨fun h => absurd h (by decide), fun h => absurd (by decide) h⟩
  · exact ⟨fun h => absurd h (by decide), fun h => absurd (by decide) h⟩
  · exact ⟨fun h => absurd h (by decide), fun h => absurd (by decide) h⟩
  · exact ⟨fun h => absurd h (by decide), fun h => absurd (by decide) h⟩
  · exact ⟨fun h => absurd h (by decide), fun h => absurd (by decide) h⟩
  · exact ⟨fun h => absurd h (by decide), fun h => absurd (by decide) h⟩
  · exact ⟨fun h => absurd h (by decide), fun h => absurd (by decide) h⟩
  · exact ⟨fun h => absurd h (by decide), fun h => absurd (by decide) h⟩
  · exact ⟨fun h => absurd h (by decide), fun h => absurd (by decide) h⟩
  · exact ⟨fun h => absurd h (by decide), fun h => absurd (by decide) h⟩
  · refine ⟨fun _ => by omega, fun _ => ?_⟩
    unfold wordB
    rw [if_neg n1, if_neg n2, if_neg n3, if_neg n4, if_neg n5, if_neg n6, if_neg n7, if_neg n8, if_neg n9, if_neg n10, if_neg n11, if_neg n12, if_neg n13, if_neg n14, if_neg n15]
theorem used_eq (x : OpT) : x = usedT x ↔ ∀ i, i < 6 → i ∉ useL x.1 → fld x i = 0 := by
  obtain ⟨k, a, b, c, d, e, f⟩ := x
  have key : ∀ i, keepF (k, a, b, c, d, e, f) i = fld (k, a, b, c, d, e, f) i ↔ (i ∉ useL k → fld (k, a, b, c, d, e, f) i = 0) := fun i => by
    unfold keepF
    by_cases h : i ∈ useL k
    · rw [if_pos h]; exact ⟨fun _ hn => absurd h hn, fun _ => rfl⟩
    · rw [if_neg h]; exact ⟨fun hh _ => hh.symm, fun hh => (hh h).symm⟩
  constructor
  · intro h i hi hn
    have hf : fld (k, a, b, c, d, e, f) i = fld (usedT (k, a, b, c, d, e, f)) i := congrArg (fun y => fld y i) h
    refine (key i).1 ?_ hn
    rw [hf]
    match i, hi with
    | 0, _ => rfl
    | 1, _ => rfl
    | 2, _ => rfl
    | 3, _ => rfl
    | 4, _ => rfl
    | 5, _ => rfl
  · intro h
    have k0 := (key 0).2 (h 0 (by decide))
    have k1 := (key 1).2 (h 1 (by decide))
    have k2 := (key 2).2 (h 2 (by decide))
    have k3 := (key 3).2 (h 3 (by decide))
    have k4 := (key 4).2 (h 4 (by decide))
    have k5 := (key 5).2 (h 5 (by decide))
    unfold usedT
    rw [k0, k1, k2, k3, k4, k5]
    rfl
theorem formed_used (x : OpT) : formed x ↔ wordB x.1 ≠ [] ∧ x = usedT x := by
  rw [used_eq, Ne, word_nil, Classical.not_not]
  exact Iff.rfl
open Classical in
/-- the line of an operation -/
def opB (x : OpT) : List UInt8 := if formed x then joinL (wordB x.1) ((useL x.1).map (fld x)) else joinL [111, 112] (x.1 :: [fld x 0, fld x 1, fld x 2, fld x 3, fld x 4, fld x 5])
end
end Go.Proofs.YtiokmoepojdfmaaDoor
