/-
  Copies of a script; whether it is long.
-/
import Derived.Test.YtnmlfhogolonoaaSoSb
set_option linter.unusedVariables false
set_option linter.unusedSimpArgs false
namespace Go.Proofs.Ytnmlfhogolonoaa
open Go.Proofs.Ytnmlfhogolonoaa.Eo
open Nat renaming reduceAdd → zA, reduceMul → zM, reduceLT → zL, reduceEqDiff → zE, reduceLeDiff → zD
open Int renaming reduceAdd → yA, reduceLE → yE, reduceLT → yL, reduceEq → yQ, reduceToNat → yT
noncomputable section
/-! 10: leapfrog/leapfroglaw43.long -/
@[go_sem] def c10_s0 : List SQ := [⟨some 1, none, .n (.box 31 (.t 0))⟩, ⟨some 2, none, .p (.mv (.c (.bool false)))⟩]
@[go_sem] def c10_s1 : List SQ := [⟨some 5, none, .p (.fadr 16 (.t 1))⟩, ⟨some 6, none, .r (.ld none (.t 5))⟩, ⟨some 7, none, .p (.lenv (.t 6))⟩, ⟨some 8, none, .p (.fadr 17 (.t 1))⟩, ⟨some 9, none, .r (.ld none (.t 8))⟩, ⟨some 10, none, .p (.lenv (.t 9))⟩, ⟨some 11, none, .p (.bin .quo 3 false true (.t 10) (.c (.int .i64 20)))⟩, ⟨some 12, none, .p (.bin .add 3 false false (.t 7) (.t 11))⟩, ⟨some 13, none, .p (.fadr 0 (.t 1))⟩, ⟨some 14, none, .p (.fadr 4 (.t 13))⟩, ⟨some 15, none, .p (.fadr 2 (.t 14))⟩, ⟨some 16, none, .r (.ld none (.t 15))⟩, ⟨some 17, none, .p (.lenv (.t 16))⟩, ⟨some 18, none, .p (.bin .add 3 false false (.t 12) (.t 17))⟩, ⟨some 3, none, .p (.mv (.t 18))⟩]
@[go_sem] def c10_s2 : List SQ := [⟨some 4, none, .p (.mv (.c (.int .i64 0)))⟩]
@[go_sem] def c10_s3 : List SQ := [⟨some 19, none, .p (.mv (.t 4))⟩, ⟨some 20, none, .p (.fadr 16 (.t 1))⟩, ⟨some 21, none, .r (.ld none (.t 20))⟩, ⟨some 22, none, .p (.lenv (.t 21))⟩, ⟨some 23, none, .p (.bin .lss 3 false false (.t 19) (.t 22))⟩]
@[go_sem] def c10_s4 : List SQ := [⟨some 26, none, .p (.mv (.t 3))⟩, ⟨some 27, none, .p (.fadr 16 (.t 1))⟩, ⟨some 28, none, .r (.ld none (.t 27))⟩, ⟨some 29, none, .p (.mv (.t 4))⟩, ⟨some 30, none, .p (.iadrS 1 (.t 28) (.t 29))⟩, ⟨some 31, none, .r (.ld none (.t 30))⟩, ⟨some 32, none, .p (.lenv (.t 31))⟩, ⟨some 33, none, .p (.bin .add 3 false false (.t 26) (.t 32))⟩, ⟨some 3, none, .p (.mv (.t 33))⟩]
@[go_sem] def c10_s5 : List SQ := [⟨some 24, none, .p (.mv (.t 4))⟩, ⟨some 25, none, .p (.bin .add 3 false true (.t 24) (.c (.int .i64 1)))⟩, ⟨some 4, none, .p (.mv (.t 25))⟩]
def c10_l6 : CC := (.seq (.seq (.ops c10_s3) (.cond (.t 23) .skip (.exit 0))) (.seq (.block 1 (.ops c10_s4)) (.ops c10_s5)))
@[go_sem] def c10_s7 : List SQ := [⟨some 34, none, .p (.mv (.t 3))⟩, ⟨some 35, none, .p (.bin .gtr 3 false true (.t 34) (.c (.int .i64 4000)))⟩, ⟨some 2, none, .p (.mv (.t 35))⟩]
@[go_sem] def c10 : CF := ⟨1, (.seq (.ops c10_s0) (.seq (.ops c10_s1) (.seq (.seq (.ops c10_s2) (.block 0 (.loop c10_l6))) (.seq (.ops c10_s7) .ret)))), [.tmp 2]⟩
theorem c10_eq : cCF Try.prog 10 1 = some c10 := by kernel_rfl
/-! 24: leapfrog/leapfrogkit.CopyConfig -/
@[go_sem] def c24_s0 : List SQ := [⟨some 1, none, .n (.box 27 (.t 0))⟩, ⟨some 2, none, .n (.new 27 [.int .i64 0, .int .i64 0, .int .u8 0, .int .i64 0, .int .u8 0, .int .i64 0, .nils, .int .i64 0, .int .i64 0, .int .i64 0, .int .i64 0, .int .i64 0, .int .i64 0, .int .i64 0, .int .i64 0, .int .i64 0])⟩]
@[go_sem] def c24_s1 : List SQ := [⟨some 3, none, .p (.fadr 4 (.t 1))⟩, ⟨some 4, none, .r (.ld (some 3) (.t 3))⟩, ⟨some 5, none, .cv (.c (.fn (.func 53) [] [])) [(.t 4)]⟩, ⟨some 6, none, .p (.fadr 4 (.t 1))⟩, ⟨none, none, .e (.st 3 (.t 6) (.t 5))⟩]
@[go_sem] def c24_s2 : List SQ := [⟨some 7, none, .r (.ld (some 16) (.t 1))⟩, ⟨none, none, .e (.st 16 (.t 2) (.t 7))⟩]
@[go_sem] def c24 : CF := ⟨1, (.seq (.ops c24_s0) (.seq (.ops c24_s1) (.seq (.ops c24_s2) .ret))), [(.cell 2 (some 16))]⟩
theorem c24_eq : cCF Try.prog 24 1 = some c24 := by kernel_rfl
/-! 53: leapfrog/leapfrogkit.CopyDomain -/
@[go_sem] def c53_s0 : List SQ := [⟨some 1, none, .n (.box 24 (.t 0))⟩, ⟨some 2, none, .n (.new 24 [.int .u8 0, .int .i64 0, .nils])⟩]
@[go_sem] def c53_s1 : List SQ := [⟨some 3, none, .p (.fadr 2 (.t 1))⟩, ⟨some 4, none, .r (.ld none (.t 3))⟩, ⟨some 5, none, .cv (.c (.fn (.func 69) [] [])) [(.t 4)]⟩, ⟨some 6, none, .p (.fadr 2 (.t 1))⟩, ⟨none, none, .e (.st 1 (.t 6) (.t 5))⟩]
@[go_sem] def c53_s2 : List SQ := [⟨some 7, none, .r (.ld (some 3) (.t 1))⟩, ⟨none, none, .e (.st 3 (.t 2) (.t 7))⟩]
@[go_sem] def c53 : CF := ⟨1, (.seq (.ops c53_s0) (.seq (.ops c53_s1) (.seq (.ops c53_s2) .ret))), [(.cell 2 (some 3))]⟩
theorem c53_eq : cCF Try.prog 53 1 = some c53 := by kernel_rfl
/-! 69: leapfrog/leapfrogkit.CopyUints -/
@[go_sem] def c69_s0 : List SQ := [⟨some 2, none, .p (.mv (.c .nils))⟩]
@[go_sem] def c69_s1 : List SQ := [⟨some 3, none, .p (.mv (.t 0))⟩, ⟨some 4, none, .e (.app 43 1 8 (.c .nils) (.t 3))⟩, ⟨some 2, none, .p (.mv (.t 4))⟩]
@[go_sem] def c69 : CF := ⟨1, (.seq (.ops c69_s0) (.seq (.ops c69_s1) .ret)), [.tmp 2]⟩
theorem c69_eq : cCF Try.prog 69 1 = some c69 := by kernel_rfl
/-! 25: leapfrog/leapfrogkit.CopyPrograms -/
@[go_sem] def c25_s0 : List SQ := [⟨some 2, none, .p (.mv (.c .nils))⟩]
@[go_sem] def c25_s1 : List SQ := [⟨some 3, none, .p (.mv (.c .nils))⟩]
@[go_sem] def c25_s2 : List SQ := [⟨some 4, none, .p (.mv (.c (.int .i64 0)))⟩]
@[go_sem] def c25_s3 : List SQ := [⟨some 5, none, .p (.mv (.t 4))⟩, ⟨some 6, none, .p (.mv (.t 0))⟩, ⟨some 7, none, .p (.lenv (.t 6))⟩, ⟨some 8, none, .p (.bin .lss 3 false false (.t 5) (.t 7))⟩]
@[go_sem] def c25_s4 : List SQ := [⟨some 11, none, .p (.mv (.t 3))⟩, ⟨some 12, none, .p (.mv (.t 0))⟩, ⟨some 13, none, .p (.mv (.t 4))⟩, ⟨some 14, none, .p (.iadrS 1 (.t 12) (.t 13))⟩, ⟨some 15, none, .r (.ld none (.t 14))⟩, ⟨some 16, none, .cv (.c (.fn (.func 54) [] [])) [(.t 15)]⟩, ⟨some 17, none, .n (.buildS 42 1 1 [.nils] [(0, 1, (.t 16))])⟩, ⟨some 18, none, .e (.app 42 1 24 (.t 11) (.t 17))⟩, ⟨some 3, none, .p (.mv (.t 18))⟩]
@[go_sem] def c25_s5 : List SQ := [⟨some 9, none, .p (.mv (.t 4))⟩, ⟨some 10, none, .p (.bin .add 3 false true (.t 9) (.c (.int .i64 1)))⟩, ⟨some 4, none, .p (.mv (.t 10))⟩]
def c25_l6 : CC := (.seq (.seq (.ops c25_s3) (.cond (.t 8) .skip (.exit 0))) (.seq (.block 1 (.ops c25_s4)) (.ops c25_s5)))
@[go_sem] def c25_s7 : List SQ := [⟨some 19, none, .p (.mv (.t 3))⟩, ⟨some 2, none, .p (.mv (.t 19))⟩]
@[go_sem] def c25 : CF := ⟨1, (.seq (.ops c25_s0) (.seq (.ops c25_s1) (.seq (.seq (.ops c25_s2) (.block 0 (.loop c25_l6))) (.seq (.ops c25_s7) .ret)))), [.tmp 2]⟩
theorem c25_eq : cCF Try.prog 25 1 = some c25 := by kernel_rfl
/-! 54: leapfrog/leapfrogkit.CopyOps -/
@[go_sem] def c54_s0 : List SQ := [⟨some 2, none, .p (.mv (.c .nils))⟩]
@[go_sem] def c54_s1 : List SQ := [⟨some 3, none, .p (.mv (.t 0))⟩, ⟨some 4, none, .e (.app 45 7 56 (.c .nils) (.t 3))⟩, ⟨some 2, none, .p (.mv (.t 4))⟩]
@[go_sem] def c54 : CF := ⟨1, (.seq (.ops c54_s0) (.seq (.ops c54_s1) .ret)), [.tmp 2]⟩
theorem c54_eq : cCF Try.prog 54 1 = some c54 := by kernel_rfl
/-! 26: leapfrog/leapfrogkit.CopyInts -/
@[go_sem] def c26_s0 : List SQ := [⟨some 2, none, .p (.mv (.c .nils))⟩]
@[go_sem] def c26_s1 : List SQ := [⟨some 3, none, .p (.mv (.t 0))⟩, ⟨some 4, none, .e (.app 3 1 8 (.c .nils) (.t 3))⟩, ⟨some 2, none, .p (.mv (.t 4))⟩]
@[go_sem] def c26 : CF := ⟨1, (.seq (.ops c26_s0) (.seq (.ops c26_s1) .ret)), [.tmp 2]⟩
theorem c26_eq : cCF Try.prog 26 1 = some c26 := by kernel_rfl

@[go_sem] def c12_s0 : List SQ := [⟨some 1, none, .n (.box 31 (.t 0))⟩, ⟨some 2, none, .n (.new 31 [.int .i64 0, .int .i64 0, .int .u8 0, .int .i64 0, .int .u8 0, .int .i64 0, .nils, .int .i64 0, .int .i64 0, .int .i64 0, .int .i64 0, .int .i64 0, .int .i64 0, .int .i64 0, .int .i64 0, .int .i64 0, .nils, .nils])⟩]
@[go_sem] def c12_p1 : List (List DQ × Option DQ) := [([⟨0, [(1, none)], none, .p (.fadr 0 (.t 1))⟩, ⟨1, [(3, (some 0))], none, .r (.ld (some 16) (.t 3))⟩, ⟨3, [(1, none)], none, .p (.fadr 16 (.t 1))⟩, ⟨4, [(6, (some 3))], none, .r (.ld none (.t 6))⟩, ⟨6, [(1, none)], none, .p (.fadr 17 (.t 1))⟩, ⟨7, [(9, (some 6))], none, .r (.ld none (.t 9))⟩], (some ⟨2, [(4, (some 1))], none, .cv (.c (.fn (.func 24) [] [])) [(.t 4)]⟩)), ([⟨9, [(1, none)], none, .p (.fadr 0 (.t 1))⟩], (some ⟨5, [(7, (some 4))], none, .cv (.c (.fn (.func 25) [] [])) [(.t 7)]⟩)), ([], (some ⟨8, [(10, (some 7))], none, .cv (.c (.fn (.func 26) [] [])) [(.t 10)]⟩)), ([], (some ⟨10, [(12, (some 9)), (5, (some 2))], none, .e (.st 16 (.t 12) (.t 5))⟩)), ([⟨11, [(1, none)], none, .p (.fadr 16 (.t 1))⟩], (some ⟨12, [(13, (some 11)), (8, (some 5))], none, .e (.st 1 (.t 13) (.t 8))⟩)), ([⟨13, [(1, none)], none, .p (.fadr 17 (.t 1))⟩], (some ⟨14, [(14, (some 13)), (11, (some 8))], none, .e (.st 1 (.t 14) (.t 11))⟩)), ([], none)]
@[go_sem] def c12_s2 : List SQ := [⟨some 15, none, .r (.ld (some 18) (.t 1))⟩, ⟨none, none, .e (.st 18 (.t 2) (.t 15))⟩]
@[go_sem] def c12 : CF := ⟨1, (.seq (.ops c12_s0) (.seq (.drw ⟨c12_p1, [(0, 3), (1, 4), (2, 5), (3, 6), (4, 7), (5, 8), (6, 9), (7, 10), (8, 11), (9, 12), (11, 13), (13, 14)], [(⟨4, [(6, (some 3))], none, .r (.ld none (.t 6))⟩, [1]), (⟨7, [(9, (some 6))], none, .r (.ld none (.t 9))⟩, [1, 2])]⟩) (.seq (.ops c12_s2) .ret))), [(.cell 2 (some 18))]⟩
theorem c12_eq : cCF Try.prog 12 1 = some c12 := by kernel_rfl
theorem getList_of (c : T AV) : ∀ (l : List AV) (o : Nat), (∀ i x, l[i]? = some x → c.get (o + i) = some x) → getList c o l.length = some l
  | [], o, _ => by rw [List.length_nil, getList_zero]
  | x :: l, o, h => by
    have h0 := h 0 x rfl
    rw [Nat.add_zero] at h0
    have ih := getList_of c l (o + 1) fun i y hi => by
      have := h (i + 1) y hi
      rwa [show o + 1 + i = o + (i + 1) by omega]
    rw [List.length_cons, getList_succ, h0]
    simp only [ih]
theorem getList_app {c : T AV} : ∀ {n o m : Nat} {a b : List AV}, getList c o n = some a → getList c (o + n) m = some b → getList c o (n + m) = some (a ++ b)
  | 0, o, m, a, b, h1, h2 => by
    rw [getList_zero] at h1
    simp only [Option.some.injEq] at h1
    subst h1
    rw [Nat.zero_add]
    exact h2
  | n + 1, o, m, a, b, h1, h2 => by
    rw [getList_succ] at h1
    rw [show n + 1 + m = (n + m) + 1 by omega, getList_succ]
    cases hx : c.get o with
    | none => rw [hx] at h1; cases h1
    | some x =>
      rw [hx] at h1
      simp only [] at h1 ⊢
      cases hl : getList c (o + 1) n with
      | none => rw [hl] at h1; cases h1
      | some l =>
        rw [hl] at h1
        simp only [Option.some.injEq] at h1
        subst h1
        have ih := getList_app hl (show getList c (o + 1 + n) m = some b by rw [show o + 1 + n = o + (n + 1) by omega]; exact h2)
        simp only [ih]
        rfl
theorem RdL.src1 {h : H} {v : AV} {xs : List AV} (r : RdL none 1 h v xs) : srcA h.t.get 1 v = some (xs.length, xs) := by
  rcases r with ⟨rfl, rfl⟩ | ⟨a, o, cap, rfl, _, ra⟩
  · rfl
  · cases xs with
    | nil => rfl
    | cons x xs =>
      have key : ∀ cells : T AV, (∀ i y, (x :: xs)[i]? = some y → cells.get (o + i) = some y) → getList cells o ((x :: xs).length * 1) = some (x :: xs) := fun cells hc => by
        rw [Nat.mul_one]
        exact getList_of cells _ o hc
      have h0 := ra 0 x rfl
      have e1 : Nat.beq 1 1 = true := rfl
      have e2 : (x :: xs).length = xs.length + 1 := rfl
      cases hg : h.t.get a with
      | none => unfold ldA at h0; rw [hg] at h0; cases h0
      | some ob =>
        cases ob with
        | row cells len e =>
          have hc : ∀ i y, (x :: xs)[i]? = some y → cells.get (o + i) = some y := fun i y hi => by
            have := ra i y hi
            rw [rLdA, hg, Nat.mul_one] at this
            exact this
          have hk := key cells hc
          unfold srcA
          rw [e2] at hk ⊢
          simp only [e1, cond_true, hg, hk]
        | tab cells =>
          have hc : ∀ i y, (x :: xs)[i]? = some y → cells.get (o + i) = some y := fun i y hi => by
            have := ra i y hi
            rw [rLdA, hg, Nat.mul_one] at this
            exact this
          have hk := key cells hc
          unfold srcA
          rw [e2] at hk ⊢
          simp only [e1, cond_true, hg, hk]
        | _ => unfold ldA at h0; rw [hg] at h0; cases h0
theorem RdL.src7 {h : H} {v : AV} {l : List OpT} (r : RdL (some 7) 7 h v (l.map fun x => .agg (opC x))) : srcA h.t.get 7 v = some (l.length, l.flatMap opC) := by
  rcases r with ⟨rfl, hl⟩ | ⟨a, o, cap, rfl, _, ra⟩
  · rw [List.map_eq_nil_iff] at hl
    subst hl
    rfl
  · rw [List.length_map]
    cases l with
    | nil => rfl
    | cons x xs =>
      have key : ∀ (cells : T AV) (l : List OpT) (o : Nat), (∀ i y, l[i]? = some y → getList cells (o + i * 7) 7 = some (opC y)) → getList cells o (l.length * 7) = some (l.flatMap opC) := fun cells l => by
        induction l with
        | nil => intro o _; rw [List.length_nil, Nat.zero_mul, getList_zero]; rfl
        | cons y l ih =>
          intro o hc
          have h0 := hc 0 y rfl
          rw [Nat.zero_mul, Nat.add_zero] at h0
          have hr := ih (o + 7) fun i z hi => by
            have := hc (i + 1) z hi
            rwa [show o + 7 + i * 7 = o + (i + 1) * 7 by omega]
          rw [List.length_cons, show (l.length + 1) * 7 = 7 + l.length * 7 by omega, List.flatMap_cons]
          exact getList_app h0 hr
      have hx : ∀ i y, (x :: xs)[i]? = some y → both1 (h.t.get a) (ldO (some 7) (o + i * 7)) = some (.agg (opC y)) := fun i y hi => by
        rw [← rLdA]
        exact ra i (.agg (opC y)) (by rw [List.getElem?_map, hi]; rfl)
      have e1 : Nat.beq 7 7 = true := rfl
      have e2 : (x :: xs).length = xs.length + 1 := rfl
      have h0 := hx 0 x rfl
      have fin : ∀ (cells : T AV) i y, both1 (getList cells (o + i * 7) 7) (fun l => some (AV.agg l)) = some (.agg (opC y)) → getList cells (o + i * 7) 7 = some (opC y) := fun cells i y hh => by
        cases hgl : getList cells (o + i * 7) 7 with
        | none => rw [hgl] at hh; cases hh
        | some z =>
          rw [hgl] at hh
          simp only [both1, Option.some.injEq, AV.agg.injEq] at hh
          rw [hh]
      cases hg : h.t.get a with
      | none => rw [hg] at h0; cases h0
      | some ob =>
        rw [hg] at hx h0
        cases ob with
        | row cells len e =>
          have hk := key cells (x :: xs) o fun i y hi => fin cells i y (by have := hx i y hi; rwa [both1_some, rLdOn] at this)
          unfold srcA
          rw [e2] at hk ⊢
          simp only [e1, cond_true, hg, hk]
        | tab cells =>
          have hk := key cells (x :: xs) o fun i y hi => fin cells i y (by have := hx i y hi; rwa [both1_some, rLdOtn] at this)
          unfold srcA
          rw [e2] at hk ⊢
          simp only [e1, cond_true, hg, hk]
        | _ => cases h0
structure PostCp (es : Nat) (e : TypeId) (n : Nat) (cs : List AV) (h : H) (v : AV) (h' : H) : Prop where
  st : StepN h h'
  ow : Own es e h' v n cs
  lo : ∀ b, own v = some b → h.next ≤ b
theorem cp_nil {es bytes n : Nat} {e : TypeId} {h : H} {src : List AV} (hn : n * bytes ≤ 140737488351232) (hle : n ≤ 140737488351232) (hs : src.length = n * es) {K : AV × H → Prop} (hk : ∀ v h', PostCp es e n src h v h' → K (v, h')) : @optI _ (appA h e es bytes .nils n src) ⟨K⟩ := by
  rcases Nat.eq_zero_or_pos n with rfl | hp
  · rw [Nat.zero_mul, List.length_eq_zero_iff] at hs
    subst hs
    exact hk .nils h ⟨⟨Nat.le_refl _, fun _ _ => rfl⟩, .nil, fun b hb => by simp [own] at hb⟩
  · refine opt_some (appA_nil hp (by omega) (by omega)) (hk _ _ ⟨⟨Nat.le_succ _, fun b hb => ?_⟩, ?_, fun b hb => ?_⟩)
    · rw [app_get hb (by simp [own])]
    · have := own_app (src := src) (.nil : Own es e h .nils 0 []) hp hs
      rw [Nat.zero_add, List.nil_append] at this
      exact this
    · rw [own_appV] at hb
      simp only [Option.some.injEq] at hb
      omega
theorem w69 (P : Program) {call : CallE} {h : H} {v : AV} {l : List Int} (hv : RdL none 1 h v (l.map fun x : Int => AV.int .u64 x)) (hl : l.length * 8 ≤ 140737488351232) : WF P call c69 [v] h (PostCp 1 43 l.length (l.map (AV.int .u64)) h) := by
  have hs := hv.src1
  rw [List.length_map] at hs
  simp only [go_sem, ↓reduceIte, ↓reduceDIte, zA, zM, zL, zE, zD, yA, yE, yL, yQ, yT, reduceCtorEq] at hs
  simp only [go_sem, ↓reduceIte, ↓reduceDIte, zA, zM, zL, zE, zD, yA, yE, yL, yQ, yT, reduceCtorEq, c69, hs]
  refine cp_nil hl (by omega) ?_ fun v' h' p => ?_
  · simp
  simp only [go_sem, ↓reduceIte, ↓reduceDIte, zA, zM, zL, zE, zD, yA, yE, yL, yQ, yT, reduceCtorEq]
  exact p
theorem w26 (P : Program) {call : CallE} {h : H} {v : AV} {l : List Int} (hv : RdL none 1 h v (l.map fun x : Int => AV.int .i64 x)) (hl : l.length * 8 ≤ 140737488351232) : WF P call c26 [v] h (PostCp 1 3 l.length (l.map (AV.int .i64)) h) := by
  have hs := hv.src1
  rw [List.length_map] at hs
  simp only [go_sem, ↓reduceIte, ↓reduceDIte, zA, zM, zL, zE, zD, yA, yE, yL, yQ, yT, reduceCtorEq] at hs
  simp only [go_sem, ↓reduceIte, ↓reduceDIte, zA, zM, zL, zE, zD, yA, yE, yL, yQ, yT, reduceCtorEq, c26, hs]
  refine cp_nil hl (by omega) ?_ fun v' h' p => ?_
  · simp
  simp only [go_sem, ↓reduceIte, ↓reduceDIte, zA, zM, zL, zE, zD, yA, yE, yL, yQ, yT, reduceCtorEq]
  exact p
theorem w54 (P : Program) {call : CallE} {h : H} {v : AV} {l : List OpT} (hv : RdL (some 7) 7 h v (l.map fun x => .agg (opC x))) (hl : l.length * 56 ≤ 140737488351232) : WF P call c54 [v] h (PostCp 7 45 l.length (l.flatMap opC) h) := by
  have hs := hv.src7
  have hf : (l.flatMap opC).length = l.length * 7 := by
    clear hv hl hs
    induction l with
    | nil => rfl
    | cons x l ih => rw [List.flatMap_cons, List.length_append, ih, opC_len, List.length_cons]; omega
  simp only [go_sem, ↓reduceIte, ↓reduceDIte, zA, zM, zL, zE, zD, yA, yE, yL, yQ, yT, reduceCtorEq] at hs
  simp only [go_sem, ↓reduceIte, ↓reduceDIte, zA, zM, zL, zE, zD, yA, yE, yL, yQ, yT, reduceCtorEq, c54, hs]
  refine cp_nil hl (by omega) hf fun v' h' p => ?_
  simp only [go_sem, ↓reduceIte, ↓reduceDIte, zA, zM, zL, zE, zD, yA, yE, yL, yQ, yT, reduceCtorEq]
  exact p
theorem PR.push {lo hi : Nat} {h : H} {pv p : AV} {progs : List (List OpT)} {q : List OpT} (s : PR lo hi h pv progs) (h1 : lo ≤ hi) (h2 : hi ≤ h.next) (op : Own 7 45 h p q.length (q.flatMap opC)) (hp : ∀ b, own p = some b → hi ≤ b) :
    ∃ vs, Own 1 42 h pv progs.length vs ∧ PR lo (h.next + 1) (appT h 42 pv (vs ++ [p])) (appV h 1 (progs.length + 1)) (progs ++ [q]) := by
  obtain ⟨vs, p1, p2, p3⟩ := s.ex
  have oa := own_app (src := [p]) p1 (n := 1) (by decide) rfl
  have hvl : vs.length = progs.length := by have := p1.length; omega
  refine ⟨vs, p1, ⟨vs ++ [p], ?_, fun a ha => ?_, fun i v w hv hw => ?_⟩⟩
  · rw [List.length_append]
    exact oa
  · rw [own_appV] at ha
    simp only [Option.some.injEq] at ha
    omega
  · rw [own_appV]
    rcases Nat.lt_or_ge i progs.length with hi | hi
    · rw [List.getElem?_append_left (by omega)] at hv hw
      obtain ⟨k1, k2⟩ := p3 i v w hv hw
      refine ⟨k1.keep (Nat.le_succ _) fun b hb => app_get (by have := k1.lt hb; omega) (k2 b hb).2.2, fun b hb => ?_⟩
      obtain ⟨g1, g2, g3⟩ := k2 b hb
      exact ⟨g1, by omega, fun e => by simp only [Option.some.injEq] at e; omega⟩
    · rw [List.getElem?_append_right (by omega)] at hv hw
      have hi0 : i - progs.length = 0 := by
        have := (List.getElem?_eq_some_iff.1 hw).1
        simp at this
        omega
      rw [hvl, hi0] at hv
      rw [hi0] at hw
      simp only [List.getElem?_cons_zero, Option.some.injEq] at hv hw
      subst hv hw
      refine ⟨op.keep (Nat.le_succ _) fun b hb => app_get (op.lt hb) fun e => by have := (p2 b e).2; have := hp b hb; omega, fun b hb => ?_⟩
      have := op.lt hb
      exact ⟨by have := hp b hb; omega, by omega, fun e => by simp only [Option.some.injEq] at e; omega⟩
structure PostPs (ps : List (List OpT)) (h : H) (v : AV) (h' : H) : Prop where
  st : StepN h h'
  pr : PR h.next h'.next h' v ps
def I25 (h0 : H) (v : AV) (ps : List (List OpT)) (k : Nat) (tm : T AV) (h : H) : Prop :=
  tm.get 0 = some v ∧ ∃ (i : Nat) (pv : AV), i + k = ps.length ∧ tm.get 4 = some (.int .i64 (i : Int)) ∧ tm.get 3 = some pv ∧ StepN h0 h ∧ PR h0.next h.next h pv (ps.take i)
set_option maxRecDepth 4000 in
theorem step25 (P : Program) {call : CallE} (h54 : ∀ h v (l : List OpT), RdL (some 7) 7 h v (l.map fun x => .agg (opC x)) → l.length * 56 ≤ 140737488351232 → ∃ v' h', call 54 [v] h = some (v', h') ∧ PostCp 7 45 l.length (l.flatMap opC) h v' h')
    {h0 : H} {v : AV} {ps : List (List OpT)} (hv : RdP h0 v ps) (hl : ps.length * 24 ≤ 140737488351232) (hz : ∀ p ∈ ps, p.length * 56 ≤ 140737488351232) (k : Nat) (tm : T AV) (h : H) (hI : I25 h0 v ps k tm h) :
    WC P call c25_l6 (loopQ 0 (fun tm h => ∃ j, j < k ∧ I25 h0 v ps j tm h) (fun tm h => ∃ pv, tm.get 3 = some pv ∧ StepN h0 h ∧ PR h0.next h.next h pv ps) (fun _ _ => False)) tm h := by
  obtain ⟨t0, i, pv, hik, t4, t3, st, pr⟩ := hI
  have hv1 := hv.keep st
  obtain ⟨vs, hr, hvl, hve, hlt, hlt2⟩ := hv1
  have hla := hr.lenA
  rw [hvl] at hla
  cases k with
  | zero =>
    have e1 : ¬ (i : Int) < (ps.length : Int) := by omega
    simp only [go_sem, ↓reduceIte, ↓reduceDIte, zA, zM, zL, zE, zD, yA, yE, yL, yQ, yT, reduceCtorEq, c25_l6, t0, t4, hla, e1]
    have hi : i = ps.length := by omega
    rw [hi, List.take_length] at pr
    exact ⟨pv, t3, st, pr⟩
  | succ k =>
    have e1 : (i : Int) < (ps.length : Int) := by omega
    have hi : i < ps.length := by omega
    have hiv : i < vs.length := by omega
    have htl : (ps.take i).length = i := by rw [List.length_take]; omega
    rcases hr with ⟨_, hh⟩ | ⟨a, o, cap, rfl, _, ra⟩
    · subst hh; simp at hiv
    have ha := ra i vs[i] (by simp [hiv])
    have hq := hve i vs[i] ps[i] (by simp [hiv]) (by simp [hi])
    rw [hvl] at t0
    rw [rLdA, Nat.mul_one] at ha
    simp only [go_sem, ↓reduceIte, ↓reduceDIte, zA, zM, zL, zE, zD, yA, yE, yL, yQ, yT, reduceCtorEq, c25_l6, t0, t3, t4, e1, Nat.mul_one, ha]
    refine opt_by (h54 h vs[i] ps[i] hq (hz _ (List.getElem_mem hi))) fun p h1 p1 => ?_
    have one := p1.ow.one
    have st1 := st.trans p1.st
    have nx1 := p1.st.next
    have sn : StepN h1 ⟨h1.next + 1, h1.t.set h1.next (.row (putList 0 [p] T.e) 1 42)⟩ := StepN.new _ _
    have st2 := st1.trans sn
    have n0 := st.next
    have pr2 := pr.keep (h' := ⟨h1.next + 1, h1.t.set h1.next (.row (putList 0 [p] T.e) 1 42)⟩) (Nat.le_succ_of_le nx1) (fun b _ hb => (sn.old b (by omega)).trans (p1.st.old b hb))
    have op2 := Own.grow p1.ow sn
    obtain ⟨ws, oo, pr3⟩ := pr2.push n0 (by show h.next ≤ h1.next + 1; omega) op2 p1.lo
    obtain ⟨_, _, hown, _⟩ := pr.ex
    rw [htl] at oo pr3
    simp only [go_sem, ↓reduceIte, ↓reduceDIte, zA, zM, zL, zE, zD, yA, yE, yL, yQ, yT, reduceCtorEq, one]
    refine opt_some (appA_own oo (by decide) (by decide) (by omega) (by omega)) ?_
    have f1 : fw .i64 ((i : Int) + 1) = (i : Int) + 1 := fwI (by omega) (by omega)
    have e3 : ((i + 1 : Nat) : Int) = (i : Int) + 1 := rfl
    have st3 := st1.app (v := pv) (.row (putList 0 [p] T.e) 1 42) (fun b hb => (hown b hb).1) 42 (ws ++ [p])
    simp only [go_sem, ↓reduceIte, ↓reduceDIte, zA, zM, zL, zE, zD, yA, yE, yL, yQ, yT, reduceCtorEq, t4, f1]
    refine ⟨k, Nat.lt_succ_self k, by simp [go_sem, t0, hvl], i + 1, appV ⟨h1.next + 1, h1.t.set h1.next (.row (putList 0 [p] T.e) 1 42)⟩ 1 (i + 1), by omega, by simp [go_sem, e3], by simp [go_sem], st3, ?_⟩
    rw [List.take_add_one, List.getElem?_eq_getElem hi]
    exact pr3
theorem w25 (P : Program) {call : CallE} (h54 : ∀ h v (l : List OpT), RdL (some 7) 7 h v (l.map fun x => .agg (opC x)) → l.length * 56 ≤ 140737488351232 → ∃ v' h', call 54 [v] h = some (v', h') ∧ PostCp 7 45 l.length (l.flatMap opC) h v' h')
    {h0 : H} {v : AV} {ps : List (List OpT)} (hv : RdP h0 v ps) (hl : ps.length * 24 ≤ 140737488351232) (hz : ∀ p ∈ ps, p.length * 56 ≤ 140737488351232) : WF P call c25 [v] h0 (PostPs ps h0) := by
  simp only [go_sem, ↓reduceIte, ↓reduceDIte, zA, zM, zL, zE, zD, yA, yE, yL, yQ, yT, reduceCtorEq, c25]
  refine loop_in (I25 h0 v ps) _ _ (fun k tm h hI => step25 P h54 hv hl hz k tm h hI) (fun tm2 h2 hR => ?_) (fun _ _ hh => hh.elim) ps.length _ _
    ⟨by simp [go_sem], 0, .nils, by omega, by simp [go_sem], by simp [go_sem], ⟨Nat.le_refl _, fun _ _ => rfl⟩, ⟨[], by rw [List.take_zero]; exact .nil, fun a ha => by simp [own] at ha, fun i x p hx => by simp at hx⟩⟩
  obtain ⟨pv, t3, st, pr⟩ := hR
  simp only [go_sem, ↓reduceIte, ↓reduceDIte, zA, zM, zL, zE, zD, yA, yE, yL, yQ, yT, reduceCtorEq, t3]
  exact ⟨st, pr⟩
def PostD (k n : Int) (l : List Int) (h : H) (v : AV) (h' : H) : Prop := ∃ w, v = .agg [.int .u8 k, .int .i64 n, w] ∧ PostCp 1 43 l.length (l.map (AV.int .u64)) h w h'
theorem PostCp.back {es n : Nat} {e : TypeId} {cs : List AV} {h h1 h2 h3 : H} {v : AV} (p : PostCp es e n cs h1 v h2) (s : StepN h h1) (hn : h2.next ≤ h3.next) (hk : ∀ b, b < h.next → h3.t.get b = h2.t.get b) (hk2 : ∀ b, h1.next ≤ b → b < h2.next → h3.t.get b = h2.t.get b) : PostCp es e n cs h v h3 :=
  ⟨⟨Nat.le_trans s.next (Nat.le_trans p.st.next hn), fun b hb => (hk b hb).trans ((p.st.old b (Nat.lt_of_lt_of_le hb s.next)).trans (s.old b hb))⟩, p.ow.keep hn (fun b hb => hk2 b (p.lo b hb) (p.ow.lt hb)), fun b hb => Nat.le_trans s.next (p.lo b hb)⟩
theorem w53 (P : Program) {call : CallE} (h69 : ∀ h v (l : List Int), RdL none 1 h v (l.map fun x : Int => AV.int .u64 x) → l.length * 8 ≤ 140737488351232 → ∃ v' h', call 69 [v] h = some (v', h') ∧ PostCp 1 43 l.length (l.map (AV.int .u64)) h v' h')
    {h : H} {k n : Int} {v : AV} {l : List Int} (hv : RdL none 1 h v (l.map fun x : Int => AV.int .u64 x)) (hlt : ∀ a, own v = some a → a < h.next) (hl : l.length * 8 ≤ 140737488351232) : WF P call c53 [.agg [.int .u8 k, .int .i64 n, v]] h (PostD k n l h) := by
  have ov := hv.one
  have st : ∀ x y, StepN h ⟨h.next + 2, (h.t.set h.next x).set (h.next + 1) y⟩ := fun x y => ⟨Nat.le_add_right _ _, fun b hb => by
    have e1 : ¬ b = h.next := by omega
    have e2 : ¬ b = h.next + 1 := by omega
    simp only [go_sem, ↓reduceIte, ↓reduceDIte, zA, zM, zL, zE, zD, yA, yE, yL, yQ, yT, reduceCtorEq, e1, e2]⟩
  simp only [go_sem, ↓reduceIte, ↓reduceDIte, zA, zM, zL, zE, zD, yA, yE, yL, yQ, yT, reduceCtorEq, c53, ov]
  refine opt_by (h69 _ v l (hv.keep fun b hb => (st _ _).old b (hlt b hb)) hl) fun w h1 p1 => ?_
  have g0 := p1.st.old h.next (by show h.next < h.next + 2; omega)
  have g1 := p1.st.old (h.next + 1) (by show h.next + 1 < h.next + 2; omega)
  have ow := p1.ow.one
  simp only [go_sem, ↓reduceIte, ↓reduceDIte, zA, zM, zL, zE, zD, yA, yE, yL, yQ, yT, reduceCtorEq] at g0 g1
  simp only [go_sem, ↓reduceIte, ↓reduceDIte, zA, zM, zL, zE, zD, yA, yE, yL, yQ, yT, reduceCtorEq, g0, g1, ow]
  refine ⟨w, rfl, p1.back (st _ _) (Nat.le_refl _) (fun b hb => ?_) (fun b hb hb' => ?_)⟩
  · have e1 : ¬ b = h.next := by omega
    have e2 : ¬ b = h.next + 1 := by omega
    simp only [go_sem, ↓reduceIte, ↓reduceDIte, zA, zM, zL, zE, zD, yA, yE, yL, yQ, yT, reduceCtorEq, e1, e2]
  · have hb : h.next + 2 ≤ b := hb
    have e1 : ¬ b = h.next := by omega
    have e2 : ¬ b = h.next + 1 := by omega
    simp only [go_sem, ↓reduceIte, ↓reduceDIte, zA, zM, zL, zE, zD, yA, yE, yL, yQ, yT, reduceCtorEq, e1, e2]
def PostG (c : CfgT) (h : H) (v : AV) (h' : H) : Prop := ∃ w, v = .agg (cfgC c w) ∧ PostCp 1 43 c.cuts.length (c.cuts.map (AV.int .u64)) h w h'
theorem w24 (P : Program) {call : CallE} (h53 : ∀ h k n v (l : List Int), RdL none 1 h v (l.map fun x : Int => AV.int .u64 x) → (∀ a, own v = some a → a < h.next) → l.length * 8 ≤ 140737488351232 → ∃ v' h', call 53 [.agg [.int .u8 k, .int .i64 n, v]] h = some (v', h') ∧ PostD k n l h v' h')
    {h : H} {c : CfgT} {v : AV} (hv : RdL none 1 h v (c.cuts.map fun x : Int => AV.int .u64 x)) (hlt : ∀ a, own v = some a → a < h.next) (hl : c.cuts.length * 8 ≤ 140737488351232) : WF P call c24 [.agg (cfgC c v)] h (PostG c h) := by
  have ov := hv.one
  have st : ∀ x y, StepN h ⟨h.next + 2, (h.t.set h.next x).set (h.next + 1) y⟩ := fun x y => ⟨Nat.le_add_right _ _, fun b hb => by
    have e1 : ¬ b = h.next := by omega
    have e2 : ¬ b = h.next + 1 := by omega
    simp only [go_sem, ↓reduceIte, ↓reduceDIte, zA, zM, zL, zE, zD, yA, yE, yL, yQ, yT, reduceCtorEq, e1, e2]⟩
  simp only [go_sem, ↓reduceIte, ↓reduceDIte, zA, zM, zL, zE, zD, yA, yE, yL, yQ, yT, reduceCtorEq, c24, ov, cfgC]
  refine opt_by (h53 _ c.kind c.n v c.cuts (hv.keep fun b hb => (st _ _).old b (hlt b hb)) (fun a ha => Nat.lt_of_lt_of_le (hlt a ha) (st _ _).next) hl) fun w' h1 p1 => ?_
  obtain ⟨w, rfl, p1⟩ := p1
  have g0 := p1.st.old h.next (by show h.next < h.next + 2; omega)
  have g1 := p1.st.old (h.next + 1) (by show h.next + 1 < h.next + 2; omega)
  have ow := p1.ow.one
  simp only [go_sem, ↓reduceIte, ↓reduceDIte, zA, zM, zL, zE, zD, yA, yE, yL, yQ, yT, reduceCtorEq] at g0 g1
  simp only [go_sem, ↓reduceIte, ↓reduceDIte, zA, zM, zL, zE, zD, yA, yE, yL, yQ, yT, reduceCtorEq, g0, g1, ow, rowPut]
  refine ⟨w, rfl, p1.back (st _ _) (Nat.le_refl _) (fun b hb => ?_) (fun b hb hb' => ?_)⟩
  · have e1 : ¬ b = h.next := by omega
    have e2 : ¬ b = h.next + 1 := by omega
    simp only [go_sem, ↓reduceIte, ↓reduceDIte, zA, zM, zL, zE, zD, yA, yE, yL, yQ, yT, reduceCtorEq, e1, e2]
  · have hb : h.next + 2 ≤ b := hb
    have e1 : ¬ b = h.next := by omega
    have e2 : ¬ b = h.next + 1 := by omega
    simp only [go_sem, ↓reduceIte, ↓reduceDIte, zA, zM, zL, zE, zD, yA, yE, yL, yQ, yT, reduceCtorEq, e1, e2]
@[go_sem] theorem cfg_put16 (c : CfgT) (w cv a b : AV) : putList 0 (cfgC c w) (putList 0 (cfgC c cv ++ [a, b]) T.e) = putList 0 (cfgC c w ++ [a, b]) T.e := by
  rw [rowPut _ _ _ (by rw [cfg_len16, cfg_len]; decide)]
  rfl
structure PostS (c : CfgT) (ps : List (List OpT)) (ks : List Int) (h : H) (v : AV) (h' : H) : Prop where
  st : StepN h h'
  s : IsS h' v c ps ks
set_option maxRecDepth 4000 in
theorem w12 (P : Program) {call : CallE} (h24 : ∀ h (c : CfgT) v, RdL none 1 h v (c.cuts.map fun x : Int => AV.int .u64 x) → (∀ a, own v = some a → a < h.next) → c.cuts.length * 8 ≤ 140737488351232 → ∃ v' h', call 24 [.agg (cfgC c v)] h = some (v', h') ∧ PostG c h v' h')
    (h25 : ∀ h v ps, RdP h v ps → ps.length * 24 ≤ 140737488351232 → (∀ p ∈ ps, p.length * 56 ≤ 140737488351232) → ∃ v' h', call 25 [v] h = some (v', h') ∧ PostPs ps h v' h')
    (h26 : ∀ h v (l : List Int), RdL none 1 h v (l.map fun x : Int => AV.int .i64 x) → l.length * 8 ≤ 140737488351232 → ∃ v' h', call 26 [v] h = some (v', h') ∧ PostCp 1 3 l.length (l.map (AV.int .i64)) h v' h')
    {h : H} {c : CfgT} {ps : List (List OpT)} {ks : List Int} {v : AV} (hs : IsS h v c ps ks) (sz : Sz c ps ks) : WF P call c12 [v] h (PostS c ps ks h) := by
  obtain ⟨cv, pv, kv, rfl, hc, hclt, hp, hk, hklt⟩ := hs.ex
  have oc := hc.one
  have op := hp.one
  have ok := hk.one
  have st : ∀ x y, StepN h ⟨h.next + 2, (h.t.set h.next x).set (h.next + 1) y⟩ := fun x y => ⟨Nat.le_add_right _ _, fun b hb => by
    have e1 : ¬ b = h.next := by omega
    have e2 : ¬ b = h.next + 1 := by omega
    simp only [go_sem, ↓reduceIte, ↓reduceDIte, zA, zM, zL, zE, zD, yA, yE, yL, yQ, yT, reduceCtorEq, e1, e2]⟩
  simp only [go_sem, ↓reduceIte, ↓reduceDIte, zA, zM, zL, zE, zD, yA, yE, yL, yQ, yT, reduceCtorEq, c12, oc, op, ok]
  refine opt_by (h24 _ c cv (hc.keep fun b hb => (st _ _).old b (hclt b hb)) (fun a ha => Nat.lt_of_lt_of_le (hclt a ha) (st _ _).next) sz.cu) fun w' h1 p1 => ?_
  obtain ⟨cv', rfl, p1⟩ := p1
  have s1 := (st _ _).trans p1.st
  have le1 : h.next + 2 ≤ h1.next := p1.st.next
  have g0 := p1.st.old h.next (by show h.next < h.next + 2; omega)
  have g1 := p1.st.old (h.next + 1) (by show h.next + 1 < h.next + 2; omega)
  simp only [go_sem, ↓reduceIte, ↓reduceDIte, zA, zM, zL, zE, zD, yA, yE, yL, yQ, yT, reduceCtorEq] at g0 g1
  simp only [go_sem, ↓reduceIte, ↓reduceDIte, zA, zM, zL, zE, zD, yA, yE, yL, yQ, yT, reduceCtorEq, le1, g0, g1]
  refine opt_by (h25 _ pv ps (hp.keep s1) sz.pl sz.op) fun pv' h2 p2 => ?_
  have s2 := s1.trans p2.st
  have le2 := p2.st.next
  have g0' := (p2.st.old h.next (by omega)).trans g0
  have g1' := (p2.st.old (h.next + 1) (by omega)).trans g1
  simp only [go_sem, ↓reduceIte, ↓reduceDIte, zA, zM, zL, zE, zD, yA, yE, yL, yQ, yT, reduceCtorEq, le2, g0', g1']
  refine opt_by (h26 _ kv ks (hk.keep fun b hb => s2.old b (hklt b hb)) sz.kl) fun kv' h3 p3 => ?_
  have s3 := s2.trans p3.st
  have le3 := p3.st.next
  have g2 := (p3.st.old h.next (by omega)).trans g0'
  have g3 := (p3.st.old (h.next + 1) (by omega)).trans g1'
  have oc' := p1.ow.one
  obtain ⟨ws, po, hown, pe⟩ := p2.pr.ex
  have op' := po.one
  have ok' := p3.ow.one
  simp only [go_sem, ↓reduceIte, ↓reduceDIte, zA, zM, zL, zE, zD, yA, yE, yL, yQ, yT, reduceCtorEq, le3, g2, g3, oc', op', ok']
  have hk4 : ∀ b, b ≠ h.next → b ≠ h.next + 1 → ((h3.t.set h.next (AO.row (putList 0 (cfgC c cv' ++ [pv', kv']) T.e) 18 31)).set (h.next + 1) (AO.row (putList 0 (cfgC c cv' ++ [pv', kv']) T.e) 18 31)).get b = h3.t.get b := fun b e1 e2 => by
    simp only [go_sem, ↓reduceIte, ↓reduceDIte, zA, zM, zL, zE, zD, yA, yE, yL, yQ, yT, reduceCtorEq, e1, e2]
  refine ⟨⟨by simp [go_sem, g0], by simp [go_sem, g0], by simp [go_sem, g0']⟩, ⟨⟨by show h.next ≤ h3.next; omega, fun b hb => (hk4 b (by omega) (by omega)).trans (s3.old b hb)⟩, ?_⟩⟩
  have c3 := (Own.grow (Own.grow p1.ow p2.st) p3.st).keep (h' := ⟨h3.next, (h3.t.set h.next (AO.row (putList 0 (cfgC c cv' ++ [pv', kv']) T.e) 18 31)).set (h.next + 1) (AO.row (putList 0 (cfgC c cv' ++ [pv', kv']) T.e) 18 31)⟩) (Nat.le_refl _) (fun b hb => hk4 b (by have : h.next + 2 ≤ b := p1.lo b hb; omega) (by have : h.next + 2 ≤ b := p1.lo b hb; omega))
  have k3 := p3.ow.keep (h' := ⟨h3.next, (h3.t.set h.next (AO.row (putList 0 (cfgC c cv' ++ [pv', kv']) T.e) 18 31)).set (h.next + 1) (AO.row (putList 0 (cfgC c cv' ++ [pv', kv']) T.e) 18 31)⟩) (Nat.le_refl _) (fun b hb => hk4 b (by have := p3.lo b hb; omega) (by have := p3.lo b hb; omega))
  have q3 := p2.pr.keep (h' := ⟨h3.next, (h3.t.set h.next (AO.row (putList 0 (cfgC c cv' ++ [pv', kv']) T.e) 18 31)).set (h.next + 1) (AO.row (putList 0 (cfgC c cv' ++ [pv', kv']) T.e) 18 31)⟩) le3 (fun b hb hb' => (hk4 b (by omega) (by omega)).trans (p3.st.old b hb'))
  have hcl := sz.cu
  have hkl := sz.kl
  have hpl := sz.pl
  exact ⟨cv', pv', kv', rfl, Own.rdl1 c3 (by omega), fun b hb => c3.lt hb, PR.rdp q3 (by omega) (fun q hq => by have := sz.op q hq; omega), Own.rdl1 k3 (by omega), fun b hb => k3.lt hb⟩
def I10c (h0 : H) (A : Nat) (k : Nat) (n : Nat) (tm : T AV) (h : H) : Prop :=
  h = h0 ∧ tm.get 1 = some (.ptr A 0) ∧ ∃ (i : Nat) (s : Int), i + k = n ∧ tm.get 4 = some (.int .i64 (i : Int)) ∧ tm.get 3 = some (.int .i64 s)
theorem step10c (P : Program) {call : CallE} {h0 : H} {A : Nat} {c : CfgT} {cv pv kv : AV} {ps : List (List OpT)} (gA : h0.t.get A = some (rowL (cfgC c cv ++ [pv, kv]) 31)) (hv : RdP h0 pv ps) (k : Nat) (tm : T AV) (h : H) (hI : I10c h0 A k ps.length tm h) :
    WC P call c10_l6 (loopQ 0 (fun tm h => ∃ j, j < k ∧ I10c h0 A j ps.length tm h) (fun tm h => h = h0 ∧ ∃ s, tm.get 3 = some (.int .i64 s)) (fun _ _ => False)) tm h := by
  obtain ⟨rfl, t1, i, s, hik, t4, t3⟩ := hI
  obtain ⟨vs, hr, hvl, hve, hlt, hlt2⟩ := hv
  have hla := hr.lenA
  have hle := hr.le
  rw [hvl] at hla hle
  cases k with
  | zero =>
    have e1 : ¬ (i : Int) < (ps.length : Int) := by omega
    simp only [go_sem, ↓reduceIte, ↓reduceDIte, zA, zM, zL, zE, zD, yA, yE, yL, yQ, yT, reduceCtorEq, c10_l6, t1, t4, gA, hla, e1]
    exact ⟨s, t3⟩
  | succ k =>
    have e1 : (i : Int) < (ps.length : Int) := by omega
    have hi : i < ps.length := by omega
    have hiv : i < vs.length := by omega
    rcases hr with ⟨_, hh⟩ | ⟨a, o, cap, rfl, _, ra⟩
    · subst hh; simp at hiv
    have ha := ra i vs[i] (by simp [hiv])
    have hq := (hve i vs[i] ps[i] (by simp [hiv]) (by simp [hi])).lenA
    rw [List.length_map] at hq
    rw [hvl] at gA
    rw [rLdA, Nat.mul_one] at ha
    have f1 : fw .i64 ((i : Int) + 1) = (i : Int) + 1 := fwI (by omega) (by omega)
    have e3 : ((i + 1 : Nat) : Int) = (i : Int) + 1 := rfl
    rw [hvl] at hla
    simp only [go_sem, ↓reduceIte, ↓reduceDIte, zA, zM, zL, zE, zD, yA, yE, yL, yQ, yT, reduceCtorEq, c10_l6, t1, t3, t4, gA, hla, e1, Nat.mul_one, ha, hq, f1]
    exact ⟨k, Nat.lt_succ_self k, rfl, by simp [go_sem, t1], i + 1, fw .i64 (s + (ps[i].length : Int)), by omega, by simp [go_sem, e3], by simp [go_sem]⟩
theorem w10 (P : Program) {call : CallE} {h : H} {c : CfgT} {ps : List (List OpT)} {ks : List Int} {v : AV} (hs : IsS h v c ps ks) : WF P call c10 [v] h fun v' h' => (∃ b : Bool, v' = .bool b) ∧ StepN h h' := by
  obtain ⟨cv, pv, kv, rfl, hc, hclt, hp, hk, hklt⟩ := hs.ex
  have oc := hc.one
  have op := hp.one
  have ok := hk.one
  have lc := hc.lenA
  have lk := hk.lenA
  have lp : lenA pv = some (.int .i64 (ps.length : Int)) := by
    obtain ⟨vs, hr, hvl, _⟩ := hp
    rw [← hvl]
    exact hr.lenA
  have st := StepN.new h (rowL (cfgC c cv ++ [pv, kv]) 31)
  simp only [go_sem, ↓reduceIte, ↓reduceDIte, zA, zM, zL, zE, zD, yA, yE, yL, yQ, yT, reduceCtorEq, c10, oc, op, ok, lc, lk, lp]
  refine loop_in (fun k => I10c ⟨h.next + 1, h.t.set h.next (rowL (cfgC c cv ++ [pv, kv]) 31)⟩ h.next k ps.length) _ _ (fun k tm h' hI => step10c P (c := c) (cv := cv) (kv := kv) (by simp [go_sem]) (hp.keep st) k tm h' hI) (fun tm2 h2 hR => ?_) (fun _ _ hh => hh.elim) ps.length _ _
    ⟨rfl, by simp [go_sem], 0, fw .i64 (fw .i64 ((ps.length : Int) + fw .i64 ((ks.length : Int) / 20)) + (c.cuts.length : Int)), by omega, by simp [go_sem], by simp [go_sem]⟩
  obtain ⟨rfl, s, t3⟩ := hR
  simp only [go_sem, ↓reduceIte, ↓reduceDIte, zA, zM, zL, zE, zD, yA, yE, yL, yQ, yT, reduceCtorEq, t3]
  exact ⟨⟨_, rfl⟩, st⟩
theorem H10 (n : Nat) : ∀ h v c ps ks, IsS h v c ps ks → ∃ v' h', cW (n + 1) 10 [v] h = some (v', h') ∧ ((∃ b : Bool, v' = .bool b) ∧ StepN h h') :=
  fun h v c ps ks hs => callW_of (by kernel_rfl) (by kernel_rfl) c10_eq (w10 Try.prog hs)
end
end Go.Proofs.Ytnmlfhogolonoaa
