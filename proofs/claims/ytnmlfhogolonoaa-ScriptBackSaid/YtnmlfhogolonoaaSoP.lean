/-
  Fields of an operation; the runs of the picks.
-/
import Derived.Test.YtnmlfhogolonoaaSoO
set_option linter.unusedVariables false
set_option linter.unusedSimpArgs false
namespace Go.Proofs.Ytnmlfhogolonoaa
open Go.Proofs.Ytnmlfhogolonoaa.Eo
open Nat renaming reduceAdd → zA, reduceMul → zM, reduceLT → zL, reduceEqDiff → zE, reduceLeDiff → zD
open Int renaming reduceAdd → yA, reduceLE → yE, reduceLT → yL, reduceEq → yQ, reduceToNat → yT
noncomputable section
/-! 30: leapfrog/script.fields -/
@[go_sem] def c30_s0 : List SQ := [⟨some 2, none, .p (.mv (.c .nils))⟩]
@[go_sem] def c30_p1 : List (List DQ × Option DQ) := [([⟨0, [(0, none)], none, .p (.mv (.t 0))⟩, ⟨1, [(3, (some 0))], none, .p (.nilck (.t 3))⟩, ⟨2, [(4, (some 1))], none, .p (.fadr 1 (.t 4))⟩, ⟨3, [(0, none)], none, .p (.mv (.t 0))⟩, ⟨4, [(6, (some 3))], none, .p (.nilck (.t 6))⟩, ⟨5, [(7, (some 4))], none, .p (.fadr 2 (.t 7))⟩, ⟨6, [(0, none)], none, .p (.mv (.t 0))⟩, ⟨7, [(9, (some 6))], none, .p (.nilck (.t 9))⟩, ⟨8, [(10, (some 7))], none, .p (.fadr 3 (.t 10))⟩, ⟨9, [(0, none)], none, .p (.mv (.t 0))⟩, ⟨10, [(12, (some 9))], none, .p (.nilck (.t 12))⟩, ⟨11, [(13, (some 10))], none, .p (.fadr 4 (.t 13))⟩, ⟨12, [(0, none)], none, .p (.mv (.t 0))⟩, ⟨13, [(15, (some 12))], none, .p (.nilck (.t 15))⟩, ⟨14, [(16, (some 13))], none, .p (.fadr 5 (.t 16))⟩, ⟨15, [(0, none)], none, .p (.mv (.t 0))⟩, ⟨16, [(18, (some 15))], none, .p (.nilck (.t 18))⟩, ⟨17, [(19, (some 16))], none, .p (.fadr 6 (.t 19))⟩, ⟨18, [(5, (some 2)), (8, (some 5)), (11, (some 8)), (14, (some 11)), (17, (some 14)), (20, (some 17))], none, .n (.buildS 59 1 6 [.nilp, .nilp, .nilp, .nilp, .nilp, .nilp] [(0, 1, (.t 5)), (1, 1, (.t 8)), (2, 1, (.t 11)), (3, 1, (.t 14)), (4, 1, (.t 17)), (5, 1, (.t 20))])⟩, ⟨19, [(21, (some 18))], none, .p (.mv (.t 21))⟩], none)]
@[go_sem] def c30 : CF := ⟨1, (.seq (.ops c30_s0) (.seq (.drw ⟨c30_p1, [(0, 3), (1, 4), (2, 5), (3, 6), (4, 7), (5, 8), (6, 9), (7, 10), (8, 11), (9, 12), (10, 13), (11, 14), (12, 15), (13, 16), (14, 17), (15, 18), (16, 19), (17, 20), (18, 21), (19, 2)], []⟩) .ret)), [.tmp 2]⟩
theorem c30_eq : cCF Try.prog 30 1 = some c30 := by kernel_rfl
/-! 31: leapfrog/script.runs -/
@[go_sem] def c31_s0 : List SQ := [⟨some 2, none, .p (.mv (.c .nils))⟩]
@[go_sem] def c31_s1 : List SQ := [⟨some 3, none, .p (.mv (.c .nils))⟩]
@[go_sem] def c31_s2 : List SQ := [⟨some 6, none, .p (.mv (.t 0))⟩, ⟨some 7, none, .p (.lenv (.t 6))⟩, ⟨some 8, none, .p (.mv (.c (.int .i64 0)))⟩]
@[go_sem] def c31_s3 : List SQ := [⟨some 9, none, .p (.bin .lss 3 false false (.t 8) (.t 7))⟩]
@[go_sem] def c31_s4 : List SQ := [⟨some 10, none, .p (.mv (.t 8))⟩, ⟨some 11, none, .p (.iadrS 1 (.t 6) (.t 8))⟩, ⟨some 12, none, .r (.ld none (.t 11))⟩, ⟨some 4, none, .p (.mv (.t 10))⟩, ⟨some 5, none, .p (.mv (.t 12))⟩]
@[go_sem] def c31_s5 : List SQ := [⟨some 13, none, .p (.mv (.t 4))⟩, ⟨some 14, none, .p (.bin .gtr 3 false true (.t 13) (.c (.int .i64 0)))⟩, ⟨some 15, none, .p (.mv (.t 14))⟩, ⟨some 16, some (15, true), .p (.mv (.t 0))⟩, ⟨some 17, some (15, true), .p (.mv (.t 4))⟩, ⟨some 18, some (15, true), .p (.bin .sub 3 false true (.t 17) (.c (.int .i64 1)))⟩, ⟨some 19, some (15, true), .p (.iadrS 1 (.t 16) (.t 18))⟩, ⟨some 20, some (15, true), .r (.ld none (.t 19))⟩, ⟨some 21, some (15, true), .p (.mv (.t 5))⟩, ⟨some 22, some (15, true), .p (.bin .eql 3 false false (.t 20) (.t 21))⟩, ⟨some 23, none, .p (.pick (.t 15) (.t 22) (.c (.bool false)))⟩]
@[go_sem] def c31_p6 : List (List DQ × Option DQ) := [([⟨0, [(3, none)], none, .p (.mv (.t 3))⟩, ⟨1, [(3, none)], none, .p (.mv (.t 3))⟩, ⟨2, [(25, (some 1))], none, .p (.lenv (.t 25))⟩, ⟨3, [(26, (some 2))], none, .p (.bin .sub 3 false true (.t 26) (.c (.int .i64 1)))⟩, ⟨4, [(24, (some 0)), (27, (some 3))], none, .p (.iadrS 2 (.t 24) (.t 27))⟩, ⟨5, [(28, (some 4))], none, .p (.iadrA 2 1 (.t 28) (.c (.int .i64 1)))⟩, ⟨6, [(29, (some 5))], none, .r (.ld none (.t 29))⟩, ⟨7, [(30, (some 6))], none, .p (.bin .add 3 false true (.t 30) (.c (.int .i64 1)))⟩, ⟨8, [(24, (some 0)), (27, (some 3))], none, .p (.iadrS 2 (.t 24) (.t 27))⟩, ⟨9, [(32, (some 8))], none, .p (.iadrA 2 1 (.t 32) (.c (.int .i64 1)))⟩], (some ⟨10, [(33, (some 9)), (31, (some 7))], none, .e (.st 1 (.t 33) (.t 31))⟩)), ([], none)]
@[go_sem] def c31_s7 : List SQ := [⟨some 34, none, .p (.mv (.t 3))⟩, ⟨some 35, none, .p (.mv (.t 5))⟩, ⟨some 36, none, .p (.build [.int .i64 0, .int .i64 0] [(0, 1, (.t 35)), (1, 1, (.c (.int .i64 1)))])⟩, ⟨some 37, none, .n (.buildS 62 2 1 [.int .i64 0, .int .i64 0] [(0, 2, (.t 36))])⟩, ⟨some 38, none, .e (.app 62 2 16 (.t 34) (.t 37))⟩, ⟨some 3, none, .p (.mv (.t 38))⟩]
@[go_sem] def c31_s8 : List SQ := [⟨some 39, none, .p (.bin .add 3 false true (.t 8) (.c (.int .i64 1)))⟩, ⟨some 8, none, .p (.mv (.t 39))⟩]
def c31_l9 : CC := (.seq (.ops c31_s3) (.seq (.cond (.t 9) .skip (.exit 0)) (.seq (.block 1 (.seq (.ops c31_s4) (.seq (.seq (.ops c31_s5) (.cond (.t 23) (.seq (.drw ⟨c31_p6, [(0, 24), (1, 25), (2, 26), (3, 27), (4, 28), (5, 29), (6, 30), (7, 31), (8, 32), (9, 33)], []⟩) (.exit 1)) .skip)) (.ops c31_s7)))) (.ops c31_s8))))
@[go_sem] def c31_s10 : List SQ := [⟨some 40, none, .p (.mv (.t 3))⟩, ⟨some 2, none, .p (.mv (.t 40))⟩]
@[go_sem] def c31 : CF := ⟨1, (.seq (.ops c31_s0) (.seq (.ops c31_s1) (.seq (.seq (.ops c31_s2) (.block 0 (.loop c31_l9))) (.seq (.ops c31_s10) .ret)))), [.tmp 2]⟩
theorem c31_eq : cCF Try.prog 31 1 = some c31 := by kernel_rfl

/-- one new object -/
theorem StepN.new (h : H) (x : AO) : StepN h ⟨h.next + 1, h.t.set h.next x⟩ := ⟨Nat.le_add_right _ _, fun b hb => by
  have e1 : ¬ b = h.next := by omega
  simp only [go_sem, ↓reduceIte, ↓reduceDIte, zA, zM, zL, zE, zD, yA, yE, yL, yQ, yT, reduceCtorEq, e1]⟩
theorem w30 (P : Program) {call : CallE} {h : H} {a : Nat} : WF P call c30 [.ptr a 0] h fun v h' => StepN h h' ∧ RdL none 1 h' v [.ptr a 1, .ptr a 2, .ptr a 3, .ptr a 4, .ptr a 5, .ptr a 6] ∧ ∀ b, own v = some b → h.next ≤ b ∧ b < h'.next := by
  simp only [go_sem, ↓reduceIte, ↓reduceDIte, zA, zM, zL, zE, zD, yA, yE, yL, yQ, yT, reduceCtorEq, c30]
  refine ⟨StepN.new _ _, .inr ⟨h.next, 0, some 6, rfl, by show 6 ≤ _; decide, fun i x hi => ?_⟩, fun b hb => by simp only [own, Option.some.injEq] at hb; exact ⟨by omega, by show b < h.next + 1; omega⟩⟩
  rw [rLdA, Nat.mul_one, Nat.zero_add]
  simp only [go_sem, ↓reduceIte, ↓reduceDIte, zA, zM, zL, zE, zD, yA, yE, yL, yQ, yT, reduceCtorEq]
  exact hi

/-- the runs, the last one first -/
def pushR : List (Int × Int) → Int → List (Int × Int)
  | [], x => [(x, 1)]
  | (y, n) :: r, x => if y = x then (y, n + 1) :: r else (x, 1) :: (y, n) :: r
def runR : List (Int × Int) → List Int → List (Int × Int)
  | r, [] => r
  | r, x :: l => runR (pushR r x) l
def runsF (l : List Int) : List (Int × Int) := (runR [] l).reverse
def runC (r : List (Int × Int)) : List AV := r.flatMap fun p => [.int .i64 p.1, .int .i64 p.2]
theorem runC_len (r : List (Int × Int)) : (runC r).length = r.length * 2 := by
  induction r with
  | nil => rfl
  | cons p r ih => rw [runC, List.flatMap_cons, List.length_append, List.length_cons]; rw [runC] at ih; rw [ih]; simp; omega
theorem runC_append (r s : List (Int × Int)) : runC (r ++ s) = runC r ++ runC s := List.flatMap_append
theorem runC_snoc (r : List (Int × Int)) (x n : Int) : runC (r ++ [(x, n)]) = runC r ++ [.int .i64 x, .int .i64 n] := by rw [runC_append]; rfl
def I31 (h0 : H) (v : AV) (l : List Int) (k : Nat) (tm : T AV) (h : H) : Prop :=
  StepN h0 h ∧ ∃ (i : Nat) (w : AV) (r : List (Int × Int)), i + k = l.length ∧ tm.get 0 = some v ∧ tm.get 6 = some v ∧ tm.get 7 = some (.int .i64 (l.length : Int)) ∧ tm.get 8 = some (.int .i64 (i : Int)) ∧ tm.get 3 = some w ∧ Own 2 62 h w r.length (runC r.reverse) ∧ (∀ a, own w = some a → h0.next ≤ a) ∧ r.length ≤ i ∧ runsF l = (runR r (l.drop i)).reverse ∧
    ((i = 0 ∧ r = []) ∨ ∃ y n t, r = (y, n) :: t ∧ l[i - 1]? = some y ∧ 1 ≤ n ∧ n ≤ i)
theorem StepN.app {h0 h : H} {v : AV} (st : StepN h0 h) (x : AO) (hw : ∀ a, own v = some a → h0.next ≤ a) (e : TypeId) (cs : List AV) : StepN h0 (appT ⟨h.next + 1, h.t.set h.next x⟩ e v cs) := by
  refine ⟨by rw [app_next]; have := st.next; show h0.next ≤ h.next + 1 + 1; omega, fun b hb => ?_⟩
  have := st.next
  rw [app_get (by show b < h.next + 1; omega) (fun hh => by have := hw b hh; omega), ← st.old b hb]
  have e0 : ¬ b = h.next := by omega
  simp only [go_sem, ↓reduceIte, ↓reduceDIte, zA, zM, zL, zE, zD, yA, yE, yL, yQ, yT, reduceCtorEq, e0]
theorem appV_own {h h0 : H} {es n : Nat} (hn : h0.next ≤ h.next) : ∀ a, own (appV h es n) = some a → h0.next ≤ a := fun a ha => by
  rw [own_appV] at ha
  simp only [Option.some.injEq] at ha
  omega
theorem step31 (P : Program) {call : CallE} {h0 : H} {v : AV} {l : List Int} (hl : l.length ≤ 65536) (hv : RdL none 1 h0 v (l.map fun x : Int => AV.int .i64 x)) (hvl : ∀ a, own v = some a → a < h0.next) (k : Nat) (tm : T AV) (h : H) (hI : I31 h0 v l k tm h) :
    WC P call c31_l9 (loopQ 0 (fun tm h => ∃ j, j < k ∧ I31 h0 v l j tm h) (fun tm h => StepN h0 h ∧ ∃ w, tm.get 3 = some w ∧ Own 2 62 h w (runsF l).length (runC (runsF l)) ∧ ∀ a, own w = some a → h0.next ≤ a) (fun _ _ => False)) tm h := by
  obtain ⟨st, i, w, r, hik, t0, t6, t7, t8, t3, ow, hw, hri, hrun, hlast⟩ := hI
  have hv' := hv.keep (h' := h) fun b hb => st.old b (hvl b hb)
  have wl := ow.lenA
  cases k with
  | zero =>
    have e1 : ¬ (i : Int) < (l.length : Int) := by omega
    simp only [go_sem, ↓reduceIte, ↓reduceDIte, zA, zM, zL, zE, zD, yA, yE, yL, yQ, yT, reduceCtorEq, c31_l9, t3, t7, t8, e1]
    rw [hrun, List.drop_eq_nil_of_le (by omega)]
    exact ⟨st, w, rfl, by rw [List.length_reverse]; exact ow, hw⟩
  | succ k =>
    have e1 : (i : Int) < (l.length : Int) := by omega
    have hi : i < l.length := by omega
    have hv2 := hv'
    rcases hv' with ⟨_, hh⟩ | ⟨a', o, cap, rfl, _, ra⟩
    · rw [List.map_eq_nil_iff] at hh; subst hh; simp at hi
    have ha := ra i (.int .i64 l[i]) (by simp [hi])
    rw [rLdA, Nat.mul_one] at ha
    have t0' := t0
    have t6' := t6
    rw [List.length_map] at t0' t6'
    have f1 : fw .i64 ((i : Int) + 1) = (i : Int) + 1 := fwI (by omega) (by omega)
    have f2 : fw .i64 ((i : Int) - 1) = (i : Int) - 1 := fwI (by omega) (by omega)
    have e3 : ((i + 1 : Nat) : Int) = (i : Int) + 1 := rfl
    rw [List.drop_eq_getElem_cons hi, runR] at hrun
    have hgrow : r.length ≤ 65536 := by omega
    cases i with
    | zero =>
      obtain ⟨_, rfl⟩ | ⟨y, n, t, rfl, hy, hn1, hn2⟩ := hlast
      case inr => exact absurd hri (by simp)
      have e1z : (0 : Int) < (l.length : Int) := by omega
      have t8z : tm.get 8 = some (.int .i64 0) := t8
      rw [Nat.add_zero] at ha
      have ov1 := ow.keep (h' := ⟨h.next + 1, h.t.set h.next (.row (putList 0 [.int .i64 l[0], .int .i64 1] T.e) 2 62)⟩) (Nat.le_succ _) (fun b hb => by
        have := ow.lt hb
        have e0 : ¬ b = h.next := by omega
        simp only [go_sem, ↓reduceIte, ↓reduceDIte, zA, zM, zL, zE, zD, yA, yE, yL, yQ, yT, reduceCtorEq, e0])
      simp only [go_sem, ↓reduceIte, ↓reduceDIte, zA, zM, zL, zE, zD, yA, yE, yL, yQ, yT, reduceCtorEq, c31_l9, t0', t6', t3, t7, t8z, e1z, Nat.mul_one, Nat.add_zero, ha]
      refine opt_some (appA_own ov1 (by decide) (by decide) (by simp) (by simp)) ?_
      have ov2 := own_app (src := [.int .i64 l[0], .int .i64 1]) ov1 (n := 1) (by decide) rfl
      simp only [go_sem, ↓reduceIte, ↓reduceDIte, zA, zM, zL, zE, zD, yA, yE, yL, yQ, yT, reduceCtorEq, t8z, fl1]
      refine ⟨k, Nat.lt_succ_self k, ?_, 1, _, _, by omega, ?_, ?_, ?_, ?_, ?_, ov2, ?_, Nat.le_refl _, hrun, .inr ⟨l[0], 1, [], rfl, List.getElem?_eq_getElem hi, Int.le_refl _, Int.le_refl _⟩⟩
      · exact st.app _ hw _ _
      · simp only [go_sem, ↓reduceIte, ↓reduceDIte, zA, zM, zL, zE, zD, yA, yE, yL, yQ, yT, reduceCtorEq, t0]
      · simp only [go_sem, ↓reduceIte, ↓reduceDIte, zA, zM, zL, zE, zD, yA, yE, yL, yQ, yT, reduceCtorEq, t6]
      · simp only [go_sem, ↓reduceIte, ↓reduceDIte, zA, zM, zL, zE, zD, yA, yE, yL, yQ, yT, reduceCtorEq, t7]
      · simp only [go_sem, ↓reduceIte, ↓reduceDIte, zA, zM, zL, zE, zD, yA, yE, yL, yQ, yT, reduceCtorEq]
      · simp only [go_sem, ↓reduceIte, ↓reduceDIte, zA, zM, zL, zE, zD, yA, yE, yL, yQ, yT, reduceCtorEq]
      · exact appV_own (Nat.le_succ_of_le st.next)
    | succ j =>
      obtain ⟨h0, _⟩ | ⟨y, n, t, rfl, hy, hn1, hn2⟩ := hlast
      · omega
      have f2 : fw .i64 (((j + 1 : Nat) : Int) - 1) = (j : Int) := by rw [show ((j + 1 : Nat) : Int) - 1 = (j : Int) by omega]; exact fwI (by omega) (by omega)
      have e2 : (0 : Int) < ((j + 1 : Nat) : Int) := by omega
      have e4 : (j : Int) < (l.length : Int) := by omega
      have hj : j < l.length := by omega
      have ha2 := ra j (.int .i64 l[j]) (by simp [hj])
      rw [rLdA, Nat.mul_one] at ha2
      have hy2 : l[j] = y := by rw [Nat.add_sub_cancel, List.getElem?_eq_getElem hj] at hy; exact Option.some.inj hy
      rw [hy2] at ha2
      have hgt : t.length ≤ 65535 := by have := hgrow; rw [List.length_cons] at this; omega
      by_cases hx : y = l[j + 1]
      · subst hx
        generalize hlen : ((l[j + 1], n) :: t).length = len at ow wl
        generalize hcs : runC ((l[j + 1], n) :: t).reverse = cs at ow
        cases ow with
        | nil => cases hlen
        | sl a len cs cap hc h0 hcl hlt hg =>
        rw [List.length_cons] at hlen
        subst hlen
        rw [List.reverse_cons, runC_snoc] at hcs
        subst hcs
        have hcl2 := runC_len t.reverse
        rw [List.length_reverse] at hcl2
        have f3 : fw .i64 (((t.length + 1 : Nat) : Int) - 1) = (t.length : Int) := by rw [show ((t.length + 1 : Nat) : Int) - 1 = (t.length : Int) by omega]; exact fwI (by omega) (by omega)
        have e5 : (t.length : Int) < ((t.length + 1 : Nat) : Int) := by omega
        have c1 : (runC t.reverse ++ [AV.int .i64 l[j + 1], AV.int .i64 n])[t.length * 2 + 1]? = some (AV.int .i64 n) := by rw [List.getElem?_append_right (by omega), hcl2]; simp
        have c2 : ∀ x, (runC t.reverse ++ [AV.int .i64 l[j + 1], AV.int .i64 n]).set (t.length * 2 + 1) x = runC t.reverse ++ [AV.int .i64 l[j + 1], x] := fun x => by rw [List.set_append_right (h := by omega), hcl2]; simp
        have c3 : ∀ x, putList (t.length * 2 + 1) [x] (putList 0 (runC t.reverse ++ [AV.int .i64 l[j + 1], AV.int .i64 n]) T.e) = putList 0 (runC t.reverse ++ [AV.int .i64 l[j + 1], x]) T.e := fun x => by rw [rowPut1 _ _ _ (by rw [List.length_append, hcl2]; simp), c2]
        have e6 : t.length * 2 ≤ (runC t.reverse).length := by omega
        have fn : fw .i64 (n + 1) = n + 1 := fwI (by omega) (by omega)
        simp only [go_sem, ↓reduceIte, ↓reduceDIte, zA, zM, zL, zE, zD, yA, yE, yL, yQ, yT, reduceCtorEq, c31_l9, t0', t6', t3, t7, t8, e1, e2, e4, f1, f2, Nat.mul_one, ha, ha2, f3, e5, hg, c1, e6, c3, fn]
        have hpush : pushR ((l[j + 1], n) :: t) l[j + 1] = (l[j + 1], n + 1) :: t := by rw [pushR, if_pos rfl]
        rw [hpush] at hrun
        have hwa := hw a rfl
        refine ⟨k, Nat.lt_succ_self k, ⟨st.next, fun b hb => ?_⟩, j + 1 + 1, _, (l[j + 1], n + 1) :: t, by omega, ?_, ?_, ?_, ?_, by simp [go_sem, t3], ?_, hw, ?_, hrun, .inr ⟨l[j + 1], n + 1, t, rfl, List.getElem?_eq_getElem hi, by omega, by omega⟩⟩
        · have e0 : ¬ b = a := by omega
          rw [← st.old b hb]
          simp only [go_sem, ↓reduceIte, ↓reduceDIte, zA, zM, zL, zE, zD, yA, yE, yL, yQ, yT, reduceCtorEq, e0]
        · simp only [go_sem, ↓reduceIte, ↓reduceDIte, zA, zM, zL, zE, zD, yA, yE, yL, yQ, yT, reduceCtorEq, t0]
        · simp only [go_sem, ↓reduceIte, ↓reduceDIte, zA, zM, zL, zE, zD, yA, yE, yL, yQ, yT, reduceCtorEq, t6]
        · simp only [go_sem, ↓reduceIte, ↓reduceDIte, zA, zM, zL, zE, zD, yA, yE, yL, yQ, yT, reduceCtorEq, t7]
        · simp only [go_sem, ↓reduceIte, ↓reduceDIte, zA, zM, zL, zE, zD, yA, yE, yL, yQ, yT, reduceCtorEq, e3]
        · rw [List.reverse_cons, runC_snoc]
          refine .sl a _ _ cap hc (Nat.succ_pos _) (by rw [List.length_append, hcl2, List.length_cons]; simp; omega) hlt ?_
          simp only [go_sem, ↓reduceIte, ↓reduceDIte, zA, zM, zL, zE, zD, yA, yE, yL, yQ, yT, reduceCtorEq]
          simp only [rowL, List.length_append, List.length_cons, List.length_nil]
        · rw [List.length_cons] at hri ⊢
          omega
      · have ov1 := ow.keep (h' := ⟨h.next + 1, h.t.set h.next (.row (putList 0 [.int .i64 l[j+1], .int .i64 1] T.e) 2 62)⟩) (Nat.le_succ _) (fun b hb => by
          have := ow.lt hb
          have e0 : ¬ b = h.next := by omega
          simp only [go_sem, ↓reduceIte, ↓reduceDIte, zA, zM, zL, zE, zD, yA, yE, yL, yQ, yT, reduceCtorEq, e0])
        simp only [go_sem, ↓reduceIte, ↓reduceDIte, zA, zM, zL, zE, zD, yA, yE, yL, yQ, yT, reduceCtorEq, c31_l9, t0', t6', t3, t7, t8, e1, e2, e4, f2, Nat.mul_one, ha, ha2, hx]
        refine opt_some (appA_own ov1 (by decide) (by decide) (by omega) (by omega)) ?_
        have ov2 := own_app (src := [.int .i64 l[j + 1], .int .i64 1]) ov1 (n := 1) (by decide) rfl
        rw [← runC_snoc, ← List.reverse_cons] at ov2 ⊢
        simp only [go_sem, ↓reduceIte, ↓reduceDIte, zA, zM, zL, zE, zD, yA, yE, yL, yQ, yT, reduceCtorEq, t8, f1]
        have hpush : pushR ((y, n) :: t) l[j + 1] = (l[j + 1], 1) :: (y, n) :: t := by rw [pushR, if_neg hx]
        rw [hpush] at hrun
        refine ⟨k, Nat.lt_succ_self k, ?_, j + 1 + 1, _, (l[j + 1], 1) :: (y, n) :: t, by omega, ?_, ?_, ?_, ?_, ?_, ov2, ?_, Nat.succ_le_succ hri, hrun, .inr ⟨l[j + 1], 1, (y, n) :: t, rfl, List.getElem?_eq_getElem hi, Int.le_refl _, by omega⟩⟩
        · exact st.app _ hw _ _
        · simp only [go_sem, ↓reduceIte, ↓reduceDIte, zA, zM, zL, zE, zD, yA, yE, yL, yQ, yT, reduceCtorEq, t0]
        · simp only [go_sem, ↓reduceIte, ↓reduceDIte, zA, zM, zL, zE, zD, yA, yE, yL, yQ, yT, reduceCtorEq, t6]
        · simp only [go_sem, ↓reduceIte, ↓reduceDIte, zA, zM, zL, zE, zD, yA, yE, yL, yQ, yT, reduceCtorEq, t7]
        · simp only [go_sem, ↓reduceIte, ↓reduceDIte, zA, zM, zL, zE, zD, yA, yE, yL, yQ, yT, reduceCtorEq, e3]
        · simp only [go_sem, ↓reduceIte, ↓reduceDIte, zA, zM, zL, zE, zD, yA, yE, yL, yQ, yT, reduceCtorEq]
        · exact appV_own (Nat.le_succ_of_le st.next)
def Post31 (l : List Int) (h : H) (v : AV) (h' : H) : Prop := StepN h h' ∧ Own 2 62 h' v (runsF l).length (runC (runsF l)) ∧ ∀ a, own v = some a → h.next ≤ a
theorem w31 (P : Program) {call : CallE} {h : H} {v : AV} {l : List Int} (hl : l.length ≤ 65536) (hv : RdL none 1 h v (l.map fun x : Int => AV.int .i64 x)) (hvl : ∀ a, own v = some a → a < h.next) : WF P call c31 [v] h (Post31 l h) := by
  have vl := hv.lenA
  have ov := hv.one
  rw [List.length_map] at vl
  simp only [go_sem, ↓reduceIte, ↓reduceDIte, zA, zM, zL, zE, zD, yA, yE, yL, yQ, yT, reduceCtorEq, c31, vl, ov]
  refine loop_in (I31 h v l) _ _ (fun k tm h'' hI => step31 P hl hv hvl k tm h'' hI) (fun tm2 h2 hR => ?_) (fun _ _ hh => hh.elim) l.length _ _
    ⟨⟨Nat.le_refl _, fun _ _ => rfl⟩, 0, .nils, [], by omega, ?_, ?_, ?_, ?_, ?_, .nil, by intro a ha; simp [own] at ha, Nat.le_refl _, rfl, .inl ⟨rfl, rfl⟩⟩
  · obtain ⟨st, w, t3, ow, hw⟩ := hR
    simp only [go_sem, ↓reduceIte, ↓reduceDIte, zA, zM, zL, zE, zD, yA, yE, yL, yQ, yT, reduceCtorEq, t3]
    exact ⟨st, ow, hw⟩
  all_goals simp only [go_sem, ↓reduceIte, ↓reduceDIte, zA, zM, zL, zE, zD, yA, yE, yL, yQ, yT, reduceCtorEq]
/-- the lengths of the runs add up -/
theorem runR_sum : ∀ (l : List Int) (r : List (Int × Int)), ((runR r l).map Prod.snd).sum = (r.map Prod.snd).sum + (l.length : Int)
  | [], r => by rw [runR]; simp
  | x :: l, r => by
    rw [runR, runR_sum l]
    cases r with
    | nil => rw [pushR]; simp; omega
    | cons p r =>
      obtain ⟨y, n⟩ := p
      rw [pushR]
      by_cases h : y = x
      · rw [if_pos h]; simp; omega
      · rw [if_neg h]; simp; omega
theorem runR_mem : ∀ (l : List Int) (r : List (Int × Int)) (Q : Int → Prop), (∀ x ∈ l, Q x) → (∀ p ∈ r, Q p.1 ∧ 1 ≤ p.2) → ∀ p ∈ runR r l, Q p.1 ∧ 1 ≤ p.2
  | [], r, Q, _, hr => hr
  | x :: l, r, Q, hl, hr => by
    rw [runR]
    refine runR_mem l _ Q (fun y hy => hl y (List.mem_cons_of_mem _ hy)) ?_
    have hx := hl x (List.mem_cons_self ..)
    cases r with
    | nil => rw [pushR]; intro p hp; simp at hp; subst hp; exact ⟨hx, Int.le_refl _⟩
    | cons q r =>
      obtain ⟨y, n⟩ := q
      rw [pushR]
      have hq := hr (y, n) (List.mem_cons_self ..)
      by_cases h : y = x
      · rw [if_pos h]
        intro p hp
        rcases List.mem_cons.1 hp with rfl | hp
        · exact ⟨hq.1, by have := hq.2; simp only at this ⊢; omega⟩
        · exact hr p (List.mem_cons_of_mem _ hp)
      · rw [if_neg h]
        intro p hp
        rcases List.mem_cons.1 hp with rfl | hp
        · exact ⟨hx, Int.le_refl _⟩
        · exact hr p hp
end
end Go.Proofs.Ytnmlfhogolonoaa
