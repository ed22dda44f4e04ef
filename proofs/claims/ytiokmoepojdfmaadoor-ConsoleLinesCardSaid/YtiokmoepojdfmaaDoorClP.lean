/-
  The line of a call: of the program, of the reference.
-/
import Derived.Test.YtiokmoepojdfmaaDoorClO
set_option linter.unusedVariables false
set_option linter.unusedSimpArgs false
namespace Go.Proofs.YtiokmoepojdfmaaDoor
open Go.Proofs.YtiokmoepojdfmaaDoor.Eo
open Nat renaming reduceAdd → zA, reduceMul → zM, reduceLT → zL, reduceEqDiff → zE, reduceLeDiff → zD
open Int renaming reduceAdd → yA, reduceLE → yE, reduceLT → yL, reduceEq → yQ, reduceToNat → yT
open Go.Lib (decDigits itoa)
noncomputable section
/-! 4: leapfrog/console.Line -/
@[go_sem] def c4_s0 : List SQ := [⟨some 1, none, .n (.box 29 (.t 0))⟩, ⟨some 2, none, .p (.mv (.c (.str ⟨#[]⟩)))⟩, ⟨some 3, none, .p (.mv (.c (.int .i64 0)))⟩]
@[go_sem] def c4_s1 : List SQ := [⟨some 11, none, .p (.fadr 2 (.t 1))⟩, ⟨some 12, none, .r (.ld (some 7) (.t 11))⟩, ⟨some 13, none, .cv (.c (.fn (.func 6) [] [])) [(.t 12)]⟩, ⟨some 10, none, .p (.mv (.t 13))⟩, ⟨some 14, none, .p (.extr (.t 10) 0)⟩, ⟨some 15, none, .p (.extr (.t 10) 1)⟩, ⟨some 4, none, .p (.mv (.t 14))⟩, ⟨some 5, none, .p (.mv (.t 15))⟩]
@[go_sem] def c4_s2 : List SQ := [⟨some 16, none, .p (.mv (.t 5))⟩, ⟨some 17, none, .p (.bin .neq 25 false true (.t 16) (.c (.int .i64 0)))⟩]
@[go_sem] def c4_s3 : List SQ := [⟨some 18, none, .p (.mv (.t 5))⟩, ⟨some 2, none, .p (.mv (.c (.str ⟨#[]⟩)))⟩, ⟨some 3, none, .p (.mv (.t 18))⟩]
@[go_sem] def c4_s4 : List SQ := [⟨some 20, none, .p (.fadr 13 (.t 1))⟩, ⟨some 21, none, .r (.ld (some 5) (.t 20))⟩, ⟨some 22, none, .cv (.c (.fn (.func 7) [] [])) [(.t 21)]⟩, ⟨some 19, none, .p (.mv (.t 22))⟩, ⟨some 23, none, .p (.extr (.t 19) 0)⟩, ⟨some 24, none, .p (.extr (.t 19) 1)⟩, ⟨some 6, none, .p (.mv (.t 23))⟩, ⟨some 5, none, .p (.mv (.t 24))⟩]
@[go_sem] def c4_s5 : List SQ := [⟨some 25, none, .p (.mv (.t 5))⟩, ⟨some 26, none, .p (.bin .neq 25 false true (.t 25) (.c (.int .i64 0)))⟩]
@[go_sem] def c4_s6 : List SQ := [⟨some 27, none, .p (.mv (.t 5))⟩, ⟨some 2, none, .p (.mv (.c (.str ⟨#[]⟩)))⟩, ⟨some 3, none, .p (.mv (.t 27))⟩]
@[go_sem] def c4_s7 : List SQ := [⟨some 28, none, .p (.fadr 0 (.t 1))⟩, ⟨some 29, none, .r (.ld none (.t 28))⟩, ⟨some 30, none, .p (.fadr 1 (.t 1))⟩, ⟨some 31, none, .r (.ld none (.t 30))⟩, ⟨some 32, none, .p (.fadr 9 (.t 1))⟩, ⟨some 33, none, .r (.ld none (.t 32))⟩, ⟨some 34, none, .p (.fadr 10 (.t 1))⟩, ⟨some 35, none, .r (.ld none (.t 34))⟩, ⟨some 36, none, .p (.fadr 11 (.t 1))⟩, ⟨some 37, none, .r (.ld none (.t 36))⟩, ⟨some 38, none, .p (.fadr 12 (.t 1))⟩, ⟨some 39, none, .r (.ld none (.t 38))⟩, ⟨some 40, none, .n (.buildS 3 1 6 [.int .i64 0, .int .i64 0, .int .i64 0, .int .i64 0, .int .i64 0, .int .i64 0] [(0, 1, (.t 29)), (1, 1, (.t 31)), (2, 1, (.t 33)), (3, 1, (.t 35)), (4, 1, (.t 37)), (5, 1, (.t 39))])⟩, ⟨some 7, none, .p (.mv (.t 40))⟩]
@[go_sem] def c4_s8 : List SQ := [⟨some 41, none, .p (.mv (.t 7))⟩, ⟨some 42, none, .p (.lenv (.t 41))⟩, ⟨some 43, none, .p (.mv (.c (.int .i64 0)))⟩]
@[go_sem] def c4_s9 : List SQ := [⟨some 44, none, .p (.bin .lss 3 false false (.t 43) (.t 42))⟩]
@[go_sem] def c4_s10 : List SQ := [⟨some 45, none, .p (.iadrS 1 (.t 41) (.t 43))⟩, ⟨some 46, none, .r (.ld none (.t 45))⟩, ⟨some 9, none, .p (.mv (.t 46))⟩]
@[go_sem] def c4_s11 : List SQ := [⟨some 47, none, .p (.mv (.t 9))⟩, ⟨some 48, none, .p (.bin .lss 3 false true (.t 47) (.c (.int .i64 (-1))))⟩, ⟨some 49, none, .p (.mv (.t 48))⟩, ⟨some 50, some (49, false), .p (.mv (.t 9))⟩, ⟨some 51, some (49, false), .p (.bin .gtr 3 false true (.t 50) (.c (.int .i64 9999999999)))⟩, ⟨some 52, none, .p (.pick (.t 49) (.c (.bool true)) (.t 51))⟩]
@[go_sem] def c4_s12 : List SQ := [⟨some 2, none, .p (.mv (.c (.str ⟨#[]⟩)))⟩, ⟨some 3, none, .p (.mv (.c (.int .i64 2)))⟩]
@[go_sem] def c4_s13 : List SQ := [⟨some 53, none, .p (.bin .add 3 false true (.t 43) (.c (.int .i64 1)))⟩, ⟨some 43, none, .p (.mv (.t 53))⟩]
def c4_l14 : CC := (.seq (.ops c4_s9) (.seq (.cond (.t 44) .skip (.exit 0)) (.seq (.block 1 (.seq (.ops c4_s10) (.seq (.ops c4_s11) (.cond (.t 52) (.seq (.ops c4_s12) .ret) .skip)))) (.ops c4_s13))))
@[go_sem] def c4_s15 : List SQ := [⟨some 54, none, .p (.mv (.t 7))⟩, ⟨some 55, none, .cv (.c (.fn (.func 8) [] [])) [(.t 54)]⟩, ⟨some 56, none, .p (.bin .add 9 false true (.t 55) (.c (.str ⟨#[32]⟩)))⟩, ⟨some 57, none, .p (.mv (.t 4))⟩, ⟨some 58, none, .p (.bin .add 9 false false (.t 56) (.t 57))⟩, ⟨some 59, none, .p (.bin .add 9 false true (.t 58) (.c (.str ⟨#[32, 58, 32]⟩)))⟩, ⟨some 60, none, .p (.mv (.t 6))⟩, ⟨some 61, none, .p (.bin .add 9 false false (.t 59) (.t 60))⟩, ⟨some 2, none, .p (.mv (.t 61))⟩, ⟨some 3, none, .p (.mv (.c (.int .i64 0)))⟩]
@[go_sem] def c4 : CF := ⟨1, (.seq (.ops c4_s0) (.seq (.ops c4_s1) (.seq (.seq (.ops c4_s2) (.cond (.t 17) (.seq (.ops c4_s3) .ret) .skip)) (.seq (.ops c4_s4) (.seq (.seq (.ops c4_s5) (.cond (.t 26) (.seq (.ops c4_s6) .ret) .skip)) (.seq (.ops c4_s7) (.seq (.seq (.ops c4_s8) (.block 0 (.loop c4_l14))) (.seq (.ops c4_s15) .ret)))))))), [.tmp 2, .tmp 3]⟩
theorem c4_eq : cCF Tryd.prog 4 1 = some c4 := by kernel_rfl
/-! 5: leapfrog/leapfrogref45.Line -/
@[go_sem] def c5_s0 : List SQ := [⟨some 1, none, .n (.box 29 (.t 0))⟩, ⟨some 2, none, .p (.mv (.c (.str ⟨#[]⟩)))⟩, ⟨some 3, none, .p (.mv (.c (.int .i64 0)))⟩]
@[go_sem] def c5_s1 : List SQ := [⟨some 9, none, .p (.fadr 2 (.t 1))⟩, ⟨some 10, none, .r (.ld (some 7) (.t 9))⟩, ⟨some 11, none, .cv (.c (.fn (.func 9) [] [])) [(.t 10)]⟩, ⟨some 4, none, .p (.mv (.t 11))⟩]
@[go_sem] def c5_s2 : List SQ := [⟨some 13, none, .p (.fadr 13 (.t 1))⟩, ⟨some 14, none, .r (.ld (some 5) (.t 13))⟩, ⟨some 15, none, .cv (.c (.fn (.func 10) [] [])) [(.t 14)]⟩, ⟨some 12, none, .p (.mv (.t 15))⟩, ⟨some 16, none, .p (.extr (.t 12) 0)⟩, ⟨some 17, none, .p (.extr (.t 12) 1)⟩, ⟨some 5, none, .p (.mv (.t 16))⟩, ⟨some 6, none, .p (.mv (.t 17))⟩]
@[go_sem] def c5_s3 : List SQ := [⟨some 18, none, .p (.mv (.t 6))⟩, ⟨some 19, none, .p (.bin .neq 25 false true (.t 18) (.c (.int .i64 0)))⟩]
@[go_sem] def c5_s4 : List SQ := [⟨some 20, none, .p (.mv (.t 6))⟩, ⟨some 2, none, .p (.mv (.c (.str ⟨#[]⟩)))⟩, ⟨some 3, none, .p (.mv (.t 20))⟩]
@[go_sem] def c5_s5 : List SQ := [⟨some 21, none, .p (.fadr 0 (.t 1))⟩, ⟨some 22, none, .r (.ld none (.t 21))⟩, ⟨some 23, none, .p (.fadr 1 (.t 1))⟩, ⟨some 24, none, .r (.ld none (.t 23))⟩, ⟨some 25, none, .p (.fadr 9 (.t 1))⟩, ⟨some 26, none, .r (.ld none (.t 25))⟩, ⟨some 27, none, .p (.fadr 10 (.t 1))⟩, ⟨some 28, none, .r (.ld none (.t 27))⟩, ⟨some 29, none, .p (.fadr 11 (.t 1))⟩, ⟨some 30, none, .r (.ld none (.t 29))⟩, ⟨some 31, none, .p (.fadr 12 (.t 1))⟩, ⟨some 32, none, .r (.ld none (.t 31))⟩, ⟨some 33, none, .n (.buildS 3 1 6 [.int .i64 0, .int .i64 0, .int .i64 0, .int .i64 0, .int .i64 0, .int .i64 0] [(0, 1, (.t 22)), (1, 1, (.t 24)), (2, 1, (.t 26)), (3, 1, (.t 28)), (4, 1, (.t 30)), (5, 1, (.t 32))])⟩, ⟨some 7, none, .p (.mv (.t 33))⟩]
@[go_sem] def c5_s6 : List SQ := [⟨some 8, none, .p (.mv (.c (.int .i64 0)))⟩]
@[go_sem] def c5_s7 : List SQ := [⟨some 34, none, .p (.mv (.t 8))⟩, ⟨some 35, none, .p (.mv (.t 7))⟩, ⟨some 36, none, .p (.lenv (.t 35))⟩, ⟨some 37, none, .p (.bin .lss 3 false false (.t 34) (.t 36))⟩]
@[go_sem] def c5_s8 : List SQ := [⟨some 40, none, .p (.mv (.t 7))⟩, ⟨some 41, none, .p (.mv (.t 8))⟩, ⟨some 42, none, .p (.iadrS 1 (.t 40) (.t 41))⟩, ⟨some 43, none, .r (.ld none (.t 42))⟩, ⟨some 44, none, .p (.bin .lss 3 false true (.t 43) (.c (.int .i64 (-1))))⟩, ⟨some 45, none, .p (.mv (.t 44))⟩, ⟨some 46, some (45, false), .p (.mv (.t 7))⟩, ⟨some 47, some (45, false), .p (.mv (.t 8))⟩, ⟨some 48, some (45, false), .p (.iadrS 1 (.t 46) (.t 47))⟩, ⟨some 49, some (45, false), .r (.ld none (.t 48))⟩, ⟨some 50, some (45, false), .p (.bin .gtr 3 false true (.t 49) (.c (.int .i64 9999999999)))⟩, ⟨some 51, none, .p (.pick (.t 45) (.c (.bool true)) (.t 50))⟩]
@[go_sem] def c5_s9 : List SQ := [⟨some 2, none, .p (.mv (.c (.str ⟨#[]⟩)))⟩, ⟨some 3, none, .p (.mv (.c (.int .i64 2)))⟩]
@[go_sem] def c5_s10 : List SQ := [⟨some 38, none, .p (.mv (.t 8))⟩, ⟨some 39, none, .p (.bin .add 3 false true (.t 38) (.c (.int .i64 1)))⟩, ⟨some 8, none, .p (.mv (.t 39))⟩]
def c5_l11 : CC := (.seq (.seq (.ops c5_s7) (.cond (.t 37) .skip (.exit 0))) (.seq (.block 1 (.seq (.ops c5_s8) (.cond (.t 51) (.seq (.ops c5_s9) .ret) .skip))) (.ops c5_s10)))
@[go_sem] def c5_s12 : List SQ := [⟨some 52, none, .p (.mv (.t 7))⟩, ⟨some 53, none, .cv (.c (.fn (.func 11) [] [])) [(.t 52)]⟩, ⟨some 54, none, .p (.bin .add 9 false true (.t 53) (.c (.str ⟨#[32]⟩)))⟩, ⟨some 55, none, .p (.mv (.t 4))⟩, ⟨some 56, none, .p (.bin .add 9 false false (.t 54) (.t 55))⟩, ⟨some 57, none, .p (.bin .add 9 false true (.t 56) (.c (.str ⟨#[32, 58, 32]⟩)))⟩, ⟨some 58, none, .p (.mv (.t 5))⟩, ⟨some 59, none, .p (.bin .add 9 false false (.t 57) (.t 58))⟩, ⟨some 2, none, .p (.mv (.t 59))⟩, ⟨some 3, none, .p (.mv (.c (.int .i64 0)))⟩]
@[go_sem] def c5 : CF := ⟨1, (.seq (.ops c5_s0) (.seq (.ops c5_s1) (.seq (.ops c5_s2) (.seq (.seq (.ops c5_s3) (.cond (.t 19) (.seq (.ops c5_s4) .ret) .skip)) (.seq (.ops c5_s5) (.seq (.seq (.ops c5_s6) (.block 0 (.loop c5_l11))) (.seq (.ops c5_s12) .ret))))))), [.tmp 2, .tmp 3]⟩
theorem c5_eq : cCF Tryd.prog 5 1 = some c5 := by kernel_rfl

structure CallT where
  th : Int
  ix : Int
  op : OpT
  iv : Int
  tk : Int
  an : Int
  st : Int
  r : ResT
def callC (c : CallT) : List AV := [.int .i64 c.th, .int .i64 c.ix] ++ (opC c.op ++ ([.int .i64 c.iv, .int .i64 c.tk, .int .i64 c.an, .int .i64 c.st] ++ resC c.r))
@[go_sem] theorem callC_len (c : CallT) : (callC c).length = 18 := rfl
@[go_sem] theorem callC_all (c : CallT) : (callC c).all oneA = true := rfl
@[go_sem] theorem callC_op (c : CallT) : ((callC c).drop 2).take 7 = opC c.op := rfl
@[go_sem] theorem callC_res (c : CallT) : ((callC c).drop 13).take 5 = resC c.r := rfl
@[go_sem] theorem callC_take (c : CallT) : (callC c).take 18 = callC c := rfl
@[go_sem] theorem callC_0 (c : CallT) : (callC c)[0]? = some (.int .i64 c.th) := rfl
@[go_sem] theorem callC_1 (c : CallT) : (callC c)[1]? = some (.int .i64 c.ix) := rfl
@[go_sem] theorem callC_9 (c : CallT) : (callC c)[9]? = some (.int .i64 c.iv) := rfl
@[go_sem] theorem callC_10 (c : CallT) : (callC c)[10]? = some (.int .i64 c.tk) := rfl
@[go_sem] theorem callC_11 (c : CallT) : (callC c)[11]? = some (.int .i64 c.an) := rfl
@[go_sem] theorem callC_12 (c : CallT) : (callC c)[12]? = some (.int .i64 c.st) := rfl
def nums (c : CallT) : List Int := [c.th, c.ix, c.iv, c.tk, c.an, c.st]
def okN (x : Int) : Prop := -1 ≤ x ∧ x ≤ 9999999999
def goodC (c : CallT) : Prop := ¬ badR c.r ∧ ∀ x ∈ nums c, okN x
def lineB (c : CallT) : List UInt8 := rowB (nums c) ++ [32] ++ opB c.op ++ [32, 58, 32] ++ resB c.r
structure PostLn (c : CallT) (h : H) (v : AV) (h' : H) : Prop where
  st : StepN h h'
  bad : ¬ goodC c → v = .tup [.str ⟨#[]⟩, .int .i64 2]
  good : goodC c → v = .tup [.str (strB (lineB c)), .int .i64 0]
structure CallR (c : CallT) : Prop where
  op : opR c.op
  r : ResR c.r
theorem all_ok {l : List Int} (h : ∀ (j : Nat) x, j < l.length → l[j]? = some x → okN x) : ∀ x ∈ l, okN x := fun x hx => by
  obtain ⟨j, hj⟩ := List.getElem?_of_mem hx
  exact h j x (List.getElem?_eq_some_iff.1 hj).1 hj
theorem opB_len {x : OpT} (hx : opR x) : (opB x).length ≤ 1000200 := by
  unfold opB
  split
  · have h := joinL_len (wordB x.1) ((useL x.1).map (fld x)) (fun y hy => by obtain ⟨i, _, rfl⟩ := List.mem_map.1 hy; exact hx.2 i)
    have hw := word_len x.1
    have hu := (useL_lt x.1).2
    rw [List.length_map] at h
    omega
  · have h := joinL_len [111, 112] (x.1 :: [fld x 0, fld x 1, fld x 2, fld x 3, fld x 4, fld x 5]) (opL_U hx)
    have e : (x.1 :: [fld x 0, fld x 1, fld x 2, fld x 3, fld x 4, fld x 5]).length = 7 := rfl
    rw [e] at h
    have e2 : ([111, 112] : List UInt8).length = 2 := rfl
    omega
def IL4 (h0 : H) (v a b : AV) (l : List Int) (k : Nat) (tm : T AV) (h : H) : Prop :=
  h = h0 ∧ tm.get 41 = some v ∧ tm.get 42 = some (.int .i64 (l.length : Int)) ∧ tm.get 7 = some v ∧ tm.get 4 = some a ∧ tm.get 6 = some b ∧ ∃ i : Nat, i + k = l.length ∧ tm.get 43 = some (.int .i64 (i : Int)) ∧ ∀ (j : Nat) x, j < i → l[j]? = some x → okN x
def IL5 (h0 : H) (v a b : AV) (l : List Int) (k : Nat) (tm : T AV) (h : H) : Prop :=
  h = h0 ∧ tm.get 7 = some v ∧ tm.get 4 = some a ∧ tm.get 5 = some b ∧ ∃ i : Nat, i + k = l.length ∧ tm.get 8 = some (.int .i64 (i : Int)) ∧ ∀ (j : Nat) x, j < i → l[j]? = some x → okN x
theorem stepL4 (P : Program) {call : CallE} {h0 : H} {e : TypeId} {v a b : AV} {l : List Int} (hv : Own 1 e h0 v l.length (l.map (AV.int .i64))) (hl2 : l.length ≤ 1000000) (k : Nat) (tm : T AV) (h : H) (hI : IL4 h0 v a b l k tm h) :
    WC P call c4_l14 (loopQ 0 (fun tm h => ∃ j, j < k ∧ IL4 h0 v a b l j tm h) (fun tm h => h = h0 ∧ tm.get 7 = some v ∧ tm.get 4 = some a ∧ tm.get 6 = some b ∧ ∀ x ∈ l, okN x) (fun tm h => h = h0 ∧ tm.get 2 = some (.str ⟨#[]⟩) ∧ tm.get 3 = some (.int .i64 2) ∧ ¬ ∀ x ∈ l, okN x)) tm h := by
  obtain ⟨rfl, t41, t42, t7, t4, t6, i, hik, t43, hok⟩ := hI
  have hla := hv.lenA
  cases k with
  | zero =>
    have e1 : ¬ (i : Int) < (l.length : Int) := by omega
    simp only [go_sem, ↓reduceIte, ↓reduceDIte, zA, zM, zL, zE, zD, yA, yE, yL, yQ, yT, reduceCtorEq, c4_l14, t41, t42, t43, e1]
    exact ⟨t7, t4, t6, all_ok fun j x hj hx => hok j x (by omega) hx⟩
  | succ k =>
    have e1 : (i : Int) < (l.length : Int) := by omega
    have hi : i < l.length := by omega
    have hm : l[i] ∈ l := List.getElem_mem hi
    have hli : l[i]? = some l[i] := List.getElem?_eq_getElem hi
    generalize hcs : l.map (AV.int .i64) = cs at hv
    generalize hln : l.length = n at hv hla
    have hget : cs[i]? = some (.int .i64 l[i]) := by rw [← hcs, List.getElem?_map, List.getElem?_eq_getElem hi]; rfl
    cases hv with
    | nil => omega
    | sl a' len cs cap hc0 hp hcl ha hg =>
      rw [hln] at e1 hik
      rw [hln] at t42
      have f1 : fw .i64 ((i : Int) + 1) = (i : Int) + 1 := fwI (by omega) (by omega)
      have e3 : ((i + 1 : Nat) : Int) = (i : Int) + 1 := rfl
      by_cases b1 : l[i] < -1
      · simp only [go_sem, ↓reduceIte, ↓reduceDIte, zA, zM, zL, zE, zD, yA, yE, yL, yQ, yT, reduceCtorEq, c4_l14, t41, t42, t43, e1, Nat.mul_one, hg, hget, b1]
        exact fun hh => absurd (hh _ hm).1 (by omega)
      by_cases b2 : 9999999999 < l[i]
      · simp only [go_sem, ↓reduceIte, ↓reduceDIte, zA, zM, zL, zE, zD, yA, yE, yL, yQ, yT, reduceCtorEq, c4_l14, t41, t42, t43, e1, Nat.mul_one, hg, hget, b1, b2]
        exact fun hh => absurd (hh _ hm).2 (by omega)
      simp only [go_sem, ↓reduceIte, ↓reduceDIte, zA, zM, zL, zE, zD, yA, yE, yL, yQ, yT, reduceCtorEq, c4_l14, t41, t42, t43, e1, Nat.mul_one, hg, hget, b1, b2, f1]
      refine ⟨k, Nat.lt_succ_self k, rfl, by simp [go_sem, t41], by simp [go_sem, t42, hln], by simp [go_sem, t7], by simp [go_sem, t4], by simp [go_sem, t6], i + 1, by omega, by simp [go_sem, e3], fun j x hj hx => ?_⟩
      by_cases hj2 : j = i
      · subst hj2
        rw [hli] at hx
        simp only [Option.some.injEq] at hx
        subst hx
        exact ⟨by omega, by omega⟩
      · exact hok j x (by omega) hx
theorem stepL5 (P : Program) {call : CallE} {h0 : H} {e : TypeId} {v a b : AV} {l : List Int} (hv : Own 1 e h0 v l.length (l.map (AV.int .i64))) (hl2 : l.length ≤ 1000000) (k : Nat) (tm : T AV) (h : H) (hI : IL5 h0 v a b l k tm h) :
    WC P call c5_l11 (loopQ 0 (fun tm h => ∃ j, j < k ∧ IL5 h0 v a b l j tm h) (fun tm h => h = h0 ∧ tm.get 7 = some v ∧ tm.get 4 = some a ∧ tm.get 5 = some b ∧ ∀ x ∈ l, okN x) (fun tm h => h = h0 ∧ tm.get 2 = some (.str ⟨#[]⟩) ∧ tm.get 3 = some (.int .i64 2) ∧ ¬ ∀ x ∈ l, okN x)) tm h := by
  obtain ⟨rfl, t7, t4, t6, i, hik, t43, hok⟩ := hI
  have hla := hv.lenA
  cases k with
  | zero =>
    have e1 : ¬ (i : Int) < (l.length : Int) := by omega
    simp only [go_sem, ↓reduceIte, ↓reduceDIte, zA, zM, zL, zE, zD, yA, yE, yL, yQ, yT, reduceCtorEq, c5_l11, t7, t43, hla, e1]
    exact ⟨t4, t6, all_ok fun j x hj hx => hok j x (by omega) hx⟩
  | succ k =>
    have e1 : (i : Int) < (l.length : Int) := by omega
    have hi : i < l.length := by omega
    have hm : l[i] ∈ l := List.getElem_mem hi
    have hli : l[i]? = some l[i] := List.getElem?_eq_getElem hi
    generalize hcs : l.map (AV.int .i64) = cs at hv
    generalize hln : l.length = n at hv hla
    have hget : cs[i]? = some (.int .i64 l[i]) := by rw [← hcs, List.getElem?_map, List.getElem?_eq_getElem hi]; rfl
    cases hv with
    | nil => omega
    | sl a' len cs cap hc0 hp hcl ha hg =>
      rw [hln] at e1 hik
      have f1 : fw .i64 ((i : Int) + 1) = (i : Int) + 1 := fwI (by omega) (by omega)
      have e3 : ((i + 1 : Nat) : Int) = (i : Int) + 1 := rfl
      by_cases b1 : l[i] < -1
      · simp only [go_sem, ↓reduceIte, ↓reduceDIte, zA, zM, zL, zE, zD, yA, yE, yL, yQ, yT, reduceCtorEq, c5_l11, t7, t43, hla, e1, Nat.mul_one, hg, hget, b1]
        exact fun hh => absurd (hh _ hm).1 (by omega)
      by_cases b2 : 9999999999 < l[i]
      · simp only [go_sem, ↓reduceIte, ↓reduceDIte, zA, zM, zL, zE, zD, yA, yE, yL, yQ, yT, reduceCtorEq, c5_l11, t7, t43, hla, e1, Nat.mul_one, hg, hget, b1, b2]
        exact fun hh => absurd (hh _ hm).2 (by omega)
      simp only [go_sem, ↓reduceIte, ↓reduceDIte, zA, zM, zL, zE, zD, yA, yE, yL, yQ, yT, reduceCtorEq, c5_l11, t7, t43, hla, e1, Nat.mul_one, hg, hget, b1, b2, f1]
      refine ⟨k, Nat.lt_succ_self k, rfl, by simp [go_sem, t7], by simp [go_sem, t4], by simp [go_sem, t6], i + 1, by omega, by simp [go_sem, e3], fun j x hj hx => ?_⟩
      by_cases hj2 : j = i
      · subst hj2
        rw [hli] at hx
        simp only [Option.some.injEq] at hx
        subst hx
        exact ⟨by omega, by omega⟩
      · exact hok j x (by omega) hx
end
end Go.Proofs.YtiokmoepojdfmaaDoor
