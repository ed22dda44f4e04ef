/-
  What a step of a reader of bytes gives and leaves; take of package script and of its reference.
-/
import Derived.Test.YtnmlfhogolonoaaEoOg
import Derived.Test.YtnmlfhogolonoaaProg
import Derived.WalkKit
set_option linter.unusedVariables false
set_option linter.unusedSimpArgs false
namespace Go.Proofs.Ytnmlfhogolonoaa
open Go.Proofs.Ytnmlfhogolonoaa.Eo
open Nat renaming reduceAdd → zA, reduceMul → zM, reduceLT → zL, reduceEqDiff → zE, reduceLeDiff → zD
open Int renaming reduceAdd → yA, reduceLE → yE, reduceLT → yL, reduceEq → yQ, reduceToNat → yT
noncomputable section
/-! 40: (*leapfrog/script.taker).take -/
@[go_sem] def c40_s0 : List SQ := [⟨some 4, none, .p (.mv (.c (.int .i64 0)))⟩]
@[go_sem] def c40_s1 : List SQ := [⟨some 6, none, .p (.mv (.t 0))⟩, ⟨some 7, none, .p (.nilck (.t 6))⟩, ⟨some 8, none, .p (.fadr 0 (.t 7))⟩, ⟨some 9, none, .r (.ld none (.t 8))⟩, ⟨some 10, none, .p (.bin .eql 9 false true (.t 9) (.c (.str ⟨#[]⟩)))⟩]
@[go_sem] def c40_s2 : List SQ := [⟨some 4, none, .p (.mv (.c (.int .i64 0)))⟩]
@[go_sem] def c40_s3 : List SQ := [⟨some 11, none, .p (.mv (.t 0))⟩, ⟨some 12, none, .p (.nilck (.t 11))⟩, ⟨some 13, none, .p (.fadr 0 (.t 12))⟩, ⟨some 14, none, .r (.ld none (.t 13))⟩, ⟨some 15, none, .s (.idx (.t 14) (.c (.int .i64 0)))⟩, ⟨some 16, none, .p (.conv .i64 (.t 15))⟩, ⟨some 17, none, .p (.mv (.t 1))⟩, ⟨some 18, none, .p (.bin .rem 3 false false (.t 16) (.t 17))⟩, ⟨some 5, none, .p (.mv (.t 18))⟩]
@[go_sem] def c40_s4 : List SQ := [⟨some 19, none, .p (.mv (.t 0))⟩, ⟨some 20, none, .p (.mv (.t 0))⟩, ⟨some 21, none, .p (.nilck (.t 20))⟩, ⟨some 22, none, .p (.fadr 0 (.t 21))⟩, ⟨some 23, none, .r (.ld none (.t 22))⟩, ⟨some 24, none, .s (.slc (.t 23) (some (.c (.int .i64 1))) none)⟩, ⟨some 25, none, .p (.nilck (.t 19))⟩, ⟨some 26, none, .p (.fadr 0 (.t 25))⟩, ⟨none, none, .e (.st 1 (.t 26) (.t 24))⟩]
@[go_sem] def c40_s5 : List SQ := [⟨some 27, none, .p (.mv (.t 5))⟩, ⟨some 4, none, .p (.mv (.t 27))⟩]
@[go_sem] def c40 : CF := ⟨2, (.seq (.ops c40_s0) (.seq (.seq (.ops c40_s1) (.cond (.t 10) (.seq (.ops c40_s2) .ret) .skip)) (.seq (.ops c40_s3) (.seq (.ops c40_s4) (.seq (.ops c40_s5) .ret))))), [.tmp 4]⟩
theorem c40_eq : cCF Try.prog 40 2 = some c40 := by kernel_rfl
/-! 42: (*leapfrog/leapfrogref43.reader).take -/
@[go_sem] def c42_s0 : List SQ := [⟨some 4, none, .p (.mv (.c (.int .i64 0)))⟩]
@[go_sem] def c42_s1 : List SQ := [⟨some 6, none, .p (.mv (.t 0))⟩, ⟨some 7, none, .p (.nilck (.t 6))⟩, ⟨some 8, none, .p (.fadr 0 (.t 7))⟩, ⟨some 9, none, .r (.ld none (.t 8))⟩, ⟨some 10, none, .p (.lens (.t 9))⟩, ⟨some 11, none, .p (.bin .eql 3 false true (.t 10) (.c (.int .i64 0)))⟩]
@[go_sem] def c42_s2 : List SQ := [⟨some 4, none, .p (.mv (.c (.int .i64 0)))⟩]
@[go_sem] def c42_s3 : List SQ := [⟨some 12, none, .p (.mv (.t 0))⟩, ⟨some 13, none, .p (.nilck (.t 12))⟩, ⟨some 14, none, .p (.fadr 0 (.t 13))⟩, ⟨some 15, none, .r (.ld none (.t 14))⟩, ⟨some 16, none, .s (.idx (.t 15) (.c (.int .i64 0)))⟩, ⟨some 17, none, .p (.conv .i64 (.t 16))⟩, ⟨some 5, none, .p (.mv (.t 17))⟩]
@[go_sem] def c42_s4 : List SQ := [⟨some 18, none, .p (.mv (.t 0))⟩, ⟨some 19, none, .p (.mv (.t 0))⟩, ⟨some 20, none, .p (.nilck (.t 19))⟩, ⟨some 21, none, .p (.fadr 0 (.t 20))⟩, ⟨some 22, none, .r (.ld none (.t 21))⟩, ⟨some 23, none, .s (.slc (.t 22) (some (.c (.int .i64 1))) none)⟩, ⟨some 24, none, .p (.nilck (.t 18))⟩, ⟨some 25, none, .p (.fadr 0 (.t 24))⟩, ⟨none, none, .e (.st 1 (.t 25) (.t 23))⟩]
@[go_sem] def c42_s5 : List SQ := [⟨some 26, none, .p (.mv (.t 5))⟩, ⟨some 27, none, .p (.mv (.t 1))⟩, ⟨some 28, none, .p (.bin .rem 3 false false (.t 26) (.t 27))⟩, ⟨some 4, none, .p (.mv (.t 28))⟩]
@[go_sem] def c42 : CF := ⟨2, (.seq (.ops c42_s0) (.seq (.seq (.ops c42_s1) (.cond (.t 11) (.seq (.ops c42_s2) .ret) .skip)) (.seq (.ops c42_s3) (.seq (.ops c42_s4) (.seq (.ops c42_s5) .ret))))), [.tmp 4]⟩
theorem c42_eq : cCF Try.prog 42 2 = some c42 := by kernel_rfl

/-- what is taken: the first byte modulo n, 0 if there is none -/
def vl (r : ByteArray) (n : Int) : Int := if h : 0 < r.size then ((r[0]'h).toNat : Int).tmod n else 0
/-- what is left -/
def nx (r : ByteArray) : ByteArray := if 0 < r.size then subS r 1 r.size else r
theorem vl_bound (r : ByteArray) {n : Int} (hn : 0 < n) : 0 ≤ vl r n ∧ vl r n < n := by
  unfold vl
  split
  · exact ⟨Int.tmod_nonneg _ (Int.natCast_nonneg _), Int.tmod_lt_of_pos _ hn⟩
  · exact ⟨Int.le_refl _, hn⟩
theorem subS_size (r : ByteArray) (l h : Nat) (hh : h ≤ r.size) : (subS r l h).size = h - l := by
  show (((r.data.toList.drop l).take (h - l)).toArray).size = _
  have : r.data.size = r.size := rfl
  rw [List.size_toArray, List.length_take, List.length_drop, Array.length_toList]
  omega
theorem nx_size (r : ByteArray) : (nx r).size = r.size - 1 := by
  unfold nx
  split
  · rw [subS_size _ _ _ (Nat.le_refl _)]
  · omega
def takeK (args : List AV) (h : H) : Option (AV × H) := match args with
  | [.ptr B 0, .int .i64 n] => match h.t.get B with
    | some (.row cells len e) => match cells.get 0 with
      | some (.str r) => if 0 < n ∧ n ≤ 65536 ∧ 0 < len ∧ r.size ≤ 9223372036854775807 then some (.int .i64 (vl r n), ⟨h.next, h.t.set B (.row (cells.set 0 (.str (nx r))) len e)⟩) else none
      | _ => none
    | _ => none
  | _ => none
theorem takeK_inv {args : List AV} {h : H} {v : AV} {h' : H} (e : takeK args h = some (v, h')) : ∃ B n cells len t r, args = [.ptr B 0, .int .i64 n] ∧ h.t.get B = some (.row cells len t) ∧ cells.get 0 = some (.str r) ∧ 0 < n ∧ n ≤ 65536 ∧ 0 < len ∧ r.size ≤ 9223372036854775807 ∧
    v = .int .i64 (vl r n) ∧ h' = ⟨h.next, h.t.set B (.row (cells.set 0 (.str (nx r))) len t)⟩ := by
  unfold takeK at e
  split at e
  · rename_i B n
    split at e
    · rename_i cells len t hB
      split at e
      · rename_i r hc
        split at e
        · rename_i hh
          simp only [Option.some.injEq, Prod.mk.injEq] at e
          obtain ⟨rfl, rfl⟩ := e
          exact ⟨B, n, cells, len, t, r, rfl, hB, hc, hh.1, hh.2.1, hh.2.2.1, hh.2.2.2, rfl, rfl⟩
        · simp at e
      · simp at e
    · simp at e
  · simp at e
theorem bytes_empty {r : ByteArray} : r = ⟨#[]⟩ ↔ r.size = 0 := ⟨fun h => by rw [h]; rfl, fun h => ByteArray.ext (Array.eq_empty_of_size_eq_zero h)⟩
theorem w40 (P : Program) (call : CallE) {args : List AV} {h : H} {v : AV} {h' : H} (e : takeK args h = some (v, h')) : WF P call c40 args h fun v' h'' => v' = v ∧ h'' = h' := by
  obtain ⟨B, n, cells, len, t, r, rfl, hB, hc, hn, hn', hl, hr, rfl, rfl⟩ := takeK_inv e
  clear e
  simp only [go_sem, ↓reduceIte, ↓reduceDIte, zA, zM, zL, zE, zD, yA, yE, yL, yQ, yT, reduceCtorEq, c40, hB, hc, bytes_empty]
  by_cases h0 : r.size = 0
  · have e1 : nx r = r := by unfold nx; rw [if_neg (by omega)]
    have e2 : vl r n = 0 := by unfold vl; rw [dif_neg (by omega)]
    simp only [go_sem, ↓reduceIte, ↓reduceDIte, zA, zM, zL, zE, zD, yA, yE, yL, yQ, yT, reduceCtorEq, h0, e1, e2, decide_true, T.set_id hc, T.set_id hB]
  · have h1 : 0 < r.size := by omega
    have e1 : nx r = subS r 1 r.size := by unfold nx; rw [if_pos h1]
    have e2 : vl r n = ((r[0]'h1).toNat : Int).tmod n := by unfold vl; rw [dif_pos h1]
    have hb := (r[0]'h1).toNat_lt
    have e3 : fw .i64 ((r[0]'h1).toNat : Int) = ((r[0]'h1).toNat : Int) := fwI (by omega) (by omega)
    have h2 : (1 : Int) ≤ (r.size : Int) := by omega
    have h3 : 1 ≤ len := by omega
    have h4 : ¬ n = 0 := by omega
    simp only [go_sem, ↓reduceIte, ↓reduceDIte, zA, zM, zL, zE, zD, yA, yE, yL, yQ, yT, reduceCtorEq, h0, h1, h2, h3, h4, e1, e2, e3, hB, hc, decide_false, decide_true, Int.le_refl, Int.toNat_zero, true_and, ↓reduceDIte, put1, List.length_cons, List.length_nil, Bool.and_self]
theorem w42 (P : Program) (call : CallE) {args : List AV} {h : H} {v : AV} {h' : H} (e : takeK args h = some (v, h')) : WF P call c42 args h fun v' h'' => v' = v ∧ h'' = h' := by
  obtain ⟨B, n, cells, len, t, r, rfl, hB, hc, hn, hn', hl, hr, rfl, rfl⟩ := takeK_inv e
  clear e
  simp only [go_sem, ↓reduceIte, ↓reduceDIte, zA, zM, zL, zE, zD, yA, yE, yL, yQ, yT, reduceCtorEq, c42, hB, hc]
  by_cases h0 : r.size = 0
  · have e1 : nx r = r := by unfold nx; rw [if_neg (by omega)]
    have e2 : vl r n = 0 := by unfold vl; rw [dif_neg (by omega)]
    have h5 : (r.size : Int) = 0 := by omega
    simp only [go_sem, ↓reduceIte, ↓reduceDIte, zA, zM, zL, zE, zD, yA, yE, yL, yQ, yT, reduceCtorEq, h5, e1, e2, decide_true, T.set_id hc, T.set_id hB]
  · have h1 : 0 < r.size := by omega
    have e1 : nx r = subS r 1 r.size := by unfold nx; rw [if_pos h1]
    have e2 : vl r n = ((r[0]'h1).toNat : Int).tmod n := by unfold vl; rw [dif_pos h1]
    have hb := (r[0]'h1).toNat_lt
    have e3 : fw .i64 ((r[0]'h1).toNat : Int) = ((r[0]'h1).toNat : Int) := fwI (by omega) (by omega)
    have h2 : (1 : Int) ≤ (r.size : Int) := by omega
    have h3 : 1 ≤ len := by omega
    have h4 : ¬ n = 0 := by omega
    have h5 : ¬ (r.size : Int) = 0 := by omega
    simp only [go_sem, ↓reduceIte, ↓reduceDIte, zA, zM, zL, zE, zD, yA, yE, yL, yQ, yT, reduceCtorEq, h0, h1, h2, h3, h4, h5, e1, e2, e3, hB, hc, decide_false, decide_true, Int.le_refl, Int.toNat_zero, true_and, ↓reduceDIte, put1, List.length_cons, List.length_nil, Bool.and_self]
end
end Go.Proofs.Ytnmlfhogolonoaa
