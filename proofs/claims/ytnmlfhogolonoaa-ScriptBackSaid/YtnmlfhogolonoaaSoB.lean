/-
  An operation: of package script, and of its reference.
-/
import Derived.Test.YtnmlfhogolonoaaSoA
set_option linter.unusedVariables false
set_option linter.unusedSimpArgs false
namespace Go.Proofs.Ytnmlfhogolonoaa
open Go.Proofs.Ytnmlfhogolonoaa.Eo
open Nat renaming reduceAdd → zA, reduceMul → zM, reduceLT → zL, reduceEqDiff → zE, reduceLeDiff → zD
open Int renaming reduceAdd → yA, reduceLE → yE, reduceLT → yL, reduceEq → yQ, reduceToNat → yT
noncomputable section
/-! 63: leapfrog/script.operation$1 -/
@[go_sem] def c63_s0 : List SQ := [⟨some 3, none, .p (.mv (.c (.int .u64 0)))⟩]
@[go_sem] def c63_s1 : List SQ := [⟨some 4, none, .r (.ld none (.t 1))⟩, ⟨some 5, none, .p (.mv (.t 0))⟩, ⟨some 6, none, .cv (.t 4) [(.t 5)]⟩, ⟨some 7, none, .p (.conv .u64 (.t 6))⟩, ⟨some 3, none, .p (.mv (.t 7))⟩]
@[go_sem] def c63 : CF := ⟨2, (.seq (.ops c63_s0) (.seq (.ops c63_s1) .ret)), [.tmp 3]⟩
theorem c63_eq : cCF Try.prog 63 2 = some c63 := by kernel_rfl
/-! 41: leapfrog/script.operation -/
@[go_sem] def c41_s0 : List SQ := [⟨some 1, none, .n (.box 73 (.t 0))⟩, ⟨some 2, none, .n (.new 45 [.int .u8 0, .int .u64 0, .int .u64 0, .int .u64 0, .int .u64 0, .int .u64 0, .int .u64 0])⟩]
@[go_sem] def c41_s1 : List SQ := [⟨some 5, none, .p (.mkfn (.func 63) [] [(.t 1)])⟩, ⟨some 3, none, .p (.mv (.t 5))⟩]
@[go_sem] def c41_s2 : List SQ := [⟨some 6, none, .r (.ld none (.t 1))⟩, ⟨some 7, none, .cv (.t 6) [(.c (.int .i64 15))]⟩, ⟨some 8, none, .p (.bin .add 3 true false (.c (.int .i64 1)) (.t 7))⟩, ⟨some 9, none, .p (.conv .u8 (.t 8))⟩, ⟨some 10, none, .p (.build [.int .u8 0, .int .u64 0, .int .u64 0, .int .u64 0, .int .u64 0, .int .u64 0, .int .u64 0] [(0, 1, (.t 9))])⟩, ⟨some 4, none, .n (.new 45 [.int .u8 0, .int .u64 0, .int .u64 0, .int .u64 0, .int .u64 0, .int .u64 0, .int .u64 0])⟩, ⟨none, none, .e (.st 7 (.t 4) (.t 10))⟩]
@[go_sem] def c41_s3 : List SQ := [⟨some 11, none, .p (.fadr 0 (.t 4))⟩, ⟨some 12, none, .r (.ld none (.t 11))⟩]
@[go_sem] def c41_s4 : List SQ := [⟨some 14, none, .p (.bin .eql 5 false true (.t 12) (.c (.int .u8 3)))⟩, ⟨some 13, none, .p (.mv (.t 14))⟩]
@[go_sem] def c41_s5 : List SQ := [⟨some 15, none, .p (.bin .eql 5 false true (.t 12) (.c (.int .u8 6)))⟩, ⟨some 13, none, .p (.mv (.t 15))⟩]
@[go_sem] def c41_s6 : List SQ := [⟨some 16, none, .p (.bin .eql 5 false true (.t 12) (.c (.int .u8 13)))⟩, ⟨some 13, none, .p (.mv (.t 16))⟩]
@[go_sem] def c41_s7 : List SQ := [⟨some 17, none, .p (.mv (.t 3))⟩, ⟨some 18, none, .cv (.t 17) [(.c (.int .i64 12))]⟩, ⟨some 19, none, .p (.fadr 1 (.t 4))⟩, ⟨none, none, .e (.st 1 (.t 19) (.t 18))⟩]
@[go_sem] def c41_s8 : List SQ := [⟨some 21, none, .p (.bin .eql 5 false true (.t 12) (.c (.int .u8 4)))⟩, ⟨some 20, none, .p (.mv (.t 21))⟩]
@[go_sem] def c41_s9 : List SQ := [⟨some 22, none, .p (.bin .eql 5 false true (.t 12) (.c (.int .u8 5)))⟩, ⟨some 20, none, .p (.mv (.t 22))⟩]
@[go_sem] def c41_s10 : List SQ := [⟨some 23, none, .p (.mv (.t 3))⟩, ⟨some 24, none, .cv (.t 23) [(.c (.int .i64 12))]⟩, ⟨some 25, none, .p (.fadr 1 (.t 4))⟩, ⟨none, none, .e (.st 1 (.t 25) (.t 24))⟩]
@[go_sem] def c41_s11 : List SQ := [⟨some 26, none, .p (.mv (.t 3))⟩, ⟨some 27, none, .cv (.t 26) [(.c (.int .i64 8))]⟩, ⟨some 28, none, .p (.fadr 3 (.t 4))⟩, ⟨none, none, .e (.st 1 (.t 28) (.t 27))⟩]
@[go_sem] def c41_s12 : List SQ := [⟨some 29, none, .p (.mv (.t 3))⟩, ⟨some 30, none, .cv (.t 29) [(.c (.int .i64 16))]⟩, ⟨some 31, none, .p (.fadr 6 (.t 4))⟩, ⟨none, none, .e (.st 1 (.t 31) (.t 30))⟩]
@[go_sem] def c41_s13 : List SQ := [⟨some 33, none, .p (.bin .eql 5 false true (.t 12) (.c (.int .u8 7)))⟩, ⟨some 32, none, .p (.mv (.t 33))⟩]
@[go_sem] def c41_s14 : List SQ := [⟨some 34, none, .p (.mv (.t 3))⟩, ⟨some 35, none, .cv (.t 34) [(.c (.int .i64 12))]⟩, ⟨some 36, none, .p (.fadr 1 (.t 4))⟩, ⟨none, none, .e (.st 1 (.t 36) (.t 35))⟩]
@[go_sem] def c41_s15 : List SQ := [⟨some 37, none, .p (.mv (.t 3))⟩, ⟨some 38, none, .cv (.t 37) [(.c (.int .i64 8))]⟩, ⟨some 39, none, .p (.fadr 3 (.t 4))⟩, ⟨none, none, .e (.st 1 (.t 39) (.t 38))⟩]
@[go_sem] def c41_s16 : List SQ := [⟨some 40, none, .p (.mv (.t 3))⟩, ⟨some 41, none, .cv (.t 40) [(.c (.int .i64 8))]⟩, ⟨some 42, none, .p (.fadr 4 (.t 4))⟩, ⟨none, none, .e (.st 1 (.t 42) (.t 41))⟩]
@[go_sem] def c41_s17 : List SQ := [⟨some 44, none, .p (.bin .eql 5 false true (.t 12) (.c (.int .u8 8)))⟩, ⟨some 43, none, .p (.mv (.t 44))⟩]
@[go_sem] def c41_s18 : List SQ := [⟨some 45, none, .p (.mv (.t 3))⟩, ⟨some 46, none, .cv (.t 45) [(.c (.int .i64 12))]⟩, ⟨some 47, none, .p (.fadr 1 (.t 4))⟩, ⟨none, none, .e (.st 1 (.t 47) (.t 46))⟩]
@[go_sem] def c41_p19 : List (List DQ × Option DQ) := [([⟨0, [(4, none)], none, .p (.fadr 1 (.t 4))⟩, ⟨1, [(48, (some 0))], none, .r (.ld none (.t 48))⟩, ⟨2, [(3, none)], none, .p (.mv (.t 3))⟩], (some ⟨3, [(50, (some 2))], none, .cv (.t 50) [(.c (.int .i64 8))]⟩)), ([⟨4, [(49, (some 1)), (51, (some 3))], none, .p (.bin .add 43 false false (.t 49) (.t 51))⟩, ⟨5, [(4, none)], none, .p (.fadr 2 (.t 4))⟩], (some ⟨6, [(53, (some 5)), (52, (some 4))], none, .e (.st 1 (.t 53) (.t 52))⟩)), ([], none)]
@[go_sem] def c41_s20 : List SQ := [⟨some 54, none, .p (.mv (.t 3))⟩, ⟨some 55, none, .cv (.t 54) [(.c (.int .i64 6))]⟩, ⟨some 56, none, .p (.bin .add 43 true false (.c (.int .u64 1)) (.t 55))⟩, ⟨some 57, none, .p (.fadr 5 (.t 4))⟩, ⟨none, none, .e (.st 1 (.t 57) (.t 56))⟩]
@[go_sem] def c41_s21 : List SQ := [⟨some 58, none, .p (.mv (.t 3))⟩, ⟨some 59, none, .cv (.t 58) [(.c (.int .i64 16))]⟩, ⟨some 60, none, .p (.fadr 6 (.t 4))⟩, ⟨none, none, .e (.st 1 (.t 60) (.t 59))⟩]
@[go_sem] def c41_s22 : List SQ := [⟨some 62, none, .p (.bin .eql 5 false true (.t 12) (.c (.int .u8 9)))⟩, ⟨some 61, none, .p (.mv (.t 62))⟩]
@[go_sem] def c41_s23 : List SQ := [⟨some 63, none, .p (.bin .eql 5 false true (.t 12) (.c (.int .u8 11)))⟩, ⟨some 61, none, .p (.mv (.t 63))⟩]
@[go_sem] def c41_s24 : List SQ := [⟨some 64, none, .p (.mv (.t 3))⟩, ⟨some 65, none, .cv (.t 64) [(.c (.int .i64 12))]⟩, ⟨some 66, none, .p (.fadr 1 (.t 4))⟩, ⟨none, none, .e (.st 1 (.t 66) (.t 65))⟩]
@[go_sem] def c41_p25 : List (List DQ × Option DQ) := [([⟨0, [(4, none)], none, .p (.fadr 1 (.t 4))⟩, ⟨1, [(67, (some 0))], none, .r (.ld none (.t 67))⟩, ⟨2, [(3, none)], none, .p (.mv (.t 3))⟩], (some ⟨3, [(69, (some 2))], none, .cv (.t 69) [(.c (.int .i64 8))]⟩)), ([⟨4, [(68, (some 1)), (70, (some 3))], none, .p (.bin .add 43 false false (.t 68) (.t 70))⟩, ⟨5, [(4, none)], none, .p (.fadr 2 (.t 4))⟩], (some ⟨6, [(72, (some 5)), (71, (some 4))], none, .e (.st 1 (.t 72) (.t 71))⟩)), ([], none)]
@[go_sem] def c41_s26 : List SQ := [⟨some 73, none, .r (.ld (some 7) (.t 4))⟩, ⟨none, none, .e (.st 7 (.t 2) (.t 73))⟩]
@[go_sem] def c41 : CF := ⟨1, (.seq (.ops c41_s0) (.seq (.ops c41_s1) (.seq (.ops c41_s2) (.seq (.seq (.ops c41_s3) (.block 0 (.seq (.seq (.ops c41_s4) (.cond (.t 13) .skip (.seq (.ops c41_s5) (.cond (.t 13) .skip (.ops c41_s6))))) (.cond (.t 13) (.ops c41_s7) (.seq (.seq (.ops c41_s8) (.cond (.t 20) .skip (.ops c41_s9))) (.cond (.t 20) (.seq (.ops c41_s10) (.seq (.ops c41_s11) (.ops c41_s12))) (.seq (.ops c41_s13) (.cond (.t 32) (.seq (.ops c41_s14) (.seq (.ops c41_s15) (.ops c41_s16))) (.seq (.ops c41_s17) (.cond (.t 43) (.seq (.ops c41_s18) (.seq (.drw ⟨c41_p19, [(0, 48), (1, 49), (2, 50), (3, 51), (4, 52), (5, 53)], [(⟨1, [(48, (some 0))], none, .r (.ld none (.t 48))⟩, [1])]⟩) (.seq (.ops c41_s20) (.ops c41_s21)))) (.seq (.seq (.ops c41_s22) (.cond (.t 61) .skip (.ops c41_s23))) (.cond (.t 61) (.seq (.ops c41_s24) (.drw ⟨c41_p25, [(0, 67), (1, 68), (2, 69), (3, 70), (4, 71), (5, 72)], [(⟨1, [(67, (some 0))], none, .r (.ld none (.t 67))⟩, [1])]⟩)) .skip)))))))))))) (.seq (.ops c41_s26) .ret))))), [(.cell 2 (some 7))]⟩
theorem c41_eq : cCF Try.prog 41 1 = some c41 := by kernel_rfl

/-- an operation's seven numbers -/
abbrev OpT := Int × Int × Int × Int × Int × Int × Int
def opC (x : OpT) : List AV := [.int .u8 x.1, .int .u64 x.2.1, .int .u64 x.2.2.1, .int .u64 x.2.2.2.1, .int .u64 x.2.2.2.2.1, .int .u64 x.2.2.2.2.2.1, .int .u64 x.2.2.2.2.2.2]
/-- an operation that is read, and what is left -/
def opS (r : ByteArray) : OpT × ByteArray :=
  let x := vl r 15
  let a := nx r
  if x = 2 ∨ x = 5 ∨ x = 12 then ((x + 1, vl a 12, 0, 0, 0, 0, 0), nx a)
  else if x = 3 ∨ x = 4 then ((x + 1, vl a 12, 0, vl (nx a) 8, 0, 0, vl (nx (nx a)) 16), nx (nx (nx a)))
  else if x = 6 then ((7, vl a 12, 0, vl (nx a) 8, vl (nx (nx a)) 8, 0, 0), nx (nx (nx a)))
  else if x = 7 then ((8, vl a 12, vl a 12 + vl (nx a) 8, 0, 0, 1 + vl (nx (nx a)) 6, vl (nx (nx (nx a))) 16), nx (nx (nx (nx a))))
  else if x = 8 ∨ x = 10 then ((x + 1, vl a 12, vl a 12 + vl (nx a) 8, 0, 0, 0, 0), nx (nx a))
  else ((x + 1, 0, 0, 0, 0, 0, 0), a)
def numK (args : List AV) (h : H) : Option (AV × H) := match args with
  | [.int .i64 n, .ptr bx 0] => match h.t.get bx with
    | some (.row cells _ _) => match cells.get 0 with
      | some (.fn (.func 40) [.ptr B 0] []) => match takeK [.ptr B 0, .int .i64 n] h with
        | some (.int _ m, h') => some (.int .u64 m, h')
        | _ => none
      | _ => none
    | _ => none
  | _ => none
theorem w63 (P : Program) {call : CallE} (h40 : Has call 40 takeK) {args : List AV} {h : H} {v : AV} {h' : H} (e : numK args h = some (v, h')) : WF P call c63 args h fun v' h'' => v' = v ∧ h'' = h' := by
  unfold numK at e
  split at e
  · rename_i n bx
    split at e
    · rename_i cells len t hbx
      split at e
      · rename_i B hfn
        split at e
        · rename_i k m h1 htake
          simp only [Option.some.injEq, Prod.mk.injEq] at e
          obtain ⟨rfl, rfl⟩ := e
          have hcall := h40 _ _ _ _ htake
          obtain ⟨B', n', cells', len', t', r, e1, hB, hc, hn, hn', hl, hr, e2, e3⟩ := takeK_inv htake
          simp only [List.cons.injEq, AV.ptr.injEq, AV.int.injEq, and_true, true_and] at e1
          obtain ⟨rfl, rfl⟩ := e1
          simp only [AV.int.injEq] at e2
          obtain ⟨rfl, rfl⟩ := e2
          obtain ⟨b0, b1⟩ := vl_bound r hn
          have hf : fw .u64 (vl r n) = vl r n := fwU b0 (by omega)
          clear htake
          simp only [go_sem, ↓reduceIte, ↓reduceDIte, zA, zM, zL, zE, zD, yA, yE, yL, yQ, yT, reduceCtorEq, c63, hbx, hfn, hcall, hf]
        · simp at e
      · simp at e
    · simp at e
  · simp at e

theorem nx_le {r : ByteArray} {m : Nat} (h : r.size ≤ m) : (nx r).size ≤ m := by rw [nx_size]; omega
/-- behind an operation that is read -/
structure StepB (B t : Nat) (r' : ByteArray) (h h' : H) : Prop where
  next : h.next ≤ h'.next
  old : ∀ b, b < h.next → b ≠ B → h'.t.get b = h.t.get b
  box : h'.t.get B = some (rowL [.str r'] t)
def Post41 (B t : Nat) (r : ByteArray) (h : H) (v : AV) (h' : H) : Prop := v = .agg (opC (opS r).1) ∧ StepB B t (opS r).2 h h'

theorem w41_0 (P : Program) {call : CallE} (h40 : Has call 40 takeK) (h63 : Has call 63 numK) {h : H} {B t : Nat} {r : ByteArray} (hB : h.t.get B = some (rowL [.str r] t)) (hlt : B < h.next) (hr : r.size ≤ 9223372036854775807) (hx : vl r 15 = 0) :
    WF P call c41 [.fn (.func 40) [.ptr B 0] []] h (Post41 B t r h) := by
  have C40 : ∀ args h, (takeK args h).isSome = true → call 40 args h = takeK args h := fun _ _ hs => h40.eq hs
  have C63 : ∀ args h, (numK args h).isSome = true → call 63 args h = numK args h := fun _ _ hs => h63.eq hs
  have s1 := nx_le hr
  have s2 := nx_le s1
  have s3 := nx_le s2
  have s4 := nx_le s3
  obtain ⟨a0, a1⟩ := vl_bound (nx r) (n := 12) (by decide)
  obtain ⟨b0, b1⟩ := vl_bound (nx (nx r)) (n := 8) (by decide)
  obtain ⟨c0, c1⟩ := vl_bound (nx (nx (nx r))) (n := 6) (by decide)
  have f1 : fw .u64 (vl (nx r) 12 + vl (nx (nx r)) 8) = vl (nx r) 12 + vl (nx (nx r)) 8 := fwU (by omega) (by omega)
  have f2 : fw .u64 (1 + vl (nx (nx (nx r))) 6) = 1 + vl (nx (nx (nx r))) 6 := fwU (by omega) (by omega)
  have g1 : fw .i64 1 = 1 := by decide
  have g2 : fw .u8 1 = 1 := by decide
  have n0 : ¬ B = h.next := by omega
  have n1 : ¬ B = h.next + 1 := by omega
  have n2 : ¬ B = h.next + 2 := by omega
  have m0 : ¬ h.next = B := by omega
  have m1 : ¬ h.next + 1 = B := by omega
  have m2 : ¬ h.next + 2 = B := by omega
  simp only [go_sem, ↓reduceIte, ↓reduceDIte, zA, zM, zL, zE, zD, yA, yE, yL, yQ, yT, reduceCtorEq, c41, hB, n0, n1, n2, m0, m1, m2, C40, C63, takeK, numK, hr, hx, s1, s2, s3, s4, f1, f2, g1, g2, Option.isSome_some, Nat.reduceLT]
  refine ⟨?_, ?_, fun b hb hne => ?_, ?_⟩
  · simp [opS, hx, opC]
  · show h.next ≤ h.next + 3
    omega
  · have e0 : ¬ b = h.next := by omega
    have e1 : ¬ b = h.next + 1 := by omega
    have e2 : ¬ b = h.next + 2 := by omega
    simp only [go_sem, ↓reduceIte, ↓reduceDIte, zA, zM, zL, zE, zD, yA, yE, yL, yQ, yT, reduceCtorEq, e0, e1, e2, hne]
  · simp only [go_sem, ↓reduceIte, ↓reduceDIte, zA, zM, zL, zE, zD, yA, yE, yL, yQ, yT, reduceCtorEq, n0, n1, n2, opS, hx, rowL, List.length_cons, or_self]

theorem w41_1 (P : Program) {call : CallE} (h40 : Has call 40 takeK) (h63 : Has call 63 numK) {h : H} {B t : Nat} {r : ByteArray} (hB : h.t.get B = some (rowL [.str r] t)) (hlt : B < h.next) (hr : r.size ≤ 9223372036854775807) (hx : vl r 15 = 1) :
    WF P call c41 [.fn (.func 40) [.ptr B 0] []] h (Post41 B t r h) := by
  have C40 : ∀ args h, (takeK args h).isSome = true → call 40 args h = takeK args h := fun _ _ hs => h40.eq hs
  have C63 : ∀ args h, (numK args h).isSome = true → call 63 args h = numK args h := fun _ _ hs => h63.eq hs
  have s1 := nx_le hr
  have s2 := nx_le s1
  have s3 := nx_le s2
  have s4 := nx_le s3
  obtain ⟨a0, a1⟩ := vl_bound (nx r) (n := 12) (by decide)
  obtain ⟨b0, b1⟩ := vl_bound (nx (nx r)) (n := 8) (by decide)
  obtain ⟨c0, c1⟩ := vl_bound (nx (nx (nx r))) (n := 6) (by decide)
  have f1 : fw .u64 (vl (nx r) 12 + vl (nx (nx r)) 8) = vl (nx r) 12 + vl (nx (nx r)) 8 := fwU (by omega) (by omega)
  have f2 : fw .u64 (1 + vl (nx (nx (nx r))) 6) = 1 + vl (nx (nx (nx r))) 6 := fwU (by omega) (by omega)
  have g1 : fw .i64 2 = 2 := by decide
  have g2 : fw .u8 2 = 2 := by decide
  have n0 : ¬ B = h.next := by omega
  have n1 : ¬ B = h.next + 1 := by omega
  have n2 : ¬ B = h.next + 2 := by omega
  have m0 : ¬ h.next = B := by omega
  have m1 : ¬ h.next + 1 = B := by omega
  have m2 : ¬ h.next + 2 = B := by omega
  simp only [go_sem, ↓reduceIte, ↓reduceDIte, zA, zM, zL, zE, zD, yA, yE, yL, yQ, yT, reduceCtorEq, c41, hB, n0, n1, n2, m0, m1, m2, C40, C63, takeK, numK, hr, hx, s1, s2, s3, s4, f1, f2, g1, g2, Option.isSome_some, Nat.reduceLT]
  refine ⟨?_, ?_, fun b hb hne => ?_, ?_⟩
  · simp [opS, hx, opC]
  · show h.next ≤ h.next + 3
    omega
  · have e0 : ¬ b = h.next := by omega
    have e1 : ¬ b = h.next + 1 := by omega
    have e2 : ¬ b = h.next + 2 := by omega
    simp only [go_sem, ↓reduceIte, ↓reduceDIte, zA, zM, zL, zE, zD, yA, yE, yL, yQ, yT, reduceCtorEq, e0, e1, e2, hne]
  · simp only [go_sem, ↓reduceIte, ↓reduceDIte, zA, zM, zL, zE, zD, yA, yE, yL, yQ, yT, reduceCtorEq, n0, n1, n2, opS, hx, rowL, List.length_cons, or_self]

theorem w41_2 (P : Program) {call : CallE} (h40 : Has call 40 takeK) (h63 : Has call 63 numK) {h : H} {B t : Nat} {r : ByteArray} (hB : h.t.get B = some (rowL [.str r] t)) (hlt : B < h.next) (hr : r.size ≤ 9223372036854775807) (hx : vl r 15 = 2) :
    WF P call c41 [.fn (.func 40) [.ptr B 0] []] h (Post41 B t r h) := by
  have C40 : ∀ args h, (takeK args h).isSome = true → call 40 args h = takeK args h := fun _ _ hs => h40.eq hs
  have C63 : ∀ args h, (numK args h).isSome = true → call 63 args h = numK args h := fun _ _ hs => h63.eq hs
  have s1 := nx_le hr
  have s2 := nx_le s1
  have s3 := nx_le s2
  have s4 := nx_le s3
  obtain ⟨a0, a1⟩ := vl_bound (nx r) (n := 12) (by decide)
  obtain ⟨b0, b1⟩ := vl_bound (nx (nx r)) (n := 8) (by decide)
  obtain ⟨c0, c1⟩ := vl_bound (nx (nx (nx r))) (n := 6) (by decide)
  have f1 : fw .u64 (vl (nx r) 12 + vl (nx (nx r)) 8) = vl (nx r) 12 + vl (nx (nx r)) 8 := fwU (by omega) (by omega)
  have f2 : fw .u64 (1 + vl (nx (nx (nx r))) 6) = 1 + vl (nx (nx (nx r))) 6 := fwU (by omega) (by omega)
  have g1 : fw .i64 3 = 3 := by decide
  have g2 : fw .u8 3 = 3 := by decide
  have n0 : ¬ B = h.next := by omega
  have n1 : ¬ B = h.next + 1 := by omega
  have n2 : ¬ B = h.next + 2 := by omega
  have m0 : ¬ h.next = B := by omega
  have m1 : ¬ h.next + 1 = B := by omega
  have m2 : ¬ h.next + 2 = B := by omega
  simp only [go_sem, ↓reduceIte, ↓reduceDIte, zA, zM, zL, zE, zD, yA, yE, yL, yQ, yT, reduceCtorEq, c41, hB, n0, n1, n2, m0, m1, m2, C40, C63, takeK, numK, hr, hx, s1, s2, s3, s4, f1, f2, g1, g2, Option.isSome_some, Nat.reduceLT]
  refine ⟨?_, ?_, fun b hb hne => ?_, ?_⟩
  · simp [opS, hx, opC]
  · show h.next ≤ h.next + 3
    omega
  · have e0 : ¬ b = h.next := by omega
    have e1 : ¬ b = h.next + 1 := by omega
    have e2 : ¬ b = h.next + 2 := by omega
    simp only [go_sem, ↓reduceIte, ↓reduceDIte, zA, zM, zL, zE, zD, yA, yE, yL, yQ, yT, reduceCtorEq, e0, e1, e2, hne]
  · simp only [go_sem, ↓reduceIte, ↓reduceDIte, zA, zM, zL, zE, zD, yA, yE, yL, yQ, yT, reduceCtorEq, n0, n1, n2, opS, hx, rowL, List.length_cons, or_self]

theorem w41_3 (P : Program) {call : CallE} (h40 : Has call 40 takeK) (h63 : Has call 63 numK) {h : H} {B t : Nat} {r : ByteArray} (hB : h.t.get B = some (rowL [.str r] t)) (hlt : B < h.next) (hr : r.size ≤ 9223372036854775807) (hx : vl r 15 = 3) :
    WF P call c41 [.fn (.func 40) [.ptr B 0] []] h (Post41 B t r h) := by
  have C40 : ∀ args h, (takeK args h).isSome = true → call 40 args h = takeK args h := fun _ _ hs => h40.eq hs
  have C63 : ∀ args h, (numK args h).isSome = true → call 63 args h = numK args h := fun _ _ hs => h63.eq hs
  have s1 := nx_le hr
  have s2 := nx_le s1
  have s3 := nx_le s2
  have s4 := nx_le s3
  obtain ⟨a0, a1⟩ := vl_bound (nx r) (n := 12) (by decide)
  obtain ⟨b0, b1⟩ := vl_bound (nx (nx r)) (n := 8) (by decide)
  obtain ⟨c0, c1⟩ := vl_bound (nx (nx (nx r))) (n := 6) (by decide)
  have f1 : fw .u64 (vl (nx r) 12 + vl (nx (nx r)) 8) = vl (nx r) 12 + vl (nx (nx r)) 8 := fwU (by omega) (by omega)
  have f2 : fw .u64 (1 + vl (nx (nx (nx r))) 6) = 1 + vl (nx (nx (nx r))) 6 := fwU (by omega) (by omega)
  have g1 : fw .i64 4 = 4 := by decide
  have g2 : fw .u8 4 = 4 := by decide
  have n0 : ¬ B = h.next := by omega
  have n1 : ¬ B = h.next + 1 := by omega
  have n2 : ¬ B = h.next + 2 := by omega
  have m0 : ¬ h.next = B := by omega
  have m1 : ¬ h.next + 1 = B := by omega
  have m2 : ¬ h.next + 2 = B := by omega
  simp only [go_sem, ↓reduceIte, ↓reduceDIte, zA, zM, zL, zE, zD, yA, yE, yL, yQ, yT, reduceCtorEq, c41, hB, n0, n1, n2, m0, m1, m2, C40, C63, takeK, numK, hr, hx, s1, s2, s3, s4, f1, f2, g1, g2, Option.isSome_some, Nat.reduceLT]
  refine ⟨?_, ?_, fun b hb hne => ?_, ?_⟩
  · simp [opS, hx, opC]
  · show h.next ≤ h.next + 3
    omega
  · have e0 : ¬ b = h.next := by omega
    have e1 : ¬ b = h.next + 1 := by omega
    have e2 : ¬ b = h.next + 2 := by omega
    simp only [go_sem, ↓reduceIte, ↓reduceDIte, zA, zM, zL, zE, zD, yA, yE, yL, yQ, yT, reduceCtorEq, e0, e1, e2, hne]
  · simp only [go_sem, ↓reduceIte, ↓reduceDIte, zA, zM, zL, zE, zD, yA, yE, yL, yQ, yT, reduceCtorEq, n0, n1, n2, opS, hx, rowL, List.length_cons, or_self]

theorem w41_4 (P : Program) {call : CallE} (h40 : Has call 40 takeK) (h63 : Has call 63 numK) {h : H} {B t : Nat} {r : ByteArray} (hB : h.t.get B = some (rowL [.str r] t)) (hlt : B < h.next) (hr : r.size ≤ 9223372036854775807) (hx : vl r 15 = 4) :
    WF P call c41 [.fn (.func 40) [.ptr B 0] []] h (Post41 B t r h) := by
  have C40 : ∀ args h, (takeK args h).isSome = true → call 40 args h = takeK args h := fun _ _ hs => h40.eq hs
  have C63 : ∀ args h, (numK args h).isSome = true → call 63 args h = numK args h := fun _ _ hs => h63.eq hs
  have s1 := nx_le hr
  have s2 := nx_le s1
  have s3 := nx_le s2
  have s4 := nx_le s3
  obtain ⟨a0, a1⟩ := vl_bound (nx r) (n := 12) (by decide)
  obtain ⟨b0, b1⟩ := vl_bound (nx (nx r)) (n := 8) (by decide)
  obtain ⟨c0, c1⟩ := vl_bound (nx (nx (nx r))) (n := 6) (by decide)
  have f1 : fw .u64 (vl (nx r) 12 + vl (nx (nx r)) 8) = vl (nx r) 12 + vl (nx (nx r)) 8 := fwU (by omega) (by omega)
  have f2 : fw .u64 (1 + vl (nx (nx (nx r))) 6) = 1 + vl (nx (nx (nx r))) 6 := fwU (by omega) (by omega)
  have g1 : fw .i64 5 = 5 := by decide
  have g2 : fw .u8 5 = 5 := by decide
  have n0 : ¬ B = h.next := by omega
  have n1 : ¬ B = h.next + 1 := by omega
  have n2 : ¬ B = h.next + 2 := by omega
  have m0 : ¬ h.next = B := by omega
  have m1 : ¬ h.next + 1 = B := by omega
  have m2 : ¬ h.next + 2 = B := by omega
  simp only [go_sem, ↓reduceIte, ↓reduceDIte, zA, zM, zL, zE, zD, yA, yE, yL, yQ, yT, reduceCtorEq, c41, hB, n0, n1, n2, m0, m1, m2, C40, C63, takeK, numK, hr, hx, s1, s2, s3, s4, f1, f2, g1, g2, Option.isSome_some, Nat.reduceLT]
  refine ⟨?_, ?_, fun b hb hne => ?_, ?_⟩
  · simp [opS, hx, opC]
  · show h.next ≤ h.next + 3
    omega
  · have e0 : ¬ b = h.next := by omega
    have e1 : ¬ b = h.next + 1 := by omega
    have e2 : ¬ b = h.next + 2 := by omega
    simp only [go_sem, ↓reduceIte, ↓reduceDIte, zA, zM, zL, zE, zD, yA, yE, yL, yQ, yT, reduceCtorEq, e0, e1, e2, hne]
  · simp only [go_sem, ↓reduceIte, ↓reduceDIte, zA, zM, zL, zE, zD, yA, yE, yL, yQ, yT, reduceCtorEq, n0, n1, n2, opS, hx, rowL, List.length_cons, or_self]

theorem w41_5 (P : Program) {call : CallE} (h40 : Has call 40 takeK) (h63 : Has call 63 numK) {h : H} {B t : Nat} {r : ByteArray} (hB : h.t.get B = some (rowL [.str r] t)) (hlt : B < h.next) (hr : r.size ≤ 9223372036854775807) (hx : vl r 15 = 5) :
    WF P call c41 [.fn (.func 40) [.ptr B 0] []] h (Post41 B t r h) := by
  have C40 : ∀ args h, (takeK args h).isSome = true → call 40 args h = takeK args h := fun _ _ hs => h40.eq hs
  have C63 : ∀ args h, (numK args h).isSome = true → call 63 args h = numK args h := fun _ _ hs => h63.eq hs
  have s1 := nx_le hr
  have s2 := nx_le s1
  have s3 := nx_le s2
  have s4 := nx_le s3
  obtain ⟨a0, a1⟩ := vl_bound (nx r) (n := 12) (by decide)
  obtain ⟨b0, b1⟩ := vl_bound (nx (nx r)) (n := 8) (by decide)
  obtain ⟨c0, c1⟩ := vl_bound (nx (nx (nx r))) (n := 6) (by decide)
  have f1 : fw .u64 (vl (nx r) 12 + vl (nx (nx r)) 8) = vl (nx r) 12 + vl (nx (nx r)) 8 := fwU (by omega) (by omega)
  have f2 : fw .u64 (1 + vl (nx (nx (nx r))) 6) = 1 + vl (nx (nx (nx r))) 6 := fwU (by omega) (by omega)
  have g1 : fw .i64 6 = 6 := by decide
  have g2 : fw .u8 6 = 6 := by decide
  have n0 : ¬ B = h.next := by omega
  have n1 : ¬ B = h.next + 1 := by omega
  have n2 : ¬ B = h.next + 2 := by omega
  have m0 : ¬ h.next = B := by omega
  have m1 : ¬ h.next + 1 = B := by omega
  have m2 : ¬ h.next + 2 = B := by omega
  simp only [go_sem, ↓reduceIte, ↓reduceDIte, zA, zM, zL, zE, zD, yA, yE, yL, yQ, yT, reduceCtorEq, c41, hB, n0, n1, n2, m0, m1, m2, C40, C63, takeK, numK, hr, hx, s1, s2, s3, s4, f1, f2, g1, g2, Option.isSome_some, Nat.reduceLT]
  refine ⟨?_, ?_, fun b hb hne => ?_, ?_⟩
  · simp [opS, hx, opC]
  · show h.next ≤ h.next + 3
    omega
  · have e0 : ¬ b = h.next := by omega
    have e1 : ¬ b = h.next + 1 := by omega
    have e2 : ¬ b = h.next + 2 := by omega
    simp only [go_sem, ↓reduceIte, ↓reduceDIte, zA, zM, zL, zE, zD, yA, yE, yL, yQ, yT, reduceCtorEq, e0, e1, e2, hne]
  · simp only [go_sem, ↓reduceIte, ↓reduceDIte, zA, zM, zL, zE, zD, yA, yE, yL, yQ, yT, reduceCtorEq, n0, n1, n2, opS, hx, rowL, List.length_cons, or_self]

theorem w41_6 (P : Program) {call : CallE} (h40 : Has call 40 takeK) (h63 : Has call 63 numK) {h : H} {B t : Nat} {r : ByteArray} (hB : h.t.get B = some (rowL [.str r] t)) (hlt : B < h.next) (hr : r.size ≤ 9223372036854775807) (hx : vl r 15 = 6) :
    WF P call c41 [.fn (.func 40) [.ptr B 0] []] h (Post41 B t r h) := by
  have C40 : ∀ args h, (takeK args h).isSome = true → call 40 args h = takeK args h := fun _ _ hs => h40.eq hs
  have C63 : ∀ args h, (numK args h).isSome = true → call 63 args h = numK args h := fun _ _ hs => h63.eq hs
  have s1 := nx_le hr
  have s2 := nx_le s1
  have s3 := nx_le s2
  have s4 := nx_le s3
  obtain ⟨a0, a1⟩ := vl_bound (nx r) (n := 12) (by decide)
  obtain ⟨b0, b1⟩ := vl_bound (nx (nx r)) (n := 8) (by decide)
  obtain ⟨c0, c1⟩ := vl_bound (nx (nx (nx r))) (n := 6) (by decide)
  have f1 : fw .u64 (vl (nx r) 12 + vl (nx (nx r)) 8) = vl (nx r) 12 + vl (nx (nx r)) 8 := fwU (by omega) (by omega)
  have f2 : fw .u64 (1 + vl (nx (nx (nx r))) 6) = 1 + vl (nx (nx (nx r))) 6 := fwU (by omega) (by omega)
  have g1 : fw .i64 7 = 7 := by decide
  have g2 : fw .u8 7 = 7 := by decide
  have n0 : ¬ B = h.next := by omega
  have n1 : ¬ B = h.next + 1 := by omega
  have n2 : ¬ B = h.next + 2 := by omega
  have m0 : ¬ h.next = B := by omega
  have m1 : ¬ h.next + 1 = B := by omega
  have m2 : ¬ h.next + 2 = B := by omega
  simp only [go_sem, ↓reduceIte, ↓reduceDIte, zA, zM, zL, zE, zD, yA, yE, yL, yQ, yT, reduceCtorEq, c41, hB, n0, n1, n2, m0, m1, m2, C40, C63, takeK, numK, hr, hx, s1, s2, s3, s4, f1, f2, g1, g2, Option.isSome_some, Nat.reduceLT]
  refine ⟨?_, ?_, fun b hb hne => ?_, ?_⟩
  · simp [opS, hx, opC]
  · show h.next ≤ h.next + 3
    omega
  · have e0 : ¬ b = h.next := by omega
    have e1 : ¬ b = h.next + 1 := by omega
    have e2 : ¬ b = h.next + 2 := by omega
    simp only [go_sem, ↓reduceIte, ↓reduceDIte, zA, zM, zL, zE, zD, yA, yE, yL, yQ, yT, reduceCtorEq, e0, e1, e2, hne]
  · simp only [go_sem, ↓reduceIte, ↓reduceDIte, zA, zM, zL, zE, zD, yA, yE, yL, yQ, yT, reduceCtorEq, n0, n1, n2, opS, hx, rowL, List.length_cons, or_self]

theorem w41_7 (P : Program) {call : CallE} (h40 : Has call 40 takeK) (h63 : Has call 63 numK) {h : H} {B t : Nat} {r : ByteArray} (hB : h.t.get B = some (rowL [.str r] t)) (hlt : B < h.next) (hr : r.size ≤ 9223372036854775807) (hx : vl r 15 = 7) :
    WF P call c41 [.fn (.func 40) [.ptr B 0] []] h (Post41 B t r h) := by
  have C40 : ∀ args h, (takeK args h).isSome = true → call 40 args h = takeK args h := fun _ _ hs => h40.eq hs
  have C63 : ∀ args h, (numK args h).isSome = true → call 63 args h = numK args h := fun _ _ hs => h63.eq hs
  have s1 := nx_le hr
  have s2 := nx_le s1
  have s3 := nx_le s2
  have s4 := nx_le s3
  obtain ⟨a0, a1⟩ := vl_bound (nx r) (n := 12) (by decide)
  obtain ⟨b0, b1⟩ := vl_bound (nx (nx r)) (n := 8) (by decide)
  obtain ⟨c0, c1⟩ := vl_bound (nx (nx (nx r))) (n := 6) (by decide)
  have f1 : fw .u64 (vl (nx r) 12 + vl (nx (nx r)) 8) = vl (nx r) 12 + vl (nx (nx r)) 8 := fwU (by omega) (by omega)
  have f2 : fw .u64 (1 + vl (nx (nx (nx r))) 6) = 1 + vl (nx (nx (nx r))) 6 := fwU (by omega) (by omega)
  have g1 : fw .i64 8 = 8 := by decide
  have g2 : fw .u8 8 = 8 := by decide
  have n0 : ¬ B = h.next := by omega
  have n1 : ¬ B = h.next + 1 := by omega
  have n2 : ¬ B = h.next + 2 := by omega
  have m0 : ¬ h.next = B := by omega
  have m1 : ¬ h.next + 1 = B := by omega
  have m2 : ¬ h.next + 2 = B := by omega
  simp only [go_sem, ↓reduceIte, ↓reduceDIte, zA, zM, zL, zE, zD, yA, yE, yL, yQ, yT, reduceCtorEq, c41, hB, n0, n1, n2, m0, m1, m2, C40, C63, takeK, numK, hr, hx, s1, s2, s3, s4, f1, f2, g1, g2, Option.isSome_some, Nat.reduceLT]
  refine ⟨?_, ?_, fun b hb hne => ?_, ?_⟩

  · simp [opS, hx, opC]
  · show h.next ≤ h.next + 3
    omega
  · have e0 : ¬ b = h.next := by omega
    have e1 : ¬ b = h.next + 1 := by omega
    have e2 : ¬ b = h.next + 2 := by omega
    simp only [go_sem, ↓reduceIte, ↓reduceDIte, zA, zM, zL, zE, zD, yA, yE, yL, yQ, yT, reduceCtorEq, e0, e1, e2, hne]
  · simp only [go_sem, ↓reduceIte, ↓reduceDIte, zA, zM, zL, zE, zD, yA, yE, yL, yQ, yT, reduceCtorEq, n0, n1, n2, opS, hx, rowL, List.length_cons, or_self]

theorem w41_8 (P : Program) {call : CallE} (h40 : Has call 40 takeK) (h63 : Has call 63 numK) {h : H} {B t : Nat} {r : ByteArray} (hB : h.t.get B = some (rowL [.str r] t)) (hlt : B < h.next) (hr : r.size ≤ 9223372036854775807) (hx : vl r 15 = 8) :
    WF P call c41 [.fn (.func 40) [.ptr B 0] []] h (Post41 B t r h) := by
  have C40 : ∀ args h, (takeK args h).isSome = true → call 40 args h = takeK args h := fun _ _ hs => h40.eq hs
  have C63 : ∀ args h, (numK args h).isSome = true → call 63 args h = numK args h := fun _ _ hs => h63.eq hs
  have s1 := nx_le hr
  have s2 := nx_le s1
  have s3 := nx_le s2
  have s4 := nx_le s3
  obtain ⟨a0, a1⟩ := vl_bound (nx r) (n := 12) (by decide)
  obtain ⟨b0, b1⟩ := vl_bound (nx (nx r)) (n := 8) (by decide)
  obtain ⟨c0, c1⟩ := vl_bound (nx (nx (nx r))) (n := 6) (by decide)
  have f1 : fw .u64 (vl (nx r) 12 + vl (nx (nx r)) 8) = vl (nx r) 12 + vl (nx (nx r)) 8 := fwU (by omega) (by omega)
  have f2 : fw .u64 (1 + vl (nx (nx (nx r))) 6) = 1 + vl (nx (nx (nx r))) 6 := fwU (by omega) (by omega)
  have g1 : fw .i64 9 = 9 := by decide
  have g2 : fw .u8 9 = 9 := by decide
  have n0 : ¬ B = h.next := by omega
  have n1 : ¬ B = h.next + 1 := by omega
  have n2 : ¬ B = h.next + 2 := by omega
  have m0 : ¬ h.next = B := by omega
  have m1 : ¬ h.next + 1 = B := by omega
  have m2 : ¬ h.next + 2 = B := by omega
  simp only [go_sem, ↓reduceIte, ↓reduceDIte, zA, zM, zL, zE, zD, yA, yE, yL, yQ, yT, reduceCtorEq, c41, hB, n0, n1, n2, m0, m1, m2, C40, C63, takeK, numK, hr, hx, s1, s2, s3, s4, f1, f2, g1, g2, Option.isSome_some, Nat.reduceLT]
  refine ⟨?_, ?_, fun b hb hne => ?_, ?_⟩

  · simp [opS, hx, opC]
  · show h.next ≤ h.next + 3
    omega
  · have e0 : ¬ b = h.next := by omega
    have e1 : ¬ b = h.next + 1 := by omega
    have e2 : ¬ b = h.next + 2 := by omega
    simp only [go_sem, ↓reduceIte, ↓reduceDIte, zA, zM, zL, zE, zD, yA, yE, yL, yQ, yT, reduceCtorEq, e0, e1, e2, hne]
  · simp only [go_sem, ↓reduceIte, ↓reduceDIte, zA, zM, zL, zE, zD, yA, yE, yL, yQ, yT, reduceCtorEq, n0, n1, n2, opS, hx, rowL, List.length_cons, or_self]

theorem w41_9 (P : Program) {call : CallE} (h40 : Has call 40 takeK) (h63 : Has call 63 numK) {h : H} {B t : Nat} {r : ByteArray} (hB : h.t.get B = some (rowL [.str r] t)) (hlt : B < h.next) (hr : r.size ≤ 9223372036854775807) (hx : vl r 15 = 9) :
    WF P call c41 [.fn (.func 40) [.ptr B 0] []] h (Post41 B t r h) := by
  have C40 : ∀ args h, (takeK args h).isSome = true → call 40 args h = takeK args h := fun _ _ hs => h40.eq hs
  have C63 : ∀ args h, (numK args h).isSome = true → call 63 args h = numK args h := fun _ _ hs => h63.eq hs
  have s1 := nx_le hr
  have s2 := nx_le s1
  have s3 := nx_le s2
  have s4 := nx_le s3
  obtain ⟨a0, a1⟩ := vl_bound (nx r) (n := 12) (by decide)
  obtain ⟨b0, b1⟩ := vl_bound (nx (nx r)) (n := 8) (by decide)
  obtain ⟨c0, c1⟩ := vl_bound (nx (nx (nx r))) (n := 6) (by decide)
  have f1 : fw .u64 (vl (nx r) 12 + vl (nx (nx r)) 8) = vl (nx r) 12 + vl (nx (nx r)) 8 := fwU (by omega) (by omega)
  have f2 : fw .u64 (1 + vl (nx (nx (nx r))) 6) = 1 + vl (nx (nx (nx r))) 6 := fwU (by omega) (by omega)
  have g1 : fw .i64 10 = 10 := by decide
  have g2 : fw .u8 10 = 10 := by decide
  have n0 : ¬ B = h.next := by omega
  have n1 : ¬ B = h.next + 1 := by omega
  have n2 : ¬ B = h.next + 2 := by omega
  have m0 : ¬ h.next = B := by omega
  have m1 : ¬ h.next + 1 = B := by omega
  have m2 : ¬ h.next + 2 = B := by omega
  simp only [go_sem, ↓reduceIte, ↓reduceDIte, zA, zM, zL, zE, zD, yA, yE, yL, yQ, yT, reduceCtorEq, c41, hB, n0, n1, n2, m0, m1, m2, C40, C63, takeK, numK, hr, hx, s1, s2, s3, s4, f1, f2, g1, g2, Option.isSome_some, Nat.reduceLT]
  refine ⟨?_, ?_, fun b hb hne => ?_, ?_⟩
  · simp [opS, hx, opC]
  · show h.next ≤ h.next + 3
    omega
  · have e0 : ¬ b = h.next := by omega
    have e1 : ¬ b = h.next + 1 := by omega
    have e2 : ¬ b = h.next + 2 := by omega
    simp only [go_sem, ↓reduceIte, ↓reduceDIte, zA, zM, zL, zE, zD, yA, yE, yL, yQ, yT, reduceCtorEq, e0, e1, e2, hne]
  · simp only [go_sem, ↓reduceIte, ↓reduceDIte, zA, zM, zL, zE, zD, yA, yE, yL, yQ, yT, reduceCtorEq, n0, n1, n2, opS, hx, rowL, List.length_cons, or_self]

theorem w41_10 (P : Program) {call : CallE} (h40 : Has call 40 takeK) (h63 : Has call 63 numK) {h : H} {B t : Nat} {r : ByteArray} (hB : h.t.get B = some (rowL [.str r] t)) (hlt : B < h.next) (hr : r.size ≤ 9223372036854775807) (hx : vl r 15 = 10) :
    WF P call c41 [.fn (.func 40) [.ptr B 0] []] h (Post41 B t r h) := by
  have C40 : ∀ args h, (takeK args h).isSome = true → call 40 args h = takeK args h := fun _ _ hs => h40.eq hs
  have C63 : ∀ args h, (numK args h).isSome = true → call 63 args h = numK args h := fun _ _ hs => h63.eq hs
  have s1 := nx_le hr
  have s2 := nx_le s1
  have s3 := nx_le s2
  have s4 := nx_le s3
  obtain ⟨a0, a1⟩ := vl_bound (nx r) (n := 12) (by decide)
  obtain ⟨b0, b1⟩ := vl_bound (nx (nx r)) (n := 8) (by decide)
  obtain ⟨c0, c1⟩ := vl_bound (nx (nx (nx r))) (n := 6) (by decide)
  have f1 : fw .u64 (vl (nx r) 12 + vl (nx (nx r)) 8) = vl (nx r) 12 + vl (nx (nx r)) 8 := fwU (by omega) (by omega)
  have f2 : fw .u64 (1 + vl (nx (nx (nx r))) 6) = 1 + vl (nx (nx (nx r))) 6 := fwU (by omega) (by omega)
  have g1 : fw .i64 11 = 11 := by decide
  have g2 : fw .u8 11 = 11 := by decide
  have n0 : ¬ B = h.next := by omega
  have n1 : ¬ B = h.next + 1 := by omega
  have n2 : ¬ B = h.next + 2 := by omega
  have m0 : ¬ h.next = B := by omega
  have m1 : ¬ h.next + 1 = B := by omega
  have m2 : ¬ h.next + 2 = B := by omega
  simp only [go_sem, ↓reduceIte, ↓reduceDIte, zA, zM, zL, zE, zD, yA, yE, yL, yQ, yT, reduceCtorEq, c41, hB, n0, n1, n2, m0, m1, m2, C40, C63, takeK, numK, hr, hx, s1, s2, s3, s4, f1, f2, g1, g2, Option.isSome_some, Nat.reduceLT]
  refine ⟨?_, ?_, fun b hb hne => ?_, ?_⟩

  · simp [opS, hx, opC]
  · show h.next ≤ h.next + 3
    omega
  · have e0 : ¬ b = h.next := by omega
    have e1 : ¬ b = h.next + 1 := by omega
    have e2 : ¬ b = h.next + 2 := by omega
    simp only [go_sem, ↓reduceIte, ↓reduceDIte, zA, zM, zL, zE, zD, yA, yE, yL, yQ, yT, reduceCtorEq, e0, e1, e2, hne]
  · simp only [go_sem, ↓reduceIte, ↓reduceDIte, zA, zM, zL, zE, zD, yA, yE, yL, yQ, yT, reduceCtorEq, n0, n1, n2, opS, hx, rowL, List.length_cons, or_self]

theorem w41_11 (P : Program) {call : CallE} (h40 : Has call 40 takeK) (h63 : Has call 63 numK) {h : H} {B t : Nat} {r : ByteArray} (hB : h.t.get B = some (rowL [.str r] t)) (hlt : B < h.next) (hr : r.size ≤ 9223372036854775807) (hx : vl r 15 = 11) :
    WF P call c41 [.fn (.func 40) [.ptr B 0] []] h (Post41 B t r h) := by
  have C40 : ∀ args h, (takeK args h).isSome = true → call 40 args h = takeK args h := fun _ _ hs => h40.eq hs
  have C63 : ∀ args h, (numK args h).isSome = true → call 63 args h = numK args h := fun _ _ hs => h63.eq hs
  have s1 := nx_le hr
  have s2 := nx_le s1
  have s3 := nx_le s2
  have s4 := nx_le s3
  obtain ⟨a0, a1⟩ := vl_bound (nx r) (n := 12) (by decide)
  obtain ⟨b0, b1⟩ := vl_bound (nx (nx r)) (n := 8) (by decide)
  obtain ⟨c0, c1⟩ := vl_bound (nx (nx (nx r))) (n := 6) (by decide)
  have f1 : fw .u64 (vl (nx r) 12 + vl (nx (nx r)) 8) = vl (nx r) 12 + vl (nx (nx r)) 8 := fwU (by omega) (by omega)
  have f2 : fw .u64 (1 + vl (nx (nx (nx r))) 6) = 1 + vl (nx (nx (nx r))) 6 := fwU (by omega) (by omega)
  have g1 : fw .i64 12 = 12 := by decide
  have g2 : fw .u8 12 = 12 := by decide
  have n0 : ¬ B = h.next := by omega
  have n1 : ¬ B = h.next + 1 := by omega
  have n2 : ¬ B = h.next + 2 := by omega
  have m0 : ¬ h.next = B := by omega
  have m1 : ¬ h.next + 1 = B := by omega
  have m2 : ¬ h.next + 2 = B := by omega
  simp only [go_sem, ↓reduceIte, ↓reduceDIte, zA, zM, zL, zE, zD, yA, yE, yL, yQ, yT, reduceCtorEq, c41, hB, n0, n1, n2, m0, m1, m2, C40, C63, takeK, numK, hr, hx, s1, s2, s3, s4, f1, f2, g1, g2, Option.isSome_some, Nat.reduceLT]
  refine ⟨?_, ?_, fun b hb hne => ?_, ?_⟩
  · simp [opS, hx, opC]
  · show h.next ≤ h.next + 3
    omega
  · have e0 : ¬ b = h.next := by omega
    have e1 : ¬ b = h.next + 1 := by omega
    have e2 : ¬ b = h.next + 2 := by omega
    simp only [go_sem, ↓reduceIte, ↓reduceDIte, zA, zM, zL, zE, zD, yA, yE, yL, yQ, yT, reduceCtorEq, e0, e1, e2, hne]
  · simp only [go_sem, ↓reduceIte, ↓reduceDIte, zA, zM, zL, zE, zD, yA, yE, yL, yQ, yT, reduceCtorEq, n0, n1, n2, opS, hx, rowL, List.length_cons, or_self]

theorem w41_12 (P : Program) {call : CallE} (h40 : Has call 40 takeK) (h63 : Has call 63 numK) {h : H} {B t : Nat} {r : ByteArray} (hB : h.t.get B = some (rowL [.str r] t)) (hlt : B < h.next) (hr : r.size ≤ 9223372036854775807) (hx : vl r 15 = 12) :
    WF P call c41 [.fn (.func 40) [.ptr B 0] []] h (Post41 B t r h) := by
  have C40 : ∀ args h, (takeK args h).isSome = true → call 40 args h = takeK args h := fun _ _ hs => h40.eq hs
  have C63 : ∀ args h, (numK args h).isSome = true → call 63 args h = numK args h := fun _ _ hs => h63.eq hs
  have s1 := nx_le hr
  have s2 := nx_le s1
  have s3 := nx_le s2
  have s4 := nx_le s3
  obtain ⟨a0, a1⟩ := vl_bound (nx r) (n := 12) (by decide)
  obtain ⟨b0, b1⟩ := vl_bound (nx (nx r)) (n := 8) (by decide)
  obtain ⟨c0, c1⟩ := vl_bound (nx (nx (nx r))) (n := 6) (by decide)
  have f1 : fw .u64 (vl (nx r) 12 + vl (nx (nx r)) 8) = vl (nx r) 12 + vl (nx (nx r)) 8 := fwU (by omega) (by omega)
  have f2 : fw .u64 (1 + vl (nx (nx (nx r))) 6) = 1 + vl (nx (nx (nx r))) 6 := fwU (by omega) (by omega)
  have g1 : fw .i64 13 = 13 := by decide
  have g2 : fw .u8 13 = 13 := by decide
  have n0 : ¬ B = h.next := by omega
  have n1 : ¬ B = h.next + 1 := by omega
  have n2 : ¬ B = h.next + 2 := by omega
  have m0 : ¬ h.next = B := by omega
  have m1 : ¬ h.next + 1 = B := by omega
  have m2 : ¬ h.next + 2 = B := by omega
  simp only [go_sem, ↓reduceIte, ↓reduceDIte, zA, zM, zL, zE, zD, yA, yE, yL, yQ, yT, reduceCtorEq, c41, hB, n0, n1, n2, m0, m1, m2, C40, C63, takeK, numK, hr, hx, s1, s2, s3, s4, f1, f2, g1, g2, Option.isSome_some, Nat.reduceLT]
  refine ⟨?_, ?_, fun b hb hne => ?_, ?_⟩
  · simp [opS, hx, opC]
  · show h.next ≤ h.next + 3
    omega
  · have e0 : ¬ b = h.next := by omega
    have e1 : ¬ b = h.next + 1 := by omega
    have e2 : ¬ b = h.next + 2 := by omega
    simp only [go_sem, ↓reduceIte, ↓reduceDIte, zA, zM, zL, zE, zD, yA, yE, yL, yQ, yT, reduceCtorEq, e0, e1, e2, hne]
  · simp only [go_sem, ↓reduceIte, ↓reduceDIte, zA, zM, zL, zE, zD, yA, yE, yL, yQ, yT, reduceCtorEq, n0, n1, n2, opS, hx, rowL, List.length_cons, or_self]

theorem w41_13 (P : Program) {call : CallE} (h40 : Has call 40 takeK) (h63 : Has call 63 numK) {h : H} {B t : Nat} {r : ByteArray} (hB : h.t.get B = some (rowL [.str r] t)) (hlt : B < h.next) (hr : r.size ≤ 9223372036854775807) (hx : vl r 15 = 13) :
    WF P call c41 [.fn (.func 40) [.ptr B 0] []] h (Post41 B t r h) := by
  have C40 : ∀ args h, (takeK args h).isSome = true → call 40 args h = takeK args h := fun _ _ hs => h40.eq hs
  have C63 : ∀ args h, (numK args h).isSome = true → call 63 args h = numK args h := fun _ _ hs => h63.eq hs
  have s1 := nx_le hr
  have s2 := nx_le s1
  have s3 := nx_le s2
  have s4 := nx_le s3
  obtain ⟨a0, a1⟩ := vl_bound (nx r) (n := 12) (by decide)
  obtain ⟨b0, b1⟩ := vl_bound (nx (nx r)) (n := 8) (by decide)
  obtain ⟨c0, c1⟩ := vl_bound (nx (nx (nx r))) (n := 6) (by decide)
  have f1 : fw .u64 (vl (nx r) 12 + vl (nx (nx r)) 8) = vl (nx r) 12 + vl (nx (nx r)) 8 := fwU (by omega) (by omega)
  have f2 : fw .u64 (1 + vl (nx (nx (nx r))) 6) = 1 + vl (nx (nx (nx r))) 6 := fwU (by omega) (by omega)
  have g1 : fw .i64 14 = 14 := by decide
  have g2 : fw .u8 14 = 14 := by decide
  have n0 : ¬ B = h.next := by omega
  have n1 : ¬ B = h.next + 1 := by omega
  have n2 : ¬ B = h.next + 2 := by omega
  have m0 : ¬ h.next = B := by omega
  have m1 : ¬ h.next + 1 = B := by omega
  have m2 : ¬ h.next + 2 = B := by omega
  simp only [go_sem, ↓reduceIte, ↓reduceDIte, zA, zM, zL, zE, zD, yA, yE, yL, yQ, yT, reduceCtorEq, c41, hB, n0, n1, n2, m0, m1, m2, C40, C63, takeK, numK, hr, hx, s1, s2, s3, s4, f1, f2, g1, g2, Option.isSome_some, Nat.reduceLT]
  refine ⟨?_, ?_, fun b hb hne => ?_, ?_⟩
  · simp [opS, hx, opC]
  · show h.next ≤ h.next + 3
    omega
  · have e0 : ¬ b = h.next := by omega
    have e1 : ¬ b = h.next + 1 := by omega
    have e2 : ¬ b = h.next + 2 := by omega
    simp only [go_sem, ↓reduceIte, ↓reduceDIte, zA, zM, zL, zE, zD, yA, yE, yL, yQ, yT, reduceCtorEq, e0, e1, e2, hne]
  · simp only [go_sem, ↓reduceIte, ↓reduceDIte, zA, zM, zL, zE, zD, yA, yE, yL, yQ, yT, reduceCtorEq, n0, n1, n2, opS, hx, rowL, List.length_cons, or_self]

theorem w41_14 (P : Program) {call : CallE} (h40 : Has call 40 takeK) (h63 : Has call 63 numK) {h : H} {B t : Nat} {r : ByteArray} (hB : h.t.get B = some (rowL [.str r] t)) (hlt : B < h.next) (hr : r.size ≤ 9223372036854775807) (hx : vl r 15 = 14) :
    WF P call c41 [.fn (.func 40) [.ptr B 0] []] h (Post41 B t r h) := by
  have C40 : ∀ args h, (takeK args h).isSome = true → call 40 args h = takeK args h := fun _ _ hs => h40.eq hs
  have C63 : ∀ args h, (numK args h).isSome = true → call 63 args h = numK args h := fun _ _ hs => h63.eq hs
  have s1 := nx_le hr
  have s2 := nx_le s1
  have s3 := nx_le s2
  have s4 := nx_le s3
  obtain ⟨a0, a1⟩ := vl_bound (nx r) (n := 12) (by decide)
  obtain ⟨b0, b1⟩ := vl_bound (nx (nx r)) (n := 8) (by decide)
  obtain ⟨c0, c1⟩ := vl_bound (nx (nx (nx r))) (n := 6) (by decide)
  have f1 : fw .u64 (vl (nx r) 12 + vl (nx (nx r)) 8) = vl (nx r) 12 + vl (nx (nx r)) 8 := fwU (by omega) (by omega)
  have f2 : fw .u64 (1 + vl (nx (nx (nx r))) 6) = 1 + vl (nx (nx (nx r))) 6 := fwU (by omega) (by omega)
  have g1 : fw .i64 15 = 15 := by decide
  have g2 : fw .u8 15 = 15 := by decide
  have n0 : ¬ B = h.next := by omega
  have n1 : ¬ B = h.next + 1 := by omega
  have n2 : ¬ B = h.next + 2 := by omega
  have m0 : ¬ h.next = B := by omega
  have m1 : ¬ h.next + 1 = B := by omega
  have m2 : ¬ h.next + 2 = B := by omega
  simp only [go_sem, ↓reduceIte, ↓reduceDIte, zA, zM, zL, zE, zD, yA, yE, yL, yQ, yT, reduceCtorEq, c41, hB, n0, n1, n2, m0, m1, m2, C40, C63, takeK, numK, hr, hx, s1, s2, s3, s4, f1, f2, g1, g2, Option.isSome_some, Nat.reduceLT]
  refine ⟨?_, ?_, fun b hb hne => ?_, ?_⟩
  · simp [opS, hx, opC]
  · show h.next ≤ h.next + 3
    omega
  · have e0 : ¬ b = h.next := by omega
    have e1 : ¬ b = h.next + 1 := by omega
    have e2 : ¬ b = h.next + 2 := by omega
    simp only [go_sem, ↓reduceIte, ↓reduceDIte, zA, zM, zL, zE, zD, yA, yE, yL, yQ, yT, reduceCtorEq, e0, e1, e2, hne]
  · simp only [go_sem, ↓reduceIte, ↓reduceDIte, zA, zM, zL, zE, zD, yA, yE, yL, yQ, yT, reduceCtorEq, n0, n1, n2, opS, hx, rowL, List.length_cons, or_self]

theorem w41 (P : Program) {call : CallE} (h40 : Has call 40 takeK) (h63 : Has call 63 numK) {h : H} {B t : Nat} {r : ByteArray} (hB : h.t.get B = some (rowL [.str r] t)) (hlt : B < h.next) (hr : r.size ≤ 9223372036854775807) :
    WF P call c41 [.fn (.func 40) [.ptr B 0] []] h (Post41 B t r h) := by
  obtain ⟨a, b⟩ := vl_bound r (n := 15) (by decide)
  have hx : vl r 15 = 0 ∨ vl r 15 = 1 ∨ vl r 15 = 2 ∨ vl r 15 = 3 ∨ vl r 15 = 4 ∨ vl r 15 = 5 ∨ vl r 15 = 6 ∨ vl r 15 = 7 ∨ vl r 15 = 8 ∨ vl r 15 = 9 ∨ vl r 15 = 10 ∨ vl r 15 = 11 ∨ vl r 15 = 12 ∨ vl r 15 = 13 ∨ vl r 15 = 14 := by omega
  rcases hx with hx | hx | hx | hx | hx | hx | hx | hx | hx | hx | hx | hx | hx | hx | hx
  · exact w41_0 P h40 h63 hB hlt hr hx
  · exact w41_1 P h40 h63 hB hlt hr hx
  · exact w41_2 P h40 h63 hB hlt hr hx
  · exact w41_3 P h40 h63 hB hlt hr hx
  · exact w41_4 P h40 h63 hB hlt hr hx
  · exact w41_5 P h40 h63 hB hlt hr hx
  · exact w41_6 P h40 h63 hB hlt hr hx
  · exact w41_7 P h40 h63 hB hlt hr hx
  · exact w41_8 P h40 h63 hB hlt hr hx
  · exact w41_9 P h40 h63 hB hlt hr hx
  · exact w41_10 P h40 h63 hB hlt hr hx
  · exact w41_11 P h40 h63 hB hlt hr hx
  · exact w41_12 P h40 h63 hB hlt hr hx
  · exact w41_13 P h40 h63 hB hlt hr hx
  · exact w41_14 P h40 h63 hB hlt hr hx
end
end Go.Proofs.Ytnmlfhogolonoaa
