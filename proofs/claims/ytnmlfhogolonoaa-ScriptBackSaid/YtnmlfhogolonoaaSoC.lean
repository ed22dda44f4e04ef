/-
  A configuration: of package script.
-/
import Derived.Test.YtnmlfhogolonoaaSoB
set_option linter.unusedVariables false
set_option linter.unusedSimpArgs false
namespace Go.Proofs.Ytnmlfhogolonoaa
open Go.Proofs.Ytnmlfhogolonoaa.Eo
open Nat renaming reduceAdd → zA, reduceMul → zM, reduceLT → zL, reduceEqDiff → zE, reduceLeDiff → zD
open Int renaming reduceAdd → yA, reduceLE → yE, reduceLT → yL, reduceEq → yQ, reduceToNat → yT
noncomputable section
/-! 39: leapfrog/script.config -/
@[go_sem] def c39_s0 : List SQ := [⟨some 2, none, .n (.new 27 [.int .i64 0, .int .i64 0, .int .u8 0, .int .i64 0, .int .u8 0, .int .i64 0, .nils, .int .i64 0, .int .i64 0, .int .i64 0, .int .i64 0, .int .i64 0, .int .i64 0, .int .i64 0, .int .i64 0, .int .i64 0])⟩]
@[go_sem] def c39_s1 : List SQ := [⟨some 3, none, .n (.new 27 [.int .i64 0, .int .i64 0, .int .u8 0, .int .i64 0, .int .u8 0, .int .i64 0, .nils, .int .i64 0, .int .i64 0, .int .i64 0, .int .i64 0, .int .i64 0, .int .i64 0, .int .i64 0, .int .i64 0, .int .i64 0])⟩]
@[go_sem] def c39_s2 : List SQ := [⟨some 8, none, .p (.mv (.t 0))⟩, ⟨some 9, none, .cv (.t 8) [(.c (.int .i64 4))]⟩, ⟨some 10, none, .p (.bin .add 3 true false (.c (.int .i64 1)) (.t 9))⟩, ⟨some 11, none, .p (.fadr 0 (.t 3))⟩, ⟨none, none, .e (.st 1 (.t 11) (.t 10))⟩]
@[go_sem] def c39_s3 : List SQ := [⟨some 12, none, .p (.mv (.t 0))⟩, ⟨some 13, none, .cv (.t 12) [(.c (.int .i64 4))]⟩, ⟨some 14, none, .p (.bin .add 3 true false (.c (.int .i64 1)) (.t 13))⟩, ⟨some 15, none, .p (.fadr 1 (.t 3))⟩, ⟨none, none, .e (.st 1 (.t 15) (.t 14))⟩]
@[go_sem] def c39_s4 : List SQ := [⟨some 16, none, .p (.mv (.t 0))⟩, ⟨some 17, none, .cv (.t 16) [(.c (.int .i64 3))]⟩, ⟨some 18, none, .p (.bin .add 3 true false (.c (.int .i64 1)) (.t 17))⟩, ⟨some 19, none, .p (.conv .u8 (.t 18))⟩, ⟨some 20, none, .p (.fadr 2 (.t 3))⟩, ⟨none, none, .e (.st 1 (.t 20) (.t 19))⟩]
@[go_sem] def c39_s5 : List SQ := [⟨some 21, none, .p (.fadr 2 (.t 3))⟩, ⟨some 22, none, .r (.ld none (.t 21))⟩, ⟨some 23, none, .p (.bin .eql 5 false true (.t 22) (.c (.int .u8 3)))⟩]
@[go_sem] def c39_s6 : List SQ := [⟨some 24, none, .p (.mv (.t 0))⟩, ⟨some 25, none, .cv (.t 24) [(.c (.int .i64 4))]⟩, ⟨some 26, none, .p (.bin .add 3 true false (.c (.int .i64 1)) (.t 25))⟩, ⟨some 27, none, .p (.fadr 3 (.t 3))⟩, ⟨none, none, .e (.st 1 (.t 27) (.t 26))⟩]
@[go_sem] def c39_s7 : List SQ := [⟨some 28, none, .p (.mv (.t 0))⟩, ⟨some 29, none, .cv (.t 28) [(.c (.int .i64 3))]⟩, ⟨some 30, none, .p (.bin .add 3 true false (.c (.int .i64 1)) (.t 29))⟩, ⟨some 31, none, .p (.fadr 13 (.t 3))⟩, ⟨none, none, .e (.st 1 (.t 31) (.t 30))⟩]
@[go_sem] def c39_s8 : List SQ := [⟨some 32, none, .p (.mv (.t 0))⟩, ⟨some 33, none, .cv (.t 32) [(.c (.int .i64 8))]⟩, ⟨some 34, none, .p (.bin .add 3 true false (.c (.int .i64 1)) (.t 33))⟩, ⟨some 35, none, .p (.fadr 14 (.t 3))⟩, ⟨none, none, .e (.st 1 (.t 35) (.t 34))⟩]
@[go_sem] def c39_s9 : List SQ := [⟨some 36, none, .p (.mv (.t 0))⟩, ⟨some 37, none, .cv (.t 36) [(.c (.int .i64 4))]⟩, ⟨some 38, none, .p (.fadr 15 (.t 3))⟩, ⟨none, none, .e (.st 1 (.t 38) (.t 37))⟩]
@[go_sem] def c39_s10 : List SQ := [⟨some 39, none, .n (.buildS 3 1 3 [.int .i64 0, .int .i64 0, .int .i64 0] [(0, 1, (.c (.int .i64 8))), (1, 1, (.c (.int .i64 4))), (2, 1, (.c (.int .i64 3)))])⟩, ⟨some 40, none, .p (.lenv (.t 39))⟩, ⟨some 41, none, .p (.mv (.c (.int .i64 0)))⟩]
@[go_sem] def c39_s11 : List SQ := [⟨some 42, none, .p (.bin .lss 3 false false (.t 41) (.t 40))⟩]
@[go_sem] def c39_s12 : List SQ := [⟨some 43, none, .p (.mv (.t 41))⟩, ⟨some 44, none, .p (.iadrS 1 (.t 39) (.t 41))⟩, ⟨some 45, none, .r (.ld none (.t 44))⟩, ⟨some 4, none, .p (.mv (.t 43))⟩, ⟨some 5, none, .p (.mv (.t 45))⟩]
@[go_sem] def c39_s13 : List SQ := [⟨some 46, none, .p (.mv (.t 4))⟩, ⟨some 47, none, .p (.mv (.t 0))⟩, ⟨some 48, none, .p (.mv (.t 5))⟩, ⟨some 49, none, .cv (.t 47) [(.t 48)]⟩, ⟨some 50, none, .p (.fadr 7 (.t 3))⟩, ⟨some 51, none, .p (.iadrA 6 1 (.t 50) (.t 46))⟩, ⟨none, none, .e (.st 1 (.t 51) (.t 49))⟩]
@[go_sem] def c39_s14 : List SQ := [⟨some 52, none, .p (.bin .add 3 false true (.t 41) (.c (.int .i64 1)))⟩, ⟨some 41, none, .p (.mv (.t 52))⟩]
def c39_l15 : CC := (.seq (.ops c39_s11) (.seq (.cond (.t 42) .skip (.exit 0)) (.seq (.block 1 (.seq (.ops c39_s12) (.ops c39_s13))) (.ops c39_s14))))
@[go_sem] def c39_s16 : List SQ := [⟨some 53, none, .p (.mv (.t 0))⟩, ⟨some 54, none, .cv (.t 53) [(.c (.int .i64 3))]⟩, ⟨some 55, none, .p (.bin .add 3 true false (.c (.int .i64 1)) (.t 54))⟩, ⟨some 56, none, .p (.conv .u8 (.t 55))⟩, ⟨some 57, none, .p (.fadr 4 (.t 3))⟩, ⟨some 58, none, .p (.fadr 0 (.t 57))⟩, ⟨none, none, .e (.st 1 (.t 58) (.t 56))⟩]
@[go_sem] def c39_s17 : List SQ := [⟨some 59, none, .p (.fadr 4 (.t 3))⟩, ⟨some 60, none, .p (.fadr 0 (.t 59))⟩, ⟨some 61, none, .r (.ld none (.t 60))⟩]
@[go_sem] def c39_s18 : List SQ := [⟨some 63, none, .p (.bin .eql 5 false true (.t 61) (.c (.int .u8 2)))⟩, ⟨some 62, none, .p (.mv (.t 63))⟩]
@[go_sem] def c39_s19 : List SQ := [⟨some 64, none, .p (.mv (.t 0))⟩, ⟨some 65, none, .cv (.t 64) [(.c (.int .i64 5))]⟩, ⟨some 66, none, .p (.bin .add 3 true false (.c (.int .i64 1)) (.t 65))⟩, ⟨some 67, none, .p (.fadr 4 (.t 3))⟩, ⟨some 68, none, .p (.fadr 1 (.t 67))⟩, ⟨none, none, .e (.st 1 (.t 68) (.t 66))⟩]
@[go_sem] def c39_s20 : List SQ := [⟨some 70, none, .p (.bin .eql 5 false true (.t 61) (.c (.int .u8 3)))⟩, ⟨some 69, none, .p (.mv (.t 70))⟩]
@[go_sem] def c39_s21 : List SQ := [⟨some 71, none, .p (.mv (.t 0))⟩, ⟨some 72, none, .cv (.t 71) [(.c (.int .i64 3))]⟩, ⟨some 73, none, .p (.bin .add 3 true false (.c (.int .i64 1)) (.t 72))⟩, ⟨some 6, none, .p (.mv (.t 73))⟩, ⟨some 7, none, .p (.mv (.c (.int .u64 0)))⟩]
@[go_sem] def c39_s22 : List SQ := [⟨some 74, none, .p (.mv (.t 6))⟩, ⟨some 75, none, .p (.mv (.c (.int .i64 0)))⟩]
@[go_sem] def c39_s23 : List SQ := [⟨some 76, none, .p (.bin .lss 3 false false (.t 75) (.t 74))⟩]
@[go_sem] def c39_s24 : List SQ := [⟨some 77, none, .p (.mv (.t 7))⟩, ⟨some 78, none, .p (.mv (.t 0))⟩, ⟨some 79, none, .cv (.t 78) [(.c (.int .i64 8))]⟩, ⟨some 80, none, .p (.bin .add 3 true false (.c (.int .i64 1)) (.t 79))⟩, ⟨some 81, none, .p (.conv .u64 (.t 80))⟩, ⟨some 82, none, .p (.bin .add 43 false false (.t 77) (.t 81))⟩, ⟨some 7, none, .p (.mv (.t 82))⟩]
@[go_sem] def c39_s25 : List SQ := [⟨some 83, none, .p (.fadr 4 (.t 3))⟩, ⟨some 84, none, .p (.fadr 2 (.t 83))⟩, ⟨some 85, none, .r (.ld none (.t 84))⟩, ⟨some 86, none, .p (.mv (.t 7))⟩, ⟨some 87, none, .n (.buildS 43 1 1 [.int .u64 0] [(0, 1, (.t 86))])⟩, ⟨some 88, none, .e (.app 43 1 8 (.t 85) (.t 87))⟩, ⟨some 89, none, .p (.fadr 4 (.t 3))⟩, ⟨some 90, none, .p (.fadr 2 (.t 89))⟩, ⟨none, none, .e (.st 1 (.t 90) (.t 88))⟩]
@[go_sem] def c39_s26 : List SQ := [⟨some 91, none, .p (.bin .add 3 false true (.t 75) (.c (.int .i64 1)))⟩, ⟨some 75, none, .p (.mv (.t 91))⟩]
def c39_l27 : CC := (.seq (.ops c39_s23) (.seq (.cond (.t 76) .skip (.exit 3)) (.seq (.block 4 (.seq (.ops c39_s24) (.ops c39_s25))) (.ops c39_s26))))
@[go_sem] def c39_s28 : List SQ := [⟨some 92, none, .r (.ld (some 16) (.t 3))⟩, ⟨none, none, .e (.st 16 (.t 2) (.t 92))⟩]
@[go_sem] def c39 : CF := ⟨1, (.seq (.ops c39_s0) (.seq (.ops c39_s1) (.seq (.ops c39_s2) (.seq (.ops c39_s3) (.seq (.ops c39_s4) (.seq (.seq (.ops c39_s5) (.cond (.t 23) (.ops c39_s6) .skip)) (.seq (.ops c39_s7) (.seq (.ops c39_s8) (.seq (.ops c39_s9) (.seq (.seq (.ops c39_s10) (.block 0 (.loop c39_l15))) (.seq (.ops c39_s16) (.seq (.seq (.ops c39_s17) (.block 2 (.seq (.ops c39_s18) (.cond (.t 62) (.ops c39_s19) (.seq (.ops c39_s20) (.cond (.t 69) (.seq (.ops c39_s21) (.seq (.ops c39_s22) (.block 3 (.loop c39_l27)))) .skip)))))) (.seq (.ops c39_s28) .ret))))))))))))), [(.cell 2 (some 16))]⟩
theorem c39_eq : cCF Try.prog 39 1 = some c39 := by kernel_rfl

/-- so many nexts -/
def nxn : Nat → ByteArray → ByteArray
  | 0, r => r
  | n + 1, r => nxn n (nx r)
/-- the cuts that are read -/
def cutsS : Nat → Int → ByteArray → List Int × ByteArray
  | 0, _, r => ([], r)
  | n + 1, a, r => ((a + (1 + vl r 8)) :: (cutsS n (a + (1 + vl r 8)) (nx r)).1, (cutsS n (a + (1 + vl r 8)) (nx r)).2)
structure CfgT where
  threads : Int
  slots : Int
  engine : Int
  buckets : Int
  kind : Int
  n : Int
  cuts : List Int
  t0 : Int
  t1 : Int
  t2 : Int
  t3 : Int
  t4 : Int
  t5 : Int
  locks : Int
  tries : Int
  batch : Int
def cfgC (c : CfgT) (v : AV) : List AV := [.int .i64 c.threads, .int .i64 c.slots, .int .u8 c.engine, .int .i64 c.buckets, .int .u8 c.kind, .int .i64 c.n, v, .int .i64 c.t0, .int .i64 c.t1, .int .i64 c.t2, .int .i64 c.t3, .int .i64 c.t4, .int .i64 c.t5, .int .i64 c.locks, .int .i64 c.tries, .int .i64 c.batch]
/-- the part of a configuration behind the buckets -/
def cfgS2 (th sl en bu : Int) (r : ByteArray) : CfgT × ByteArray :=
  let r7 := nxn 7 r
  let k := vl (nxn 6 r) 3
  let c : CfgT := ⟨th, sl, en, bu, 1 + k, 0, [], vl (nxn 3 r) 8, vl (nxn 4 r) 4, vl (nxn 5 r) 3, 0, 0, 0, 1 + vl r 3, 1 + vl (nxn 1 r) 8, vl (nxn 2 r) 4⟩
  if k = 1 then ({ c with n := 1 + vl r7 5 }, nx r7)
  else if k = 2 then ({ c with cuts := (cutsS (1 + vl r7 3).toNat 0 (nx r7)).1 }, (cutsS (1 + vl r7 3).toNat 0 (nx r7)).2)
  else (c, r7)
/-- a configuration that is read, and what is left -/
def cfgS (r : ByteArray) : CfgT × ByteArray :=
  if vl (nxn 2 r) 3 = 2 then cfgS2 (1 + vl r 4) (1 + vl (nxn 1 r) 4) 3 (1 + vl (nxn 3 r) 4) (nxn 4 r)
  else cfgS2 (1 + vl r 4) (1 + vl (nxn 1 r) 4) (1 + vl (nxn 2 r) 3) 0 (nxn 3 r)
def Post39 (B t : Nat) (r : ByteArray) (h : H) (v : AV) (h' : H) : Prop := ∃ cv, v = .agg (cfgC (cfgS r).1 cv) ∧ StepB B t (cfgS r).2 h h' ∧ Own 1 43 h' cv (cfgS r).1.cuts.length ((cfgS r).1.cuts.map (AV.int .u64)) ∧ ∀ a, own cv = some a → h.next ≤ a

theorem nxn_le : ∀ (n : Nat) {r : ByteArray} {m : Nat}, r.size ≤ m → (nxn n r).size ≤ m
  | 0, _, _, h => h
  | n + 1, _, _, h => nxn_le n (nx_le h)
theorem nx_nxn : ∀ (n : Nat) (r : ByteArray), nx (nxn n r) = nxn (n + 1) r
  | 0, _ => rfl
  | n + 1, r => nx_nxn n (nx r)
theorem nxn_add : ∀ (b a : Nat) (r : ByteArray), nxn a (nxn b r) = nxn (b + a) r
  | 0, a, r => by rw [Nat.zero_add]; rfl
  | b + 1, a, r => by rw [Nat.add_right_comm]; exact nxn_add b a (nx r)
set_option maxRecDepth 10000 in
theorem w39_000 (P : Program) {call : CallE} (h40 : Has call 40 takeK) {h : H} {B t : Nat} {r : ByteArray} (hB : h.t.get B = some (rowL [.str r] t)) (hlt : B < h.next) (hr : r.size ≤ 9223372036854775807) (hg : ¬ vl (nxn 2 r) 3 = 2) (hk : vl (nxn 9 r) 3 = 0) :
    WF P call c39 [.fn (.func 40) [.ptr B 0] []] h (Post39 B t r h) := by
  have C40 : ∀ args h, (takeK args h).isSome = true → call 40 args h = takeK args h := fun _ _ hs => h40.eq hs
  have z0 : (nxn 0 r).size ≤ 9223372036854775807 := nxn_le 0 hr
  have e0 : nx (nxn 0 r) = nxn 1 r := nx_nxn 0 r
  obtain ⟨l0, u0⟩ := vl_bound (nxn 0 r) (n := 4) (by decide)
  obtain ⟨x0, hx0⟩ : ∃ x, vl (nxn 0 r) 4 = x := ⟨_, rfl⟩
  rw [hx0] at l0 u0
  have f0 : fw .i64 (1 + x0) = 1 + x0 := fwI (by omega) (by omega)
  have z1 : (nxn 1 r).size ≤ 9223372036854775807 := nxn_le 1 hr
  have e1 : nx (nxn 1 r) = nxn 2 r := nx_nxn 1 r
  obtain ⟨l1, u1⟩ := vl_bound (nxn 1 r) (n := 4) (by decide)
  obtain ⟨x1, hx1⟩ : ∃ x, vl (nxn 1 r) 4 = x := ⟨_, rfl⟩
  rw [hx1] at l1 u1
  have f1 : fw .i64 (1 + x1) = 1 + x1 := fwI (by omega) (by omega)
  have z2 : (nxn 2 r).size ≤ 9223372036854775807 := nxn_le 2 hr
  have e2 : nx (nxn 2 r) = nxn 3 r := nx_nxn 2 r
  obtain ⟨l2, u2⟩ := vl_bound (nxn 2 r) (n := 3) (by decide)
  obtain ⟨x2, hx2⟩ : ∃ x, vl (nxn 2 r) 3 = x := ⟨_, rfl⟩
  rw [hx2] at l2 u2
  have f2 : fw .i64 (1 + x2) = 1 + x2 := fwI (by omega) (by omega)
  have z3 : (nxn 3 r).size ≤ 9223372036854775807 := nxn_le 3 hr
  have e3 : nx (nxn 3 r) = nxn 4 r := nx_nxn 3 r
  obtain ⟨l3, u3⟩ := vl_bound (nxn 3 r) (n := 3) (by decide)
  obtain ⟨x3, hx3⟩ : ∃ x, vl (nxn 3 r) 3 = x := ⟨_, rfl⟩
  rw [hx3] at l3 u3
  have f3 : fw .i64 (1 + x3) = 1 + x3 := fwI (by omega) (by omega)
  have z4 : (nxn 4 r).size ≤ 9223372036854775807 := nxn_le 4 hr
  have e4 : nx (nxn 4 r) = nxn 5 r := nx_nxn 4 r
  obtain ⟨l4, u4⟩ := vl_bound (nxn 4 r) (n := 8) (by decide)
  obtain ⟨x4, hx4⟩ : ∃ x, vl (nxn 4 r) 8 = x := ⟨_, rfl⟩
  rw [hx4] at l4 u4
  have f4 : fw .i64 (1 + x4) = 1 + x4 := fwI (by omega) (by omega)
  have z5 : (nxn 5 r).size ≤ 9223372036854775807 := nxn_le 5 hr
  have e5 : nx (nxn 5 r) = nxn 6 r := nx_nxn 5 r
  obtain ⟨l5, u5⟩ := vl_bound (nxn 5 r) (n := 4) (by decide)
  obtain ⟨x5, hx5⟩ : ∃ x, vl (nxn 5 r) 4 = x := ⟨_, rfl⟩
  rw [hx5] at l5 u5
  have f5 : fw .i64 (1 + x5) = 1 + x5 := fwI (by omega) (by omega)
  have z6 : (nxn 6 r).size ≤ 9223372036854775807 := nxn_le 6 hr
  have e6 : nx (nxn 6 r) = nxn 7 r := nx_nxn 6 r
  obtain ⟨l6, u6⟩ := vl_bound (nxn 6 r) (n := 8) (by decide)
  obtain ⟨x6, hx6⟩ : ∃ x, vl (nxn 6 r) 8 = x := ⟨_, rfl⟩
  rw [hx6] at l6 u6
  have f6 : fw .i64 (1 + x6) = 1 + x6 := fwI (by omega) (by omega)
  have z7 : (nxn 7 r).size ≤ 9223372036854775807 := nxn_le 7 hr
  have e7 : nx (nxn 7 r) = nxn 8 r := nx_nxn 7 r
  obtain ⟨l7, u7⟩ := vl_bound (nxn 7 r) (n := 4) (by decide)
  obtain ⟨x7, hx7⟩ : ∃ x, vl (nxn 7 r) 4 = x := ⟨_, rfl⟩
  rw [hx7] at l7 u7
  have f7 : fw .i64 (1 + x7) = 1 + x7 := fwI (by omega) (by omega)
  have z8 : (nxn 8 r).size ≤ 9223372036854775807 := nxn_le 8 hr
  have e8 : nx (nxn 8 r) = nxn 9 r := nx_nxn 8 r
  obtain ⟨l8, u8⟩ := vl_bound (nxn 8 r) (n := 3) (by decide)
  obtain ⟨x8, hx8⟩ : ∃ x, vl (nxn 8 r) 3 = x := ⟨_, rfl⟩
  rw [hx8] at l8 u8
  have f8 : fw .i64 (1 + x8) = 1 + x8 := fwI (by omega) (by omega)
  have z9 : (nxn 9 r).size ≤ 9223372036854775807 := nxn_le 9 hr
  have e9 : nx (nxn 9 r) = nxn 10 r := nx_nxn 9 r
  obtain ⟨l9, u9⟩ := vl_bound (nxn 9 r) (n := 3) (by decide)
  have hr0 : r = nxn 0 r := rfl
  rw [hx2] at hg
  have ge : ¬ 1 + x2 = 3 := by omega
  have gu : fw .u8 (1 + x2) = 1 + x2 := fwB (by omega) (by omega)
  have li1 : fw .i64 1 = 1 := by decide
  have lu1 : fw .u8 1 = 1 := by decide
  have li2 : fw .i64 2 = 2 := by decide
  have lu2 : fw .u8 2 = 2 := by decide
  have li3 : fw .i64 3 = 3 := by decide
  have lu3 : fw .u8 3 = 3 := by decide
  have n0 : ¬ B = h.next := by omega
  have m0 : ¬ h.next = B := by omega
  have n1 : ¬ B = h.next + 1 := by omega
  have m1 : ¬ h.next + 1 = B := by omega
  have n2 : ¬ B = h.next + 2 := by omega
  have m2 : ¬ h.next + 2 = B := by omega
  have n3 : ¬ B = h.next + 3 := by omega
  have m3 : ¬ h.next + 3 = B := by omega
  have n4 : ¬ B = h.next + 4 := by omega
  have m4 : ¬ h.next + 4 = B := by omega
  rw [hr0] at hB
  simp only [go_sem, ↓reduceIte, ↓reduceDIte, zA, zM, zL, zE, zD, yA, yE, yL, yQ, yT, reduceCtorEq, c39, appA, appNew, hB, C40, takeK, hk, Option.isSome_some, z0, e0, hx0, f0, z1, e1, hx1, f1, z2, e2, hx2, f2, z3, e3, hx3, f3, z4, e4, hx4, f4, z5, e5, hx5, f5, z6, e6, hx6, f6, z7, e7, hx7, f7, z8, e8, hx8, f8, z9, e9, ge, gu, li1, lu1, li2, lu2, li3, lu3, n0, m0, n1, m1, n2, m2, n3, m3, n4, m4]
  refine unroll 4 ?_
  simp only [go_sem, ↓reduceIte, ↓reduceDIte, zA, zM, zL, zE, zD, yA, yE, yL, yQ, yT, reduceCtorEq, c39_l15, appA, appNew, hB, C40, takeK, hk, Option.isSome_some, z0, e0, hx0, f0, z1, e1, hx1, f1, z2, e2, hx2, f2, z3, e3, hx3, f3, z4, e4, hx4, f4, z5, e5, hx5, f5, z6, e6, hx6, f6, z7, e7, hx7, f7, z8, e8, hx8, f8, z9, e9, ge, gu, li1, lu1, li2, lu2, li3, lu3, n0, m0, n1, m1, n2, m2, n3, m3, n4, m4]
  have hc : cfgS r = (⟨1 + x0, 1 + x1, 1 + x2, 0, 1, 0, [], x6, x7, x8, 0, 0, 0, 1 + x3, 1 + x4, x5⟩, nxn 10 r) := by
    have hx0' : vl r 4 = x0 := hx0
    simp only [cfgS, hg, if_pos, if_true, if_false, ↓reduceIte, cfgS2, nxn_add, Nat.reduceAdd, hk, nx_nxn, Int.reduceAdd, Int.reduceEq, Int.reduceToNat, cutsS, hx0', hx1, hx2, hx3, hx4, hx5, hx6, hx7, hx8]
  refine ⟨.nils, by rw [hc]; rfl, ⟨Nat.le_add_right _ _, fun b hb hne => ?_, ?_⟩, ?_, ?_⟩
  · have o0 : ¬ b = h.next := by omega
    have o1 : ¬ b = h.next + 1 := by omega
    have o2 : ¬ b = h.next + 2 := by omega
    simp only [go_sem, ↓reduceIte, ↓reduceDIte, zA, zM, zL, zE, zD, yA, yE, yL, yQ, yT, reduceCtorEq, hne, o0, o1, o2]
  · rw [hc]
    simp only [go_sem, ↓reduceIte, ↓reduceDIte, zA, zM, zL, zE, zD, yA, yE, yL, yQ, yT, reduceCtorEq, n0, m0, n1, m1, n2, m2, n3, m3, n4, m4, rowL]
  · rw [hc]; exact .nil
  · intro a ha; simp [own] at ha
set_option maxRecDepth 10000 in
theorem w39_010 (P : Program) {call : CallE} (h40 : Has call 40 takeK) {h : H} {B t : Nat} {r : ByteArray} (hB : h.t.get B = some (rowL [.str r] t)) (hlt : B < h.next) (hr : r.size ≤ 9223372036854775807) (hg : ¬ vl (nxn 2 r) 3 = 2) (hk : vl (nxn 9 r) 3 = 1) :
    WF P call c39 [.fn (.func 40) [.ptr B 0] []] h (Post39 B t r h) := by
  have C40 : ∀ args h, (takeK args h).isSome = true → call 40 args h = takeK args h := fun _ _ hs => h40.eq hs
  have z0 : (nxn 0 r).size ≤ 9223372036854775807 := nxn_le 0 hr
  have e0 : nx (nxn 0 r) = nxn 1 r := nx_nxn 0 r
  obtain ⟨l0, u0⟩ := vl_bound (nxn 0 r) (n := 4) (by decide)
  obtain ⟨x0, hx0⟩ : ∃ x, vl (nxn 0 r) 4 = x := ⟨_, rfl⟩
  rw [hx0] at l0 u0
  have f0 : fw .i64 (1 + x0) = 1 + x0 := fwI (by omega) (by omega)
  have z1 : (nxn 1 r).size ≤ 9223372036854775807 := nxn_le 1 hr
  have e1 : nx (nxn 1 r) = nxn 2 r := nx_nxn 1 r
  obtain ⟨l1, u1⟩ := vl_bound (nxn 1 r) (n := 4) (by decide)
  obtain ⟨x1, hx1⟩ : ∃ x, vl (nxn 1 r) 4 = x := ⟨_, rfl⟩
  rw [hx1] at l1 u1
  have f1 : fw .i64 (1 + x1) = 1 + x1 := fwI (by omega) (by omega)
  have z2 : (nxn 2 r).size ≤ 9223372036854775807 := nxn_le 2 hr
  have e2 : nx (nxn 2 r) = nxn 3 r := nx_nxn 2 r
  obtain ⟨l2, u2⟩ := vl_bound (nxn 2 r) (n := 3) (by decide)
  obtain ⟨x2, hx2⟩ : ∃ x, vl (nxn 2 r) 3 = x := ⟨_, rfl⟩
  rw [hx2] at l2 u2
  have f2 : fw .i64 (1 + x2) = 1 + x2 := fwI (by omega) (by omega)
  have z3 : (nxn 3 r).size ≤ 9223372036854775807 := nxn_le 3 hr
  have e3 : nx (nxn 3 r) = nxn 4 r := nx_nxn 3 r
  obtain ⟨l3, u3⟩ := vl_bound (nxn 3 r) (n := 3) (by decide)
  obtain ⟨x3, hx3⟩ : ∃ x, vl (nxn 3 r) 3 = x := ⟨_, rfl⟩
  rw [hx3] at l3 u3
  have f3 : fw .i64 (1 + x3) = 1 + x3 := fwI (by omega) (by omega)
  have z4 : (nxn 4 r).size ≤ 9223372036854775807 := nxn_le 4 hr
  have e4 : nx (nxn 4 r) = nxn 5 r := nx_nxn 4 r
  obtain ⟨l4, u4⟩ := vl_bound (nxn 4 r) (n := 8) (by decide)
  obtain ⟨x4, hx4⟩ : ∃ x, vl (nxn 4 r) 8 = x := ⟨_, rfl⟩
  rw [hx4] at l4 u4
  have f4 : fw .i64 (1 + x4) = 1 + x4 := fwI (by omega) (by omega)
  have z5 : (nxn 5 r).size ≤ 9223372036854775807 := nxn_le 5 hr
  have e5 : nx (nxn 5 r) = nxn 6 r := nx_nxn 5 r
  obtain ⟨l5, u5⟩ := vl_bound (nxn 5 r) (n := 4) (by decide)
  obtain ⟨x5, hx5⟩ : ∃ x, vl (nxn 5 r) 4 = x := ⟨_, rfl⟩
  rw [hx5] at l5 u5
  have f5 : fw .i64 (1 + x5) = 1 + x5 := fwI (by omega) (by omega)
  have z6 : (nxn 6 r).size ≤ 9223372036854775807 := nxn_le 6 hr
  have e6 : nx (nxn 6 r) = nxn 7 r := nx_nxn 6 r
  obtain ⟨l6, u6⟩ := vl_bound (nxn 6 r) (n := 8) (by decide)
  obtain ⟨x6, hx6⟩ : ∃ x, vl (nxn 6 r) 8 = x := ⟨_, rfl⟩
  rw [hx6] at l6 u6
  have f6 : fw .i64 (1 + x6) = 1 + x6 := fwI (by omega) (by omega)
  have z7 : (nxn 7 r).size ≤ 9223372036854775807 := nxn_le 7 hr
  have e7 : nx (nxn 7 r) = nxn 8 r := nx_nxn 7 r
  obtain ⟨l7, u7⟩ := vl_bound (nxn 7 r) (n := 4) (by decide)
  obtain ⟨x7, hx7⟩ : ∃ x, vl (nxn 7 r) 4 = x := ⟨_, rfl⟩
  rw [hx7] at l7 u7
  have f7 : fw .i64 (1 + x7) = 1 + x7 := fwI (by omega) (by omega)
  have z8 : (nxn 8 r).size ≤ 9223372036854775807 := nxn_le 8 hr
  have e8 : nx (nxn 8 r) = nxn 9 r := nx_nxn 8 r
  obtain ⟨l8, u8⟩ := vl_bound (nxn 8 r) (n := 3) (by decide)
  obtain ⟨x8, hx8⟩ : ∃ x, vl (nxn 8 r) 3 = x := ⟨_, rfl⟩
  rw [hx8] at l8 u8
  have f8 : fw .i64 (1 + x8) = 1 + x8 := fwI (by omega) (by omega)
  have z9 : (nxn 9 r).size ≤ 9223372036854775807 := nxn_le 9 hr
  have e9 : nx (nxn 9 r) = nxn 10 r := nx_nxn 9 r
  obtain ⟨l9, u9⟩ := vl_bound (nxn 9 r) (n := 3) (by decide)
  have z10 : (nxn 10 r).size ≤ 9223372036854775807 := nxn_le 10 hr
  have e10 : nx (nxn 10 r) = nxn 11 r := nx_nxn 10 r
  obtain ⟨l10, u10⟩ := vl_bound (nxn 10 r) (n := 5) (by decide)
  obtain ⟨x10, hx10⟩ : ∃ x, vl (nxn 10 r) 5 = x := ⟨_, rfl⟩
  rw [hx10] at l10 u10
  have f10 : fw .i64 (1 + x10) = 1 + x10 := fwI (by omega) (by omega)
  have hr0 : r = nxn 0 r := rfl
  rw [hx2] at hg
  have ge : ¬ 1 + x2 = 3 := by omega
  have gu : fw .u8 (1 + x2) = 1 + x2 := fwB (by omega) (by omega)
  have li1 : fw .i64 1 = 1 := by decide
  have lu1 : fw .u8 1 = 1 := by decide
  have li2 : fw .i64 2 = 2 := by decide
  have lu2 : fw .u8 2 = 2 := by decide
  have li3 : fw .i64 3 = 3 := by decide
  have lu3 : fw .u8 3 = 3 := by decide
  have n0 : ¬ B = h.next := by omega
  have m0 : ¬ h.next = B := by omega
  have n1 : ¬ B = h.next + 1 := by omega
  have m1 : ¬ h.next + 1 = B := by omega
  have n2 : ¬ B = h.next + 2 := by omega
  have m2 : ¬ h.next + 2 = B := by omega
  have n3 : ¬ B = h.next + 3 := by omega
  have m3 : ¬ h.next + 3 = B := by omega
  have n4 : ¬ B = h.next + 4 := by omega
  have m4 : ¬ h.next + 4 = B := by omega
  rw [hr0] at hB
  simp only [go_sem, ↓reduceIte, ↓reduceDIte, zA, zM, zL, zE, zD, yA, yE, yL, yQ, yT, reduceCtorEq, c39, appA, appNew, hB, C40, takeK, hk, Option.isSome_some, z0, e0, hx0, f0, z1, e1, hx1, f1, z2, e2, hx2, f2, z3, e3, hx3, f3, z4, e4, hx4, f4, z5, e5, hx5, f5, z6, e6, hx6, f6, z7, e7, hx7, f7, z8, e8, hx8, f8, z9, e9, z10, e10, hx10, f10, ge, gu, li1, lu1, li2, lu2, li3, lu3, n0, m0, n1, m1, n2, m2, n3, m3, n4, m4]
  refine unroll 4 ?_
  simp only [go_sem, ↓reduceIte, ↓reduceDIte, zA, zM, zL, zE, zD, yA, yE, yL, yQ, yT, reduceCtorEq, c39_l15, appA, appNew, hB, C40, takeK, hk, Option.isSome_some, z0, e0, hx0, f0, z1, e1, hx1, f1, z2, e2, hx2, f2, z3, e3, hx3, f3, z4, e4, hx4, f4, z5, e5, hx5, f5, z6, e6, hx6, f6, z7, e7, hx7, f7, z8, e8, hx8, f8, z9, e9, z10, e10, hx10, f10, ge, gu, li1, lu1, li2, lu2, li3, lu3, n0, m0, n1, m1, n2, m2, n3, m3, n4, m4]
  have hc : cfgS r = (⟨1 + x0, 1 + x1, 1 + x2, 0, 2, 1 + x10, [], x6, x7, x8, 0, 0, 0, 1 + x3, 1 + x4, x5⟩, nxn 11 r) := by
    have hx0' : vl r 4 = x0 := hx0
    simp only [cfgS, hg, if_pos, if_true, if_false, ↓reduceIte, cfgS2, nxn_add, Nat.reduceAdd, hk, nx_nxn, Int.reduceAdd, Int.reduceEq, Int.reduceToNat, cutsS, hx0', hx1, hx2, hx3, hx4, hx5, hx6, hx7, hx8, hx10]
  refine ⟨.nils, by rw [hc]; rfl, ⟨Nat.le_add_right _ _, fun b hb hne => ?_, ?_⟩, ?_, ?_⟩
  · have o0 : ¬ b = h.next := by omega
    have o1 : ¬ b = h.next + 1 := by omega
    have o2 : ¬ b = h.next + 2 := by omega
    simp only [go_sem, ↓reduceIte, ↓reduceDIte, zA, zM, zL, zE, zD, yA, yE, yL, yQ, yT, reduceCtorEq, hne, o0, o1, o2]
  · rw [hc]
    simp only [go_sem, ↓reduceIte, ↓reduceDIte, zA, zM, zL, zE, zD, yA, yE, yL, yQ, yT, reduceCtorEq, n0, m0, n1, m1, n2, m2, n3, m3, n4, m4, rowL]
  · rw [hc]; exact .nil
  · intro a ha; simp [own] at ha
set_option maxRecDepth 10000 in
theorem w39_020 (P : Program) {call : CallE} (h40 : Has call 40 takeK) {h : H} {B t : Nat} {r : ByteArray} (hB : h.t.get B = some (rowL [.str r] t)) (hlt : B < h.next) (hr : r.size ≤ 9223372036854775807) (hg : ¬ vl (nxn 2 r) 3 = 2) (hk : vl (nxn 9 r) 3 = 2) (hn : vl (nxn 10 r) 3 = 0) :
    WF P call c39 [.fn (.func 40) [.ptr B 0] []] h (Post39 B t r h) := by
  have C40 : ∀ args h, (takeK args h).isSome = true → call 40 args h = takeK args h := fun _ _ hs => h40.eq hs
  have z0 : (nxn 0 r).size ≤ 9223372036854775807 := nxn_le 0 hr
  have e0 : nx (nxn 0 r) = nxn 1 r := nx_nxn 0 r
  obtain ⟨l0, u0⟩ := vl_bound (nxn 0 r) (n := 4) (by decide)
  obtain ⟨x0, hx0⟩ : ∃ x, vl (nxn 0 r) 4 = x := ⟨_, rfl⟩
  rw [hx0] at l0 u0
  have f0 : fw .i64 (1 + x0) = 1 + x0 := fwI (by omega) (by omega)
  have z1 : (nxn 1 r).size ≤ 9223372036854775807 := nxn_le 1 hr
  have e1 : nx (nxn 1 r) = nxn 2 r := nx_nxn 1 r
  obtain ⟨l1, u1⟩ := vl_bound (nxn 1 r) (n := 4) (by decide)
  obtain ⟨x1, hx1⟩ : ∃ x, vl (nxn 1 r) 4 = x := ⟨_, rfl⟩
  rw [hx1] at l1 u1
  have f1 : fw .i64 (1 + x1) = 1 + x1 := fwI (by omega) (by omega)
  have z2 : (nxn 2 r).size ≤ 9223372036854775807 := nxn_le 2 hr
  have e2 : nx (nxn 2 r) = nxn 3 r := nx_nxn 2 r
  obtain ⟨l2, u2⟩ := vl_bound (nxn 2 r) (n := 3) (by decide)
  obtain ⟨x2, hx2⟩ : ∃ x, vl (nxn 2 r) 3 = x := ⟨_, rfl⟩
  rw [hx2] at l2 u2
  have f2 : fw .i64 (1 + x2) = 1 + x2 := fwI (by omega) (by omega)
  have z3 : (nxn 3 r).size ≤ 9223372036854775807 := nxn_le 3 hr
  have e3 : nx (nxn 3 r) = nxn 4 r := nx_nxn 3 r
  obtain ⟨l3, u3⟩ := vl_bound (nxn 3 r) (n := 3) (by decide)
  obtain ⟨x3, hx3⟩ : ∃ x, vl (nxn 3 r) 3 = x := ⟨_, rfl⟩
  rw [hx3] at l3 u3
  have f3 : fw .i64 (1 + x3) = 1 + x3 := fwI (by omega) (by omega)
  have z4 : (nxn 4 r).size ≤ 9223372036854775807 := nxn_le 4 hr
  have e4 : nx (nxn 4 r) = nxn 5 r := nx_nxn 4 r
  obtain ⟨l4, u4⟩ := vl_bound (nxn 4 r) (n := 8) (by decide)
  obtain ⟨x4, hx4⟩ : ∃ x, vl (nxn 4 r) 8 = x := ⟨_, rfl⟩
  rw [hx4] at l4 u4
  have f4 : fw .i64 (1 + x4) = 1 + x4 := fwI (by omega) (by omega)
  have z5 : (nxn 5 r).size ≤ 9223372036854775807 := nxn_le 5 hr
  have e5 : nx (nxn 5 r) = nxn 6 r := nx_nxn 5 r
  obtain ⟨l5, u5⟩ := vl_bound (nxn 5 r) (n := 4) (by decide)
  obtain ⟨x5, hx5⟩ : ∃ x, vl (nxn 5 r) 4 = x := ⟨_, rfl⟩
  rw [hx5] at l5 u5
  have f5 : fw .i64 (1 + x5) = 1 + x5 := fwI (by omega) (by omega)
  have z6 : (nxn 6 r).size ≤ 9223372036854775807 := nxn_le 6 hr
  have e6 : nx (nxn 6 r) = nxn 7 r := nx_nxn 6 r
  obtain ⟨l6, u6⟩ := vl_bound (nxn 6 r) (n := 8) (by decide)
  obtain ⟨x6, hx6⟩ : ∃ x, vl (nxn 6 r) 8 = x := ⟨_, rfl⟩
  rw [hx6] at l6 u6
  have f6 : fw .i64 (1 + x6) = 1 + x6 := fwI (by omega) (by omega)
  have z7 : (nxn 7 r).size ≤ 9223372036854775807 := nxn_le 7 hr
  have e7 : nx (nxn 7 r) = nxn 8 r := nx_nxn 7 r
  obtain ⟨l7, u7⟩ := vl_bound (nxn 7 r) (n := 4) (by decide)
  obtain ⟨x7, hx7⟩ : ∃ x, vl (nxn 7 r) 4 = x := ⟨_, rfl⟩
  rw [hx7] at l7 u7
  have f7 : fw .i64 (1 + x7) = 1 + x7 := fwI (by omega) (by omega)
  have z8 : (nxn 8 r).size ≤ 9223372036854775807 := nxn_le 8 hr
  have e8 : nx (nxn 8 r) = nxn 9 r := nx_nxn 8 r
  obtain ⟨l8, u8⟩ := vl_bound (nxn 8 r) (n := 3) (by decide)
  obtain ⟨x8, hx8⟩ : ∃ x, vl (nxn 8 r) 3 = x := ⟨_, rfl⟩
  rw [hx8] at l8 u8
  have f8 : fw .i64 (1 + x8) = 1 + x8 := fwI (by omega) (by omega)
  have z9 : (nxn 9 r).size ≤ 9223372036854775807 := nxn_le 9 hr
  have e9 : nx (nxn 9 r) = nxn 10 r := nx_nxn 9 r
  obtain ⟨l9, u9⟩ := vl_bound (nxn 9 r) (n := 3) (by decide)
  have z10 : (nxn 10 r).size ≤ 9223372036854775807 := nxn_le 10 hr
  have e10 : nx (nxn 10 r) = nxn 11 r := nx_nxn 10 r
  obtain ⟨l10, u10⟩ := vl_bound (nxn 10 r) (n := 3) (by decide)
  have z11 : (nxn 11 r).size ≤ 9223372036854775807 := nxn_le 11 hr
  have e11 : nx (nxn 11 r) = nxn 12 r := nx_nxn 11 r
  obtain ⟨l11, u11⟩ := vl_bound (nxn 11 r) (n := 8) (by decide)
  obtain ⟨x11, hx11⟩ : ∃ x, vl (nxn 11 r) 8 = x := ⟨_, rfl⟩
  rw [hx11] at l11 u11
  have f11 : fw .i64 (1 + x11) = 1 + x11 := fwI (by omega) (by omega)
  have hr0 : r = nxn 0 r := rfl
  rw [hx2] at hg
  have ge : ¬ 1 + x2 = 3 := by omega
  have gu : fw .u8 (1 + x2) = 1 + x2 := fwB (by omega) (by omega)
  have li1 : fw .i64 1 = 1 := by decide
  have lu1 : fw .u8 1 = 1 := by decide
  have li2 : fw .i64 2 = 2 := by decide
  have lu2 : fw .u8 2 = 2 := by decide
  have li3 : fw .i64 3 = 3 := by decide
  have lu3 : fw .u8 3 = 3 := by decide
  have fu0 : fw .u64 (1 + x11) = 1 + x11 := fwU (by omega) (by omega)
  have fa0 : fw .u64 (0 + (1 + x11)) = 0 + (1 + x11) := fwU (by omega) (by omega)
  have n0 : ¬ B = h.next := by omega
  have m0 : ¬ h.next = B := by omega
  have n1 : ¬ B = h.next + 1 := by omega
  have m1 : ¬ h.next + 1 = B := by omega
  have n2 : ¬ B = h.next + 2 := by omega
  have m2 : ¬ h.next + 2 = B := by omega
  have n3 : ¬ B = h.next + 3 := by omega
  have m3 : ¬ h.next + 3 = B := by omega
  have n4 : ¬ B = h.next + 4 := by omega
  have m4 : ¬ h.next + 4 = B := by omega
  have n5 : ¬ B = h.next + 5 := by omega
  have m5 : ¬ h.next + 5 = B := by omega
  have n6 : ¬ B = h.next + 6 := by omega
  have m6 : ¬ h.next + 6 = B := by omega
  rw [hr0] at hB
  simp only [go_sem, ↓reduceIte, ↓reduceDIte, zA, zM, zL, zE, zD, yA, yE, yL, yQ, yT, reduceCtorEq, c39, appA, appNew, hB, C40, takeK, hk, Option.isSome_some, hn, z0, e0, hx0, f0, z1, e1, hx1, f1, z2, e2, hx2, f2, z3, e3, hx3, f3, z4, e4, hx4, f4, z5, e5, hx5, f5, z6, e6, hx6, f6, z7, e7, hx7, f7, z8, e8, hx8, f8, z9, e9, z10, e10, z11, e11, hx11, f11, ge, gu, li1, lu1, li2, lu2, li3, lu3, fu0, fa0, n0, m0, n1, m1, n2, m2, n3, m3, n4, m4, n5, m5, n6, m6]
  refine unroll 4 ?_
  simp only [go_sem, ↓reduceIte, ↓reduceDIte, zA, zM, zL, zE, zD, yA, yE, yL, yQ, yT, reduceCtorEq, c39_l15, appA, appNew, hB, C40, takeK, hk, Option.isSome_some, hn, z0, e0, hx0, f0, z1, e1, hx1, f1, z2, e2, hx2, f2, z3, e3, hx3, f3, z4, e4, hx4, f4, z5, e5, hx5, f5, z6, e6, hx6, f6, z7, e7, hx7, f7, z8, e8, hx8, f8, z9, e9, z10, e10, z11, e11, hx11, f11, ge, gu, li1, lu1, li2, lu2, li3, lu3, fu0, fa0, n0, m0, n1, m1, n2, m2, n3, m3, n4, m4, n5, m5, n6, m6]
  refine unroll 2 ?_
  simp only [go_sem, ↓reduceIte, ↓reduceDIte, zA, zM, zL, zE, zD, yA, yE, yL, yQ, yT, reduceCtorEq, c39_l27, appA, appNew, hB, C40, takeK, hk, Option.isSome_some, hn, z0, e0, hx0, f0, z1, e1, hx1, f1, z2, e2, hx2, f2, z3, e3, hx3, f3, z4, e4, hx4, f4, z5, e5, hx5, f5, z6, e6, hx6, f6, z7, e7, hx7, f7, z8, e8, hx8, f8, z9, e9, z10, e10, z11, e11, hx11, f11, ge, gu, li1, lu1, li2, lu2, li3, lu3, fu0, fa0, n0, m0, n1, m1, n2, m2, n3, m3, n4, m4, n5, m5, n6, m6]
  have hc : cfgS r = (⟨1 + x0, 1 + x1, 1 + x2, 0, 3, 0, [0 + (1 + x11)], x6, x7, x8, 0, 0, 0, 1 + x3, 1 + x4, x5⟩, nxn 12 r) := by
    have hx0' : vl r 4 = x0 := hx0
    simp only [cfgS, hg, if_pos, if_true, if_false, ↓reduceIte, cfgS2, nxn_add, Nat.reduceAdd, hk, nx_nxn, Int.reduceAdd, Int.reduceEq, Int.reduceToNat, cutsS, hn, hx0', hx1, hx2, hx3, hx4, hx5, hx6, hx7, hx8, hx11]
  refine ⟨(.sl (h.next + 4) 0 1 1 none), by rw [hc]; rfl, ⟨Nat.le_add_right _ _, fun b hb hne => ?_, ?_⟩, ?_, ?_⟩
  · have o0 : ¬ b = h.next := by omega
    have o1 : ¬ b = h.next + 1 := by omega
    have o2 : ¬ b = h.next + 2 := by omega
    have o3 : ¬ b = h.next + 3 := by omega
    have o4 : ¬ b = h.next + 4 := by omega
    simp only [go_sem, ↓reduceIte, ↓reduceDIte, zA, zM, zL, zE, zD, yA, yE, yL, yQ, yT, reduceCtorEq, hne, o0, o1, o2, o3, o4]
  · rw [hc]
    simp only [go_sem, ↓reduceIte, ↓reduceDIte, zA, zM, zL, zE, zD, yA, yE, yL, yQ, yT, reduceCtorEq, n0, m0, n1, m1, n2, m2, n3, m3, n4, m4, n5, m5, n6, m6, rowL]
  · rw [hc]
    refine .sl _ _ _ _ (.inl rfl) (by decide) rfl (by show h.next + 4 < h.next + 5; omega) ?_
    simp only [go_sem, ↓reduceIte, ↓reduceDIte, zA, zM, zL, zE, zD, yA, yE, yL, yQ, yT, reduceCtorEq, n0, m0, n1, m1, n2, m2, n3, m3, n4, m4, n5, m5, n6, m6, rowL, List.map_cons, List.map_nil]
  · intro a ha; simp only [own, Option.some.injEq] at ha; omega
set_option maxRecDepth 10000 in
theorem w39_021 (P : Program) {call : CallE} (h40 : Has call 40 takeK) {h : H} {B t : Nat} {r : ByteArray} (hB : h.t.get B = some (rowL [.str r] t)) (hlt : B < h.next) (hr : r.size ≤ 9223372036854775807) (hg : ¬ vl (nxn 2 r) 3 = 2) (hk : vl (nxn 9 r) 3 = 2) (hn : vl (nxn 10 r) 3 = 1) :
    WF P call c39 [.fn (.func 40) [.ptr B 0] []] h (Post39 B t r h) := by
  have C40 : ∀ args h, (takeK args h).isSome = true → call 40 args h = takeK args h := fun _ _ hs => h40.eq hs
  have z0 : (nxn 0 r).size ≤ 9223372036854775807 := nxn_le 0 hr
  have e0 : nx (nxn 0 r) = nxn 1 r := nx_nxn 0 r
  obtain ⟨l0, u0⟩ := vl_bound (nxn 0 r) (n := 4) (by decide)
  obtain ⟨x0, hx0⟩ : ∃ x, vl (nxn 0 r) 4 = x := ⟨_, rfl⟩
  rw [hx0] at l0 u0
  have f0 : fw .i64 (1 + x0) = 1 + x0 := fwI (by omega) (by omega)
  have z1 : (nxn 1 r).size ≤ 9223372036854775807 := nxn_le 1 hr
  have e1 : nx (nxn 1 r) = nxn 2 r := nx_nxn 1 r
  obtain ⟨l1, u1⟩ := vl_bound (nxn 1 r) (n := 4) (by decide)
  obtain ⟨x1, hx1⟩ : ∃ x, vl (nxn 1 r) 4 = x := ⟨_, rfl⟩
  rw [hx1] at l1 u1
  have f1 : fw .i64 (1 + x1) = 1 + x1 := fwI (by omega) (by omega)
  have z2 : (nxn 2 r).size ≤ 9223372036854775807 := nxn_le 2 hr
  have e2 : nx (nxn 2 r) = nxn 3 r := nx_nxn 2 r
  obtain ⟨l2, u2⟩ := vl_bound (nxn 2 r) (n := 3) (by decide)
  obtain ⟨x2, hx2⟩ : ∃ x, vl (nxn 2 r) 3 = x := ⟨_, rfl⟩
  rw [hx2] at l2 u2
  have f2 : fw .i64 (1 + x2) = 1 + x2 := fwI (by omega) (by omega)
  have z3 : (nxn 3 r).size ≤ 9223372036854775807 := nxn_le 3 hr
  have e3 : nx (nxn 3 r) = nxn 4 r := nx_nxn 3 r
  obtain ⟨l3, u3⟩ := vl_bound (nxn 3 r) (n := 3) (by decide)
  obtain ⟨x3, hx3⟩ : ∃ x, vl (nxn 3 r) 3 = x := ⟨_, rfl⟩
  rw [hx3] at l3 u3
  have f3 : fw .i64 (1 + x3) = 1 + x3 := fwI (by omega) (by omega)
  have z4 : (nxn 4 r).size ≤ 9223372036854775807 := nxn_le 4 hr
  have e4 : nx (nxn 4 r) = nxn 5 r := nx_nxn 4 r
  obtain ⟨l4, u4⟩ := vl_bound (nxn 4 r) (n := 8) (by decide)
  obtain ⟨x4, hx4⟩ : ∃ x, vl (nxn 4 r) 8 = x := ⟨_, rfl⟩
  rw [hx4] at l4 u4
  have f4 : fw .i64 (1 + x4) = 1 + x4 := fwI (by omega) (by omega)
  have z5 : (nxn 5 r).size ≤ 9223372036854775807 := nxn_le 5 hr
  have e5 : nx (nxn 5 r) = nxn 6 r := nx_nxn 5 r
  obtain ⟨l5, u5⟩ := vl_bound (nxn 5 r) (n := 4) (by decide)
  obtain ⟨x5, hx5⟩ : ∃ x, vl (nxn 5 r) 4 = x := ⟨_, rfl⟩
  rw [hx5] at l5 u5
  have f5 : fw .i64 (1 + x5) = 1 + x5 := fwI (by omega) (by omega)
  have z6 : (nxn 6 r).size ≤ 9223372036854775807 := nxn_le 6 hr
  have e6 : nx (nxn 6 r) = nxn 7 r := nx_nxn 6 r
  obtain ⟨l6, u6⟩ := vl_bound (nxn 6 r) (n := 8) (by decide)
  obtain ⟨x6, hx6⟩ : ∃ x, vl (nxn 6 r) 8 = x := ⟨_, rfl⟩
  rw [hx6] at l6 u6
  have f6 : fw .i64 (1 + x6) = 1 + x6 := fwI (by omega) (by omega)
  have z7 : (nxn 7 r).size ≤ 9223372036854775807 := nxn_le 7 hr
  have e7 : nx (nxn 7 r) = nxn 8 r := nx_nxn 7 r
  obtain ⟨l7, u7⟩ := vl_bound (nxn 7 r) (n := 4) (by decide)
  obtain ⟨x7, hx7⟩ : ∃ x, vl (nxn 7 r) 4 = x := ⟨_, rfl⟩
  rw [hx7] at l7 u7
  have f7 : fw .i64 (1 + x7) = 1 + x7 := fwI (by omega) (by omega)
  have z8 : (nxn 8 r).size ≤ 9223372036854775807 := nxn_le 8 hr
  have e8 : nx (nxn 8 r) = nxn 9 r := nx_nxn 8 r
  obtain ⟨l8, u8⟩ := vl_bound (nxn 8 r) (n := 3) (by decide)
  obtain ⟨x8, hx8⟩ : ∃ x, vl (nxn 8 r) 3 = x := ⟨_, rfl⟩
  rw [hx8] at l8 u8
  have f8 : fw .i64 (1 + x8) = 1 + x8 := fwI (by omega) (by omega)
  have z9 : (nxn 9 r).size ≤ 9223372036854775807 := nxn_le 9 hr
  have e9 : nx (nxn 9 r) = nxn 10 r := nx_nxn 9 r
  obtain ⟨l9, u9⟩ := vl_bound (nxn 9 r) (n := 3) (by decide)
  have z10 : (nxn 10 r).size ≤ 9223372036854775807 := nxn_le 10 hr
  have e10 : nx (nxn 10 r) = nxn 11 r := nx_nxn 10 r
  obtain ⟨l10, u10⟩ := vl_bound (nxn 10 r) (n := 3) (by decide)
  have z11 : (nxn 11 r).size ≤ 9223372036854775807 := nxn_le 11 hr
  have e11 : nx (nxn 11 r) = nxn 12 r := nx_nxn 11 r
  obtain ⟨l11, u11⟩ := vl_bound (nxn 11 r) (n := 8) (by decide)
  obtain ⟨x11, hx11⟩ : ∃ x, vl (nxn 11 r) 8 = x := ⟨_, rfl⟩
  rw [hx11] at l11 u11
  have f11 : fw .i64 (1 + x11) = 1 + x11 := fwI (by omega) (by omega)
  have z12 : (nxn 12 r).size ≤ 9223372036854775807 := nxn_le 12 hr
  have e12 : nx (nxn 12 r) = nxn 13 r := nx_nxn 12 r
  obtain ⟨l12, u12⟩ := vl_bound (nxn 12 r) (n := 8) (by decide)
  obtain ⟨x12, hx12⟩ : ∃ x, vl (nxn 12 r) 8 = x := ⟨_, rfl⟩
  rw [hx12] at l12 u12
  have f12 : fw .i64 (1 + x12) = 1 + x12 := fwI (by omega) (by omega)
  have hr0 : r = nxn 0 r := rfl
  rw [hx2] at hg
  have ge : ¬ 1 + x2 = 3 := by omega
  have gu : fw .u8 (1 + x2) = 1 + x2 := fwB (by omega) (by omega)
  have li1 : fw .i64 1 = 1 := by decide
  have lu1 : fw .u8 1 = 1 := by decide
  have li2 : fw .i64 2 = 2 := by decide
  have lu2 : fw .u8 2 = 2 := by decide
  have li3 : fw .i64 3 = 3 := by decide
  have lu3 : fw .u8 3 = 3 := by decide
  have fu0 : fw .u64 (1 + x11) = 1 + x11 := fwU (by omega) (by omega)
  have fa0 : fw .u64 (0 + (1 + x11)) = 0 + (1 + x11) := fwU (by omega) (by omega)
  have fu1 : fw .u64 (1 + x12) = 1 + x12 := fwU (by omega) (by omega)
  have fa1 : fw .u64 (0 + (1 + x11) + (1 + x12)) = 0 + (1 + x11) + (1 + x12) := fwU (by omega) (by omega)
  have n0 : ¬ B = h.next := by omega
  have m0 : ¬ h.next = B := by omega
  have n1 : ¬ B = h.next + 1 := by omega
  have m1 : ¬ h.next + 1 = B := by omega
  have n2 : ¬ B = h.next + 2 := by omega
  have m2 : ¬ h.next + 2 = B := by omega
  have n3 : ¬ B = h.next + 3 := by omega
  have m3 : ¬ h.next + 3 = B := by omega
  have n4 : ¬ B = h.next + 4 := by omega
  have m4 : ¬ h.next + 4 = B := by omega
  have n5 : ¬ B = h.next + 5 := by omega
  have m5 : ¬ h.next + 5 = B := by omega
  have n6 : ¬ B = h.next + 6 := by omega
  have m6 : ¬ h.next + 6 = B := by omega
  have n7 : ¬ B = h.next + 7 := by omega
  have m7 : ¬ h.next + 7 = B := by omega
  have n8 : ¬ B = h.next + 8 := by omega
  have m8 : ¬ h.next + 8 = B := by omega
  rw [hr0] at hB
  simp only [go_sem, ↓reduceIte, ↓reduceDIte, zA, zM, zL, zE, zD, yA, yE, yL, yQ, yT, reduceCtorEq, c39, appA, appNew, hB, C40, takeK, hk, Option.isSome_some, hn, z0, e0, hx0, f0, z1, e1, hx1, f1, z2, e2, hx2, f2, z3, e3, hx3, f3, z4, e4, hx4, f4, z5, e5, hx5, f5, z6, e6, hx6, f6, z7, e7, hx7, f7, z8, e8, hx8, f8, z9, e9, z10, e10, z11, e11, hx11, f11, z12, e12, hx12, f12, ge, gu, li1, lu1, li2, lu2, li3, lu3, fu0, fa0, fu1, fa1, n0, m0, n1, m1, n2, m2, n3, m3, n4, m4, n5, m5, n6, m6, n7, m7, n8, m8]
  refine unroll 4 ?_
  simp only [go_sem, ↓reduceIte, ↓reduceDIte, zA, zM, zL, zE, zD, yA, yE, yL, yQ, yT, reduceCtorEq, c39_l15, appA, appNew, hB, C40, takeK, hk, Option.isSome_some, hn, z0, e0, hx0, f0, z1, e1, hx1, f1, z2, e2, hx2, f2, z3, e3, hx3, f3, z4, e4, hx4, f4, z5, e5, hx5, f5, z6, e6, hx6, f6, z7, e7, hx7, f7, z8, e8, hx8, f8, z9, e9, z10, e10, z11, e11, hx11, f11, z12, e12, hx12, f12, ge, gu, li1, lu1, li2, lu2, li3, lu3, fu0, fa0, fu1, fa1, n0, m0, n1, m1, n2, m2, n3, m3, n4, m4, n5, m5, n6, m6, n7, m7, n8, m8]
  refine unroll 3 ?_
  simp only [go_sem, ↓reduceIte, ↓reduceDIte, zA, zM, zL, zE, zD, yA, yE, yL, yQ, yT, reduceCtorEq, c39_l27, appA, appNew, hB, C40, takeK, hk, Option.isSome_some, hn, z0, e0, hx0, f0, z1, e1, hx1, f1, z2, e2, hx2, f2, z3, e3, hx3, f3, z4, e4, hx4, f4, z5, e5, hx5, f5, z6, e6, hx6, f6, z7, e7, hx7, f7, z8, e8, hx8, f8, z9, e9, z10, e10, z11, e11, hx11, f11, z12, e12, hx12, f12, ge, gu, li1, lu1, li2, lu2, li3, lu3, fu0, fa0, fu1, fa1, n0, m0, n1, m1, n2, m2, n3, m3, n4, m4, n5, m5, n6, m6, n7, m7, n8, m8]
  have hc : cfgS r = (⟨1 + x0, 1 + x1, 1 + x2, 0, 3, 0, [0 + (1 + x11), 0 + (1 + x11) + (1 + x12)], x6, x7, x8, 0, 0, 0, 1 + x3, 1 + x4, x5⟩, nxn 13 r) := by
    have hx0' : vl r 4 = x0 := hx0
    simp only [cfgS, hg, if_pos, if_true, if_false, ↓reduceIte, cfgS2, nxn_add, Nat.reduceAdd, hk, nx_nxn, Int.reduceAdd, Int.reduceEq, Int.reduceToNat, cutsS, hn, hx0', hx1, hx2, hx3, hx4, hx5, hx6, hx7, hx8, hx11, hx12]
  refine ⟨(.sl (h.next + 6) 0 2 1 none), by rw [hc]; rfl, ⟨Nat.le_add_right _ _, fun b hb hne => ?_, ?_⟩, ?_, ?_⟩
  · have o0 : ¬ b = h.next := by omega
    have o1 : ¬ b = h.next + 1 := by omega
    have o2 : ¬ b = h.next + 2 := by omega
    have o3 : ¬ b = h.next + 3 := by omega
    have o4 : ¬ b = h.next + 4 := by omega
    have o5 : ¬ b = h.next + 5 := by omega
    have o6 : ¬ b = h.next + 6 := by omega
    simp only [go_sem, ↓reduceIte, ↓reduceDIte, zA, zM, zL, zE, zD, yA, yE, yL, yQ, yT, reduceCtorEq, hne, o0, o1, o2, o3, o4, o5, o6]
  · rw [hc]
    simp only [go_sem, ↓reduceIte, ↓reduceDIte, zA, zM, zL, zE, zD, yA, yE, yL, yQ, yT, reduceCtorEq, n0, m0, n1, m1, n2, m2, n3, m3, n4, m4, n5, m5, n6, m6, n7, m7, n8, m8, rowL]
  · rw [hc]
    refine .sl _ _ _ _ (.inl rfl) (by decide) rfl (by show h.next + 6 < h.next + 7; omega) ?_
    simp only [go_sem, ↓reduceIte, ↓reduceDIte, zA, zM, zL, zE, zD, yA, yE, yL, yQ, yT, reduceCtorEq, n0, m0, n1, m1, n2, m2, n3, m3, n4, m4, n5, m5, n6, m6, n7, m7, n8, m8, rowL, List.map_cons, List.map_nil]
  · intro a ha; simp only [own, Option.some.injEq] at ha; omega
set_option maxRecDepth 10000 in
theorem w39_022 (P : Program) {call : CallE} (h40 : Has call 40 takeK) {h : H} {B t : Nat} {r : ByteArray} (hB : h.t.get B = some (rowL [.str r] t)) (hlt : B < h.next) (hr : r.size ≤ 9223372036854775807) (hg : ¬ vl (nxn 2 r) 3 = 2) (hk : vl (nxn 9 r) 3 = 2) (hn : vl (nxn 10 r) 3 = 2) :
    WF P call c39 [.fn (.func 40) [.ptr B 0] []] h (Post39 B t r h) := by
  have C40 : ∀ args h, (takeK args h).isSome = true → call 40 args h = takeK args h := fun _ _ hs => h40.eq hs
  have z0 : (nxn 0 r).size ≤ 9223372036854775807 := nxn_le 0 hr
  have e0 : nx (nxn 0 r) = nxn 1 r := nx_nxn 0 r
  obtain ⟨l0, u0⟩ := vl_bound (nxn 0 r) (n := 4) (by decide)
  obtain ⟨x0, hx0⟩ : ∃ x, vl (nxn 0 r) 4 = x := ⟨_, rfl⟩
  rw [hx0] at l0 u0
  have f0 : fw .i64 (1 + x0) = 1 + x0 := fwI (by omega) (by omega)
  have z1 : (nxn 1 r).size ≤ 9223372036854775807 := nxn_le 1 hr
  have e1 : nx (nxn 1 r) = nxn 2 r := nx_nxn 1 r
  obtain ⟨l1, u1⟩ := vl_bound (nxn 1 r) (n := 4) (by decide)
  obtain ⟨x1, hx1⟩ : ∃ x, vl (nxn 1 r) 4 = x := ⟨_, rfl⟩
  rw [hx1] at l1 u1
  have f1 : fw .i64 (1 + x1) = 1 + x1 := fwI (by omega) (by omega)
  have z2 : (nxn 2 r).size ≤ 9223372036854775807 := nxn_le 2 hr
  have e2 : nx (nxn 2 r) = nxn 3 r := nx_nxn 2 r
  obtain ⟨l2, u2⟩ := vl_bound (nxn 2 r) (n := 3) (by decide)
  obtain ⟨x2, hx2⟩ : ∃ x, vl (nxn 2 r) 3 = x := ⟨_, rfl⟩
  rw [hx2] at l2 u2
  have f2 : fw .i64 (1 + x2) = 1 + x2 := fwI (by omega) (by omega)
  have z3 : (nxn 3 r).size ≤ 9223372036854775807 := nxn_le 3 hr
  have e3 : nx (nxn 3 r) = nxn 4 r := nx_nxn 3 r
  obtain ⟨l3, u3⟩ := vl_bound (nxn 3 r) (n := 3) (by decide)
  obtain ⟨x3, hx3⟩ : ∃ x, vl (nxn 3 r) 3 = x := ⟨_, rfl⟩
  rw [hx3] at l3 u3
  have f3 : fw .i64 (1 + x3) = 1 + x3 := fwI (by omega) (by omega)
  have z4 : (nxn 4 r).size ≤ 9223372036854775807 := nxn_le 4 hr
  have e4 : nx (nxn 4 r) = nxn 5 r := nx_nxn 4 r
  obtain ⟨l4, u4⟩ := vl_bound (nxn 4 r) (n := 8) (by decide)
  obtain ⟨x4, hx4⟩ : ∃ x, vl (nxn 4 r) 8 = x := ⟨_, rfl⟩
  rw [hx4] at l4 u4
  have f4 : fw .i64 (1 + x4) = 1 + x4 := fwI (by omega) (by omega)
  have z5 : (nxn 5 r).size ≤ 9223372036854775807 := nxn_le 5 hr
  have e5 : nx (nxn 5 r) = nxn 6 r := nx_nxn 5 r
  obtain ⟨l5, u5⟩ := vl_bound (nxn 5 r) (n := 4) (by decide)
  obtain ⟨x5, hx5⟩ : ∃ x, vl (nxn 5 r) 4 = x := ⟨_, rfl⟩
  rw [hx5] at l5 u5
  have f5 : fw .i64 (1 + x5) = 1 + x5 := fwI (by omega) (by omega)
  have z6 : (nxn 6 r).size ≤ 9223372036854775807 := nxn_le 6 hr
  have e6 : nx (nxn 6 r) = nxn 7 r := nx_nxn 6 r
  obtain ⟨l6, u6⟩ := vl_bound (nxn 6 r) (n := 8) (by decide)
  obtain ⟨x6, hx6⟩ : ∃ x, vl (nxn 6 r) 8 = x := ⟨_, rfl⟩
  rw [hx6] at l6 u6
  have f6 : fw .i64 (1 + x6) = 1 + x6 := fwI (by omega) (by omega)
  have z7 : (nxn 7 r).size ≤ 9223372036854775807 := nxn_le 7 hr
  have e7 : nx (nxn 7 r) = nxn 8 r := nx_nxn 7 r
  obtain ⟨l7, u7⟩ := vl_bound (nxn 7 r) (n := 4) (by decide)
  obtain ⟨x7, hx7⟩ : ∃ x, vl (nxn 7 r) 4 = x := ⟨_, rfl⟩
  rw [hx7] at l7 u7
  have f7 : fw .i64 (1 + x7) = 1 + x7 := fwI (by omega) (by omega)
  have z8 : (nxn 8 r).size ≤ 9223372036854775807 := nxn_le 8 hr
  have e8 : nx (nxn 8 r) = nxn 9 r := nx_nxn 8 r
  obtain ⟨l8, u8⟩ := vl_bound (nxn 8 r) (n := 3) (by decide)
  obtain ⟨x8, hx8⟩ : ∃ x, vl (nxn 8 r) 3 = x := ⟨_, rfl⟩
  rw [hx8] at l8 u8
  have f8 : fw .i64 (1 + x8) = 1 + x8 := fwI (by omega) (by omega)
  have z9 : (nxn 9 r).size ≤ 9223372036854775807 := nxn_le 9 hr
  have e9 : nx (nxn 9 r) = nxn 10 r := nx_nxn 9 r
  obtain ⟨l9, u9⟩ := vl_bound (nxn 9 r) (n := 3) (by decide)
  have z10 : (nxn 10 r).size ≤ 9223372036854775807 := nxn_le 10 hr
  have e10 : nx (nxn 10 r) = nxn 11 r := nx_nxn 10 r
  obtain ⟨l10, u10⟩ := vl_bound (nxn 10 r) (n := 3) (by decide)
  have z11 : (nxn 11 r).size ≤ 9223372036854775807 := nxn_le 11 hr
  have e11 : nx (nxn 11 r) = nxn 12 r := nx_nxn 11 r
  obtain ⟨l11, u11⟩ := vl_bound (nxn 11 r) (n := 8) (by decide)
  obtain ⟨x11, hx11⟩ : ∃ x, vl (nxn 11 r) 8 = x := ⟨_, rfl⟩
  rw [hx11] at l11 u11
  have f11 : fw .i64 (1 + x11) = 1 + x11 := fwI (by omega) (by omega)
  have z12 : (nxn 12 r).size ≤ 9223372036854775807 := nxn_le 12 hr
  have e12 : nx (nxn 12 r) = nxn 13 r := nx_nxn 12 r
  obtain ⟨l12, u12⟩ := vl_bound (nxn 12 r) (n := 8) (by decide)
  obtain ⟨x12, hx12⟩ : ∃ x, vl (nxn 12 r) 8 = x := ⟨_, rfl⟩
  rw [hx12] at l12 u12
  have f12 : fw .i64 (1 + x12) = 1 + x12 := fwI (by omega) (by omega)
  have z13 : (nxn 13 r).size ≤ 9223372036854775807 := nxn_le 13 hr
  have e13 : nx (nxn 13 r) = nxn 14 r := nx_nxn 13 r
  obtain ⟨l13, u13⟩ := vl_bound (nxn 13 r) (n := 8) (by decide)
  obtain ⟨x13, hx13⟩ : ∃ x, vl (nxn 13 r) 8 = x := ⟨_, rfl⟩
  rw [hx13] at l13 u13
  have f13 : fw .i64 (1 + x13) = 1 + x13 := fwI (by omega) (by omega)
  have hr0 : r = nxn 0 r := rfl
  rw [hx2] at hg
  have ge : ¬ 1 + x2 = 3 := by omega
  have gu : fw .u8 (1 + x2) = 1 + x2 := fwB (by omega) (by omega)
  have li1 : fw .i64 1 = 1 := by decide
  have lu1 : fw .u8 1 = 1 := by decide
  have li2 : fw .i64 2 = 2 := by decide
  have lu2 : fw .u8 2 = 2 := by decide
  have li3 : fw .i64 3 = 3 := by decide
  have lu3 : fw .u8 3 = 3 := by decide
  have fu0 : fw .u64 (1 + x11) = 1 + x11 := fwU (by omega) (by omega)
  have fa0 : fw .u64 (0 + (1 + x11)) = 0 + (1 + x11) := fwU (by omega) (by omega)
  have fu1 : fw .u64 (1 + x12) = 1 + x12 := fwU (by omega) (by omega)
  have fa1 : fw .u64 (0 + (1 + x11) + (1 + x12)) = 0 + (1 + x11) + (1 + x12) := fwU (by omega) (by omega)
  have fu2 : fw .u64 (1 + x13) = 1 + x13 := fwU (by omega) (by omega)
  have fa2 : fw .u64 (0 + (1 + x11) + (1 + x12) + (1 + x13)) = 0 + (1 + x11) + (1 + x12) + (1 + x13) := fwU (by omega) (by omega)
  have n0 : ¬ B = h.next := by omega
  have m0 : ¬ h.next = B := by omega
  have n1 : ¬ B = h.next + 1 := by omega
  have m1 : ¬ h.next + 1 = B := by omega
  have n2 : ¬ B = h.next + 2 := by omega
  have m2 : ¬ h.next + 2 = B := by omega
  have n3 : ¬ B = h.next + 3 := by omega
  have m3 : ¬ h.next + 3 = B := by omega
  have n4 : ¬ B = h.next + 4 := by omega
  have m4 : ¬ h.next + 4 = B := by omega
  have n5 : ¬ B = h.next + 5 := by omega
  have m5 : ¬ h.next + 5 = B := by omega
  have n6 : ¬ B = h.next + 6 := by omega
  have m6 : ¬ h.next + 6 = B := by omega
  have n7 : ¬ B = h.next + 7 := by omega
  have m7 : ¬ h.next + 7 = B := by omega
  have n8 : ¬ B = h.next + 8 := by omega
  have m8 : ¬ h.next + 8 = B := by omega
  have n9 : ¬ B = h.next + 9 := by omega
  have m9 : ¬ h.next + 9 = B := by omega
  have n10 : ¬ B = h.next + 10 := by omega
  have m10 : ¬ h.next + 10 = B := by omega
  rw [hr0] at hB
  simp only [go_sem, ↓reduceIte, ↓reduceDIte, zA, zM, zL, zE, zD, yA, yE, yL, yQ, yT, reduceCtorEq, c39, appA, appNew, hB, C40, takeK, hk, Option.isSome_some, hn, z0, e0, hx0, f0, z1, e1, hx1, f1, z2, e2, hx2, f2, z3, e3, hx3, f3, z4, e4, hx4, f4, z5, e5, hx5, f5, z6, e6, hx6, f6, z7, e7, hx7, f7, z8, e8, hx8, f8, z9, e9, z10, e10, z11, e11, hx11, f11, z12, e12, hx12, f12, z13, e13, hx13, f13, ge, gu, li1, lu1, li2, lu2, li3, lu3, fu0, fa0, fu1, fa1, fu2, fa2, n0, m0, n1, m1, n2, m2, n3, m3, n4, m4, n5, m5, n6, m6, n7, m7, n8, m8, n9, m9, n10, m10]
  refine unroll 4 ?_
  simp only [go_sem, ↓reduceIte, ↓reduceDIte, zA, zM, zL, zE, zD, yA, yE, yL, yQ, yT, reduceCtorEq, c39_l15, appA, appNew, hB, C40, takeK, hk, Option.isSome_some, hn, z0, e0, hx0, f0, z1, e1, hx1, f1, z2, e2, hx2, f2, z3, e3, hx3, f3, z4, e4, hx4, f4, z5, e5, hx5, f5, z6, e6, hx6, f6, z7, e7, hx7, f7, z8, e8, hx8, f8, z9, e9, z10, e10, z11, e11, hx11, f11, z12, e12, hx12, f12, z13, e13, hx13, f13, ge, gu, li1, lu1, li2, lu2, li3, lu3, fu0, fa0, fu1, fa1, fu2, fa2, n0, m0, n1, m1, n2, m2, n3, m3, n4, m4, n5, m5, n6, m6, n7, m7, n8, m8, n9, m9, n10, m10]
  refine unroll 4 ?_
  simp only [go_sem, ↓reduceIte, ↓reduceDIte, zA, zM, zL, zE, zD, yA, yE, yL, yQ, yT, reduceCtorEq, c39_l27, appA, appNew, hB, C40, takeK, hk, Option.isSome_some, hn, z0, e0, hx0, f0, z1, e1, hx1, f1, z2, e2, hx2, f2, z3, e3, hx3, f3, z4, e4, hx4, f4, z5, e5, hx5, f5, z6, e6, hx6, f6, z7, e7, hx7, f7, z8, e8, hx8, f8, z9, e9, z10, e10, z11, e11, hx11, f11, z12, e12, hx12, f12, z13, e13, hx13, f13, ge, gu, li1, lu1, li2, lu2, li3, lu3, fu0, fa0, fu1, fa1, fu2, fa2, n0, m0, n1, m1, n2, m2, n3, m3, n4, m4, n5, m5, n6, m6, n7, m7, n8, m8, n9, m9, n10, m10]
  have hc : cfgS r = (⟨1 + x0, 1 + x1, 1 + x2, 0, 3, 0, [0 + (1 + x11), 0 + (1 + x11) + (1 + x12), 0 + (1 + x11) + (1 + x12) + (1 + x13)], x6, x7, x8, 0, 0, 0, 1 + x3, 1 + x4, x5⟩, nxn 14 r) := by
    have hx0' : vl r 4 = x0 := hx0
    simp only [cfgS, hg, if_pos, if_true, if_false, ↓reduceIte, cfgS2, nxn_add, Nat.reduceAdd, hk, nx_nxn, Int.reduceAdd, Int.reduceEq, Int.reduceToNat, cutsS, hn, hx0', hx1, hx2, hx3, hx4, hx5, hx6, hx7, hx8, hx11, hx12, hx13]
  refine ⟨(.sl (h.next + 8) 0 3 1 none), by rw [hc]; rfl, ⟨Nat.le_add_right _ _, fun b hb hne => ?_, ?_⟩, ?_, ?_⟩
  · have o0 : ¬ b = h.next := by omega
    have o1 : ¬ b = h.next + 1 := by omega
    have o2 : ¬ b = h.next + 2 := by omega
    have o3 : ¬ b = h.next + 3 := by omega
    have o4 : ¬ b = h.next + 4 := by omega
    have o5 : ¬ b = h.next + 5 := by omega
    have o6 : ¬ b = h.next + 6 := by omega
    have o7 : ¬ b = h.next + 7 := by omega
    have o8 : ¬ b = h.next + 8 := by omega
    simp only [go_sem, ↓reduceIte, ↓reduceDIte, zA, zM, zL, zE, zD, yA, yE, yL, yQ, yT, reduceCtorEq, hne, o0, o1, o2, o3, o4, o5, o6, o7, o8]
  · rw [hc]
    simp only [go_sem, ↓reduceIte, ↓reduceDIte, zA, zM, zL, zE, zD, yA, yE, yL, yQ, yT, reduceCtorEq, n0, m0, n1, m1, n2, m2, n3, m3, n4, m4, n5, m5, n6, m6, n7, m7, n8, m8, n9, m9, n10, m10, rowL]
  · rw [hc]
    refine .sl _ _ _ _ (.inl rfl) (by decide) rfl (by show h.next + 8 < h.next + 9; omega) ?_
    simp only [go_sem, ↓reduceIte, ↓reduceDIte, zA, zM, zL, zE, zD, yA, yE, yL, yQ, yT, reduceCtorEq, n0, m0, n1, m1, n2, m2, n3, m3, n4, m4, n5, m5, n6, m6, n7, m7, n8, m8, n9, m9, n10, m10, rowL, List.map_cons, List.map_nil]
  · intro a ha; simp only [own, Option.some.injEq] at ha; omega
set_option maxRecDepth 10000 in
theorem w39_100 (P : Program) {call : CallE} (h40 : Has call 40 takeK) {h : H} {B t : Nat} {r : ByteArray} (hB : h.t.get B = some (rowL [.str r] t)) (hlt : B < h.next) (hr : r.size ≤ 9223372036854775807) (hg : vl (nxn 2 r) 3 = 2) (hk : vl (nxn 10 r) 3 = 0) :
    WF P call c39 [.fn (.func 40) [.ptr B 0] []] h (Post39 B t r h) := by
  have C40 : ∀ args h, (takeK args h).isSome = true → call 40 args h = takeK args h := fun _ _ hs => h40.eq hs
  have z0 : (nxn 0 r).size ≤ 9223372036854775807 := nxn_le 0 hr
  have e0 : nx (nxn 0 r) = nxn 1 r := nx_nxn 0 r
  obtain ⟨l0, u0⟩ := vl_bound (nxn 0 r) (n := 4) (by decide)
  obtain ⟨x0, hx0⟩ : ∃ x, vl (nxn 0 r) 4 = x := ⟨_, rfl⟩
  rw [hx0] at l0 u0
  have f0 : fw .i64 (1 + x0) = 1 + x0 := fwI (by omega) (by omega)
  have z1 : (nxn 1 r).size ≤ 9223372036854775807 := nxn_le 1 hr
  have e1 : nx (nxn 1 r) = nxn 2 r := nx_nxn 1 r
  obtain ⟨l1, u1⟩ := vl_bound (nxn 1 r) (n := 4) (by decide)
  obtain ⟨x1, hx1⟩ : ∃ x, vl (nxn 1 r) 4 = x := ⟨_, rfl⟩
  rw [hx1] at l1 u1
  have f1 : fw .i64 (1 + x1) = 1 + x1 := fwI (by omega) (by omega)
  have z2 : (nxn 2 r).size ≤ 9223372036854775807 := nxn_le 2 hr
  have e2 : nx (nxn 2 r) = nxn 3 r := nx_nxn 2 r
  obtain ⟨l2, u2⟩ := vl_bound (nxn 2 r) (n := 3) (by decide)
  have z3 : (nxn 3 r).size ≤ 9223372036854775807 := nxn_le 3 hr
  have e3 : nx (nxn 3 r) = nxn 4 r := nx_nxn 3 r
  obtain ⟨l3, u3⟩ := vl_bound (nxn 3 r) (n := 4) (by decide)
  obtain ⟨x3, hx3⟩ : ∃ x, vl (nxn 3 r) 4 = x := ⟨_, rfl⟩
  rw [hx3] at l3 u3
  have f3 : fw .i64 (1 + x3) = 1 + x3 := fwI (by omega) (by omega)
  have z4 : (nxn 4 r).size ≤ 9223372036854775807 := nxn_le 4 hr
  have e4 : nx (nxn 4 r) = nxn 5 r := nx_nxn 4 r
  obtain ⟨l4, u4⟩ := vl_bound (nxn 4 r) (n := 3) (by decide)
  obtain ⟨x4, hx4⟩ : ∃ x, vl (nxn 4 r) 3 = x := ⟨_, rfl⟩
  rw [hx4] at l4 u4
  have f4 : fw .i64 (1 + x4) = 1 + x4 := fwI (by omega) (by omega)
  have z5 : (nxn 5 r).size ≤ 9223372036854775807 := nxn_le 5 hr
  have e5 : nx (nxn 5 r) = nxn 6 r := nx_nxn 5 r
  obtain ⟨l5, u5⟩ := vl_bound (nxn 5 r) (n := 8) (by decide)
  obtain ⟨x5, hx5⟩ : ∃ x, vl (nxn 5 r) 8 = x := ⟨_, rfl⟩
  rw [hx5] at l5 u5
  have f5 : fw .i64 (1 + x5) = 1 + x5 := fwI (by omega) (by omega)
  have z6 : (nxn 6 r).size ≤ 9223372036854775807 := nxn_le 6 hr
  have e6 : nx (nxn 6 r) = nxn 7 r := nx_nxn 6 r
  obtain ⟨l6, u6⟩ := vl_bound (nxn 6 r) (n := 4) (by decide)
  obtain ⟨x6, hx6⟩ : ∃ x, vl (nxn 6 r) 4 = x := ⟨_, rfl⟩
  rw [hx6] at l6 u6
  have f6 : fw .i64 (1 + x6) = 1 + x6 := fwI (by omega) (by omega)
  have z7 : (nxn 7 r).size ≤ 9223372036854775807 := nxn_le 7 hr
  have e7 : nx (nxn 7 r) = nxn 8 r := nx_nxn 7 r
  obtain ⟨l7, u7⟩ := vl_bound (nxn 7 r) (n := 8) (by decide)
  obtain ⟨x7, hx7⟩ : ∃ x, vl (nxn 7 r) 8 = x := ⟨_, rfl⟩
  rw [hx7] at l7 u7
  have f7 : fw .i64 (1 + x7) = 1 + x7 := fwI (by omega) (by omega)
  have z8 : (nxn 8 r).size ≤ 9223372036854775807 := nxn_le 8 hr
  have e8 : nx (nxn 8 r) = nxn 9 r := nx_nxn 8 r
  obtain ⟨l8, u8⟩ := vl_bound (nxn 8 r) (n := 4) (by decide)
  obtain ⟨x8, hx8⟩ : ∃ x, vl (nxn 8 r) 4 = x := ⟨_, rfl⟩
  rw [hx8] at l8 u8
  have f8 : fw .i64 (1 + x8) = 1 + x8 := fwI (by omega) (by omega)
  have z9 : (nxn 9 r).size ≤ 9223372036854775807 := nxn_le 9 hr
  have e9 : nx (nxn 9 r) = nxn 10 r := nx_nxn 9 r
  obtain ⟨l9, u9⟩ := vl_bound (nxn 9 r) (n := 3) (by decide)
  obtain ⟨x9, hx9⟩ : ∃ x, vl (nxn 9 r) 3 = x := ⟨_, rfl⟩
  rw [hx9] at l9 u9
  have f9 : fw .i64 (1 + x9) = 1 + x9 := fwI (by omega) (by omega)
  have z10 : (nxn 10 r).size ≤ 9223372036854775807 := nxn_le 10 hr
  have e10 : nx (nxn 10 r) = nxn 11 r := nx_nxn 10 r
  obtain ⟨l10, u10⟩ := vl_bound (nxn 10 r) (n := 3) (by decide)
  have hr0 : r = nxn 0 r := rfl
  have li1 : fw .i64 1 = 1 := by decide
  have lu1 : fw .u8 1 = 1 := by decide
  have li2 : fw .i64 2 = 2 := by decide
  have lu2 : fw .u8 2 = 2 := by decide
  have li3 : fw .i64 3 = 3 := by decide
  have lu3 : fw .u8 3 = 3 := by decide
  have n0 : ¬ B = h.next := by omega
  have m0 : ¬ h.next = B := by omega
  have n1 : ¬ B = h.next + 1 := by omega
  have m1 : ¬ h.next + 1 = B := by omega
  have n2 : ¬ B = h.next + 2 := by omega
  have m2 : ¬ h.next + 2 = B := by omega
  have n3 : ¬ B = h.next + 3 := by omega
  have m3 : ¬ h.next + 3 = B := by omega
  have n4 : ¬ B = h.next + 4 := by omega
  have m4 : ¬ h.next + 4 = B := by omega
  rw [hr0] at hB
  simp only [go_sem, ↓reduceIte, ↓reduceDIte, zA, zM, zL, zE, zD, yA, yE, yL, yQ, yT, reduceCtorEq, c39, appA, appNew, hB, C40, takeK, hk, Option.isSome_some, hg, z0, e0, hx0, f0, z1, e1, hx1, f1, z2, e2, z3, e3, hx3, f3, z4, e4, hx4, f4, z5, e5, hx5, f5, z6, e6, hx6, f6, z7, e7, hx7, f7, z8, e8, hx8, f8, z9, e9, hx9, f9, z10, e10, li1, lu1, li2, lu2, li3, lu3, n0, m0, n1, m1, n2, m2, n3, m3, n4, m4]
  refine unroll 4 ?_
  simp only [go_sem, ↓reduceIte, ↓reduceDIte, zA, zM, zL, zE, zD, yA, yE, yL, yQ, yT, reduceCtorEq, c39_l15, appA, appNew, hB, C40, takeK, hk, Option.isSome_some, hg, z0, e0, hx0, f0, z1, e1, hx1, f1, z2, e2, z3, e3, hx3, f3, z4, e4, hx4, f4, z5, e5, hx5, f5, z6, e6, hx6, f6, z7, e7, hx7, f7, z8, e8, hx8, f8, z9, e9, hx9, f9, z10, e10, li1, lu1, li2, lu2, li3, lu3, n0, m0, n1, m1, n2, m2, n3, m3, n4, m4]
  have hc : cfgS r = (⟨1 + x0, 1 + x1, 3, 1 + x3, 1, 0, [], x7, x8, x9, 0, 0, 0, 1 + x4, 1 + x5, x6⟩, nxn 11 r) := by
    have hx0' : vl r 4 = x0 := hx0
    simp only [cfgS, hg, if_pos, if_true, if_false, ↓reduceIte, cfgS2, nxn_add, Nat.reduceAdd, hk, nx_nxn, Int.reduceAdd, Int.reduceEq, Int.reduceToNat, cutsS, hx0', hx1, hx3, hx4, hx5, hx6, hx7, hx8, hx9]
  refine ⟨.nils, by rw [hc]; rfl, ⟨Nat.le_add_right _ _, fun b hb hne => ?_, ?_⟩, ?_, ?_⟩
  · have o0 : ¬ b = h.next := by omega
    have o1 : ¬ b = h.next + 1 := by omega
    have o2 : ¬ b = h.next + 2 := by omega
    simp only [go_sem, ↓reduceIte, ↓reduceDIte, zA, zM, zL, zE, zD, yA, yE, yL, yQ, yT, reduceCtorEq, hne, o0, o1, o2]
  · rw [hc]
    simp only [go_sem, ↓reduceIte, ↓reduceDIte, zA, zM, zL, zE, zD, yA, yE, yL, yQ, yT, reduceCtorEq, n0, m0, n1, m1, n2, m2, n3, m3, n4, m4, rowL]
  · rw [hc]; exact .nil
  · intro a ha; simp [own] at ha
set_option maxRecDepth 10000 in
theorem w39_110 (P : Program) {call : CallE} (h40 : Has call 40 takeK) {h : H} {B t : Nat} {r : ByteArray} (hB : h.t.get B = some (rowL [.str r] t)) (hlt : B < h.next) (hr : r.size ≤ 9223372036854775807) (hg : vl (nxn 2 r) 3 = 2) (hk : vl (nxn 10 r) 3 = 1) :
    WF P call c39 [.fn (.func 40) [.ptr B 0] []] h (Post39 B t r h) := by
  have C40 : ∀ args h, (takeK args h).isSome = true → call 40 args h = takeK args h := fun _ _ hs => h40.eq hs
  have z0 : (nxn 0 r).size ≤ 9223372036854775807 := nxn_le 0 hr
  have e0 : nx (nxn 0 r) = nxn 1 r := nx_nxn 0 r
  obtain ⟨l0, u0⟩ := vl_bound (nxn 0 r) (n := 4) (by decide)
  obtain ⟨x0, hx0⟩ : ∃ x, vl (nxn 0 r) 4 = x := ⟨_, rfl⟩
  rw [hx0] at l0 u0
  have f0 : fw .i64 (1 + x0) = 1 + x0 := fwI (by omega) (by omega)
  have z1 : (nxn 1 r).size ≤ 9223372036854775807 := nxn_le 1 hr
  have e1 : nx (nxn 1 r) = nxn 2 r := nx_nxn 1 r
  obtain ⟨l1, u1⟩ := vl_bound (nxn 1 r) (n := 4) (by decide)
  obtain ⟨x1, hx1⟩ : ∃ x, vl (nxn 1 r) 4 = x := ⟨_, rfl⟩
  rw [hx1] at l1 u1
  have f1 : fw .i64 (1 + x1) = 1 + x1 := fwI (by omega) (by omega)
  have z2 : (nxn 2 r).size ≤ 9223372036854775807 := nxn_le 2 hr
  have e2 : nx (nxn 2 r) = nxn 3 r := nx_nxn 2 r
  obtain ⟨l2, u2⟩ := vl_bound (nxn 2 r) (n := 3) (by decide)
  have z3 : (nxn 3 r).size ≤ 9223372036854775807 := nxn_le 3 hr
  have e3 : nx (nxn 3 r) = nxn 4 r := nx_nxn 3 r
  obtain ⟨l3, u3⟩ := vl_bound (nxn 3 r) (n := 4) (by decide)
  obtain ⟨x3, hx3⟩ : ∃ x, vl (nxn 3 r) 4 = x := ⟨_, rfl⟩
  rw [hx3] at l3 u3
  have f3 : fw .i64 (1 + x3) = 1 + x3 := fwI (by omega) (by omega)
  have z4 : (nxn 4 r).size ≤ 9223372036854775807 := nxn_le 4 hr
  have e4 : nx (nxn 4 r) = nxn 5 r := nx_nxn 4 r
  obtain ⟨l4, u4⟩ := vl_bound (nxn 4 r) (n := 3) (by decide)
  obtain ⟨x4, hx4⟩ : ∃ x, vl (nxn 4 r) 3 = x := ⟨_, rfl⟩
  rw [hx4] at l4 u4
  have f4 : fw .i64 (1 + x4) = 1 + x4 := fwI (by omega) (by omega)
  have z5 : (nxn 5 r).size ≤ 9223372036854775807 := nxn_le 5 hr
  have e5 : nx (nxn 5 r) = nxn 6 r := nx_nxn 5 r
  obtain ⟨l5, u5⟩ := vl_bound (nxn 5 r) (n := 8) (by decide)
  obtain ⟨x5, hx5⟩ : ∃ x, vl (nxn 5 r) 8 = x := ⟨_, rfl⟩
  rw [hx5] at l5 u5
  have f5 : fw .i64 (1 + x5) = 1 + x5 := fwI (by omega) (by omega)
  have z6 : (nxn 6 r).size ≤ 9223372036854775807 := nxn_le 6 hr
  have e6 : nx (nxn 6 r) = nxn 7 r := nx_nxn 6 r
  obtain ⟨l6, u6⟩ := vl_bound (nxn 6 r) (n := 4) (by decide)
  obtain ⟨x6, hx6⟩ : ∃ x, vl (nxn 6 r) 4 = x := ⟨_, rfl⟩
  rw [hx6] at l6 u6
  have f6 : fw .i64 (1 + x6) = 1 + x6 := fwI (by omega) (by omega)
  have z7 : (nxn 7 r).size ≤ 9223372036854775807 := nxn_le 7 hr
  have e7 : nx (nxn 7 r) = nxn 8 r := nx_nxn 7 r
  obtain ⟨l7, u7⟩ := vl_bound (nxn 7 r) (n := 8) (by decide)
  obtain ⟨x7, hx7⟩ : ∃ x, vl (nxn 7 r) 8 = x := ⟨_, rfl⟩
  rw [hx7] at l7 u7
  have f7 : fw .i64 (1 + x7) = 1 + x7 := fwI (by omega) (by omega)
  have z8 : (nxn 8 r).size ≤ 9223372036854775807 := nxn_le 8 hr
  have e8 : nx (nxn 8 r) = nxn 9 r := nx_nxn 8 r
  obtain ⟨l8, u8⟩ := vl_bound (nxn 8 r) (n := 4) (by decide)
  obtain ⟨x8, hx8⟩ : ∃ x, vl (nxn 8 r) 4 = x := ⟨_, rfl⟩
  rw [hx8] at l8 u8
  have f8 : fw .i64 (1 + x8) = 1 + x8 := fwI (by omega) (by omega)
  have z9 : (nxn 9 r).size ≤ 9223372036854775807 := nxn_le 9 hr
  have e9 : nx (nxn 9 r) = nxn 10 r := nx_nxn 9 r
  obtain ⟨l9, u9⟩ := vl_bound (nxn 9 r) (n := 3) (by decide)
  obtain ⟨x9, hx9⟩ : ∃ x, vl (nxn 9 r) 3 = x := ⟨_, rfl⟩
  rw [hx9] at l9 u9
  have f9 : fw .i64 (1 + x9) = 1 + x9 := fwI (by omega) (by omega)
  have z10 : (nxn 10 r).size ≤ 9223372036854775807 := nxn_le 10 hr
  have e10 : nx (nxn 10 r) = nxn 11 r := nx_nxn 10 r
  obtain ⟨l10, u10⟩ := vl_bound (nxn 10 r) (n := 3) (by decide)
  have z11 : (nxn 11 r).size ≤ 9223372036854775807 := nxn_le 11 hr
  have e11 : nx (nxn 11 r) = nxn 12 r := nx_nxn 11 r
  obtain ⟨l11, u11⟩ := vl_bound (nxn 11 r) (n := 5) (by decide)
  obtain ⟨x11, hx11⟩ : ∃ x, vl (nxn 11 r) 5 = x := ⟨_, rfl⟩
  rw [hx11] at l11 u11
  have f11 : fw .i64 (1 + x11) = 1 + x11 := fwI (by omega) (by omega)
  have hr0 : r = nxn 0 r := rfl
  have li1 : fw .i64 1 = 1 := by decide
  have lu1 : fw .u8 1 = 1 := by decide
  have li2 : fw .i64 2 = 2 := by decide
  have lu2 : fw .u8 2 = 2 := by decide
  have li3 : fw .i64 3 = 3 := by decide
  have lu3 : fw .u8 3 = 3 := by decide
  have n0 : ¬ B = h.next := by omega
  have m0 : ¬ h.next = B := by omega
  have n1 : ¬ B = h.next + 1 := by omega
  have m1 : ¬ h.next + 1 = B := by omega
  have n2 : ¬ B = h.next + 2 := by omega
  have m2 : ¬ h.next + 2 = B := by omega
  have n3 : ¬ B = h.next + 3 := by omega
  have m3 : ¬ h.next + 3 = B := by omega
  have n4 : ¬ B = h.next + 4 := by omega
  have m4 : ¬ h.next + 4 = B := by omega
  rw [hr0] at hB
  simp only [go_sem, ↓reduceIte, ↓reduceDIte, zA, zM, zL, zE, zD, yA, yE, yL, yQ, yT, reduceCtorEq, c39, appA, appNew, hB, C40, takeK, hk, Option.isSome_some, hg, z0, e0, hx0, f0, z1, e1, hx1, f1, z2, e2, z3, e3, hx3, f3, z4, e4, hx4, f4, z5, e5, hx5, f5, z6, e6, hx6, f6, z7, e7, hx7, f7, z8, e8, hx8, f8, z9, e9, hx9, f9, z10, e10, z11, e11, hx11, f11, li1, lu1, li2, lu2, li3, lu3, n0, m0, n1, m1, n2, m2, n3, m3, n4, m4]
  refine unroll 4 ?_
  simp only [go_sem, ↓reduceIte, ↓reduceDIte, zA, zM, zL, zE, zD, yA, yE, yL, yQ, yT, reduceCtorEq, c39_l15, appA, appNew, hB, C40, takeK, hk, Option.isSome_some, hg, z0, e0, hx0, f0, z1, e1, hx1, f1, z2, e2, z3, e3, hx3, f3, z4, e4, hx4, f4, z5, e5, hx5, f5, z6, e6, hx6, f6, z7, e7, hx7, f7, z8, e8, hx8, f8, z9, e9, hx9, f9, z10, e10, z11, e11, hx11, f11, li1, lu1, li2, lu2, li3, lu3, n0, m0, n1, m1, n2, m2, n3, m3, n4, m4]
  have hc : cfgS r = (⟨1 + x0, 1 + x1, 3, 1 + x3, 2, 1 + x11, [], x7, x8, x9, 0, 0, 0, 1 + x4, 1 + x5, x6⟩, nxn 12 r) := by
    have hx0' : vl r 4 = x0 := hx0
    simp only [cfgS, hg, if_pos, if_true, if_false, ↓reduceIte, cfgS2, nxn_add, Nat.reduceAdd, hk, nx_nxn, Int.reduceAdd, Int.reduceEq, Int.reduceToNat, cutsS, hx0', hx1, hx3, hx4, hx5, hx6, hx7, hx8, hx9, hx11]
  refine ⟨.nils, by rw [hc]; rfl, ⟨Nat.le_add_right _ _, fun b hb hne => ?_, ?_⟩, ?_, ?_⟩
  · have o0 : ¬ b = h.next := by omega
    have o1 : ¬ b = h.next + 1 := by omega
    have o2 : ¬ b = h.next + 2 := by omega
    simp only [go_sem, ↓reduceIte, ↓reduceDIte, zA, zM, zL, zE, zD, yA, yE, yL, yQ, yT, reduceCtorEq, hne, o0, o1, o2]
  · rw [hc]
    simp only [go_sem, ↓reduceIte, ↓reduceDIte, zA, zM, zL, zE, zD, yA, yE, yL, yQ, yT, reduceCtorEq, n0, m0, n1, m1, n2, m2, n3, m3, n4, m4, rowL]
  · rw [hc]; exact .nil
  · intro a ha; simp [own] at ha
set_option maxRecDepth 10000 in
theorem w39_120 (P : Program) {call : CallE} (h40 : Has call 40 takeK) {h : H} {B t : Nat} {r : ByteArray} (hB : h.t.get B = some (rowL [.str r] t)) (hlt : B < h.next) (hr : r.size ≤ 9223372036854775807) (hg : vl (nxn 2 r) 3 = 2) (hk : vl (nxn 10 r) 3 = 2) (hn : vl (nxn 11 r) 3 = 0) :
    WF P call c39 [.fn (.func 40) [.ptr B 0] []] h (Post39 B t r h) := by
  have C40 : ∀ args h, (takeK args h).isSome = true → call 40 args h = takeK args h := fun _ _ hs => h40.eq hs
  have z0 : (nxn 0 r).size ≤ 9223372036854775807 := nxn_le 0 hr
  have e0 : nx (nxn 0 r) = nxn 1 r := nx_nxn 0 r
  obtain ⟨l0, u0⟩ := vl_bound (nxn 0 r) (n := 4) (by decide)
  obtain ⟨x0, hx0⟩ : ∃ x, vl (nxn 0 r) 4 = x := ⟨_, rfl⟩
  rw [hx0] at l0 u0
  have f0 : fw .i64 (1 + x0) = 1 + x0 := fwI (by omega) (by omega)
  have z1 : (nxn 1 r).size ≤ 9223372036854775807 := nxn_le 1 hr
  have e1 : nx (nxn 1 r) = nxn 2 r := nx_nxn 1 r
  obtain ⟨l1, u1⟩ := vl_bound (nxn 1 r) (n := 4) (by decide)
  obtain ⟨x1, hx1⟩ : ∃ x, vl (nxn 1 r) 4 = x := ⟨_, rfl⟩
  rw [hx1] at l1 u1
  have f1 : fw .i64 (1 + x1) = 1 + x1 := fwI (by omega) (by omega)
  have z2 : (nxn 2 r).size ≤ 9223372036854775807 := nxn_le 2 hr
  have e2 : nx (nxn 2 r) = nxn 3 r := nx_nxn 2 r
  obtain ⟨l2, u2⟩ := vl_bound (nxn 2 r) (n := 3) (by decide)
  have z3 : (nxn 3 r).size ≤ 9223372036854775807 := nxn_le 3 hr
  have e3 : nx (nxn 3 r) = nxn 4 r := nx_nxn 3 r
  obtain ⟨l3, u3⟩ := vl_bound (nxn 3 r) (n := 4) (by decide)
  obtain ⟨x3, hx3⟩ : ∃ x, vl (nxn 3 r) 4 = x := ⟨_, rfl⟩
  rw [hx3] at l3 u3
  have f3 : fw .i64 (1 + x3) = 1 + x3 := fwI (by omega) (by omega)
  have z4 : (nxn 4 r).size ≤ 9223372036854775807 := nxn_le 4 hr
  have e4 : nx (nxn 4 r) = nxn 5 r := nx_nxn 4 r
  obtain ⟨l4, u4⟩ := vl_bound (nxn 4 r) (n := 3) (by decide)
  obtain ⟨x4, hx4⟩ : ∃ x, vl (nxn 4 r) 3 = x := ⟨_, rfl⟩
  rw [hx4] at l4 u4
  have f4 : fw .i64 (1 + x4) = 1 + x4 := fwI (by omega) (by omega)
  have z5 : (nxn 5 r).size ≤ 9223372036854775807 := nxn_le 5 hr
  have e5 : nx (nxn 5 r) = nxn 6 r := nx_nxn 5 r
  obtain ⟨l5, u5⟩ := vl_bound (nxn 5 r) (n := 8) (by decide)
  obtain ⟨x5, hx5⟩ : ∃ x, vl (nxn 5 r) 8 = x := ⟨_, rfl⟩
  rw [hx5] at l5 u5
  have f5 : fw .i64 (1 + x5) = 1 + x5 := fwI (by omega) (by omega)
  have z6 : (nxn 6 r).size ≤ 9223372036854775807 := nxn_le 6 hr
  have e6 : nx (nxn 6 r) = nxn 7 r := nx_nxn 6 r
  obtain ⟨l6, u6⟩ := vl_bound (nxn 6 r) (n := 4) (by decide)
  obtain ⟨x6, hx6⟩ : ∃ x, vl (nxn 6 r) 4 = x := ⟨_, rfl⟩
  rw [hx6] at l6 u6
  have f6 : fw .i64 (1 + x6) = 1 + x6 := fwI (by omega) (by omega)
  have z7 : (nxn 7 r).size ≤ 9223372036854775807 := nxn_le 7 hr
  have e7 : nx (nxn 7 r) = nxn 8 r := nx_nxn 7 r
  obtain ⟨l7, u7⟩ := vl_bound (nxn 7 r) (n := 8) (by decide)
  obtain ⟨x7, hx7⟩ : ∃ x, vl (nxn 7 r) 8 = x := ⟨_, rfl⟩
  rw [hx7] at l7 u7
  have f7 : fw .i64 (1 + x7) = 1 + x7 := fwI (by omega) (by omega)
  have z8 : (nxn 8 r).size ≤ 9223372036854775807 := nxn_le 8 hr
  have e8 : nx (nxn 8 r) = nxn 9 r := nx_nxn 8 r
  obtain ⟨l8, u8⟩ := vl_bound (nxn 8 r) (n := 4) (by decide)
  obtain ⟨x8, hx8⟩ : ∃ x, vl (nxn 8 r) 4 = x := ⟨_, rfl⟩
  rw [hx8] at l8 u8
  have f8 : fw .i64 (1 + x8) = 1 + x8 := fwI (by omega) (by omega)
  have z9 : (nxn 9 r).size ≤ 9223372036854775807 := nxn_le 9 hr
  have e9 : nx (nxn 9 r) = nxn 10 r := nx_nxn 9 r
  obtain ⟨l9, u9⟩ := vl_bound (nxn 9 r) (n := 3) (by decide)
  obtain ⟨x9, hx9⟩ : ∃ x, vl (nxn 9 r) 3 = x := ⟨_, rfl⟩
  rw [hx9] at l9 u9
  have f9 : fw .i64 (1 + x9) = 1 + x9 := fwI (by omega) (by omega)
  have z10 : (nxn 10 r).size ≤ 9223372036854775807 := nxn_le 10 hr
  have e10 : nx (nxn 10 r) = nxn 11 r := nx_nxn 10 r
  obtain ⟨l10, u10⟩ := vl_bound (nxn 10 r) (n := 3) (by decide)
  have z11 : (nxn 11 r).size ≤ 9223372036854775807 := nxn_le 11 hr
  have e11 : nx (nxn 11 r) = nxn 12 r := nx_nxn 11 r
  obtain ⟨l11, u11⟩ := vl_bound (nxn 11 r) (n := 3) (by decide)
  have z12 : (nxn 12 r).size ≤ 9223372036854775807 := nxn_le 12 hr
  have e12 : nx (nxn 12 r) = nxn 13 r := nx_nxn 12 r
  obtain ⟨l12, u12⟩ := vl_bound (nxn 12 r) (n := 8) (by decide)
  obtain ⟨x12, hx12⟩ : ∃ x, vl (nxn 12 r) 8 = x := ⟨_, rfl⟩
  rw [hx12] at l12 u12
  have f12 : fw .i64 (1 + x12) = 1 + x12 := fwI (by omega) (by omega)
  have hr0 : r = nxn 0 r := rfl
  have li1 : fw .i64 1 = 1 := by decide
  have lu1 : fw .u8 1 = 1 := by decide
  have li2 : fw .i64 2 = 2 := by decide
  have lu2 : fw .u8 2 = 2 := by decide
  have li3 : fw .i64 3 = 3 := by decide
  have lu3 : fw .u8 3 = 3 := by decide
  have fu0 : fw .u64 (1 + x12) = 1 + x12 := fwU (by omega) (by omega)
  have fa0 : fw .u64 (0 + (1 + x12)) = 0 + (1 + x12) := fwU (by omega) (by omega)
  have n0 : ¬ B = h.next := by omega
  have m0 : ¬ h.next = B := by omega
  have n1 : ¬ B = h.next + 1 := by omega
  have m1 : ¬ h.next + 1 = B := by omega
  have n2 : ¬ B = h.next + 2 := by omega
  have m2 : ¬ h.next + 2 = B := by omega
  have n3 : ¬ B = h.next + 3 := by omega
  have m3 : ¬ h.next + 3 = B := by omega
  have n4 : ¬ B = h.next + 4 := by omega
  have m4 : ¬ h.next + 4 = B := by omega
  have n5 : ¬ B = h.next + 5 := by omega
  have m5 : ¬ h.next + 5 = B := by omega
  have n6 : ¬ B = h.next + 6 := by omega
  have m6 : ¬ h.next + 6 = B := by omega
  rw [hr0] at hB
  simp only [go_sem, ↓reduceIte, ↓reduceDIte, zA, zM, zL, zE, zD, yA, yE, yL, yQ, yT, reduceCtorEq, c39, appA, appNew, hB, C40, takeK, hk, Option.isSome_some, hg, hn, z0, e0, hx0, f0, z1, e1, hx1, f1, z2, e2, z3, e3, hx3, f3, z4, e4, hx4, f4, z5, e5, hx5, f5, z6, e6, hx6, f6, z7, e7, hx7, f7, z8, e8, hx8, f8, z9, e9, hx9, f9, z10, e10, z11, e11, z12, e12, hx12, f12, li1, lu1, li2, lu2, li3, lu3, fu0, fa0, n0, m0, n1, m1, n2, m2, n3, m3, n4, m4, n5, m5, n6, m6]
  refine unroll 4 ?_
  simp only [go_sem, ↓reduceIte, ↓reduceDIte, zA, zM, zL, zE, zD, yA, yE, yL, yQ, yT, reduceCtorEq, c39_l15, appA, appNew, hB, C40, takeK, hk, Option.isSome_some, hg, hn, z0, e0, hx0, f0, z1, e1, hx1, f1, z2, e2, z3, e3, hx3, f3, z4, e4, hx4, f4, z5, e5, hx5, f5, z6, e6, hx6, f6, z7, e7, hx7, f7, z8, e8, hx8, f8, z9, e9, hx9, f9, z10, e10, z11, e11, z12, e12, hx12, f12, li1, lu1, li2, lu2, li3, lu3, fu0, fa0, n0, m0, n1, m1, n2, m2, n3, m3, n4, m4, n5, m5, n6, m6]
  refine unroll 2 ?_
  simp only [go_sem, ↓reduceIte, ↓reduceDIte, zA, zM, zL, zE, zD, yA, yE, yL, yQ, yT, reduceCtorEq, c39_l27, appA, appNew, hB, C40, takeK, hk, Option.isSome_some, hg, hn, z0, e0, hx0, f0, z1, e1, hx1, f1, z2, e2, z3, e3, hx3, f3, z4, e4, hx4, f4, z5, e5, hx5, f5, z6, e6, hx6, f6, z7, e7, hx7, f7, z8, e8, hx8, f8, z9, e9, hx9, f9, z10, e10, z11, e11, z12, e12, hx12, f12, li1, lu1, li2, lu2, li3, lu3, fu0, fa0, n0, m0, n1, m1, n2, m2, n3, m3, n4, m4, n5, m5, n6, m6]
  have hc : cfgS r = (⟨1 + x0, 1 + x1, 3, 1 + x3, 3, 0, [0 + (1 + x12)], x7, x8, x9, 0, 0, 0, 1 + x4, 1 + x5, x6⟩, nxn 13 r) := by
    have hx0' : vl r 4 = x0 := hx0
    simp only [cfgS, hg, if_pos, if_true, if_false, ↓reduceIte, cfgS2, nxn_add, Nat.reduceAdd, hk, nx_nxn, Int.reduceAdd, Int.reduceEq, Int.reduceToNat, cutsS, hn, hx0', hx1, hx3, hx4, hx5, hx6, hx7, hx8, hx9, hx12]
  refine ⟨(.sl (h.next + 4) 0 1 1 none), by rw [hc]; rfl, ⟨Nat.le_add_right _ _, fun b hb hne => ?_, ?_⟩, ?_, ?_⟩
  · have o0 : ¬ b = h.next := by omega
    have o1 : ¬ b = h.next + 1 := by omega
    have o2 : ¬ b = h.next + 2 := by omega
    have o3 : ¬ b = h.next + 3 := by omega
    have o4 : ¬ b = h.next + 4 := by omega
    simp only [go_sem, ↓reduceIte, ↓reduceDIte, zA, zM, zL, zE, zD, yA, yE, yL, yQ, yT, reduceCtorEq, hne, o0, o1, o2, o3, o4]
  · rw [hc]
    simp only [go_sem, ↓reduceIte, ↓reduceDIte, zA, zM, zL, zE, zD, yA, yE, yL, yQ, yT, reduceCtorEq, n0, m0, n1, m1, n2, m2, n3, m3, n4, m4, n5, m5, n6, m6, rowL]
  · rw [hc]
    refine .sl _ _ _ _ (.inl rfl) (by decide) rfl (by show h.next + 4 < h.next + 5; omega) ?_
    simp only [go_sem, ↓reduceIte, ↓reduceDIte, zA, zM, zL, zE, zD, yA, yE, yL, yQ, yT, reduceCtorEq, n0, m0, n1, m1, n2, m2, n3, m3, n4, m4, n5, m5, n6, m6, rowL, List.map_cons, List.map_nil]
  · intro a ha; simp only [own, Option.some.injEq] at ha; omega
set_option maxRecDepth 10000 in
theorem w39_121 (P : Program) {call : CallE} (h40 : Has call 40 takeK) {h : H} {B t : Nat} {r : ByteArray} (hB : h.t.get B = some (rowL [.str r] t)) (hlt : B < h.next) (hr : r.size ≤ 9223372036854775807) (hg : vl (nxn 2 r) 3 = 2) (hk : vl (nxn 10 r) 3 = 2) (hn : vl (nxn 11 r) 3 = 1) :
    WF P call c39 [.fn (.func 40) [.ptr B 0] []] h (Post39 B t r h) := by
  have C40 : ∀ args h, (takeK args h).isSome = true → call 40 args h = takeK args h := fun _ _ hs => h40.eq hs
  have z0 : (nxn 0 r).size ≤ 9223372036854775807 := nxn_le 0 hr
  have e0 : nx (nxn 0 r) = nxn 1 r := nx_nxn 0 r
  obtain ⟨l0, u0⟩ := vl_bound (nxn 0 r) (n := 4) (by decide)
  obtain ⟨x0, hx0⟩ : ∃ x, vl (nxn 0 r) 4 = x := ⟨_, rfl⟩
  rw [hx0] at l0 u0
  have f0 : fw .i64 (1 + x0) = 1 + x0 := fwI (by omega) (by omega)
  have z1 : (nxn 1 r).size ≤ 9223372036854775807 := nxn_le 1 hr
  have e1 : nx (nxn 1 r) = nxn 2 r := nx_nxn 1 r
  obtain ⟨l1, u1⟩ := vl_bound (nxn 1 r) (n := 4) (by decide)
  obtain ⟨x1, hx1⟩ : ∃ x, vl (nxn 1 r) 4 = x := ⟨_, rfl⟩
  rw [hx1] at l1 u1
  have f1 : fw .i64 (1 + x1) = 1 + x1 := fwI (by omega) (by omega)
  have z2 : (nxn 2 r).size ≤ 9223372036854775807 := nxn_le 2 hr
  have e2 : nx (nxn 2 r) = nxn 3 r := nx_nxn 2 r
  obtain ⟨l2, u2⟩ := vl_bound (nxn 2 r) (n := 3) (by decide)
  have z3 : (nxn 3 r).size ≤ 9223372036854775807 := nxn_le 3 hr
  have e3 : nx (nxn 3 r) = nxn 4 r := nx_nxn 3 r
  obtain ⟨l3, u3⟩ := vl_bound (nxn 3 r) (n := 4) (by decide)
  obtain ⟨x3, hx3⟩ : ∃ x, vl (nxn 3 r) 4 = x := ⟨_, rfl⟩
  rw [hx3] at l3 u3
  have f3 : fw .i64 (1 + x3) = 1 + x3 := fwI (by omega) (by omega)
  have z4 : (nxn 4 r).size ≤ 9223372036854775807 := nxn_le 4 hr
  have e4 : nx (nxn 4 r) = nxn 5 r := nx_nxn 4 r
  obtain ⟨l4, u4⟩ := vl_bound (nxn 4 r) (n := 3) (by decide)
  obtain ⟨x4, hx4⟩ : ∃ x, vl (nxn 4 r) 3 = x := ⟨_, rfl⟩
  rw [hx4] at l4 u4
  have f4 : fw .i64 (1 + x4) = 1 + x4 := fwI (by omega) (by omega)
  have z5 : (nxn 5 r).size ≤ 9223372036854775807 := nxn_le 5 hr
  have e5 : nx (nxn 5 r) = nxn 6 r := nx_nxn 5 r
  obtain ⟨l5, u5⟩ := vl_bound (nxn 5 r) (n := 8) (by decide)
  obtain ⟨x5, hx5⟩ : ∃ x, vl (nxn 5 r) 8 = x := ⟨_, rfl⟩
  rw [hx5] at l5 u5
  have f5 : fw .i64 (1 + x5) = 1 + x5 := fwI (by omega) (by omega)
  have z6 : (nxn 6 r).size ≤ 9223372036854775807 := nxn_le 6 hr
  have e6 : nx (nxn 6 r) = nxn 7 r := nx_nxn 6 r
  obtain ⟨l6, u6⟩ := vl_bound (nxn 6 r) (n := 4) (by decide)
  obtain ⟨x6, hx6⟩ : ∃ x, vl (nxn 6 r) 4 = x := ⟨_, rfl⟩
  rw [hx6] at l6 u6
  have f6 : fw .i64 (1 + x6) = 1 + x6 := fwI (by omega) (by omega)
  have z7 : (nxn 7 r).size ≤ 9223372036854775807 := nxn_le 7 hr
  have e7 : nx (nxn 7 r) = nxn 8 r := nx_nxn 7 r
  obtain ⟨l7, u7⟩ := vl_bound (nxn 7 r) (n := 8) (by decide)
  obtain ⟨x7, hx7⟩ : ∃ x, vl (nxn 7 r) 8 = x := ⟨_, rfl⟩
  rw [hx7] at l7 u7
  have f7 : fw .i64 (1 + x7) = 1 + x7 := fwI (by omega) (by omega)
  have z8 : (nxn 8 r).size ≤ 9223372036854775807 := nxn_le 8 hr
  have e8 : nx (nxn 8 r) = nxn 9 r := nx_nxn 8 r
  obtain ⟨l8, u8⟩ := vl_bound (nxn 8 r) (n := 4) (by decide)
  obtain ⟨x8, hx8⟩ : ∃ x, vl (nxn 8 r) 4 = x := ⟨_, rfl⟩
  rw [hx8] at l8 u8
  have f8 : fw .i64 (1 + x8) = 1 + x8 := fwI (by omega) (by omega)
  have z9 : (nxn 9 r).size ≤ 9223372036854775807 := nxn_le 9 hr
  have e9 : nx (nxn 9 r) = nxn 10 r := nx_nxn 9 r
  obtain ⟨l9, u9⟩ := vl_bound (nxn 9 r) (n := 3) (by decide)
  obtain ⟨x9, hx9⟩ : ∃ x, vl (nxn 9 r) 3 = x := ⟨_, rfl⟩
  rw [hx9] at l9 u9
  have f9 : fw .i64 (1 + x9) = 1 + x9 := fwI (by omega) (by omega)
  have z10 : (nxn 10 r).size ≤ 9223372036854775807 := nxn_le 10 hr
  have e10 : nx (nxn 10 r) = nxn 11 r := nx_nxn 10 r
  obtain ⟨l10, u10⟩ := vl_bound (nxn 10 r) (n := 3) (by decide)
  have z11 : (nxn 11 r).size ≤ 9223372036854775807 := nxn_le 11 hr
  have e11 : nx (nxn 11 r) = nxn 12 r := nx_nxn 11 r
  obtain ⟨l11, u11⟩ := vl_bound (nxn 11 r) (n := 3) (by decide)
  have z12 : (nxn 12 r).size ≤ 9223372036854775807 := nxn_le 12 hr
  have e12 : nx (nxn 12 r) = nxn 13 r := nx_nxn 12 r
  obtain ⟨l12, u12⟩ := vl_bound (nxn 12 r) (n := 8) (by decide)
  obtain ⟨x12, hx12⟩ : ∃ x, vl (nxn 12 r) 8 = x := ⟨_, rfl⟩
  rw [hx12] at l12 u12
  have f12 : fw .i64 (1 + x12) = 1 + x12 := fwI (by omega) (by omega)
  have z13 : (nxn 13 r).size ≤ 9223372036854775807 := nxn_le 13 hr
  have e13 : nx (nxn 13 r) = nxn 14 r := nx_nxn 13 r
  obtain ⟨l13, u13⟩ := vl_bound (nxn 13 r) (n := 8) (by decide)
  obtain ⟨x13, hx13⟩ : ∃ x, vl (nxn 13 r) 8 = x := ⟨_, rfl⟩
  rw [hx13] at l13 u13
  have f13 : fw .i64 (1 + x13) = 1 + x13 := fwI (by omega) (by omega)
  have hr0 : r = nxn 0 r := rfl
  have li1 : fw .i64 1 = 1 := by decide
  have lu1 : fw .u8 1 = 1 := by decide
  have li2 : fw .i64 2 = 2 := by decide
  have lu2 : fw .u8 2 = 2 := by decide
  have li3 : fw .i64 3 = 3 := by decide
  have lu3 : fw .u8 3 = 3 := by decide
  have fu0 : fw .u64 (1 + x12) = 1 + x12 := fwU (by omega) (by omega)
  have fa0 : fw .u64 (0 + (1 + x12)) = 0 + (1 + x12) := fwU (by omega) (by omega)
  have fu1 : fw .u64 (1 + x13) = 1 + x13 := fwU (by omega) (by omega)
  have fa1 : fw .u64 (0 + (1 + x12) + (1 + x13)) = 0 + (1 + x12) + (1 + x13) := fwU (by omega) (by omega)
  have n0 : ¬ B = h.next := by omega
  have m0 : ¬ h.next = B := by omega
  have n1 : ¬ B = h.next + 1 := by omega
  have m1 : ¬ h.next + 1 = B := by omega
  have n2 : ¬ B = h.next + 2 := by omega
  have m2 : ¬ h.next + 2 = B := by omega
  have n3 : ¬ B = h.next + 3 := by omega
  have m3 : ¬ h.next + 3 = B := by omega
  have n4 : ¬ B = h.next + 4 := by omega
  have m4 : ¬ h.next + 4 = B := by omega
  have n5 : ¬ B = h.next + 5 := by omega
  have m5 : ¬ h.next + 5 = B := by omega
  have n6 : ¬ B = h.next + 6 := by omega
  have m6 : ¬ h.next + 6 = B := by omega
  have n7 : ¬ B = h.next + 7 := by omega
  have m7 : ¬ h.next + 7 = B := by omega
  have n8 : ¬ B = h.next + 8 := by omega
  have m8 : ¬ h.next + 8 = B := by omega
  rw [hr0] at hB
  simp only [go_sem, ↓reduceIte, ↓reduceDIte, zA, zM, zL, zE, zD, yA, yE, yL, yQ, yT, reduceCtorEq, c39, appA, appNew, hB, C40, takeK, hk, Option.isSome_some, hg, hn, z0, e0, hx0, f0, z1, e1, hx1, f1, z2, e2, z3, e3, hx3, f3, z4, e4, hx4, f4, z5, e5, hx5, f5, z6, e6, hx6, f6, z7, e7, hx7, f7, z8, e8, hx8, f8, z9, e9, hx9, f9, z10, e10, z11, e11, z12, e12, hx12, f12, z13, e13, hx13, f13, li1, lu1, li2, lu2, li3, lu3, fu0, fa0, fu1, fa1, n0, m0, n1, m1, n2, m2, n3, m3, n4, m4, n5, m5, n6, m6, n7, m7, n8, m8]
  refine unroll 4 ?_
  simp only [go_sem, ↓reduceIte, ↓reduceDIte, zA, zM, zL, zE, zD, yA, yE, yL, yQ, yT, reduceCtorEq, c39_l15, appA, appNew, hB, C40, takeK, hk, Option.isSome_some, hg, hn, z0, e0, hx0, f0, z1, e1, hx1, f1, z2, e2, z3, e3, hx3, f3, z4, e4, hx4, f4, z5, e5, hx5, f5, z6, e6, hx6, f6, z7, e7, hx7, f7, z8, e8, hx8, f8, z9, e9, hx9, f9, z10, e10, z11, e11, z12, e12, hx12, f12, z13, e13, hx13, f13, li1, lu1, li2, lu2, li3, lu3, fu0, fa0, fu1, fa1, n0, m0, n1, m1, n2, m2, n3, m3, n4, m4, n5, m5, n6, m6, n7, m7, n8, m8]
  refine unroll 3 ?_
  simp only [go_sem, ↓reduceIte, ↓reduceDIte, zA, zM, zL, zE, zD, yA, yE, yL, yQ, yT, reduceCtorEq, c39_l27, appA, appNew, hB, C40, takeK, hk, Option.isSome_some, hg, hn, z0, e0, hx0, f0, z1, e1, hx1, f1, z2, e2, z3, e3, hx3, f3, z4, e4, hx4, f4, z5, e5, hx5, f5, z6, e6, hx6, f6, z7, e7, hx7, f7, z8, e8, hx8, f8, z9, e9, hx9, f9, z10, e10, z11, e11, z12, e12, hx12, f12, z13, e13, hx13, f13, li1, lu1, li2, lu2, li3, lu3, fu0, fa0, fu1, fa1, n0, m0, n1, m1, n2, m2, n3, m3, n4, m4, n5, m5, n6, m6, n7, m7, n8, m8]
  have hc : cfgS r = (⟨1 + x0, 1 + x1, 3, 1 + x3, 3, 0, [0 + (1 + x12), 0 + (1 + x12) + (1 + x13)], x7, x8, x9, 0, 0, 0, 1 + x4, 1 + x5, x6⟩, nxn 14 r) := by
    have hx0' : vl r 4 = x0 := hx0
    simp only [cfgS, hg, if_pos, if_true, if_false, ↓reduceIte, cfgS2, nxn_add, Nat.reduceAdd, hk, nx_nxn, Int.reduceAdd, Int.reduceEq, Int.reduceToNat, cutsS, hn, hx0', hx1, hx3, hx4, hx5, hx6, hx7, hx8, hx9, hx12, hx13]
  refine ⟨(.sl (h.next + 6) 0 2 1 none), by rw [hc]; rfl, ⟨Nat.le_add_right _ _, fun b hb hne => ?_, ?_⟩, ?_, ?_⟩
  · have o0 : ¬ b = h.next := by omega
    have o1 : ¬ b = h.next + 1 := by omega
    have o2 : ¬ b = h.next + 2 := by omega
    have o3 : ¬ b = h.next + 3 := by omega
    have o4 : ¬ b = h.next + 4 := by omega
    have o5 : ¬ b = h.next + 5 := by omega
    have o6 : ¬ b = h.next + 6 := by omega
    simp only [go_sem, ↓reduceIte, ↓reduceDIte, zA, zM, zL, zE, zD, yA, yE, yL, yQ, yT, reduceCtorEq, hne, o0, o1, o2, o3, o4, o5, o6]
  · rw [hc]
    simp only [go_sem, ↓reduceIte, ↓reduceDIte, zA, zM, zL, zE, zD, yA, yE, yL, yQ, yT, reduceCtorEq, n0, m0, n1, m1, n2, m2, n3, m3, n4, m4, n5, m5, n6, m6, n7, m7, n8, m8, rowL]
  · rw [hc]
    refine .sl _ _ _ _ (.inl rfl) (by decide) rfl (by show h.next + 6 < h.next + 7; omega) ?_
    simp only [go_sem, ↓reduceIte, ↓reduceDIte, zA, zM, zL, zE, zD, yA, yE, yL, yQ, yT, reduceCtorEq, n0, m0, n1, m1, n2, m2, n3, m3, n4, m4, n5, m5, n6, m6, n7, m7, n8, m8, rowL, List.map_cons, List.map_nil]
  · intro a ha; simp only [own, Option.some.injEq] at ha; omega
set_option maxRecDepth 10000 in
theorem w39_122 (P : Program) {call : CallE} (h40 : Has call 40 takeK) {h : H} {B t : Nat} {r : ByteArray} (hB : h.t.get B = some (rowL [.str r] t)) (hlt : B < h.next) (hr : r.size ≤ 9223372036854775807) (hg : vl (nxn 2 r) 3 = 2) (hk : vl (nxn 10 r) 3 = 2) (hn : vl (nxn 11 r) 3 = 2) :
    WF P call c39 [.fn (.func 40) [.ptr B 0] []] h (Post39 B t r h) := by
  have C40 : ∀ args h, (takeK args h).isSome = true → call 40 args h = takeK args h := fun _ _ hs => h40.eq hs
  have z0 : (nxn 0 r).size ≤ 9223372036854775807 := nxn_le 0 hr
  have e0 : nx (nxn 0 r) = nxn 1 r := nx_nxn 0 r
  obtain ⟨l0, u0⟩ := vl_bound (nxn 0 r) (n := 4) (by decide)
  obtain ⟨x0, hx0⟩ : ∃ x, vl (nxn 0 r) 4 = x := ⟨_, rfl⟩
  rw [hx0] at l0 u0
  have f0 : fw .i64 (1 + x0) = 1 + x0 := fwI (by omega) (by omega)
  have z1 : (nxn 1 r).size ≤ 9223372036854775807 := nxn_le 1 hr
  have e1 : nx (nxn 1 r) = nxn 2 r := nx_nxn 1 r
  obtain ⟨l1, u1⟩ := vl_bound (nxn 1 r) (n := 4) (by decide)
  obtain ⟨x1, hx1⟩ : ∃ x, vl (nxn 1 r) 4 = x := ⟨_, rfl⟩
  rw [hx1] at l1 u1
  have f1 : fw .i64 (1 + x1) = 1 + x1 := fwI (by omega) (by omega)
  have z2 : (nxn 2 r).size ≤ 9223372036854775807 := nxn_le 2 hr
  have e2 : nx (nxn 2 r) = nxn 3 r := nx_nxn 2 r
  obtain ⟨l2, u2⟩ := vl_bound (nxn 2 r) (n := 3) (by decide)
  have z3 : (nxn 3 r).size ≤ 9223372036854775807 := nxn_le 3 hr
  have e3 : nx (nxn 3 r) = nxn 4 r := nx_nxn 3 r
  obtain ⟨l3, u3⟩ := vl_bound (nxn 3 r) (n := 4) (by decide)
  obtain ⟨x3, hx3⟩ : ∃ x, vl (nxn 3 r) 4 = x := ⟨_, rfl⟩
  rw [hx3] at l3 u3
  have f3 : fw .i64 (1 + x3) = 1 + x3 := fwI (by omega) (by omega)
  have z4 : (nxn 4 r).size ≤ 9223372036854775807 := nxn_le 4 hr
  have e4 : nx (nxn 4 r) = nxn 5 r := nx_nxn 4 r
  obtain ⟨l4, u4⟩ := vl_bound (nxn 4 r) (n := 3) (by decide)
  obtain ⟨x4, hx4⟩ : ∃ x, vl (nxn 4 r) 3 = x := ⟨_, rfl⟩
  rw [hx4] at l4 u4
  have f4 : fw .i64 (1 + x4) = 1 + x4 := fwI (by omega) (by omega)
  have z5 : (nxn 5 r).size ≤ 9223372036854775807 := nxn_le 5 hr
  have e5 : nx (nxn 5 r) = nxn 6 r := nx_nxn 5 r
  obtain ⟨l5, u5⟩ := vl_bound (nxn 5 r) (n := 8) (by decide)
  obtain ⟨x5, hx5⟩ : ∃ x, vl (nxn 5 r) 8 = x := ⟨_, rfl⟩
  rw [hx5] at l5 u5
  have f5 : fw .i64 (1 + x5) = 1 + x5 := fwI (by omega) (by omega)
  have z6 : (nxn 6 r).size ≤ 9223372036854775807 := nxn_le 6 hr
  have e6 : nx (nxn 6 r) = nxn 7 r := nx_nxn 6 r
  obtain ⟨l6, u6⟩ := vl_bound (nxn 6 r) (n := 4) (by decide)
  obtain ⟨x6, hx6⟩ : ∃ x, vl (nxn 6 r) 4 = x := ⟨_, rfl⟩
  rw [hx6] at l6 u6
  have f6 : fw .i64 (1 + x6) = 1 + x6 := fwI (by omega) (by omega)
  have z7 : (nxn 7 r).size ≤ 9223372036854775807 := nxn_le 7 hr
  have e7 : nx (nxn 7 r) = nxn 8 r := nx_nxn 7 r
  obtain ⟨l7, u7⟩ := vl_bound (nxn 7 r) (n := 8) (by decide)
  obtain ⟨x7, hx7⟩ : ∃ x, vl (nxn 7 r) 8 = x := ⟨_, rfl⟩
  rw [hx7] at l7 u7
  have f7 : fw .i64 (1 + x7) = 1 + x7 := fwI (by omega) (by omega)
  have z8 : (nxn 8 r).size ≤ 9223372036854775807 := nxn_le 8 hr
  have e8 : nx (nxn 8 r) = nxn 9 r := nx_nxn 8 r
  obtain ⟨l8, u8⟩ := vl_bound (nxn 8 r) (n := 4) (by decide)
  obtain ⟨x8, hx8⟩ : ∃ x, vl (nxn 8 r) 4 = x := ⟨_, rfl⟩
  rw [hx8] at l8 u8
  have f8 : fw .i64 (1 + x8) = 1 + x8 := fwI (by omega) (by omega)
  have z9 : (nxn 9 r).size ≤ 9223372036854775807 := nxn_le 9 hr
  have e9 : nx (nxn 9 r) = nxn 10 r := nx_nxn 9 r
  obtain ⟨l9, u9⟩ := vl_bound (nxn 9 r) (n := 3) (by decide)
  obtain ⟨x9, hx9⟩ : ∃ x, vl (nxn 9 r) 3 = x := ⟨_, rfl⟩
  rw [hx9] at l9 u9
  have f9 : fw .i64 (1 + x9) = 1 + x9 := fwI (by omega) (by omega)
  have z10 : (nxn 10 r).size ≤ 9223372036854775807 := nxn_le 10 hr
  have e10 : nx (nxn 10 r) = nxn 11 r := nx_nxn 10 r
  obtain ⟨l10, u10⟩ := vl_bound (nxn 10 r) (n := 3) (by decide)
  have z11 : (nxn 11 r).size ≤ 9223372036854775807 := nxn_le 11 hr
  have e11 : nx (nxn 11 r) = nxn 12 r := nx_nxn 11 r
  obtain ⟨l11, u11⟩ := vl_bound (nxn 11 r) (n := 3) (by decide)
  have z12 : (nxn 12 r).size ≤ 9223372036854775807 := nxn_le 12 hr
  have e12 : nx (nxn 12 r) = nxn 13 r := nx_nxn 12 r
  obtain ⟨l12, u12⟩ := vl_bound (nxn 12 r) (n := 8) (by decide)
  obtain ⟨x12, hx12⟩ : ∃ x, vl (nxn 12 r) 8 = x := ⟨_, rfl⟩
  rw [hx12] at l12 u12
  have f12 : fw .i64 (1 + x12) = 1 + x12 := fwI (by omega) (by omega)
  have z13 : (nxn 13 r).size ≤ 9223372036854775807 := nxn_le 13 hr
  have e13 : nx (nxn 13 r) = nxn 14 r := nx_nxn 13 r
  obtain ⟨l13, u13⟩ := vl_bound (nxn 13 r) (n := 8) (by decide)
  obtain ⟨x13, hx13⟩ : ∃ x, vl (nxn 13 r) 8 = x := ⟨_, rfl⟩
  rw [hx13] at l13 u13
  have f13 : fw .i64 (1 + x13) = 1 + x13 := fwI (by omega) (by omega)
  have z14 : (nxn 14 r).size ≤ 9223372036854775807 := nxn_le 14 hr
  have e14 : nx (nxn 14 r) = nxn 15 r := nx_nxn 14 r
  obtain ⟨l14, u14⟩ := vl_bound (nxn 14 r) (n := 8) (by decide)
  obtain ⟨x14, hx14⟩ : ∃ x, vl (nxn 14 r) 8 = x := ⟨_, rfl⟩
  rw [hx14] at l14 u14
  have f14 : fw .i64 (1 + x14) = 1 + x14 := fwI (by omega) (by omega)
  have hr0 : r = nxn 0 r := rfl
  have li1 : fw .i64 1 = 1 := by decide
  have lu1 : fw .u8 1 = 1 := by decide
  have li2 : fw .i64 2 = 2 := by decide
  have lu2 : fw .u8 2 = 2 := by decide
  have li3 : fw .i64 3 = 3 := by decide
  have lu3 : fw .u8 3 = 3 := by decide
  have fu0 : fw .u64 (1 + x12) = 1 + x12 := fwU (by omega) (by omega)
  have fa0 : fw .u64 (0 + (1 + x12)) = 0 + (1 + x12) := fwU (by omega) (by omega)
  have fu1 : fw .u64 (1 + x13) = 1 + x13 := fwU (by omega) (by omega)
  have fa1 : fw .u64 (0 + (1 + x12) + (1 + x13)) = 0 + (1 + x12) + (1 + x13) := fwU (by omega) (by omega)
  have fu2 : fw .u64 (1 + x14) = 1 + x14 := fwU (by omega) (by omega)
  have fa2 : fw .u64 (0 + (1 + x12) + (1 + x13) + (1 + x14)) = 0 + (1 + x12) + (1 + x13) + (1 + x14) := fwU (by omega) (by omega)
  have n0 : ¬ B = h.next := by omega
  have m0 : ¬ h.next = B := by omega
  have n1 : ¬ B = h.next + 1 := by omega
  have m1 : ¬ h.next + 1 = B := by omega
  have n2 : ¬ B = h.next + 2 := by omega
  have m2 : ¬ h.next + 2 = B := by omega
  have n3 : ¬ B = h.next + 3 := by omega
  have m3 : ¬ h.next + 3 = B := by omega
  have n4 : ¬ B = h.next + 4 := by omega
  have m4 : ¬ h.next + 4 = B := by omega
  have n5 : ¬ B = h.next + 5 := by omega
  have m5 : ¬ h.next + 5 = B := by omega
  have n6 : ¬ B = h.next + 6 := by omega
  have m6 : ¬ h.next + 6 = B := by omega
  have n7 : ¬ B = h.next + 7 := by omega
  have m7 : ¬ h.next + 7 = B := by omega
  have n8 : ¬ B = h.next + 8 := by omega
  have m8 : ¬ h.next + 8 = B := by omega
  have n9 : ¬ B = h.next + 9 := by omega
  have m9 : ¬ h.next + 9 = B := by omega
  have n10 : ¬ B = h.next + 10 := by omega
  have m10 : ¬ h.next + 10 = B := by omega
  rw [hr0] at hB
  simp only [go_sem, ↓reduceIte, ↓reduceDIte, zA, zM, zL, zE, zD, yA, yE, yL, yQ, yT, reduceCtorEq, c39, appA, appNew, hB, C40, takeK, hk, Option.isSome_some, hg, hn, z0, e0, hx0, f0, z1, e1, hx1, f1, z2, e2, z3, e3, hx3, f3, z4, e4, hx4, f4, z5, e5, hx5, f5, z6, e6, hx6, f6, z7, e7, hx7, f7, z8, e8, hx8, f8, z9, e9, hx9, f9, z10, e10, z11, e11, z12, e12, hx12, f12, z13, e13, hx13, f13, z14, e14, hx14, f14, li1, lu1, li2, lu2, li3, lu3, fu0, fa0, fu1, fa1, fu2, fa2, n0, m0, n1, m1, n2, m2, n3, m3, n4, m4, n5, m5, n6, m6, n7, m7, n8, m8, n9, m9, n10, m10]
  refine unroll 4 ?_
  simp only [go_sem, ↓reduceIte, ↓reduceDIte, zA, zM, zL, zE, zD, yA, yE, yL, yQ, yT, reduceCtorEq, c39_l15, appA, appNew, hB, C40, takeK, hk, Option.isSome_some, hg, hn, z0, e0, hx0, f0, z1, e1, hx1, f1, z2, e2, z3, e3, hx3, f3, z4, e4, hx4, f4, z5, e5, hx5, f5, z6, e6, hx6, f6, z7, e7, hx7, f7, z8, e8, hx8, f8, z9, e9, hx9, f9, z10, e10, z11, e11, z12, e12, hx12, f12, z13, e13, hx13, f13, z14, e14, hx14, f14, li1, lu1, li2, lu2, li3, lu3, fu0, fa0, fu1, fa1, fu2, fa2, n0, m0, n1, m1, n2, m2, n3, m3, n4, m4, n5, m5, n6, m6, n7, m7, n8, m8, n9, m9, n10, m10]
  refine unroll 4 ?_
  simp only [go_sem, ↓reduceIte, ↓reduceDIte, zA, zM, zL, zE, zD, yA, yE, yL, yQ, yT, reduceCtorEq, c39_l27, appA, appNew, hB, C40, takeK, hk, Option.isSome_some, hg, hn, z0, e0, hx0, f0, z1, e1, hx1, f1, z2, e2, z3, e3, hx3, f3, z4, e4, hx4, f4, z5, e5, hx5, f5, z6, e6, hx6, f6, z7, e7, hx7, f7, z8, e8, hx8, f8, z9, e9, hx9, f9, z10, e10, z11, e11, z12, e12, hx12, f12, z13, e13, hx13, f13, z14, e14, hx14, f14, li1, lu1, li2, lu2, li3, lu3, fu0, fa0, fu1, fa1, fu2, fa2, n0, m0, n1, m1, n2, m2, n3, m3, n4, m4, n5, m5, n6, m6, n7, m7, n8, m8, n9, m9, n10, m10]
  have hc : cfgS r = (⟨1 + x0, 1 + x1, 3, 1 + x3, 3, 0, [0 + (1 + x12), 0 + (1 + x12) + (1 + x13), 0 + (1 + x12) + (1 + x13) + (1 + x14)], x7, x8, x9, 0, 0, 0, 1 + x4, 1 + x5, x6⟩, nxn 15 r) := by
    have hx0' : vl r 4 = x0 := hx0
    simp only [cfgS, hg, if_pos, if_true, if_false, ↓reduceIte, cfgS2, nxn_add, Nat.reduceAdd, hk, nx_nxn, Int.reduceAdd, Int.reduceEq, Int.reduceToNat, cutsS, hn, hx0', hx1, hx3, hx4, hx5, hx6, hx7, hx8, hx9, hx12, hx13, hx14]
  refine ⟨(.sl (h.next + 8) 0 3 1 none), by rw [hc]; rfl, ⟨Nat.le_add_right _ _, fun b hb hne => ?_, ?_⟩, ?_, ?_⟩
  · have o0 : ¬ b = h.next := by omega
    have o1 : ¬ b = h.next + 1 := by omega
    have o2 : ¬ b = h.next + 2 := by omega
    have o3 : ¬ b = h.next + 3 := by omega
    have o4 : ¬ b = h.next + 4 := by omega
    have o5 : ¬ b = h.next + 5 := by omega
    have o6 : ¬ b = h.next + 6 := by omega
    have o7 : ¬ b = h.next + 7 := by omega
    have o8 : ¬ b = h.next + 8 := by omega
    simp only [go_sem, ↓reduceIte, ↓reduceDIte, zA, zM, zL, zE, zD, yA, yE, yL, yQ, yT, reduceCtorEq, hne, o0, o1, o2, o3, o4, o5, o6, o7, o8]
  · rw [hc]
    simp only [go_sem, ↓reduceIte, ↓reduceDIte, zA, zM, zL, zE, zD, yA, yE, yL, yQ, yT, reduceCtorEq, n0, m0, n1, m1, n2, m2, n3, m3, n4, m4, n5, m5, n6, m6, n7, m7, n8, m8, n9, m9, n10, m10, rowL]
  · rw [hc]
    refine .sl _ _ _ _ (.inl rfl) (by decide) rfl (by show h.next + 8 < h.next + 9; omega) ?_
    simp only [go_sem, ↓reduceIte, ↓reduceDIte, zA, zM, zL, zE, zD, yA, yE, yL, yQ, yT, reduceCtorEq, n0, m0, n1, m1, n2, m2, n3, m3, n4, m4, n5, m5, n6, m6, n7, m7, n8, m8, n9, m9, n10, m10, rowL, List.map_cons, List.map_nil]
  · intro a ha; simp only [own, Option.some.injEq] at ha; omega

theorem w39 (P : Program) {call : CallE} (h40 : Has call 40 takeK) {h : H} {B t : Nat} {r : ByteArray} (hB : h.t.get B = some (rowL [.str r] t)) (hlt : B < h.next) (hr : r.size ≤ 9223372036854775807) :
    WF P call c39 [.fn (.func 40) [.ptr B 0] []] h (Post39 B t r h) := by
  by_cases hg : vl (nxn 2 r) 3 = 2
  · obtain ⟨k0, k1⟩ := vl_bound (nxn 10 r) (n := 3) (by decide)
    obtain ⟨n0, n1⟩ := vl_bound (nxn 11 r) (n := 3) (by decide)
    have hk : vl (nxn 10 r) 3 = 0 ∨ vl (nxn 10 r) 3 = 1 ∨ vl (nxn 10 r) 3 = 2 := by omega
    have hn : vl (nxn 11 r) 3 = 0 ∨ vl (nxn 11 r) 3 = 1 ∨ vl (nxn 11 r) 3 = 2 := by omega
    rcases hk with hk | hk | hk
    · exact w39_100 P h40 hB hlt hr hg hk
    · exact w39_110 P h40 hB hlt hr hg hk
    · rcases hn with hn | hn | hn
      · exact w39_120 P h40 hB hlt hr hg hk hn
      · exact w39_121 P h40 hB hlt hr hg hk hn
      · exact w39_122 P h40 hB hlt hr hg hk hn
  · obtain ⟨k0, k1⟩ := vl_bound (nxn 9 r) (n := 3) (by decide)
    obtain ⟨n0, n1⟩ := vl_bound (nxn 10 r) (n := 3) (by decide)
    have hk : vl (nxn 9 r) 3 = 0 ∨ vl (nxn 9 r) 3 = 1 ∨ vl (nxn 9 r) 3 = 2 := by omega
    have hn : vl (nxn 10 r) 3 = 0 ∨ vl (nxn 10 r) 3 = 1 ∨ vl (nxn 10 r) 3 = 2 := by omega
    rcases hk with hk | hk | hk
    · exact w39_000 P h40 hB hlt hr hg hk
    · exact w39_010 P h40 hB hlt hr hg hk
    · rcases hn with hn | hn | hn
      · exact w39_020 P h40 hB hlt hr hg hk hn
      · exact w39_021 P h40 hB hlt hr hg hk hn
      · exact w39_022 P h40 hB hlt hr hg hk hn
end
end Go.Proofs.Ytnmlfhogolonoaa
