/-
  The law ScriptAny: what it does with a string.
-/
import Derived.Test.YtnmlfhogolonoaaSoV
import Derived.Below
import Derived.Test.YtnmlfhogolonoaaRows
set_option linter.unusedVariables false
set_option linter.unusedSimpArgs false
namespace Go.Proofs.Ytnmlfhogolonoaa
open Go.Proofs.Ytnmlfhogolonoaa.Eo Go.RowKit
noncomputable section
/-! 11: leapfrog/leapfroglaw43.known -/
def c11_s0 : List SQ := [⟨(some 0), none, (.p (.mv (.c (.bool false))))⟩]
def c11_s1 : List SQ := [⟨(some 4), none, (.n (.buildS 5 1 12 [(.int .u8 0), (.int .u8 0), (.int .u8 0), (.int .u8 0), (.int .u8 0), (.int .u8 0), (.int .u8 0), (.int .u8 0), (.int .u8 0), (.int .u8 0), (.int .u8 0), (.int .u8 0)] [(0, 1, (.c (.int .u8 1))), (1, 1, (.c (.int .u8 0))), (2, 1, (.c (.int .u8 2))), (3, 1, (.c (.int .u8 3))), (4, 1, (.c (.int .u8 1))), (5, 1, (.c (.int .u8 1))), (6, 1, (.c (.int .u8 0))), (7, 1, (.c (.int .u8 4))), (8, 1, (.c (.int .u8 2))), (9, 1, (.c (.int .u8 1))), (10, 1, (.c (.int .u8 1))), (11, 1, (.c (.int .u8 2)))]))⟩, ⟨(some 5), none, (.s (.b2s (.t 4)))⟩, ⟨(some 6), none, (.cv (.c (.fn (.func 18) [] [])) [(.t 5)])⟩, ⟨(some 1), none, (.n (.new 31 [(.int .i64 0), (.int .i64 0), (.int .u8 0), (.int .i64 0), (.int .u8 0), (.int .i64 0), .nils, (.int .i64 0), (.int .i64 0), (.int .i64 0), (.int .i64 0), (.int .i64 0), (.int .i64 0), (.int .i64 0), (.int .i64 0), (.int .i64 0), .nils, .nils]))⟩, ⟨none, none, (.e (.st 18 (.t 1) (.t 6)))⟩]
def c11_s2 : List SQ := [⟨(some 8), none, (.r (.ld (some 18) (.t 1)))⟩, ⟨(some 9), none, (.cv (.c (.fn (.func 13) [] [])) [(.t 8)])⟩, ⟨(some 7), none, (.p (.mv (.t 9)))⟩, ⟨(some 10), none, (.p (.extr (.t 7) 0))⟩, ⟨(some 11), none, (.p (.extr (.t 7) 1))⟩, ⟨(some 2), none, (.p (.mv (.t 10)))⟩, ⟨(some 3), none, (.p (.mv (.t 11)))⟩]
def c11_s3 : List SQ := [⟨(some 12), none, (.p (.fadr 0 (.t 1)))⟩, ⟨(some 13), none, (.p (.fadr 0 (.t 12)))⟩, ⟨(some 14), none, (.r (.ld none (.t 13)))⟩, ⟨(some 15), none, (.p (.bin .eql 3 false true (.t 14) (.c (.int .i64 2))))⟩, ⟨(some 16), none, (.p (.mv (.t 15)))⟩, ⟨(some 17), (some (16, true)), (.p (.fadr 0 (.t 1)))⟩, ⟨(some 18), (some (16, true)), (.p (.fadr 2 (.t 17)))⟩, ⟨(some 19), (some (16, true)), (.r (.ld none (.t 18)))⟩, ⟨(some 20), (some (16, true)), (.p (.bin .eql 5 false true (.t 19) (.c (.int .u8 3))))⟩, ⟨(some 21), none, (.p (.pick (.t 16) (.t 20) (.c (.bool false))))⟩, ⟨(some 22), none, (.p (.mv (.t 21)))⟩, ⟨(some 23), (some (22, true)), (.p (.fadr 0 (.t 1)))⟩, ⟨(some 24), (some (22, true)), (.p (.fadr 3 (.t 23)))⟩, ⟨(some 25), (some (22, true)), (.r (.ld none (.t 24)))⟩, ⟨(some 26), (some (22, true)), (.p (.bin .eql 3 false true (.t 25) (.c (.int .i64 4))))⟩, ⟨(some 27), none, (.p (.pick (.t 22) (.t 26) (.c (.bool false))))⟩, ⟨(some 28), none, (.p (.mv (.t 27)))⟩, ⟨(some 29), (some (28, true)), (.p (.mv (.t 2)))⟩, ⟨(some 30), (some (28, true)), (.p (.lens (.t 29)))⟩, ⟨(some 31), (some (28, true)), (.p (.bin .gtr 3 false true (.t 30) (.c (.int .i64 10))))⟩, ⟨(some 32), none, (.p (.pick (.t 28) (.t 31) (.c (.bool false))))⟩, ⟨(some 33), none, (.p (.mv (.t 32)))⟩, ⟨(some 34), (some (33, true)), (.p (.mv (.t 3)))⟩, ⟨(some 35), (some (33, true)), (.p (.bin .eql 35 false true (.t 34) (.c (.int .i64 0))))⟩, ⟨(some 36), none, (.p (.pick (.t 33) (.t 35) (.c (.bool false))))⟩, ⟨(some 0), none, (.p (.mv (.t 36)))⟩]
def c11 : CF := ⟨0, (.seq (.ops c11_s0) (.seq (.ops c11_s1) (.seq (.ops c11_s2) (.seq (.ops c11_s3) .ret)))), [.tmp 0]⟩
theorem c11_eq : cCF Try.prog 11 0 = some c11 := by kernel_rfl
/-! 5: leapfrog/leapfroglaw43.ScriptAny -/
def c5_s0 : List SQ := [⟨(some 2), none, (.p (.mv (.c (.bool false))))⟩]
def c5_s1 : List SQ := [⟨(some 7), none, (.p (.mv (.t 0)))⟩, ⟨(some 8), none, (.p (.lens (.t 7)))⟩, ⟨(some 9), none, (.p (.bin .gtr 3 false true (.t 8) (.c (.int .i64 20000))))⟩]
def c5_s2 : List SQ := [⟨(some 10), none, (.cv (.c (.fn (.func 11) [] [])) [])⟩, ⟨(some 2), none, (.p (.mv (.t 10)))⟩]
def c5_s3 : List SQ := [⟨(some 11), none, (.p (.mv (.t 0)))⟩, ⟨(some 12), none, (.cv (.c (.fn (.func 18) [] [])) [(.t 11)])⟩, ⟨(some 3), none, (.n (.new 31 [(.int .i64 0), (.int .i64 0), (.int .u8 0), (.int .i64 0), (.int .u8 0), (.int .i64 0), .nils, (.int .i64 0), (.int .i64 0), (.int .i64 0), (.int .i64 0), (.int .i64 0), (.int .i64 0), (.int .i64 0), (.int .i64 0), (.int .i64 0), .nils, .nils]))⟩, ⟨none, none, (.e (.st 18 (.t 3) (.t 12)))⟩]
def c5_s4 : List SQ := [⟨(some 14), none, (.r (.ld (some 18) (.t 3)))⟩, ⟨(some 15), none, (.cv (.c (.fn (.func 13) [] [])) [(.t 14)])⟩, ⟨(some 13), none, (.p (.mv (.t 15)))⟩, ⟨(some 16), none, (.p (.extr (.t 13) 0))⟩, ⟨(some 17), none, (.p (.extr (.t 13) 1))⟩, ⟨(some 4), none, (.p (.mv (.t 16)))⟩, ⟨(some 5), none, (.p (.mv (.t 17)))⟩]
def c5_s5 : List SQ := [⟨(some 18), none, (.r (.ld (some 18) (.t 3)))⟩, ⟨(some 19), none, (.cv (.c (.fn (.func 15) [] [])) [(.t 18)])⟩, ⟨(some 20), none, (.p (.bin .neq 35 false true (.t 19) (.c (.int .i64 0))))⟩, ⟨(some 21), none, (.p (.mv (.t 20)))⟩, ⟨(some 22), (some (21, false)), (.p (.mv (.t 5)))⟩, ⟨(some 23), (some (21, false)), (.p (.bin .neq 35 false true (.t 22) (.c (.int .i64 0))))⟩, ⟨(some 24), none, (.p (.pick (.t 21) (.c (.bool true)) (.t 23)))⟩, ⟨(some 25), none, (.p (.mv (.t 24)))⟩, ⟨(some 26), (some (25, false)), (.p (.mv (.t 4)))⟩, ⟨(some 27), (some (25, false)), (.p (.lens (.t 26)))⟩, ⟨(some 28), (some (25, false)), (.p (.bin .eql 3 false true (.t 27) (.c (.int .i64 0))))⟩, ⟨(some 29), none, (.p (.pick (.t 25) (.c (.bool true)) (.t 28)))⟩, ⟨(some 30), none, (.p (.mv (.t 29)))⟩, ⟨(some 31), (some (30, false)), (.p (.fadr 17 (.t 3)))⟩, ⟨(some 32), (some (30, false)), (.r (.ld none (.t 31)))⟩, ⟨(some 33), (some (30, false)), (.p (.lenv (.t 32)))⟩, ⟨(some 34), (some (30, false)), (.p (.mv (.t 0)))⟩, ⟨(some 35), (some (30, false)), (.p (.lens (.t 34)))⟩, ⟨(some 36), (some (30, false)), (.p (.bin .gtr 3 false false (.t 33) (.t 35)))⟩, ⟨(some 37), none, (.p (.pick (.t 30) (.c (.bool true)) (.t 36)))⟩]
def c5_s6 : List SQ := [⟨(some 2), none, (.p (.mv (.c (.bool false))))⟩]
def c5_s7 : List SQ := [⟨(some 6), none, (.p (.mv (.c (.int .i64 0))))⟩]
def c5_s8 : List SQ := [⟨(some 38), none, (.p (.mv (.t 6)))⟩, ⟨(some 39), none, (.p (.fadr 16 (.t 3)))⟩, ⟨(some 40), none, (.r (.ld none (.t 39)))⟩, ⟨(some 41), none, (.p (.lenv (.t 40)))⟩, ⟨(some 42), none, (.p (.bin .lss 3 false false (.t 38) (.t 41)))⟩]
def c5_s9 : List SQ := [⟨(some 45), none, (.p (.fadr 16 (.t 3)))⟩, ⟨(some 46), none, (.r (.ld none (.t 45)))⟩, ⟨(some 47), none, (.p (.mv (.t 6)))⟩, ⟨(some 48), none, (.p (.iadrS 1 (.t 46) (.t 47)))⟩, ⟨(some 49), none, (.r (.ld none (.t 48)))⟩, ⟨(some 50), none, (.p (.lenv (.t 49)))⟩, ⟨(some 51), none, (.p (.bin .lss 3 false true (.t 50) (.c (.int .i64 1))))⟩, ⟨(some 52), none, (.p (.mv (.t 51)))⟩, ⟨(some 53), (some (52, false)), (.p (.fadr 16 (.t 3)))⟩, ⟨(some 54), (some (52, false)), (.r (.ld none (.t 53)))⟩, ⟨(some 55), (some (52, false)), (.p (.mv (.t 6)))⟩, ⟨(some 56), (some (52, false)), (.p (.iadrS 1 (.t 54) (.t 55)))⟩, ⟨(some 57), (some (52, false)), (.r (.ld none (.t 56)))⟩, ⟨(some 58), (some (52, false)), (.p (.lenv (.t 57)))⟩, ⟨(some 59), (some (52, false)), (.p (.bin .gtr 3 false true (.t 58) (.c (.int .i64 16))))⟩, ⟨(some 60), none, (.p (.pick (.t 52) (.c (.bool true)) (.t 59)))⟩, ⟨(some 61), none, (.p (.mv (.t 60)))⟩, ⟨(some 62), (some (61, false)), (.p (.fadr 16 (.t 3)))⟩, ⟨(some 63), (some (61, false)), (.r (.ld none (.t 62)))⟩, ⟨(some 64), (some (61, false)), (.p (.mv (.t 6)))⟩, ⟨(some 65), (some (61, false)), (.p (.iadrS 1 (.t 63) (.t 64)))⟩, ⟨(some 66), (some (61, false)), (.r (.ld none (.t 65)))⟩, ⟨(some 67), (some (61, false)), (.p (.iadrS 7 (.t 66) (.c (.int .i64 0))))⟩, ⟨(some 68), (some (61, false)), (.r (.ld (some 7) (.t 67)))⟩, ⟨(some 69), (some (61, false)), (.p (.build [(.int .u8 0), (.int .u64 0), (.int .u64 0), (.int .u64 0), (.int .u64 0), (.int .u64 0), (.int .u64 0)] [(0, 1, (.c (.int .u8 1)))]))⟩, ⟨(some 70), (some (61, false)), (.p (.bin .neq 45 false false (.t 68) (.t 69)))⟩, ⟨(some 71), none, (.p (.pick (.t 61) (.c (.bool true)) (.t 70)))⟩]
def c5_s10 : List SQ := [⟨(some 2), none, (.p (.mv (.c (.bool false))))⟩]
def c5_s11 : List SQ := [⟨(some 43), none, (.p (.mv (.t 6)))⟩, ⟨(some 44), none, (.p (.bin .add 3 false true (.t 43) (.c (.int .i64 1))))⟩, ⟨(some 6), none, (.p (.mv (.t 44)))⟩]
def c5_l12 : CC := (.seq (.seq (.ops c5_s8) (.cond (.t 42) .skip (.exit 0))) (.seq (.block 1 (.seq (.ops c5_s9) (.cond (.t 71) (.seq (.ops c5_s10) .ret) .skip))) (.ops c5_s11)))
def c5_s13 : List SQ := [⟨(some 72), none, (.cv (.c (.fn (.func 11) [] [])) [])⟩, ⟨(some 2), none, (.p (.mv (.t 72)))⟩]
def c5 : CF := ⟨1, (.seq (.ops c5_s0) (.seq (.seq (.ops c5_s1) (.cond (.t 9) (.seq (.ops c5_s2) .ret) .skip)) (.seq (.ops c5_s3) (.seq (.ops c5_s4) (.seq (.seq (.ops c5_s5) (.cond (.t 37) (.seq (.ops c5_s6) .ret) .skip)) (.seq (.seq (.ops c5_s7) (.block 0 (.loop c5_l12))) (.seq (.ops c5_s13) .ret))))))), [.tmp 2]⟩
theorem c5_eq : cCF Try.prog 5 1 = some c5 := by kernel_rfl

theorem strOf_size : ∀ (l : List Int) (b : ByteArray), (l.foldl (fun r n => r.push (UInt8.ofNat n.toNat)) b).size = b.size + l.length
  | [], b => rfl
  | x :: l, b => by rw [List.foldl_cons, strOf_size l, ByteArray.size_push, List.length_cons]; omega
theorem strOf_len (l : List Int) : (strOf l).size = l.length := by unfold strOf; rw [strOf_size]; show 0 + l.length = l.length; omega
def kL : List Int := [1, 0, 2, 3, 1, 1, 0, 4, 2, 1, 1, 2]
theorem kS_th : (cfgS (strOf kL)).1.threads = 2 := by kernel_rfl
theorem kS_en : (cfgS (strOf kL)).1.engine = 3 := by kernel_rfl
theorem kS_bu : (cfgS (strOf kL)).1.buckets = 4 := by kernel_rfl
set_option maxRecDepth 4000 in
theorem w11 (n : Nat) {h : H} : WF Try.prog (cW (n + 5)) c11 [] h fun v h' => v = .bool true ∧ StepN h h' := by
  have st0 := StepN.new h (.row (putList 0 [.int .u8 1, .int .u8 0, .int .u8 2, .int .u8 3, .int .u8 1, .int .u8 1, .int .u8 0, .int .u8 4, .int .u8 2, .int .u8 1, .int .u8 1, .int .u8 2] T.e) 12 5)
  have ok : Own 1 5 ⟨h.next + 1, h.t.set h.next (.row (putList 0 [.int .u8 1, .int .u8 0, .int .u8 2, .int .u8 3, .int .u8 1, .int .u8 1, .int .u8 0, .int .u8 4, .int .u8 2, .int .u8 1, .int .u8 1, .int .u8 2] T.e) 12 5)⟩ (.sl h.next 0 12 1 (some 12)) kL.length (byV kL) := .sl _ _ _ _ (.inr rfl) (by decide) rfl (Nat.lt_succ_self _) (by simp only [go_sem, ↓reduceIte, ↓reduceDIte, Nat.reduceAdd, Nat.reduceMul, Nat.reduceLT, Nat.reduceEqDiff, Nat.reduceLeDiff, Int.reduceAdd, Int.reduceLE, Int.reduceLT, Int.reduceEq, Int.reduceToNat, reduceCtorEq]; rfl)
  have hb : ∀ tm : T AV, tm.get 4 = some (.sl h.next 0 12 1 (some 12)) → evS tm (h.t.set h.next (.row (putList 0 [.int .u8 1, .int .u8 0, .int .u8 2, .int .u8 3, .int .u8 1, .int .u8 1, .int .u8 0, .int .u8 4, .int .u8 2, .int .u8 1, .int .u8 1, .int .u8 2] T.e) 12 5)).get (.b2s (.t 4)) = some (.str (strOf kL)) := fun tm ht => b2s_own (l := kL) ok ht
  have k1 := kS_th
  have k2 := kS_en
  have k3 := kS_bu
  have hsz : (strOf kL).size = 12 := strOf_len kL
  generalize strOf kL = s0 at hb k1 k2 k3 hsz
  simp only [go_sem, ↓reduceIte, ↓reduceDIte, Nat.reduceAdd, Nat.reduceMul, Nat.reduceLT, Nat.reduceEqDiff, Nat.reduceLeDiff, Int.reduceAdd, Int.reduceLE, Int.reduceLT, Int.reduceEq, Int.reduceToNat, reduceCtorEq, c11, c11_s0, c11_s1, c11_s2, c11_s3, hb]
  refine opt_by (H18 (n + 1) _ s0 (by omega)) fun v1 h1 p1 => ?_
  obtain ⟨c, r, ps, r', e2, e3, is1, st1⟩ := Post18.isS p1
  have sok := scr_ok (by omega) e2 e3
  rw [e2] at k1 k2 k3
  simp only at k1 k2 k3
  generalize picksS c.threads r' = ks at is1 sok
  obtain ⟨cv, pv, kv, rfl, i1, i2, i3, i4, i5⟩ := id is1
  have ov := i1.one
  have opa := i3.one
  have oka := i4.one
  simp only [go_sem, ↓reduceIte, ↓reduceDIte, Nat.reduceAdd, Nat.reduceMul, Nat.reduceLT, Nat.reduceEqDiff, Nat.reduceLeDiff, Int.reduceAdd, Int.reduceLE, Int.reduceLT, Int.reduceEq, Int.reduceToNat, reduceCtorEq, ov, opa, oka]
  have st2 := StepN.new h1 (.row (putList 0 (cfgC c cv ++ [pv, kv]) T.e) 18 31)
  refine opt_by (H13 n _ _ c ps ks (is1.keep st2) sok.op sok.cu) fun v3 h3 p3 => ?_
  obtain ⟨st3, z, e, rfl, hz, _⟩ := p3
  have hz3 := hz sok.chk
  clear hz
  have hz2 : encZ (encS c ps ks) = (strOf (encS c ps ks), 0) := if_neg (by have := sok.len; omega)
  rw [hz2] at hz3
  obtain ⟨rfl, rfl⟩ := hz3
  have gX := st3.old h1.next (by show h1.next < h1.next + 1; omega)
  simp only [go_sem, ↓reduceIte, ↓reduceDIte, Nat.reduceAdd, Nat.reduceMul, Nat.reduceLT, Nat.reduceEqDiff, Nat.reduceLeDiff, Int.reduceAdd, Int.reduceLE, Int.reduceLT, Int.reduceEq, Int.reduceToNat, reduceCtorEq] at gX
  have hlen : (10 : Int) < ((encS c ps ks).length : Int) := by have := sok.ge; omega
  simp only [go_sem, ↓reduceIte, ↓reduceDIte, Nat.reduceAdd, Nat.reduceMul, Nat.reduceLT, Nat.reduceEqDiff, Nat.reduceLeDiff, Int.reduceAdd, Int.reduceLE, Int.reduceLT, Int.reduceEq, Int.reduceToNat, reduceCtorEq, gX, cfgC, k1, k2, k3, strOf_len, hlen]
  exact ((st0.trans st1).trans st2).trans st3
def I5 (h0 : H) (X : Nat) (s : ByteArray) (ps : List (List OpT)) (k : Nat) (tm : T AV) (h : H) : Prop :=
  h = h0 ∧ ∃ i : Nat, i + k = ps.length ∧ tm.get 3 = some (.ptr X 0) ∧ tm.get 6 = some (.int .i64 (i : Int))
set_option maxRecDepth 4000 in
theorem step5 {call : CallE} {h0 : H} {X : Nat} {s : ByteArray} {c : CfgT} {cv pv kv : AV} {ps : List (List OpT)} (gX : h0.t.get X = some (.row (putList 0 (cfgC c cv ++ [pv, kv]) T.e) 18 31)) (hps : RdP h0 pv ps) (hp : ∀ p ∈ ps, (1 ≤ p.length ∧ p.length ≤ 16) ∧ p[0]? = some opOpen)
    (k : Nat) (tm : T AV) (h : H) (hI : I5 h0 X s ps k tm h) :
    WC Try.prog call c5_l12 (loopQ 0 (fun tm h => ∃ m, m < k ∧ I5 h0 X s ps m tm h) (fun tm h => h = h0) (fun _ _ => False)) tm h := by
  obtain ⟨rfl, i, hik, t3, t6⟩ := hI
  obtain ⟨vs, p1, p2, p3, p4, p5⟩ := id hps
  have pl := p1.lenA
  have ple := p1.le
  have opa := p1.one
  rw [p2] at pl ple
  cases k with
  | zero =>
    have e1 : ¬ (i : Int) < (ps.length : Int) := by omega
    simp only [go_sem, ↓reduceIte, ↓reduceDIte, Nat.reduceAdd, Nat.reduceMul, Nat.reduceLT, Nat.reduceEqDiff, Nat.reduceLeDiff, Int.reduceAdd, Int.reduceLE, Int.reduceLT, Int.reduceEq, Int.reduceToNat, reduceCtorEq, c5_l12, c5_s8, c5_s9, c5_s10, c5_s11, t3, t6, gX, cfgC, pl, e1]
  | succ k =>
    have e1 : (i : Int) < (ps.length : Int) := by omega
    have hi : i < ps.length := by omega
    have hiv : i < vs.length := by omega
    obtain ⟨⟨q1, q2⟩, q3⟩ := hp ps[i] (List.getElem_mem hi)
    have rp := p3 i vs[i] ps[i] (by simp [hiv]) (by simp [hi])
    have lp := rp.lenA
    rw [List.length_map] at lp
    rcases p1 with ⟨_, hh⟩ | ⟨a, o, cap, rfl, _, ra⟩
    · subst hh; simp at hiv
    have ha := ra i vs[i] (by simp [hiv])
    rw [rLdA, Nat.mul_one] at ha
    rw [p2] at gX
    rcases rp with ⟨_, hh⟩ | ⟨a2, o2, cap2, e2, _, ra2⟩
    · rw [List.map_eq_nil_iff] at hh
      rw [hh] at q1
      simp at q1
    have ha2 := ra2 0 (.agg (opC opOpen)) (by rw [List.getElem?_map, q3]; rfl)
    rw [rLdA, Nat.zero_mul, Nat.add_zero] at ha2
    rw [List.length_map] at e2
    have f1 : fw .i64 ((i : Int) + 1) = (i : Int) + 1 := fwI (by omega) (by omega)
    have e3 : ((i + 1 : Nat) : Int) = (i : Int) + 1 := rfl
    have e4 : ¬ (ps[i].length : Int) < 1 := by omega
    have e5 : ¬ (16 : Int) < (ps[i].length : Int) := by omega
    have e6 : (0 : Int) < (ps[i].length : Int) := by omega
    have hne := ne45 opOpen opOpen
    have hne2 : evBin Try.prog .neq 45 false false (.agg (opC opOpen)) (.agg [.int .u8 1, .int .u64 0, .int .u64 0, .int .u64 0, .int .u64 0, .int .u64 0, .int .u64 0]) = some (.bool false) := hne.trans (by simp)
    rw [e2] at lp ha
    simp only [go_sem, ↓reduceIte, ↓reduceDIte, Nat.reduceAdd, Nat.reduceMul, Nat.reduceLT, Nat.reduceEqDiff, Nat.reduceLeDiff, Int.reduceAdd, Int.reduceLE, Int.reduceLT, Int.reduceEq, Int.reduceToNat, reduceCtorEq, c5_l12, c5_s8, c5_s9, c5_s10, c5_s11, t3, t6, gX, cfgC, pl, e1, Nat.mul_one, ha, lp, e4, e5, e6, ha2, hne2, Nat.zero_mul, Nat.add_zero]
    exact ⟨k, Nat.lt_succ_self k, rfl, i + 1, by omega, by simp only [go_sem, ↓reduceIte, ↓reduceDIte, Nat.reduceAdd, Nat.reduceMul, Nat.reduceLT, Nat.reduceEqDiff, Nat.reduceLeDiff, Int.reduceAdd, Int.reduceLE, Int.reduceLT, Int.reduceEq, Int.reduceToNat, reduceCtorEq, t3], by simp only [go_sem, ↓reduceIte, ↓reduceDIte, Nat.reduceAdd, Nat.reduceMul, Nat.reduceLT, Nat.reduceEqDiff, Nat.reduceLeDiff, Int.reduceAdd, Int.reduceLE, Int.reduceLT, Int.reduceEq, Int.reduceToNat, reduceCtorEq, t6, f1, e3]⟩
theorem H11 (n : Nat) : ∀ h, ∃ v h', cW (n + 6) 11 [] h = some (v, h') ∧ (v = .bool true ∧ StepN h h') := fun h => callW_of (by kernel_rfl) (by kernel_rfl) c11_eq (w11 n)
set_option maxRecDepth 4000 in
theorem w5 (n : Nat) {h : H} {s : ByteArray} : WF Try.prog (cW (n + 6)) c5 [.str s] h fun v h' => v = .bool true := by
  by_cases hs : s.size ≤ 20000
  case neg =>
    have e1 : (20000 : Int) < (s.size : Int) := by omega
    simp only [go_sem, ↓reduceIte, ↓reduceDIte, Nat.reduceAdd, Nat.reduceMul, Nat.reduceLT, Nat.reduceEqDiff, Nat.reduceLeDiff, Int.reduceAdd, Int.reduceLE, Int.reduceLT, Int.reduceEq, Int.reduceToNat, reduceCtorEq, c5, c5_s0, c5_s1, c5_s2, c5_s3, c5_s4, c5_s5, c5_s6, c5_s7, c5_s13, e1]
    refine opt_by (H11 n _) fun v1 h1 p1 => ?_
    obtain ⟨rfl, _⟩ := p1
    simp only [go_sem, ↓reduceIte, ↓reduceDIte, Nat.reduceAdd, Nat.reduceMul, Nat.reduceLT, Nat.reduceEqDiff, Nat.reduceLeDiff, Int.reduceAdd, Int.reduceLE, Int.reduceLT, Int.reduceEq, Int.reduceToNat, reduceCtorEq]
  have e1 : ¬ (20000 : Int) < (s.size : Int) := by omega
  simp only [go_sem, ↓reduceIte, ↓reduceDIte, Nat.reduceAdd, Nat.reduceMul, Nat.reduceLT, Nat.reduceEqDiff, Nat.reduceLeDiff, Int.reduceAdd, Int.reduceLE, Int.reduceLT, Int.reduceEq, Int.reduceToNat, reduceCtorEq, c5, c5_s0, c5_s1, c5_s2, c5_s3, c5_s4, c5_s5, c5_s6, c5_s7, c5_s13, e1]
  refine opt_by (H18 (n + 2) _ s (by omega)) fun v1 h1 p1 => ?_
  obtain ⟨c, r, ps, r', e2, e3, is1, st1⟩ := Post18.isS p1
  have sok := scr_ok hs e2 e3
  generalize picksS c.threads r' = ks at is1 sok
  obtain ⟨cv, pv, kv, rfl, i1, i2, i3, i4, i5⟩ := id is1
  have ov := i1.one
  have opa := i3.one
  have oka := i4.one
  simp only [go_sem, ↓reduceIte, ↓reduceDIte, Nat.reduceAdd, Nat.reduceMul, Nat.reduceLT, Nat.reduceEqDiff, Nat.reduceLeDiff, Int.reduceAdd, Int.reduceLE, Int.reduceLT, Int.reduceEq, Int.reduceToNat, reduceCtorEq, ov, opa, oka]
  have st2 := StepN.new h1 (.row (putList 0 (cfgC c cv ++ [pv, kv]) T.e) 18 31)
  refine opt_by (H13 (n + 1) _ _ c ps ks (is1.keep st2) sok.op sok.cu) fun v3 h3 p3 => ?_
  obtain ⟨st3, z, e, rfl, hz, _⟩ := p3
  have hz3 := hz sok.chk
  clear hz
  have hz2 : encZ (encS c ps ks) = (strOf (encS c ps ks), 0) := if_neg (by have := sok.len; omega)
  rw [hz2] at hz3
  obtain ⟨rfl, rfl⟩ := hz3
  have gX := st3.old h1.next (by show h1.next < h1.next + 1; omega)
  simp only [go_sem, ↓reduceIte, ↓reduceDIte, Nat.reduceAdd, Nat.reduceMul, Nat.reduceLT, Nat.reduceEqDiff, Nat.reduceLeDiff, Int.reduceAdd, Int.reduceLE, Int.reduceLT, Int.reduceEq, Int.reduceToNat, reduceCtorEq] at gX
  have hge := sok.ge
  have hsz : (strOf (encS c ps ks)).size = (encS c ps ks).length := strOf_len _
  generalize strOf (encS c ps ks) = zs at hsz
  have hX3 : h1.next < h3.next := Nat.lt_of_lt_of_le (Nat.lt_succ_self _) st3.next
  have is3 := (is1.keep st2).keep st3
  simp only [go_sem, ↓reduceIte, ↓reduceDIte, Nat.reduceAdd, Nat.reduceMul, Nat.reduceLT, Nat.reduceEqDiff, Nat.reduceLeDiff, Int.reduceAdd, Int.reduceLE, Int.reduceLT, Int.reduceEq, Int.reduceToNat, reduceCtorEq, gX, ov, opa, oka]
  refine opt_by (H15 (n + 2) _ _ c ps ks is3) fun v4 h4 p4 => ?_
  obtain ⟨e, rfl, he, st4⟩ := p4
  have he0 := he.2 sok.chk
  subst he0
  have gX4 := (st4.old h1.next hX3).trans gX
  have kl := i4.lenA
  rw [List.length_map] at kl
  have e4 : ¬ (zs.size : Int) = 0 := by omega
  have e5 : ¬ (s.size : Int) < (ks.length : Int) := by have := sok.ks; omega
  simp only [go_sem, ↓reduceIte, ↓reduceDIte, Nat.reduceAdd, Nat.reduceMul, Nat.reduceLT, Nat.reduceEqDiff, Nat.reduceLeDiff, Int.reduceAdd, Int.reduceLE, Int.reduceLT, Int.reduceEq, Int.reduceToNat, reduceCtorEq, gX4, cfgC, kl, e4, e5]
  refine loop_in (I5 h4 h1.next s ps) _ _ (fun k tm h hI => step5 gX4 (RdP.keep (RdP.keep (RdP.keep i3 st2) st3) st4) sok.ps k tm h hI) (fun tm2 h2 hR => ?_) (fun _ _ hh => hh.elim) ps.length _ _
    ⟨rfl, 0, by omega, by simp only [go_sem, ↓reduceIte, ↓reduceDIte, Nat.reduceAdd, Nat.reduceMul, Nat.reduceLT, Nat.reduceEqDiff, Nat.reduceLeDiff, Int.reduceAdd, Int.reduceLE, Int.reduceLT, Int.reduceEq, Int.reduceToNat, reduceCtorEq], by simp only [go_sem, ↓reduceIte, ↓reduceDIte, Nat.reduceAdd, Nat.reduceMul, Nat.reduceLT, Nat.reduceEqDiff, Nat.reduceLeDiff, Int.reduceAdd, Int.reduceLE, Int.reduceLT, Int.reduceEq, Int.reduceToNat, reduceCtorEq]⟩
  subst hR
  simp only [go_sem, ↓reduceIte, ↓reduceDIte, Nat.reduceAdd, Nat.reduceMul, Nat.reduceLT, Nat.reduceEqDiff, Nat.reduceLeDiff, Int.reduceAdd, Int.reduceLE, Int.reduceLT, Int.reduceEq, Int.reduceToNat, reduceCtorEq]
  refine opt_by (H11 n _) fun v1 h1 p1 => ?_
  obtain ⟨rfl, _⟩ := p1
  simp only [go_sem, ↓reduceIte, ↓reduceDIte, Nat.reduceAdd, Nat.reduceMul, Nat.reduceLT, Nat.reduceEqDiff, Nat.reduceLeDiff, Int.reduceAdd, Int.reduceLE, Int.reduceLT, Int.reduceEq, Int.reduceToNat, reduceCtorEq]
/-- THE LAW -/
theorem law5 (s : ByteArray) (W : World) : Calls Try.prog 5 #[.string s] W fun e W' => e = .returned (.bool true) ∧ Below W.heap.size W W' :=
  calls_of (cW_ok 6) (callW_plain 6) (args := [.str s]) (ARGS := [.string s]) ⟨_, [], rfl, rfl, rfl⟩ rfl (by kernel_rfl) (by kernel_rfl) c5_eq (w5 0) W
end
end Go.Proofs.Ytnmlfhogolonoaa
