/-
  The line of a result.
-/
import Derived.Test.YtiokmoepojdfmaaDoorClM
set_option linter.unusedVariables false
set_option linter.unusedSimpArgs false
namespace Go.Proofs.YtiokmoepojdfmaaDoor
open Go.Proofs.YtiokmoepojdfmaaDoor.Eo
open Nat renaming reduceAdd → zA, reduceMul → zM, reduceLT → zL, reduceEqDiff → zE, reduceLeDiff → zD
open Int renaming reduceAdd → yA, reduceLE → yE, reduceLT → yL, reduceEq → yQ, reduceToNat → yT
open Go.Lib (decDigits itoa)
noncomputable section
/-! 7: leapfrog/text.Result -/
@[go_sem] def c7_s0 : List SQ := [⟨some 1, none, .n (.box 27 (.t 0))⟩, ⟨some 2, none, .p (.mv (.c (.str ⟨#[]⟩)))⟩, ⟨some 3, none, .p (.mv (.c (.int .i64 0)))⟩]
@[go_sem] def c7_s1 : List SQ := [⟨some 5, none, .p (.fadr 0 (.t 1))⟩, ⟨some 6, none, .r (.ld none (.t 5))⟩, ⟨some 7, none, .p (.bin .lss 25 false true (.t 6) (.c (.int .i64 0)))⟩, ⟨some 8, none, .p (.mv (.t 7))⟩, ⟨some 9, some (8, false), .p (.fadr 0 (.t 1))⟩, ⟨some 10, some (8, false), .r (.ld none (.t 9))⟩, ⟨some 11, some (8, false), .p (.bin .gtr 25 false true (.t 10) (.c (.int .i64 23)))⟩, ⟨some 12, none, .p (.pick (.t 8) (.c (.bool true)) (.t 11))⟩, ⟨some 13, none, .p (.mv (.t 12))⟩, ⟨some 14, some (13, false), .p (.fadr 4 (.t 1))⟩, ⟨some 15, some (13, false), .r (.ld none (.t 14))⟩, ⟨some 16, some (13, false), .p (.bin .lss 3 false true (.t 15) (.c (.int .i64 0)))⟩, ⟨some 17, none, .p (.pick (.t 13) (.c (.bool true)) (.t 16))⟩]
@[go_sem] def c7_s2 : List SQ := [⟨some 2, none, .p (.mv (.c (.str ⟨#[]⟩)))⟩, ⟨some 3, none, .p (.mv (.c (.int .i64 2)))⟩]
@[go_sem] def c7_s3 : List SQ := [⟨some 4, none, .p (.mv (.c (.str ⟨#[111, 107]⟩)))⟩]
@[go_sem] def c7_s4 : List SQ := [⟨some 18, none, .p (.fadr 0 (.t 1))⟩, ⟨some 19, none, .r (.ld none (.t 18))⟩, ⟨some 20, none, .p (.bin .neq 25 false true (.t 19) (.c (.int .i64 0)))⟩]
@[go_sem] def c7_s5 : List SQ := [⟨some 21, none, .p (.fadr 0 (.t 1))⟩, ⟨some 22, none, .r (.ld none (.t 21))⟩, ⟨some 23, none, .p (.conv .u64 (.t 22))⟩, ⟨some 24, none, .n (.buildS 22 1 1 [.int .u64 0] [(0, 1, (.t 23))])⟩, ⟨some 25, none, .cv (.c (.fn (.func 14) [] [])) [(.c (.str ⟨#[101, 114, 114, 111, 114]⟩)), (.t 24)]⟩, ⟨some 4, none, .p (.mv (.t 25))⟩]
@[go_sem] def c7_s6 : List SQ := [⟨some 26, none, .p (.fadr 1 (.t 1))⟩, ⟨some 27, none, .r (.ld none (.t 26))⟩]
@[go_sem] def c7_s7 : List SQ := [⟨some 28, none, .p (.mv (.t 4))⟩, ⟨some 29, none, .p (.bin .add 9 false true (.t 28) (.c (.str ⟨#[32, 102, 111, 117, 110, 100]⟩)))⟩, ⟨some 4, none, .p (.mv (.t 29))⟩]
@[go_sem] def c7_s8 : List SQ := [⟨some 30, none, .p (.fadr 2 (.t 1))⟩, ⟨some 31, none, .r (.ld none (.t 30))⟩, ⟨some 32, none, .p (.bin .neq 22 false true (.t 31) (.c (.int .u64 0)))⟩]
@[go_sem] def c7_s9 : List SQ := [⟨some 33, none, .p (.mv (.t 4))⟩, ⟨some 34, none, .p (.bin .add 9 false true (.t 33) (.c (.str ⟨#[32, 107, 101, 121]⟩)))⟩, ⟨some 35, none, .p (.fadr 2 (.t 1))⟩, ⟨some 36, none, .r (.ld none (.t 35))⟩, ⟨some 37, none, .n (.buildS 22 1 1 [.int .u64 0] [(0, 1, (.t 36))])⟩, ⟨some 38, none, .cv (.c (.fn (.func 14) [] [])) [(.t 34), (.t 37)]⟩, ⟨some 4, none, .p (.mv (.t 38))⟩]
@[go_sem] def c7_s10 : List SQ := [⟨some 39, none, .p (.fadr 3 (.t 1))⟩, ⟨some 40, none, .r (.ld none (.t 39))⟩, ⟨some 41, none, .p (.bin .neq 22 false true (.t 40) (.c (.int .u64 0)))⟩]
@[go_sem] def c7_s11 : List SQ := [⟨some 42, none, .p (.mv (.t 4))⟩, ⟨some 43, none, .p (.bin .add 9 false true (.t 42) (.c (.str ⟨#[32, 118, 97, 108, 117, 101]⟩)))⟩, ⟨some 44, none, .p (.fadr 3 (.t 1))⟩, ⟨some 45, none, .r (.ld none (.t 44))⟩, ⟨some 46, none, .n (.buildS 22 1 1 [.int .u64 0] [(0, 1, (.t 45))])⟩, ⟨some 47, none, .cv (.c (.fn (.func 14) [] [])) [(.t 43), (.t 46)]⟩, ⟨some 4, none, .p (.mv (.t 47))⟩]
@[go_sem] def c7_s12 : List SQ := [⟨some 48, none, .p (.fadr 4 (.t 1))⟩, ⟨some 49, none, .r (.ld none (.t 48))⟩, ⟨some 50, none, .p (.bin .neq 3 false true (.t 49) (.c (.int .i64 0)))⟩]
@[go_sem] def c7_s13 : List SQ := [⟨some 51, none, .p (.mv (.t 4))⟩, ⟨some 52, none, .p (.bin .add 9 false true (.t 51) (.c (.str ⟨#[32, 99, 111, 117, 110, 116]⟩)))⟩, ⟨some 53, none, .p (.fadr 4 (.t 1))⟩, ⟨some 54, none, .r (.ld none (.t 53))⟩, ⟨some 55, none, .p (.conv .u64 (.t 54))⟩, ⟨some 56, none, .n (.buildS 22 1 1 [.int .u64 0] [(0, 1, (.t 55))])⟩, ⟨some 57, none, .cv (.c (.fn (.func 14) [] [])) [(.t 52), (.t 56)]⟩, ⟨some 4, none, .p (.mv (.t 57))⟩]
@[go_sem] def c7_s14 : List SQ := [⟨some 58, none, .p (.mv (.t 4))⟩, ⟨some 2, none, .p (.mv (.t 58))⟩, ⟨some 3, none, .p (.mv (.c (.int .i64 0)))⟩]
@[go_sem] def c7 : CF := ⟨1, (.seq (.ops c7_s0) (.seq (.seq (.ops c7_s1) (.cond (.t 17) (.seq (.ops c7_s2) .ret) .skip)) (.seq (.ops c7_s3) (.seq (.seq (.ops c7_s4) (.cond (.t 20) (.ops c7_s5) .skip)) (.seq (.seq (.ops c7_s6) (.cond (.t 27) (.ops c7_s7) .skip)) (.seq (.seq (.ops c7_s8) (.cond (.t 32) (.ops c7_s9) .skip)) (.seq (.seq (.ops c7_s10) (.cond (.t 41) (.ops c7_s11) .skip)) (.seq (.seq (.ops c7_s12) (.cond (.t 50) (.ops c7_s13) .skip)) (.seq (.ops c7_s14) .ret))))))))), [.tmp 2, .tmp 3]⟩
theorem c7_eq : cCF Tryd.prog 7 1 = some c7 := by kernel_rfl
/-! 10: leapfrog/leapfrogref44.Result -/
@[go_sem] def c10_s0 : List SQ := [⟨some 1, none, .n (.box 27 (.t 0))⟩, ⟨some 2, none, .p (.mv (.c (.str ⟨#[]⟩)))⟩, ⟨some 3, none, .p (.mv (.c (.int .i64 0)))⟩]
@[go_sem] def c10_s1 : List SQ := [⟨some 5, none, .p (.fadr 0 (.t 1))⟩, ⟨some 6, none, .r (.ld none (.t 5))⟩, ⟨some 7, none, .p (.bin .lss 25 false true (.t 6) (.c (.int .i64 0)))⟩, ⟨some 8, none, .p (.mv (.t 7))⟩, ⟨some 9, some (8, false), .p (.fadr 0 (.t 1))⟩, ⟨some 10, some (8, false), .r (.ld none (.t 9))⟩, ⟨some 11, some (8, false), .p (.bin .gtr 25 false true (.t 10) (.c (.int .i64 23)))⟩, ⟨some 12, none, .p (.pick (.t 8) (.c (.bool true)) (.t 11))⟩, ⟨some 13, none, .p (.mv (.t 12))⟩, ⟨some 14, some (13, false), .p (.fadr 4 (.t 1))⟩, ⟨some 15, some (13, false), .r (.ld none (.t 14))⟩, ⟨some 16, some (13, false), .p (.bin .lss 3 false true (.t 15) (.c (.int .i64 0)))⟩, ⟨some 17, none, .p (.pick (.t 13) (.c (.bool true)) (.t 16))⟩]
@[go_sem] def c10_s2 : List SQ := [⟨some 2, none, .p (.mv (.c (.str ⟨#[]⟩)))⟩, ⟨some 3, none, .p (.mv (.c (.int .i64 2)))⟩]
@[go_sem] def c10_s3 : List SQ := [⟨some 4, none, .p (.mv (.c (.str ⟨#[111, 107]⟩)))⟩]
@[go_sem] def c10_s4 : List SQ := [⟨some 18, none, .p (.fadr 0 (.t 1))⟩, ⟨some 19, none, .r (.ld none (.t 18))⟩, ⟨some 20, none, .p (.bin .neq 25 false true (.t 19) (.c (.int .i64 0)))⟩]
@[go_sem] def c10_s5 : List SQ := [⟨some 21, none, .p (.fadr 0 (.t 1))⟩, ⟨some 22, none, .r (.ld none (.t 21))⟩, ⟨some 23, none, .p (.conv .u64 (.t 22))⟩, ⟨some 24, none, .cv (.c (.fn (.func 20) [] [])) [(.t 23)]⟩, ⟨some 25, none, .p (.bin .add 9 true false (.c (.str ⟨#[101, 114, 114, 111, 114, 32]⟩)) (.t 24))⟩, ⟨some 4, none, .p (.mv (.t 25))⟩]
@[go_sem] def c10_s6 : List SQ := [⟨some 26, none, .p (.fadr 1 (.t 1))⟩, ⟨some 27, none, .r (.ld none (.t 26))⟩]
@[go_sem] def c10_s7 : List SQ := [⟨some 28, none, .p (.mv (.t 4))⟩, ⟨some 29, none, .p (.bin .add 9 false true (.t 28) (.c (.str ⟨#[32, 102, 111, 117, 110, 100]⟩)))⟩, ⟨some 4, none, .p (.mv (.t 29))⟩]
@[go_sem] def c10_s8 : List SQ := [⟨some 30, none, .p (.fadr 2 (.t 1))⟩, ⟨some 31, none, .r (.ld none (.t 30))⟩, ⟨some 32, none, .p (.bin .neq 22 false true (.t 31) (.c (.int .u64 0)))⟩]
@[go_sem] def c10_s9 : List SQ := [⟨some 33, none, .p (.mv (.t 4))⟩, ⟨some 34, none, .p (.bin .add 9 false true (.t 33) (.c (.str ⟨#[32, 107, 101, 121, 32]⟩)))⟩, ⟨some 35, none, .p (.fadr 2 (.t 1))⟩, ⟨some 36, none, .r (.ld none (.t 35))⟩, ⟨some 37, none, .cv (.c (.fn (.func 20) [] [])) [(.t 36)]⟩, ⟨some 38, none, .p (.bin .add 9 false false (.t 34) (.t 37))⟩, ⟨some 4, none, .p (.mv (.t 38))⟩]
@[go_sem] def c10_s10 : List SQ := [⟨some 39, none, .p (.fadr 3 (.t 1))⟩, ⟨some 40, none, .r (.ld none (.t 39))⟩, ⟨some 41, none, .p (.bin .neq 22 false true (.t 40) (.c (.int .u64 0)))⟩]
@[go_sem] def c10_s11 : List SQ := [⟨some 42, none, .p (.mv (.t 4))⟩, ⟨some 43, none, .p (.bin .add 9 false true (.t 42) (.c (.str ⟨#[32, 118, 97, 108, 117, 101, 32]⟩)))⟩, ⟨some 44, none, .p (.fadr 3 (.t 1))⟩, ⟨some 45, none, .r (.ld none (.t 44))⟩, ⟨some 46, none, .cv (.c (.fn (.func 20) [] [])) [(.t 45)]⟩, ⟨some 47, none, .p (.bin .add 9 false false (.t 43) (.t 46))⟩, ⟨some 4, none, .p (.mv (.t 47))⟩]
@[go_sem] def c10_s12 : List SQ := [⟨some 48, none, .p (.fadr 4 (.t 1))⟩, ⟨some 49, none, .r (.ld none (.t 48))⟩, ⟨some 50, none, .p (.bin .neq 3 false true (.t 49) (.c (.int .i64 0)))⟩]
@[go_sem] def c10_s13 : List SQ := [⟨some 51, none, .p (.mv (.t 4))⟩, ⟨some 52, none, .p (.bin .add 9 false true (.t 51) (.c (.str ⟨#[32, 99, 111, 117, 110, 116, 32]⟩)))⟩, ⟨some 53, none, .p (.fadr 4 (.t 1))⟩, ⟨some 54, none, .r (.ld none (.t 53))⟩, ⟨some 55, none, .p (.conv .u64 (.t 54))⟩, ⟨some 56, none, .cv (.c (.fn (.func 20) [] [])) [(.t 55)]⟩, ⟨some 57, none, .p (.bin .add 9 false false (.t 52) (.t 56))⟩, ⟨some 4, none, .p (.mv (.t 57))⟩]
@[go_sem] def c10_s14 : List SQ := [⟨some 58, none, .p (.mv (.t 4))⟩, ⟨some 2, none, .p (.mv (.t 58))⟩, ⟨some 3, none, .p (.mv (.c (.int .i64 0)))⟩]
@[go_sem] def c10 : CF := ⟨1, (.seq (.ops c10_s0) (.seq (.seq (.ops c10_s1) (.cond (.t 17) (.seq (.ops c10_s2) .ret) .skip)) (.seq (.ops c10_s3) (.seq (.seq (.ops c10_s4) (.cond (.t 20) (.ops c10_s5) .skip)) (.seq (.seq (.ops c10_s6) (.cond (.t 27) (.ops c10_s7) .skip)) (.seq (.seq (.ops c10_s8) (.cond (.t 32) (.ops c10_s9) .skip)) (.seq (.seq (.ops c10_s10) (.cond (.t 41) (.ops c10_s11) .skip)) (.seq (.seq (.ops c10_s12) (.cond (.t 50) (.ops c10_s13) .skip)) (.seq (.ops c10_s14) .ret))))))))), [.tmp 2, .tmp 3]⟩
theorem c10_eq : cCF Tryd.prog 10 1 = some c10 := by kernel_rfl

structure ResT where
  err : Int
  found : Bool
  key : Int
  val : Int
  cnt : Int
def resC (r : ResT) : List AV := [.int .i64 r.err, .bool r.found, .int .u64 r.key, .int .u64 r.val, .int .i64 r.cnt]
structure ResR (r : ResT) : Prop where
  e : -9223372036854775808 ≤ r.err ∧ r.err ≤ 9223372036854775807
  k : inU r.key
  v : inU r.val
  c : -9223372036854775808 ≤ r.cnt ∧ r.cnt ≤ 9223372036854775807
def num (z : Int) : List UInt8 := 32 :: decDigits z.toNat
def r0B (r : ResT) : List UInt8 := if r.err = 0 then [111, 107] else [101, 114, 114, 111, 114] ++ num r.err
def r1B (r : ResT) (s : List UInt8) : List UInt8 := if r.found then s ++ [32, 102, 111, 117, 110, 100] else s
def r2B (r : ResT) (s : List UInt8) : List UInt8 := if r.key = 0 then s else s ++ [32, 107, 101, 121] ++ num r.key
def r3B (r : ResT) (s : List UInt8) : List UInt8 := if r.val = 0 then s else s ++ [32, 118, 97, 108, 117, 101] ++ num r.val
def r4B (r : ResT) (s : List UInt8) : List UInt8 := if r.cnt = 0 then s else s ++ [32, 99, 111, 117, 110, 116] ++ num r.cnt
theorem joinL_num (w : List UInt8) (z : Int) : joinL w [z] = w ++ num z := by unfold joinL num; simp
theorem num_len {z : Int} (h : inU z) : (num z).length ≤ 21 := by
  have := decDigits_le (u := z.toNat) (by have := h.2; omega)
  unfold num
  rw [List.length_cons]
  omega
theorem st7_key (P : Program) {call : CallE} (h14 : ∀ h w v (l : List Int), TabH h → Own 1 22 h v l.length (l.map (AV.int .u64)) → (∀ x ∈ l, inU x) → w.length ≤ 1000000 → l.length ≤ 1000000 → call 14 [.str (strB w), v] h = some (.str (strB (joinL w l)), h)) {h : H} {tm : T AV} {A : Nat} {r : ResT} {s : List UInt8} {X : CC} {Q : Cont} (hT : TabH h) (hp : 0 < h.next) (hr : ResR r) (hA : A < h.next) (gA : h.t.get A = some (.row (putList 0 (resC r) T.e) 5 27)) (t1 : tm.get 1 = some (.ptr A 0)) (t4 : tm.get 4 = some (.str (strB s))) (hs : s.length ≤ 1000)
    (hX : ∀ tm' h', StepN h h' → tm'.get 1 = some (.ptr A 0) → tm'.get 4 = some (.str (strB (r2B r s))) → WC P call X Q tm' h') : WC P call (.seq (.seq (.ops c7_s8) (.cond (.t 32) (.ops c7_s9) .skip)) X) Q tm h := by
  unfold r2B at hX
  unfold resC at gA
  by_cases hz : r.key = 0
  · rw [if_pos hz] at hX
    simp only [go_sem, ↓reduceIte, ↓reduceDIte, zA, zM, zL, zE, zD, yA, yE, yL, yQ, yT, reduceCtorEq, t1, gA, hz]
    exact hX _ _ (StepN.refl h) (by simp [go_sem, t1]) (by simp [go_sem, t4])
  · rw [if_neg hz] at hX
    have hu : inU r.key := hr.k
    have cw : (⟨#[32, 107, 101, 121]⟩ : ByteArray) = strB [32, 107, 101, 121] := rfl
    have sz : s.length + 4 ≤ 9223372036854775807 := by omega
    have st := StepN.new h (.row (putList 0 [AV.int .u64 r.key] T.e) 1 22)
    simp only [go_sem, ↓reduceIte, ↓reduceDIte, zA, zM, zL, zE, zD, yA, yE, yL, yQ, yT, reduceCtorEq, t1, t4, gA, hz, cw, strB_size, strB_app, sz]
    refine opt_some (h14 _ (s ++ [32, 107, 101, 121]) _ [r.key] (st.tab hT hp) (.sl _ _ _ _ (.inr rfl) (by decide) rfl (Nat.lt_succ_self _) (by simp only [go_sem, ↓reduceIte, ↓reduceDIte, zA, zM, zL, zE, zD, yA, yE, yL, yQ, yT, reduceCtorEq]; rfl)) (fun y hy => by rw [List.mem_singleton.1 hy]; exact hu) (by rw [List.length_append]; show _ + 4 ≤ _; omega) (by show 1 ≤ 1000000; decide)) ?_
    simp only [go_sem, ↓reduceIte, ↓reduceDIte, zA, zM, zL, zE, zD, yA, yE, yL, yQ, yT, reduceCtorEq]
    exact hX _ _ st (by simp [go_sem, t1]) (by simp [go_sem, joinL_num])
theorem st10_key (P : Program) {call : CallE} (h20 : ∀ h (u : Nat), u < 18446744073709551616 → ∃ v h', call 20 [.int .u64 (u : Int)] h = some (v, h') ∧ (v = .str (strB (decDigits u)) ∧ StepN h h')) {h : H} {tm : T AV} {A : Nat} {r : ResT} {s : List UInt8} {X : CC} {Q : Cont} (hr : ResR r) (hA : A < h.next) (gA : h.t.get A = some (.row (putList 0 (resC r) T.e) 5 27)) (t1 : tm.get 1 = some (.ptr A 0)) (t4 : tm.get 4 = some (.str (strB s))) (hs : s.length ≤ 1000)
    (hX : ∀ tm' h', StepN h h' → tm'.get 1 = some (.ptr A 0) → tm'.get 4 = some (.str (strB (r2B r s))) → WC P call X Q tm' h') : WC P call (.seq (.seq (.ops c10_s8) (.cond (.t 32) (.ops c10_s9) .skip)) X) Q tm h := by
  unfold r2B at hX
  unfold resC at gA
  by_cases hz : r.key = 0
  · rw [if_pos hz] at hX
    simp only [go_sem, ↓reduceIte, ↓reduceDIte, zA, zM, zL, zE, zD, yA, yE, yL, yQ, yT, reduceCtorEq, t1, gA, hz]
    exact hX _ _ (StepN.refl h) (by simp [go_sem, t1]) (by simp [go_sem, t4])
  · rw [if_neg hz] at hX
    have hu : inU r.key := hr.k
    obtain ⟨u, hu2⟩ : ∃ u : Nat, r.key = u := ⟨r.key.toNat, by have := hu.1; omega⟩
    have hu3 : u < 18446744073709551616 := by have := hu.2; omega
    have hd := decDigits_le hu3
    have hz2 : ¬ (u : Int) = 0 := by rw [← hu2]; exact hz
    have cw : (⟨#[32, 107, 101, 121, 32]⟩ : ByteArray) = strB [32, 107, 101, 121, 32] := rfl
    have sz : s.length + 5 ≤ 9223372036854775807 := by omega
    have sz2 : s.length + (5 + (decDigits u).length) ≤ 9223372036854775807 := by omega
    have en : num r.key = 32 :: decDigits u := by unfold num; rw [hu2]; rfl
    simp only [go_sem, ↓reduceIte, ↓reduceDIte, zA, zM, zL, zE, zD, yA, yE, yL, yQ, yT, reduceCtorEq, t1, t4, gA, hz, cw, strB_size, strB_app, sz, hu2, hz2]
    refine opt_by (h20 _ u hu3) fun v h1 p1 => ?_
    obtain ⟨rfl, st⟩ := p1
    simp only [go_sem, ↓reduceIte, ↓reduceDIte, zA, zM, zL, zE, zD, yA, yE, yL, yQ, yT, reduceCtorEq, strB_size, strB_app, sz2]
    refine hX _ _ st (by simp [go_sem, t1]) ?_
    simp only [go_sem, ↓reduceIte, ↓reduceDIte, zA, zM, zL, zE, zD, yA, yE, yL, yQ, yT, reduceCtorEq, en, List.append_assoc]
theorem st7_val (P : Program) {call : CallE} (h14 : ∀ h w v (l : List Int), TabH h → Own 1 22 h v l.length (l.map (AV.int .u64)) → (∀ x ∈ l, inU x) → w.length ≤ 1000000 → l.length ≤ 1000000 → call 14 [.str (strB w), v] h = some (.str (strB (joinL w l)), h)) {h : H} {tm : T AV} {A : Nat} {r : ResT} {s : List UInt8} {X : CC} {Q : Cont} (hT : TabH h) (hp : 0 < h.next) (hr : ResR r) (hA : A < h.next) (gA : h.t.get A = some (.row (putList 0 (resC r) T.e) 5 27)) (t1 : tm.get 1 = some (.ptr A 0)) (t4 : tm.get 4 = some (.str (strB s))) (hs : s.length ≤ 1000)
    (hX : ∀ tm' h', StepN h h' → tm'.get 1 = some (.ptr A 0) → tm'.get 4 = some (.str (strB (r3B r s))) → WC P call X Q tm' h') : WC P call (.seq (.seq (.ops c7_s10) (.cond (.t 41) (.ops c7_s11) .skip)) X) Q tm h := by
  unfold r3B at hX
  unfold resC at gA
  by_cases hz : r.val = 0
  · rw [if_pos hz] at hX
    simp only [go_sem, ↓reduceIte, ↓reduceDIte, zA, zM, zL, zE, zD, yA, yE, yL, yQ, yT, reduceCtorEq, t1, gA, hz]
    exact hX _ _ (StepN.refl h) (by simp [go_sem, t1]) (by simp [go_sem, t4])
  · rw [if_neg hz] at hX
    have hu : inU r.val := hr.v
    have cw : (⟨#[32, 118, 97, 108, 117, 101]⟩ : ByteArray) = strB [32, 118, 97, 108, 117, 101] := rfl
    have sz : s.length + 6 ≤ 9223372036854775807 := by omega
    have st := StepN.new h (.row (putList 0 [AV.int .u64 r.val] T.e) 1 22)
    simp only [go_sem, ↓reduceIte, ↓reduceDIte, zA, zM, zL, zE, zD, yA, yE, yL, yQ, yT, reduceCtorEq, t1, t4, gA, hz, cw, strB_size, strB_app, sz]
    refine opt_some (h14 _ (s ++ [32, 118, 97, 108, 117, 101]) _ [r.val] (st.tab hT hp) (.sl _ _ _ _ (.inr rfl) (by decide) rfl (Nat.lt_succ_self _) (by simp only [go_sem, ↓reduceIte, ↓reduceDIte, zA, zM, zL, zE, zD, yA, yE, yL, yQ, yT, reduceCtorEq]; rfl)) (fun y hy => by rw [List.mem_singleton.1 hy]; exact hu) (by rw [List.length_append]; show _ + 6 ≤ _; omega) (by show 1 ≤ 1000000; decide)) ?_
    simp only [go_sem, ↓reduceIte, ↓reduceDIte, zA, zM, zL, zE, zD, yA, yE, yL, yQ, yT, reduceCtorEq]
    exact hX _ _ st (by simp [go_sem, t1]) (by simp [go_sem, joinL_num])
theorem st10_val (P : Program) {call : CallE} (h20 : ∀ h (u : Nat), u < 18446744073709551616 → ∃ v h', call 20 [.int .u64 (u : Int)] h = some (v, h') ∧ (v = .str (strB (decDigits u)) ∧ StepN h h')) {h : H} {tm : T AV} {A : Nat} {r : ResT} {s : List UInt8} {X : CC} {Q : Cont} (hr : ResR r) (hA : A < h.next) (gA : h.t.get A = some (.row (putList 0 (resC r) T.e) 5 27)) (t1 : tm.get 1 = some (.ptr A 0)) (t4 : tm.get 4 = some (.str (strB s))) (hs : s.length ≤ 1000)
    (hX : ∀ tm' h', StepN h h' → tm'.get 1 = some (.ptr A 0) → tm'.get 4 = some (.str (strB (r3B r s))) → WC P call X Q tm' h') : WC P call (.seq (.seq (.ops c10_s10) (.cond (.t 41) (.ops c10_s11) .skip)) X) Q tm h := by
  unfold r3B at hX
  unfold resC at gA
  by_cases hz : r.val = 0
  · rw [if_pos hz] at hX
    simp only [go_sem, ↓reduceIte, ↓reduceDIte, zA, zM, zL, zE, zD, yA, yE, yL, yQ, yT, reduceCtorEq, t1, gA, hz]
    exact hX _ _ (StepN.refl h) (by simp [go_sem, t1]) (by simp [go_sem, t4])
  · rw [if_neg hz] at hX
    have hu : inU r.val := hr.v
    obtain ⟨u, hu2⟩ : ∃ u : Nat, r.val = u := ⟨r.val.toNat, by have := hu.1; omega⟩
    have hu3 : u < 18446744073709551616 := by have := hu.2; omega
    have hd := decDigits_le hu3
    have hz2 : ¬ (u : Int) = 0 := by rw [← hu2]; exact hz
    have cw : (⟨#[32, 118, 97, 108, 117, 101, 32]⟩ : ByteArray) = strB [32, 118, 97, 108, 117, 101, 32] := rfl
    have sz : s.length + 7 ≤ 9223372036854775807 := by omega
    have sz2 : s.length + (7 + (decDigits u).length) ≤ 9223372036854775807 := by omega
    have en : num r.val = 32 :: decDigits u := by unfold num; rw [hu2]; rfl
    simp only [go_sem, ↓reduceIte, ↓reduceDIte, zA, zM, zL, zE, zD, yA, yE, yL, yQ, yT, reduceCtorEq, t1, t4, gA, hz, cw, strB_size, strB_app, sz, hu2, hz2]
    refine opt_by (h20 _ u hu3) fun v h1 p1 => ?_
    obtain ⟨rfl, st⟩ := p1
    simp only [go_sem, ↓reduceIte, ↓reduceDIte, zA, zM, zL, zE, zD, yA, yE, yL, yQ, yT, reduceCtorEq, strB_size, strB_app, sz2]
    refine hX _ _ st (by simp [go_sem, t1]) ?_
    simp only [go_sem, ↓reduceIte, ↓reduceDIte, zA, zM, zL, zE, zD, yA, yE, yL, yQ, yT, reduceCtorEq, en, List.append_assoc]
theorem st7_cnt (P : Program) {call : CallE} (h14 : ∀ h w v (l : List Int), TabH h → Own 1 22 h v l.length (l.map (AV.int .u64)) → (∀ x ∈ l, inU x) → w.length ≤ 1000000 → l.length ≤ 1000000 → call 14 [.str (strB w), v] h = some (.str (strB (joinL w l)), h)) {h : H} {tm : T AV} {A : Nat} {r : ResT} {s : List UInt8} {X : CC} {Q : Cont} (hT : TabH h) (hp : 0 < h.next) (hr : ResR r) (hc0 : 0 ≤ r.cnt) (hA : A < h.next) (gA : h.t.get A = some (.row (putList 0 (resC r) T.e) 5 27)) (t1 : tm.get 1 = some (.ptr A 0)) (t4 : tm.get 4 = some (.str (strB s))) (hs : s.length ≤ 1000)
    (hX : ∀ tm' h', StepN h h' → tm'.get 1 = some (.ptr A 0) → tm'.get 4 = some (.str (strB (r4B r s))) → WC P call X Q tm' h') : WC P call (.seq (.seq (.ops c7_s12) (.cond (.t 50) (.ops c7_s13) .skip)) X) Q tm h := by
  unfold r4B at hX
  unfold resC at gA
  by_cases hz : r.cnt = 0
  · rw [if_pos hz] at hX
    simp only [go_sem, ↓reduceIte, ↓reduceDIte, zA, zM, zL, zE, zD, yA, yE, yL, yQ, yT, reduceCtorEq, t1, gA, hz]
    exact hX _ _ (StepN.refl h) (by simp [go_sem, t1]) (by simp [go_sem, t4])
  · rw [if_neg hz] at hX
    have hu : inU r.cnt := (⟨hc0, by have := hr.c.2; omega⟩ : inU r.cnt)
    have f0 : fw .u64 r.cnt = r.cnt := fwU hc0 (by have := hr.c.2; omega)
    have cw : (⟨#[32, 99, 111, 117, 110, 116]⟩ : ByteArray) = strB [32, 99, 111, 117, 110, 116] := rfl
    have sz : s.length + 6 ≤ 9223372036854775807 := by omega
    have st := StepN.new h (.row (putList 0 [AV.int .u64 r.cnt] T.e) 1 22)
    simp only [go_sem, ↓reduceIte, ↓reduceDIte, zA, zM, zL, zE, zD, yA, yE, yL, yQ, yT, reduceCtorEq, t1, t4, gA, hz, cw, strB_size, strB_app, sz, f0]
    refine opt_some (h14 _ (s ++ [32, 99, 111, 117, 110, 116]) _ [r.cnt] (st.tab hT hp) (.sl _ _ _ _ (.inr rfl) (by decide) rfl (Nat.lt_succ_self _) (by simp only [go_sem, ↓reduceIte, ↓reduceDIte, zA, zM, zL, zE, zD, yA, yE, yL, yQ, yT, reduceCtorEq]; rfl)) (fun y hy => by rw [List.mem_singleton.1 hy]; exact hu) (by rw [List.length_append]; show _ + 6 ≤ _; omega) (by show 1 ≤ 1000000; decide)) ?_
    simp only [go_sem, ↓reduceIte, ↓reduceDIte, zA, zM, zL, zE, zD, yA, yE, yL, yQ, yT, reduceCtorEq]
    exact hX _ _ st (by simp [go_sem, t1]) (by simp [go_sem, joinL_num])
theorem st10_cnt (P : Program) {call : CallE} (h20 : ∀ h (u : Nat), u < 18446744073709551616 → ∃ v h', call 20 [.int .u64 (u : Int)] h = some (v, h') ∧ (v = .str (strB (decDigits u)) ∧ StepN h h')) {h : H} {tm : T AV} {A : Nat} {r : ResT} {s : List UInt8} {X : CC} {Q : Cont} (hr : ResR r) (hc0 : 0 ≤ r.cnt) (hA : A < h.next) (gA : h.t.get A = some (.row (putList 0 (resC r) T.e) 5 27)) (t1 : tm.get 1 = some (.ptr A 0)) (t4 : tm.get 4 = some (.str (strB s))) (hs : s.length ≤ 1000)
    (hX : ∀ tm' h', StepN h h' → tm'.get 1 = some (.ptr A 0) → tm'.get 4 = some (.str (strB (r4B r s))) → WC P call X Q tm' h') : WC P call (.seq (.seq (.ops c10_s12) (.cond (.t 50) (.ops c10_s13) .skip)) X) Q tm h := by
  unfold r4B at hX
  unfold resC at gA
  by_cases hz : r.cnt = 0
  · rw [if_pos hz] at hX
    simp only [go_sem, ↓reduceIte, ↓reduceDIte, zA, zM, zL, zE, zD, yA, yE, yL, yQ, yT, reduceCtorEq, t1, gA, hz]
    exact hX _ _ (StepN.refl h) (by simp [go_sem, t1]) (by simp [go_sem, t4])
  · rw [if_neg hz] at hX
    have hu : inU r.cnt := (⟨hc0, by have := hr.c.2; omega⟩ : inU r.cnt)
    obtain ⟨u, hu2⟩ : ∃ u : Nat, r.cnt = u := ⟨r.cnt.toNat, by have := hu.1; omega⟩
    have hu3 : u < 18446744073709551616 := by have := hu.2; omega
    have hd := decDigits_le hu3
    have hz2 : ¬ (u : Int) = 0 := by rw [← hu2]; exact hz
    have f0 : fw .u64 r.cnt = r.cnt := fwU hc0 (by have := hr.c.2; omega)
    have cw : (⟨#[32, 99, 111, 117, 110, 116, 32]⟩ : ByteArray) = strB [32, 99, 111, 117, 110, 116, 32] := rfl
    have sz : s.length + 7 ≤ 9223372036854775807 := by omega
    have sz2 : s.length + (7 + (decDigits u).length) ≤ 9223372036854775807 := by omega
    have en : num r.cnt = 32 :: decDigits u := by unfold num; rw [hu2]; rfl
    rw [hu2] at f0
    simp only [go_sem, ↓reduceIte, ↓reduceDIte, zA, zM, zL, zE, zD, yA, yE, yL, yQ, yT, reduceCtorEq, t1, t4, gA, hz, cw, strB_size, strB_app, sz, hu2, hz2, f0]
    refine opt_by (h20 _ u hu3) fun v h1 p1 => ?_
    obtain ⟨rfl, st⟩ := p1
    simp only [go_sem, ↓reduceIte, ↓reduceDIte, zA, zM, zL, zE, zD, yA, yE, yL, yQ, yT, reduceCtorEq, strB_size, strB_app, sz2]
    refine hX _ _ st (by simp [go_sem, t1]) ?_
    simp only [go_sem, ↓reduceIte, ↓reduceDIte, zA, zM, zL, zE, zD, yA, yE, yL, yQ, yT, reduceCtorEq, en, List.append_assoc]
theorem st7_found (P : Program) {call : CallE} {h : H} {tm : T AV} {A : Nat} {r : ResT} {s : List UInt8} {X : CC} {Q : Cont} (gA : h.t.get A = some (.row (putList 0 (resC r) T.e) 5 27)) (t1 : tm.get 1 = some (.ptr A 0)) (t4 : tm.get 4 = some (.str (strB s))) (hs : s.length ≤ 1000)
    (hX : ∀ tm' h', StepN h h' → tm'.get 1 = some (.ptr A 0) → tm'.get 4 = some (.str (strB (r1B r s))) → WC P call X Q tm' h') : WC P call (.seq (.seq (.ops c7_s6) (.cond (.t 27) (.ops c7_s7) .skip)) X) Q tm h := by
  unfold r1B at hX
  unfold resC at gA
  cases hf : r.found with
  | false =>
    rw [hf] at hX gA
    simp only [go_sem, ↓reduceIte, ↓reduceDIte, zA, zM, zL, zE, zD, yA, yE, yL, yQ, yT, reduceCtorEq, t1, gA]
    exact hX _ _ (StepN.refl h) (by simp [go_sem, t1]) (by simp [go_sem, t4])
  | true =>
    rw [hf] at hX gA
    have cw : (⟨#[32, 102, 111, 117, 110, 100]⟩ : ByteArray) = strB [32, 102, 111, 117, 110, 100] := rfl
    have sz : s.length + 6 ≤ 9223372036854775807 := by omega
    simp only [go_sem, ↓reduceIte, ↓reduceDIte, zA, zM, zL, zE, zD, yA, yE, yL, yQ, yT, reduceCtorEq, t1, t4, gA, cw, strB_size, strB_app, sz]
    exact hX _ _ (StepN.refl h) (by simp [go_sem, t1]) (by simp [go_sem])
theorem st10_found (P : Program) {call : CallE} {h : H} {tm : T AV} {A : Nat} {r : ResT} {s : List UInt8} {X : CC} {Q : Cont} (gA : h.t.get A = some (.row (putList 0 (resC r) T.e) 5 27)) (t1 : tm.get 1 = some (.ptr A 0)) (t4 : tm.get 4 = some (.str (strB s))) (hs : s.length ≤ 1000)
    (hX : ∀ tm' h', StepN h h' → tm'.get 1 = some (.ptr A 0) → tm'.get 4 = some (.str (strB (r1B r s))) → WC P call X Q tm' h') : WC P call (.seq (.seq (.ops c10_s6) (.cond (.t 27) (.ops c10_s7) .skip)) X) Q tm h := by
  unfold r1B at hX
  unfold resC at gA
  cases hf : r.found with
  | false =>
    rw [hf] at hX gA
    simp only [go_sem, ↓reduceIte, ↓reduceDIte, zA, zM, zL, zE, zD, yA, yE, yL, yQ, yT, reduceCtorEq, t1, gA]
    exact hX _ _ (StepN.refl h) (by simp [go_sem, t1]) (by simp [go_sem, t4])
  | true =>
    rw [hf] at hX gA
    have cw : (⟨#[32, 102, 111, 117, 110, 100]⟩ : ByteArray) = strB [32, 102, 111, 117, 110, 100] := rfl
    have sz : s.length + 6 ≤ 9223372036854775807 := by omega
    simp only [go_sem, ↓reduceIte, ↓reduceDIte, zA, zM, zL, zE, zD, yA, yE, yL, yQ, yT, reduceCtorEq, t1, t4, gA, cw, strB_size, strB_app, sz]
    exact hX _ _ (StepN.refl h) (by simp [go_sem, t1]) (by simp [go_sem])
theorem st7_err (P : Program) {call : CallE} (h14 : ∀ h w v (l : List Int), TabH h → Own 1 22 h v l.length (l.map (AV.int .u64)) → (∀ x ∈ l, inU x) → w.length ≤ 1000000 → l.length ≤ 1000000 → call 14 [.str (strB w), v] h = some (.str (strB (joinL w l)), h)) {h : H} {tm : T AV} {A : Nat} {r : ResT} {X : CC} {Q : Cont} (hT : TabH h) (hp : 0 < h.next) (he : 0 ≤ r.err ∧ r.err ≤ 23) (gA : h.t.get A = some (.row (putList 0 (resC r) T.e) 5 27)) (t1 : tm.get 1 = some (.ptr A 0)) (t4 : tm.get 4 = some (.str ⟨#[111, 107]⟩))
    (hX : ∀ tm' h', StepN h h' → tm'.get 1 = some (.ptr A 0) → tm'.get 4 = some (.str (strB (r0B r))) → WC P call X Q tm' h') : WC P call (.seq (.seq (.ops c7_s4) (.cond (.t 20) (.ops c7_s5) .skip)) X) Q tm h := by
  unfold r0B at hX
  unfold resC at gA
  by_cases hz : r.err = 0
  · rw [if_pos hz] at hX
    simp only [go_sem, ↓reduceIte, ↓reduceDIte, zA, zM, zL, zE, zD, yA, yE, yL, yQ, yT, reduceCtorEq, t1, gA, hz]
    exact hX _ _ (StepN.refl h) (by simp [go_sem, t1]) (by simp only [go_sem, ↓reduceIte, ↓reduceDIte, zA, zM, zL, zE, zD, yA, yE, yL, yQ, yT, reduceCtorEq, t4]; rfl)
  · rw [if_neg hz] at hX
    have hu : inU r.err := ⟨he.1, by have := he.2; omega⟩
    have f0 : fw .u64 r.err = r.err := fwU he.1 (by have := he.2; omega)
    have cw : (⟨#[101, 114, 114, 111, 114]⟩ : ByteArray) = strB [101, 114, 114, 111, 114] := rfl
    have st := StepN.new h (.row (putList 0 [AV.int .u64 r.err] T.e) 1 22)
    simp only [go_sem, ↓reduceIte, ↓reduceDIte, zA, zM, zL, zE, zD, yA, yE, yL, yQ, yT, reduceCtorEq, t1, t4, gA, hz, f0]
    refine opt_some (h14 _ [101, 114, 114, 111, 114] _ [r.err] (st.tab hT hp) (.sl _ _ _ _ (.inr rfl) (by decide) rfl (Nat.lt_succ_self _) (by simp only [go_sem, ↓reduceIte, ↓reduceDIte, zA, zM, zL, zE, zD, yA, yE, yL, yQ, yT, reduceCtorEq]; rfl)) (fun y hy => by rw [List.mem_singleton.1 hy]; exact hu) (by decide) (by show 1 ≤ 1000000; decide)) ?_
    simp only [go_sem, ↓reduceIte, ↓reduceDIte, zA, zM, zL, zE, zD, yA, yE, yL, yQ, yT, reduceCtorEq]
    exact hX _ _ st (by simp [go_sem, t1]) (by simp [go_sem, joinL_num])
theorem st10_err (P : Program) {call : CallE} (h20 : ∀ h (u : Nat), u < 18446744073709551616 → ∃ v h', call 20 [.int .u64 (u : Int)] h = some (v, h') ∧ (v = .str (strB (decDigits u)) ∧ StepN h h')) {h : H} {tm : T AV} {A : Nat} {r : ResT} {X : CC} {Q : Cont} (he : 0 ≤ r.err ∧ r.err ≤ 23) (gA : h.t.get A = some (.row (putList 0 (resC r) T.e) 5 27)) (t1 : tm.get 1 = some (.ptr A 0)) (t4 : tm.get 4 = some (.str ⟨#[111, 107]⟩))
    (hX : ∀ tm' h', StepN h h' → tm'.get 1 = some (.ptr A 0) → tm'.get 4 = some (.str (strB (r0B r))) → WC P call X Q tm' h') : WC P call (.seq (.seq (.ops c10_s4) (.cond (.t 20) (.ops c10_s5) .skip)) X) Q tm h := by
  unfold r0B at hX
  unfold resC at gA
  by_cases hz : r.err = 0
  · rw [if_pos hz] at hX
    simp only [go_sem, ↓reduceIte, ↓reduceDIte, zA, zM, zL, zE, zD, yA, yE, yL, yQ, yT, reduceCtorEq, t1, gA, hz]
    exact hX _ _ (StepN.refl h) (by simp [go_sem, t1]) (by simp only [go_sem, ↓reduceIte, ↓reduceDIte, zA, zM, zL, zE, zD, yA, yE, yL, yQ, yT, reduceCtorEq, t4]; rfl)
  · rw [if_neg hz] at hX
    have hu : inU r.err := ⟨he.1, by have := he.2; omega⟩
    obtain ⟨u, hu2⟩ : ∃ u : Nat, r.err = u := ⟨r.err.toNat, by have := hu.1; omega⟩
    have hu3 : u < 18446744073709551616 := by have := hu.2; omega
    have hz2 : ¬ (u : Int) = 0 := by rw [← hu2]; exact hz
    have hd := decDigits_le hu3
    have f0 : fw .u64 r.err = r.err := fwU he.1 (by have := he.2; omega)
    rw [hu2] at f0
    have cw : (⟨#[101, 114, 114, 111, 114, 32]⟩ : ByteArray) = strB [101, 114, 114, 111, 114, 32] := rfl
    have sz2 : 6 + (decDigits u).length ≤ 9223372036854775807 := by omega
    have en : num r.err = 32 :: decDigits u := by unfold num; rw [hu2]; rfl
    simp only [go_sem, ↓reduceIte, ↓reduceDIte, zA, zM, zL, zE, zD, yA, yE, yL, yQ, yT, reduceCtorEq, t1, t4, gA, hu2, hz2, f0]
    refine opt_by (h20 _ u hu3) fun v h1 p1 => ?_
    obtain ⟨rfl, st⟩ := p1
    simp only [go_sem, ↓reduceIte, ↓reduceDIte, zA, zM, zL, zE, zD, yA, yE, yL, yQ, yT, reduceCtorEq, cw, strB_size, strB_app, sz2]
    refine hX _ _ st (by simp [go_sem, t1]) ?_
    simp only [go_sem, ↓reduceIte, ↓reduceDIte, zA, zM, zL, zE, zD, yA, yE, yL, yQ, yT, reduceCtorEq, en]
end
end Go.Proofs.YtiokmoepojdfmaaDoor
