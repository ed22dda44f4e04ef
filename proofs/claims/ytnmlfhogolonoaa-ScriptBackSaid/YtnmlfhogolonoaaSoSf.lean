/-
  The law ScriptBack: what it does with two scripts and a string.
-/
import Derived.Test.YtnmlfhogolonoaaSoSe
import Derived.Test.YtnmlfhogolonoaaSoSc
import Derived.Test.YtnmlfhogolonoaaSoWk
set_option linter.unusedVariables false
set_option linter.unusedSimpArgs false
namespace Go.Proofs.Ytnmlfhogolonoaa
open Go.Proofs.Ytnmlfhogolonoaa.Eo Go.RowKit Go.ChangeShapes Go.WideShapes
open Nat renaming reduceAdd → zA, reduceMul → zM, reduceLT → zL, reduceEqDiff → zE, reduceLeDiff → zD
open Int renaming reduceAdd → yA, reduceLE → yE, reduceLT → yL, reduceEq → yQ, reduceToNat → yT
noncomputable section
/-! 8: leapfrog/leapfroglaw43.ScriptBack -/
@[go_sem] def c8_s0 : List SQ := [⟨some 3, none, .n (.box 31 (.t 0))⟩, ⟨some 4, none, .n (.box 31 (.t 1))⟩, ⟨some 6, none, .p (.mv (.c (.bool false)))⟩]
@[go_sem] def c8_s1 : List SQ := [⟨some 18, none, .r (.ld (some 18) (.t 3))⟩, ⟨some 19, none, .cv (.c (.fn (.func 10) [] [])) [(.t 18)]⟩, ⟨some 20, none, .p (.mv (.t 19))⟩, ⟨some 21, some (20, false), .r (.ld (some 18) (.t 4))⟩, ⟨some 22, some (20, false), .cv (.c (.fn (.func 10) [] [])) [(.t 21)]⟩, ⟨some 23, none, .p (.pick (.t 20) (.c (.bool true)) (.t 22))⟩, ⟨some 24, none, .p (.mv (.t 23))⟩, ⟨some 25, some (24, false), .p (.mv (.t 2))⟩, ⟨some 26, some (24, false), .p (.lens (.t 25))⟩, ⟨some 27, some (24, false), .p (.bin .gtr 3 false true (.t 26) (.c (.int .i64 5000)))⟩, ⟨some 28, none, .p (.pick (.t 24) (.c (.bool true)) (.t 27))⟩]
@[go_sem] def c8_s2 : List SQ := [⟨some 29, none, .cv (.c (.fn (.func 11) [] [])) []⟩, ⟨some 6, none, .p (.mv (.t 29))⟩]
@[go_sem] def c8_s3 : List SQ := [⟨some 31, none, .r (.ld (some 18) (.t 3))⟩, ⟨some 32, none, .cv (.c (.fn (.func 13) [] [])) [(.t 31)]⟩, ⟨some 30, none, .p (.mv (.t 32))⟩, ⟨some 33, none, .p (.extr (.t 30) 0)⟩, ⟨some 34, none, .p (.extr (.t 30) 1)⟩, ⟨some 7, none, .p (.mv (.t 33))⟩, ⟨some 8, none, .p (.mv (.t 34))⟩]
@[go_sem] def c8_s4 : List SQ := [⟨some 36, none, .r (.ld (some 18) (.t 4))⟩, ⟨some 37, none, .cv (.c (.fn (.func 13) [] [])) [(.t 36)]⟩, ⟨some 35, none, .p (.mv (.t 37))⟩, ⟨some 38, none, .p (.extr (.t 35) 0)⟩, ⟨some 39, none, .p (.extr (.t 35) 1)⟩, ⟨some 9, none, .p (.mv (.t 38))⟩, ⟨some 10, none, .p (.mv (.t 39))⟩]
@[go_sem] def c8_s5 : List SQ := [⟨some 40, none, .p (.mv (.t 8))⟩, ⟨some 41, none, .p (.bin .eql 35 false true (.t 40) (.c (.int .i64 0)))⟩]
@[go_sem] def c8_s6 : List SQ := [⟨some 43, none, .p (.mv (.t 7))⟩, ⟨some 44, none, .cv (.c (.fn (.func 22) [] [])) [(.t 43)]⟩, ⟨some 42, none, .p (.mv (.t 44))⟩, ⟨some 45, none, .p (.extr (.t 42) 0)⟩, ⟨some 46, none, .p (.extr (.t 42) 1)⟩, ⟨some 11, none, .n (.new 31 [.int .i64 0, .int .i64 0, .int .u8 0, .int .i64 0, .int .u8 0, .int .i64 0, .nils, .int .i64 0, .int .i64 0, .int .i64 0, .int .i64 0, .int .i64 0, .int .i64 0, .int .i64 0, .int .i64 0, .int .i64 0, .nils, .nils])⟩, ⟨none, none, .e (.st 18 (.t 11) (.t 45))⟩, ⟨some 12, none, .p (.mv (.t 46))⟩]
@[go_sem] def c8_s7 : List SQ := [⟨some 47, none, .p (.mv (.t 12))⟩, ⟨some 48, none, .p (.bin .neq 35 false true (.t 47) (.c (.int .i64 0)))⟩, ⟨some 49, none, .p (.mv (.t 48))⟩, ⟨some 50, some (49, false), .r (.ld (some 18) (.t 11))⟩, ⟨some 51, some (49, false), .r (.ld (some 18) (.t 3))⟩, ⟨some 52, some (49, false), .cv (.c (.fn (.func 17) [] [])) [(.t 50), (.t 51)]⟩, ⟨some 53, some (49, false), .p (.un .not (.t 52))⟩, ⟨some 54, none, .p (.pick (.t 49) (.c (.bool true)) (.t 53))⟩]
@[go_sem] def c8_s8 : List SQ := [⟨some 6, none, .p (.mv (.c (.bool false)))⟩]
@[go_sem] def c8_s9 : List SQ := [⟨some 55, none, .p (.mv (.t 8))⟩, ⟨some 56, none, .p (.bin .eql 35 false true (.t 55) (.c (.int .i64 0)))⟩, ⟨some 57, none, .p (.mv (.t 56))⟩, ⟨some 58, some (57, true), .p (.mv (.t 10))⟩, ⟨some 59, some (57, true), .p (.bin .eql 35 false true (.t 58) (.c (.int .i64 0)))⟩, ⟨some 60, none, .p (.pick (.t 57) (.t 59) (.c (.bool false)))⟩]
@[go_sem] def c8_s10 : List SQ := [⟨some 61, none, .p (.mv (.t 7))⟩, ⟨some 62, none, .p (.lens (.t 61))⟩, ⟨some 63, none, .p (.mv (.t 9))⟩, ⟨some 64, none, .p (.lens (.t 63))⟩, ⟨some 65, none, .p (.mm false (.t 62) [(.t 64)])⟩, ⟨some 13, none, .p (.mv (.t 65))⟩]
@[go_sem] def c8_p11 : List (List DQ × Option DQ) := [([⟨0, [(7, none)], none, .p (.mv (.t 7))⟩, ⟨1, [(13, none)], none, .p (.mv (.t 13))⟩, ⟨2, [(66, (some 0)), (67, (some 1))], none, .s (.slc (.t 66) none (some (.t 67)))⟩, ⟨3, [(9, none)], none, .p (.mv (.t 9))⟩, ⟨4, [(13, none)], none, .p (.mv (.t 13))⟩, ⟨5, [(69, (some 3)), (70, (some 4))], none, .s (.slc (.t 69) none (some (.t 70)))⟩, ⟨6, [(68, (some 2)), (71, (some 5))], none, .p (.bin .eql 9 false false (.t 68) (.t 71))⟩, ⟨7, [(3, none)], none, .r (.ld (some 18) (.t 3))⟩, ⟨8, [(4, none)], none, .r (.ld (some 18) (.t 4))⟩], (some ⟨9, [(73, (some 7)), (74, (some 8))], none, .cv (.c (.fn (.func 17) [] [])) [(.t 73), (.t 74)]⟩)), ([⟨10, [(72, (some 6)), (75, (some 9))], none, .p (.bin .neq 4 false false (.t 72) (.t 75))⟩, ⟨11, [(76, (some 10))], none, .p (.mv (.t 76))⟩, ⟨12, [(77, (some 11)), (7, none)], some (77, false), .p (.mv (.t 7))⟩, ⟨13, [(77, (some 11)), (9, none)], some (77, false), .p (.mv (.t 9))⟩, ⟨14, [(77, (some 11)), (78, (some 12)), (79, (some 13))], some (77, false), .p (.bin .eql 9 false false (.t 78) (.t 79))⟩, ⟨15, [(77, (some 11)), (3, none)], some (77, false), .r (.ld (some 18) (.t 3))⟩, ⟨16, [(77, (some 11)), (4, none)], some (77, false), .r (.ld (some 18) (.t 4))⟩], (some ⟨17, [(77, (some 11)), (81, (some 15)), (82, (some 16))], some (77, false), .cv (.c (.fn (.func 17) [] [])) [(.t 81), (.t 82)]⟩)), ([⟨18, [(77, (some 11)), (80, (some 14)), (83, (some 17))], some (77, false), .p (.bin .neq 4 false false (.t 80) (.t 83))⟩, ⟨19, [(77, (some 11)), (84, (some 18))], none, .p (.pick (.t 77) (.c (.bool true)) (.t 84))⟩], none)]
@[go_sem] def c8_s12 : List SQ := [⟨some 6, none, .p (.mv (.c (.bool false)))⟩]
@[go_sem] def c8_s13 : List SQ := [⟨some 87, none, .p (.mv (.t 2))⟩, ⟨some 88, none, .cv (.c (.fn (.func 22) [] [])) [(.t 87)]⟩, ⟨some 86, none, .p (.mv (.t 88))⟩, ⟨some 89, none, .p (.extr (.t 86) 0)⟩, ⟨some 90, none, .p (.extr (.t 86) 1)⟩, ⟨some 14, none, .n (.new 31 [.int .i64 0, .int .i64 0, .int .u8 0, .int .i64 0, .int .u8 0, .int .i64 0, .nils, .int .i64 0, .int .i64 0, .int .i64 0, .int .i64 0, .int .i64 0, .int .i64 0, .int .i64 0, .int .i64 0, .int .i64 0, .nils, .nils])⟩, ⟨none, none, .e (.st 18 (.t 14) (.t 89))⟩, ⟨some 15, none, .p (.mv (.t 90))⟩]
@[go_sem] def c8_s14 : List SQ := [⟨some 91, none, .p (.mv (.t 15))⟩, ⟨some 92, none, .p (.bin .eql 35 false true (.t 91) (.c (.int .i64 0)))⟩]
@[go_sem] def c8_s15 : List SQ := [⟨some 94, none, .r (.ld (some 18) (.t 14))⟩, ⟨some 95, none, .cv (.c (.fn (.func 13) [] [])) [(.t 94)]⟩, ⟨some 93, none, .p (.mv (.t 95))⟩, ⟨some 96, none, .p (.extr (.t 93) 0)⟩, ⟨some 97, none, .p (.extr (.t 93) 1)⟩, ⟨some 16, none, .p (.mv (.t 96))⟩, ⟨some 17, none, .p (.mv (.t 97))⟩]
@[go_sem] def c8_s16 : List SQ := [⟨some 98, none, .p (.mv (.t 17))⟩, ⟨some 99, none, .p (.bin .neq 35 false true (.t 98) (.c (.int .i64 0)))⟩, ⟨some 100, none, .p (.mv (.t 99))⟩, ⟨some 101, some (100, false), .p (.mv (.t 16))⟩, ⟨some 102, some (100, false), .p (.mv (.t 2))⟩, ⟨some 103, some (100, false), .p (.bin .neq 9 false false (.t 101) (.t 102))⟩, ⟨some 104, none, .p (.pick (.t 100) (.c (.bool true)) (.t 103))⟩, ⟨some 105, none, .p (.mv (.t 104))⟩, ⟨some 106, some (105, false), .r (.ld (some 18) (.t 14))⟩, ⟨some 107, some (105, false), .cv (.c (.fn (.func 15) [] [])) [(.t 106)]⟩, ⟨some 108, some (105, false), .p (.bin .neq 35 false true (.t 107) (.c (.int .i64 0)))⟩, ⟨some 109, none, .p (.pick (.t 105) (.c (.bool true)) (.t 108))⟩]
@[go_sem] def c8_s17 : List SQ := [⟨some 6, none, .p (.mv (.c (.bool false)))⟩]
@[go_sem] def c8_s18 : List SQ := [⟨some 110, none, .cv (.c (.fn (.func 11) [] [])) []⟩, ⟨some 6, none, .p (.mv (.t 110))⟩]
@[go_sem] def c8 : CF := ⟨3, (.seq (.ops c8_s0) (.seq (.seq (.ops c8_s1) (.cond (.t 28) (.seq (.ops c8_s2) .ret) .skip)) (.seq (.ops c8_s3) (.seq (.ops c8_s4) (.seq (.seq (.ops c8_s5) (.cond (.t 41) (.seq (.ops c8_s6) (.seq (.ops c8_s7) (.cond (.t 54) (.seq (.ops c8_s8) .ret) .skip))) .skip)) (.seq (.seq (.ops c8_s9) (.cond (.t 60) (.seq (.ops c8_s10) (.seq (.drw ⟨c8_p11, [(0, 66), (1, 67), (2, 68), (3, 69), (4, 70), (5, 71), (6, 72), (7, 73), (8, 74), (9, 75), (10, 76), (11, 77), (12, 78), (13, 79), (14, 80), (15, 81), (16, 82), (17, 83), (18, 84), (19, 85)], [(⟨2, [(66, (some 0)), (67, (some 1))], none, .s (.slc (.t 66) none (some (.t 67)))⟩, [1]), (⟨5, [(69, (some 3)), (70, (some 4))], none, .s (.slc (.t 69) none (some (.t 70)))⟩, [1])]⟩) (.cond (.t 85) (.seq (.ops c8_s12) .ret) .skip))) .skip)) (.seq (.seq (.ops c8_s13) (.seq (.ops c8_s14) (.cond (.t 92) (.seq (.ops c8_s15) (.seq (.ops c8_s16) (.cond (.t 109) (.seq (.ops c8_s17) .ret) .skip))) .skip))) (.seq (.ops c8_s18) .ret)))))))), [.tmp 6]⟩
theorem c8_eq : cCF Try.prog 8 3 = some c8 := by kernel_rfl

@[go_sem] def c8_d11 : DR := ⟨c8_p11, [(0, 66), (1, 67), (2, 68), (3, 69), (4, 70), (5, 71), (6, 72), (7, 73), (8, 74), (9, 75), (10, 76), (11, 77), (12, 78), (13, 79), (14, 80), (15, 81), (16, 82), (17, 83), (18, 84), (19, 85)], [(⟨2, [(66, (some 0)), (67, (some 1))], none, .s (.slc (.t 66) none (some (.t 67)))⟩, [1]), (⟨5, [(69, (some 3)), (70, (some 4))], none, .s (.slc (.t 69) none (some (.t 70)))⟩, [1])]⟩
def tl8 : CC := .seq (.seq (.ops c8_s13) (.seq (.ops c8_s14) (.cond (.t 92) (.seq (.ops c8_s15) (.seq (.ops c8_s16) (.cond (.t 109) (.seq (.ops c8_s17) .ret) .skip))) .skip))) (.seq (.ops c8_s18) .ret)
def mid8 (X : CC) : CC := .seq (.seq (.ops c8_s9) (.cond (.t 60) (.seq (.ops c8_s10) (.seq (.drw c8_d11) (.cond (.t 85) (.seq (.ops c8_s12) .ret) .skip))) .skip)) X
def head8 (X : CC) : CC := .seq (.ops c8_s0) (.seq (.seq (.ops c8_s1) (.cond (.t 28) (.seq (.ops c8_s2) .ret) .skip)) (.seq (.ops c8_s3) (.seq (.ops c8_s4) (.seq (.seq (.ops c8_s5) (.cond (.t 41) (.seq (.ops c8_s6) (.seq (.ops c8_s7) (.cond (.t 54) (.seq (.ops c8_s8) .ret) .skip))) .skip)) X))))
theorem c8_is : c8 = ⟨3, head8 (mid8 tl8), [.tmp 6]⟩ := rfl
theorem tl8_w (n : Nat) {tm : T AV} {h : H} {s : ByteArray} (t2 : tm.get 2 = some (.str s)) : WC Try.prog (cW (n + 6)) tl8 (endW [.tmp 6] fun v _ => v = .bool true) tm h := by
  simp only [go_sem, ↓reduceIte, ↓reduceDIte, zA, zM, zL, zE, zD, yA, yE, yL, yQ, yT, reduceCtorEq, tl8, t2]
  refine opt_by (H22 n _ s) fun v1 h1 p1 => ?_
  obtain ⟨st1, v1, e, c, ps, ks, rfl, is1, d1⟩ := p1
  obtain ⟨cv, pv, kv, rfl, i1, i2, i3, i4, i5⟩ := id is1
  have ov := i1.one
  have opa := i3.one
  have oka := i4.one
  have st2 := StepN.new h1 (.row (putList 0 (cfgC c cv ++ [pv, kv]) T.e) 18 31)
  have is2 := is1.keep st2
  cases d1 with
  | long hl =>
    simp only [go_sem, ↓reduceIte, ↓reduceDIte, zA, zM, zL, zE, zD, yA, yE, yL, yQ, yT, reduceCtorEq, ov, opa, oka, cfg_len]
    refine opt_by (H11 n _) fun v2 h2 p2 => ?_
    obtain ⟨rfl, st2⟩ := p2
    simp only [go_sem, ↓reduceIte, ↓reduceDIte, zA, zM, zL, zE, zD, yA, yE, yL, yQ, yT, reduceCtorEq]
  | form hl na =>
    simp only [go_sem, ↓reduceIte, ↓reduceDIte, zA, zM, zL, zE, zD, yA, yE, yL, yQ, yT, reduceCtorEq, ov, opa, oka, cfg_len]
    refine opt_by (H11 n _) fun v2 h2 p2 => ?_
    obtain ⟨rfl, st2⟩ := p2
    simp only [go_sem, ↓reduceIte, ↓reduceDIte, zA, zM, zL, zE, zD, yA, yE, yL, yQ, yT, reduceCtorEq]
  | ok hl acc =>
    have op := (anyD_in (s, false)).1
    have cu := (anyD_in (s, false)).2
    have hck : chkE (anyD (s, false)).c (anyD (s, false)).ps (anyD (s, false)).ks = 0 := chkE_iff.2 acc.chk
    have henc : resS (anyD (s, false)).c (anyD (s, false)).ps (anyD (s, false)).ks = (s, 0) := by
      unfold resS
      rw [if_pos acc.chk, acc.enc]
    generalize anyD (s, false) = A at *
    simp only [go_sem, ↓reduceIte, ↓reduceDIte, zA, zM, zL, zE, zD, yA, yE, yL, yQ, yT, reduceCtorEq, ov, opa, oka, cfg_len]
    refine opt_by (H13 (n + 1) _ _ A.c A.ps A.ks is2 op cu) fun v2 h2 p2 => ?_
    obtain ⟨st3, rfl⟩ := p2.enc
    rw [henc]
    have g2 := st3.old h1.next (Nat.lt_succ_self _)
    simp only [go_sem, ↓reduceIte, ↓reduceDIte, zA, zM, zL, zE, zD, yA, yE, yL, yQ, yT, reduceCtorEq] at g2
    simp only [go_sem, ↓reduceIte, ↓reduceDIte, zA, zM, zL, zE, zD, yA, yE, yL, yQ, yT, reduceCtorEq, t2, g2]
    refine opt_by (H15 (n + 2) _ _ A.c A.ps A.ks (is2.keep st3)) fun v3 h3 p3 => ?_
    obtain ⟨rfl, st4⟩ := p3
    rw [hck]
    simp only [go_sem, ↓reduceIte, ↓reduceDIte, zA, zM, zL, zE, zD, yA, yE, yL, yQ, yT, reduceCtorEq]
    refine opt_by (H11 n _) fun v4 h4 p4 => ?_
    obtain ⟨rfl, st5⟩ := p4
    simp only [go_sem, ↓reduceIte, ↓reduceDIte, zA, zM, zL, zE, zD, yA, yE, yL, yQ, yT, reduceCtorEq]
theorem mm_min (x y : Nat) : mmA false (.int .i64 (x : Int)) [.int .i64 (y : Int)] = some (.int .i64 ((min x y : Nat) : Int)) := by
  unfold mmA
  simp only [cond_false, mmA]
  by_cases h : (y : Int) < (x : Int)
  · have e : iLt (y : Int) (x : Int) = true := by rw [iLt_eq]; exact decide_eq_true h
    rw [e, cond_true, Nat.min_eq_right (by omega)]
  · have e : iLt (y : Int) (x : Int) = false := by rw [iLt_eq]; exact decide_eq_false h
    rw [e, cond_false, Nat.min_eq_left (by omega)]
theorem und4 : Try.prog.underlying 4 = some .bool := by kernel_rfl
theorem neqB (b c : Bool) : evBin Try.prog .neq 4 false false (.bool b) (.bool c) = some (.bool (!(b == c))) := by
  unfold evBin
  simp only [und4]
theorem mid8_w {call : CallE} (h17 : ∀ h v w c c' ps ps' ks ks', IsS h v c ps ks → IsS h w c' ps' ks' → ∃ v' h', call 17 [v, w] h = some (v', h') ∧ SaysB (c = c' ∧ ps = ps' ∧ ks = ks') h v' h')
    {tm : T AV} {h : H} {A B : Nat} {s x y : ByteArray} {e f : Int} {cv pv kv cv' pv' kv' : AV} {c c' : CfgT} {ps ps' : List (List OpT)} {ks ks' : List Int} (t2 : tm.get 2 = some (.str s)) (t3 : tm.get 3 = some (.ptr A 0)) (t4 : tm.get 4 = some (.ptr B 0)) (t7 : tm.get 7 = some (.str x)) (t8 : tm.get 8 = some (.int .i64 e)) (t9 : tm.get 9 = some (.str y)) (t10 : tm.get 10 = some (.int .i64 f))
    (hA : A < h.next) (hB : B < h.next) (gA : h.t.get A = some (rowL (cfgC c cv ++ [pv, kv]) 31)) (gB : h.t.get B = some (rowL (cfgC c' cv' ++ [pv', kv']) 31)) (is1 : IsS h (.agg (cfgC c cv ++ [pv, kv])) c ps ks) (is2 : IsS h (.agg (cfgC c' cv' ++ [pv', kv'])) c' ps' ks')
    (hx : x.size ≤ 65536) (hy : y.size ≤ 65536) (heq : e = 0 → f = 0 → (subS x 0 (min x.size y.size) = subS y 0 (min x.size y.size) ↔ (c = c' ∧ ps = ps' ∧ ks = ks')) ∧ (x = y ↔ (c = c' ∧ ps = ps' ∧ ks = ks')))
    {X : CC} {Q : Cont} (hX : ∀ tm' h', tm'.get 2 = some (.str s) → WC Try.prog call X Q tm' h') : WC Try.prog call (mid8 X) Q tm h := by
  by_cases he : e = 0
  case neg =>
    simp only [go_sem, ↓reduceIte, ↓reduceDIte, zA, zM, zL, zE, zD, yA, yE, yL, yQ, yT, reduceCtorEq, mid8, t8, t10, he]
    exact hX _ _ (by simp [go_sem, t2])
  by_cases hf : f = 0
  case neg =>
    simp only [go_sem, ↓reduceIte, ↓reduceDIte, zA, zM, zL, zE, zD, yA, yE, yL, yQ, yT, reduceCtorEq, mid8, t8, t10, he, hf]
    exact hX _ _ (by simp [go_sem, t2])
  obtain ⟨k1, k2⟩ := heq he hf
  obtain ⟨n, hn⟩ : ∃ n : Nat, n = min x.size y.size := ⟨_, rfl⟩
  rw [← hn] at k1
  simp only [go_sem, ↓reduceIte, ↓reduceDIte, zA, zM, zL, zE, zD, yA, yE, yL, yQ, yT, reduceCtorEq, mid8, t3, t4, t7, t8, t9, t10, he, hf, gA, gB, mm_min]
  rw [← hn]
  have n1 : (n : Int) ≤ (x.size : Int) := by omega
  have n2 : (n : Int) ≤ (y.size : Int) := by omega
  simp only [go_sem, ↓reduceIte, ↓reduceDIte, zA, zM, zL, zE, zD, yA, yE, yL, yQ, yT, reduceCtorEq, t3, t4, t7, t9, gA, gB, n1, n2]
  refine opt_by (h17 _ _ _ _ _ _ _ _ _ is1 is2) fun v1 h1 p1 => ?_
  obtain ⟨b, rfl, hb, st1⟩ := p1
  have nx := st1.next
  have gA1 := (st1.old A hA).trans gA
  have gB1 := (st1.old B hB).trans gB
  have eb : b = decide (subS x 0 n = subS y 0 n) := by
    rw [Bool.eq_iff_iff, decide_eq_true_iff]
    exact hb.trans k1.symm
  simp only [go_sem, ↓reduceIte, ↓reduceDIte, zA, zM, zL, zE, zD, yA, yE, yL, yQ, yT, reduceCtorEq, nx, ← eb, t3, t4, t7, t9, gA1, gB1, neqB, beq_self_eq_true, Bool.not_true]
  refine opt_by (h17 _ _ _ _ _ _ _ _ _ (is1.keep st1) (is2.keep st1)) fun v2 h2 p2 => ?_
  obtain ⟨b2, rfl, hb2, st2⟩ := p2
  have nx2 := st2.next
  have eb2 : b2 = decide (x = y) := by
    rw [Bool.eq_iff_iff, decide_eq_true_iff]
    exact hb2.trans k2.symm
  simp only [go_sem, ↓reduceIte, ↓reduceDIte, zA, zM, zL, zE, zD, yA, yE, yL, yQ, yT, reduceCtorEq, nx2, ← eb2, t3, t4, t7, t9, gA, gB, neqB, beq_self_eq_true, Bool.not_true, n1, n2]
  exact hX _ _ (by simp [go_sem, t2])
set_option maxRecDepth 4000 in
theorem w8 (n : Nat) {h : H} {v v' : AV} {c c' : CfgT} {ps ps' : List (List OpT)} {ks ks' : List Int} {s : ByteArray} (hs : IsS h v c ps ks) (hs' : IsS h v' c' ps' ks') (op : ∀ p ∈ ps, ∀ y ∈ p, opR y) (cu : ∀ y ∈ c.cuts, inU y) (op' : ∀ p ∈ ps', ∀ y ∈ p, opR y) (cu' : ∀ y ∈ c'.cuts, inU y) :
    WF Try.prog (cW (n + 6)) c8 [v, v', .str s] h fun v' h' => v' = .bool true := by
  obtain ⟨cv, pv, kv, rfl, i1, i2, i3, i4, i5⟩ := id hs
  obtain ⟨cv', pv', kv', rfl, j1, j2, j3, j4, j5⟩ := id hs'
  have ov := i1.one
  have opa := i3.one
  have oka := i4.one
  have ov' := j1.one
  have opa' := j3.one
  have oka' := j4.one
  have st0 : StepN h ⟨h.next + 2, (h.t.set h.next (.row (putList 0 (cfgC c cv ++ [pv, kv]) T.e) 18 31)).set (h.next + 1) (.row (putList 0 (cfgC c' cv' ++ [pv', kv']) T.e) 18 31)⟩ := ⟨Nat.le_add_right _ _, fun b hb => by
    have e1 : ¬ b = h.next := by omega
    have e2 : ¬ b = h.next + 1 := by omega
    simp only [go_sem, ↓reduceIte, ↓reduceDIte, zA, zM, zL, zE, zD, yA, yE, yL, yQ, yT, reduceCtorEq, e1, e2]⟩
  have is0 := hs.keep st0
  have is0' := hs'.keep st0
  have known : ∀ h' (K : AV × H → Prop), (∀ h2, K (.bool true, h2)) → @optI _ (cW (n + 6) 11 [] h') ⟨K⟩ := fun h' K hk => by
    refine opt_by (H11 n h') fun v2 h2 p2 => ?_
    obtain ⟨rfl, st2⟩ := p2
    exact hk h2
  rw [c8_is]
  simp only [go_sem, ↓reduceIte, ↓reduceDIte, zA, zM, zL, zE, zD, yA, yE, yL, yQ, yT, reduceCtorEq, head8, ov, opa, oka, ov', opa', oka']
  refine opt_by (H10 (n + 5) _ _ _ _ _ is0) fun v1 h1 p1 => ?_
  obtain ⟨⟨b1, rfl⟩, st1⟩ := p1
  have g1 := st1.old h.next (by show h.next < h.next + 2; omega)
  have g1' := st1.old (h.next + 1) (by show h.next + 1 < h.next + 2; omega)
  simp only [go_sem, ↓reduceIte, ↓reduceDIte, zA, zM, zL, zE, zD, yA, yE, yL, yQ, yT, reduceCtorEq] at g1 g1'
  cases b1 with
  | true =>
    simp only [go_sem, ↓reduceIte, ↓reduceDIte, zA, zM, zL, zE, zD, yA, yE, yL, yQ, yT, reduceCtorEq]
    refine known _ _ fun h2 => ?_
    simp only [go_sem, ↓reduceIte, ↓reduceDIte, zA, zM, zL, zE, zD, yA, yE, yL, yQ, yT, reduceCtorEq]
  | false =>
    simp only [go_sem, ↓reduceIte, ↓reduceDIte, zA, zM, zL, zE, zD, yA, yE, yL, yQ, yT, reduceCtorEq, g1, g1']
    have is1 := is0.keep st1
    have is1' := is0'.keep st1
    refine opt_by (H10 (n + 5) _ _ _ _ _ is1') fun v2 h2 p2 => ?_
    obtain ⟨⟨b2, rfl⟩, st2⟩ := p2
    have lt1 : h.next + 2 ≤ h1.next := st1.next
    have lt2 : h1.next ≤ h2.next := st2.next
    have g2 := (st2.old h.next (by omega)).trans g1
    have g2' := (st2.old (h.next + 1) (by omega)).trans g1'
    have is2 := is1.keep st2
    have is2' := is1'.keep st2
    cases b2 with
    | true =>
      simp only [go_sem, ↓reduceIte, ↓reduceDIte, zA, zM, zL, zE, zD, yA, yE, yL, yQ, yT, reduceCtorEq]
      refine known _ _ fun h2 => ?_
      simp only [go_sem, ↓reduceIte, ↓reduceDIte, zA, zM, zL, zE, zD, yA, yE, yL, yQ, yT, reduceCtorEq]
    | false =>
      by_cases hl : (5000 : Int) < (s.size : Int)
      · simp only [go_sem, ↓reduceIte, ↓reduceDIte, zA, zM, zL, zE, zD, yA, yE, yL, yQ, yT, reduceCtorEq, hl]
        refine known _ _ fun h2 => ?_
        simp only [go_sem, ↓reduceIte, ↓reduceDIte, zA, zM, zL, zE, zD, yA, yE, yL, yQ, yT, reduceCtorEq]
      · simp only [go_sem, ↓reduceIte, ↓reduceDIte, zA, zM, zL, zE, zD, yA, yE, yL, yQ, yT, reduceCtorEq, hl, g2, g2']
        refine opt_by (H13 (n + 1) _ _ c ps ks is2 op (fun y hy => (cu y hy).2)) fun v3 h3 p3 => ?_
        obtain ⟨st3, rfl⟩ := p3.enc
        obtain ⟨x, e, hr⟩ : ∃ x e, resS c ps ks = (x, e) := ⟨_, _, rfl⟩
        rw [hr]
        have lt3 : h2.next ≤ h3.next := st3.next
        have g3 := (st3.old h.next (by omega)).trans g2
        have g3' := (st3.old (h.next + 1) (by omega)).trans g2'
        have is3 := is2.keep st3
        have is3' := is2'.keep st3
        simp only [go_sem, ↓reduceIte, ↓reduceDIte, zA, zM, zL, zE, zD, yA, yE, yL, yQ, yT, reduceCtorEq, g3, g3']
        refine opt_by (H13 (n + 1) _ _ c' ps' ks' is3' op' (fun y hy => (cu' y hy).2)) fun v4 h4 p4 => ?_
        obtain ⟨st4, rfl⟩ := p4.enc
        obtain ⟨y, f, hr'⟩ : ∃ x e, resS c' ps' ks' = (x, e) := ⟨_, _, rfl⟩
        rw [hr']
        have lt4 : h3.next ≤ h4.next := st4.next
        have g4 := (st4.old h.next (by omega)).trans g3
        have g4' := (st4.old (h.next + 1) (by omega)).trans g3'
        have is4 := is3.keep st4
        have is4' := is3'.keep st4
        have hx : x.size ≤ 65536 := by
          have := resS_le c ps ks
          rw [hr] at this
          exact this
        have hy : y.size ≤ 65536 := by
          have := resS_le c' ps' ks'
          rw [hr'] at this
          exact this
        have heq : e = 0 → f = 0 → (subS x 0 (min x.size y.size) = subS y 0 (min x.size y.size) ↔ (c = c' ∧ ps = ps' ∧ ks = ks')) ∧ (x = y ↔ (c = c' ∧ ps = ps' ∧ ks = ks')) := fun he hf => by
          subst he hf
          obtain ⟨_, _, _, _, e1, _, in1⟩ := acc_enc op cu hr
          obtain ⟨_, _, _, _, e2, _, in2⟩ := acc_enc op' cu' hr'
          exact pre_iff in1 in2 e1 e2
        have h17 : ∀ h v w c c' ps ps' ks ks', IsS h v c ps ks → IsS h w c' ps' ks' → ∃ v' h', cW (n + 6) 17 [v, w] h = some (v', h') ∧ SaysB (c = c' ∧ ps = ps' ∧ ks = ks') h v' h' := H17 (n + 2)
        by_cases he : e = 0
        · simp only [go_sem, ↓reduceIte, ↓reduceDIte, zA, zM, zL, zE, zD, yA, yE, yL, yQ, yT, reduceCtorEq, he]
          refine opt_by (H22 n _ x) fun v5 h5 p5 => ?_
          obtain ⟨st5, v5, e5, c5, ps5, ks5, rfl, is5, d5⟩ := p5
          obtain ⟨acc, ec, ep, ek, e1, hsz, ins⟩ := acc_enc op cu (hr.trans (by rw [he]))
          have hd : e5 = 0 ∧ c5 = c ∧ ps5 = ps ∧ ks5 = ks := by
            cases d5 with
            | long hl => omega
            | form _ na => exact absurd acc na
            | ok _ _ => exact ⟨rfl, ec, ep, ek⟩
          obtain ⟨rfl, rfl, rfl, rfl⟩ := hd
          obtain ⟨cv5, pv5, kv5, rfl, k1, k2, k3, k4, k5⟩ := id is5
          have ov5 := k1.one
          have opa5 := k3.one
          have oka5 := k4.one
          have st6 := StepN.new h5 (.row (putList 0 (cfgC c5 cv5 ++ [pv5, kv5]) T.e) 18 31)
          have lt5 : h4.next ≤ h5.next := st5.next
          have g5 := (st5.old h.next (by omega)).trans g4
          have g5' := (st5.old (h.next + 1) (by omega)).trans g4'
          have nX : ¬ h.next = h5.next := by omega
          have nX' : ¬ h.next + 1 = h5.next := by omega
          have is6 := (is4.keep st5).keep st6
          have is6' := (is4'.keep st5).keep st6
          simp only [go_sem, ↓reduceIte, ↓reduceDIte, zA, zM, zL, zE, zD, yA, yE, yL, yQ, yT, reduceCtorEq, ov5, opa5, oka5, cfg_len, g5, nX]
          refine opt_by (h17 _ _ _ _ _ _ _ _ _ (is5.keep st6) is6) fun v7 h7 p7 => ?_
          obtain ⟨b, rfl, hb, st7⟩ := p7
          have hb2 : b = true := hb.2 ⟨rfl, rfl, rfl⟩
          subst hb2
          have lt7 : h5.next + 1 ≤ h7.next := st7.next
          have g7 := (st7.old h.next (by show h.next < h5.next + 1; omega))
          have g7' := (st7.old (h.next + 1) (by show h.next + 1 < h5.next + 1; omega))
          simp only [go_sem, ↓reduceIte, ↓reduceDIte, zA, zM, zL, zE, zD, yA, yE, yL, yQ, yT, reduceCtorEq, nX, g5] at g7
          simp only [go_sem, ↓reduceIte, ↓reduceDIte, zA, zM, zL, zE, zD, yA, yE, yL, yQ, yT, reduceCtorEq, nX', g5'] at g7'
          simp only [go_sem, ↓reduceIte, ↓reduceDIte, zA, zM, zL, zE, zD, yA, yE, yL, yQ, yT, reduceCtorEq]
          exact mid8_w h17 (A := h.next) (B := h.next + 1) (s := s) (x := x) (y := y) (e := e) (f := f) (by simp [go_sem]) (by simp [go_sem]) (by simp [go_sem]) (by simp [go_sem]) (by simp [go_sem, he]) (by simp [go_sem]) (by simp [go_sem]) (by omega) (by omega) g7 g7' (is6.keep st7) (is6'.keep st7) hx hy heq fun tm' h' t2 => tl8_w n t2
        · simp only [go_sem, ↓reduceIte, ↓reduceDIte, zA, zM, zL, zE, zD, yA, yE, yL, yQ, yT, reduceCtorEq, he]
          exact mid8_w h17 (A := h.next) (B := h.next + 1) (s := s) (x := x) (y := y) (e := e) (f := f) (by simp [go_sem]) (by simp [go_sem]) (by simp [go_sem]) (by simp [go_sem]) (by simp [go_sem]) (by simp [go_sem]) (by simp [go_sem]) (by omega) (by omega) g4 g4' is4 is4' hx hy heq fun tm' h' t2 => tl8_w n t2
/-- THE LAW -/
theorem law8 {v v' : AV} {V V' : Value} {c c' : CfgT} {ps ps' : List (List OpT)} {ks ks' : List Int} {s : ByteArray} {W : World} (hv : VR (rhoW W.heap.size) v V) (hv' : VR (rhoW W.heap.size) v' V') (hs : IsS (hW W) v c ps ks) (hs' : IsS (hW W) v' c' ps' ks') (op : ∀ p ∈ ps, ∀ y ∈ p, opR y) (cu : ∀ y ∈ c.cuts, inU y) (op' : ∀ p ∈ ps', ∀ y ∈ p, opR y) (cu' : ∀ y ∈ c'.cuts, inU y) :
    Calls Try.prog 8 #[V, V', .string s] W fun e W' => e = .returned (.bool true) ∧ Below W.heap.size W W' :=
  calls_from (cW_ok 6) (callW_plain 6) (args := [v, v', .str s]) (ARGS := [V, V', .string s]) ⟨_, _, hv, ⟨_, _, hv', ⟨_, [], rfl, rfl, rfl⟩, rfl⟩, rfl⟩ rfl (by kernel_rfl) (by kernel_rfl) c8_eq (w8 0 hs hs' op cu op' cu')
end
end Go.Proofs.Ytnmlfhogolonoaa
