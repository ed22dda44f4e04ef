/-
  The law ScriptChecks: what it does with a script.
-/
import Derived.Test.YtnmlfhogolonoaaSoSc
import Derived.Test.YtnmlfhogolonoaaSoRo
import Derived.Test.YtnmlfhogolonoaaSoWk
set_option linter.unusedVariables false
set_option linter.unusedSimpArgs false
namespace Go.Proofs.Ytnmlfhogolonoaa
open Go.Proofs.Ytnmlfhogolonoaa.Eo Go.RowKit Go.ChangeShapes Go.WideShapes
open Nat renaming reduceAdd → zA, reduceMul → zM, reduceLT → zL, reduceEqDiff → zE, reduceLeDiff → zD
open Int renaming reduceAdd → yA, reduceLE → yE, reduceLT → yL, reduceEq → yQ, reduceToNat → yT
noncomputable section
/-! 3: leapfrog/leapfroglaw43.ScriptChecks -/
@[go_sem] def c3_s0 : List SQ := [⟨some 1, none, .n (.box 31 (.t 0))⟩, ⟨some 2, none, .p (.mv (.c (.bool false)))⟩]
@[go_sem] def c3_s1 : List SQ := [⟨some 8, none, .r (.ld (some 18) (.t 1))⟩, ⟨some 9, none, .cv (.c (.fn (.func 10) [] [])) [(.t 8)]⟩]
@[go_sem] def c3_s2 : List SQ := [⟨some 10, none, .cv (.c (.fn (.func 11) [] [])) []⟩, ⟨some 2, none, .p (.mv (.t 10))⟩]
@[go_sem] def c3_s3 : List SQ := [⟨some 11, none, .r (.ld (some 18) (.t 1))⟩, ⟨some 12, none, .cv (.c (.fn (.func 12) [] [])) [(.t 11)]⟩, ⟨some 3, none, .n (.new 31 [.int .i64 0, .int .i64 0, .int .u8 0, .int .i64 0, .int .u8 0, .int .i64 0, .nils, .int .i64 0, .int .i64 0, .int .i64 0, .int .i64 0, .int .i64 0, .int .i64 0, .int .i64 0, .int .i64 0, .int .i64 0, .nils, .nils])⟩, ⟨none, none, .e (.st 18 (.t 3) (.t 12))⟩]
@[go_sem] def c3_s4 : List SQ := [⟨some 14, none, .r (.ld (some 18) (.t 3))⟩, ⟨some 15, none, .cv (.c (.fn (.func 13) [] [])) [(.t 14)]⟩, ⟨some 13, none, .p (.mv (.t 15))⟩, ⟨some 16, none, .p (.extr (.t 13) 0)⟩, ⟨some 17, none, .p (.extr (.t 13) 1)⟩, ⟨some 4, none, .p (.mv (.t 16))⟩, ⟨some 5, none, .p (.mv (.t 17))⟩]
@[go_sem] def c3_s5 : List SQ := [⟨some 19, none, .r (.ld (some 18) (.t 1))⟩, ⟨some 20, none, .cv (.c (.fn (.func 14) [] [])) [(.t 19)]⟩, ⟨some 18, none, .p (.mv (.t 20))⟩, ⟨some 21, none, .p (.extr (.t 18) 0)⟩, ⟨some 22, none, .p (.extr (.t 18) 1)⟩, ⟨some 6, none, .p (.mv (.t 21))⟩, ⟨some 7, none, .p (.mv (.t 22))⟩]
@[go_sem] def c3_p6 : List (List DQ × Option DQ) := [([⟨0, [(4, none)], none, .p (.mv (.t 4))⟩, ⟨1, [(6, none)], none, .p (.mv (.t 6))⟩, ⟨2, [(23, (some 0)), (24, (some 1))], none, .p (.bin .eql 9 false false (.t 23) (.t 24))⟩, ⟨3, [(25, (some 2))], none, .p (.mv (.t 25))⟩, ⟨4, [(26, (some 3)), (5, none)], some (26, true), .p (.mv (.t 5))⟩, ⟨5, [(26, (some 3)), (7, none)], some (26, true), .p (.mv (.t 7))⟩, ⟨6, [(26, (some 3)), (27, (some 4)), (28, (some 5))], some (26, true), .p (.bin .eql 35 false false (.t 27) (.t 28))⟩, ⟨7, [(26, (some 3)), (29, (some 6))], none, .p (.pick (.t 26) (.t 29) (.c (.bool false)))⟩, ⟨8, [(30, (some 7))], none, .p (.mv (.t 30))⟩, ⟨9, [(31, (some 8)), (3, none)], some (31, true), .r (.ld (some 18) (.t 3))⟩, ⟨11, [(31, (some 8)), (1, none)], some (31, true), .r (.ld (some 18) (.t 1))⟩], (some ⟨10, [(31, (some 8)), (32, (some 9))], some (31, true), .cv (.c (.fn (.func 15) [] [])) [(.t 32)]⟩)), ([], (some ⟨12, [(31, (some 8)), (34, (some 11))], some (31, true), .cv (.c (.fn (.func 16) [] [])) [(.t 34)]⟩)), ([⟨13, [(31, (some 8)), (33, (some 10)), (35, (some 12))], some (31, true), .p (.bin .eql 35 false false (.t 33) (.t 35))⟩, ⟨14, [(31, (some 8)), (36, (some 13))], none, .p (.pick (.t 31) (.t 36) (.c (.bool false)))⟩, ⟨15, [(37, (some 14))], none, .p (.mv (.t 37))⟩, ⟨16, [(38, (some 15)), (3, none)], some (38, true), .r (.ld (some 18) (.t 3))⟩, ⟨17, [(38, (some 15)), (1, none)], some (38, true), .r (.ld (some 18) (.t 1))⟩], (some ⟨18, [(38, (some 15)), (39, (some 16)), (40, (some 17))], some (38, true), .cv (.c (.fn (.func 17) [] [])) [(.t 39), (.t 40)]⟩)), ([⟨19, [(38, (some 15)), (41, (some 18))], none, .p (.pick (.t 38) (.t 41) (.c (.bool false)))⟩, ⟨20, [(42, (some 19))], none, .p (.mv (.t 42))⟩], none)]
@[go_sem] def c3 : CF := ⟨1, (.seq (.ops c3_s0) (.seq (.seq (.ops c3_s1) (.cond (.t 9) (.seq (.ops c3_s2) .ret) .skip)) (.seq (.ops c3_s3) (.seq (.ops c3_s4) (.seq (.ops c3_s5) (.seq (.drw ⟨c3_p6, [(0, 23), (1, 24), (2, 25), (3, 26), (4, 27), (5, 28), (6, 29), (7, 30), (8, 31), (9, 32), (10, 33), (11, 34), (12, 35), (13, 36), (14, 37), (15, 38), (16, 39), (17, 40), (18, 41), (19, 42), (20, 2)], [(⟨11, [(31, (some 8)), (1, none)], some (31, true), .r (.ld (some 18) (.t 1))⟩, [1])]⟩) .ret)))))), [.tmp 2]⟩
theorem c3_eq : cCF Try.prog 3 1 = some c3 := by kernel_rfl

theorem H69 (n : Nat) : ∀ h v (l : List Int), RdL none 1 h v (l.map fun x : Int => AV.int .u64 x) → l.length * 8 ≤ 140737488351232 → ∃ v' h', cW (n + 1) 69 [v] h = some (v', h') ∧ PostCp 1 43 l.length (l.map (AV.int .u64)) h v' h' :=
  fun h v l hv hl => callW_of (by kernel_rfl) (by kernel_rfl) c69_eq (w69 Try.prog hv hl)
theorem H26 (n : Nat) : ∀ h v (l : List Int), RdL none 1 h v (l.map fun x : Int => AV.int .i64 x) → l.length * 8 ≤ 140737488351232 → ∃ v' h', cW (n + 1) 26 [v] h = some (v', h') ∧ PostCp 1 3 l.length (l.map (AV.int .i64)) h v' h' :=
  fun h v l hv hl => callW_of (by kernel_rfl) (by kernel_rfl) c26_eq (w26 Try.prog hv hl)
theorem H54 (n : Nat) : ∀ h v (l : List OpT), RdL (some 7) 7 h v (l.map fun x => .agg (opC x)) → l.length * 56 ≤ 140737488351232 → ∃ v' h', cW (n + 1) 54 [v] h = some (v', h') ∧ PostCp 7 45 l.length (l.flatMap opC) h v' h' :=
  fun h v l hv hl => callW_of (by kernel_rfl) (by kernel_rfl) c54_eq (w54 Try.prog hv hl)
theorem H25 (n : Nat) : ∀ h v ps, RdP h v ps → ps.length * 24 ≤ 140737488351232 → (∀ p ∈ ps, p.length * 56 ≤ 140737488351232) → ∃ v' h', cW (n + 2) 25 [v] h = some (v', h') ∧ PostPs ps h v' h' :=
  fun h v ps hv hl hz => callW_of (by kernel_rfl) (by kernel_rfl) c25_eq (w25 Try.prog (H54 n) hv hl hz)
theorem H53 (n : Nat) : ∀ h k n1 v (l : List Int), RdL none 1 h v (l.map fun x : Int => AV.int .u64 x) → (∀ a, own v = some a → a < h.next) → l.length * 8 ≤ 140737488351232 → ∃ v' h', cW (n + 2) 53 [.agg [.int .u8 k, .int .i64 n1, v]] h = some (v', h') ∧ PostD k n1 l h v' h' :=
  fun h k n1 v l hv ho hl => callW_of (by kernel_rfl) (by kernel_rfl) c53_eq (w53 Try.prog (H69 n) hv ho hl)
theorem H24 (n : Nat) : ∀ h (c : CfgT) v, RdL none 1 h v (c.cuts.map fun x : Int => AV.int .u64 x) → (∀ a, own v = some a → a < h.next) → c.cuts.length * 8 ≤ 140737488351232 → ∃ v' h', cW (n + 3) 24 [.agg (cfgC c v)] h = some (v', h') ∧ PostG c h v' h' :=
  fun h c v hv ho hl => callW_of (by kernel_rfl) (by kernel_rfl) c24_eq (w24 Try.prog (H53 n) hv ho hl)
theorem H12 (n : Nat) : ∀ h v c ps ks, IsS h v c ps ks → Sz c ps ks → ∃ v' h', cW (n + 4) 12 [v] h = some (v', h') ∧ PostS c ps ks h v' h' :=
  fun h v c ps ks hs sz => callW_of (by kernel_rfl) (by kernel_rfl) c12_eq (w12 Try.prog (H24 n) (H25 (n + 1)) (H26 (n + 2)) hs sz)
theorem H10 (n : Nat) : ∀ h v c ps ks, IsS h v c ps ks → ∃ v' h', cW (n + 1) 10 [v] h = some (v', h') ∧ ((∃ b : Bool, v' = .bool b) ∧ StepN h h') :=
  fun h v c ps ks hs => callW_of (by kernel_rfl) (by kernel_rfl) c10_eq (w10 Try.prog hs)
set_option maxRecDepth 4000 in
theorem w3 (n : Nat) {h : H} {v : AV} {c : CfgT} {ps : List (List OpT)} {ks : List Int} (hs : IsS h v c ps ks) (sz : Sz c ps ks) (op : ∀ p ∈ ps, ∀ y ∈ p, opR y) (cu : ∀ y ∈ c.cuts, inU y) : WF Try.prog (cW (n + 6)) c3 [v] h fun v' h' => v' = .bool true := by
  obtain ⟨cv, pv, kv, rfl, i1, i2, i3, i4, i5⟩ := id hs
  have ov := i1.one
  have opa := i3.one
  have oka := i4.one
  have st0 := StepN.new h (.row (putList 0 (cfgC c cv ++ [pv, kv]) T.e) 18 31)
  have is0 := hs.keep st0
  simp only [go_sem, ↓reduceIte, ↓reduceDIte, zA, zM, zL, zE, zD, yA, yE, yL, yQ, yT, reduceCtorEq, c3, ov, opa, oka]
  refine opt_by (H10 (n + 5) _ _ _ _ _ is0) fun v1 h1 p1 => ?_
  obtain ⟨⟨b, rfl⟩, st1⟩ := p1
  have g1 := st1.old h.next (Nat.lt_succ_self _)
  simp only [go_sem, ↓reduceIte, ↓reduceDIte, zA, zM, zL, zE, zD, yA, yE, yL, yQ, yT, reduceCtorEq] at g1
  cases b with
  | true =>
    simp only [go_sem, ↓reduceIte, ↓reduceDIte, zA, zM, zL, zE, zD, yA, yE, yL, yQ, yT, reduceCtorEq]
    refine opt_by (H11 n _) fun v2 h2 p2 => ?_
    obtain ⟨rfl, st2⟩ := p2
    simp only [go_sem, ↓reduceIte, ↓reduceDIte, zA, zM, zL, zE, zD, yA, yE, yL, yQ, yT, reduceCtorEq]
  | false =>
    simp only [go_sem, ↓reduceIte, ↓reduceDIte, zA, zM, zL, zE, zD, yA, yE, yL, yQ, yT, reduceCtorEq, g1]
    have is1 := is0.keep st1
    refine opt_by (H12 (n + 2) _ _ _ _ _ is1 sz) fun v2 h2 p2 => ?_
    obtain ⟨st2, is2⟩ := p2
    obtain ⟨cv2, pv2, kv2, rfl, j1, j2, j3, j4, j5⟩ := id is2
    have ov2 := j1.one
    have opa2 := j3.one
    have oka2 := j4.one
    have st3 := StepN.new h2 (.row (putList 0 (cfgC c cv2 ++ [pv2, kv2]) T.e) 18 31)
    have is3 := is2.keep st3
    have g2 := (st3.old h.next (by have := st1.next; have := st2.next; have h9 : h.next + 1 ≤ h1.next := st1.next; omega)).trans ((st2.old h.next (by have h9 : h.next + 1 ≤ h1.next := st1.next; omega)).trans g1)
    have nX : ¬ h.next = h2.next := by have h9 : h.next + 1 ≤ h1.next := st1.next; have := st2.next; omega
    simp only [go_sem, ↓reduceIte, ↓reduceDIte, zA, zM, zL, zE, zD, yA, yE, yL, yQ, yT, reduceCtorEq, nX] at g2
    simp only [go_sem, ↓reduceIte, ↓reduceDIte, zA, zM, zL, zE, zD, yA, yE, yL, yQ, yT, reduceCtorEq, ov2, opa2, oka2, cfg_len, nX, g2]
    refine opt_by (H13 (n + 1) _ _ c ps ks is3 op (fun y hy => (cu y hy).2)) fun v3 h3 p3 => ?_
    obtain ⟨st4, rfl⟩ := p3.enc
    have s14 := (st2.trans st3).trans st4
    have lt1 : h.next + 1 ≤ h1.next := st1.next
    have lt2 : h1.next ≤ h2.next := st2.next
    have lt3 : h2.next + 1 ≤ h3.next := st4.next
    have g3 := (st4.old h.next (by show h.next < h2.next + 1; omega))
    have k3 := (st4.old h2.next (Nat.lt_succ_self _))
    simp only [go_sem, ↓reduceIte, ↓reduceDIte, zA, zM, zL, zE, zD, yA, yE, yL, yQ, yT, reduceCtorEq, nX, g2] at g3
    simp only [go_sem, ↓reduceIte, ↓reduceDIte, zA, zM, zL, zE, zD, yA, yE, yL, yQ, yT, reduceCtorEq] at k3
    simp only [go_sem, ↓reduceIte, ↓reduceDIte, zA, zM, zL, zE, zD, yA, yE, yL, yQ, yT, reduceCtorEq, g3]
    refine opt_by (H14 (n + 2) _ _ c ps ks (is1.keep s14) op cu) fun v4 h4 p4 => ?_
    obtain ⟨st5, rfl⟩ := p4
    have lt4 : h3.next ≤ h4.next := st5.next
    have g4 := (st5.old h.next (by omega)).trans g3
    have k4 := (st5.old h2.next (by omega)).trans k3
    have is5 := (is1.keep s14).keep st5
    have is6 := (is3.keep st4).keep st5
    have cuL : ∀ x ∈ c.cuts, x < 18446744073709551616 := fun y hy => (cu y hy).2
    generalize (resS c ps ks).1 = r1
    generalize (resS c ps ks).2 = r2
    simp only [go_sem, ↓reduceIte, ↓reduceDIte, zA, zM, zL, zE, zD, yA, yE, yL, yQ, yT, reduceCtorEq, g4, k4]
    refine opt_by (H15 (n + 2) _ _ c ps ks is6) fun v5 h5 p5 => ?_
    obtain ⟨rfl, st6⟩ := p5
    have lt5 : h4.next ≤ h5.next := st6.next
    have g5 := (st6.old h.next (by omega)).trans g4
    have k5 := (st6.old h2.next (by omega)).trans k4
    simp only [go_sem, ↓reduceIte, ↓reduceDIte, zA, zM, zL, zE, zD, yA, yE, yL, yQ, yT, reduceCtorEq, lt5, g5, k5]
    refine opt_by (H16 (n + 3) _ _ c ps ks (is5.keep st6) cu) fun v6 h6 p6 => ?_
    obtain ⟨rfl, st7⟩ := p6
    have lt6 : h5.next ≤ h6.next := st7.next
    have g6 := (st7.old h.next (by omega)).trans g5
    have k6 := (st7.old h2.next (by omega)).trans k5
    simp only [go_sem, ↓reduceIte, ↓reduceDIte, zA, zM, zL, zE, zD, yA, yE, yL, yQ, yT, reduceCtorEq, lt6, g6, k6]
    refine opt_by (H17 (n + 2) _ _ _ _ _ _ _ _ _ ((is6.keep st6).keep st7) ((is5.keep st6).keep st7)) fun v7 h7 p7 => ?_
    obtain ⟨b, rfl, hb, st8⟩ := p7
    have hb2 : b = true := hb.2 ⟨rfl, rfl, rfl⟩
    subst hb2
    have lt7 : h6.next ≤ h7.next := st8.next
    simp only [go_sem, ↓reduceIte, ↓reduceDIte, zA, zM, zL, zE, zD, yA, yE, yL, yQ, yT, reduceCtorEq, lt7, g4, g5, k5, k4]
/-- THE LAW -/
theorem law3 {v : AV} {V : Value} {c : CfgT} {ps : List (List OpT)} {ks : List Int} {W : World} (hv : VR (rhoW W.heap.size) v V) (hs : IsS (hW W) v c ps ks) (op : ∀ p ∈ ps, ∀ y ∈ p, opR y) (cu : ∀ y ∈ c.cuts, inU y) (sz : Sz c ps ks) : Calls Try.prog 3 #[V] W fun e W' => e = .returned (.bool true) ∧ Below W.heap.size W W' :=
  calls_from (cW_ok 6) (callW_plain 6) (args := [v]) (ARGS := [V]) ⟨_, [], hv, rfl, rfl⟩ rfl (by kernel_rfl) (by kernel_rfl) c3_eq (w3 0 hs sz op cu)
end
end Go.Proofs.Ytnmlfhogolonoaa
