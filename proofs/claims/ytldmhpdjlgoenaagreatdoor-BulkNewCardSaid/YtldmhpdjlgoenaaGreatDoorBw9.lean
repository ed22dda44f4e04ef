/-
  The reference's store.
  The reference's memory in use; a session of the reference.
-/
import Derived.Test.YtldmhpdjlgoenaaGreatDoorBw8
set_option linter.unusedVariables false
set_option linter.unusedSimpArgs false
namespace Go.Proofs.YtldmhpdjlgoenaaGreatDoor.BN
open Go.Proofs.YtldmhpdjlgoenaaGreatDoor.Eo
open Nat renaming reduceAdd → zA, reduceMul → zM, reduceLT → zL, reduceEqDiff → zE, reduceLeDiff → zD
open Int renaming reduceAdd → yA, reduceLE → yE, reduceLT → yL, reduceEq → yQ, reduceToNat → yT
noncomputable section
/-! 7: leapfrog/leapfrogref23.New -/
@[go_sem] def c7_s0 : List SQ := [⟨some 1, none, .n (.box 27 (.t 0))⟩, ⟨some 2, none, .p (.mv (.c .nilp))⟩, ⟨some 3, none, .p (.mv (.c (.int .i64 0)))⟩]
@[go_sem] def c7_s1 : List SQ := [⟨some 8, none, .r (.ld (some 16) (.t 1))⟩, ⟨some 9, none, .cv (.c (.fn (.func 27) [] [])) [(.t 8)]⟩, ⟨some 7, none, .p (.mv (.t 9))⟩, ⟨some 10, none, .p (.extr (.t 7) 0)⟩, ⟨some 11, none, .p (.extr (.t 7) 1)⟩, ⟨some 4, none, .p (.mv (.t 10))⟩, ⟨some 5, none, .p (.mv (.t 11))⟩]
@[go_sem] def c7_s2 : List SQ := [⟨some 12, none, .p (.mv (.t 5))⟩, ⟨some 13, none, .p (.bin .neq 34 false true (.t 12) (.c (.int .i64 0)))⟩]
@[go_sem] def c7_s3 : List SQ := [⟨some 14, none, .p (.mv (.t 5))⟩, ⟨some 2, none, .p (.mv (.c .nilp))⟩, ⟨some 3, none, .p (.mv (.t 14))⟩]
@[go_sem] def c7_p4 : List (List DQ × Option DQ) := [([⟨0, [(4, none)], none, .p (.mv (.t 4))⟩, ⟨1, [(1, none)], none, .p (.fadr 1 (.t 1))⟩, ⟨2, [(16, (some 1))], none, .r (.ld none (.t 16))⟩, ⟨3, [(17, (some 2)), (17, (some 2))], none, .n (.mksl 3 1 8 [.int .i64 0] (.t 17) (.t 17))⟩, ⟨4, [(4, none)], none, .p (.mv (.t 4))⟩, ⟨5, [(19, (some 4))], none, .p (.nilck (.t 19))⟩, ⟨6, [(20, (some 5))], none, .p (.fadr 26 (.t 20))⟩, ⟨7, [(21, (some 6))], none, .r (.ld none (.t 21))⟩, ⟨8, [(22, (some 7))], none, .p (.lenv (.t 22))⟩, ⟨9, [(23, (some 8))], none, .p (.bin .add 3 false true (.t 23) (.c (.int .i64 1)))⟩, ⟨10, [(24, (some 9)), (24, (some 9))], none, .n (.mksl 3 1 8 [.int .i64 0] (.t 24) (.t 24))⟩, ⟨11, [(4, none)], none, .p (.mv (.t 4))⟩, ⟨12, [(26, (some 11))], none, .p (.nilck (.t 26))⟩, ⟨13, [(27, (some 12))], none, .p (.fadr 26 (.t 27))⟩, ⟨14, [(28, (some 13))], none, .r (.ld none (.t 28))⟩, ⟨15, [(29, (some 14))], none, .p (.lenv (.t 29))⟩, ⟨16, [(30, (some 15))], none, .p (.bin .add 3 false true (.t 30) (.c (.int .i64 1)))⟩, ⟨17, [(31, (some 16)), (31, (some 16))], none, .n (.mksl 3 1 8 [.int .i64 0] (.t 31) (.t 31))⟩, ⟨18, [(15, (some 0)), (18, (some 3)), (25, (some 10)), (32, (some 17))], none, .p (.build [.nilp, .nilp, .nilp, .nilp, .nilp, .int .i64 0, .bool false, .nils, .nils, .nils, .nils, .nils] [(0, 1, (.t 15)), (9, 1, (.t 18)), (10, 1, (.t 25)), (11, 1, (.t 32))])⟩, ⟨19, [(33, (some 18))], none, .n (.box 102 (.t 33))⟩, ⟨20, [(34, (some 19))], none, .p (.mv (.t 34))⟩], none)]
@[go_sem] def c7_s5 : List SQ := [⟨some 36, none, .p (.mv (.t 6))⟩, ⟨some 37, none, .p (.mv (.t 4))⟩, ⟨some 38, none, .cv (.c (.fn (.func 29) [] [])) [(.t 37)]⟩, ⟨some 39, none, .cv (.c (.fn (.func 28) [] [])) [(.t 38)]⟩, ⟨some 35, none, .p (.mv (.t 39))⟩, ⟨some 40, none, .p (.extr (.t 35) 0)⟩, ⟨some 41, none, .p (.extr (.t 35) 1)⟩, ⟨some 42, none, .p (.nilck (.t 36))⟩, ⟨some 43, none, .p (.fadr 1 (.t 42))⟩, ⟨none, none, .e (.st 1 (.t 43) (.t 40))⟩]
@[go_sem] def c7_s6 : List SQ := [⟨some 45, none, .p (.mv (.t 6))⟩, ⟨some 46, none, .p (.mv (.t 6))⟩, ⟨some 47, none, .p (.nilck (.t 46))⟩, ⟨some 48, none, .p (.fadr 1 (.t 47))⟩, ⟨some 49, none, .r (.ld none (.t 48))⟩, ⟨some 50, none, .p (.mv (.t 4))⟩, ⟨some 51, none, .cv (.c (.fn (.func 30) [] [])) [(.t 49), (.t 50)]⟩, ⟨some 44, none, .p (.mv (.t 51))⟩, ⟨some 52, none, .p (.extr (.t 44) 0)⟩, ⟨some 53, none, .p (.extr (.t 44) 1)⟩, ⟨some 54, none, .p (.nilck (.t 45))⟩, ⟨some 55, none, .p (.fadr 2 (.t 54))⟩, ⟨none, none, .e (.st 1 (.t 55) (.t 52))⟩]
@[go_sem] def c7_s7 : List SQ := [⟨some 57, none, .p (.mv (.t 6))⟩, ⟨some 58, none, .p (.mv (.t 6))⟩, ⟨some 59, none, .p (.nilck (.t 58))⟩, ⟨some 60, none, .p (.fadr 1 (.t 59))⟩, ⟨some 61, none, .r (.ld none (.t 60))⟩, ⟨some 62, none, .p (.mv (.t 4))⟩, ⟨some 63, none, .cv (.c (.fn (.func 31) [] [])) [(.t 61), (.t 62)]⟩, ⟨some 56, none, .p (.mv (.t 63))⟩, ⟨some 64, none, .p (.extr (.t 56) 0)⟩, ⟨some 65, none, .p (.extr (.t 56) 1)⟩, ⟨some 66, none, .p (.nilck (.t 57))⟩, ⟨some 67, none, .p (.fadr 3 (.t 66))⟩, ⟨none, none, .e (.st 1 (.t 67) (.t 64))⟩]
@[go_sem] def c7_p8 : List (List DQ × Option DQ) := [([⟨0, [(6, none)], none, .p (.mv (.t 6))⟩, ⟨1, [(6, none)], none, .p (.mv (.t 6))⟩, ⟨2, [(70, (some 1))], none, .p (.nilck (.t 70))⟩, ⟨3, [(71, (some 2))], none, .p (.fadr 1 (.t 71))⟩, ⟨4, [(72, (some 3))], none, .r (.ld none (.t 72))⟩, ⟨5, [(1, none)], none, .p (.fadr 2 (.t 1))⟩, ⟨6, [(74, (some 5))], none, .r (.ld none (.t 74))⟩, ⟨7, [(4, none)], none, .p (.mv (.t 4))⟩, ⟨8, [(76, (some 7))], none, .p (.nilck (.t 76))⟩, ⟨9, [(77, (some 8))], none, .p (.fadr 16 (.t 77))⟩, ⟨10, [(78, (some 9))], none, .p (.fadr 1 (.t 78))⟩, ⟨11, [(79, (some 10))], none, .r (.ld none (.t 79))⟩, ⟨12, [(1, none)], none, .p (.fadr 1 (.t 1))⟩, ⟨13, [(81, (some 12))], none, .r (.ld none (.t 81))⟩, ⟨14, [(1, none)], none, .p (.fadr 3 (.t 1))⟩, ⟨15, [(83, (some 14))], none, .r (.ld none (.t 83))⟩], (some ⟨16, [(73, (some 4)), (75, (some 6)), (80, (some 11)), (82, (some 13)), (84, (some 15))], none, .cv (.c (.fn (.func 32) [] [])) [(.t 73), (.t 75), (.t 80), (.t 82), (.t 84)]⟩)), ([⟨17, [(85, (some 16))], none, .p (.mv (.t 85))⟩, ⟨18, [(68, (some 17))], none, .p (.extr (.t 68) 0)⟩, ⟨19, [(68, (some 17))], none, .p (.extr (.t 68) 1)⟩, ⟨20, [(69, (some 0))], none, .p (.nilck (.t 69))⟩, ⟨21, [(88, (some 20))], none, .p (.fadr 4 (.t 88))⟩], (some ⟨22, [(89, (some 21)), (86, (some 18))], none, .e (.st 1 (.t 89) (.t 86))⟩)), ([], none)]
@[go_sem] def c7_s9 : List SQ := [⟨some 90, none, .p (.mv (.t 6))⟩, ⟨some 2, none, .p (.mv (.t 90))⟩, ⟨some 3, none, .p (.mv (.c (.int .i64 0)))⟩]
@[go_sem] def c7 : CF := ⟨1, (.seq (.ops c7_s0) (.seq (.ops c7_s1) (.seq (.seq (.ops c7_s2) (.cond (.t 13) (.seq (.ops c7_s3) .ret) .skip)) (.seq (.drw ⟨c7_p4, [(0, 15), (1, 16), (2, 17), (3, 18), (4, 19), (5, 20), (6, 21), (7, 22), (8, 23), (9, 24), (10, 25), (11, 26), (12, 27), (13, 28), (14, 29), (15, 30), (16, 31), (17, 32), (18, 33), (19, 34), (20, 6)], [(⟨2, [(16, (some 1))], none, .r (.ld none (.t 16))⟩, [0]), (⟨7, [(21, (some 6))], none, .r (.ld none (.t 21))⟩, [0]), (⟨14, [(28, (some 13))], none, .r (.ld none (.t 28))⟩, [0])]⟩) (.seq (.ops c7_s5) (.seq (.ops c7_s6) (.seq (.ops c7_s7) (.seq (.drw ⟨c7_p8, [(0, 69), (1, 70), (2, 71), (3, 72), (4, 73), (5, 74), (6, 75), (7, 76), (8, 77), (9, 78), (10, 79), (11, 80), (12, 81), (13, 82), (14, 83), (15, 84), (16, 85), (17, 68), (18, 86), (19, 87), (20, 88), (21, 89)], []⟩) (.seq (.ops c7_s9) .ret))))))))), [.tmp 2, .tmp 3]⟩

theorem RPrcu.step {h h' : H} {R n : Nat} (p : RPrcu h R n) (s : StepN h h') : RPrcu h' R n := by
  have l : ∀ {a}, a < h.next → a < h'.next := fun ha => Nat.lt_of_lt_of_le ha s.next
  cases p with
  | a G N M base gR gG gN lR lG lN => exact .a G N M base ((s.old _ lR).trans gR) ((s.old _ lG).trans gG) ((s.old _ lN).trans gN) (l lR) (l lG) (l lN)
  | b G N M base gR gG gN lR lG lN => exact .b G N M base ((s.old _ lR).trans gR) ((s.old _ lG).trans gG) ((s.old _ lN).trans gN) (l lR) (l lG) (l lN)
  | c G M base nb ty gR gG hty lR lG => exact .c G M base nb ty ((s.old _ lR).trans gR) ((s.old _ lG).trans gG) hty (l lR) (l lG)
theorem RPrcu.keep {h h' : H} {R n : Nat} (p : RPrcu h R n) (hn : h.next ≤ h'.next) (k : ∀ {b cells len e}, b < h.next → h.t.get b = some (.row cells len e) → e ≠ 222 → e ≠ 28 → e ≠ 102 → h'.t.get b = some (.row cells len e)) (h102 : ∀ G M base nb ty, h.t.get G = some (.row (putList 0 ([.ptr M 0, .int .i64 base, .int .i64 nb] ++ quads 64 [.bool false, .bool false, .int .i64 0, .int .u64 0]) T.e) 259 ty) → ty = 308 → G < h.next → h'.t.get G = some (.row (putList 0 ([.ptr M 0, .int .i64 base, .int .i64 nb] ++ quads 64 [.bool false, .bool false, .int .i64 0, .int .u64 0]) T.e) 259 ty)) : RPrcu h' R n := by
  have l : ∀ {a}, a < h.next → a < h'.next := fun ha => Nat.lt_of_lt_of_le ha hn
  cases p with
  | a G N M base gR gG gN lR lG lN => exact .a G N M base (k lR gR (by decide) (by decide) (by decide)) (k lG gG (by decide) (by decide) (by decide)) (k lN gN (by decide) (by decide) (by decide)) (l lR) (l lG) (l lN)
  | b G N M base gR gG gN lR lG lN => exact .b G N M base (k lR gR (by decide) (by decide) (by decide)) (k lG gG (by decide) (by decide) (by decide)) (k lN gN (by decide) (by decide) (by decide)) (l lR) (l lG) (l lN)
  | c G M base nb ty gR gG hty lR lG => exact .c G M base nb ty (k lR gR (by decide) (by decide) (by decide)) (h102 G M base nb ty gG hty lG) hty (l lR) (l lG)
theorem RPrcu.off {h h' : H} {M W R n : Nat} {ws : List Int} {lg : AV} (p : RPrcu h R n) (m : RMem h M W ws lg) (s : StepX M W h h') : RPrcu h' R n := by
  have gM := m.g
  have gW := m.w
  have k0 : ∀ {b cells len e}, b < h.next → h.t.get b = some (.row cells len e) → e ≠ 222 → e ≠ 28 → h'.t.get b = some (.row cells len e) := fun {b cells len e} hb g n1 n2 => by
    refine (s.old b hb (fun e => ?_) (fun e => ?_)).trans g
    · subst e; rw [gM] at g; simp [rowL] at g; exact n1 g.2.2.symm
    · subst e; rw [gW] at g; simp [rowL] at g; exact n2 g.2.2.symm
  exact p.keep s.next (fun hb g n1 n2 _ => k0 hb g n1 n2) fun G M base nb ty g hty lG => k0 lG g (by rw [hty]; decide) (by rw [hty]; decide)
def PostR (n : Nat) (h : H) (v : AV) (h' : H) : Prop := StepN h h' ∧ ∃ R, v = .tup [.ptr R 0, .int .i64 0] ∧ RPrcu h' R n
theorem w32 (P : Program) [PT P] {call : CallE} (h75 : ∀ h c, EngOK c → call 75 [.int .u8 c.engine, .int .i64 c.slots, .int .i64 c.buckets] h = some (.tup [.int .i64 (engN c), .int .i64 0], h))
    (h76 : ∀ h M W ws lg n base, RMem h M W ws lg → 1 ≤ n → n ≤ 64 → 0 ≤ base → base + ((n : Nat) : Int) ≤ ((ws : List Int).length : Int) → ws.length ≤ 60000 → ∃ v h', call 76 [.ptr M 0, .int .i64 base, .int .i64 (n : Int)] h = some (v, h') ∧ REng M n 302 h v h')
    (h77 : ∀ h M W ws lg n base, RMem h M W ws lg → 1 ≤ n → n ≤ 64 → 0 ≤ base → base + 2 * ((n : Nat) : Int) ≤ ((ws : List Int).length : Int) → ws.length ≤ 60000 → ∃ v h', call 77 [.ptr M 0, .int .i64 base, .int .i64 (n : Int)] h = some (v, h') ∧ REng M n 303 h v h')
    (h78 : ∀ h M W ws lg n base, RMem h M W ws lg → 1 ≤ n → n ≤ 16 → 0 ≤ base → base + 4 * n ≤ ((ws : List Int).length : Int) → ws.length ≤ 60000 → ∃ v h', call 78 [.ptr M 0, .int .i64 base, .int .i64 n] h = some (v, h') ∧ REngC M h v h')
    {h : H} {M W : Nat} {ws : List Int} {lg : AV} (hm : RMem h M W ws lg) (hM : M < h.next) (hW : W < h.next) {c : CfgT} (hc : EngOK c) {base : Int} (b0 : 0 ≤ base) (b1 : base + engN c ≤ (ws.length : Int)) (b2 : ws.length ≤ 60000) {n : Nat} (hn : c.slots = (n : Int)) :
    WF P call c32 [.ptr M 0, .int .u8 c.engine, .int .i64 base, .int .i64 c.slots, .int .i64 c.buckets] h (PostR n h) := by
  have k75 := h75 h c hc
  obtain ⟨hs, hc⟩ := hc
  have st0 : ∀ x, StepN h ⟨h.next + 1, h.t.set h.next x⟩ := fun x => StepN.new h x
  have fin : ∀ {x h1 y}, StepN ⟨h.next + 1, h.t.set h.next x⟩ h1 → StepN h ⟨h1.next, h1.t.set h.next y⟩ := fun {x h1 y} s => ⟨by have := s.next; show h.next ≤ h1.next; have h2 : h.next + 1 ≤ h1.next := this; omega, fun b hb => by
    have e1 : ¬ b = h.next := by omega
    have := s.old b (by show b < h.next + 1; omega)
    simp only [go_sem, ↓reduceIte, ↓reduceDIte, zA, zM, zL, zE, zD, yA, yE, yL, yQ, yT, reduceCtorEq, e1] at this
    simp only [go_sem, ↓reduceIte, ↓reduceDIte, zA, zM, zL, zE, zD, yA, yE, yL, yQ, yT, reduceCtorEq, e1, this]⟩
  rcases hc with ⟨he, hb⟩ | ⟨he, hb⟩ | ⟨he, hb1, hb2⟩
  · have hN : engN c = (n : Int) := by unfold engN; rw [if_pos he, hn]
    rw [he, hb, hn, hN] at k75
    rw [he, hb, hn]
    simp only [go_sem, ↓reduceIte, ↓reduceDIte, zA, zM, zL, zE, zD, yA, yE, yL, yQ, yT, reduceCtorEq, c32, k75]
    refine opt_by (h76 _ M W ws lg n base (hm.step hM hW (st0 _)) (by omega) (by omega) b0 (by omega) b2) fun v1 h1 p1 => ?_
    obtain ⟨st1, G, N, bs, rfl, gG, gN, lG, lN⟩ := p1
    have nx1 : h.next + 1 ≤ h1.next := st1.next
    have gR := st1.old h.next (Nat.lt_succ_self _)
    simp only [go_sem, ↓reduceIte, ↓reduceDIte, zA, zM, zL, zE, zD, yA, yE, yL, yQ, yT, reduceCtorEq] at gR
    simp only [go_sem, ↓reduceIte, ↓reduceDIte, zA, zM, zL, zE, zD, yA, yE, yL, yQ, yT, reduceCtorEq, gR]
    by_cases hG : G = h.next
    · rw [hG, gR] at gG; simp at gG
    by_cases hNn : N = h.next
    · rw [hNn, gR] at gN; simp at gN
    exact ⟨fin st1, h.next, rfl, .a G N M bs (by simp [go_sem]) (by simp [go_sem, hG, gG]) (by simp [go_sem, hNn, gN]) (by show h.next < h1.next; omega) lG lN⟩
  · have hN : engN c = 2 * (n : Int) := by unfold engN; rw [if_neg (by omega), if_pos he, hn]
    rw [he, hb, hn, hN] at k75
    rw [he, hb, hn]
    simp only [go_sem, ↓reduceIte, ↓reduceDIte, zA, zM, zL, zE, zD, yA, yE, yL, yQ, yT, reduceCtorEq, c32, k75]
    refine opt_by (h77 _ M W ws lg n base (hm.step hM hW (st0 _)) (by omega) (by omega) b0 (by omega) b2) fun v1 h1 p1 => ?_
    obtain ⟨st1, G, N, bs, rfl, gG, gN, lG, lN⟩ := p1
    have nx1 : h.next + 1 ≤ h1.next := st1.next
    have gR := st1.old h.next (Nat.lt_succ_self _)
    simp only [go_sem, ↓reduceIte, ↓reduceDIte, zA, zM, zL, zE, zD, yA, yE, yL, yQ, yT, reduceCtorEq] at gR
    simp only [go_sem, ↓reduceIte, ↓reduceDIte, zA, zM, zL, zE, zD, yA, yE, yL, yQ, yT, reduceCtorEq, gR]
    by_cases hG : G = h.next
    · rw [hG, gR] at gG; simp at gG
    by_cases hNn : N = h.next
    · rw [hNn, gR] at gN; simp at gN
    exact ⟨fin st1, h.next, rfl, .b G N M bs (by simp [go_sem]) (by simp [go_sem, hG, gG]) (by simp [go_sem, hNn, gN]) (by show h.next < h1.next; omega) lG lN⟩
  · have hN : engN c = 4 * c.buckets := by unfold engN; rw [if_neg (by omega), if_neg (by omega)]
    rw [he, hn, hN] at k75
    rw [he, hn]
    simp only [go_sem, ↓reduceIte, ↓reduceDIte, zA, zM, zL, zE, zD, yA, yE, yL, yQ, yT, reduceCtorEq, c32, k75]
    refine opt_by (h78 _ M W ws lg c.buckets base (hm.step hM hW (st0 _)) hb1 hb2 b0 (by omega) b2) fun v1 h1 p1 => ?_
    obtain ⟨st1, G, bs, nb, rfl, gG, lG⟩ := p1
    have nx1 : h.next + 1 ≤ h1.next := st1.next
    have gR := st1.old h.next (Nat.lt_succ_self _)
    simp only [go_sem, ↓reduceIte, ↓reduceDIte, zA, zM, zL, zE, zD, yA, yE, yL, yQ, yT, reduceCtorEq] at gR
    simp only [go_sem, ↓reduceIte, ↓reduceDIte, zA, zM, zL, zE, zD, yA, yE, yL, yQ, yT, reduceCtorEq, gR]
    by_cases hG : G = h.next
    · rw [hG, gR] at gG
      have e1 := congrArg (fun o : Option AO => match o with | some (.row _ n _) => n | _ => 0) gG
      simp at e1
    exact ⟨fin st1, h.next, rfl, .c G M bs nb 308 (by simp [go_sem]) (by simp only [go_sem, ↓reduceIte, ↓reduceDIte, zA, zM, zL, zE, zD, yA, yE, yL, yQ, yT, reduceCtorEq, hG]; exact gG) rfl (by show h.next < h1.next; omega) lG⟩
/-- the reference's store -/
structure RBaseH (h : H) (B : Nat) (c : CfgT) (p : PlT) (M W R : Nat) : Prop where
  ex : ∃ L P T vv lv cv, h.t.get B = some (rowL [.ptr L 0, .ptr M 0, .ptr P 0, .ptr T 0, .ptr R 0, .int .i64 0, .bool false, .nils, .nils, vv, lv, cv] 102) ∧ RLay h L c p (hsL c)
  pr : ∃ n : Nat, c.slots = (n : Int) ∧ RPrcu h R n
  lt : B < h.next
structure Post7 (c : CfgT) (h : H) (v : AV) (h' : H) : Prop where
  st : StepN h h'
  ex : ∃ B p M W R ws, v = .tup [.ptr B 0, .int .i64 0] ∧ p.ow = 0 ∧ (∃ w : Nat, p.wo = (w : Int) ∧ Zero w c.slots ws) ∧ c.slots < p.wo ∧ ws.length ≤ 5000 ∧ RMem h' M W ws .nils ∧ M < h'.next ∧ W < h'.next ∧ h.next ≤ M ∧ h.next ≤ W ∧ ∀ h2, StepX M W h' h2 → RBaseH h2 B c p M W R
def F27 (call : CallE) : Prop := ∀ h c v, RdL none 1 h v (uL c.cuts) → (∀ a, own v = some a → a < h.next) → (∀ x ∈ c.cuts, inU x) → layB c → (hsL c).length ≤ 60 → ∃ v' h', call 27 [.agg (cfgC c v)] h = some (v', h') ∧ Post27 c h v' h'
def F29 (call : CallE) : Prop := ∀ h L c p (W : Nat), RLay h L c p (hsL c) → PlOK c p → 0 ≤ c.slots → (hsL c).length ≤ 60 → p.wo = (W : Int) → 0 < W → ∃ v h', call 29 [.ptr L 0] h = some (v, h') ∧ PostI W c.slots h v h'
def F28 (call : CallE) : Prop := ∀ h v (ws : List Int), Own 1 28 h v ws.length (uL ws) → 0 < ws.length → ws.length ≤ 60000 → ∃ v' h', call 28 [v] h = some (v', h') ∧ Post28 ws h v' h'
def F30 (call : CallE) : Prop := ∀ h M W L (ws : List Int) lg c p, M < h.next → W < h.next → RMem h M W ws lg → RLay h L c p (hsL c) → p.wo = (ws.length : Int) → (hsL c).length ≤ 60 → ∃ v h', call 30 [.ptr M 0, .ptr L 0] h = some (v, h') ∧ ((∃ R, v = .tup [.ptr R 0, .int .i64 0]) ∧ StepN h h')
def F31 (call : CallE) : Prop := ∀ h M W L (ws : List Int) lg c p, RMem h M W ws lg → RLay h L c p (hsL c) → p.wo = (ws.length : Int) → ∃ v h', call 31 [.ptr M 0, .ptr L 0] h = some (v, h') ∧ ((∃ R, v = .tup [.ptr R 0, .int .i64 0]) ∧ StepN h h')
def F32 (call : CallE) : Prop := ∀ h M W (ws : List Int) lg c base (n : Nat), RMem h M W ws lg → M < h.next → W < h.next → EngOK c → 0 ≤ base → base + engN c ≤ (ws.length : Int) → ws.length ≤ 60000 → c.slots = (n : Int) → ∃ v h', call 32 [.ptr M 0, .int .u8 c.engine, .int .i64 base, .int .i64 c.slots, .int .i64 c.buckets] h = some (v, h') ∧ PostR n h v h'
set_option maxHeartbeats 1000000 in
theorem w7 (P : Program) [PT P] {call : CallE} (h27 : F27 call) (h29 : F29 call) (h28 : F28 call) (h30 : F30 call) (h31 : F31 call) (h32 : F32 call)
    {h : H} {c : CfgT} {v : AV} (hv : RdL none 1 h v (uL c.cuts)) (hlv : ∀ a, own v = some a → a < h.next) (hin : ∀ x ∈ c.cuts, inU x) (hc : layB c) (hn : (hsL c).length ≤ 60) : WF P call c7 [.agg (cfgC c v)] h (Post7 c h) := by
  have hcE := hc.eng
  have hsl := hcE.1
  have ov := hv.one
  have st0 := StepN.new h (.row (putList 0 (cfgC c v) T.e) 16 27)
  simp only [go_sem, ↓reduceIte, ↓reduceDIte, zA, zM, zL, zE, zD, yA, yE, yL, yQ, yT, reduceCtorEq, c7, ov, cfgC]
  refine opt_by (h27 _ c v (hv.keep fun b hb => st0.old b (hlv b hb)) (fun a ha => Nat.lt_succ_of_lt (hlv a ha)) hin hc hn) fun v1 h1 p1 => ?_
  obtain ⟨⟨L, p, rfl, hL0, hp, hL⟩, st1⟩ := p1
  have g1 := st1.old h.next (Nat.lt_succ_self _)
  simp only [go_sem, ↓reduceIte, ↓reduceDIte, zA, zM, zL, zE, zD, yA, yE, yL, yQ, yT, reduceCtorEq, cfgC] at g1
  have st01 := st0.trans st1
  have nx1 : h.next < h1.next := st1.next
  obtain ⟨w, hw⟩ : ∃ w : Nat, p.wo = (w : Int) := ⟨p.wo.toNat, by have := hp.po; omega⟩
  have hp5 := hp.wo
  have hw0 : 0 < w := by have := hp.po; omega
  obtain ⟨cv, hv', wv, wl, wcs, gL, o1, oh, ow, ew⟩ := id hL.ex
  have hll := oh.lenA
  have hlt := hL.lt
  obtain ⟨n, hnn⟩ : ∃ n : Nat, c.slots = (n : Int) := ⟨c.slots.toNat, by omega⟩
  have f1 : fw .i64 (((hsL c).length : Int) + 1) = (((hsL c).length + 1 : Nat) : Int) := fwI (by omega) (by omega)
  have m1 : 8 * n ≤ 281474976710656 := by omega
  have m2 : n ≤ 281474976710656 := by omega
  have m3 : 8 * ((hsL c).length + 1) ≤ 281474976710656 := by omega
  have m4 : (hsL c).length + 1 ≤ 281474976710656 := by omega
  have c0 : ¬ h.next = h1.next := by omega
  have l0 : ¬ L = h1.next := by omega
  have l1 : ¬ L = h1.next + 1 := by omega
  have l2 : ¬ L = h1.next + 2 := by omega
  have l3 : ¬ L = h1.next + 3 := by omega
  have c1 : ¬ h.next = h1.next + 1 := by omega
  have c2 : ¬ h.next = h1.next + 2 := by omega
  have c3 : ¬ h.next = h1.next + 3 := by omega
  simp only [go_sem, ↓reduceIte, ↓reduceDIte, zA, zM, zL, zE, zD, yA, yE, yL, yQ, yT, reduceCtorEq, g1, gL, cfgC, plC, hll, f1, hnn, evLenN, rep_one, Nat.mul_one, Nat.le_refl, m1, m2, m3, m4, decide_true, Bool.and_self, cond_true, c0, c1, c2, c3, l0, l1, l2, l3]
  obtain ⟨B, hB⟩ : ∃ B, B = h1.next + 3 := ⟨_, rfl⟩
  have st2 : ∀ x y z u k, StepN h1 ⟨h1.next + (3 + k), (((h1.t.set h1.next x).set (h1.next + 1) y).set (h1.next + 2) z).set (h1.next + 3) u⟩ := fun x y z u k => ⟨by show h1.next ≤ h1.next + (3 + k); omega, fun b hb => by
    have e1 : ¬ b = h1.next := by omega
    have e2 : ¬ b = h1.next + 1 := by omega
    have e3 : ¬ b = h1.next + 2 := by omega
    have e4 : ¬ b = h1.next + 3 := by omega
    simp only [go_sem, ↓reduceIte, ↓reduceDIte, zA, zM, zL, zE, zD, yA, yE, yL, yQ, yT, reduceCtorEq, e1, e2, e3, e4]⟩
  refine opt_by (h29 _ L c p w (hL.step (st2 _ _ _ _ 1)) hp (by omega) hn hw hw0) fun v3 h3 p3 => ?_
  obtain ⟨⟨ws, hws, hz⟩, hlo3, st3⟩ := p3
  have hwl := hz.len
  simp only [go_sem, ↓reduceIte, ↓reduceDIte, zA, zM, zL, zE, zD, yA, yE, yL, yQ, yT, reduceCtorEq]
  refine opt_by (h28 h3 v3 ws hws (by omega) (by omega)) fun v4 h4 p4 => ?_
  obtain ⟨st4, M, W, rfl, m4', hM3, hW3, hM4, hW4⟩ := p4
  have nx3 : h1.next + 4 ≤ h3.next := st3.next
  have nx4 := st4.next
  have st34 := st3.trans st4
  have gB4 := st34.old B (by rw [hB]; show h1.next + 3 < h1.next + 4; omega)
  have gC4 := st34.old h.next (by show h.next < h1.next + 4; omega)
  have stL4 : StepN h1 h4 := (st2 _ _ _ _ 1).trans st34
  have CB : ¬ h.next = B := by omega
  have BM : ¬ B = M := by omega
  have BW : ¬ B = W := by omega
  have MB : ¬ M = B := by omega
  have WB : ¬ W = B := by omega
  simp only [go_sem, ↓reduceIte, ↓reduceDIte, zA, zM, zL, zE, zD, yA, yE, yL, yQ, yT, reduceCtorEq, hB] at gB4
  simp only [go_sem, ↓reduceIte, ↓reduceDIte, zA, zM, zL, zE, zD, yA, yE, yL, yQ, yT, reduceCtorEq, c0, c1, c2, c3, g1] at gC4
  rw [← hB] at gB4
  simp only [← hB]
  simp only [go_sem, ↓reduceIte, ↓reduceDIte, zA, zM, zL, zE, zD, yA, yE, yL, yQ, yT, reduceCtorEq, gB4]
  have memS : ∀ (h5 : H) x, RMem h5 M W ws .nils → RMem ⟨h5.next, h5.t.set B x⟩ M W ws .nils := fun h5 x m => ⟨by simp only [go_sem, ↓reduceIte, ↓reduceDIte, zA, zM, zL, zE, zD, yA, yE, yL, yQ, yT, reduceCtorEq, MB]; exact m.g, rfl, by simp only [go_sem, ↓reduceIte, ↓reduceDIte, zA, zM, zL, zE, zD, yA, yE, yL, yQ, yT, reduceCtorEq, WB]; exact m.w, m.ne⟩
  have stS : ∀ (h5 : H) x, StepN h1 h5 → StepN h1 ⟨h5.next, h5.t.set B x⟩ := fun h5 x s => ⟨s.next, fun b hb => by
    have e3 : ¬ b = B := by omega
    simp only [go_sem, ↓reduceIte, ↓reduceDIte, zA, zM, zL, zE, zD, yA, yE, yL, yQ, yT, reduceCtorEq, e3]
    exact s.old b hb⟩
  have hwi : p.wo = (ws.length : Int) := by omega
  refine opt_by (h30 _ M W L ws .nils c p hM4 hW4 (memS h4 _ m4') (hL.step (stS h4 _ stL4)) hwi hn) fun v6 h6 p6 => ?_
  obtain ⟨⟨Po, rfl⟩, st6⟩ := p6
  have nx6 : h4.next ≤ h6.next := st6.next
  have gB6 := st6.old B (by show B < h4.next; omega)
  simp only [go_sem, ↓reduceIte, ↓reduceDIte, zA, zM, zL, zE, zD, yA, yE, yL, yQ, yT, reduceCtorEq] at gB6
  simp only [go_sem, ↓reduceIte, ↓reduceDIte, zA, zM, zL, zE, zD, yA, yE, yL, yQ, yT, reduceCtorEq, gB6]
  have m6 := (memS h4 _ m4').step hM4 hW4 st6
  have stL6 := (stS h4 _ stL4).trans st6
  have hM6 : M < h6.next := by omega
  have hW6 : W < h6.next := by omega
  refine opt_by (h31 _ M W L ws .nils c p (memS h6 _ m6) (hL.step (stS h6 _ stL6)) hwi) fun v7 h7 p7 => ?_
  obtain ⟨⟨To, rfl⟩, st7⟩ := p7
  have nx7 : h6.next ≤ h7.next := st7.next
  have gB7 := st7.old B (by show B < h6.next; omega)
  simp only [go_sem, ↓reduceIte, ↓reduceDIte, zA, zM, zL, zE, zD, yA, yE, yL, yQ, yT, reduceCtorEq] at gB7
  have m7 := (memS h6 _ m6).step hM6 hW6 st7
  have stL7 := (stS h6 _ stL6).trans st7
  have hM7 : M < h7.next := by omega
  have hW7 : W < h7.next := by omega
  have gC7 : h7.t.get h.next = h4.t.get h.next := by
    have k1 := st7.old h.next (by show h.next < h6.next; omega)
    have k2 := st6.old h.next (by show h.next < h4.next; omega)
    simp only [go_sem, ↓reduceIte, ↓reduceDIte, zA, zM, zL, zE, zD, yA, yE, yL, yQ, yT, reduceCtorEq, CB] at k1 k2
    rw [k1, k2]
  rw [gC4] at gC7
  have LB : ¬ L = B := by omega
  have gL7 : h7.t.get L = h1.t.get L := stL7.old L hlt
  rw [gL] at gL7
  simp only [go_sem, ↓reduceIte, ↓reduceDIte, zA, zM, zL, zE, zD, yA, yE, yL, yQ, yT, reduceCtorEq, gB7, gC7, gL7, cfgC, plC, CB, LB]
  have hen := hp.en
  have heng := hp.eng
  have hE := engOK hc
  refine opt_by (h32 _ M W ws .nils c p.en n (memS h7 _ m7) hM7 hW7 hcE (by omega) (by omega) (by omega) hnn) fun v9 h9 p9 => ?_
  obtain ⟨st9, R, rfl, hR⟩ := p9
  have nx9 : h7.next ≤ h9.next := st9.next
  have gB9 := st9.old B (by show B < h7.next; omega)
  simp only [go_sem, ↓reduceIte, ↓reduceDIte, zA, zM, zL, zE, zD, yA, yE, yL, yQ, yT, reduceCtorEq] at gB9
  have m9 := (memS h7 _ m7).step hM7 hW7 st9
  have stL9 := (stS h7 _ stL7).trans st9
  simp only [go_sem, ↓reduceIte, ↓reduceDIte, zA, zM, zL, zE, zD, yA, yE, yL, yQ, yT, reduceCtorEq, gB9, nx9, gB7, gC7, gL7, CB, LB, cfgC, plC]
  have hR9 : ∀ x, RPrcu ⟨h9.next, h9.t.set B (.row x 12 102)⟩ R n := fun x => by
    have k : ∀ {b cells len e}, h9.t.get b = some (.row cells len e) → e ≠ 102 → (h9.t.set B (.row x 12 102)).get b = some (.row cells len e) := fun {b cells len e} g n1 => by
      by_cases e3 : b = B
      · subst e3
        rw [gB9] at g
        simp at g
        exact absurd g.2.2.symm n1
      · simp only [go_sem, ↓reduceIte, ↓reduceDIte, zA, zM, zL, zE, zD, yA, yE, yL, yQ, yT, reduceCtorEq, e3]
        exact g
    refine hR.keep (Nat.le_refl _) (fun hb g _ _ n3 => k g n3) fun G M' base nb ty g hty lG => ?_
    by_cases e3 : G = B
    · subst e3
      rw [gB9] at g
      have e1 := congrArg (fun o : Option AO => match o with | some (.row _ n _) => n | _ => 0) g
      simp at e1
    · simp only [go_sem, ↓reduceIte, ↓reduceDIte, zA, zM, zL, zE, zD, yA, yE, yL, yQ, yT, reduceCtorEq, e3]
      exact g
  refine ⟨st01.trans (stS h9 _ stL9), B, p, M, W, R, ws, rfl, hp.ow, ⟨w, hw, hz⟩, by have := hp.po; omega, by omega, memS h9 _ m9, by show M < h9.next; omega, by show W < h9.next; omega, by omega, by omega, fun h2 sx => ?_⟩
  have hBx := sx.old B (by show B < h9.next; omega) BM BW
  simp only [go_sem, ↓reduceIte, ↓reduceDIte, zA, zM, zL, zE, zD, yA, yE, yL, yQ, yT, reduceCtorEq] at hBx
  exact ⟨⟨L, Po, To, _, _, _, hBx, hL.step ((stS h9 _ stL9).withX sx (by omega) (by omega))⟩, ⟨n, hnn, (hR9 _).off (memS h9 _ m9) sx⟩, Nat.lt_of_lt_of_le (by show B < h9.next; omega) sx.next⟩
end
end Go.Proofs.YtldmhpdjlgoenaaGreatDoor.BN

namespace Go.Proofs.YtldmhpdjlgoenaaGreatDoor.BN
open Go.Proofs.YtldmhpdjlgoenaaGreatDoor.Eo
open Nat renaming reduceAdd → zA, reduceMul → zM, reduceLT → zL, reduceEqDiff → zE, reduceLeDiff → zD
open Int renaming reduceAdd → yA, reduceLE → yE, reduceLT → yL, reduceEq → yQ, reduceToNat → yT
noncomputable section
/-! 36: leapfrog/leapfrogref08.Thread -/
@[go_sem] def c36_s0 : List SQ := [⟨some 2, none, .p (.mv (.c (.bool false)))⟩]
@[go_sem] def c36_s1 : List SQ := [⟨some 3, none, .p (.mv (.t 0))⟩, ⟨some 4, none, .p (.bin .geq 3 false true (.t 3) (.c (.int .i64 0)))⟩, ⟨some 5, none, .p (.mv (.t 4))⟩, ⟨some 6, some (5, true), .p (.mv (.t 0))⟩, ⟨some 7, some (5, true), .p (.bin .lss 3 false true (.t 6) (.c (.int .i64 64)))⟩, ⟨some 8, none, .p (.pick (.t 5) (.t 7) (.c (.bool false)))⟩, ⟨some 2, none, .p (.mv (.t 8))⟩]
@[go_sem] def c36 : CF := ⟨1, (.seq (.ops c36_s0) (.seq (.ops c36_s1) .ret)), [.tmp 2]⟩
/-! 82: (*leapfrog/leapfrogref08.Mem).check -/
@[go_sem] def c82_s0 : List SQ := [⟨some 6, none, .p (.mv (.c (.int .i64 0)))⟩]
@[go_sem] def c82_s1 : List SQ := [⟨some 8, none, .p (.mv (.t 0))⟩, ⟨some 9, none, .p (.bin .eql 97 false true (.t 8) (.c .nilp))⟩, ⟨some 7, none, .p (.mv (.t 9))⟩]
@[go_sem] def c82_s2 : List SQ := [⟨some 6, none, .p (.mv (.c (.int .i64 1)))⟩]
@[go_sem] def c82_s3 : List SQ := [⟨some 11, none, .p (.mv (.t 1))⟩, ⟨some 12, none, .cv (.c (.fn (.func 36) [] [])) [(.t 11)]⟩, ⟨some 13, none, .p (.un .not (.t 12))⟩, ⟨some 10, none, .p (.mv (.t 13))⟩]
@[go_sem] def c82_s4 : List SQ := [⟨some 6, none, .p (.mv (.c (.int .i64 2)))⟩]
@[go_sem] def c82_s5 : List SQ := [⟨some 15, none, .p (.mv (.t 2))⟩, ⟨some 16, none, .p (.bin .lss 3 false true (.t 15) (.c (.int .i64 0)))⟩, ⟨some 17, none, .p (.mv (.t 16))⟩, ⟨some 18, some (17, false), .p (.mv (.t 2))⟩, ⟨some 19, some (17, false), .p (.mv (.t 0))⟩, ⟨some 20, some (17, false), .p (.nilck (.t 19))⟩, ⟨some 21, some (17, false), .p (.fadr 0 (.t 20))⟩, ⟨some 22, some (17, false), .r (.ld none (.t 21))⟩, ⟨some 23, some (17, false), .p (.lenv (.t 22))⟩, ⟨some 24, some (17, false), .p (.bin .geq 3 false false (.t 18) (.t 23))⟩, ⟨some 25, none, .p (.pick (.t 17) (.c (.bool true)) (.t 24))⟩, ⟨some 14, none, .p (.mv (.t 25))⟩]
@[go_sem] def c82_s6 : List SQ := [⟨some 6, none, .p (.mv (.c (.int .i64 3)))⟩]
@[go_sem] def c82_s7 : List SQ := [⟨some 6, none, .p (.mv (.c (.int .i64 0)))⟩]
@[go_sem] def c82 : CF := ⟨3, (.seq (.ops c82_s0) (.seq (.block 0 (.seq (.ops c82_s1) (.cond (.t 7) (.seq (.ops c82_s2) .ret) (.seq (.ops c82_s3) (.cond (.t 10) (.seq (.ops c82_s4) .ret) (.seq (.ops c82_s5) (.cond (.t 14) (.seq (.ops c82_s6) .ret) .skip))))))) (.seq (.ops c82_s7) .ret))), [.tmp 6]⟩
/-! 83: (*leapfrog/leapfrogref08.Mem).access -/
@[go_sem] def c83_s0 : List SQ := [⟨some 13, none, .p (.mv (.t 1))⟩, ⟨some 14, none, .p (.mv (.t 2))⟩, ⟨some 15, none, .p (.mv (.t 3))⟩, ⟨some 16, none, .p (.mv (.t 0))⟩, ⟨some 17, none, .p (.nilck (.t 16))⟩, ⟨some 18, none, .p (.fadr 0 (.t 17))⟩, ⟨some 19, none, .r (.ld none (.t 18))⟩, ⟨some 20, none, .p (.mv (.t 2))⟩, ⟨some 21, none, .p (.iadrS 1 (.t 19) (.t 20))⟩, ⟨some 22, none, .r (.ld none (.t 21))⟩, ⟨some 23, none, .p (.mv (.t 4))⟩, ⟨some 24, none, .p (.mv (.t 5))⟩, ⟨some 25, none, .p (.build [.int .i64 0, .int .i64 0, .int .u8 0, .int .u64 0, .int .u64 0, .bool false] [(0, 1, (.t 13)), (1, 1, (.t 14)), (2, 1, (.t 15)), (3, 1, (.t 22)), (4, 1, (.t 23)), (5, 1, (.t 24))])⟩, ⟨some 12, none, .n (.new 313 [.int .i64 0, .int .i64 0, .int .u8 0, .int .u64 0, .int .u64 0, .bool false])⟩, ⟨none, none, .e (.st 6 (.t 12) (.t 25))⟩]
@[go_sem] def c83_s1 : List SQ := [⟨some 26, none, .p (.mv (.t 0))⟩, ⟨some 27, none, .p (.nilck (.t 26))⟩, ⟨some 28, none, .p (.fadr 0 (.t 27))⟩, ⟨some 29, none, .r (.ld none (.t 28))⟩, ⟨some 30, none, .p (.mv (.t 2))⟩, ⟨some 31, none, .p (.mv (.t 4))⟩, ⟨some 32, none, .p (.iadrS 1 (.t 29) (.t 30))⟩, ⟨none, none, .e (.st 1 (.t 32) (.t 31))⟩]
@[go_sem] def c83_p2 : List (List DQ × Option DQ) := [([⟨0, [(0, none)], none, .p (.mv (.t 0))⟩, ⟨1, [(0, none)], none, .p (.mv (.t 0))⟩, ⟨2, [(34, (some 1))], none, .p (.nilck (.t 34))⟩, ⟨3, [(35, (some 2))], none, .p (.fadr 1 (.t 35))⟩, ⟨4, [(36, (some 3))], none, .r (.ld none (.t 36))⟩, ⟨5, [(12, none)], none, .r (.ld (some 6) (.t 12))⟩, ⟨6, [(38, (some 5))], none, .n (.buildS 313 6 1 [.int .i64 0, .int .i64 0, .int .u8 0, .int .u64 0, .int .u64 0, .bool false] [(0, 6, (.t 38))])⟩], (some ⟨7, [(37, (some 4)), (39, (some 6))], none, .e (.app 313 6 48 (.t 37) (.t 39))⟩)), ([⟨8, [(33, (some 0))], none, .p (.nilck (.t 33))⟩, ⟨9, [(41, (some 8))], none, .p (.fadr 1 (.t 41))⟩], (some ⟨10, [(42, (some 9)), (40, (some 7))], none, .e (.st 1 (.t 42) (.t 40))⟩)), ([], none)]
@[go_sem] def c83 : CF := ⟨6, (.seq (.ops c83_s0) (.seq (.ops c83_s1) (.drw ⟨c83_p2, [(0, 33), (1, 34), (2, 35), (3, 36), (4, 37), (5, 38), (6, 39), (7, 40), (8, 41), (9, 42)], [(⟨4, [(36, (some 3))], none, .r (.ld none (.t 36))⟩, [0]), (⟨5, [(12, none)], none, .r (.ld (some 6) (.t 12))⟩, [0])]⟩))), []⟩
/-! 37: (*leapfrog/leapfrogref08.Mem).CompareAndSwap -/
@[go_sem] def c37_s0 : List SQ := [⟨some 10, none, .p (.mv (.c (.bool false)))⟩, ⟨some 11, none, .p (.mv (.c (.int .i64 0)))⟩]
@[go_sem] def c37_s1 : List SQ := [⟨some 14, none, .p (.mv (.t 0))⟩, ⟨some 15, none, .p (.mv (.t 1))⟩, ⟨some 16, none, .p (.mv (.t 2))⟩, ⟨some 17, none, .cv (.c (.fn (.func 82) [] [])) [(.t 14), (.t 15), (.t 16)]⟩, ⟨some 12, none, .p (.mv (.t 17))⟩]
@[go_sem] def c37_s2 : List SQ := [⟨some 18, none, .p (.mv (.t 12))⟩, ⟨some 19, none, .p (.bin .neq 34 false true (.t 18) (.c (.int .i64 0)))⟩]
@[go_sem] def c37_s3 : List SQ := [⟨some 20, none, .p (.mv (.t 12))⟩, ⟨some 10, none, .p (.mv (.c (.bool false)))⟩, ⟨some 11, none, .p (.mv (.t 20))⟩]
@[go_sem] def c37_s4 : List SQ := [⟨some 21, none, .p (.mv (.t 0))⟩, ⟨some 22, none, .p (.nilck (.t 21))⟩, ⟨some 23, none, .p (.fadr 0 (.t 22))⟩, ⟨some 24, none, .r (.ld none (.t 23))⟩, ⟨some 25, none, .p (.mv (.t 2))⟩, ⟨some 26, none, .p (.iadrS 1 (.t 24) (.t 25))⟩, ⟨some 27, none, .r (.ld none (.t 26))⟩, ⟨some 13, none, .p (.mv (.t 27))⟩]
@[go_sem] def c37_s5 : List SQ := [⟨some 28, none, .p (.mv (.t 13))⟩, ⟨some 29, none, .p (.mv (.t 3))⟩, ⟨some 30, none, .p (.bin .eql 28 false false (.t 28) (.t 29))⟩]
@[go_sem] def c37_s6 : List SQ := [⟨some 31, none, .p (.mv (.t 0))⟩, ⟨some 32, none, .p (.mv (.t 1))⟩, ⟨some 33, none, .p (.mv (.t 2))⟩, ⟨some 34, none, .p (.mv (.t 4))⟩, ⟨some 35, none, .cv (.c (.fn (.func 83) [] [])) [(.t 31), (.t 32), (.t 33), (.c (.int .u8 4)), (.t 34), (.c (.bool true))]⟩]
@[go_sem] def c37_s7 : List SQ := [⟨some 10, none, .p (.mv (.c (.bool true)))⟩, ⟨some 11, none, .p (.mv (.c (.int .i64 0)))⟩]
@[go_sem] def c37_s8 : List SQ := [⟨some 36, none, .p (.mv (.t 0))⟩, ⟨some 37, none, .p (.mv (.t 1))⟩, ⟨some 38, none, .p (.mv (.t 2))⟩, ⟨some 39, none, .p (.mv (.t 13))⟩, ⟨some 40, none, .cv (.c (.fn (.func 83) [] [])) [(.t 36), (.t 37), (.t 38), (.c (.int .u8 4)), (.t 39), (.c (.bool false))]⟩]
@[go_sem] def c37_s9 : List SQ := [⟨some 10, none, .p (.mv (.c (.bool false)))⟩, ⟨some 11, none, .p (.mv (.c (.int .i64 0)))⟩]
@[go_sem] def c37 : CF := ⟨5, (.seq (.ops c37_s0) (.seq (.seq (.ops c37_s1) (.seq (.ops c37_s2) (.cond (.t 19) (.seq (.ops c37_s3) .ret) .skip))) (.seq (.ops c37_s4) (.seq (.seq (.ops c37_s5) (.cond (.t 30) (.seq (.ops c37_s6) (.seq (.ops c37_s7) .ret)) .skip)) (.seq (.ops c37_s8) (.seq (.ops c37_s9) .ret)))))), [.tmp 10, .tmp 11]⟩
/-! 9: leapfrog/leapfrogref30.New -/
@[go_sem] def c9_s0 : List SQ := [⟨some 4, none, .p (.mv (.c .nilp))⟩, ⟨some 5, none, .p (.mv (.c (.int .i64 0)))⟩]
@[go_sem] def c9_s1 : List SQ := [⟨some 6, none, .p (.mv (.t 0))⟩, ⟨some 7, none, .p (.bin .eql 39 false true (.t 6) (.c .nilp))⟩]
@[go_sem] def c9_s2 : List SQ := [⟨some 4, none, .p (.mv (.c .nilp))⟩, ⟨some 5, none, .p (.mv (.c (.int .i64 1)))⟩]
@[go_sem] def c9_s3 : List SQ := [⟨some 8, none, .p (.mv (.t 1))⟩, ⟨some 9, none, .cv (.c (.fn (.func 36) [] [])) [(.t 8)]⟩, ⟨some 10, none, .p (.un .not (.t 9))⟩]
@[go_sem] def c9_s4 : List SQ := [⟨some 4, none, .p (.mv (.c .nilp))⟩, ⟨some 5, none, .p (.mv (.c (.int .i64 2)))⟩]
@[go_sem] def c9_s5 : List SQ := [⟨some 11, none, .p (.mv (.t 0))⟩, ⟨some 12, none, .p (.mv (.t 1))⟩, ⟨some 13, none, .p (.build [.nilp, .int .i64 0, .int .i64 0, .bool false, .int .i64 0] [(0, 1, (.t 11)), (1, 1, (.t 12))])⟩, ⟨some 14, none, .n (.box 118 (.t 13))⟩, ⟨some 4, none, .p (.mv (.t 14))⟩, ⟨some 5, none, .p (.mv (.c (.int .i64 0)))⟩]
@[go_sem] def c9 : CF := ⟨2, (.seq (.ops c9_s0) (.seq (.seq (.ops c9_s1) (.cond (.t 7) (.seq (.ops c9_s2) .ret) .skip)) (.seq (.seq (.ops c9_s3) (.cond (.t 10) (.seq (.ops c9_s4) .ret) .skip)) (.seq (.ops c9_s5) .ret)))), [.tmp 4, .tmp 5]⟩
/-! 10: (*leapfrog/leapfrogref30.Open).Next -/
@[go_sem] def c10_s0 : List SQ := [⟨some 2, none, .p (.mv (.c (.int .u8 0)))⟩]
@[go_sem] def c10_s1 : List SQ := [⟨some 3, none, .p (.mv (.t 0))⟩, ⟨some 4, none, .p (.bin .eql 43 false true (.t 3) (.c .nilp))⟩, ⟨some 5, none, .p (.mv (.t 4))⟩, ⟨some 6, some (5, false), .p (.mv (.t 0))⟩, ⟨some 7, some (5, false), .p (.nilck (.t 6))⟩, ⟨some 8, some (5, false), .p (.fadr 3 (.t 7))⟩, ⟨some 9, some (5, false), .r (.ld none (.t 8))⟩, ⟨some 10, none, .p (.pick (.t 5) (.c (.bool true)) (.t 9))⟩]
@[go_sem] def c10_s2 : List SQ := [⟨some 2, none, .p (.mv (.c (.int .u8 0)))⟩]
@[go_sem] def c10_s3 : List SQ := [⟨some 2, none, .p (.mv (.c (.int .u8 35)))⟩]
@[go_sem] def c10 : CF := ⟨1, (.seq (.ops c10_s0) (.seq (.seq (.ops c10_s1) (.cond (.t 10) (.seq (.ops c10_s2) .ret) .skip)) (.seq (.ops c10_s3) .ret))), [.tmp 2]⟩
/-! 11: (*leapfrog/leapfrogref30.Open).Step -/
@[go_sem] def c11_s0 : List SQ := [⟨some 2, none, .p (.mv (.c (.int .u8 0)))⟩, ⟨some 3, none, .p (.mv (.c (.bool false)))⟩]
@[go_sem] def c11_s1 : List SQ := [⟨some 6, none, .p (.mv (.t 0))⟩, ⟨some 7, none, .cv (.c (.fn (.func 10) [] [])) [(.t 6)]⟩, ⟨some 8, none, .p (.bin .eql 5 false true (.t 7) (.c (.int .u8 0)))⟩]
@[go_sem] def c11_s2 : List SQ := [⟨some 2, none, .p (.mv (.c (.int .u8 0)))⟩, ⟨some 3, none, .p (.mv (.c (.bool false)))⟩]
@[go_sem] def c11_p3 : List (List DQ × Option DQ) := [([⟨0, [(0, none)], none, .p (.mv (.t 0))⟩, ⟨1, [(10, (some 0))], none, .p (.nilck (.t 10))⟩, ⟨2, [(11, (some 1))], none, .p (.fadr 0 (.t 11))⟩, ⟨3, [(12, (some 2))], none, .r (.ld none (.t 12))⟩, ⟨4, [(13, (some 3))], none, .p (.nilck (.t 13))⟩, ⟨5, [(14, (some 4))], none, .p (.fadr 1 (.t 14))⟩, ⟨6, [(15, (some 5))], none, .r (.ld none (.t 15))⟩, ⟨7, [(0, none)], none, .p (.mv (.t 0))⟩, ⟨8, [(17, (some 7))], none, .p (.nilck (.t 17))⟩, ⟨9, [(18, (some 8))], none, .p (.fadr 1 (.t 18))⟩, ⟨10, [(19, (some 9))], none, .r (.ld none (.t 19))⟩, ⟨11, [(0, none)], none, .p (.mv (.t 0))⟩, ⟨12, [(21, (some 11))], none, .p (.nilck (.t 21))⟩, ⟨13, [(22, (some 12))], none, .p (.fadr 0 (.t 22))⟩, ⟨14, [(23, (some 13))], none, .r (.ld none (.t 23))⟩, ⟨15, [(24, (some 14))], none, .p (.nilck (.t 24))⟩, ⟨16, [(25, (some 15))], none, .p (.fadr 0 (.t 25))⟩, ⟨17, [(26, (some 16))], none, .r (.ld none (.t 26))⟩, ⟨18, [(27, (some 17))], none, .p (.nilck (.t 27))⟩, ⟨19, [(28, (some 18))], none, .p (.fadr 16 (.t 28))⟩, ⟨20, [(29, (some 19))], none, .p (.fadr 0 (.t 29))⟩, ⟨21, [(30, (some 20))], none, .r (.ld none (.t 30))⟩, ⟨22, [(0, none)], none, .p (.mv (.t 0))⟩, ⟨23, [(32, (some 22))], none, .p (.nilck (.t 32))⟩, ⟨24, [(33, (some 23))], none, .p (.fadr 2 (.t 33))⟩, ⟨25, [(34, (some 24))], none, .r (.ld none (.t 34))⟩, ⟨26, [(31, (some 21)), (35, (some 25))], none, .p (.bin .add 3 false false (.t 31) (.t 35))⟩, ⟨27, [(0, none)], none, .p (.mv (.t 0))⟩, ⟨28, [(37, (some 27))], none, .p (.nilck (.t 37))⟩, ⟨29, [(38, (some 28))], none, .p (.fadr 1 (.t 38))⟩, ⟨30, [(39, (some 29))], none, .r (.ld none (.t 39))⟩, ⟨31, [(40, (some 30))], none, .p (.conv .u64 (.t 40))⟩, ⟨32, [(41, (some 31))], none, .p (.bin .add 28 false true (.t 41) (.c (.int .u64 1)))⟩], (some ⟨33, [(16, (some 6)), (20, (some 10)), (36, (some 26)), (42, (some 32))], none, .cv (.c (.fn (.func 37) [] [])) [(.t 16), (.t 20), (.t 36), (.c (.int .u64 0)), (.t 42)]⟩)), ([⟨34, [(43, (some 33))], none, .p (.mv (.t 43))⟩, ⟨35, [(9, (some 34))], none, .p (.extr (.t 9) 0)⟩, ⟨36, [(9, (some 34))], none, .p (.extr (.t 9) 1)⟩, ⟨37, [(44, (some 35))], none, .p (.mv (.t 44))⟩, ⟨38, [(45, (some 36))], none, .p (.mv (.t 45))⟩], none)]
@[go_sem] def c11_s4 : List SQ := [⟨some 54, none, .p (.mv (.t 4))⟩, ⟨some 53, none, .p (.mv (.t 54))⟩]
@[go_sem] def c11_s5 : List SQ := [⟨some 55, none, .p (.mv (.t 0))⟩, ⟨some 56, none, .p (.nilck (.t 55))⟩, ⟨some 57, none, .p (.fadr 3 (.t 56))⟩, ⟨none, none, .e (.st 1 (.t 57) (.c (.bool true)))⟩]
@[go_sem] def c11_p6 : List (List DQ × Option DQ) := [([⟨0, [(0, none)], none, .p (.mv (.t 0))⟩, ⟨1, [(59, (some 0))], none, .p (.nilck (.t 59))⟩, ⟨2, [(60, (some 1))], none, .p (.fadr 2 (.t 60))⟩, ⟨3, [(61, (some 2))], none, .r (.ld none (.t 61))⟩, ⟨4, [(62, (some 3))], none, .p (.bin .add 3 false true (.t 62) (.c (.int .i64 1)))⟩, ⟨5, [(0, none)], none, .p (.mv (.t 0))⟩, ⟨6, [(64, (some 5))], none, .p (.nilck (.t 64))⟩, ⟨7, [(65, (some 6))], none, .p (.fadr 0 (.t 65))⟩, ⟨8, [(66, (some 7))], none, .r (.ld none (.t 66))⟩, ⟨9, [(67, (some 8))], none, .p (.nilck (.t 67))⟩, ⟨10, [(68, (some 9))], none, .p (.fadr 0 (.t 68))⟩, ⟨11, [(69, (some 10))], none, .r (.ld none (.t 69))⟩, ⟨12, [(70, (some 11))], none, .p (.nilck (.t 70))⟩, ⟨13, [(71, (some 12))], none, .p (.fadr 0 (.t 71))⟩, ⟨14, [(72, (some 13))], none, .p (.fadr 1 (.t 72))⟩, ⟨15, [(73, (some 14))], none, .r (.ld none (.t 73))⟩, ⟨16, [(63, (some 4)), (74, (some 15))], none, .p (.bin .eql 3 false false (.t 63) (.t 74))⟩, ⟨17, [(75, (some 16))], none, .p (.mv (.t 75))⟩], none)]
@[go_sem] def c11_s7 : List SQ := [⟨some 76, none, .p (.mv (.t 0))⟩, ⟨some 77, none, .p (.mv (.t 0))⟩, ⟨some 78, none, .p (.mv (.t 0))⟩, ⟨some 79, none, .p (.nilck (.t 76))⟩, ⟨some 80, none, .p (.fadr 3 (.t 79))⟩, ⟨none, none, .e (.st 1 (.t 80) (.c (.bool true)))⟩, ⟨some 81, none, .p (.nilck (.t 77))⟩, ⟨some 82, none, .p (.fadr 2 (.t 81))⟩, ⟨none, none, .e (.st 1 (.t 82) (.c (.int .i64 0)))⟩, ⟨some 83, none, .p (.nilck (.t 78))⟩, ⟨some 84, none, .p (.fadr 4 (.t 83))⟩, ⟨none, none, .e (.st 1 (.t 84) (.c (.int .i64 10)))⟩]
@[go_sem] def c11_s8 : List SQ := [⟨some 46, none, .p (.mv (.t 0))⟩, ⟨some 47, none, .p (.nilck (.t 46))⟩, ⟨some 48, none, .p (.fadr 2 (.t 47))⟩, ⟨some 49, none, .r (.ld none (.t 48))⟩, ⟨some 50, none, .p (.bin .add 3 false true (.t 49) (.c (.int .i64 1)))⟩, ⟨some 51, none, .p (.nilck (.t 46))⟩, ⟨some 52, none, .p (.fadr 2 (.t 51))⟩, ⟨none, none, .e (.st 1 (.t 52) (.t 50))⟩]
@[go_sem] def c11_p9 : List (List DQ × Option DQ) := [([⟨0, [(0, none)], none, .p (.mv (.t 0))⟩, ⟨1, [(85, (some 0))], none, .p (.nilck (.t 85))⟩, ⟨2, [(86, (some 1))], none, .p (.fadr 3 (.t 86))⟩, ⟨3, [(87, (some 2))], none, .r (.ld none (.t 87))⟩, ⟨4, [], none, .p (.mv (.c (.int .u8 35)))⟩, ⟨5, [(88, (some 3))], none, .p (.mv (.t 88))⟩], none)]
@[go_sem] def c11 : CF := ⟨1, (.seq (.ops c11_s0) (.seq (.seq (.ops c11_s1) (.cond (.t 8) (.seq (.ops c11_s2) .ret) .skip)) (.seq (.drw ⟨c11_p3, [(0, 10), (1, 11), (2, 12), (3, 13), (4, 14), (5, 15), (6, 16), (7, 17), (8, 18), (9, 19), (10, 20), (11, 21), (12, 22), (13, 23), (14, 24), (15, 25), (16, 26), (17, 27), (18, 28), (19, 29), (20, 30), (21, 31), (22, 32), (23, 33), (24, 34), (25, 35), (26, 36), (27, 37), (28, 38), (29, 39), (30, 40), (31, 41), (32, 42), (33, 43), (34, 9), (35, 44), (36, 45), (37, 4), (38, 5)], []⟩) (.seq (.block 0 (.seq (.ops c11_s4) (.cond (.t 53) (.ops c11_s5) (.seq (.drw ⟨c11_p6, [(0, 59), (1, 60), (2, 61), (3, 62), (4, 63), (5, 64), (6, 65), (7, 66), (8, 67), (9, 68), (10, 69), (11, 70), (12, 71), (13, 72), (14, 73), (15, 74), (16, 75), (17, 58)], []⟩) (.cond (.t 58) (.ops c11_s7) (.ops c11_s8)))))) (.seq (.drw ⟨c11_p9, [(0, 85), (1, 86), (2, 87), (3, 88), (4, 2), (5, 3)], []⟩) .ret))))), [.tmp 2, .tmp 3]⟩
/-! 14: leapfrog/leapfrogref28.New -/
@[go_sem] def c14_s0 : List SQ := [⟨some 4, none, .p (.mv (.c .nilp))⟩, ⟨some 5, none, .p (.mv (.c (.int .i64 0)))⟩]
@[go_sem] def c14_s1 : List SQ := [⟨some 6, none, .p (.mv (.t 0))⟩, ⟨some 7, none, .p (.bin .eql 39 false true (.t 6) (.c .nilp))⟩]
@[go_sem] def c14_s2 : List SQ := [⟨some 4, none, .p (.mv (.c .nilp))⟩, ⟨some 5, none, .p (.mv (.c (.int .i64 1)))⟩]
@[go_sem] def c14_s3 : List SQ := [⟨some 8, none, .p (.mv (.t 1))⟩, ⟨some 9, none, .cv (.c (.fn (.func 36) [] [])) [(.t 8)]⟩, ⟨some 10, none, .p (.un .not (.t 9))⟩]
@[go_sem] def c14_s4 : List SQ := [⟨some 4, none, .p (.mv (.c .nilp))⟩, ⟨some 5, none, .p (.mv (.c (.int .i64 2)))⟩]
@[go_sem] def c14_s5 : List SQ := [⟨some 11, none, .p (.mv (.t 0))⟩, ⟨some 12, none, .p (.mv (.t 1))⟩, ⟨some 13, none, .p (.build [.nilp, .int .i64 0, .nils, .bool false] [(0, 1, (.t 11)), (1, 1, (.t 12))])⟩, ⟨some 14, none, .n (.box 125 (.t 13))⟩, ⟨some 4, none, .p (.mv (.t 14))⟩, ⟨some 5, none, .p (.mv (.c (.int .i64 0)))⟩]
@[go_sem] def c14 : CF := ⟨2, (.seq (.ops c14_s0) (.seq (.seq (.ops c14_s1) (.cond (.t 7) (.seq (.ops c14_s2) .ret) .skip)) (.seq (.seq (.ops c14_s3) (.cond (.t 10) (.seq (.ops c14_s4) .ret) .skip)) (.seq (.ops c14_s5) .ret)))), [.tmp 4, .tmp 5]⟩

theorem w36 (P : Program) {call : CallE} {h : H} (t : Int) : WF P call c36 [.int .i64 t] h fun v h' => v = .bool (decide (0 ≤ t ∧ t < 64)) ∧ h' = h := by
  by_cases h0 : t < 0
  · have e : ¬ (0 ≤ t ∧ t < 64) := by omega
    simp only [go_sem, ↓reduceIte, ↓reduceDIte, zA, zM, zL, zE, zD, yA, yE, yL, yQ, yT, reduceCtorEq, c36, h0, e]
  · by_cases h1 : t < 64
    · have e : 0 ≤ t ∧ t < 64 := by omega
      simp only [go_sem, ↓reduceIte, ↓reduceDIte, zA, zM, zL, zE, zD, yA, yE, yL, yQ, yT, reduceCtorEq, c36, h0, h1, e]
    · have e : ¬ (0 ≤ t ∧ t < 64) := by omega
      simp only [go_sem, ↓reduceIte, ↓reduceDIte, zA, zM, zL, zE, zD, yA, yE, yL, yQ, yT, reduceCtorEq, c36, h0, h1, e]
def F36 (call : CallE) : Prop := ∀ h (t : Int), call 36 [.int .i64 t] h = some (.bool (decide (0 ≤ t ∧ t < 64)), h)
theorem w82 (P : Program) [PT P] {call : CallE} (h36 : F36 call) {h : H} {M W : Nat} {ws : List Int} {lg : AV} (m : RMem h M W ws lg) {t a : Int} (t0 : 0 ≤ t) (t1 : t < 64) (a0 : 0 ≤ a) (a1 : a < (ws.length : Int)) : WF P call c82 [.ptr M 0, .int .i64 t, .int .i64 a] h fun v h' => v = .int .i64 0 ∧ h' = h := by
  have gM := m.g
  have k := h36 h t
  have e : 0 ≤ t ∧ t < 64 := ⟨t0, t1⟩
  have e1 : ¬ a < 0 := by omega
  simp only [go_sem, ↓reduceIte, ↓reduceDIte, zA, zM, zL, zE, zD, yA, yE, yL, yQ, yT, reduceCtorEq, c82, k, e, gM, e1, a1]
theorem w83 (P : Program) {call : CallE} {h : H} {M W : Nat} {ws : List Int} (m : RMem h M W ws .nils) (hM : M < h.next) (hW : W < h.next) {t : Int} {i : Nat} {x z k : Int} {b : Bool} (hx : ws[i]? = some x) :
    WF P call c83 [.ptr M 0, .int .i64 t, .int .i64 (i : Int), .int .u8 k, .int .u64 z, .bool b] h fun v h' => v = .tup [] ∧ StepX M W h h' ∧ ∃ lg, RMem h' M W (ws.set i z) lg := by
  have gM := m.g
  have gW := m.w
  have hi : i < ws.length := (List.getElem?_eq_some_iff.1 hx).1
  have hul := uL_len ws
  have hx1 : (uL ws)[i]? = some (.int .u64 x) := by unfold uL; rw [List.getElem?_map, hx]; rfl
  have e1 : (i : Int) < (ws.length : Int) := by omega
  have MW : ¬ M = W := m.ne
  have WM : ¬ W = M := fun e => MW e.symm
  have M1 : ¬ M = h.next := by omega
  have W1 : ¬ W = h.next := by omega
  have M2 : ¬ M = h.next + 1 := by omega
  have W2 : ¬ W = h.next + 1 := by omega
  have M3 : ¬ M = h.next + 2 := by omega
  have W3 : ¬ W = h.next + 2 := by omega
  have hi1 : i + 1 ≤ ws.length := hi
  have N1 : ¬ h.next = W := by omega
  have N2 : ¬ h.next = M := by omega
  have N3 : ¬ h.next = h.next + 1 := by omega
  have N4 : ¬ h.next + 1 = W := by omega
  have N5 : ¬ h.next + 1 = M := by omega
  have N6 : ¬ h.next = h.next + 2 := by omega
  have N7 : ¬ h.next + 1 = h.next := by omega
  have hap : ∀ (hh : H) (src : List AV), appA hh 313 6 48 .nils 1 src = some (appV hh 6 1, appT hh 313 .nils src) := fun hh src => appA_nil (by decide) (by decide) (by decide)
  simp only [go_sem, ↓reduceIte, ↓reduceDIte, zA, zM, zL, zE, zD, yA, yE, yL, yQ, yT, reduceCtorEq, c83, gM, gW, e1, Nat.mul_one, hx1, hul, hi, hi1, MW, WM, M1, W1, M2, W2, N1, N2, N3, N4, N5, N6, N7, hap]
  unfold appT appV
  simp only [go_sem, ↓reduceIte, ↓reduceDIte, zA, zM, zL, zE, zD, yA, yE, yL, yQ, yT, reduceCtorEq, gM, gW, MW, WM, M1, W1, M2, W2, M3, W3, N1, N2, N3, N4, N5, N6, N7]
  refine ⟨⟨by show h.next ≤ h.next + 3; omega, fun b hb b1 b2 => ?_⟩, .sl (h.next + 2) 0 1 6 none, ⟨?_, rfl, ?_, m.ne⟩⟩
  · have q1 : ¬ b = h.next := by omega
    have q2 : ¬ b = h.next + 1 := by omega
    have q3 : ¬ b = h.next + 2 := by omega
    simp only [go_sem, ↓reduceIte, ↓reduceDIte, zA, zM, zL, zE, zD, yA, yE, yL, yQ, yT, reduceCtorEq, b1, b2, q1, q2, q3]
  · simp only [go_sem, ↓reduceIte, ↓reduceDIte, zA, zM, zL, zE, zD, yA, yE, yL, yQ, yT, reduceCtorEq, List.length_set]
    rfl
  · simp only [go_sem, ↓reduceIte, ↓reduceDIte, zA, zM, zL, zE, zD, yA, yE, yL, yQ, yT, reduceCtorEq, WM, W1, W2, W3, ← uL_set]
    unfold rowL
    rw [List.length_set, hul]
def F82 (call : CallE) : Prop := ∀ h M W (ws : List Int) lg (t a : Int), RMem h M W ws lg → 0 ≤ t → t < 64 → 0 ≤ a → a < (ws.length : Int) → call 82 [.ptr M 0, .int .i64 t, .int .i64 a] h = some (.int .i64 0, h)
def F83 (call : CallE) : Prop := ∀ h M W (ws : List Int) (t x z k : Int) (i : Nat) b, RMem h M W ws .nils → M < h.next → W < h.next → ws[i]? = some x → ∃ v h', call 83 [.ptr M 0, .int .i64 t, .int .i64 (i : Int), .int .u8 k, .int .u64 z, .bool b] h = some (v, h') ∧ (v = .tup [] ∧ StepX M W h h' ∧ ∃ lg, RMem h' M W (ws.set i z) lg)
def Post37 (M W : Nat) (ws : List Int) (h : H) (v : AV) (h' : H) : Prop := v = .tup [.bool true, .int .i64 0] ∧ StepX M W h h' ∧ ∃ lg, RMem h' M W ws lg
theorem w37 (P : Program) [PT P] {call : CallE} (h82 : F82 call) (h83 : F83 call) {h : H} {M W : Nat} {ws : List Int} (m : RMem h M W ws .nils) (hM : M < h.next) (hW : W < h.next) {t : Int} (t0 : 0 ≤ t) (t1 : t < 64) {i : Nat} {x z : Int} (hx : ws[i]? = some x) :
    WF P call c37 [.ptr M 0, .int .i64 t, .int .i64 (i : Int), .int .u64 x, .int .u64 z] h (Post37 M W (ws.set i z) h) := by
  have gM := m.g
  have gW := m.w
  have hi : i < ws.length := (List.getElem?_eq_some_iff.1 hx).1
  have hx1 : (uL ws)[i]? = some (.int .u64 x) := by unfold uL; rw [List.getElem?_map, hx]; rfl
  have e1 : (i : Int) < (ws.length : Int) := by omega
  have k := h82 h M W ws .nils t (i : Int) m t0 t1 (by omega) e1
  simp only [go_sem, ↓reduceIte, ↓reduceDIte, zA, zM, zL, zE, zD, yA, yE, yL, yQ, yT, reduceCtorEq, c37, k, gM, gW, e1, Nat.mul_one, hx1]
  refine opt_by (h83 h M W ws t x z 4 i true m hM hW hx) fun v1 h1 p1 => ?_
  obtain ⟨rfl, sx, lg, m1⟩ := p1
  simp only [go_sem, ↓reduceIte, ↓reduceDIte, zA, zM, zL, zE, zD, yA, yE, yL, yQ, yT, reduceCtorEq]
  exact ⟨rfl, sx, lg, m1⟩
theorem RBaseH.step {h h' : H} {B : Nat} {c : CfgT} {p : PlT} {M W R : Nat} (b : RBaseH h B c p M W R) (s : StepN h h') : RBaseH h' B c p M W R := by
  obtain ⟨⟨L, P, Tw, vv, lv, cv, g, hL⟩, ⟨n, hn, hR⟩, lt⟩ := b
  exact ⟨⟨L, P, Tw, vv, lv, cv, (s.old B lt).trans g, hL.step s⟩, ⟨n, hn, hR.step s⟩, Nat.lt_of_lt_of_le lt s.next⟩
/-- an opening of the reference -/
def ROpen (h : H) (O B : Nat) (over : Bool) : Prop := h.t.get O = some (rowL [.ptr B 0, .int .i64 0, .int .i64 0, .bool over, .int .i64 0] 118)
theorem w9 (P : Program) [PT P] {call : CallE} (h36 : F36 call) {h : H} {B : Nat} : WF P call c9 [.ptr B 0, .int .i64 0] h fun v h' => StepN h h' ∧ ∃ O, v = .tup [.ptr O 0, .int .i64 0] ∧ ROpen h' O B false ∧ h.next ≤ O ∧ O < h'.next := by
  have k := h36 h 0
  simp only [go_sem, ↓reduceIte, ↓reduceDIte, zA, zM, zL, zE, zD, yA, yE, yL, yQ, yT, reduceCtorEq, c9, k]
  exact ⟨StepN.new h _, h.next, rfl, by unfold ROpen; simp only [go_sem, ↓reduceIte, ↓reduceDIte, zA, zM, zL, zE, zD, yA, yE, yL, yQ, yT, reduceCtorEq]; rfl, Nat.le_refl _, Nat.lt_succ_self _⟩
theorem w10 (P : Program) [PT P] {call : CallE} {h : H} {O B : Nat} {over : Bool} (g : ROpen h O B over) : WF P call c10 [.ptr O 0] h fun v h' => v = .int .u8 (if over = true then 0 else 35) ∧ h' = h := by
  unfold ROpen at g
  cases over with
  | true => simp only [go_sem, ↓reduceIte, ↓reduceDIte, zA, zM, zL, zE, zD, yA, yE, yL, yQ, yT, reduceCtorEq, c10, g]
  | false => simp only [go_sem, ↓reduceIte, ↓reduceDIte, zA, zM, zL, zE, zD, yA, yE, yL, yQ, yT, reduceCtorEq, c10, g]
def F10 (call : CallE) : Prop := ∀ h O B over, ROpen h O B over → call 10 [.ptr O 0] h = some (.int .u8 (if over = true then 0 else 35), h)
def F37 (call : CallE) : Prop := ∀ h M W (ws : List Int) (t x z : Int) (i : Nat), RMem h M W ws .nils → M < h.next → W < h.next → 0 ≤ t → t < 64 → ws[i]? = some x → ∃ v h', call 37 [.ptr M 0, .int .i64 t, .int .i64 (i : Int), .int .u64 x, .int .u64 z] h = some (v, h') ∧ Post37 M W (ws.set i z) h v h'
def Post11 (M W O B : Nat) (ws : List Int) (h : H) (v : AV) (h' : H) : Prop := v = .tup [.int .u8 35, .bool true] ∧ h.next ≤ h'.next ∧ (∀ b, b < h.next → b ≠ M → b ≠ W → b ≠ O → h'.t.get b = h.t.get b) ∧ (∃ lg, RMem h' M W ws lg) ∧ ROpen h' O B true
theorem w11 (P : Program) [PT P] {call : CallE} (h10 : F10 call) (h37 : F37 call) {h : H} {O B : Nat} {c : CfgT} {p : PlT} {M W R : Nat} {ws : List Int} (hb : RBaseH h B c p M W R) (ho : p.ow = 0) (m : RMem h M W ws .nils) (hM : M < h.next) (hW : W < h.next) (hO : O < h.next) (g : ROpen h O B false) (OM : O ≠ M) (OW : O ≠ W) (hz : ws[0]? = some 0) :
    WF P call c11 [.ptr O 0] h (Post11 M W O B (ws.set 0 1) h) := by
  obtain ⟨⟨L, P', Tw, vv, lv, cv', gB, hL⟩, _, lt⟩ := hb
  obtain ⟨cv, hv, wv, wl, wcs, gL, o1, oh, ow, ew⟩ := hL.ex
  have k10 := h10 h O B false g
  have g0 := g
  unfold ROpen at g
  have f1 : fw .u64 (0 + 1) = 1 := rfl
  have f2 : fw .u64 0 = 0 := rfl
  have f3 : fw .u64 1 = 1 := rfl
  have f4 : fw .i64 0 = 0 := rfl
  have f5 : fw .i64 (0 + 0) = 0 := rfl
  have k37 := h37 h M W ws 0 0 1 0 m hM hW (by decide) (by decide) hz
  rw [show ((0 : Nat) : Int) = 0 from rfl] at k37
  simp only [go_sem, ↓reduceIte, ↓reduceDIte, zA, zM, zL, zE, zD, yA, yE, yL, yQ, yT, reduceCtorEq, c11, k10, g, gB, gL, cfgC, plC, ho, f1, f2, f3, f4, f5, Int.zero_add, Int.add_zero]
  refine opt_by k37 fun v1 h1 p1 => ?_
  obtain ⟨rfl, sx, lg, m1⟩ := p1
  have nx := sx.next
  have g1 := (sx.old O hO OM OW).trans g
  have MO : ¬ M = O := fun e => OM e.symm
  have WO : ¬ W = O := fun e => OW e.symm
  simp only [go_sem, ↓reduceIte, ↓reduceDIte, zA, zM, zL, zE, zD, yA, yE, yL, yQ, yT, reduceCtorEq, g1, nx]
  refine ⟨rfl, by show h.next ≤ h1.next; omega, fun b hb' b1 b2 b3 => ?_, ⟨lg, ⟨by simp only [go_sem, ↓reduceIte, ↓reduceDIte, zA, zM, zL, zE, zD, yA, yE, yL, yQ, yT, reduceCtorEq, MO]; have := m1.g; rw [List.length_set] at this; exact this, m1.o, by simp only [go_sem, ↓reduceIte, ↓reduceDIte, zA, zM, zL, zE, zD, yA, yE, yL, yQ, yT, reduceCtorEq, WO]; exact m1.w, m1.ne⟩⟩, by unfold ROpen; simp only [go_sem, ↓reduceIte, ↓reduceDIte, zA, zM, zL, zE, zD, yA, yE, yL, yQ, yT, reduceCtorEq]; rfl⟩
  simp only [go_sem, ↓reduceIte, ↓reduceDIte, zA, zM, zL, zE, zD, yA, yE, yL, yQ, yT, reduceCtorEq, b3]
  exact sx.old b hb' b1 b2
theorem w14 (P : Program) [PT P] {call : CallE} (h36 : F36 call) {h : H} {B : Nat} {t : Int} (t0 : 0 ≤ t) (t1 : t < 64) : WF P call c14 [.ptr B 0, .int .i64 t] h fun v h' => (∃ Q, v = .tup [.ptr Q 0, .int .i64 0]) ∧ StepN h h' := by
  have k := h36 h t
  have e : 0 ≤ t ∧ t < 64 := ⟨t0, t1⟩
  simp only [go_sem, ↓reduceIte, ↓reduceDIte, zA, zM, zL, zE, zD, yA, yE, yL, yQ, yT, reduceCtorEq, c14, k, e]
  exact ⟨⟨_, rfl⟩, StepN.new h _⟩
end
end Go.Proofs.YtldmhpdjlgoenaaGreatDoor.BN
