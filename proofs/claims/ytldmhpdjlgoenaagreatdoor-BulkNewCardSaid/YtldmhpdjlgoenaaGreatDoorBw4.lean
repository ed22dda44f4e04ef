/-
  The words of a new store.
  The engines of read sections: New, Open.
-/
import Derived.Test.YtldmhpdjlgoenaaGreatDoorBw3
set_option linter.unusedVariables false
set_option linter.unusedSimpArgs false
namespace Go.Proofs.YtldmhpdjlgoenaaGreatDoor.BN
open Go.Proofs.YtldmhpdjlgoenaaGreatDoor.Eo
open Nat renaming reduceAdd → zA, reduceMul → zM, reduceLT → zL, reduceEqDiff → zE, reduceLeDiff → zD
open Int renaming reduceAdd → yA, reduceLE → yE, reduceLT → yL, reduceEq → yQ, reduceToNat → yT
noncomputable section
/-! 22: (*leapfrog/layout.Layout).Initial -/
@[go_sem] def c22_s0 : List SQ := [⟨some 2, none, .p (.mv (.c .nils))⟩]
@[go_sem] def c22_s1 : List SQ := [⟨some 6, none, .p (.mv (.t 0))⟩, ⟨some 7, none, .p (.bin .eql 64 false true (.t 6) (.c .nilp))⟩]
@[go_sem] def c22_s2 : List SQ := [⟨some 2, none, .p (.mv (.c .nils))⟩]
@[go_sem] def c22_s3 : List SQ := [⟨some 8, none, .p (.mv (.t 0))⟩, ⟨some 9, none, .p (.nilck (.t 8))⟩, ⟨some 10, none, .p (.fadr 16 (.t 9))⟩, ⟨some 11, none, .p (.fadr 9 (.t 10))⟩, ⟨some 12, none, .r (.ld none (.t 11))⟩, ⟨some 13, none, .n (.mksl 28 1 8 [.int .u64 0] (.t 12) (.t 12))⟩, ⟨some 3, none, .p (.mv (.t 13))⟩]
@[go_sem] def c22_s4 : List SQ := [⟨some 14, none, .p (.mv (.t 0))⟩, ⟨some 15, none, .p (.nilck (.t 14))⟩, ⟨some 16, none, .p (.fadr 27 (.t 15))⟩, ⟨some 17, none, .r (.ld none (.t 16))⟩, ⟨some 18, none, .p (.lenv (.t 17))⟩, ⟨some 19, none, .p (.mv (.c (.int .i64 0)))⟩]
@[go_sem] def c22_s5 : List SQ := [⟨some 20, none, .p (.bin .lss 3 false false (.t 19) (.t 18))⟩]
@[go_sem] def c22_s6 : List SQ := [⟨some 21, none, .p (.mv (.t 19))⟩, ⟨some 22, none, .p (.iadrS 1 (.t 17) (.t 19))⟩, ⟨some 23, none, .r (.ld none (.t 22))⟩, ⟨some 4, none, .p (.mv (.t 21))⟩, ⟨some 5, none, .p (.mv (.t 23))⟩]
@[go_sem] def c22_s7 : List SQ := [⟨some 24, none, .p (.mv (.t 4))⟩, ⟨some 25, none, .p (.bin .gtr 3 false true (.t 24) (.c (.int .i64 0)))⟩, ⟨some 26, none, .p (.mv (.t 25))⟩, ⟨some 27, some (26, true), .p (.mv (.t 0))⟩, ⟨some 28, some (26, true), .p (.nilck (.t 27))⟩, ⟨some 29, some (26, true), .p (.fadr 27 (.t 28))⟩, ⟨some 30, some (26, true), .r (.ld none (.t 29))⟩, ⟨some 31, some (26, true), .p (.mv (.t 4))⟩, ⟨some 32, some (26, true), .p (.bin .sub 3 false true (.t 31) (.c (.int .i64 1)))⟩, ⟨some 33, some (26, true), .p (.iadrS 1 (.t 30) (.t 32))⟩, ⟨some 34, some (26, true), .r (.ld none (.t 33))⟩, ⟨some 35, some (26, true), .p (.mv (.t 5))⟩, ⟨some 36, some (26, true), .p (.bin .eql 3 false false (.t 34) (.t 35))⟩, ⟨some 37, none, .p (.pick (.t 26) (.t 36) (.c (.bool false)))⟩]
@[go_sem] def c22_s8 : List SQ := [⟨some 38, none, .p (.mv (.t 3))⟩, ⟨some 39, none, .p (.mv (.t 0))⟩, ⟨some 40, none, .p (.nilck (.t 39))⟩, ⟨some 41, none, .p (.fadr 16 (.t 40))⟩, ⟨some 42, none, .p (.fadr 6 (.t 41))⟩, ⟨some 43, none, .r (.ld none (.t 42))⟩, ⟨some 44, none, .p (.mv (.t 4))⟩, ⟨some 45, none, .p (.bin .add 3 false false (.t 43) (.t 44))⟩, ⟨some 46, none, .p (.bin .sub 3 false true (.t 45) (.c (.int .i64 1)))⟩, ⟨some 47, none, .p (.mv (.t 4))⟩, ⟨some 48, none, .p (.bin .add 3 false true (.t 47) (.c (.int .i64 1)))⟩, ⟨some 49, none, .p (.conv .u64 (.t 48))⟩, ⟨some 50, none, .p (.iadrS 1 (.t 38) (.t 46))⟩, ⟨none, none, .e (.st 1 (.t 50) (.t 49))⟩]
@[go_sem] def c22_p9 : List (List DQ × Option DQ) := [([⟨0, [(3, none)], none, .p (.mv (.t 3))⟩, ⟨1, [(0, none)], none, .p (.mv (.t 0))⟩, ⟨2, [(53, (some 1))], none, .p (.nilck (.t 53))⟩, ⟨3, [(54, (some 2))], none, .p (.fadr 16 (.t 54))⟩, ⟨4, [(55, (some 3))], none, .p (.fadr 5 (.t 55))⟩, ⟨5, [(56, (some 4))], none, .r (.ld none (.t 56))⟩, ⟨6, [(5, none)], none, .p (.mv (.t 5))⟩, ⟨7, [(57, (some 5)), (58, (some 6))], none, .p (.bin .add 3 false false (.t 57) (.t 58))⟩, ⟨8, [(59, (some 7))], none, .p (.bin .sub 3 false true (.t 59) (.c (.int .i64 1)))⟩, ⟨9, [(4, none)], none, .p (.mv (.t 4))⟩, ⟨10, [(61, (some 9))], none, .p (.bin .add 3 false true (.t 61) (.c (.int .i64 1)))⟩], (some ⟨11, [(62, (some 10))], none, .cv (.c (.fn (.func 65) [] [])) [(.c (.int .u64 0)), (.t 62)]⟩)), ([⟨12, [(63, (some 11))], none, .p (.mv (.t 63))⟩, ⟨13, [(51, (some 12))], none, .p (.extr (.t 51) 0)⟩, ⟨14, [(51, (some 12))], none, .p (.extr (.t 51) 1)⟩, ⟨15, [(52, (some 0)), (60, (some 8))], none, .p (.iadrS 1 (.t 52) (.t 60))⟩], (some ⟨16, [(66, (some 15)), (64, (some 13))], none, .e (.st 1 (.t 66) (.t 64))⟩)), ([], none)]
@[go_sem] def c22_s10 : List SQ := [⟨some 67, none, .p (.bin .add 3 false true (.t 19) (.c (.int .i64 1)))⟩, ⟨some 19, none, .p (.mv (.t 67))⟩]
def c22_l11 : CC := (.seq (.ops c22_s5) (.seq (.cond (.t 20) .skip (.exit 0)) (.seq (.block 1 (.seq (.ops c22_s6) (.seq (.ops c22_s7) (.cond (.t 37) (.ops c22_s8) (.drw ⟨c22_p9, [(0, 52), (1, 53), (2, 54), (3, 55), (4, 56), (5, 57), (6, 58), (7, 59), (8, 60), (9, 61), (10, 62), (11, 63), (12, 51), (13, 64), (14, 65), (15, 66)], [(⟨5, [(56, (some 4))], none, .r (.ld none (.t 56))⟩, [1])]⟩))))) (.ops c22_s10))))
@[go_sem] def c22_s12 : List SQ := [⟨some 68, none, .p (.mv (.t 3))⟩, ⟨some 2, none, .p (.mv (.t 68))⟩]
@[go_sem] def c22 : CF := ⟨1, (.seq (.ops c22_s0) (.seq (.seq (.ops c22_s1) (.cond (.t 7) (.seq (.ops c22_s2) .ret) .skip)) (.seq (.ops c22_s3) (.seq (.seq (.ops c22_s4) (.block 0 (.loop c22_l11))) (.seq (.ops c22_s12) .ret))))), [.tmp 2]⟩

def F65 (call : CallE) : Prop := ∀ h (t : Int), 0 ≤ t → t ≤ 1024 → call 65 [.int .u64 0, .int .i64 t] h = some (.tup [.int .u64 t, .int .i64 0], h)
/-- words whose first ones are 0 -/
structure Zero (W : Nat) (s : Int) (ws : List Int) : Prop where
  len : ws.length = W
  zero : ∀ i : Nat, (i : Int) < s → ws[i]? = some 0
theorem Zero.set {W : Nat} {s : Int} {ws : List Int} (z : Zero W s ws) {j : Nat} (hj : s ≤ (j : Int)) (x : Int) : Zero W s (ws.set j x) := ⟨by rw [List.length_set]; exact z.len, fun i hi => by
  rw [List.getElem?_set, if_neg (by omega)]
  exact z.zero i hi⟩
def I22 (h0 : H) (L : Nat) (hv : AV) (W n : Nat) (s : Int) (k : Nat) (tm : T AV) (h : H) : Prop :=
  tm.get 0 = some (.ptr L 0) ∧ tm.get 3 = some (.sl h0.next 0 W 1 (some W)) ∧ tm.get 17 = some hv ∧ tm.get 18 = some (.int .i64 (n : Int)) ∧ h.next = h0.next + 1 ∧ (∀ b, b < h0.next → h.t.get b = h0.t.get b) ∧
    ∃ (i : Nat) (ws : List Int), i + k = n ∧ tm.get 19 = some (.int .i64 (i : Int)) ∧ h.t.get h0.next = some (.row (putList 0 (uL ws) T.e) W 28) ∧ Zero W s ws
theorem uL_set (ws : List Int) (j : Nat) (x : Int) : (uL ws).set j (.int .u64 x) = uL (ws.set j x) := by unfold uL; rw [List.map_set]
theorem uL_len (ws : List Int) : (uL ws).length = ws.length := List.length_map _
theorem step22 (P : Program) {call : CallE} (h65 : F65 call) {h0 : H} {L : Nat} {c : CfgT} {p : PlT} {cv gv hv tv : AV} {val : Int} {hs : List Int} {W : Nat} (hp : PlOK c p) (hlen : (hs.length : Int) = (hsL c).length) (hs0 : 0 ≤ c.slots) (hm : ∀ x ∈ hs, 1 ≤ x ∧ x ≤ 6) (hn : hs.length ≤ 60) (hW : p.wo = (W : Int)) (hL : L < h0.next)
    (gL : h0.t.get L = some (rowL (cfgC c cv ++ (plC p ++ [gv, hv, tv, .int .i64 val])) 167)) (rh : RdL none 1 h0 hv (iL hs)) (rl : ∀ a, own hv = some a → a < h0.next) (k : Nat) (tm : T AV) (h : H) (hI : I22 h0 L hv W hs.length c.slots k tm h) :
    WC P call c22_l11 (loopQ 0 (fun tm h => ∃ j, j < k ∧ I22 h0 L hv W hs.length c.slots j tm h) (fun tm h => tm.get 3 = some (.sl h0.next 0 W 1 (some W)) ∧ StepN h0 h ∧ h0.next < h.next ∧ ∃ ws, h.t.get h0.next = some (.row (putList 0 (uL ws) T.e) W 28) ∧ Zero W c.slots ws) (fun _ _ => False)) tm h := by
  obtain ⟨t0, t3, t17, t18, nx, old, i, ws, hik, t19, gO, z⟩ := hI
  have gL1 := (old L hL).trans gL
  cases k with
  | zero =>
    have e1 : ¬ (i : Int) < (hs.length : Int) := by omega
    simp only [go_sem, ↓reduceIte, ↓reduceDIte, zA, zM, zL, zE, zD, yA, yE, yL, yQ, yT, reduceCtorEq, c22_l11, t18, t19, e1, t3]
    exact ⟨⟨by omega, old⟩, by omega, ws, gO, z⟩
  | succ k =>
    have e1 : (i : Int) < (hs.length : Int) := by omega
    have hi : i < hs.length := by omega
    have p1 := hp.po
    have p2 := hp.li
    have p3 := hp.wo
    have rh1 := rh.keep (h' := h) fun b hb => old b (rl b hb)
    have hil : (iL hs).length = hs.length := List.length_map _
    have hget : ∀ j, j < hs.length → ∃ x, (iL hs)[j]? = some (.int .i64 x) ∧ 1 ≤ x ∧ x ≤ 6 := fun j hj => ⟨hs[j], by unfold iL; rw [List.getElem?_map, List.getElem?_eq_getElem hj]; rfl, hm _ (List.getElem_mem hj)⟩
    rcases rh1 with ⟨rfl, hh⟩ | ⟨a, o, cap, rfl, _, ra⟩
    · rw [hh] at hil; simp at hil; omega
    rw [hil] at gL1 t17
    obtain ⟨x, hx, hx1, hx6⟩ := hget i hi
    have ra1 := ra i _ hx
    rw [rLdA, Nat.mul_one] at ra1
    have f1 : fw .i64 ((i : Int) + 1) = (i : Int) + 1 := fwI (by omega) (by omega)
    have f2 : fw .u64 ((i : Int) + 1) = (i : Int) + 1 := fwU (by omega) (by omega)
    have f3 : fw .i64 (p.po + x) = p.po + x := fwI (by omega) (by omega)
    have f4 : fw .i64 (p.po + x - 1) = p.po + x - 1 := fwI (by omega) (by omega)
    have e3 : ((i + 1 : Nat) : Int) = (i : Int) + 1 := rfl
    have h65' := h65 h ((i : Int) + 1) (by omega) (by omega)
    obtain ⟨q, hq⟩ : ∃ q : Nat, p.po + x - 1 = (q : Int) := ⟨(p.po + x - 1).toNat, by omega⟩
    have fq : fw .i64 (q : Int) = (q : Int) := fwI (by omega) (by omega)
    have hqW : q < W := by omega
    have hqW' : (q : Int) < (W : Int) := by omega
    have hul := uL_len ws
    rw [z.len] at hul
    have fin : ∀ (j : Nat) (y : Int), c.slots ≤ (j : Int) → j < W → ∀ tm' : T AV, tm'.get 0 = some (.ptr L 0) → tm'.get 3 = some (.sl h0.next 0 W 1 (some W)) → tm'.get 17 = some (AV.sl a o hs.length 1 cap) → tm'.get 18 = some (.int .i64 (hs.length : Int)) → tm'.get 19 = some (.int .i64 ((i : Int) + 1)) →
        ∃ j', j' < k + 1 ∧ I22 h0 L (AV.sl a o hs.length 1 cap) W hs.length c.slots j' tm' ⟨h.next, h.t.set h0.next (.row (putList 0 ((uL ws).set j (.int .u64 y)) T.e) W 28)⟩ := fun j y h1 h2 tm' a1 a2 a3 a4 a5 =>
      ⟨k, Nat.lt_succ_self k, a1, a2, a3, a4, nx, fun b hb => by
        have e0 : ¬ b = h0.next := by omega
        simp only [go_sem, ↓reduceIte, ↓reduceDIte, zA, zM, zL, zE, zD, yA, yE, yL, yQ, yT, reduceCtorEq, e0]
        exact old b hb, i + 1, ws.set j y, by omega, a5, by simp [go_sem, uL_set], z.set h1 y⟩
    rw [hil]
    by_cases i0 : i = 0
    · subst i0
      rw [Nat.add_zero] at ra1
      have e1' : (0 : Int) < (hs.length : Int) := by omega
      have h651 := h65 h 1 (by decide) (by decide)
      simp only [go_sem, ↓reduceIte, ↓reduceDIte, zA, zM, zL, zE, zD, yA, yE, yL, yQ, yT, reduceCtorEq, c22_l11, t0, t3, t17, t18, t19, e1', Nat.mul_one, ra1, gL1, cfgC, plC, fl1, f3, fq, h651, hq, hqW', gO, hul, hqW, Nat.succ_le_of_lt]
      exact fin q _ (by omega) hqW _ (by simp [go_sem, t0]) (by simp [go_sem, t3]) (by simp [go_sem, t17]) (by simp [go_sem, t18]) (by simp [go_sem])
    · obtain ⟨m, rfl⟩ : ∃ m, i = m + 1 := ⟨i - 1, by omega⟩
      obtain ⟨y, hy, _, _⟩ := hget m (by omega)
      have ra2 := ra m _ hy
      rw [rLdA, Nat.mul_one] at ra2
      have c1 : ((m + 1 : Nat) : Int) = (m : Int) + 1 := rfl
      have g1 : (0 : Int) < (m : Int) + 1 := by omega
      have k1 : (0 : Int) ≤ (m : Int) + 1 := by omega
      have k2 : ((m : Int) + 1).toNat = m + 1 := by omega
      have g2 : (m : Int) + 1 - 1 = (m : Int) := by omega
      have g3 : fw .i64 (m : Int) = (m : Int) := fwI (by omega) (by omega)
      have g4 : (m : Int) < (hs.length : Int) := by omega
      rw [c1] at e1 f1 f2 h65' t19 fin
      by_cases hxy : y = x
      · have f5 : fw .i64 (p.li + ((m : Int) + 1)) = p.li + ((m : Int) + 1) := fwI (by omega) (by omega)
        have f6 : fw .i64 (p.li + ((m : Int) + 1) - 1) = p.li + ((m : Int) + 1) - 1 := fwI (by omega) (by omega)
        obtain ⟨q2, hq2⟩ : ∃ q : Nat, p.li + ((m : Int) + 1) - 1 = (q : Int) := ⟨(p.li + ((m : Int) + 1) - 1).toNat, by omega⟩
        have fq2 : fw .i64 (q2 : Int) = (q2 : Int) := fwI (by omega) (by omega)
        have hqW2 : q2 < W := by omega
        have hqW2' : (q2 : Int) < (W : Int) := by omega
        simp only [go_sem, ↓reduceIte, ↓reduceDIte, zA, zM, zL, zE, zD, yA, yE, yL, yQ, yT, reduceCtorEq, c22_l11, t0, t3, t17, t18, t19, e1, Nat.mul_one, ra1, ra2, gL1, cfgC, plC, f1, f2, f5, fq2, k1, k2, g1, g2, g3, g4, hxy, hq2, hqW2', gO, hul, hqW2, Nat.succ_le_of_lt]
        exact fin q2 _ (by omega) hqW2 _ (by simp [go_sem, t0]) (by simp [go_sem, t3]) (by simp [go_sem, t17]) (by simp [go_sem, t18]) (by simp [go_sem])
      · simp only [go_sem, ↓reduceIte, ↓reduceDIte, zA, zM, zL, zE, zD, yA, yE, yL, yQ, yT, reduceCtorEq, c22_l11, t0, t3, t17, t18, t19, e1, Nat.mul_one, ra1, ra2, gL1, cfgC, plC, f1, f3, fq, k1, k2, g1, g2, g3, g4, hxy, h65', hq, hqW', gO, hul, hqW, Nat.succ_le_of_lt]
        exact fin q _ (by omega) hqW _ (by simp [go_sem, t0]) (by simp [go_sem, t3]) (by simp [go_sem, t17]) (by simp [go_sem, t18]) (by simp [go_sem])
/-- the words of a new store -/
structure PostI (W : Nat) (s : Int) (h : H) (v : AV) (h' : H) : Prop where
  ex : ∃ ws, Own 1 28 h' v ws.length (uL ws) ∧ Zero W s ws
  lo : ∀ a, own v = some a → h.next ≤ a
  st : StepN h h'
theorem w22 (P : Program) [PT P] {call : CallE} (h65 : F65 call) {h : H} {L : Nat} {c : CfgT} {p : PlT} (hL : LayH h L c p (hsL c)) (hp : PlOK c p) (hs0 : 0 ≤ c.slots) (hn : (hsL c).length ≤ 60) (W : Nat) (hW : p.wo = (W : Int)) (hW0 : 0 < W) :
    WF P call c22 [.ptr L 0] h (PostI W c.slots h) := by
  obtain ⟨cv, gv, hv, tv, val, gL, r1, r2, r3, r4, o1, o2⟩ := hL.ex
  have hlt := hL.lt
  have p3 := hp.wo
  have p2 := hp.li
  have p1 := hp.po
  have e1 : 8 * W ≤ 281474976710656 := by omega
  have e2 : W ≤ 281474976710656 := by omega
  have x1 : ¬ L = h.next := by omega
  have hll := r3.lenA
  unfold iL at hll
  rw [List.length_map] at hll
  have z0 : Zero W c.slots (List.replicate W 0) := ⟨List.length_replicate, fun i hi => by rw [List.getElem?_replicate, if_pos (by omega)]⟩
  have hz : uL (List.replicate W 0) = List.replicate W (.int .u64 0) := by unfold uL; rw [List.map_replicate]
  simp only [go_sem, ↓reduceIte, ↓reduceDIte, zA, zM, zL, zE, zD, yA, yE, yL, yQ, yT, reduceCtorEq, c22, gL, cfgC, plC, x1, hW, evLenN, rep_one, Nat.mul_one, Nat.le_refl, e1, e2, decide_true, Bool.and_self, cond_true, hll]
  refine loop_in (I22 h L hv W (hsL c).length c.slots) _ _ (fun k tm h' hI => step22 P h65 hp rfl hs0 hsL_mem hn hW hlt gL r3 r4 k tm h' hI) (fun tm2 h2 hR => ?_) (fun _ _ hh => hh.elim) (hsL c).length _ _
    ⟨by simp [go_sem], by simp [go_sem], by simp [go_sem], by simp [go_sem], rfl, fun b hb => ?_, 0, List.replicate W 0, by omega, by simp [go_sem], by simp [go_sem, hz], z0⟩
  · obtain ⟨t3, st, hlt2, ws, gO, z⟩ := hR
    simp only [go_sem, ↓reduceIte, ↓reduceDIte, zA, zM, zL, zE, zD, yA, yE, yL, yQ, yT, reduceCtorEq, t3]
    refine ⟨⟨ws, ?_, z⟩, fun a ha => by cases ha; exact Nat.le_refl _, st⟩
    rw [z.len]
    refine .sl _ _ _ _ (.inr rfl) hW0 (by rw [uL_len, z.len, Nat.mul_one]) hlt2 ?_
    rw [gO, rowL, uL_len, z.len]
  · have n1 : ¬ b = h.next := by omega
    simp only [go_sem, ↓reduceIte, ↓reduceDIte, zA, zM, zL, zE, zD, yA, yE, yL, yQ, yT, reduceCtorEq, n1]
end
end Go.Proofs.YtldmhpdjlgoenaaGreatDoor.BN

namespace Go.Proofs.YtldmhpdjlgoenaaGreatDoor.BN
open Go.Proofs.YtldmhpdjlgoenaaGreatDoor.Eo
open Nat renaming reduceAdd → zA, reduceMul → zM, reduceLT → zL, reduceEqDiff → zE, reduceLeDiff → zD
open Int renaming reduceAdd → yA, reduceLE → yE, reduceLT → yL, reduceEq → yQ, reduceToNat → yT
noncomputable section
/-! 104: leapfrog/full.Words -/
@[go_sem] def c104_s0 : List SQ := [⟨some 2, none, .p (.mv (.c (.int .i64 0)))⟩, ⟨some 3, none, .p (.mv (.c (.int .i64 0)))⟩]
@[go_sem] def c104_s1 : List SQ := [⟨some 4, none, .p (.mv (.t 0))⟩, ⟨some 5, none, .p (.bin .lss 3 false true (.t 4) (.c (.int .i64 1)))⟩, ⟨some 6, none, .p (.mv (.t 5))⟩, ⟨some 7, some (6, false), .p (.mv (.t 0))⟩, ⟨some 8, some (6, false), .p (.bin .gtr 3 false true (.t 7) (.c (.int .i64 64)))⟩, ⟨some 9, none, .p (.pick (.t 6) (.c (.bool true)) (.t 8))⟩]
@[go_sem] def c104_s2 : List SQ := [⟨some 2, none, .p (.mv (.c (.int .i64 0)))⟩, ⟨some 3, none, .p (.mv (.c (.int .i64 2)))⟩]
@[go_sem] def c104_s3 : List SQ := [⟨some 10, none, .p (.mv (.t 0))⟩, ⟨some 2, none, .p (.mv (.t 10))⟩, ⟨some 3, none, .p (.mv (.c (.int .i64 0)))⟩]
@[go_sem] def c104 : CF := ⟨1, (.seq (.ops c104_s0) (.seq (.seq (.ops c104_s1) (.cond (.t 9) (.seq (.ops c104_s2) .ret) .skip)) (.seq (.ops c104_s3) .ret))), [.tmp 2, .tmp 3]⟩
/-! 105: leapfrog/each.Words -/
@[go_sem] def c105_s0 : List SQ := [⟨some 2, none, .p (.mv (.c (.int .i64 0)))⟩, ⟨some 3, none, .p (.mv (.c (.int .i64 0)))⟩]
@[go_sem] def c105_s1 : List SQ := [⟨some 4, none, .p (.mv (.t 0))⟩, ⟨some 5, none, .p (.bin .lss 3 false true (.t 4) (.c (.int .i64 1)))⟩, ⟨some 6, none, .p (.mv (.t 5))⟩, ⟨some 7, some (6, false), .p (.mv (.t 0))⟩, ⟨some 8, some (6, false), .p (.bin .gtr 3 false true (.t 7) (.c (.int .i64 64)))⟩, ⟨some 9, none, .p (.pick (.t 6) (.c (.bool true)) (.t 8))⟩]
@[go_sem] def c105_s2 : List SQ := [⟨some 2, none, .p (.mv (.c (.int .i64 0)))⟩, ⟨some 3, none, .p (.mv (.c (.int .i64 2)))⟩]
@[go_sem] def c105_s3 : List SQ := [⟨some 10, none, .p (.mv (.t 0))⟩, ⟨some 11, none, .p (.bin .mul 3 true false (.c (.int .i64 2)) (.t 10))⟩, ⟨some 2, none, .p (.mv (.t 11))⟩, ⟨some 3, none, .p (.mv (.c (.int .i64 0)))⟩]
@[go_sem] def c105 : CF := ⟨1, (.seq (.ops c105_s0) (.seq (.seq (.ops c105_s1) (.cond (.t 9) (.seq (.ops c105_s2) .ret) .skip)) (.seq (.ops c105_s3) .ret))), [.tmp 2, .tmp 3]⟩
/-! 106: leapfrog/gate.Words -/
@[go_sem] def c106_s0 : List SQ := [⟨some 2, none, .p (.mv (.c (.int .i64 0)))⟩, ⟨some 3, none, .p (.mv (.c (.int .i64 0)))⟩]
@[go_sem] def c106_s1 : List SQ := [⟨some 4, none, .p (.mv (.t 0))⟩, ⟨some 5, none, .p (.bin .lss 3 false true (.t 4) (.c (.int .i64 1)))⟩, ⟨some 6, none, .p (.mv (.t 5))⟩, ⟨some 7, some (6, false), .p (.mv (.t 0))⟩, ⟨some 8, some (6, false), .p (.bin .gtr 3 false true (.t 7) (.c (.int .i64 16)))⟩, ⟨some 9, none, .p (.pick (.t 6) (.c (.bool true)) (.t 8))⟩]
@[go_sem] def c106_s2 : List SQ := [⟨some 2, none, .p (.mv (.c (.int .i64 0)))⟩, ⟨some 3, none, .p (.mv (.c (.int .i64 2)))⟩]
@[go_sem] def c106_s3 : List SQ := [⟨some 10, none, .p (.mv (.t 0))⟩, ⟨some 11, none, .p (.bin .mul 3 true false (.c (.int .i64 4)) (.t 10))⟩, ⟨some 2, none, .p (.mv (.t 11))⟩, ⟨some 3, none, .p (.mv (.c (.int .i64 0)))⟩]
@[go_sem] def c106 : CF := ⟨1, (.seq (.ops c106_s0) (.seq (.seq (.ops c106_s1) (.cond (.t 9) (.seq (.ops c106_s2) .ret) .skip)) (.seq (.ops c106_s3) .ret))), [.tmp 2, .tmp 3]⟩
/-! 69: leapfrog/prcu.Words -/
@[go_sem] def c69_s0 : List SQ := [⟨some 6, none, .p (.mv (.c (.int .i64 0)))⟩, ⟨some 7, none, .p (.mv (.c (.int .i64 0)))⟩]
@[go_sem] def c69_s1 : List SQ := [⟨some 8, none, .p (.mv (.t 1))⟩, ⟨some 9, none, .p (.bin .lss 3 false true (.t 8) (.c (.int .i64 1)))⟩, ⟨some 10, none, .p (.mv (.t 9))⟩, ⟨some 11, some (10, false), .p (.mv (.t 1))⟩, ⟨some 12, some (10, false), .p (.bin .gtr 3 false true (.t 11) (.c (.int .i64 64)))⟩, ⟨some 13, none, .p (.pick (.t 10) (.c (.bool true)) (.t 12))⟩, ⟨some 14, none, .p (.mv (.t 13))⟩, ⟨some 15, some (14, false), .p (.mv (.t 0))⟩, ⟨some 16, some (14, false), .p (.bin .neq 5 false true (.t 15) (.c (.int .u8 3)))⟩, ⟨some 17, some (14, false), .p (.mv (.t 16))⟩, ⟨some 18, some (17, true), .p (.mv (.t 2))⟩, ⟨some 19, some (17, true), .p (.bin .neq 3 false true (.t 18) (.c (.int .i64 0)))⟩, ⟨some 20, some (14, false), .p (.pick (.t 17) (.t 19) (.c (.bool false)))⟩, ⟨some 21, none, .p (.pick (.t 14) (.c (.bool true)) (.t 20))⟩]
@[go_sem] def c69_s2 : List SQ := [⟨some 6, none, .p (.mv (.c (.int .i64 0)))⟩, ⟨some 7, none, .p (.mv (.c (.int .i64 2)))⟩]
@[go_sem] def c69_s3 : List SQ := [⟨some 22, none, .p (.mv (.t 0))⟩]
@[go_sem] def c69_s4 : List SQ := [⟨some 24, none, .p (.bin .eql 5 false true (.t 22) (.c (.int .u8 1)))⟩, ⟨some 23, none, .p (.mv (.t 24))⟩]
@[go_sem] def c69_s5 : List SQ := [⟨some 25, none, .p (.mv (.t 1))⟩, ⟨some 26, none, .cv (.c (.fn (.func 104) [] [])) [(.t 25)]⟩, ⟨some 27, none, .p (.extr (.t 26) 0)⟩, ⟨some 28, none, .p (.extr (.t 26) 1)⟩, ⟨some 6, none, .p (.mv (.t 27))⟩, ⟨some 7, none, .p (.mv (.t 28))⟩]
@[go_sem] def c69_s6 : List SQ := [⟨some 30, none, .p (.bin .eql 5 false true (.t 22) (.c (.int .u8 2)))⟩, ⟨some 29, none, .p (.mv (.t 30))⟩]
@[go_sem] def c69_s7 : List SQ := [⟨some 31, none, .p (.mv (.t 1))⟩, ⟨some 32, none, .cv (.c (.fn (.func 105) [] [])) [(.t 31)]⟩, ⟨some 33, none, .p (.extr (.t 32) 0)⟩, ⟨some 34, none, .p (.extr (.t 32) 1)⟩, ⟨some 6, none, .p (.mv (.t 33))⟩, ⟨some 7, none, .p (.mv (.t 34))⟩]
@[go_sem] def c69_s8 : List SQ := [⟨some 36, none, .p (.bin .eql 5 false true (.t 22) (.c (.int .u8 3)))⟩, ⟨some 35, none, .p (.mv (.t 36))⟩]
@[go_sem] def c69_s9 : List SQ := [⟨some 37, none, .p (.mv (.t 2))⟩, ⟨some 38, none, .cv (.c (.fn (.func 106) [] [])) [(.t 37)]⟩, ⟨some 39, none, .p (.extr (.t 38) 0)⟩, ⟨some 40, none, .p (.extr (.t 38) 1)⟩, ⟨some 6, none, .p (.mv (.t 39))⟩, ⟨some 7, none, .p (.mv (.t 40))⟩]
@[go_sem] def c69_s10 : List SQ := [⟨some 6, none, .p (.mv (.c (.int .i64 0)))⟩, ⟨some 7, none, .p (.mv (.c (.int .i64 2)))⟩]
@[go_sem] def c69 : CF := ⟨3, (.seq (.ops c69_s0) (.seq (.seq (.ops c69_s1) (.cond (.t 21) (.seq (.ops c69_s2) .ret) .skip)) (.seq (.seq (.ops c69_s3) (.block 0 (.seq (.ops c69_s4) (.cond (.t 23) (.seq (.ops c69_s5) .ret) (.seq (.ops c69_s6) (.cond (.t 29) (.seq (.ops c69_s7) .ret) (.seq (.ops c69_s8) (.cond (.t 35) (.seq (.ops c69_s9) .ret) .skip)))))))) (.seq (.ops c69_s10) .ret)))), [.tmp 6, .tmp 7]⟩
/-! 70: leapfrog/full.New -/
@[go_sem] def c70_s0 : List SQ := [⟨some 6, none, .p (.mv (.c .nilp))⟩, ⟨some 7, none, .p (.mv (.c (.int .i64 0)))⟩]
@[go_sem] def c70_s1 : List SQ := [⟨some 12, none, .p (.mv (.t 0))⟩, ⟨some 13, none, .p (.bin .eql 67 false true (.t 12) (.c .nilp))⟩]
@[go_sem] def c70_s2 : List SQ := [⟨some 6, none, .p (.mv (.c .nilp))⟩, ⟨some 7, none, .p (.mv (.c (.int .i64 1)))⟩]
@[go_sem] def c70_s3 : List SQ := [⟨some 15, none, .p (.mv (.t 2))⟩, ⟨some 16, none, .cv (.c (.fn (.func 104) [] [])) [(.t 15)]⟩, ⟨some 14, none, .p (.mv (.t 16))⟩, ⟨some 17, none, .p (.extr (.t 14) 0)⟩, ⟨some 18, none, .p (.extr (.t 14) 1)⟩, ⟨some 8, none, .p (.mv (.t 17))⟩, ⟨some 9, none, .p (.mv (.t 18))⟩]
@[go_sem] def c70_s4 : List SQ := [⟨some 19, none, .p (.mv (.t 9))⟩, ⟨some 20, none, .p (.bin .neq 34 false true (.t 19) (.c (.int .i64 0)))⟩]
@[go_sem] def c70_s5 : List SQ := [⟨some 21, none, .p (.mv (.t 9))⟩, ⟨some 6, none, .p (.mv (.c .nilp))⟩, ⟨some 7, none, .p (.mv (.t 21))⟩]
@[go_sem] def c70_s6 : List SQ := [⟨some 22, none, .p (.mv (.t 1))⟩, ⟨some 23, none, .p (.bin .lss 3 false true (.t 22) (.c (.int .i64 0)))⟩, ⟨some 24, none, .p (.mv (.t 23))⟩, ⟨some 25, some (24, false), .p (.mv (.t 1))⟩, ⟨some 26, some (24, false), .p (.bin .gtr 3 false true (.t 25) (.c (.int .i64 65536)))⟩, ⟨some 27, none, .p (.pick (.t 24) (.c (.bool true)) (.t 26))⟩]
@[go_sem] def c70_s7 : List SQ := [⟨some 6, none, .p (.mv (.c .nilp))⟩, ⟨some 7, none, .p (.mv (.c (.int .i64 3)))⟩]
@[go_sem] def c70_s8 : List SQ := [⟨some 29, none, .p (.mv (.t 0))⟩, ⟨some 30, none, .p (.mv (.t 1))⟩, ⟨some 31, none, .p (.mv (.t 2))⟩, ⟨some 32, none, .p (.bin .add 3 false false (.t 30) (.t 31))⟩, ⟨some 33, none, .p (.bin .sub 3 false true (.t 32) (.c (.int .i64 1)))⟩, ⟨some 34, none, .cv (.c (.fn (.func 66) [] [])) [(.t 29), (.t 33)]⟩, ⟨some 28, none, .p (.mv (.t 34))⟩, ⟨some 35, none, .p (.extr (.t 28) 0)⟩, ⟨some 36, none, .p (.extr (.t 28) 1)⟩, ⟨some 10, none, .p (.mv (.t 35))⟩, ⟨some 11, none, .p (.mv (.t 36))⟩]
@[go_sem] def c70_s9 : List SQ := [⟨some 37, none, .p (.mv (.t 11))⟩, ⟨some 38, none, .p (.un .not (.t 37))⟩]
@[go_sem] def c70_s10 : List SQ := [⟨some 6, none, .p (.mv (.c .nilp))⟩, ⟨some 7, none, .p (.mv (.c (.int .i64 3)))⟩]
@[go_sem] def c70_p11 : List (List DQ × Option DQ) := [([⟨0, [(0, none)], none, .p (.mv (.t 0))⟩, ⟨1, [(1, none)], none, .p (.mv (.t 1))⟩, ⟨2, [(2, none)], none, .p (.mv (.t 2))⟩, ⟨3, [(41, (some 2)), (41, (some 2))], none, .n (.mksl 28 1 8 [.int .u64 0] (.t 41) (.t 41))⟩, ⟨4, [(2, none)], none, .p (.mv (.t 2))⟩, ⟨5, [(43, (some 4)), (43, (some 4))], none, .n (.mksl 4 1 1 [.bool false] (.t 43) (.t 43))⟩, ⟨6, [(39, (some 0)), (40, (some 1)), (42, (some 3)), (44, (some 5))], none, .p (.build [.nilp, .int .i64 0, .nils, .nils] [(0, 1, (.t 39)), (1, 1, (.t 40)), (2, 1, (.t 42)), (3, 1, (.t 44))])⟩, ⟨7, [(45, (some 6))], none, .n (.box 289 (.t 45))⟩, ⟨8, [(46, (some 7))], none, .p (.mv (.t 46))⟩, ⟨9, [], none, .p (.mv (.c (.int .i64 0)))⟩], none)]
@[go_sem] def c70 : CF := ⟨3, (.seq (.ops c70_s0) (.seq (.seq (.ops c70_s1) (.cond (.t 13) (.seq (.ops c70_s2) .ret) .skip)) (.seq (.seq (.ops c70_s3) (.seq (.ops c70_s4) (.cond (.t 20) (.seq (.ops c70_s5) .ret) .skip))) (.seq (.seq (.ops c70_s6) (.cond (.t 27) (.seq (.ops c70_s7) .ret) .skip)) (.seq (.seq (.ops c70_s8) (.seq (.ops c70_s9) (.cond (.t 38) (.seq (.ops c70_s10) .ret) .skip))) (.seq (.drw ⟨c70_p11, [(0, 39), (1, 40), (2, 41), (3, 42), (4, 43), (5, 44), (6, 45), (7, 46), (8, 6), (9, 7)], []⟩) .ret)))))), [.tmp 6, .tmp 7]⟩
/-! 71: leapfrog/each.New -/
@[go_sem] def c71_s0 : List SQ := [⟨some 4, none, .n (.box 3 (.t 1))⟩, ⟨some 6, none, .p (.mv (.c .nilp))⟩, ⟨some 7, none, .p (.mv (.c (.int .i64 0)))⟩]
@[go_sem] def c71_s1 : List SQ := [⟨some 12, none, .p (.mv (.t 0))⟩, ⟨some 13, none, .p (.bin .eql 67 false true (.t 12) (.c .nilp))⟩]
@[go_sem] def c71_s2 : List SQ := [⟨some 6, none, .p (.mv (.c .nilp))⟩, ⟨some 7, none, .p (.mv (.c (.int .i64 1)))⟩]
@[go_sem] def c71_s3 : List SQ := [⟨some 15, none, .p (.mv (.t 2))⟩, ⟨some 16, none, .cv (.c (.fn (.func 105) [] [])) [(.t 15)]⟩, ⟨some 14, none, .p (.mv (.t 16))⟩, ⟨some 17, none, .p (.extr (.t 14) 0)⟩, ⟨some 18, none, .p (.extr (.t 14) 1)⟩, ⟨some 8, none, .p (.mv (.t 17))⟩, ⟨some 9, none, .p (.mv (.t 18))⟩]
@[go_sem] def c71_s4 : List SQ := [⟨some 19, none, .p (.mv (.t 9))⟩, ⟨some 20, none, .p (.bin .neq 34 false true (.t 19) (.c (.int .i64 0)))⟩]
@[go_sem] def c71_s5 : List SQ := [⟨some 21, none, .p (.mv (.t 9))⟩, ⟨some 6, none, .p (.mv (.c .nilp))⟩, ⟨some 7, none, .p (.mv (.t 21))⟩]
@[go_sem] def c71_s6 : List SQ := [⟨some 22, none, .r (.ld none (.t 4))⟩, ⟨some 23, none, .p (.bin .lss 3 false true (.t 22) (.c (.int .i64 0)))⟩, ⟨some 24, none, .p (.mv (.t 23))⟩, ⟨some 25, some (24, false), .r (.ld none (.t 4))⟩, ⟨some 26, some (24, false), .p (.bin .gtr 3 false true (.t 25) (.c (.int .i64 65536)))⟩, ⟨some 27, none, .p (.pick (.t 24) (.c (.bool true)) (.t 26))⟩]
@[go_sem] def c71_s7 : List SQ := [⟨some 6, none, .p (.mv (.c .nilp))⟩, ⟨some 7, none, .p (.mv (.c (.int .i64 3)))⟩]
@[go_sem] def c71_s8 : List SQ := [⟨some 29, none, .p (.mv (.t 0))⟩, ⟨some 30, none, .r (.ld none (.t 4))⟩, ⟨some 31, none, .p (.mv (.t 8))⟩, ⟨some 32, none, .p (.bin .add 3 false false (.t 30) (.t 31))⟩, ⟨some 33, none, .p (.bin .sub 3 false true (.t 32) (.c (.int .i64 1)))⟩, ⟨some 34, none, .cv (.c (.fn (.func 66) [] [])) [(.t 29), (.t 33)]⟩, ⟨some 28, none, .p (.mv (.t 34))⟩, ⟨some 35, none, .p (.extr (.t 28) 0)⟩, ⟨some 36, none, .p (.extr (.t 28) 1)⟩, ⟨some 10, none, .p (.mv (.t 35))⟩, ⟨some 11, none, .p (.mv (.t 36))⟩]
@[go_sem] def c71_s9 : List SQ := [⟨some 37, none, .p (.mv (.t 11))⟩, ⟨some 38, none, .p (.un .not (.t 37))⟩]
@[go_sem] def c71_s10 : List SQ := [⟨some 6, none, .p (.mv (.c .nilp))⟩, ⟨some 7, none, .p (.mv (.c (.int .i64 3)))⟩]
@[go_sem] def c71_s11 : List SQ := [⟨some 39, none, .p (.mv (.t 0))⟩, ⟨some 40, none, .p (.mv (.t 2))⟩, ⟨some 41, none, .n (.mksl 624 2 16 [.int .u64 0, .bool false] (.t 40) (.t 40))⟩, ⟨some 42, none, .p (.mkfn (.func 107) [] [(.t 4)])⟩, ⟨some 43, none, .p (.build [.nilp, .nils, .nilf] [(0, 1, (.t 39)), (1, 1, (.t 41)), (2, 1, (.t 42))])⟩, ⟨some 44, none, .n (.box 293 (.t 43))⟩, ⟨some 6, none, .p (.mv (.t 44))⟩, ⟨some 7, none, .p (.mv (.c (.int .i64 0)))⟩]
@[go_sem] def c71 : CF := ⟨3, (.seq (.ops c71_s0) (.seq (.seq (.ops c71_s1) (.cond (.t 13) (.seq (.ops c71_s2) .ret) .skip)) (.seq (.ops c71_s3) (.seq (.seq (.ops c71_s4) (.cond (.t 20) (.seq (.ops c71_s5) .ret) .skip)) (.seq (.seq (.ops c71_s6) (.cond (.t 27) (.seq (.ops c71_s7) .ret) .skip)) (.seq (.seq (.ops c71_s8) (.seq (.ops c71_s9) (.cond (.t 38) (.seq (.ops c71_s10) .ret) .skip))) (.seq (.ops c71_s11) .ret))))))), [.tmp 6, .tmp 7]⟩
/-! 72: leapfrog/gate.New -/
@[go_sem] def c72_s0 : List SQ := [⟨some 6, none, .p (.mv (.c .nilp))⟩, ⟨some 7, none, .p (.mv (.c (.int .i64 0)))⟩]
@[go_sem] def c72_s1 : List SQ := [⟨some 12, none, .p (.mv (.t 0))⟩, ⟨some 13, none, .p (.bin .eql 67 false true (.t 12) (.c .nilp))⟩]
@[go_sem] def c72_s2 : List SQ := [⟨some 6, none, .p (.mv (.c .nilp))⟩, ⟨some 7, none, .p (.mv (.c (.int .i64 1)))⟩]
@[go_sem] def c72_s3 : List SQ := [⟨some 15, none, .p (.mv (.t 2))⟩, ⟨some 16, none, .cv (.c (.fn (.func 106) [] [])) [(.t 15)]⟩, ⟨some 14, none, .p (.mv (.t 16))⟩, ⟨some 17, none, .p (.extr (.t 14) 0)⟩, ⟨some 18, none, .p (.extr (.t 14) 1)⟩, ⟨some 8, none, .p (.mv (.t 17))⟩, ⟨some 9, none, .p (.mv (.t 18))⟩]
@[go_sem] def c72_s4 : List SQ := [⟨some 19, none, .p (.mv (.t 9))⟩, ⟨some 20, none, .p (.bin .neq 34 false true (.t 19) (.c (.int .i64 0)))⟩]
@[go_sem] def c72_s5 : List SQ := [⟨some 21, none, .p (.mv (.t 9))⟩, ⟨some 6, none, .p (.mv (.c .nilp))⟩, ⟨some 7, none, .p (.mv (.t 21))⟩]
@[go_sem] def c72_s6 : List SQ := [⟨some 22, none, .p (.mv (.t 1))⟩, ⟨some 23, none, .p (.bin .lss 3 false true (.t 22) (.c (.int .i64 0)))⟩, ⟨some 24, none, .p (.mv (.t 23))⟩, ⟨some 25, some (24, false), .p (.mv (.t 1))⟩, ⟨some 26, some (24, false), .p (.bin .gtr 3 false true (.t 25) (.c (.int .i64 65536)))⟩, ⟨some 27, none, .p (.pick (.t 24) (.c (.bool true)) (.t 26))⟩]
@[go_sem] def c72_s7 : List SQ := [⟨some 6, none, .p (.mv (.c .nilp))⟩, ⟨some 7, none, .p (.mv (.c (.int .i64 3)))⟩]
@[go_sem] def c72_s8 : List SQ := [⟨some 29, none, .p (.mv (.t 0))⟩, ⟨some 30, none, .p (.mv (.t 1))⟩, ⟨some 31, none, .p (.mv (.t 8))⟩, ⟨some 32, none, .p (.bin .add 3 false false (.t 30) (.t 31))⟩, ⟨some 33, none, .p (.bin .sub 3 false true (.t 32) (.c (.int .i64 1)))⟩, ⟨some 34, none, .cv (.c (.fn (.func 66) [] [])) [(.t 29), (.t 33)]⟩, ⟨some 28, none, .p (.mv (.t 34))⟩, ⟨some 35, none, .p (.extr (.t 28) 0)⟩, ⟨some 36, none, .p (.extr (.t 28) 1)⟩, ⟨some 10, none, .p (.mv (.t 35))⟩, ⟨some 11, none, .p (.mv (.t 36))⟩]
@[go_sem] def c72_s9 : List SQ := [⟨some 37, none, .p (.mv (.t 11))⟩, ⟨some 38, none, .p (.un .not (.t 37))⟩]
@[go_sem] def c72_s10 : List SQ := [⟨some 6, none, .p (.mv (.c .nilp))⟩, ⟨some 7, none, .p (.mv (.c (.int .i64 3)))⟩]
@[go_sem] def c72_s11 : List SQ := [⟨some 39, none, .p (.mv (.t 0))⟩, ⟨some 40, none, .p (.mv (.t 1))⟩, ⟨some 41, none, .p (.mv (.t 2))⟩, ⟨some 42, none, .n .mkmap⟩, ⟨some 43, none, .p (.build [.nilp, .int .i64 0, .int .i64 0, .nilm] [(0, 1, (.t 39)), (1, 1, (.t 40)), (2, 1, (.t 41)), (3, 1, (.t 42))])⟩, ⟨some 44, none, .n (.box 296 (.t 43))⟩, ⟨some 6, none, .p (.mv (.t 44))⟩, ⟨some 7, none, .p (.mv (.c (.int .i64 0)))⟩]
@[go_sem] def c72 : CF := ⟨3, (.seq (.ops c72_s0) (.seq (.seq (.ops c72_s1) (.cond (.t 13) (.seq (.ops c72_s2) .ret) .skip)) (.seq (.ops c72_s3) (.seq (.seq (.ops c72_s4) (.cond (.t 20) (.seq (.ops c72_s5) .ret) .skip)) (.seq (.seq (.ops c72_s6) (.cond (.t 27) (.seq (.ops c72_s7) .ret) .skip)) (.seq (.seq (.ops c72_s8) (.seq (.ops c72_s9) (.cond (.t 38) (.seq (.ops c72_s10) .ret) .skip))) (.seq (.ops c72_s11) .ret))))))), [.tmp 6, .tmp 7]⟩
/-! 25: leapfrog/prcu.New -/
@[go_sem] def c25_s0 : List SQ := [⟨some 10, none, .p (.mv (.c .nilp))⟩, ⟨some 11, none, .p (.mv (.c (.int .i64 0)))⟩]
@[go_sem] def c25_s1 : List SQ := [⟨some 19, none, .p (.mv (.t 0))⟩, ⟨some 20, none, .p (.bin .eql 67 false true (.t 19) (.c .nilp))⟩]
@[go_sem] def c25_s2 : List SQ := [⟨some 10, none, .p (.mv (.c .nilp))⟩, ⟨some 11, none, .p (.mv (.c (.int .i64 1)))⟩]
@[go_sem] def c25_s3 : List SQ := [⟨some 22, none, .p (.mv (.t 1))⟩, ⟨some 23, none, .p (.mv (.t 3))⟩, ⟨some 24, none, .p (.mv (.t 4))⟩, ⟨some 25, none, .cv (.c (.fn (.func 69) [] [])) [(.t 22), (.t 23), (.t 24)]⟩, ⟨some 21, none, .p (.mv (.t 25))⟩, ⟨some 26, none, .p (.extr (.t 21) 0)⟩, ⟨some 27, none, .p (.extr (.t 21) 1)⟩, ⟨some 12, none, .p (.mv (.t 26))⟩, ⟨some 13, none, .p (.mv (.t 27))⟩]
@[go_sem] def c25_s4 : List SQ := [⟨some 28, none, .p (.mv (.t 13))⟩, ⟨some 29, none, .p (.bin .neq 34 false true (.t 28) (.c (.int .i64 0)))⟩]
@[go_sem] def c25_s5 : List SQ := [⟨some 30, none, .p (.mv (.t 13))⟩, ⟨some 10, none, .p (.mv (.c .nilp))⟩, ⟨some 11, none, .p (.mv (.t 30))⟩]
@[go_sem] def c25_s6 : List SQ := [⟨some 31, none, .p (.mv (.t 1))⟩, ⟨some 32, none, .p (.mv (.t 3))⟩, ⟨some 33, none, .p (.build [.nili, .int .u8 0, .int .i64 0] [(1, 1, (.t 31)), (2, 1, (.t 32))])⟩, ⟨some 34, none, .n (.box 198 (.t 33))⟩, ⟨some 14, none, .p (.mv (.t 34))⟩]
@[go_sem] def c25_s7 : List SQ := [⟨some 15, none, .p (.mv (.c (.int .i64 0)))⟩]
@[go_sem] def c25_s8 : List SQ := [⟨some 35, none, .p (.mv (.t 1))⟩]
@[go_sem] def c25_s9 : List SQ := [⟨some 51, none, .p (.bin .eql 5 false true (.t 35) (.c (.int .u8 1)))⟩, ⟨some 50, none, .p (.mv (.t 51))⟩]
@[go_sem] def c25_s10 : List SQ := [⟨some 16, none, .p (.mv (.c .nilp))⟩]
@[go_sem] def c25_s11 : List SQ := [⟨some 53, none, .p (.mv (.t 0))⟩, ⟨some 54, none, .p (.mv (.t 2))⟩, ⟨some 55, none, .p (.mv (.t 3))⟩, ⟨some 56, none, .cv (.c (.fn (.func 70) [] [])) [(.t 53), (.t 54), (.t 55)]⟩, ⟨some 52, none, .p (.mv (.t 56))⟩, ⟨some 57, none, .p (.extr (.t 52) 0)⟩, ⟨some 58, none, .p (.extr (.t 52) 1)⟩, ⟨some 16, none, .p (.mv (.t 57))⟩, ⟨some 15, none, .p (.mv (.t 58))⟩]
@[go_sem] def c25_s12 : List SQ := [⟨some 59, none, .p (.mv (.t 14))⟩, ⟨some 60, none, .p (.mv (.t 16))⟩, ⟨some 61, none, .p (.mkif 199 (.t 60))⟩, ⟨some 62, none, .p (.build [.nili] [(0, 1, (.t 61))])⟩, ⟨some 63, none, .p (.mkif 205 (.t 62))⟩, ⟨some 64, none, .p (.nilck (.t 59))⟩, ⟨some 65, none, .p (.fadr 0 (.t 64))⟩, ⟨none, none, .e (.st 1 (.t 65) (.t 63))⟩]
@[go_sem] def c25_s13 : List SQ := [⟨some 67, none, .p (.bin .eql 5 false true (.t 35) (.c (.int .u8 2)))⟩, ⟨some 66, none, .p (.mv (.t 67))⟩]
@[go_sem] def c25_s14 : List SQ := [⟨some 17, none, .p (.mv (.c .nilp))⟩]
@[go_sem] def c25_s15 : List SQ := [⟨some 69, none, .p (.mv (.t 0))⟩, ⟨some 70, none, .p (.mv (.t 2))⟩, ⟨some 71, none, .p (.mv (.t 3))⟩, ⟨some 72, none, .cv (.c (.fn (.func 71) [] [])) [(.t 69), (.t 70), (.t 71)]⟩, ⟨some 68, none, .p (.mv (.t 72))⟩, ⟨some 73, none, .p (.extr (.t 68) 0)⟩, ⟨some 74, none, .p (.extr (.t 68) 1)⟩, ⟨some 17, none, .p (.mv (.t 73))⟩, ⟨some 15, none, .p (.mv (.t 74))⟩]
@[go_sem] def c25_s16 : List SQ := [⟨some 75, none, .p (.mv (.t 14))⟩, ⟨some 76, none, .p (.mv (.t 17))⟩, ⟨some 77, none, .p (.mkif 206 (.t 76))⟩, ⟨some 78, none, .p (.build [.nili] [(0, 1, (.t 77))])⟩, ⟨some 79, none, .p (.mkif 212 (.t 78))⟩, ⟨some 80, none, .p (.nilck (.t 75))⟩, ⟨some 81, none, .p (.fadr 0 (.t 80))⟩, ⟨none, none, .e (.st 1 (.t 81) (.t 79))⟩]
@[go_sem] def c25_s17 : List SQ := [⟨some 18, none, .p (.mv (.c .nilp))⟩]
@[go_sem] def c25_s18 : List SQ := [⟨some 37, none, .p (.mv (.t 0))⟩, ⟨some 38, none, .p (.mv (.t 2))⟩, ⟨some 39, none, .p (.mv (.t 4))⟩, ⟨some 40, none, .cv (.c (.fn (.func 72) [] [])) [(.t 37), (.t 38), (.t 39)]⟩, ⟨some 36, none, .p (.mv (.t 40))⟩, ⟨some 41, none, .p (.extr (.t 36) 0)⟩, ⟨some 42, none, .p (.extr (.t 36) 1)⟩, ⟨some 18, none, .p (.mv (.t 41))⟩, ⟨some 15, none, .p (.mv (.t 42))⟩]
@[go_sem] def c25_s19 : List SQ := [⟨some 43, none, .p (.mv (.t 14))⟩, ⟨some 44, none, .p (.mv (.t 18))⟩, ⟨some 45, none, .p (.mkif 213 (.t 44))⟩, ⟨some 46, none, .p (.build [.nili] [(0, 1, (.t 45))])⟩, ⟨some 47, none, .p (.mkif 219 (.t 46))⟩, ⟨some 48, none, .p (.nilck (.t 43))⟩, ⟨some 49, none, .p (.fadr 0 (.t 48))⟩, ⟨none, none, .e (.st 1 (.t 49) (.t 47))⟩]
@[go_sem] def c25_s20 : List SQ := [⟨some 82, none, .p (.mv (.t 15))⟩, ⟨some 83, none, .p (.bin .neq 34 false true (.t 82) (.c (.int .i64 0)))⟩]
@[go_sem] def c25_s21 : List SQ := [⟨some 84, none, .p (.mv (.t 15))⟩, ⟨some 10, none, .p (.mv (.c .nilp))⟩, ⟨some 11, none, .p (.mv (.t 84))⟩]
@[go_sem] def c25_s22 : List SQ := [⟨some 85, none, .p (.mv (.t 14))⟩, ⟨some 10, none, .p (.mv (.t 85))⟩, ⟨some 11, none, .p (.mv (.c (.int .i64 0)))⟩]
@[go_sem] def c25 : CF := ⟨5, (.seq (.ops c25_s0) (.seq (.seq (.ops c25_s1) (.cond (.t 20) (.seq (.ops c25_s2) .ret) .skip)) (.seq (.seq (.ops c25_s3) (.seq (.ops c25_s4) (.cond (.t 29) (.seq (.ops c25_s5) .ret) .skip))) (.seq (.ops c25_s6) (.seq (.ops c25_s7) (.seq (.seq (.ops c25_s8) (.block 0 (.seq (.ops c25_s9) (.cond (.t 50) (.seq (.ops c25_s10) (.seq (.ops c25_s11) (.ops c25_s12))) (.seq (.ops c25_s13) (.cond (.t 66) (.seq (.ops c25_s14) (.seq (.ops c25_s15) (.ops c25_s16))) (.seq (.ops c25_s17) (.seq (.ops c25_s18) (.ops c25_s19))))))))) (.seq (.seq (.ops c25_s20) (.cond (.t 83) (.seq (.ops c25_s21) .ret) .skip)) (.seq (.ops c25_s22) .ret)))))))), [.tmp 10, .tmp 11]⟩

/-- an engine of sections lies there, with none open -/
inductive PrcuH (h : H) (R : Nat) (n : Nat) : Prop where
  | full (G N B M : Nat) (base kind : Int) (gR : h.t.get R = some (rowL [.ifc 205 (.agg [.ifc 199 (.ptr G 0)]), .int .u8 kind, .int .i64 (n : Int)] 198))
     (gG : h.t.get G = some (rowL [.ptr M 0, .int .i64 base, .sl N 0 n 1 (some n), .sl B 0 n 1 (some n)] 289)) (gN : h.t.get N = some (.row (putList 0 (List.replicate n (.int .u64 0)) T.e) n 28)) (lR : R < h.next) (lG : G < h.next) (lN : N < h.next)
  | each (G N M : Nat) (fv : AV) (kind : Int) (gR : h.t.get R = some (rowL [.ifc 212 (.agg [.ifc 206 (.ptr G 0)]), .int .u8 kind, .int .i64 (n : Int)] 198))
     (gG : h.t.get G = some (rowL [.ptr M 0, .sl N 0 n 2 (some n), fv] 293)) (gN : h.t.get N = some (.row (putList 0 (rep [.int .u64 0, .bool false] (n * 2)) T.e) (n * 2) 624)) (lR : R < h.next) (lG : G < h.next) (lN : N < h.next)
  | gate (G S M : Nat) (base nb kind : Int) (gR : h.t.get R = some (rowL [.ifc 219 (.agg [.ifc 213 (.ptr G 0)]), .int .u8 kind, .int .i64 (n : Int)] 198))
     (gG : h.t.get G = some (rowL [.ptr M 0, .int .i64 base, .int .i64 nb, .map S] 296)) (gS : h.t.get S = some (.map [] 0)) (lR : R < h.next) (lG : G < h.next) (lS : S < h.next)
theorem PrcuH.step {h h' : H} {R n : Nat} (p : PrcuH h R n) (s : StepN h h') : PrcuH h' R n := by
  have l : ∀ {a}, a < h.next → a < h'.next := fun ha => Nat.lt_of_lt_of_le ha s.next
  cases p with
  | full G N B M base kind gR gG gN lR lG lN => exact .full G N B M base kind ((s.old _ lR).trans gR) ((s.old _ lG).trans gG) ((s.old _ lN).trans gN) (l lR) (l lG) (l lN)
  | each G N M fv kind gR gG gN lR lG lN => exact .each G N M fv kind ((s.old _ lR).trans gR) ((s.old _ lG).trans gG) ((s.old _ lN).trans gN) (l lR) (l lG) (l lN)
  | gate G S M base nb kind gR gG gS lR lG lS => exact .gate G S M base nb kind ((s.old _ lR).trans gR) ((s.old _ lG).trans gG) ((s.old _ lS).trans gS) (l lR) (l lG) (l lS)
theorem w104 (P : Program) {call : CallE} {h : H} {n : Int} (h1 : 1 ≤ n) (h2 : n ≤ 64) : WF P call c104 [.int .i64 n] h fun v h' => v = .tup [.int .i64 n, .int .i64 0] ∧ h' = h := by
  have e1 : ¬ n < 1 := by omega
  have e2 : ¬ 64 < n := by omega
  simp only [go_sem, ↓reduceIte, ↓reduceDIte, zA, zM, zL, zE, zD, yA, yE, yL, yQ, yT, reduceCtorEq, c104, e1, e2]
theorem w105 (P : Program) {call : CallE} {h : H} {n : Int} (h1 : 1 ≤ n) (h2 : n ≤ 64) : WF P call c105 [.int .i64 n] h fun v h' => v = .tup [.int .i64 (2 * n), .int .i64 0] ∧ h' = h := by
  have e1 : ¬ n < 1 := by omega
  have e2 : ¬ 64 < n := by omega
  have f1 : fw .i64 (2 * n) = 2 * n := fwI (by omega) (by omega)
  simp only [go_sem, ↓reduceIte, ↓reduceDIte, zA, zM, zL, zE, zD, yA, yE, yL, yQ, yT, reduceCtorEq, c105, e1, e2, f1]
theorem w106 (P : Program) {call : CallE} {h : H} {n : Int} (h1 : 1 ≤ n) (h2 : n ≤ 16) : WF P call c106 [.int .i64 n] h fun v h' => v = .tup [.int .i64 (4 * n), .int .i64 0] ∧ h' = h := by
  have e1 : ¬ n < 1 := by omega
  have e2 : ¬ 16 < n := by omega
  have f1 : fw .i64 (4 * n) = 4 * n := fwI (by omega) (by omega)
  simp only [go_sem, ↓reduceIte, ↓reduceDIte, zA, zM, zL, zE, zD, yA, yE, yL, yQ, yT, reduceCtorEq, c106, e1, e2, f1]
def FW (call : CallE) (f : FuncId) (m k : Int) : Prop := ∀ h (n : Int), 1 ≤ n → n ≤ m → call f [.int .i64 n] h = some (.tup [.int .i64 (k * n), .int .i64 0], h)
/-- the engine and its numbers are valid -/
def EngOK (c : CfgT) : Prop := (1 ≤ c.slots ∧ c.slots ≤ 64) ∧ (c.engine = 1 ∧ c.buckets = 0 ∨ c.engine = 2 ∧ c.buckets = 0 ∨ c.engine = 3 ∧ 1 ≤ c.buckets ∧ c.buckets ≤ 16)
theorem layB.eng {c : CfgT} (h : layB c) : EngOK c := by
  obtain ⟨_, _, h2, h3, h4, h5, h6, _⟩ := h
  refine ⟨h2, ?_⟩
  by_cases e1 : c.engine = 1
  · exact .inl ⟨e1, h6 (by omega)⟩
  by_cases e2 : c.engine = 2
  · exact .inr (.inl ⟨e2, h6 (by omega)⟩)
  · exact .inr (.inr ⟨by omega, h5 (by omega)⟩)
theorem w69 (P : Program) {call : CallE} (h104 : FW call 104 64 1) (h105 : FW call 105 64 2) (h106 : FW call 106 16 4) {h : H} {c : CfgT} (hc : EngOK c) :
    WF P call c69 [.int .u8 c.engine, .int .i64 c.slots, .int .i64 c.buckets] h fun v h' => v = .tup [.int .i64 (engN c), .int .i64 0] ∧ h' = h := by
  obtain ⟨hs, hc⟩ := hc
  have e1 : ¬ c.slots < 1 := by omega
  have e2 : ¬ 64 < c.slots := by omega
  have k1 := h104 h c.slots hs.1 hs.2
  have k2 := h105 h c.slots hs.1 hs.2
  rw [Int.one_mul] at k1
  rcases hc with ⟨he, hb⟩ | ⟨he, hb⟩ | ⟨he, hb1, hb2⟩
  · simp only [go_sem, ↓reduceIte, ↓reduceDIte, zA, zM, zL, zE, zD, yA, yE, yL, yQ, yT, reduceCtorEq, c69, e1, e2, he, hb, k1, engN]
  · simp only [go_sem, ↓reduceIte, ↓reduceDIte, zA, zM, zL, zE, zD, yA, yE, yL, yQ, yT, reduceCtorEq, c69, e1, e2, he, hb, k2, engN]
  · have k3 := h106 h c.buckets hb1 hb2
    simp only [go_sem, ↓reduceIte, ↓reduceDIte, zA, zM, zL, zE, zD, yA, yE, yL, yQ, yT, reduceCtorEq, c69, e1, e2, he, k3, engN]
/-- a word is looked at, or there is none -/
def FPeek (call : CallE) : Prop := ∀ h M W ws (a : Int), MemH h M W ws → call 66 [.ptr M 0, .int .i64 a] h = some ((if h : 0 ≤ a ∧ a.toNat < ws.length then .tup [.int .u64 (ws[a.toNat]'h.2), .bool true] else .tup [.int .u64 0, .bool false]), h)
theorem FPeek.yes {call : CallE} (f : FPeek call) {h : H} {M W : Nat} {ws : List Int} (m : MemH h M W ws) {a : Int} (h0 : 0 ≤ a) (h1 : a < (ws.length : Int)) : ∃ x, call 66 [.ptr M 0, .int .i64 a] h = some (.tup [.int .u64 x, .bool true], h) := by
  have := f h M W ws a m
  rw [dif_pos ⟨h0, by omega⟩] at this
  exact ⟨_, this⟩
theorem FPeek.no {call : CallE} (f : FPeek call) {h : H} {M W : Nat} {ws : List Int} (m : MemH h M W ws) {a : Int} (h1 : (ws.length : Int) ≤ a) : call 66 [.ptr M 0, .int .i64 a] h = some (.tup [.int .u64 0, .bool false], h) := by
  have := f h M W ws a m
  rw [dif_neg (by omega)] at this
  exact this
theorem rep_one0 (x : AV) (n : Nat) : rep [x] n = List.replicate n x := rep_one x n
/-- an engine's object -/
def Eng70 (M : Nat) (n : Nat) (h : H) (v : AV) (h' : H) : Prop := StepN h h' ∧ ∃ G N B base, v = .tup [.ptr G 0, .int .i64 0] ∧ h'.t.get G = some (rowL [.ptr M 0, .int .i64 base, .sl N 0 n 1 (some n), .sl B 0 n 1 (some n)] 289) ∧ h'.t.get N = some (.row (putList 0 (List.replicate n (.int .u64 0)) T.e) n 28) ∧ G < h'.next ∧ N < h'.next
theorem w70 (P : Program) [PT P] {call : CallE} (h104 : FW call 104 64 1) (hpk : FPeek call) {h : H} {M W : Nat} {ws : List Int} (hm : MemH h M W ws) {n : Nat} (h1 : 1 ≤ n) (h2 : n ≤ 64) {base : Int} (b0 : 0 ≤ base) (b1 : base + (n : Int) ≤ (ws.length : Int)) (b2 : base ≤ 60000) :
    WF P call c70 [.ptr M 0, .int .i64 base, .int .i64 (n : Int)] h (Eng70 M n h) := by
  have k1 := h104 h (n : Int) (by omega) (by omega)
  rw [Int.one_mul] at k1
  obtain ⟨x, hx⟩ := hpk.yes hm (a := base + (n : Int) - 1) (by omega) (by omega)
  have f1 : fw .i64 (base + (n : Int)) = base + (n : Int) := fwI (by omega) (by omega)
  have f2 : fw .i64 (base + (n : Int) - 1) = base + (n : Int) - 1 := fwI (by omega) (by omega)
  have e1 : ¬ base < 0 := by omega
  have e2 : ¬ 65536 < base := by omega
  have m1 : 8 * n ≤ 281474976710656 := by omega
  have m2 : n ≤ 281474976710656 := by omega
  have m3 : 1 * n ≤ 281474976710656 := by omega
  simp only [go_sem, ↓reduceIte, ↓reduceDIte, zA, zM, zL, zE, zD, yA, yE, yL, yQ, yT, reduceCtorEq, c70, k1, hx, f1, f2, e1, e2, evLenN, rep_one, Nat.mul_one, Nat.le_refl, m1, m2, m3, decide_true, Bool.and_self, cond_true]
  refine ⟨⟨by show h.next ≤ h.next + 3; omega, fun b hb => ?_⟩, _, _, _, _, rfl, by simp only [go_sem, ↓reduceIte, ↓reduceDIte, zA, zM, zL, zE, zD, yA, yE, yL, yQ, yT, reduceCtorEq]; rfl, ?_, by show h.next + 2 < h.next + 3; omega, by show h.next < h.next + 3; omega⟩
  · have n1 : ¬ b = h.next := by omega
    have n2 : ¬ b = h.next + 1 := by omega
    have n3 : ¬ b = h.next + 2 := by omega
    simp only [go_sem, ↓reduceIte, ↓reduceDIte, zA, zM, zL, zE, zD, yA, yE, yL, yQ, yT, reduceCtorEq, n1, n2, n3]
  · have n1 : ¬ h.next = h.next + 1 := by omega
    have n2 : ¬ h.next = h.next + 2 := by omega
    simp only [go_sem, ↓reduceIte, ↓reduceDIte, zA, zM, zL, zE, zD, yA, yE, yL, yQ, yT, reduceCtorEq, n1, n2]
def Eng71 (M : Nat) (n : Nat) (h : H) (v : AV) (h' : H) : Prop := StepN h h' ∧ ∃ G N fv, v = .tup [.ptr G 0, .int .i64 0] ∧ h'.t.get G = some (rowL [.ptr M 0, .sl N 0 n 2 (some n), fv] 293) ∧ h'.t.get N = some (.row (putList 0 (rep [.int .u64 0, .bool false] (n * 2)) T.e) (n * 2) 624) ∧ G < h'.next ∧ N < h'.next
theorem w71 (P : Program) [PT P] {call : CallE} (h105 : FW call 105 64 2) (hpk : FPeek call) {h : H} {M W : Nat} {ws : List Int} (hm : MemH h M W ws) (hM : M < h.next) (hW : W < h.next) {n : Nat} (h1 : 1 ≤ n) (h2 : n ≤ 64) {base : Int} (b0 : 0 ≤ base) (b1 : base + 2 * (n : Int) ≤ (ws.length : Int)) (b2 : base ≤ 60000) :
    WF P call c71 [.ptr M 0, .int .i64 base, .int .i64 (n : Int)] h (Eng71 M n h) := by
  have st0 := StepN.new h (.row (putList 0 [.int .i64 base] T.e) 1 3)
  have hm1 : MemH ⟨h.next + 1, h.t.set h.next (.row (putList 0 [.int .i64 base] T.e) 1 3)⟩ M W ws := by
    obtain ⟨⟨lg, g, o⟩, w, ne⟩ := hm
    exact ⟨⟨lg, (st0.old M hM).trans g, o⟩, (st0.old W hW).trans w, ne⟩
  have k1 := h105 ⟨h.next + 1, h.t.set h.next (.row (putList 0 [.int .i64 base] T.e) 1 3)⟩ (n : Int) (by omega) (by omega)
  obtain ⟨x, hx⟩ := hpk.yes hm1 (a := base + 2 * (n : Int) - 1) (by omega) (by omega)
  have f1 : fw .i64 (base + 2 * (n : Int)) = base + 2 * (n : Int) := fwI (by omega) (by omega)
  have f2 : fw .i64 (base + 2 * (n : Int) - 1) = base + 2 * (n : Int) - 1 := fwI (by omega) (by omega)
  have e1 : ¬ base < 0 := by omega
  have e2 : ¬ 65536 < base := by omega
  have m1 : 16 * n ≤ 281474976710656 := by omega
  have m2 : n ≤ 281474976710656 := by omega
  simp only [go_sem, ↓reduceIte, ↓reduceDIte, zA, zM, zL, zE, zD, yA, yE, yL, yQ, yT, reduceCtorEq, c71, k1, hx, f1, f2, e1, e2, evLenN, Nat.le_refl, m1, m2, decide_true, Bool.and_self, cond_true]
  refine ⟨⟨by show h.next ≤ h.next + 3; omega, fun b hb => ?_⟩, _, _, _, rfl, by simp only [go_sem, ↓reduceIte, ↓reduceDIte, zA, zM, zL, zE, zD, yA, yE, yL, yQ, yT, reduceCtorEq]; rfl, ?_, by show h.next + 2 < h.next + 3; omega, by show h.next + 1 < h.next + 3; omega⟩
  · have n1 : ¬ b = h.next := by omega
    have n2 : ¬ b = h.next + 1 := by omega
    have n3 : ¬ b = h.next + 2 := by omega
    simp only [go_sem, ↓reduceIte, ↓reduceDIte, zA, zM, zL, zE, zD, yA, yE, yL, yQ, yT, reduceCtorEq, n1, n2, n3]
  · have n1 : ¬ h.next + 1 = h.next + 2 := by omega
    simp only [go_sem, ↓reduceIte, ↓reduceDIte, zA, zM, zL, zE, zD, yA, yE, yL, yQ, yT, reduceCtorEq, n1]
def Eng72 (M : Nat) (h : H) (v : AV) (h' : H) : Prop := StepN h h' ∧ ∃ G S base nb, v = .tup [.ptr G 0, .int .i64 0] ∧ h'.t.get G = some (rowL [.ptr M 0, .int .i64 base, .int .i64 nb, .map S] 296) ∧ h'.t.get S = some (.map [] 0) ∧ G < h'.next ∧ S < h'.next
theorem w72 (P : Program) [PT P] {call : CallE} (h106 : FW call 106 16 4) (hpk : FPeek call) {h : H} {M W : Nat} {ws : List Int} (hm : MemH h M W ws) {n : Int} (h1 : 1 ≤ n) (h2 : n ≤ 16) {base : Int} (b0 : 0 ≤ base) (b1 : base + 4 * n ≤ (ws.length : Int)) (b2 : base ≤ 60000) :
    WF P call c72 [.ptr M 0, .int .i64 base, .int .i64 n] h (Eng72 M h) := by
  have k1 := h106 h n (by omega) (by omega)
  obtain ⟨x, hx⟩ := hpk.yes hm (a := base + 4 * n - 1) (by omega) (by omega)
  have f1 : fw .i64 (base + 4 * n) = base + 4 * n := fwI (by omega) (by omega)
  have f2 : fw .i64 (base + 4 * n - 1) = base + 4 * n - 1 := fwI (by omega) (by omega)
  have e1 : ¬ base < 0 := by omega
  have e2 : ¬ 65536 < base := by omega
  simp only [go_sem, ↓reduceIte, ↓reduceDIte, zA, zM, zL, zE, zD, yA, yE, yL, yQ, yT, reduceCtorEq, c72, k1, hx, f1, f2, e1, e2]
  refine ⟨⟨by show h.next ≤ h.next + 2; omega, fun b hb => ?_⟩, _, _, _, _, rfl, by simp only [go_sem, ↓reduceIte, ↓reduceDIte, zA, zM, zL, zE, zD, yA, yE, yL, yQ, yT, reduceCtorEq]; rfl, ?_, by show h.next + 1 < h.next + 2; omega, by show h.next < h.next + 2; omega⟩
  · have n1 : ¬ b = h.next := by omega
    have n2 : ¬ b = h.next + 1 := by omega
    simp only [go_sem, ↓reduceIte, ↓reduceDIte, zA, zM, zL, zE, zD, yA, yE, yL, yQ, yT, reduceCtorEq, n1, n2]
  · have n1 : ¬ h.next = h.next + 1 := by omega
    simp only [go_sem, ↓reduceIte, ↓reduceDIte, zA, zM, zL, zE, zD, yA, yE, yL, yQ, yT, reduceCtorEq, n1]
theorem MemH.step {h h' : H} {M W : Nat} {ws : List Int} (m : MemH h M W ws) (hM : M < h.next) (hW : W < h.next) (s : StepN h h') : MemH h' M W ws := by
  obtain ⟨⟨lg, g, o⟩, w, ne⟩ := m
  exact ⟨⟨lg, (s.old M hM).trans g, o⟩, (s.old W hW).trans w, ne⟩
def PostP (n : Nat) (h : H) (v : AV) (h' : H) : Prop := StepN h h' ∧ ∃ R, v = .tup [.ptr R 0, .int .i64 0] ∧ PrcuH h' R n
theorem w25 (P : Program) [PT P] {call : CallE} (h69 : ∀ h c, EngOK c → call 69 [.int .u8 c.engine, .int .i64 c.slots, .int .i64 c.buckets] h = some (.tup [.int .i64 (engN c), .int .i64 0], h))
    (h70 : ∀ h M W ws n base, MemH h M W ws → 1 ≤ n → n ≤ 64 → 0 ≤ base → base + ((n : Nat) : Int) ≤ ((ws : List Int).length : Int) → base ≤ 60000 → ∃ v h', call 70 [.ptr M 0, .int .i64 base, .int .i64 (n : Int)] h = some (v, h') ∧ Eng70 M n h v h')
    (h71 : ∀ h M W ws n base, MemH h M W ws → M < h.next → W < h.next → 1 ≤ n → n ≤ 64 → 0 ≤ base → base + 2 * ((n : Nat) : Int) ≤ ((ws : List Int).length : Int) → base ≤ 60000 → ∃ v h', call 71 [.ptr M 0, .int .i64 base, .int .i64 (n : Int)] h = some (v, h') ∧ Eng71 M n h v h')
    (h72 : ∀ h M W ws n base, MemH h M W ws → 1 ≤ n → n ≤ 16 → 0 ≤ base → base + 4 * n ≤ ((ws : List Int).length : Int) → base ≤ 60000 → ∃ v h', call 72 [.ptr M 0, .int .i64 base, .int .i64 n] h = some (v, h') ∧ Eng72 M h v h')
    {h : H} {M W : Nat} {ws : List Int} (hm : MemH h M W ws) (hM : M < h.next) (hW : W < h.next) {c : CfgT} (hc : EngOK c) {base : Int} (b0 : 0 ≤ base) (b1 : base + engN c ≤ (ws.length : Int)) (b2 : base ≤ 60000) {n : Nat} (hn : c.slots = (n : Int)) :
    WF P call c25 [.ptr M 0, .int .u8 c.engine, .int .i64 base, .int .i64 c.slots, .int .i64 c.buckets] h (PostP n h) := by
  have k69 := h69 h c hc
  obtain ⟨hs, hc⟩ := hc
  have st0 : ∀ x, StepN h ⟨h.next + 1, h.t.set h.next x⟩ := fun x => StepN.new h x
  have fin : ∀ {x h1 y}, StepN ⟨h.next + 1, h.t.set h.next x⟩ h1 → StepN h ⟨h1.next, h1.t.set h.next y⟩ := fun {x h1 y} s => ⟨by have := s.next; show h.next ≤ h1.next; have h2 : h.next + 1 ≤ h1.next := this; omega, fun b hb => by
    have e1 : ¬ b = h.next := by omega
    have := s.old b (by show b < h.next + 1; omega)
    simp only [go_sem, ↓reduceIte, ↓reduceDIte, zA, zM, zL, zE, zD, yA, yE, yL, yQ, yT, reduceCtorEq, e1] at this
    simp only [go_sem, ↓reduceIte, ↓reduceDIte, zA, zM, zL, zE, zD, yA, yE, yL, yQ, yT, reduceCtorEq, e1, this]⟩
  rcases hc with ⟨he, hb⟩ | ⟨he, hb⟩ | ⟨he, hb1, hb2⟩
  · have hN : engN c = (n : Int) := by unfold engN; rw [if_pos he, hn]
    rw [he, hb, hn, hN] at k69
    rw [he, hb, hn]
    simp only [go_sem, ↓reduceIte, ↓reduceDIte, zA, zM, zL, zE, zD, yA, yE, yL, yQ, yT, reduceCtorEq, c25, k69]
    refine opt_by (h70 _ M W ws n base (hm.step hM hW (st0 _)) (by omega) (by omega) b0 (by omega) b2) fun v1 h1 p1 => ?_
    obtain ⟨st1, G, N, B, bs, rfl, gG, gN, lG, lN⟩ := p1
    have nx1 : h.next + 1 ≤ h1.next := st1.next
    have gR := st1.old h.next (Nat.lt_succ_self _)
    simp only [go_sem, ↓reduceIte, ↓reduceDIte, zA, zM, zL, zE, zD, yA, yE, yL, yQ, yT, reduceCtorEq] at gR
    simp only [go_sem, ↓reduceIte, ↓reduceDIte, zA, zM, zL, zE, zD, yA, yE, yL, yQ, yT, reduceCtorEq, gR]
    by_cases hG : G = h.next
    · rw [hG, gR] at gG; simp at gG
    by_cases hNn : N = h.next
    · rw [hNn, gR] at gN; simp at gN
    exact ⟨fin st1, h.next, rfl, .full G N B M bs 1 (by simp [go_sem]) (by simp [go_sem, hG, gG]) (by simp [go_sem, hNn, gN]) (by show h.next < h1.next; omega) lG lN⟩
  · have hN : engN c = 2 * (n : Int) := by unfold engN; rw [if_neg (by omega), if_pos he, hn]
    rw [he, hb, hn, hN] at k69
    rw [he, hb, hn]
    simp only [go_sem, ↓reduceIte, ↓reduceDIte, zA, zM, zL, zE, zD, yA, yE, yL, yQ, yT, reduceCtorEq, c25, k69]
    refine opt_by (h71 _ M W ws n base (hm.step hM hW (st0 _)) (Nat.lt_succ_of_lt hM) (Nat.lt_succ_of_lt hW) (by omega) (by omega) b0 (by omega) b2) fun v1 h1 p1 => ?_
    obtain ⟨st1, G, N, fv, rfl, gG, gN, lG, lN⟩ := p1
    have nx1 : h.next + 1 ≤ h1.next := st1.next
    have gR := st1.old h.next (Nat.lt_succ_self _)
    simp only [go_sem, ↓reduceIte, ↓reduceDIte, zA, zM, zL, zE, zD, yA, yE, yL, yQ, yT, reduceCtorEq] at gR
    simp only [go_sem, ↓reduceIte, ↓reduceDIte, zA, zM, zL, zE, zD, yA, yE, yL, yQ, yT, reduceCtorEq, gR]
    by_cases hG : G = h.next
    · rw [hG, gR] at gG; simp at gG
    by_cases hNn : N = h.next
    · rw [hNn, gR] at gN; simp at gN
    exact ⟨fin st1, h.next, rfl, .each G N M fv 2 (by simp [go_sem]) (by simp [go_sem, hG, gG]) (by simp [go_sem, hNn, gN]) (by show h.next < h1.next; omega) lG lN⟩
  · have hN : engN c = 4 * c.buckets := by unfold engN; rw [if_neg (by omega), if_neg (by omega)]
    rw [he, hn, hN] at k69
    rw [he, hn]
    simp only [go_sem, ↓reduceIte, ↓reduceDIte, zA, zM, zL, zE, zD, yA, yE, yL, yQ, yT, reduceCtorEq, c25, k69]
    refine opt_by (h72 _ M W ws c.buckets base (hm.step hM hW (st0 _)) hb1 hb2 b0 (by omega) b2) fun v1 h1 p1 => ?_
    obtain ⟨st1, G, S, bs, nb, rfl, gG, gN, lG, lN⟩ := p1
    have nx1 : h.next + 1 ≤ h1.next := st1.next
    have gR := st1.old h.next (Nat.lt_succ_self _)
    simp only [go_sem, ↓reduceIte, ↓reduceDIte, zA, zM, zL, zE, zD, yA, yE, yL, yQ, yT, reduceCtorEq] at gR
    simp only [go_sem, ↓reduceIte, ↓reduceDIte, zA, zM, zL, zE, zD, yA, yE, yL, yQ, yT, reduceCtorEq, gR]
    by_cases hG : G = h.next
    · rw [hG, gR] at gG; simp at gG
    by_cases hNn : S = h.next
    · rw [hNn, gR] at gN; simp at gN
    exact ⟨fin st1, h.next, rfl, .gate G S M bs nb 3 (by simp [go_sem]) (by simp [go_sem, hG, gG]) (by simp [go_sem, hNn, gN]) (by show h.next < h1.next; omega) lG lN⟩
end
end Go.Proofs.YtldmhpdjlgoenaaGreatDoor.BN
