/-
  A session is opened.
  Owners, open sections, ranges of keys.
  Operations on ranges: New.
-/
import Derived.Test.YtldmhpdjlgoenaaGreatDoorBw5
set_option linter.unusedVariables false
set_option linter.unusedSimpArgs false
namespace Go.Proofs.YtldmhpdjlgoenaaGreatDoor.BN
open Go.Proofs.YtldmhpdjlgoenaaGreatDoor.Eo
open Nat renaming reduceAdd → zA, reduceMul → zM, reduceLT → zL, reduceEqDiff → zE, reduceLeDiff → zD
open Int renaming reduceAdd → yA, reduceLE → yE, reduceLT → yL, reduceEq → yQ, reduceToNat → yT
noncomputable section
theorem MemG.step {h h' : H} {M W : Nat} {ws : List Int} {lg : AV} (m : MemG h M W ws lg) (hM : M < h.next) (hW : W < h.next) (s : StepN h h') : MemG h' M W ws lg := ⟨(s.old M hM).trans m.g, m.o, (s.old W hW).trans m.w, m.ne⟩
def F102 (call : CallE) : Prop := ∀ h M W ws (t a : Int), MemH h M W ws → call 102 [.ptr M 0, .int .i64 t, .int .i64 a] h = some (.int .i64 (if t < 0 ∨ 64 ≤ t then 2 else if a < 0 ∨ (ws.length : Int) ≤ a then 3 else 0), h)
def F103 (call : CallE) : Prop := ∀ h W i (x : Int), (∃ cs n e, h.t.get W = some (.row (putList 0 cs T.e) n e) ∧ cs[i]? = some (.int .u64 x)) → call 103 [.ptr W i] h = some (.int .u64 x, h)
def F112 (call : CallE) : Prop := ∀ h W i (x z : Int) cs n e, h.t.get W = some (.row (putList 0 cs T.e) n e) → cs[i]? = some (.int .u64 x) → i < n → ∃ v h', call 112 [.ptr W i, .int .u64 x, .int .u64 z] h = some (v, h') ∧ (v = .bool true ∧ h' = ⟨h.next, h.t.set W (.row (putList 0 (cs.set i (.int .u64 z)) T.e) n e)⟩)
def F113 (call : CallE) : Prop := ∀ h M v (t a o w k : Int) b, M < h.next → h.t.get M = some (.row (putList 0 [v, .nils] T.e) 2 177) → ∃ v' h', call 113 [.ptr M 0, .int .i64 t, .int .i64 a, .int .u8 k, .int .u64 o, .int .u64 w, .bool b] h = some (v', h') ∧
  (v' = .tup [] ∧ h.next ≤ h'.next ∧ (∀ b, b < h.next → b ≠ M → h'.t.get b = h.t.get b) ∧ ∃ lg, oneA lg = true ∧ h'.t.get M = some (.row (putList 0 [v, lg] T.e) 2 177))
/-- a word was changed and an access was noted -/
structure Post80 (M W : Nat) (ws : List Int) (h : H) (v : AV) (h' : H) : Prop where
  v : v = .tup [.bool true, .int .i64 0]
  st : StepX M W h h'
  m : ∃ lg, MemG h' M W ws lg
theorem w80 (P : Program) {call : CallE} (h102 : F102 call) (h103 : F103 call) (h112 : F112 call) (h113 : F113 call) {h : H} {M W : Nat} {ws : List Int} (m : MemG h M W ws .nils) (hM : M < h.next) (hW : W < h.next) {t : Int} (t0 : 0 ≤ t) (t1 : t < 64) {i : Nat} {x z : Int} (hx : ws[i]? = some x) :
    WF P call c80 [.ptr M 0, .int .i64 t, .int .i64 (i : Int), .int .u64 x, .int .u64 z] h (Post80 M W (ws.set i z) h) := by
  have hi : i < ws.length := (List.getElem?_eq_some_iff.1 hx).1
  have k1 := h102 h M W ws t (i : Int) m.mem
  rw [if_neg (by omega), if_neg (by omega)] at k1
  have hx1 : (ws.map (AV.int .u64))[i]? = some (.int .u64 x) := by rw [List.getElem?_map, hx]; rfl
  have k2 := h103 h W i x ⟨_, _, _, m.w, hx1⟩
  have e1 : (i : Int) < (ws.length : Int) := by omega
  have gM := m.g
  simp only [go_sem, ↓reduceIte, ↓reduceDIte, zA, zM, zL, zE, zD, yA, yE, yL, yQ, yT, reduceCtorEq, c80, k1, gM, e1, Nat.mul_one, k2]
  refine opt_by (h112 h W i x z _ _ _ m.w hx1 (by rw [List.length_map]; exact hi)) fun v1 h1 p1 => ?_
  obtain ⟨rfl, rfl⟩ := p1
  have MW : ¬ M = W := m.ne
  have hz : ((ws.map (AV.int .u64)).set i (.int .u64 z))[i]? = some (.int .u64 z) := by rw [List.getElem?_set_self (by rw [List.length_map]; exact hi)]
  have k3 := h103 ⟨h.next, h.t.set W (.row (putList 0 ((ws.map (AV.int .u64)).set i (.int .u64 z)) T.e) (ws.map (AV.int .u64)).length 182)⟩ W i z ⟨_, _, _, by simp only [go_sem, ↓reduceIte, ↓reduceDIte, zA, zM, zL, zE, zD, yA, yE, yL, yQ, yT, reduceCtorEq]; rfl, hz⟩
  rw [List.length_map] at k3
  simp only [go_sem, ↓reduceIte, ↓reduceDIte, zA, zM, zL, zE, zD, yA, yE, yL, yQ, yT, reduceCtorEq, MW, gM, e1, Nat.mul_one, k3, List.length_map]
  refine opt_by (h113 _ M _ t (i : Int) x z 4 true hM (by simp only [go_sem, ↓reduceIte, ↓reduceDIte, zA, zM, zL, zE, zD, yA, yE, yL, yQ, yT, reduceCtorEq, MW]; exact gM)) fun v2 h2 p2 => ?_
  obtain ⟨rfl, nx2, old2, lg, ol, gM2⟩ := p2
  simp only [go_sem, ↓reduceIte, ↓reduceDIte, zA, zM, zL, zE, zD, yA, yE, yL, yQ, yT, reduceCtorEq]
  have WM : W ≠ M := fun e => MW e.symm
  have gW2 := old2 W hW WM
  simp only [go_sem, ↓reduceIte, ↓reduceDIte, zA, zM, zL, zE, zD, yA, yE, yL, yQ, yT, reduceCtorEq] at gW2
  refine ⟨rfl, ⟨nx2, fun b hb b1 b2 => ?_⟩, lg, ⟨?_, ol, ?_, m.ne⟩⟩
  · have := old2 b hb b1
    simp only [go_sem, ↓reduceIte, ↓reduceDIte, zA, zM, zL, zE, zD, yA, yE, yL, yQ, yT, reduceCtorEq, b2] at this
    exact this
  · rw [gM2, List.length_set]
  · rw [gW2, List.map_set]
    unfold rowL
    rw [List.length_set, List.length_map]
def F80 (call : CallE) : Prop := ∀ h M W ws (t : Int) (i : Nat) (x z : Int), MemG h M W ws .nils → M < h.next → W < h.next → 0 ≤ t → t < 64 → ws[i]? = some x → ∃ v h', call 80 [.ptr M 0, .int .i64 t, .int .i64 (i : Int), .int .u64 x, .int .u64 z] h = some (v, h') ∧ Post80 M W (ws.set i z) h v h'
def F79 (call : CallE) : Prop := ∀ h B c p M W R, BaseH h B c p M W R → call 79 [.ptr B 0] h = some (.ptr M 0, h)
def F81 (call : CallE) : Prop := ∀ h B c p M W R (s : Int), BaseH h B c p M W R → p.ow = 0 → 0 ≤ s → s ≤ 1000 → ∃ v h', call 81 [.ptr B 0, .int .i64 s] h = some (v, h') ∧ (v = .int .i64 s ∧ StepN h h')
/-- an opened session -/
def Post34 (B O M W : Nat) (t : Int) (ws : List Int) (h : H) (v : AV) (h' : H) : Prop :=
  v = .tup [.int .u8 35, .bool true] ∧ h.next ≤ h'.next ∧ (∀ b, b < h.next → b ≠ M → b ≠ W → b ≠ O → h'.t.get b = h.t.get b) ∧ (∃ lg, MemG h' M W ws lg) ∧ h'.t.get O = some (rowL [.ptr B 0, .int .i64 t, .nils, .int .i64 0, .int .i64 0] 240)
theorem w34 (P : Program) [PT P] {call : CallE} (h79 : F79 call) (h81 : F81 call) (h80 : F80 call) {h : H} {B O : Nat} {c : CfgT} {p : PlT} {M W R : Nat} {ws : List Int} (ho : p.ow = 0) (m : MemG h M W ws .nils) (hM : M < h.next) (hW : W < h.next) (hO : O < h.next)
    {lv : AV} {n : Nat} (hn1 : 0 < n) (gO : h.t.get O = some (rowL [.ptr B 0, .int .i64 0, lv, .int .i64 0, .int .i64 0] 240)) (ol : Own 1 3 h lv n (upL n)) (oll : ∀ a, own lv = some a → a ≠ O) (OM : O ≠ M) (OW : O ≠ W) (hb : ∀ h2, h2.next = h.next → (∀ b, b ≠ O → h2.t.get b = h.t.get b) → BaseH h2 B c p M W R) (hz : ws[0]? = some 0) :
    WF P call c34 [.ptr O 0] h (Post34 B O M W 0 (ws.set 0 1) h) := by
  have hul := upL_len n
  have hu0 : (upL n)[0]? = some (.int .i64 0) := by unfold upL; rw [List.getElem?_map, List.getElem?_range hn1]; rfl
  generalize upL n = cs at ol hul hu0
  cases ol with
  | nil => omega
  | sl a n cs cap hc h0 hcl hlt hg =>
    have aO : ¬ a = O := oll a rfl
    have hnz : ¬ (n : Int) = 0 := by omega
    have hnp : (0 : Int) < (n : Int) := by omega
    have hn1' : (1 : Int) ≤ (n : Int) := by omega
    have hn1n : 1 ≤ n := hn1
    have MO : ¬ M = O := fun e => OM e.symm
    have WO : ¬ W = O := fun e => OW e.symm
    have hcg : cap.getD n = n := by rcases hc with rfl | rfl <;> rfl
    have hx : ∀ v : AV, BaseH ⟨h.next, h.t.set O (.row (putList 0 [.ptr B 0, .int .i64 0, v, .int .i64 0, .int .i64 0] T.e) 5 240)⟩ B c p M W R ∧ MemG ⟨h.next, h.t.set O (.row (putList 0 [.ptr B 0, .int .i64 0, v, .int .i64 0, .int .i64 0] T.e) 5 240)⟩ M W ws .nils := fun v =>
      ⟨hb _ rfl fun b hbO => by simp [go_sem, hbO], ⟨by simp only [go_sem, ↓reduceIte, ↓reduceDIte, zA, zM, zL, zE, zD, yA, yE, yL, yQ, yT, reduceCtorEq, MO]; exact m.g, rfl, by simp only [go_sem, ↓reduceIte, ↓reduceDIte, zA, zM, zL, zE, zD, yA, yE, yL, yQ, yT, reduceCtorEq, WO]; exact m.w, m.ne⟩⟩
    simp only [go_sem, ↓reduceIte, ↓reduceDIte, zA, zM, zL, zE, zD, yA, yE, yL, yQ, yT, reduceCtorEq, c34, gO, hg, hnz, hnp, hn1', hn1n, hu0, hcg, hn1, Bool.or_true]
    generalize hsv : AV.sl a (bif decide (n = 1) then 0 else 1) (n - 1) 1 (some (n - 1)) = sv
    have osv : oneA sv = true := by rw [← hsv]; rfl
    obtain ⟨b1, m1⟩ := hx sv
    refine opt_some (h79 _ B c p M W R b1) ?_
    simp only [go_sem, ↓reduceIte, ↓reduceDIte, zA, zM, zL, zE, zD, yA, yE, yL, yQ, yT, reduceCtorEq]
    refine opt_by (h81 _ B c p M W R 0 b1 ho (by decide) (by decide)) fun v1 h1 p1 => ?_
    obtain ⟨rfl, st1⟩ := p1
    have nx1 : h.next ≤ h1.next := st1.next
    have gO1 := st1.old O hO
    simp only [go_sem, ↓reduceIte, ↓reduceDIte, zA, zM, zL, zE, zD, yA, yE, yL, yQ, yT, reduceCtorEq] at gO1
    have f1 : fw .u64 (0 + 1) = 1 := rfl
    have f2 : fw .u64 0 = 0 := rfl
    have f3 : fw .u64 1 = 1 := rfl
    simp only [go_sem, ↓reduceIte, ↓reduceDIte, zA, zM, zL, zE, zD, yA, yE, yL, yQ, yT, reduceCtorEq, gO1, nx1, f1, f2, f3, Int.zero_add]
    have MO' : M ≠ O := MO
    have k80 := h80 h1 M W ws 0 0 0 1 (m1.step hM hW st1) (Nat.lt_of_lt_of_le hM nx1) (Nat.lt_of_lt_of_le hW nx1) (by decide) (by decide) hz
    rw [show ((0 : Nat) : Int) = 0 from rfl] at k80
    refine opt_by k80 fun v2 h2 p2 => ?_
    obtain ⟨rfl, sx, lg, m2⟩ := p2
    have nx2 := sx.next
    have gO2 := (sx.old O (by omega) OM OW).trans gO1
    simp only [go_sem, ↓reduceIte, ↓reduceDIte, zA, zM, zL, zE, zD, yA, yE, yL, yQ, yT, reduceCtorEq, gO2, nx2, gO1, f1, f2, f3]
    refine ⟨rfl, by show h.next ≤ h2.next; omega, fun b hb' b1 b2 b3 => ?_, ⟨lg, ⟨by have hg2 := m2.g; rw [List.length_set] at hg2; simp only [go_sem, ↓reduceIte, ↓reduceDIte, zA, zM, zL, zE, zD, yA, yE, yL, yQ, yT, reduceCtorEq, MO]; exact hg2, m2.o, by simp only [go_sem, ↓reduceIte, ↓reduceDIte, zA, zM, zL, zE, zD, yA, yE, yL, yQ, yT, reduceCtorEq, WO]; exact m2.w, m2.ne⟩⟩, by simp [go_sem]⟩
    have k1 := sx.old b (by omega) b1 b2
    have k2 := st1.old b hb'
    simp only [go_sem, ↓reduceIte, ↓reduceDIte, zA, zM, zL, zE, zD, yA, yE, yL, yQ, yT, reduceCtorEq, b3] at k2
    simp only [go_sem, ↓reduceIte, ↓reduceDIte, zA, zM, zL, zE, zD, yA, yE, yL, yQ, yT, reduceCtorEq, b3, k1, k2]
theorem w35 (P : Program) [PT P] {call : CallE} {h : H} {B O : Nat} {t : Int} (gO : h.t.get O = some (rowL [.ptr B 0, .int .i64 t, .nils, .int .i64 0, .int .i64 0] 240)) : WF P call c35 [.ptr O 0] h fun v h' => v = .tup [.int .i64 0, .int .i64 0] ∧ h' = h := by
  simp only [go_sem, ↓reduceIte, ↓reduceDIte, zA, zM, zL, zE, zD, yA, yE, yL, yQ, yT, reduceCtorEq, c35, gO]
def F33 (call : CallE) : Prop := ∀ h B c p M W R (n : Nat) (t : Int), BaseH h B c p M W R → c.cuts.length ≤ 1000 → c.slots = (n : Int) → n ≤ 64 → 0 ≤ t → t < 64 → ∃ v h', call 33 [.ptr B 0, .int .i64 t] h = some (v, h') ∧ Post33 B t n h v h'
def F34 (call : CallE) : Prop := ∀ h B O c p M W R ws lv (n : Nat), p.ow = 0 → MemG h M W ws .nils → M < h.next → W < h.next → O < h.next → 0 < n → h.t.get O = some (rowL [.ptr B 0, .int .i64 0, lv, .int .i64 0, .int .i64 0] 240) → Own 1 3 h lv n (upL n) → (∀ a, own lv = some a → a ≠ O) → O ≠ M → O ≠ W → (∀ h2, h2.next = h.next → (∀ b, b ≠ O → h2.t.get b = h.t.get b) → BaseH h2 B c p M W R) → ws[0]? = some 0 → ∃ v h', call 34 [.ptr O 0] h = some (v, h') ∧ Post34 B O M W 0 (ws.set 0 1) h v h'
def F35 (call : CallE) : Prop := ∀ h B O (t : Int), h.t.get O = some (rowL [.ptr B 0, .int .i64 t, .nils, .int .i64 0, .int .i64 0] 240) → call 35 [.ptr O 0] h = some (.tup [.int .i64 0, .int .i64 0], h)
/-- a session of thread 0 is open, in slot 0 -/
def Post8 (M W : Nat) (ws : List Int) (h : H) (v : AV) (h' : H) : Prop := v = .int .i64 0 ∧ StepX M W h h' ∧ ∃ lg, MemG h' M W (ws.set 0 1) lg
theorem w8 (P : Program) [PT P] {call : CallE} (h33 : F33 call) (h34 : F34 call) (h35 : F35 call) {h : H} {B : Nat} {c : CfgT} {p : PlT} {M W R : Nat} {ws : List Int} (hb : ∀ h2, StepX M W h h2 → BaseH h2 B c p M W R) (ho : p.ow = 0) (m : MemG h M W ws .nils) (hM : M < h.next) (hW : W < h.next) (hl : c.cuts.length ≤ 1000) {n : Nat} (hn : c.slots = (n : Int)) (hn1 : 0 < n) (hn2 : n ≤ 64) (hz : ws[0]? = some 0) :
    WF P call c8 [.ptr B 0, .int .i64 0] h (Post8 M W ws h) := by
  simp only [go_sem, ↓reduceIte, ↓reduceDIte, zA, zM, zL, zE, zD, yA, yE, yL, yQ, yT, reduceCtorEq, c8]
  refine opt_by (h33 h B c p M W R n 0 (hb h ⟨Nat.le_refl _, fun _ _ _ _ => rfl⟩) hl hn hn2 (by decide) (by decide)) fun v1 h1 p1 => ?_
  obtain ⟨st1, O, lv, rfl, lO, lO2, gO, ol, oll⟩ := p1
  have nx1 := st1.next
  simp only [go_sem, ↓reduceIte, ↓reduceDIte, zA, zM, zL, zE, zD, yA, yE, yL, yQ, yT, reduceCtorEq]
  refine unroll 1 ?_
  simp only [go_sem, ↓reduceIte, ↓reduceDIte, zA, zM, zL, zE, zD, yA, yE, yL, yQ, yT, reduceCtorEq, c8_l13]
  have OM : O ≠ M := by omega
  have OW : O ≠ W := by omega
  have MO : ¬ M = O := by omega
  have WO : ¬ W = O := by omega
  refine opt_by (h34 h1 B O c p M W R ws lv n ho (m.step hM hW st1) (by omega) (by omega) lO2 hn1 gO ol (fun a ha => (oll a ha).2) OM OW (fun h2 e1 e2 => hb h2 ⟨by omega, fun b hb' _ _ => (e2 b (by omega)).trans (st1.old b hb')⟩) hz) fun v2 h2 p2 => ?_
  obtain ⟨rfl, nx2, old2, m2, gO2⟩ := p2
  simp only [go_sem, ↓reduceIte, ↓reduceDIte, zA, zM, zL, zE, zD, yA, yE, yL, yQ, yT, reduceCtorEq]
  have k35 := h35 h2 B O 0 gO2
  simp only [go_sem, ↓reduceIte, ↓reduceDIte, zA, zM, zL, zE, zD, yA, yE, yL, yQ, yT, reduceCtorEq, c8_l13, k35]
  exact ⟨rfl, ⟨by omega, fun b hb' b1 b2 => (old2 b (by omega) b1 b2 (by omega)).trans (st1.old b hb')⟩, m2⟩
end
end Go.Proofs.YtldmhpdjlgoenaaGreatDoor.BN

namespace Go.Proofs.YtldmhpdjlgoenaaGreatDoor.BN
open Go.Proofs.YtldmhpdjlgoenaaGreatDoor.Eo
open Nat renaming reduceAdd → zA, reduceMul → zM, reduceLT → zL, reduceEqDiff → zE, reduceLeDiff → zD
open Int renaming reduceAdd → yA, reduceLE → yE, reduceLT → yL, reduceEq → yQ, reduceToNat → yT
noncomputable section
/-! 39: leapfrog/session.Owners -/
@[go_sem] def c39_s0 : List SQ := [⟨some 2, none, .p (.mv (.c .nils))⟩]
@[go_sem] def c39_s1 : List SQ := [⟨some 7, none, .p (.mv (.t 0))⟩, ⟨some 8, none, .p (.bin .eql 36 false true (.t 7) (.c .nilp))⟩]
@[go_sem] def c39_s2 : List SQ := [⟨some 2, none, .p (.mv (.c .nils))⟩]
@[go_sem] def c39_s3 : List SQ := [⟨some 9, none, .p (.mv (.t 0))⟩, ⟨some 10, none, .cv (.c (.fn (.func 38) [] [])) [(.t 9)]⟩, ⟨some 11, none, .p (.fld 3 1 (.t 10))⟩, ⟨some 12, none, .n (.mksl 3 1 8 [.int .i64 0] (.t 11) (.t 11))⟩, ⟨some 3, none, .p (.mv (.t 12))⟩]
@[go_sem] def c39_s4 : List SQ := [⟨some 13, none, .p (.mv (.t 3))⟩, ⟨some 14, none, .p (.lenv (.t 13))⟩, ⟨some 15, none, .p (.mv (.c (.int .i64 0)))⟩]
@[go_sem] def c39_s5 : List SQ := [⟨some 16, none, .p (.bin .lss 3 false false (.t 15) (.t 14))⟩]
@[go_sem] def c39_s6 : List SQ := [⟨some 17, none, .p (.mv (.t 15))⟩, ⟨some 4, none, .p (.mv (.t 17))⟩]
@[go_sem] def c39_s7 : List SQ := [⟨some 18, none, .p (.mv (.t 3))⟩, ⟨some 19, none, .p (.mv (.t 4))⟩, ⟨some 20, none, .p (.iadrS 1 (.t 18) (.t 19))⟩, ⟨none, none, .e (.st 1 (.t 20) (.c (.int .i64 (-1))))⟩]
@[go_sem] def c39_s8 : List SQ := [⟨some 22, none, .p (.mv (.t 0))⟩, ⟨some 23, none, .cv (.c (.fn (.func 79) [] [])) [(.t 22)]⟩, ⟨some 24, none, .p (.mv (.t 0))⟩, ⟨some 25, none, .p (.mv (.t 4))⟩, ⟨some 26, none, .cv (.c (.fn (.func 81) [] [])) [(.t 24), (.t 25)]⟩, ⟨some 27, none, .cv (.c (.fn (.func 66) [] [])) [(.t 23), (.t 26)]⟩, ⟨some 21, none, .p (.mv (.t 27))⟩, ⟨some 28, none, .p (.extr (.t 21) 0)⟩, ⟨some 29, none, .p (.extr (.t 21) 1)⟩, ⟨some 5, none, .p (.mv (.t 28))⟩, ⟨some 6, none, .p (.mv (.t 29))⟩]
@[go_sem] def c39_s9 : List SQ := [⟨some 30, none, .p (.mv (.t 5))⟩, ⟨some 31, none, .p (.bin .geq 28 false true (.t 30) (.c (.int .u64 1)))⟩, ⟨some 32, none, .p (.mv (.t 31))⟩, ⟨some 33, some (32, true), .p (.mv (.t 5))⟩, ⟨some 34, some (32, true), .p (.bin .leq 28 false true (.t 33) (.c (.int .u64 64)))⟩, ⟨some 35, none, .p (.pick (.t 32) (.t 34) (.c (.bool false)))⟩]
@[go_sem] def c39_s10 : List SQ := [⟨some 36, none, .p (.mv (.t 3))⟩, ⟨some 37, none, .p (.mv (.t 4))⟩, ⟨some 38, none, .p (.mv (.t 5))⟩, ⟨some 39, none, .p (.conv .i64 (.t 38))⟩, ⟨some 40, none, .p (.bin .sub 3 false true (.t 39) (.c (.int .i64 1)))⟩, ⟨some 41, none, .p (.iadrS 1 (.t 36) (.t 37))⟩, ⟨none, none, .e (.st 1 (.t 41) (.t 40))⟩]
@[go_sem] def c39_s11 : List SQ := [⟨some 42, none, .p (.bin .add 3 false true (.t 15) (.c (.int .i64 1)))⟩, ⟨some 15, none, .p (.mv (.t 42))⟩]
def c39_l12 : CC := (.seq (.ops c39_s5) (.seq (.cond (.t 16) .skip (.exit 0)) (.seq (.block 1 (.seq (.ops c39_s6) (.seq (.ops c39_s7) (.seq (.ops c39_s8) (.seq (.ops c39_s9) (.cond (.t 35) (.ops c39_s10) .skip)))))) (.ops c39_s11))))
@[go_sem] def c39_s13 : List SQ := [⟨some 43, none, .p (.mv (.t 3))⟩, ⟨some 2, none, .p (.mv (.t 43))⟩]
@[go_sem] def c39 : CF := ⟨1, (.seq (.ops c39_s0) (.seq (.seq (.ops c39_s1) (.cond (.t 8) (.seq (.ops c39_s2) .ret) .skip)) (.seq (.ops c39_s3) (.seq (.seq (.ops c39_s4) (.block 0 (.loop c39_l12))) (.seq (.ops c39_s13) .ret))))), [.tmp 2]⟩
/-! 85: slices.Index[[]int,int] -/
@[go_sem] def c85_s0 : List SQ := [⟨some 4, none, .p (.mv (.c (.int .i64 0)))⟩]
@[go_sem] def c85_s1 : List SQ := [⟨some 6, none, .p (.mv (.t 0))⟩, ⟨some 7, none, .p (.lenv (.t 6))⟩, ⟨some 8, none, .p (.mv (.c (.int .i64 0)))⟩]
@[go_sem] def c85_s2 : List SQ := [⟨some 9, none, .p (.bin .lss 3 false false (.t 8) (.t 7))⟩]
@[go_sem] def c85_s3 : List SQ := [⟨some 10, none, .p (.mv (.t 8))⟩, ⟨some 5, none, .p (.mv (.t 10))⟩]
@[go_sem] def c85_s4 : List SQ := [⟨some 11, none, .p (.mv (.t 1))⟩, ⟨some 12, none, .p (.mv (.t 0))⟩, ⟨some 13, none, .p (.mv (.t 5))⟩, ⟨some 14, none, .p (.iadrS 1 (.t 12) (.t 13))⟩, ⟨some 15, none, .r (.ld none (.t 14))⟩, ⟨some 16, none, .p (.bin .eql 3 false false (.t 11) (.t 15))⟩]
@[go_sem] def c85_s5 : List SQ := [⟨some 17, none, .p (.mv (.t 5))⟩, ⟨some 4, none, .p (.mv (.t 17))⟩]
@[go_sem] def c85_s6 : List SQ := [⟨some 18, none, .p (.bin .add 3 false true (.t 8) (.c (.int .i64 1)))⟩, ⟨some 8, none, .p (.mv (.t 18))⟩]
def c85_l7 : CC := (.seq (.ops c85_s2) (.seq (.cond (.t 9) .skip (.exit 0)) (.seq (.block 1 (.seq (.ops c85_s3) (.seq (.ops c85_s4) (.cond (.t 16) (.seq (.ops c85_s5) .ret) .skip)))) (.ops c85_s6))))
@[go_sem] def c85_s8 : List SQ := [⟨some 4, none, .p (.mv (.c (.int .i64 (-1))))⟩]
@[go_sem] def c85 : CF := ⟨2, (.seq (.ops c85_s0) (.seq (.seq (.ops c85_s1) (.block 0 (.loop c85_l7))) (.seq (.ops c85_s8) .ret))), [.tmp 4]⟩
/-! 40: slices.Contains[[]int,int] -/
@[go_sem] def c40_s0 : List SQ := [⟨some 4, none, .p (.mv (.c (.bool false)))⟩]
@[go_sem] def c40_s1 : List SQ := [⟨some 5, none, .p (.mv (.t 0))⟩, ⟨some 6, none, .p (.mv (.t 1))⟩, ⟨some 7, none, .cv (.c (.fn (.func 85) [] [])) [(.t 5), (.t 6)]⟩, ⟨some 8, none, .p (.bin .geq 3 false true (.t 7) (.c (.int .i64 0)))⟩, ⟨some 4, none, .p (.mv (.t 8))⟩]
@[go_sem] def c40 : CF := ⟨2, (.seq (.ops c40_s0) (.seq (.ops c40_s1) .ret)), [.tmp 4]⟩
/-! 42: (*leapfrog/prcu.Prcu).Open -/
@[go_sem] def c42_s0 : List SQ := [⟨some 2, none, .p (.mv (.c .nils))⟩]
@[go_sem] def c42_s1 : List SQ := [⟨some 3, none, .p (.mv (.t 0))⟩, ⟨some 4, none, .p (.bin .eql 70 false true (.t 3) (.c .nilp))⟩]
@[go_sem] def c42_s2 : List SQ := [⟨some 2, none, .p (.mv (.c .nils))⟩]
@[go_sem] def c42_s3 : List SQ := [⟨some 5, none, .p (.mv (.t 0))⟩, ⟨some 6, none, .p (.nilck (.t 5))⟩, ⟨some 7, none, .p (.fadr 0 (.t 6))⟩, ⟨some 8, none, .r (.ld none (.t 7))⟩, ⟨some 9, none, .ci (.t 8) "Open" []⟩, ⟨some 2, none, .p (.mv (.t 9))⟩]
@[go_sem] def c42 : CF := ⟨1, (.seq (.ops c42_s0) (.seq (.seq (.ops c42_s1) (.cond (.t 4) (.seq (.ops c42_s2) .ret) .skip)) (.seq (.ops c42_s3) .ret))), [.tmp 2]⟩
/-! 406: (*leapfrog/full.Engine).Open -/
@[go_sem] def c406_s0 : List SQ := [⟨some 2, none, .p (.mv (.c .nils))⟩]
@[go_sem] def c406_s1 : List SQ := [⟨some 5, none, .p (.mv (.t 0))⟩, ⟨some 6, none, .p (.bin .eql 199 false true (.t 5) (.c .nilp))⟩]
@[go_sem] def c406_s2 : List SQ := [⟨some 2, none, .p (.mv (.c .nils))⟩]
@[go_sem] def c406_s3 : List SQ := [⟨some 3, none, .p (.mv (.c .nils))⟩]
@[go_sem] def c406_s4 : List SQ := [⟨some 7, none, .p (.mv (.t 0))⟩, ⟨some 8, none, .p (.nilck (.t 7))⟩, ⟨some 9, none, .p (.fadr 2 (.t 8))⟩, ⟨some 10, none, .r (.ld none (.t 9))⟩, ⟨some 11, none, .p (.lenv (.t 10))⟩, ⟨some 12, none, .p (.mv (.c (.int .i64 0)))⟩]
@[go_sem] def c406_s5 : List SQ := [⟨some 13, none, .p (.bin .lss 3 false false (.t 12) (.t 11))⟩]
@[go_sem] def c406_s6 : List SQ := [⟨some 14, none, .p (.mv (.t 12))⟩, ⟨some 4, none, .p (.mv (.t 14))⟩]
@[go_sem] def c406_s7 : List SQ := [⟨some 15, none, .p (.mv (.t 0))⟩, ⟨some 16, none, .p (.mv (.t 4))⟩, ⟨some 17, none, .cv (.c (.fn (.func 410) [] [])) [(.t 15), (.t 16)]⟩]
@[go_sem] def c406_s8 : List SQ := [⟨some 18, none, .p (.mv (.t 3))⟩, ⟨some 19, none, .p (.mv (.t 4))⟩, ⟨some 20, none, .n (.buildS 3 1 1 [.int .i64 0] [(0, 1, (.t 19))])⟩, ⟨some 21, none, .e (.app 3 1 8 (.t 18) (.t 20))⟩, ⟨some 3, none, .p (.mv (.t 21))⟩]
@[go_sem] def c406_s9 : List SQ := [⟨some 22, none, .p (.bin .add 3 false true (.t 12) (.c (.int .i64 1)))⟩, ⟨some 12, none, .p (.mv (.t 22))⟩]
def c406_l10 : CC := (.seq (.ops c406_s5) (.seq (.cond (.t 13) .skip (.exit 0)) (.seq (.block 1 (.seq (.ops c406_s6) (.seq (.ops c406_s7) (.cond (.t 17) (.ops c406_s8) .skip)))) (.ops c406_s9))))
@[go_sem] def c406_s11 : List SQ := [⟨some 23, none, .p (.mv (.t 3))⟩, ⟨some 2, none, .p (.mv (.t 23))⟩]
@[go_sem] def c406 : CF := ⟨1, (.seq (.ops c406_s0) (.seq (.seq (.ops c406_s1) (.cond (.t 6) (.seq (.ops c406_s2) .ret) .skip)) (.seq (.ops c406_s3) (.seq (.seq (.ops c406_s4) (.block 0 (.loop c406_l10))) (.seq (.ops c406_s11) .ret))))), [.tmp 2]⟩
/-! 410: (*leapfrog/full.Engine).inside -/
@[go_sem] def c410_s0 : List SQ := [⟨some 4, none, .p (.mv (.c (.bool false)))⟩]
@[go_sem] def c410_s1 : List SQ := [⟨some 5, none, .p (.mv (.t 0))⟩, ⟨some 6, none, .p (.nilck (.t 5))⟩, ⟨some 7, none, .p (.fadr 2 (.t 6))⟩, ⟨some 8, none, .r (.ld none (.t 7))⟩, ⟨some 9, none, .p (.mv (.t 1))⟩, ⟨some 10, none, .p (.iadrS 1 (.t 8) (.t 9))⟩, ⟨some 11, none, .r (.ld none (.t 10))⟩, ⟨some 12, none, .p (.bin .rem 28 false true (.t 11) (.c (.int .u64 2)))⟩, ⟨some 13, none, .p (.bin .eql 28 false true (.t 12) (.c (.int .u64 1)))⟩, ⟨some 4, none, .p (.mv (.t 13))⟩]
@[go_sem] def c410 : CF := ⟨2, (.seq (.ops c410_s0) (.seq (.ops c410_s1) .ret)), [.tmp 4]⟩
/-! 422: (*leapfrog/each.Engine).Open -/
@[go_sem] def c422_s0 : List SQ := [⟨some 2, none, .p (.mv (.c .nils))⟩]
@[go_sem] def c422_s1 : List SQ := [⟨some 6, none, .p (.mv (.t 0))⟩, ⟨some 7, none, .p (.bin .eql 206 false true (.t 6) (.c .nilp))⟩]
@[go_sem] def c422_s2 : List SQ := [⟨some 2, none, .p (.mv (.c .nils))⟩]
@[go_sem] def c422_s3 : List SQ := [⟨some 3, none, .p (.mv (.c .nils))⟩]
@[go_sem] def c422_s4 : List SQ := [⟨some 8, none, .p (.mv (.t 0))⟩, ⟨some 9, none, .p (.nilck (.t 8))⟩, ⟨some 10, none, .p (.fadr 1 (.t 9))⟩, ⟨some 11, none, .r (.ld none (.t 10))⟩, ⟨some 12, none, .p (.lenv (.t 11))⟩, ⟨some 13, none, .p (.mv (.c (.int .i64 0)))⟩]
@[go_sem] def c422_s5 : List SQ := [⟨some 14, none, .p (.bin .lss 3 false false (.t 13) (.t 12))⟩]
@[go_sem] def c422_s6 : List SQ := [⟨some 15, none, .p (.mv (.t 13))⟩, ⟨some 16, none, .p (.iadrS 2 (.t 11) (.t 13))⟩, ⟨some 17, none, .r (.ld (some 2) (.t 16))⟩, ⟨some 5, none, .n (.new 624 [.int .u64 0, .bool false])⟩, ⟨some 4, none, .p (.mv (.t 15))⟩, ⟨none, none, .e (.st 2 (.t 5) (.t 17))⟩]
@[go_sem] def c422_s7 : List SQ := [⟨some 18, none, .p (.fadr 0 (.t 5))⟩, ⟨some 19, none, .r (.ld none (.t 18))⟩, ⟨some 20, none, .p (.bin .rem 28 false true (.t 19) (.c (.int .u64 2)))⟩, ⟨some 21, none, .p (.bin .eql 28 false true (.t 20) (.c (.int .u64 1)))⟩]
@[go_sem] def c422_s8 : List SQ := [⟨some 22, none, .p (.mv (.t 3))⟩, ⟨some 23, none, .p (.mv (.t 4))⟩, ⟨some 24, none, .n (.buildS 3 1 1 [.int .i64 0] [(0, 1, (.t 23))])⟩, ⟨some 25, none, .e (.app 3 1 8 (.t 22) (.t 24))⟩, ⟨some 3, none, .p (.mv (.t 25))⟩]
@[go_sem] def c422_s9 : List SQ := [⟨some 26, none, .p (.bin .add 3 false true (.t 13) (.c (.int .i64 1)))⟩, ⟨some 13, none, .p (.mv (.t 26))⟩]
def c422_l10 : CC := (.seq (.ops c422_s5) (.seq (.cond (.t 14) .skip (.exit 0)) (.seq (.block 1 (.seq (.ops c422_s6) (.seq (.ops c422_s7) (.cond (.t 21) (.ops c422_s8) .skip)))) (.ops c422_s9))))
@[go_sem] def c422_s11 : List SQ := [⟨some 27, none, .p (.mv (.t 3))⟩, ⟨some 2, none, .p (.mv (.t 27))⟩]
@[go_sem] def c422 : CF := ⟨1, (.seq (.ops c422_s0) (.seq (.seq (.ops c422_s1) (.cond (.t 7) (.seq (.ops c422_s2) .ret) .skip)) (.seq (.ops c422_s3) (.seq (.seq (.ops c422_s4) (.block 0 (.loop c422_l10))) (.seq (.ops c422_s11) .ret))))), [.tmp 2]⟩
/-! 433: (*leapfrog/gate.Engine).Open -/
@[go_sem] def c433_s0 : List SQ := [⟨some 2, none, .p (.mv (.c .nils))⟩]
@[go_sem] def c433_s1 : List SQ := [⟨some 7, none, .p (.mv (.t 0))⟩, ⟨some 8, none, .p (.bin .eql 213 false true (.t 7) (.c .nilp))⟩]
@[go_sem] def c433_s2 : List SQ := [⟨some 2, none, .p (.mv (.c .nils))⟩]
@[go_sem] def c433_s3 : List SQ := [⟨some 3, none, .p (.mv (.c .nils))⟩]
@[go_sem] def c433_s4 : List SQ := [⟨some 9, none, .p (.mv (.c (.int .i64 0)))⟩]
@[go_sem] def c433_s5 : List SQ := [⟨some 10, none, .p (.bin .lss 3 false true (.t 9) (.c (.int .i64 64)))⟩]
@[go_sem] def c433_s6 : List SQ := [⟨some 11, none, .p (.mv (.t 9))⟩, ⟨some 4, none, .p (.mv (.t 11))⟩]
@[go_sem] def c433_s7 : List SQ := [⟨some 13, none, .p (.mv (.t 0))⟩, ⟨some 14, none, .p (.nilck (.t 13))⟩, ⟨some 15, none, .p (.fadr 3 (.t 14))⟩, ⟨some 16, none, .r (.ld none (.t 15))⟩, ⟨some 17, none, .p (.mv (.t 4))⟩, ⟨some 18, none, .l ⟨0, (.t 16), (.t 17), .nilp, true⟩⟩, ⟨some 12, none, .p (.mv (.t 18))⟩, ⟨some 19, none, .p (.extr (.t 12) 0)⟩, ⟨some 20, none, .p (.extr (.t 12) 1)⟩, ⟨some 5, none, .p (.mv (.t 19))⟩, ⟨some 6, none, .p (.mv (.t 20))⟩]
@[go_sem] def c433_s8 : List SQ := [⟨some 21, none, .p (.mv (.t 6))⟩, ⟨some 22, none, .p (.mv (.t 21))⟩, ⟨some 23, some (22, true), .p (.mv (.t 5))⟩, ⟨some 24, some (22, true), .p (.nilck (.t 23))⟩, ⟨some 25, some (22, true), .p (.fadr 1 (.t 24))⟩, ⟨some 26, some (22, true), .r (.ld none (.t 25))⟩, ⟨some 27, none, .p (.pick (.t 22) (.t 26) (.c (.bool false)))⟩]
@[go_sem] def c433_s9 : List SQ := [⟨some 28, none, .p (.mv (.t 3))⟩, ⟨some 29, none, .p (.mv (.t 4))⟩, ⟨some 30, none, .n (.buildS 3 1 1 [.int .i64 0] [(0, 1, (.t 29))])⟩, ⟨some 31, none, .e (.app 3 1 8 (.t 28) (.t 30))⟩, ⟨some 3, none, .p (.mv (.t 31))⟩]
@[go_sem] def c433_s10 : List SQ := [⟨some 32, none, .p (.bin .add 3 false true (.t 9) (.c (.int .i64 1)))⟩, ⟨some 9, none, .p (.mv (.t 32))⟩]
def c433_l11 : CC := (.seq (.ops c433_s5) (.seq (.cond (.t 10) .skip (.exit 0)) (.seq (.block 1 (.seq (.ops c433_s6) (.seq (.ops c433_s7) (.seq (.ops c433_s8) (.cond (.t 27) (.ops c433_s9) .skip))))) (.ops c433_s10))))
@[go_sem] def c433_s12 : List SQ := [⟨some 33, none, .p (.mv (.t 3))⟩, ⟨some 2, none, .p (.mv (.t 33))⟩]
@[go_sem] def c433 : CF := ⟨1, (.seq (.ops c433_s0) (.seq (.seq (.ops c433_s1) (.cond (.t 8) (.seq (.ops c433_s2) .ret) .skip)) (.seq (.ops c433_s3) (.seq (.seq (.ops c433_s4) (.block 0 (.loop c433_l11))) (.seq (.ops c433_s12) .ret))))), [.tmp 2]⟩
/-! 43: leapfrog/span.Check -/
@[go_sem] def c43_s0 : List SQ := [⟨some 1, none, .n (.box 132 (.t 0))⟩, ⟨some 2, none, .p (.mv (.c (.int .i64 0)))⟩]
@[go_sem] def c43_s1 : List SQ := [⟨some 3, none, .p (.fadr 0 (.t 1))⟩, ⟨some 4, none, .r (.ld none (.t 3))⟩, ⟨some 5, none, .p (.fadr 1 (.t 1))⟩, ⟨some 6, none, .r (.ld none (.t 5))⟩, ⟨some 7, none, .p (.bin .gtr 28 false false (.t 4) (.t 6))⟩]
@[go_sem] def c43_s2 : List SQ := [⟨some 2, none, .p (.mv (.c (.int .i64 13)))⟩]
@[go_sem] def c43_s3 : List SQ := [⟨some 2, none, .p (.mv (.c (.int .i64 0)))⟩]
@[go_sem] def c43 : CF := ⟨1, (.seq (.ops c43_s0) (.seq (.seq (.ops c43_s1) (.cond (.t 7) (.seq (.ops c43_s2) .ret) .skip)) (.seq (.ops c43_s3) .ret))), [.tmp 2]⟩
/-! 86: leapfrog/span.valid -/
@[go_sem] def c86_s0 : List SQ := [⟨some 2, none, .p (.mv (.c (.bool false)))⟩]
@[go_sem] def c86_s1 : List SQ := [⟨some 5, none, .p (.mv (.t 0))⟩, ⟨some 6, none, .p (.lenv (.t 5))⟩, ⟨some 7, none, .p (.mv (.c (.int .i64 0)))⟩]
@[go_sem] def c86_s2 : List SQ := [⟨some 8, none, .p (.bin .lss 3 false false (.t 7) (.t 6))⟩]
@[go_sem] def c86_s3 : List SQ := [⟨some 9, none, .p (.iadrS 2 (.t 5) (.t 7))⟩, ⟨some 10, none, .r (.ld (some 2) (.t 9))⟩, ⟨some 4, none, .n (.new 132 [.int .u64 0, .int .u64 0])⟩, ⟨none, none, .e (.st 2 (.t 4) (.t 10))⟩]
@[go_sem] def c86_s4 : List SQ := [⟨some 11, none, .r (.ld (some 2) (.t 4))⟩, ⟨some 12, none, .cv (.c (.fn (.func 43) [] [])) [(.t 11)]⟩, ⟨some 13, none, .p (.bin .neq 34 false true (.t 12) (.c (.int .i64 0)))⟩]
@[go_sem] def c86_s5 : List SQ := [⟨some 2, none, .p (.mv (.c (.bool false)))⟩]
@[go_sem] def c86_s6 : List SQ := [⟨some 14, none, .p (.bin .add 3 false true (.t 7) (.c (.int .i64 1)))⟩, ⟨some 7, none, .p (.mv (.t 14))⟩]
def c86_l7 : CC := (.seq (.ops c86_s2) (.seq (.cond (.t 8) .skip (.exit 0)) (.seq (.block 1 (.seq (.ops c86_s3) (.seq (.ops c86_s4) (.cond (.t 13) (.seq (.ops c86_s5) .ret) .skip)))) (.ops c86_s6))))
@[go_sem] def c86_s8 : List SQ := [⟨some 2, none, .p (.mv (.c (.bool true)))⟩]
@[go_sem] def c86 : CF := ⟨1, (.seq (.ops c86_s0) (.seq (.seq (.ops c86_s1) (.block 0 (.loop c86_l7))) (.seq (.ops c86_s8) .ret))), [.tmp 2]⟩
/-! 44: leapfrog/span.Shift -/
@[go_sem] def c44_s0 : List SQ := [⟨some 2, none, .n (.box 132 (.t 0))⟩, ⟨some 4, none, .n (.new 132 [.int .u64 0, .int .u64 0])⟩, ⟨some 5, none, .p (.mv (.c (.int .i64 0)))⟩]
@[go_sem] def c44_s1 : List SQ := [⟨some 7, none, .r (.ld (some 2) (.t 2))⟩, ⟨some 8, none, .n (.buildS 132 2 1 [.int .u64 0, .int .u64 0] [(0, 2, (.t 7))])⟩, ⟨some 9, none, .cv (.c (.fn (.func 86) [] [])) [(.t 8)]⟩, ⟨some 10, none, .p (.un .not (.t 9))⟩, ⟨some 6, none, .p (.mv (.t 10))⟩]
@[go_sem] def c44_s2 : List SQ := [⟨some 11, none, .p (.build [.int .u64 0, .int .u64 0] [])⟩, ⟨none, none, .e (.st 2 (.t 4) (.t 11))⟩, ⟨some 5, none, .p (.mv (.c (.int .i64 13)))⟩]
@[go_sem] def c44_s3 : List SQ := [⟨some 13, none, .p (.mv (.t 1))⟩, ⟨some 14, none, .p (.fadr 1 (.t 2))⟩, ⟨some 15, none, .r (.ld none (.t 14))⟩, ⟨some 16, none, .p (.bin .sub 28 true false (.c (.int .u64 18446744073709551615)) (.t 15))⟩, ⟨some 17, none, .p (.bin .gtr 28 false false (.t 13) (.t 16))⟩, ⟨some 12, none, .p (.mv (.t 17))⟩]
@[go_sem] def c44_s4 : List SQ := [⟨some 18, none, .p (.build [.int .u64 0, .int .u64 0] [])⟩, ⟨none, none, .e (.st 2 (.t 4) (.t 18))⟩, ⟨some 5, none, .p (.mv (.c (.int .i64 12)))⟩]
@[go_sem] def c44_s5 : List SQ := [⟨some 19, none, .p (.fadr 0 (.t 2))⟩, ⟨some 20, none, .r (.ld none (.t 19))⟩, ⟨some 21, none, .p (.mv (.t 1))⟩, ⟨some 22, none, .p (.bin .add 28 false false (.t 20) (.t 21))⟩, ⟨some 23, none, .p (.fadr 1 (.t 2))⟩, ⟨some 24, none, .r (.ld none (.t 23))⟩, ⟨some 25, none, .p (.mv (.t 1))⟩, ⟨some 26, none, .p (.bin .add 28 false false (.t 24) (.t 25))⟩, ⟨some 27, none, .p (.build [.int .u64 0, .int .u64 0] [(0, 1, (.t 22)), (1, 1, (.t 26))])⟩, ⟨none, none, .e (.st 2 (.t 4) (.t 27))⟩, ⟨some 5, none, .p (.mv (.c (.int .i64 0)))⟩]
@[go_sem] def c44 : CF := ⟨2, (.seq (.ops c44_s0) (.seq (.block 0 (.seq (.ops c44_s1) (.cond (.t 6) (.seq (.ops c44_s2) .ret) (.seq (.ops c44_s3) (.cond (.t 12) (.seq (.ops c44_s4) .ret) .skip))))) (.seq (.ops c44_s5) .ret))), [(.cell 4 (some 2)), .tmp 5]⟩
/-! 13: leapfrog/retire.New -/
@[go_sem] def c13_s0 : List SQ := [⟨some 4, none, .p (.mv (.c .nilp))⟩, ⟨some 5, none, .p (.mv (.c (.int .i64 0)))⟩]
@[go_sem] def c13_s1 : List SQ := [⟨some 6, none, .p (.mv (.t 0))⟩, ⟨some 7, none, .p (.bin .eql 36 false true (.t 6) (.c .nilp))⟩]
@[go_sem] def c13_s2 : List SQ := [⟨some 4, none, .p (.mv (.c .nilp))⟩, ⟨some 5, none, .p (.mv (.c (.int .i64 1)))⟩]
@[go_sem] def c13_s3 : List SQ := [⟨some 8, none, .p (.mv (.t 1))⟩, ⟨some 9, none, .p (.bin .lss 3 false true (.t 8) (.c (.int .i64 0)))⟩, ⟨some 10, none, .p (.mv (.t 9))⟩, ⟨some 11, some (10, false), .p (.mv (.t 1))⟩, ⟨some 12, some (10, false), .p (.bin .geq 3 false true (.t 11) (.c (.int .i64 64)))⟩, ⟨some 13, none, .p (.pick (.t 10) (.c (.bool true)) (.t 12))⟩]
@[go_sem] def c13_s4 : List SQ := [⟨some 4, none, .p (.mv (.c .nilp))⟩, ⟨some 5, none, .p (.mv (.c (.int .i64 2)))⟩]
@[go_sem] def c13_s5 : List SQ := [⟨some 14, none, .p (.mv (.t 0))⟩, ⟨some 15, none, .p (.mv (.t 1))⟩, ⟨some 16, none, .p (.build [.nilp, .int .i64 0, .nils, .bool false] [(0, 1, (.t 14)), (1, 1, (.t 15))])⟩, ⟨some 17, none, .n (.box 123 (.t 16))⟩, ⟨some 4, none, .p (.mv (.t 17))⟩, ⟨some 5, none, .p (.mv (.c (.int .i64 0)))⟩]
@[go_sem] def c13 : CF := ⟨2, (.seq (.ops c13_s0) (.seq (.seq (.ops c13_s1) (.cond (.t 7) (.seq (.ops c13_s2) .ret) .skip)) (.seq (.seq (.ops c13_s3) (.cond (.t 13) (.seq (.ops c13_s4) .ret) .skip)) (.seq (.ops c13_s5) .ret)))), [.tmp 4, .tmp 5]⟩

/-- the thread that has each slot, as slot 0 is of thread 0 -/
def ownN : Nat → AV
  | 0 => .int .i64 0
  | _ + 1 => .int .i64 (-1)
theorem FPeek.at {call : CallE} (f : FPeek call) {h : H} {M W : Nat} {ws : List Int} (m : MemH h M W ws) {i : Nat} {x : Int} (hx : ws[i]? = some x) : call 66 [.ptr M 0, .int .i64 (i : Int)] h = some (.tup [.int .u64 x, .bool true], h) := by
  have hi := (List.getElem?_eq_some_iff.1 hx)
  obtain ⟨hi1, hi2⟩ := hi
  have := f h M W ws (i : Int) m
  rw [dif_pos ⟨by omega, by omega⟩] at this
  simp only [Int.toNat_natCast, hi2] at this
  exact this
/-- the owners' words, as slot 0 is of thread 0 -/
def OwnW (ws : List Int) (n : Nat) : Prop := ∀ i, i < n → ws[i]? = some (match i with | 0 => 1 | _ + 1 => 0)
def I39 (h0 : H) (O B : Nat) (n : Nat) (k : Nat) (tm : T AV) (h : H) : Prop :=
  tm.get 0 = some (.ptr B 0) ∧ tm.get 3 = some (.sl O 0 n 1 (some n)) ∧ tm.get 14 = some (.int .i64 (n : Int)) ∧ StepN h0 h ∧ h0.next ≤ O ∧ O < h.next ∧ ∃ (i : Nat) (cs : List AV), i + k = n ∧ tm.get 15 = some (.int .i64 (i : Int)) ∧ h.t.get O = some (.row (putList 0 cs T.e) n 3) ∧ cs.length = n ∧ (∀ j, j < i → cs[j]? = some (ownN j))
def R39 (h0 : H) (O : Nat) (n : Nat) (tm : T AV) (h : H) : Prop :=
  tm.get 3 = some (.sl O 0 n 1 (some n)) ∧ StepN h0 h ∧ O < h.next ∧ ∃ cs : List AV, h.t.get O = some (.row (putList 0 cs T.e) n 3) ∧ cs.length = n ∧ (∀ j, j < n → cs[j]? = some (ownN j))
theorem step39 (P : Program) {call : CallE} (h79 : F79 call) (h81 : F81 call) (hpk : FPeek call) {h0 : H} {O B : Nat} {c : CfgT} {p : PlT} {M W R : Nat} {ws : List Int} {lg : AV} {n : Nat} (hn : n ≤ 64) (hb : BaseH h0 B c p M W R) (ho : p.ow = 0) (m : MemG h0 M W ws lg) (hM : M < h0.next) (hW : W < h0.next) (hw : OwnW ws n) (k : Nat) (tm : T AV) (h : H) (hI : I39 h0 O B n k tm h) :
    WC P call c39_l12 (loopQ 0 (fun tm h => ∃ j, j < k ∧ I39 h0 O B n j tm h) (R39 h0 O n) (fun _ _ => False)) tm h := by
  obtain ⟨t0, t3, t14, st, hO, lO, i, cs, hik, t15, gO, hcl, hcs⟩ := hI
  cases k with
  | zero =>
    have e1 : ¬ (i : Int) < (n : Int) := by omega
    obtain rfl : i = n := by omega
    simp only [go_sem, ↓reduceIte, ↓reduceDIte, zA, zM, zL, zE, zD, yA, yE, yL, yQ, yT, reduceCtorEq, c39_l12, t14, t15, e1]
    exact ⟨by simp [go_sem, t3], st, lO, cs, gO, hcl, hcs⟩
  | succ k =>
    have e1 : (i : Int) < (n : Int) := by omega
    have hi : i < n := by omega
    have hi1 : i + 1 ≤ n := hi
    have f1 : fw .i64 ((i : Int) + 1) = (i : Int) + 1 := fwI (by omega) (by omega)
    have e3 : ((i + 1 : Nat) : Int) = (i : Int) + 1 := rfl
    have nx := st.next
    have sB : ∀ x, StepN h0 ⟨h.next, h.t.set O x⟩ := fun x => ⟨nx, fun b hb => by
      have n1 : ¬ b = O := by omega
      simp only [go_sem, ↓reduceIte, ↓reduceDIte, zA, zM, zL, zE, zD, yA, yE, yL, yQ, yT, reduceCtorEq, n1]
      exact st.old b hb⟩
    simp only [go_sem, ↓reduceIte, ↓reduceDIte, zA, zM, zL, zE, zD, yA, yE, yL, yQ, yT, reduceCtorEq, c39_l12, t0, t3, t14, t15, e1, gO, hcl, hi, hi1, Nat.mul_one]
    refine opt_some (h79 _ B c p M W R (hb.step (sB _))) ?_
    simp only [go_sem, ↓reduceIte, ↓reduceDIte, zA, zM, zL, zE, zD, yA, yE, yL, yQ, yT, reduceCtorEq, t0]
    refine opt_by (h81 _ B c p M W R (i : Int) (hb.step (sB _)) ho (by omega) (by omega)) fun v1 h1 p1 => ?_
    obtain ⟨rfl, st1⟩ := p1
    have nx1 : h.next ≤ h1.next := st1.next
    have k1 := hpk.at (m.mem.step hM hW ((sB _).trans st1)) (hw i hi)
    have gO1 := st1.old O lO
    simp only [go_sem, ↓reduceIte, ↓reduceDIte, zA, zM, zL, zE, zD, yA, yE, yL, yQ, yT, reduceCtorEq] at gO1
    have fin : ∀ (cs' : List AV) (h2 : H), h2.next = h1.next → (∀ b, b < h.next → b ≠ O → h2.t.get b = h.t.get b) → h2.t.get O = some (.row (putList 0 cs' T.e) n 3) → cs'.length = n → (∀ j, j < i + 1 → cs'[j]? = some (ownN j)) → ∀ tm' : T AV, tm'.get 0 = some (.ptr B 0) → tm'.get 3 = some (.sl O 0 n 1 (some n)) → tm'.get 14 = some (.int .i64 (n : Int)) → tm'.get 15 = some (.int .i64 ((i : Int) + 1)) → ∃ j', j' < k + 1 ∧ I39 h0 O B n j' tm' h2 := fun cs' h2 q1 q2 q3 q4 q5 tm' a1 a2 a3 a4 =>
      ⟨k, Nat.lt_succ_self k, a1, a2, a3, ⟨by omega, fun b hb => (q2 b (by omega) (by omega)).trans (st.old b hb)⟩, hO, by omega, i + 1, cs', by omega, a4, q3, q4, q5⟩
    have oldb : ∀ b, b < h.next → b ≠ O → h1.t.get b = h.t.get b := fun b hb hn => by
      have := st1.old b hb
      simp only [go_sem, ↓reduceIte, ↓reduceDIte, zA, zM, zL, zE, zD, yA, yE, yL, yQ, yT, reduceCtorEq, hn] at this
      exact this
    cases i with
    | zero =>
      simp only [] at k1
      have f2 : fw .i64 1 = 1 := rfl
      have f3 : fw .i64 (1 - 1) = 0 := rfl
      have z1 : ¬ (1 : Int) < 1 := by decide
      have z2 : ¬ (64 : Int) < 1 := by decide
      have hn0 : 1 ≤ n := hi
      have e1' : (0 : Int) < (n : Int) := by omega
      have k1' : call 66 [.ptr M 0, .int .i64 0] h1 = some (.tup [.int .u64 1, .bool true], h1) := k1
      have t15' : tm.get 15 = some (.int .i64 0) := t15
      simp only [go_sem, ↓reduceIte, ↓reduceDIte, zA, zM, zL, zE, zD, yA, yE, yL, yQ, yT, reduceCtorEq, k1', gO1, z1, z2, f2, f3, t0, t3, t14, t15', e1', hcl, hn0, hi, fl1]
      refine fin ((cs.set 0 (.int .i64 (-1))).set 0 (.int .i64 0)) ⟨h1.next, h1.t.set O (.row (putList 0 ((cs.set 0 (.int .i64 (-1))).set 0 (.int .i64 0)) T.e) n 3)⟩ rfl (fun b hb hn => ?_) ?_ (by rw [List.length_set, List.length_set]; exact hcl) (fun j hj => ?_) _ ?_ ?_ ?_ ?_
      · simp only [go_sem, ↓reduceIte, ↓reduceDIte, zA, zM, zL, zE, zD, yA, yE, yL, yQ, yT, reduceCtorEq, hn]
        exact oldb b hb hn
      · simp only [go_sem, ↓reduceIte, ↓reduceDIte, zA, zM, zL, zE, zD, yA, yE, yL, yQ, yT, reduceCtorEq]
      · obtain rfl : j = 0 := by omega
        rw [List.getElem?_set_self (by rw [List.length_set, hcl]; exact hi)]
        rfl
      · simp only [go_sem, ↓reduceIte, ↓reduceDIte, zA, zM, zL, zE, zD, yA, yE, yL, yQ, yT, reduceCtorEq, t0]
      · simp only [go_sem, ↓reduceIte, ↓reduceDIte, zA, zM, zL, zE, zD, yA, yE, yL, yQ, yT, reduceCtorEq, t3]
      · simp only [go_sem, ↓reduceIte, ↓reduceDIte, zA, zM, zL, zE, zD, yA, yE, yL, yQ, yT, reduceCtorEq, t14]
      · simp only [go_sem, ↓reduceIte, ↓reduceDIte, zA, zM, zL, zE, zD, yA, yE, yL, yQ, yT, reduceCtorEq]
    | succ i =>
      simp only [] at k1
      have z1 : (0 : Int) < 1 := by decide
      simp only [go_sem, ↓reduceIte, ↓reduceDIte, zA, zM, zL, zE, zD, yA, yE, yL, yQ, yT, reduceCtorEq, k1, z1, f1, t0, t3, t14, t15]
      have hjj : ∀ j, j < i + 1 + 1 → (cs.set (i + 1) (.int .i64 (-1)))[j]? = some (ownN j) := fun j hj => by
        by_cases hji : j = i + 1
        · subst hji
          rw [List.getElem?_set_self (by rw [hcl]; exact hi)]; rfl
        · rw [List.getElem?_set_ne (by omega)]
          exact hcs j (by omega)
      exact fin _ _ rfl oldb gO1 (by rw [List.length_set]; exact hcl) hjj _ (by simp [go_sem, t0]) (by simp [go_sem, t3]) (by simp [go_sem, t14]) (by simp [go_sem])
/-- the threads that have the slots -/
def Post39 (n : Nat) (h : H) (v : AV) (h' : H) : Prop := StepN h h' ∧ ∃ O cs, v = .sl O 0 n 1 (some n) ∧ O < h'.next ∧ h'.t.get O = some (.row (putList 0 cs T.e) n 3) ∧ (∀ j, j < n → cs[j]? = some (ownN j))
theorem w39 (P : Program) [PT P] {call : CallE} (h38 : F38 call) (h79 : F79 call) (h81 : F81 call) (hpk : FPeek call) {h : H} {B : Nat} {c : CfgT} {p : PlT} {M W R : Nat} {ws : List Int} {lg : AV} {n : Nat} (hs : c.slots = (n : Int)) (hn : n ≤ 64) (hb : BaseH h B c p M W R) (ho : p.ow = 0) (hl : c.cuts.length ≤ 1000) (m : MemG h M W ws lg) (hM : M < h.next) (hW : W < h.next) (hw : OwnW ws n) :
    WF P call c39 [.ptr B 0] h (Post39 n h) := by
  simp only [go_sem, ↓reduceIte, ↓reduceDIte, zA, zM, zL, zE, zD, yA, yE, yL, yQ, yT, reduceCtorEq, c39]
  refine opt_by (h38 h B c p M W R hb hl) fun v1 h1 p1 => ?_
  obtain ⟨⟨cv, rfl, ov⟩, st1⟩ := p1
  have e1 : 8 * n ≤ 281474976710656 := by omega
  have e2 : n ≤ 281474976710656 := by omega
  have nx := st1.next
  simp only [go_sem, ↓reduceIte, ↓reduceDIte, zA, zM, zL, zE, zD, yA, yE, yL, yQ, yT, reduceCtorEq, cfgC, part3, hs, evLenN, rep_one, Nat.mul_one, Nat.le_refl, e1, e2, decide_true, Bool.and_self, cond_true]
  refine loop_in (I39 h h1.next B n) _ _ (fun k tm h' hI => step39 P h79 h81 hpk hn hb ho m hM hW hw k tm h' hI) (fun tm2 h2 hR => ?_) (fun _ _ hh => hh.elim) n _ _
    ⟨by simp [go_sem], by simp [go_sem], by simp [go_sem], st1.trans (StepN.new h1 _), nx, Nat.lt_succ_self _, 0, List.replicate n (.int .i64 0), by omega, by simp [go_sem], by simp [go_sem], List.length_replicate, fun j hj => by omega⟩
  obtain ⟨t3, st2, lO, cs, gO, hcl, hcs⟩ := hR
  simp only [go_sem, ↓reduceIte, ↓reduceDIte, zA, zM, zL, zE, zD, yA, yE, yL, yQ, yT, reduceCtorEq, t3]
  exact ⟨st2, _, cs, rfl, lO, gO, hcs⟩
/-- not there -/
theorem w85 (P : Program) {call : CallE} {h : H} (x : Int) : WF P call c85 [.nils, .int .i64 x] h fun v h' => v = .int .i64 (-1) ∧ h' = h := by
  simp only [go_sem, ↓reduceIte, ↓reduceDIte, zA, zM, zL, zE, zD, yA, yE, yL, yQ, yT, reduceCtorEq, c85]
  refine unroll 1 ?_
  simp only [go_sem, ↓reduceIte, ↓reduceDIte, zA, zM, zL, zE, zD, yA, yE, yL, yQ, yT, reduceCtorEq, c85_l7]
theorem w40 (P : Program) {call : CallE} (h85 : ∀ h (x : Int), call 85 [.nils, .int .i64 x] h = some (.int .i64 (-1), h)) {h : H} (x : Int) : WF P call c40 [.nils, .int .i64 x] h fun v h' => v = .bool false ∧ h' = h := by
  have e1 : ((-1 : Int) < 0) = True := by simp
  simp only [go_sem, ↓reduceIte, ↓reduceDIte, zA, zM, zL, zE, zD, yA, yE, yL, yQ, yT, reduceCtorEq, c40, h85, e1]
theorem w410 (P : Program) {call : CallE} {h : H} {G N B M n : Nat} {base : Int} (gG : h.t.get G = some (rowL [.ptr M 0, .int .i64 base, .sl N 0 n 1 (some n), .sl B 0 n 1 (some n)] 289)) (gN : h.t.get N = some (.row (putList 0 (List.replicate n (.int .u64 0)) T.e) n 28)) {i : Nat} (hi : i < n) :
    WF P call c410 [.ptr G 0, .int .i64 (i : Int)] h fun v h' => v = .bool false ∧ h' = h := by
  have e1 : (i : Int) < (n : Int) := by omega
  have e2 : (List.replicate n (AV.int .u64 0))[i]? = some (.int .u64 0) := by rw [List.getElem?_replicate, if_pos hi]
  have e3 : Int.tmod 0 2 = 0 := rfl
  have e4 : ¬ (0 : Int) = 1 := by decide
  simp only [go_sem, ↓reduceIte, ↓reduceDIte, zA, zM, zL, zE, zD, yA, yE, yL, yQ, yT, reduceCtorEq, c410, gG, gN, e1, Nat.mul_one, e2, e3, e4]
def I406 (h0 : H) (G n : Nat) (k : Nat) (tm : T AV) (h : H) : Prop :=
  h = h0 ∧ tm.get 0 = some (.ptr G 0) ∧ tm.get 3 = some .nils ∧ tm.get 11 = some (.int .i64 (n : Int)) ∧ ∃ i : Nat, i + k = n ∧ tm.get 12 = some (.int .i64 (i : Int))
def F410 (call : CallE) : Prop := ∀ h G N B M n base i, h.t.get G = some (rowL [.ptr M 0, .int .i64 base, .sl N 0 n 1 (some n), .sl B 0 n 1 (some n)] 289) → h.t.get N = some (.row (putList 0 (List.replicate n (.int .u64 0)) T.e) n 28) → i < n → call 410 [.ptr G 0, .int .i64 ((i : Nat) : Int)] h = some (.bool false, h)
theorem w406 (P : Program) [PT P] {call : CallE} (h410 : F410 call) {h : H} {G N B M n : Nat} {base : Int} (gG : h.t.get G = some (rowL [.ptr M 0, .int .i64 base, .sl N 0 n 1 (some n), .sl B 0 n 1 (some n)] 289)) (gN : h.t.get N = some (.row (putList 0 (List.replicate n (.int .u64 0)) T.e) n 28)) (hn : n ≤ 64) :
    WF P call c406 [.ptr G 0] h fun v h' => v = .nils ∧ StepN h h' := by
  simp only [go_sem, ↓reduceIte, ↓reduceDIte, zA, zM, zL, zE, zD, yA, yE, yL, yQ, yT, reduceCtorEq, c406, gG]
  refine loop_in (I406 h G n) (fun tm h' => h' = h ∧ tm.get 3 = some .nils) (fun _ _ => False) (fun k tm h' hI => ?_) (fun tm2 h2 hR => ?_) (fun _ _ hh => hh.elim) n _ _
    ⟨rfl, by simp [go_sem], by simp [go_sem], by simp [go_sem], 0, by omega, by simp [go_sem]⟩
  · obtain ⟨rfl, t0, t3, t11, i, hik, t12⟩ := hI
    cases k with
    | zero =>
      have e1 : ¬ (i : Int) < (n : Int) := by omega
      simp only [go_sem, ↓reduceIte, ↓reduceDIte, zA, zM, zL, zE, zD, yA, yE, yL, yQ, yT, reduceCtorEq, c406_l10, t11, t12, e1, t3]
    | succ k =>
      have e1 : (i : Int) < (n : Int) := by omega
      have f1 : fw .i64 ((i : Int) + 1) = (i : Int) + 1 := fwI (by omega) (by omega)
      have e3 : ((i + 1 : Nat) : Int) = (i : Int) + 1 := rfl
      have k1 := h410 h' G N B M n base i gG gN (by omega)
      simp only [go_sem, ↓reduceIte, ↓reduceDIte, zA, zM, zL, zE, zD, yA, yE, yL, yQ, yT, reduceCtorEq, c406_l10, t0, t3, t11, t12, e1, k1, f1]
      exact ⟨k, Nat.lt_succ_self k, rfl, by simp [go_sem, t0], by simp [go_sem, t3], by simp [go_sem, t11], i + 1, by omega, by simp [go_sem, e3]⟩
  · obtain ⟨rfl, t3⟩ := hR
    simp only [go_sem, ↓reduceIte, ↓reduceDIte, zA, zM, zL, zE, zD, yA, yE, yL, yQ, yT, reduceCtorEq, t3]
    exact StepN.refl _
def I422 (h0 : H) (n N : Nat) (k : Nat) (tm : T AV) (h : H) : Prop :=
  StepN h0 h ∧ tm.get 3 = some .nils ∧ tm.get 11 = some (.sl N 0 n 2 (some n)) ∧ tm.get 12 = some (.int .i64 (n : Int)) ∧ ∃ i : Nat, i + k = n ∧ tm.get 13 = some (.int .i64 (i : Int))
theorem rep_take (x y : AV) (n i : Nat) (hi : i < n) : ((rep [x, y] (n * 2)).drop (i * 2)).take 2 = [x, y] ∧ i * 2 + 2 ≤ (rep [x, y] (n * 2)).length := by
  have hl : (rep [x, y] (n * 2)).length = n * 2 := by simp [rep]
  refine ⟨?_, by omega⟩
  apply List.ext_getElem?
  intro j
  rw [List.getElem?_take]
  by_cases hj : j < 2
  · rw [if_pos hj, List.getElem?_drop]
    have h1 : i * 2 + j < n * 2 := by omega
    unfold rep
    rw [List.getElem?_map, List.getElem?_range h1]
    have h2 : (i * 2 + j) % 2 = j := by omega
    match j, hj with
    | 0, _ => simp
    | 1, _ => simp
  · rw [if_neg hj, List.getElem?_eq_none (by simp; omega)]
theorem w422 (P : Program) [PT P] {call : CallE} {h : H} {G N M n : Nat} {fv : AV} (gG : h.t.get G = some (rowL [.ptr M 0, .sl N 0 n 2 (some n), fv] 293)) (gN : h.t.get N = some (.row (putList 0 (rep [.int .u64 0, .bool false] (n * 2)) T.e) (n * 2) 624)) (lN : N < h.next) (hn : n ≤ 64) :
    WF P call c422 [.ptr G 0] h fun v h' => v = .nils ∧ StepN h h' := by
  simp only [go_sem, ↓reduceIte, ↓reduceDIte, zA, zM, zL, zE, zD, yA, yE, yL, yQ, yT, reduceCtorEq, c422, gG]
  refine loop_in (I422 h n N) (fun tm h' => StepN h h' ∧ tm.get 3 = some .nils) (fun _ _ => False) (fun k tm h' hI => ?_) (fun tm2 h2 hR => ?_) (fun _ _ hh => hh.elim) n _ _
    ⟨StepN.refl _, by simp [go_sem], by simp [go_sem], by simp [go_sem], 0, by omega, by simp [go_sem]⟩
  · obtain ⟨st, t3, t11, t12, i, hik, t13⟩ := hI
    cases k with
    | zero =>
      have e1 : ¬ (i : Int) < (n : Int) := by omega
      simp only [go_sem, ↓reduceIte, ↓reduceDIte, zA, zM, zL, zE, zD, yA, yE, yL, yQ, yT, reduceCtorEq, c422_l10, t12, t13, e1, t3]
      exact st
    | succ k =>
      have e1 : (i : Int) < (n : Int) := by omega
      have f1 : fw .i64 ((i : Int) + 1) = (i : Int) + 1 := fwI (by omega) (by omega)
      have e3 : ((i + 1 : Nat) : Int) = (i : Int) + 1 := rfl
      obtain ⟨q1, q2⟩ := rep_take (.int .u64 0) (.bool false) n i (by omega)
      have gN1 := (st.old N lN).trans gN
      have z1 : Int.tmod 0 2 = 0 := rfl
      have z2 : ¬ (0 : Int) = 1 := by decide
      simp only [go_sem, ↓reduceIte, ↓reduceDIte, zA, zM, zL, zE, zD, yA, yE, yL, yQ, yT, reduceCtorEq, c422_l10, t3, t11, t12, t13, e1, gN1, q1, q2, f1, z1, z2]
      exact ⟨k, Nat.lt_succ_self k, st.trans (StepN.new h' _), by simp [go_sem, t3], by simp [go_sem, t11], by simp [go_sem, t12], i + 1, by omega, by simp [go_sem, e3]⟩
  · obtain ⟨st, t3⟩ := hR
    simp only [go_sem, ↓reduceIte, ↓reduceDIte, zA, zM, zL, zE, zD, yA, yE, yL, yQ, yT, reduceCtorEq, t3]
    exact st
def I433 (h0 : H) (G : Nat) (k : Nat) (tm : T AV) (h : H) : Prop :=
  h = h0 ∧ tm.get 0 = some (.ptr G 0) ∧ tm.get 3 = some .nils ∧ ∃ i : Nat, i + k = 64 ∧ tm.get 9 = some (.int .i64 (i : Int))
theorem w433 (P : Program) [PT P] {call : CallE} {h : H} {G S' M : Nat} {base nb : Int} (gG : h.t.get G = some (rowL [.ptr M 0, .int .i64 base, .int .i64 nb, .map S'] 296)) (gS : h.t.get S' = some (.map [] 0)) :
    WF P call c433 [.ptr G 0] h fun v h' => v = .nils ∧ StepN h h' := by
  simp only [go_sem, ↓reduceIte, ↓reduceDIte, zA, zM, zL, zE, zD, yA, yE, yL, yQ, yT, reduceCtorEq, c433]
  refine loop_in (I433 h G) (fun tm h' => h' = h ∧ tm.get 3 = some .nils) (fun _ _ => False) (fun k tm h' hI => ?_) (fun tm2 h2 hR => ?_) (fun _ _ hh => hh.elim) 64 _ _
    ⟨rfl, by simp [go_sem], by simp [go_sem], 0, by omega, by simp [go_sem]⟩
  · obtain ⟨rfl, t0, t3, i, hik, t9⟩ := hI
    cases k with
    | zero =>
      have e1 : ¬ (i : Int) < 64 := by omega
      simp only [go_sem, ↓reduceIte, ↓reduceDIte, zA, zM, zL, zE, zD, yA, yE, yL, yQ, yT, reduceCtorEq, c433_l11, t9, e1, t3]
    | succ k =>
      have e1 : (i : Int) < 64 := by omega
      have f1 : fw .i64 ((i : Int) + 1) = (i : Int) + 1 := fwI (by omega) (by omega)
      have e3 : ((i + 1 : Nat) : Int) = (i : Int) + 1 := rfl
      have lk : ∀ (tm : T AV), tm.get 16 = some (.map S') → tm.get 17 = some (.int .i64 (i : Int)) → evL tm h'.t.get ⟨0, .t 16, .t 17, .nilp, true⟩ = some (.tup [.nilp, .bool false]) := fun tm a b => by
        unfold evL
        simp only [evo, a, b, gS, keyA, findA]
        rfl
      simp only [go_sem, ↓reduceIte, ↓reduceDIte, zA, zM, zL, zE, zD, yA, yE, yL, yQ, yT, reduceCtorEq, c433_l11, t0, t3, t9, e1, gG, lk, f1]
      exact ⟨k, Nat.lt_succ_self k, rfl, by simp [go_sem, t0], by simp [go_sem, t3], i + 1, by omega, by simp [go_sem, e3]⟩
  · obtain ⟨rfl, t3⟩ := hR
    simp only [go_sem, ↓reduceIte, ↓reduceDIte, zA, zM, zL, zE, zD, yA, yE, yL, yQ, yT, reduceCtorEq, t3]
    exact StepN.refl _
def FNil (call : CallE) (f : FuncId) (h : H) (G : Nat) : Prop := ∃ v h', call f [.ptr G 0] h = some (v, h') ∧ (v = .nils ∧ StepN h h')
theorem w42 (P : Program) [pt : PT P] {call : CallE} (h406 : ∀ h G N B M n base, h.t.get G = some (rowL [.ptr M 0, .int .i64 base, .sl N 0 n 1 (some n), .sl B 0 n 1 (some n)] 289) → h.t.get N = some (.row (putList 0 (List.replicate n (.int .u64 0)) T.e) n 28) → n ≤ 64 → FNil call 406 h G)
    (h422 : ∀ h G N M n fv, h.t.get G = some (rowL [.ptr M 0, .sl N 0 n 2 (some n), fv] 293) → h.t.get N = some (.row (putList 0 (rep [.int .u64 0, .bool false] (n * 2)) T.e) (n * 2) 624) → N < h.next → n ≤ 64 → FNil call 422 h G)
    (h433 : ∀ h G S' M base nb, h.t.get G = some (rowL [.ptr M 0, .int .i64 base, .int .i64 nb, .map S'] 296) → h.t.get S' = some (.map [] 0) → FNil call 433 h G)
    {h : H} {R n : Nat} (hR : PrcuH h R n) (hn : n ≤ 64) : WF P call c42 [.ptr R 0] h fun v h' => v = .nils ∧ StepN h h' := by
  cases hR with
  | full G N B M base kind gR gG gN lR lG lN =>
    simp only [go_sem, ↓reduceIte, ↓reduceDIte, zA, zM, zL, zE, zD, yA, yE, yL, yQ, yT, reduceCtorEq, c42, gR, pt.opA]
    refine opt_by (h406 h G N B M n base gG gN hn) fun v1 h1 p1 => ?_
    obtain ⟨rfl, st⟩ := p1
    simp only [go_sem, ↓reduceIte, ↓reduceDIte, zA, zM, zL, zE, zD, yA, yE, yL, yQ, yT, reduceCtorEq]
    exact st
  | each G N M fv kind gR gG gN lR lG lN =>
    simp only [go_sem, ↓reduceIte, ↓reduceDIte, zA, zM, zL, zE, zD, yA, yE, yL, yQ, yT, reduceCtorEq, c42, gR, pt.opB]
    refine opt_by (h422 h G N M n fv gG gN lN hn) fun v1 h1 p1 => ?_
    obtain ⟨rfl, st⟩ := p1
    simp only [go_sem, ↓reduceIte, ↓reduceDIte, zA, zM, zL, zE, zD, yA, yE, yL, yQ, yT, reduceCtorEq]
    exact st
  | gate G S' M base nb kind gR gG gS lR lG lS =>
    simp only [go_sem, ↓reduceIte, ↓reduceDIte, zA, zM, zL, zE, zD, yA, yE, yL, yQ, yT, reduceCtorEq, c42, gR, pt.opC]
    refine opt_by (h433 h G S' M base nb gG gS) fun v1 h1 p1 => ?_
    obtain ⟨rfl, st⟩ := p1
    simp only [go_sem, ↓reduceIte, ↓reduceDIte, zA, zM, zL, zE, zD, yA, yE, yL, yQ, yT, reduceCtorEq]
    exact st
end
end Go.Proofs.YtldmhpdjlgoenaaGreatDoor.BN

namespace Go.Proofs.YtldmhpdjlgoenaaGreatDoor.BN
open Go.Proofs.YtldmhpdjlgoenaaGreatDoor.Eo
open Nat renaming reduceAdd → zA, reduceMul → zM, reduceLT → zL, reduceEqDiff → zE, reduceLeDiff → zD
open Int renaming reduceAdd → yA, reduceLE → yE, reduceLT → yL, reduceEq → yQ, reduceToNat → yT
noncomputable section
/-! 87: leapfrog/ranges.New -/
@[go_sem] def c87_s0 : List SQ := [⟨some 6, none, .n (.box 132 (.t 2))⟩, ⟨some 8, none, .p (.mv (.c .nilp))⟩, ⟨some 9, none, .p (.mv (.c (.int .i64 0)))⟩]
@[go_sem] def c87_s1 : List SQ := [⟨some 11, none, .p (.mv (.t 0))⟩, ⟨some 12, none, .p (.bin .eql 36 false true (.t 11) (.c .nilp))⟩]
@[go_sem] def c87_s2 : List SQ := [⟨some 8, none, .p (.mv (.c .nilp))⟩, ⟨some 9, none, .p (.mv (.c (.int .i64 1)))⟩]
@[go_sem] def c87_s3 : List SQ := [⟨some 13, none, .p (.mv (.t 1))⟩, ⟨some 14, none, .p (.bin .lss 3 false true (.t 13) (.c (.int .i64 0)))⟩, ⟨some 15, none, .p (.mv (.t 14))⟩, ⟨some 16, some (15, false), .p (.mv (.t 1))⟩, ⟨some 17, some (15, false), .p (.bin .geq 3 false true (.t 16) (.c (.int .i64 64)))⟩, ⟨some 18, none, .p (.pick (.t 15) (.c (.bool true)) (.t 17))⟩, ⟨some 19, none, .p (.mv (.t 18))⟩, ⟨some 20, some (19, false), .p (.mv (.t 3))⟩, ⟨some 21, some (19, false), .p (.bin .lss 3 false true (.t 20) (.c (.int .i64 0)))⟩, ⟨some 22, none, .p (.pick (.t 19) (.c (.bool true)) (.t 21))⟩, ⟨some 23, none, .p (.mv (.t 22))⟩, ⟨some 24, some (23, false), .p (.mv (.t 3))⟩, ⟨some 25, some (23, false), .p (.bin .gtr 3 false true (.t 24) (.c (.int .i64 255)))⟩, ⟨some 26, none, .p (.pick (.t 23) (.c (.bool true)) (.t 25))⟩]
@[go_sem] def c87_s4 : List SQ := [⟨some 8, none, .p (.mv (.c .nilp))⟩, ⟨some 9, none, .p (.mv (.c (.int .i64 2)))⟩]
@[go_sem] def c87_s5 : List SQ := [⟨some 27, none, .r (.ld (some 2) (.t 6))⟩, ⟨some 28, none, .cv (.c (.fn (.func 43) [] [])) [(.t 27)]⟩, ⟨some 29, none, .p (.bin .neq 34 false true (.t 28) (.c (.int .i64 0)))⟩]
@[go_sem] def c87_s6 : List SQ := [⟨some 8, none, .p (.mv (.c .nilp))⟩, ⟨some 9, none, .p (.mv (.c (.int .i64 13)))⟩]
@[go_sem] def c87_s7 : List SQ := [⟨some 30, none, .p (.mv (.t 0))⟩, ⟨some 31, none, .p (.mv (.t 1))⟩, ⟨some 32, none, .r (.ld (some 2) (.t 6))⟩, ⟨some 33, none, .p (.mv (.t 3))⟩, ⟨some 34, none, .p (.build [.nilp, .int .i64 0, .int .u64 0, .int .u64 0, .int .i64 0, .int .i64 0, .int .i64 0, .int .i64 0, .int .u64 0, .bool false, .nilf, .nilm, .int .u8 0, .int .i64 0] [(0, 1, (.t 30)), (1, 1, (.t 31)), (2, 2, (.t 32)), (4, 1, (.t 33)), (12, 1, (.c (.int .u8 2)))])⟩, ⟨some 35, none, .n (.box 317 (.t 34))⟩, ⟨some 10, none, .p (.mv (.t 35))⟩]
@[go_sem] def c87_s8 : List SQ := [⟨some 36, none, .p (.mv (.t 10))⟩, ⟨some 37, none, .p (.mkfn (.func 115) [] [(.t 6)])⟩, ⟨some 38, none, .p (.nilck (.t 36))⟩, ⟨some 39, none, .p (.fadr 10 (.t 38))⟩, ⟨none, none, .e (.st 1 (.t 39) (.t 37))⟩]
@[go_sem] def c87_s9 : List SQ := [⟨some 40, none, .p (.mv (.t 10))⟩, ⟨some 41, none, .n .mkmap⟩, ⟨none, none, .m (.upd 0 (.t 41) (.c (.int .u8 2)) (.c (.fn (.func 116) [] [])))⟩, ⟨none, none, .m (.upd 0 (.t 41) (.c (.int .u8 37)) (.c (.fn (.func 117) [] [])))⟩, ⟨none, none, .m (.upd 0 (.t 41) (.c (.int .u8 38)) (.c (.fn (.func 118) [] [])))⟩, ⟨none, none, .m (.upd 0 (.t 41) (.c (.int .u8 39)) (.c (.fn (.func 119) [] [])))⟩, ⟨none, none, .m (.upd 0 (.t 41) (.c (.int .u8 40)) (.c (.fn (.func 120) [] [])))⟩, ⟨none, none, .m (.upd 0 (.t 41) (.c (.int .u8 41)) (.c (.fn (.func 121) [] [])))⟩, ⟨none, none, .m (.upd 0 (.t 41) (.c (.int .u8 42)) (.c (.fn (.func 122) [] [])))⟩, ⟨none, none, .m (.upd 0 (.t 41) (.c (.int .u8 3)) (.c (.fn (.func 123) [] [])))⟩, ⟨some 42, none, .p (.mv (.t 41))⟩, ⟨some 43, none, .p (.nilck (.t 40))⟩, ⟨some 44, none, .p (.fadr 11 (.t 43))⟩, ⟨none, none, .e (.st 1 (.t 44) (.t 42))⟩]
@[go_sem] def c87_s10 : List SQ := [⟨some 45, none, .p (.mv (.t 10))⟩, ⟨some 8, none, .p (.mv (.t 45))⟩, ⟨some 9, none, .p (.mv (.c (.int .i64 0)))⟩]
@[go_sem] def c87 : CF := ⟨4, (.seq (.ops c87_s0) (.seq (.seq (.ops c87_s1) (.cond (.t 12) (.seq (.ops c87_s2) .ret) .skip)) (.seq (.seq (.ops c87_s3) (.cond (.t 26) (.seq (.ops c87_s4) .ret) .skip)) (.seq (.seq (.ops c87_s5) (.cond (.t 29) (.seq (.ops c87_s6) .ret) .skip)) (.seq (.ops c87_s7) (.seq (.ops c87_s8) (.seq (.ops c87_s9) (.seq (.ops c87_s10) .ret)))))))), [.tmp 8, .tmp 9]⟩
/-! 45: (*leapfrog/bulk.Bulk).lock -/
@[go_sem] def c45_s0 : List SQ := [⟨some 1, none, .n (.box 56 (.t 0))⟩]
@[go_sem] def c45_p1 : List (List DQ × Option DQ) := [([⟨0, [(1, none)], none, .r (.ld none (.t 1))⟩, ⟨1, [(5, (some 0))], none, .p (.nilck (.t 5))⟩, ⟨2, [(6, (some 1))], none, .p (.fadr 0 (.t 6))⟩, ⟨3, [(7, (some 2))], none, .r (.ld none (.t 7))⟩, ⟨4, [(1, none)], none, .r (.ld none (.t 1))⟩, ⟨5, [(9, (some 4))], none, .p (.nilck (.t 9))⟩, ⟨6, [(10, (some 5))], none, .p (.fadr 1 (.t 10))⟩, ⟨7, [(11, (some 6))], none, .r (.ld none (.t 11))⟩, ⟨8, [(1, none)], none, .r (.ld none (.t 1))⟩, ⟨9, [(13, (some 8))], none, .p (.nilck (.t 13))⟩, ⟨10, [(14, (some 9))], none, .p (.fadr 15 (.t 14))⟩, ⟨11, [(15, (some 10))], none, .r (.ld (some 2) (.t 15))⟩, ⟨12, [(1, none)], none, .r (.ld none (.t 1))⟩, ⟨13, [(17, (some 12))], none, .p (.nilck (.t 17))⟩, ⟨14, [(18, (some 13))], none, .p (.fadr 0 (.t 18))⟩, ⟨15, [(19, (some 14))], none, .r (.ld none (.t 19))⟩, ⟨22, [], none, .n (.new 246 [.nilp])⟩], (some ⟨16, [(20, (some 15))], none, .cv (.c (.fn (.func 38) [] [])) [(.t 20)]⟩)), ([⟨17, [(21, (some 16))], none, .p (.fld 3 14 (.t 21))⟩], (some ⟨18, [(8, (some 3)), (12, (some 7)), (16, (some 11)), (22, (some 17))], none, .cv (.c (.fn (.func 87) [] [])) [(.t 8), (.t 12), (.t 16), (.t 22)]⟩)), ([⟨19, [(23, (some 18))], none, .p (.mv (.t 23))⟩, ⟨20, [(4, (some 19))], none, .p (.extr (.t 4) 0)⟩, ⟨21, [(4, (some 19))], none, .p (.extr (.t 4) 1)⟩], (some ⟨23, [(2, (some 22)), (24, (some 20))], none, .e (.st 1 (.t 2) (.t 24))⟩)), ([⟨24, [(25, (some 21))], none, .p (.mv (.t 25))⟩], none)]
@[go_sem] def c45_s2 : List SQ := [⟨some 26, none, .r (.ld none (.t 1))⟩, ⟨some 27, none, .r (.ld none (.t 2))⟩, ⟨some 28, none, .p (.mkif 246 (.t 27))⟩, ⟨some 29, none, .p (.build [.nili] [(0, 1, (.t 28))])⟩, ⟨some 30, none, .p (.mkif 252 (.t 29))⟩, ⟨some 31, none, .p (.mv (.t 3))⟩, ⟨some 32, none, .p (.mkfn (.func 89) [] [(.t 2), (.t 1)])⟩, ⟨some 33, none, .cv (.c (.fn (.func 88) [] [])) [(.t 26), (.t 30), (.t 31), (.t 32)]⟩]
@[go_sem] def c45 : CF := ⟨1, (.seq (.ops c45_s0) (.seq (.drw ⟨c45_p1, [(0, 5), (1, 6), (2, 7), (3, 8), (4, 9), (5, 10), (6, 11), (7, 12), (8, 13), (9, 14), (10, 15), (11, 16), (12, 17), (13, 18), (14, 19), (15, 20), (16, 21), (17, 22), (18, 23), (19, 4), (20, 24), (21, 25), (22, 2), (24, 3)], [(⟨0, [(1, none)], none, .r (.ld none (.t 1))⟩, [0, 1]), (⟨3, [(7, (some 2))], none, .r (.ld none (.t 7))⟩, [0, 1]), (⟨4, [(1, none)], none, .r (.ld none (.t 1))⟩, [0, 1]), (⟨7, [(11, (some 6))], none, .r (.ld none (.t 11))⟩, [0, 1]), (⟨8, [(1, none)], none, .r (.ld none (.t 1))⟩, [0, 1]), (⟨11, [(15, (some 10))], none, .r (.ld (some 2) (.t 15))⟩, [0, 1]), (⟨12, [(1, none)], none, .r (.ld none (.t 1))⟩, [0]), (⟨15, [(19, (some 14))], none, .r (.ld none (.t 19))⟩, [0])]⟩) (.ops c45_s2))), []⟩
/-! 88: (*leapfrog/bulk.Bulk).begin -/
@[go_sem] def c88_s0 : List SQ := [⟨some 8, none, .p (.mv (.t 2))⟩, ⟨some 9, none, .p (.bin .neq 34 false true (.t 8) (.c (.int .i64 0)))⟩]
@[go_sem] def c88_s1 : List SQ := [⟨some 10, none, .p (.mv (.t 0))⟩, ⟨some 11, none, .p (.mv (.t 2))⟩, ⟨some 12, none, .p (.build [.int .i64 0, .bool false, .int .u64 0, .int .u64 0, .int .i64 0] [(0, 1, (.t 11))])⟩, ⟨some 13, none, .p (.nilck (.t 10))⟩, ⟨some 14, none, .p (.fadr 28 (.t 13))⟩, ⟨none, none, .e (.st 5 (.t 14) (.t 12))⟩]
@[go_sem] def c88_s2 : List SQ := [⟨some 15, none, .p (.mv (.t 0))⟩, ⟨some 16, none, .p (.nilck (.t 15))⟩, ⟨some 17, none, .p (.fadr 27 (.t 16))⟩, ⟨none, none, .e (.st 1 (.t 17) (.c (.bool true)))⟩]
@[go_sem] def c88_s3 : List SQ := [⟨some 18, none, .p (.mv (.t 0))⟩, ⟨some 19, none, .p (.mv (.t 0))⟩, ⟨some 20, none, .p (.mv (.t 1))⟩, ⟨some 21, none, .n (.buildS 161 1 1 [.nili] [(0, 1, (.t 20))])⟩, ⟨some 22, none, .p (.mv (.t 3))⟩, ⟨some 23, none, .p (.nilck (.t 18))⟩, ⟨some 24, none, .p (.fadr 17 (.t 23))⟩, ⟨none, none, .e (.st 1 (.t 24) (.t 21))⟩, ⟨some 25, none, .p (.nilck (.t 19))⟩, ⟨some 26, none, .p (.fadr 18 (.t 25))⟩, ⟨none, none, .e (.st 1 (.t 26) (.t 22))⟩]
@[go_sem] def c88 : CF := ⟨4, (.seq (.seq (.ops c88_s0) (.cond (.t 9) (.seq (.ops c88_s1) (.seq (.ops c88_s2) .ret)) .skip)) (.ops c88_s3)), []⟩
/-! 462: (*leapfrog/ranges.Lock).Next -/
@[go_sem] def c462_s0 : List SQ := [⟨some 2, none, .p (.mv (.c (.int .u8 0)))⟩]
@[go_sem] def c462_s1 : List SQ := [⟨some 3, none, .p (.mv (.t 0))⟩, ⟨some 4, none, .p (.bin .eql 246 false true (.t 3) (.c .nilp))⟩]
@[go_sem] def c462_s2 : List SQ := [⟨some 2, none, .p (.mv (.c (.int .u8 0)))⟩]
@[go_sem] def c462_s3 : List SQ := [⟨some 5, none, .p (.mv (.t 0))⟩, ⟨some 6, none, .p (.nilck (.t 5))⟩, ⟨some 7, none, .p (.fadr 12 (.t 6))⟩, ⟨some 8, none, .r (.ld none (.t 7))⟩, ⟨some 2, none, .p (.mv (.t 8))⟩]
@[go_sem] def c462 : CF := ⟨1, (.seq (.ops c462_s0) (.seq (.seq (.ops c462_s1) (.cond (.t 4) (.seq (.ops c462_s2) .ret) .skip)) (.seq (.ops c462_s3) .ret))), [.tmp 2]⟩
/-! 463: (leapfrog/bulk.many).run -/
@[go_sem] def c463_s0 : List SQ := [⟨some 2, none, .n (.box 252 (.t 0))⟩, ⟨some 4, none, .p (.mv (.c (.int .u8 0)))⟩, ⟨some 5, none, .p (.mv (.c (.bool false)))⟩]
@[go_sem] def c463_s1 : List SQ := [⟨some 6, none, .p (.mv (.t 1))⟩]
@[go_sem] def c463_s2 : List SQ := [⟨some 7, none, .p (.fadr 0 (.t 2))⟩, ⟨some 8, none, .r (.ld none (.t 7))⟩, ⟨some 9, none, .ci (.t 8) "Next" []⟩, ⟨some 4, none, .p (.mv (.t 9))⟩, ⟨some 5, none, .p (.mv (.c (.bool false)))⟩]
@[go_sem] def c463_s3 : List SQ := [⟨some 10, none, .p (.fadr 0 (.t 2))⟩, ⟨some 11, none, .r (.ld none (.t 10))⟩, ⟨some 12, none, .ci (.t 11) "Step" []⟩, ⟨some 13, none, .p (.extr (.t 12) 0)⟩, ⟨some 14, none, .p (.extr (.t 12) 1)⟩, ⟨some 4, none, .p (.mv (.t 13))⟩, ⟨some 5, none, .p (.mv (.t 14))⟩]
@[go_sem] def c463 : CF := ⟨2, (.seq (.ops c463_s0) (.seq (.seq (.ops c463_s1) (.cond (.t 6) (.seq (.ops c463_s2) .ret) .skip)) (.seq (.ops c463_s3) .ret))), [.tmp 4, .tmp 5]⟩

/-- a range is valid, or not -/
theorem w43 (P : Program) {call : CallE} {h : H} (lo hi : Int) : WF P call c43 [.agg [.int .u64 lo, .int .u64 hi]] h fun v h' => v = .int .i64 (if hi < lo then 13 else 0) ∧ StepN h h' := by
  by_cases e : hi < lo
  · simp only [go_sem, ↓reduceIte, ↓reduceDIte, zA, zM, zL, zE, zD, yA, yE, yL, yQ, yT, reduceCtorEq, c43, e]
    exact StepN.new h _
  · simp only [go_sem, ↓reduceIte, ↓reduceDIte, zA, zM, zL, zE, zD, yA, yE, yL, yQ, yT, reduceCtorEq, c43, e]
    exact StepN.new h _
def F43 (call : CallE) : Prop := ∀ h (lo hi : Int), ∃ v h', call 43 [.agg [.int .u64 lo, .int .u64 hi]] h = some (v, h') ∧ (v = .int .i64 (if hi < lo then 13 else 0) ∧ StepN h h')
theorem w86 (P : Program) {call : CallE} (h43 : F43 call) {h : H} {a : Nat} {lo hi : Int} (ha : a < h.next) (g : h.t.get a = some (.row (putList 0 [.int .u64 lo, .int .u64 hi] T.e) 2 132)) (hv : ¬ hi < lo) : WF P call c86 [.sl a 0 1 2 (some 1)] h fun v h' => v = .bool true ∧ StepN h h' := by
  simp only [go_sem, ↓reduceIte, ↓reduceDIte, zA, zM, zL, zE, zD, yA, yE, yL, yQ, yT, reduceCtorEq, c86]
  refine unroll 2 ?_
  have x1 : ¬ a = h.next := by omega
  simp only [go_sem, ↓reduceIte, ↓reduceDIte, zA, zM, zL, zE, zD, yA, yE, yL, yQ, yT, reduceCtorEq, c86_l7, g, x1]
  refine opt_by (h43 _ lo hi) fun v1 h1 p1 => ?_
  obtain ⟨rfl, st⟩ := p1
  simp only [go_sem, ↓reduceIte, ↓reduceDIte, zA, zM, zL, zE, zD, yA, yE, yL, yQ, yT, reduceCtorEq, c86_l7, hv, fl1]
  exact (StepN.new h _).trans st
def F86 (call : CallE) : Prop := ∀ h a (lo hi : Int), a < h.next → h.t.get a = some (.row (putList 0 [.int .u64 lo, .int .u64 hi] T.e) 2 132) → ¬ hi < lo → ∃ v h', call 86 [.sl a 0 1 2 (some 1)] h = some (v, h') ∧ (v = .bool true ∧ StepN h h')
theorem w44 (P : Program) {call : CallE} (h86 : F86 call) {h : H} {lo hi by' : Int} (hv : ¬ hi < lo) (ul : inU lo) (uh : inU hi) (ub : inU by') :
    WF P call c44 [.agg [.int .u64 lo, .int .u64 hi], .int .u64 by'] h fun v h' => v = .tup [.agg (if 18446744073709551615 - hi < by' then [.int .u64 0, .int .u64 0] else [.int .u64 (lo + by'), .int .u64 (hi + by')]), .int .i64 (if 18446744073709551615 - hi < by' then 12 else 0)] ∧ StepN h h' := by
  obtain ⟨l0, l1⟩ := ul
  obtain ⟨h0, h1⟩ := uh
  obtain ⟨b0, b1⟩ := ub
  have n1 : ¬ h.next = h.next + 1 := by omega
  have n2 : ¬ h.next = h.next + 2 := by omega
  have n3 : ¬ h.next + 1 = h.next := by omega
  have n4 : ¬ h.next + 1 = h.next + 2 := by omega
  have n5 : ¬ h.next + 2 = h.next + 1 := by omega
  simp only [go_sem, ↓reduceIte, ↓reduceDIte, zA, zM, zL, zE, zD, yA, yE, yL, yQ, yT, reduceCtorEq, c44, n1, n2, n3, n4]
  refine opt_by (h86 _ (h.next + 2) lo hi (Nat.lt_succ_self _) (by simp [go_sem]) hv) fun v1 h2 p1 => ?_
  obtain ⟨rfl, st⟩ := p1
  have g0 := st.old h.next (by show h.next < h.next + 3; omega)
  have g1 := st.old (h.next + 1) (by show h.next + 1 < h.next + 3; omega)
  simp only [go_sem, ↓reduceIte, ↓reduceDIte, zA, zM, zL, zE, zD, yA, yE, yL, yQ, yT, reduceCtorEq, n1, n2, n3, n4] at g0 g1
  have f1 : fw .u64 (18446744073709551615 - hi) = 18446744073709551615 - hi := fwU (by omega) (by omega)
  have nx : h.next + 3 ≤ h2.next := st.next
  have fin : ∀ x, StepN h ⟨h2.next, h2.t.set (h.next + 1) x⟩ := fun x => ⟨by show h.next ≤ h2.next; omega, fun b hb => by
    have e1 : ¬ b = h.next := by omega
    have e2 : ¬ b = h.next + 1 := by omega
    have e3 : ¬ b = h.next + 2 := by omega
    have := st.old b (by show b < h.next + 3; omega)
    simp only [go_sem, ↓reduceIte, ↓reduceDIte, zA, zM, zL, zE, zD, yA, yE, yL, yQ, yT, reduceCtorEq, e1, e2, e3] at this
    simp only [go_sem, ↓reduceIte, ↓reduceDIte, zA, zM, zL, zE, zD, yA, yE, yL, yQ, yT, reduceCtorEq, e2, this]⟩
  by_cases hov : 18446744073709551615 - hi < by'
  · simp only [go_sem, ↓reduceIte, ↓reduceDIte, zA, zM, zL, zE, zD, yA, yE, yL, yQ, yT, reduceCtorEq, g0, g1, n1, n3, f1, hov]
    exact fin _
  · have f2 : fw .u64 (lo + by') = lo + by' := fwU (by omega) (by omega)
    have f3 : fw .u64 (hi + by') = hi + by' := fwU (by omega) (by omega)
    simp only [go_sem, ↓reduceIte, ↓reduceDIte, zA, zM, zL, zE, zD, yA, yE, yL, yQ, yT, reduceCtorEq, g0, g1, n1, n3, f1, f2, f3, hov]
    exact fin _
theorem w13 (P : Program) [PT P] {call : CallE} {h : H} {B : Nat} {t : Int} (t0 : 0 ≤ t) (t1 : t < 64) : WF P call c13 [.ptr B 0, .int .i64 t] h fun v h' => (∃ Q, v = .tup [.ptr Q 0, .int .i64 0]) ∧ StepN h h' := by
  have e1 : ¬ t < 0 := by omega
  simp only [go_sem, ↓reduceIte, ↓reduceDIte, zA, zM, zL, zE, zD, yA, yE, yL, yQ, yT, reduceCtorEq, c13, e1, t1]
  exact ⟨⟨_, rfl⟩, StepN.new h _⟩
theorem keyU8 (a b : Int) : keyEq 0 (.int .u8 a) (.int .u8 b) = some (decide (a = b)) := by
  unfold keyEq
  simp only [rIEq]
  rfl
/-- the lock of a range, at its first step -/
def LockO (h : H) (L : Nat) : Prop := ∃ lc, h.t.get L = some (.row (putList 0 lc T.e) 14 317) ∧ lc[12]? = some (.int .u8 2)
theorem w87 (P : Program) [PT P] {call : CallE} (h43 : F43 call) {h : H} {B : Nat} {t lo hi tr : Int} (t0 : 0 ≤ t) (t1 : t < 64) (r0 : 0 ≤ tr) (r1 : tr ≤ 255) (hv : ¬ hi < lo) :
    WF P call c87 [.ptr B 0, .int .i64 t, .agg [.int .u64 lo, .int .u64 hi], .int .i64 tr] h fun v h' => StepN h h' ∧ ∃ L, v = .tup [.ptr L 0, .int .i64 0] ∧ L < h'.next ∧ h.next ≤ L ∧ LockO h' L := by
  have e1 : ¬ t < 0 := by omega
  have e2 : ¬ tr < 0 := by omega
  have e3 : ¬ 255 < tr := by omega
  simp only [go_sem, ↓reduceIte, ↓reduceDIte, zA, zM, zL, zE, zD, yA, yE, yL, yQ, yT, reduceCtorEq, c87, e1, t1, e2, e3]
  refine opt_by (h43 _ lo hi) fun v1 h1 p1 => ?_
  obtain ⟨rfl, st⟩ := p1
  have g0 := st.old h.next (Nat.lt_succ_self _)
  simp only [go_sem, ↓reduceIte, ↓reduceDIte, zA, zM, zL, zE, zD, yA, yE, yL, yQ, yT, reduceCtorEq] at g0
  have nx : h.next + 1 ≤ h1.next := st.next
  have n1 : ¬ h.next = h1.next := by omega
  have n2 : ¬ h1.next = h1.next + 1 := by omega
  have n3 : ¬ h1.next + 1 = h1.next := by omega
  simp only [go_sem, ↓reduceIte, ↓reduceDIte, zA, zM, zL, zE, zD, yA, yE, yL, yQ, yT, reduceCtorEq, hv, g0, n1, n2, n3, evM, keyA, findA, keyU8]
  refine ⟨⟨by show h.next ≤ h1.next + 2; omega, fun b hb => ?_⟩, h1.next, rfl, by show h1.next < h1.next + 2; omega, by omega, _, by simp only [go_sem, ↓reduceIte, ↓reduceDIte, zA, zM, zL, zE, zD, yA, yE, yL, yQ, yT, reduceCtorEq]; rfl, rfl⟩
  have q1 : ¬ b = h1.next := by omega
  have q2 : ¬ b = h1.next + 1 := by omega
  have q3 : ¬ b = h.next := by omega
  have := st.old b (by show b < h.next + 1; omega)
  simp only [go_sem, ↓reduceIte, ↓reduceDIte, zA, zM, zL, zE, zD, yA, yE, yL, yQ, yT, reduceCtorEq, q3] at this
  simp only [go_sem, ↓reduceIte, ↓reduceDIte, zA, zM, zL, zE, zD, yA, yE, yL, yQ, yT, reduceCtorEq, q1, q2, this]
/-- a part begins -/
theorem w88 (P : Program) {call : CallE} {h : H} {D : Nat} {cells : List AV} {p f : AV} (hD : D < h.next) (g : h.t.get D = some (.row (putList 0 cells T.e) 33 139)) (hl : cells.length = 33) (op : oneA p = true) (of : oneA f = true) :
    WF P call c88 [.ptr D 0, p, .int .i64 0, f] h fun v h' => v = .tup [] ∧ StepX D D h h' ∧ h'.t.get D = some (.row (putList 0 ((cells.set 17 (.sl h.next 0 1 1 (some 1))).set 18 f) T.e) 33 139) ∧ h'.t.get h.next = some (.row (putList 0 [p] T.e) 1 161) ∧ h.next < h'.next := by
  have x1 : ¬ D = h.next := by omega
  have x2 : ¬ h.next = D := by omega
  simp only [go_sem, ↓reduceIte, ↓reduceDIte, zA, zM, zL, zE, zD, yA, yE, yL, yQ, yT, reduceCtorEq, c88, g, hl, op, of, x1]
  refine ⟨⟨by show h.next ≤ h.next + 1; omega, fun b hb b1 b2 => ?_⟩, ?_⟩
  · have e1 : ¬ b = h.next := by omega
    simp only [go_sem, ↓reduceIte, ↓reduceDIte, zA, zM, zL, zE, zD, yA, yE, yL, yQ, yT, reduceCtorEq, e1, b1]
  · simp only [go_sem, ↓reduceIte, ↓reduceDIte, zA, zM, zL, zE, zD, yA, yE, yL, yQ, yT, reduceCtorEq, x2]
    exact Nat.lt_succ_self _
/-- an operation on a range that has begun -/
def BulkO (h : H) (D : Nat) : Prop := ∃ (dc : List AV) (Q L : Nat), h.t.get D = some (.row (putList 0 dc T.e) 33 139) ∧ dc[27]? = some (.bool false) ∧ dc[17]? = some (.sl Q 0 1 1 (some 1)) ∧ h.t.get Q = some (.row (putList 0 [.ifc 252 (.agg [.ifc 246 (.ptr L 0)])] T.e) 1 161) ∧ (D < h.next ∧ Q < h.next) ∧ L < h.next ∧ LockO h L
def F87 (call : CallE) : Prop := ∀ h B (t lo hi tr : Int), 0 ≤ t → t < 64 → 0 ≤ tr → tr ≤ 255 → ¬ hi < lo → ∃ v h', call 87 [.ptr B 0, .int .i64 t, .agg [.int .u64 lo, .int .u64 hi], .int .i64 tr] h = some (v, h') ∧ (StepN h h' ∧ ∃ L, v = .tup [.ptr L 0, .int .i64 0] ∧ L < h'.next ∧ h.next ≤ L ∧ LockO h' L)
def F88 (call : CallE) : Prop := ∀ h D cells p f, D < h.next → h.t.get D = some (.row (putList 0 cells T.e) 33 139) → cells.length = 33 → oneA p = true → oneA f = true → ∃ v h', call 88 [.ptr D 0, p, .int .i64 0, f] h = some (v, h') ∧ (v = .tup [] ∧ StepX D D h h' ∧ h'.t.get D = some (.row (putList 0 ((cells.set 17 (.sl h.next 0 1 1 (some 1))).set 18 f) T.e) 33 139) ∧ h'.t.get h.next = some (.row (putList 0 [p] T.e) 1 161) ∧ h.next < h'.next)
theorem w45 (P : Program) [PT P] {call : CallE} (h38 : F38 call) (h87 : F87 call) (h88 : F88 call) {h : H} {D B : Nat} {c : CfgT} {p : PlT} {M W R : Nat} (hb : BaseH h B c p M W R) (hl : c.cuts.length ≤ 1000) (r0 : 0 ≤ c.tries) (r1 : c.tries ≤ 255) {cells : List AV} {t lo hi : Int} (hD : D < h.next) (g : h.t.get D = some (.row (putList 0 cells T.e) 33 139)) (hcl : cells.length = 33)
    (c0 : cells[0]? = some (.ptr B 0)) (c1 : cells[1]? = some (.int .i64 t)) (c15 : (cells.drop 15).take 2 = [.int .u64 lo, .int .u64 hi]) (c27 : cells[27]? = some (.bool false)) (t0 : 0 ≤ t) (t1 : t < 64) (hv : ¬ hi < lo) :
    WF P call c45 [.ptr D 0] h fun v h' => v = .tup [] ∧ StepX D D h h' ∧ BulkO h' D := by
  have x1 : ¬ D = h.next := by omega
  have x2 : ¬ D = h.next + 1 := by omega
  have x3 : ¬ h.next = h.next + 1 := by omega
  have st0 : ∀ x y, StepN h ⟨h.next + 2, (h.t.set h.next x).set (h.next + 1) y⟩ := fun x y => ⟨Nat.le_add_right _ _, fun b hb => by
    have e1 : ¬ b = h.next := by omega
    have e2 : ¬ b = h.next + 1 := by omega
    simp only [go_sem, ↓reduceIte, ↓reduceDIte, zA, zM, zL, zE, zD, yA, yE, yL, yQ, yT, reduceCtorEq, e1, e2]⟩
  simp only [go_sem, ↓reduceIte, ↓reduceDIte, zA, zM, zL, zE, zD, yA, yE, yL, yQ, yT, reduceCtorEq, c45, g, hcl, c0, c1, c15, x1, x2, x3]
  refine opt_by (h38 _ B c p M W R (hb.step (st0 _ _)) hl) fun v1 h1 p1 => ?_
  obtain ⟨⟨cv, rfl, ov⟩, st1⟩ := p1
  have nx1 : h.next + 2 ≤ h1.next := st1.next
  have gD1 := st1.old D (by show D < h.next + 2; omega)
  have gX1 := st1.old h.next (by show h.next < h.next + 2; omega)
  have gY1 := st1.old (h.next + 1) (by show h.next + 1 < h.next + 2; omega)
  simp only [go_sem, ↓reduceIte, ↓reduceDIte, zA, zM, zL, zE, zD, yA, yE, yL, yQ, yT, reduceCtorEq, x1, x2, x3, g] at gD1 gX1 gY1
  simp only [go_sem, ↓reduceIte, ↓reduceDIte, zA, zM, zL, zE, zD, yA, yE, yL, yQ, yT, reduceCtorEq, cfgC, part3, gD1, gX1, gY1, hcl, c0, c1, c15, x1, x2, x3, nx1]
  refine opt_by (h87 h1 B t lo hi c.tries t0 t1 r0 r1 hv) fun v2 h2 p2 => ?_
  obtain ⟨st2, L, rfl, lL, lL1, lo2⟩ := p2
  have nx2 : h1.next ≤ h2.next := st2.next
  have gD2 := (st2.old D (by omega)).trans gD1
  have gX2 := (st2.old h.next (by omega)).trans gX1
  have gY2 := (st2.old (h.next + 1) (by omega)).trans gY1
  have y1 : ¬ h.next + 1 = h.next := by omega
  simp only [go_sem, ↓reduceIte, ↓reduceDIte, zA, zM, zL, zE, zD, yA, yE, yL, yQ, yT, reduceCtorEq, g, gD2, gX2, gY2, nx2, x1, x2, x3, y1, gD1, gX1, gY1, hcl, c0, c1, c15]
  have LD : ¬ L = D := by omega
  have LY : ¬ L = h.next + 1 := by omega
  refine opt_by (h88 ⟨h2.next, h2.t.set (h.next + 1) (.row (putList 0 [.ptr L 0] T.e) 1 246)⟩ D cells (.ifc 252 (.agg [.ifc 246 (.ptr L 0)])) (.fn (.func 89) [] [.ptr (h.next + 1) 0, .ptr h.next 0]) (by show D < h2.next; omega) (by simp only [go_sem, ↓reduceIte, ↓reduceDIte, zA, zM, zL, zE, zD, yA, yE, yL, yQ, yT, reduceCtorEq, x2]; exact gD2) hcl rfl rfl) fun v3 h3 p3 => ?_
  obtain ⟨rfl, sx, gD3, gQ3, lQ3⟩ := p3
  have nx3 : h2.next ≤ h3.next := sx.next
  simp only [go_sem, ↓reduceIte, ↓reduceDIte, zA, zM, zL, zE, zD, yA, yE, yL, yQ, yT, reduceCtorEq]
  refine ⟨⟨by omega, fun b hb' b1 _ => ?_⟩, _, h2.next, L, gD3, ?_, ?_, gQ3, ⟨by omega, lQ3⟩, by omega, ?_⟩
  · have q1 : ¬ b = h.next := by omega
    have q2 : ¬ b = h.next + 1 := by omega
    have k1 := sx.old b (by show b < h2.next; omega) b1 b1
    have k2 := st2.old b (by omega)
    have k3 := st1.old b (by show b < h.next + 2; omega)
    simp only [go_sem, ↓reduceIte, ↓reduceDIte, zA, zM, zL, zE, zD, yA, yE, yL, yQ, yT, reduceCtorEq, q1, q2] at k1 k3
    rw [k1, k2, k3]
  · rw [List.getElem?_set_ne (by decide), List.getElem?_set_ne (by decide)]
    exact c27
  · rw [List.getElem?_set_ne (by decide), List.getElem?_set_self (by rw [hcl]; decide)]
  · obtain ⟨lc, gl, l12⟩ := lo2
    have k1 := sx.old L lL LD LD
    simp only [go_sem, ↓reduceIte, ↓reduceDIte, zA, zM, zL, zE, zD, yA, yE, yL, yQ, yT, reduceCtorEq, LY] at k1
    exact ⟨lc, k1.trans gl, l12⟩
theorem w462 (P : Program) [PT P] {call : CallE} {h : H} {L : Nat} (hL : LockO h L) : WF P call c462 [.ptr L 0] h fun v h' => v = .int .u8 2 ∧ h' = h := by
  obtain ⟨lc, gl, l12⟩ := hL
  simp only [go_sem, ↓reduceIte, ↓reduceDIte, zA, zM, zL, zE, zD, yA, yE, yL, yQ, yT, reduceCtorEq, c462, gl, l12]
def F462 (call : CallE) : Prop := ∀ h L, LockO h L → call 462 [.ptr L 0] h = some (.int .u8 2, h)
theorem LockO.step {h h' : H} {L : Nat} (l : LockO h L) (g : h'.t.get L = h.t.get L) : LockO h' L := by
  obtain ⟨lc, gl, l12⟩ := l
  exact ⟨lc, g.trans gl, l12⟩
theorem w463 (P : Program) [pt : PT P] {call : CallE} (h462 : F462 call) {h : H} {L : Nat} (hL : LockO h L) (lL : L < h.next) : WF P call c463 [.agg [.ifc 246 (.ptr L 0)], .bool true] h fun v h' => v = .tup [.int .u8 2, .bool false] ∧ StepN h h' := by
  have st := StepN.new h (.row (putList 0 [.ifc 246 (.ptr L 0)] T.e) 1 252)
  have k := h462 _ L (hL.step (st.old L lL))
  simp only [go_sem, ↓reduceIte, ↓reduceDIte, zA, zM, zL, zE, zD, yA, yE, yL, yQ, yT, reduceCtorEq, c463, pt.nextM, k]
  exact st
end
end Go.Proofs.YtldmhpdjlgoenaaGreatDoor.BN
