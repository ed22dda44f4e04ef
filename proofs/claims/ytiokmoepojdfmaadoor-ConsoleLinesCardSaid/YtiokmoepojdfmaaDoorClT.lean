/-
  The law ConsoleLines over any world that holds the table, at any call that can be read.
-/
import Derived.Test.YtiokmoepojdfmaaDoorClS
import Derived.Deep.Slices
import Derived.OpenShut
import Derived.KernelRfl
set_option linter.unusedVariables false
set_option linter.unusedSimpArgs false
namespace Go.Proofs.YtiokmoepojdfmaaDoor
open Go.Proofs.YtiokmoepojdfmaaDoor.Eo Go.RowKit Go.ChangeShapes Go.WideShapes Go.Deep
open Nat renaming reduceAdd → zA, reduceMul → zM, reduceLT → zL, reduceEqDiff → zE, reduceLeDiff → zD
open Int renaming reduceAdd → yA, reduceLE → yE, reduceLT → yL, reduceEq → yQ, reduceToNat → yT
set_option maxRecDepth 100000
noncomputable section
/-- the powers of ten lie in the first block -/
def TabW (W : World) : Prop := ∃ c e f, W.heap[0]? = some (.cells c e f) ∧ ∀ i, i < 20 → c[i]? = some (.int .u64 ((10 ^ i : Nat) : Int))
def pow10A : T AV := putList 0 ((List.range 20).map fun i => AV.int .u64 ((10 ^ i : Nat) : Int)) T.e
theorem pow10A_get {i : Nat} (h : i < 20) : pow10A.get i = some (.int .u64 ((10 ^ i : Nat) : Int)) := by
  unfold pow10A
  rw [rowGet, List.getElem?_map, List.getElem?_range h]
  rfl
theorem pow10A_lt {i : Nat} {v : AV} (h : pow10A.get i = some v) : i < 20 ∧ v = .int .u64 ((10 ^ i : Nat) : Int) := by
  have hi : i < 20 := by
    unfold pow10A at h
    rw [rowGet, List.getElem?_map] at h
    by_cases hi : i < 20
    · exact hi
    · rw [List.getElem?_eq_none (by rw [List.length_range]; omega)] at h
      cases h
  rw [pow10A_get hi] at h
  exact ⟨hi, (Option.some.inj h).symm⟩
def tH : H := ⟨glob, T.e.set 0 (.tab pow10A)⟩
theorem tH_tab : TabH tH := ⟨pow10A, by unfold tH; rw [T.get_set, if_pos rfl], fun i hi => pow10A_get hi⟩
theorem tH_get {a : Nat} {o : AO} (h : tH.t.get a = some o) : a = 0 ∧ o = .tab pow10A := by
  unfold tH at h
  rw [T.get_set] at h
  by_cases ha : a = 0
  · rw [if_pos ha] at h
    exact ⟨ha, (Option.some.inj h).symm⟩
  · rw [if_neg ha, T.get_e] at h
    cases h
theorem tH_hr {W : World} (hW : TabW W) : HR rho0 tH.t.get W := by
  obtain ⟨c, e, f, hb, hc⟩ := hW
  constructor
  · intro a o l h1 _ h3
    obtain ⟨rfl, rfl⟩ := tH_get h1
    have : l = ⟨0, 0, 0⟩ := by
      have h3' : (if 0 < glob then some (⟨0, 0, 0⟩ : Go.Proofs.YtiokmoepojdfmaaDoor.Eo.Loc) else none) = some l := h3
      rw [if_pos (by decide)] at h3'
      exact (Option.some.inj h3').symm
    subst this
    refine ⟨(Array.getElem?_eq_some_iff.1 hb).1, c, e, f, hb, fun i v hv => ?_⟩
    obtain ⟨hi, rfl⟩ := pow10A_lt hv
    exact ⟨_, rfl, rfl, by rw [Nat.zero_add]; exact hc i hi⟩
  · intro a b o p l m h1 _ h2 _ _ _ _
    rw [(tH_get h1).1, (tH_get h2).1]
theorem law3 {c : CallT} (hc : CallR c) {V : Value} (hv : VR rho0 (.agg (callC c)) V) {W : World} (hW : TabW W) : Calls Tryd.prog 3 #[V] W fun e W' => e = .returned (.bool true) ∧ Below W.heap.size W W' := by
  obtain ⟨v, h', r, rfl⟩ := WF_sound Tryd.checked.mixed (cX_ok 5) (cX_plain 5) (f := 3) (by kernel_rfl) (by kernel_rfl) c3_eq (k := 1) (args := [.agg (callC c)]) rfl (w3 (h := tH) (X4 1) (X5 0) tH_tab (by decide) hc)
  refine (r.ret rho0 W [V] ⟨_, [], hv, rfl, rfl⟩ (tH_hr hW) rho0_fresh).mono fun e w' hh => ?_
  obtain ⟨ρ', V, rfl, hv, way⟩ := hh
  simp only [VR] at hv
  subst hv
  exact ⟨rfl, way.nx.env.os, way.nx.env.tape, way.nx.env.output, way.nx.size, fun r hr => way.nx.frame r hr fun a o l q1 q2 => by rw [(tH_get q1).2] at q2; cases q2⟩
theorem wf_u64 {y : Int} (h : (Lit.int .u64 y).wf = true) : inU y := by
  simp [Lit.wf, IntKind.min, IntKind.max, IntKind.signed, IntKind.bits] at h
  exact ⟨h.1, by omega⟩
theorem wf_u8 {y : Int} (h : (Lit.int .u8 y).wf = true) : 0 ≤ y ∧ y < 256 := by
  simp [Lit.wf, IntKind.min, IntKind.max, IntKind.signed, IntKind.bits] at h
  exact ⟨h.1, by omega⟩
theorem wf_i64 {y : Int} (h : (Lit.int .i64 y).wf = true) : -9223372036854775808 ≤ y ∧ y ≤ 9223372036854775807 := by
  simp [Lit.wf, IntKind.min, IntKind.max, IntKind.signed, IntKind.bits] at h
  exact ⟨by omega, by omega⟩
theorem cells3 : Tryd.prog.cellsOf 3 = 1 := by kernel_rfl
theorem cells4 : Tryd.prog.cellsOf 4 = 1 := by kernel_rfl
theorem cells5 : Tryd.prog.cellsOf 5 = 1 := by kernel_rfl
theorem cells22 : Tryd.prog.cellsOf 22 = 1 := by kernel_rfl
theorem cells25 : Tryd.prog.cellsOf 25 = 1 := by kernel_rfl
theorem cells24 : Tryd.prog.cellsOf 24 = 7 := by kernel_rfl
theorem cells27 : Tryd.prog.cellsOf 27 = 5 := by kernel_rfl
theorem cells29 : Tryd.prog.cellsOf 29 = 18 := by kernel_rfl
section
variable {H : Type} {enc : TypeId × Value → H} {W : World}
theorem openOp {fuel : Nat} {cs : List Value} {x : DataW H × List MemPlace} (h : DataW.trod enc Tryd.prog W 0 (fun _ => true) true fuel 24 cs = some x) :
    ∃ y : OpT, opR y ∧ cs = [.int .u8 y.1, .int .u64 y.2.1, .int .u64 y.2.2.1, .int .u64 y.2.2.2.1, .int .u64 y.2.2.2.2.1, .int .u64 y.2.2.2.2.2.1, .int .u64 y.2.2.2.2.2.2] := by
  obtain ⟨xs, n, -, hx, hl, hlen, hfi⟩ := DataW.trod_struct Tryd.underlying24 h
  have hsz : cs.length = 7 := hl.trans cells24
  match cs, hsz with
  | [c0, c1, c2, c3, c4, c5, c6], _ =>
    have t0 := hfi 0 _ rfl
    have t1 := hfi 1 _ rfl
    have t2 := hfi 2 _ rfl
    have t3 := hfi 3 _ rfl
    have t4 := hfi 4 _ rfl
    have t5 := hfi 5 _ rfl
    have t6 := hfi 6 _ rfl
    match xs, hlen with
    | [y0, y1, y2, y3, y4, y5, y6], _ =>
      simp [cells22, cells5] at t0 t1 t2 t3 t4 t5 t6
      obtain ⟨k, e0, -, w0⟩ := DataW.trod_int Tryd.underlying5 t0
      obtain ⟨a, e1, -, w1⟩ := DataW.trod_int Tryd.underlying22 t1
      obtain ⟨b, e2, -, w2⟩ := DataW.trod_int Tryd.underlying22 t2
      obtain ⟨v, e3, -, w3⟩ := DataW.trod_int Tryd.underlying22 t3
      obtain ⟨o, e4, -, w4⟩ := DataW.trod_int Tryd.underlying22 t4
      obtain ⟨y, e5, -, w5⟩ := DataW.trod_int Tryd.underlying22 t5
      obtain ⟨d, e6, -, w6⟩ := DataW.trod_int Tryd.underlying22 t6
      simp at e0 e1 e2 e3 e4 e5 e6
      subst e0 e1 e2 e3 e4 e5 e6
      refine ⟨(k, a, b, v, o, y, d), ⟨wf_u8 w0, fun i => ?_⟩, rfl⟩
      match i with
      | 0 => exact wf_u64 w1
      | 1 => exact wf_u64 w2
      | 2 => exact wf_u64 w3
      | 3 => exact wf_u64 w4
      | 4 => exact wf_u64 w5
      | 5 => exact wf_u64 w6
      | n + 6 => exact ⟨Int.le_refl 0, (by decide : (0 : Int) < 18446744073709551616)⟩
theorem openRes {fuel : Nat} {cs : List Value} {x : DataW H × List MemPlace} (h : DataW.trod enc Tryd.prog W 0 (fun _ => true) true fuel 27 cs = some x) :
    ∃ r : ResT, ResR r ∧ cs = [.int .i64 r.err, .bool r.found, .int .u64 r.key, .int .u64 r.val, .int .i64 r.cnt] := by
  obtain ⟨xs, n, -, hx, hl, hlen, hfi⟩ := DataW.trod_struct Tryd.underlying27 h
  have hsz : cs.length = 5 := hl.trans cells27
  match cs, hsz with
  | [c0, c1, c2, c3, c4], _ =>
    have t0 := hfi 0 _ rfl
    have t1 := hfi 1 _ rfl
    have t2 := hfi 2 _ rfl
    have t3 := hfi 3 _ rfl
    have t4 := hfi 4 _ rfl
    match xs, hlen with
    | [y0, y1, y2, y3, y4], _ =>
      simp [cells22, cells25, cells4, cells3] at t0 t1 t2 t3 t4
      obtain ⟨k, e0, -, w0⟩ := DataW.trod_int Tryd.underlying25 t0
      obtain ⟨a, e1, -⟩ := DataW.trod_bool Tryd.underlying4 t1
      obtain ⟨b, e2, -, w2⟩ := DataW.trod_int Tryd.underlying22 t2
      obtain ⟨v, e3, -, w3⟩ := DataW.trod_int Tryd.underlying22 t3
      obtain ⟨o, e4, -, w4⟩ := DataW.trod_int Tryd.underlying3 t4
      simp at e0 e1 e2 e3 e4
      subst e0 e1 e2 e3 e4
      exact ⟨⟨k, a, b, v, o⟩, ⟨wf_i64 w0, wf_u64 w2, wf_u64 w3, wf_i64 w4⟩, rfl⟩
theorem openCall {base : Nat} {v0 : Value} {d0 : DataW H} {p0 : List MemPlace} (o0 : Value.okWide Tryd.prog W .any base 29 v0) (h0 : DataW.Trod enc Tryd.prog W 0 (fun _ => true) true 29 v0 d0 p0) : ∃ c : CallT, CallR c ∧ VR rho0 (.agg (callC c)) v0 := by
  obtain ⟨cs, rfl, hsz⟩ := okWide_struct Tryd.underlying29 o0
  obtain ⟨fuel, hf⟩ := h0
  obtain ⟨xs, n, -, hx, hl, hlen, hfi⟩ := DataW.trod_struct Tryd.underlying29 hf
  have hsz : cs.size = 18 := hsz.trans cells29
  obtain ⟨c0, c1, c2, c3, c4, c5, c6, c7, c8, c9, c10, c11, c12, c13, c14, c15, c16, c17, rfl⟩ : ∃ c0 c1 c2 c3 c4 c5 c6 c7 c8 c9 c10 c11 c12 c13 c14 c15 c16 c17, cs = #[c0, c1, c2, c3, c4, c5, c6, c7, c8, c9, c10, c11, c12, c13, c14, c15, c16, c17] := by
    obtain ⟨l⟩ := cs
    match l, hsz with
    | [c0, c1, c2, c3, c4, c5, c6, c7, c8, c9, c10, c11, c12, c13, c14, c15, c16, c17], _ => exact ⟨c0, c1, c2, c3, c4, c5, c6, c7, c8, c9, c10, c11, c12, c13, c14, c15, c16, c17, rfl⟩
  have s0 := hfi 0 _ rfl
  have s1 := hfi 1 _ rfl
  have s2 := hfi 2 _ rfl
  have s3 := hfi 3 _ rfl
  have s4 := hfi 4 _ rfl
  have s5 := hfi 5 _ rfl
  have s6 := hfi 6 _ rfl
  have s7 := hfi 7 _ rfl
  match xs, hlen with
  | [y0, y1, y2, y3, y4, y5, y6, y7], _ =>
    simp [Value.cells, cells3, cells24, cells27] at s0 s1 s2 s3 s4 s5 s6 s7
    obtain ⟨th, e0, -, -⟩ := DataW.trod_int Tryd.underlying3 s0
    obtain ⟨ix, e1, -, -⟩ := DataW.trod_int Tryd.underlying3 s1
    obtain ⟨op, ho, e2⟩ := openOp s2
    obtain ⟨iv, e3, -, -⟩ := DataW.trod_int Tryd.underlying3 s3
    obtain ⟨tk, e4, -, -⟩ := DataW.trod_int Tryd.underlying3 s4
    obtain ⟨an, e5, -, -⟩ := DataW.trod_int Tryd.underlying3 s5
    obtain ⟨st, e6, -, -⟩ := DataW.trod_int Tryd.underlying3 s6
    obtain ⟨r, hr, e7⟩ := openRes s7
    simp at e0 e1 e2 e3 e4 e5 e6 e7
    obtain ⟨q0, q1, q2, q3, q4, q5, q6⟩ := e2
    obtain ⟨u0, u1, u2, u3, u4⟩ := e7
    subst e0 e1 q0 q1 q2 q3 q4 q5 q6 e3 e4 e5 e6 u0 u1 u2 u3 u4
    refine ⟨⟨th, ix, op, iv, tk, an, st, r⟩, ⟨ho, hr⟩, _, ?_, rfl⟩
    unfold callC opC resC
    simp only [VRs, VR, List.cons_append, List.nil_append]
    exact ⟨_, _, rfl, ⟨_, _, rfl, ⟨_, _, rfl, ⟨_, _, rfl, ⟨_, _, rfl, ⟨_, _, rfl, ⟨_, _, rfl, ⟨_, _, rfl, ⟨_, _, rfl, ⟨_, _, rfl, ⟨_, _, rfl, ⟨_, _, rfl, ⟨_, _, rfl, ⟨_, _, rfl, ⟨_, _, rfl, ⟨_, _, rfl, ⟨_, _, rfl, ⟨_, _, rfl, rfl, rfl⟩, rfl⟩, rfl⟩, rfl⟩, rfl⟩, rfl⟩, rfl⟩, rfl⟩, rfl⟩, rfl⟩, rfl⟩, rfl⟩, rfl⟩, rfl⟩, rfl⟩, rfl⟩, rfl⟩, rfl⟩
end
end
end Go.Proofs.YtiokmoepojdfmaaDoor
