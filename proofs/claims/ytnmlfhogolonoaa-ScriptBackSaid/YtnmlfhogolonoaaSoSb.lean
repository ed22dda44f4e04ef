/-
  A script that came in as an argument reads as a script, in range.
-/
import Derived.Test.YtnmlfhogolonoaaSoSa
import Derived.Test.YtnmlfhogolonoaaSoZg
set_option linter.unusedVariables false
set_option linter.unusedSimpArgs false
namespace Go.Proofs.Ytnmlfhogolonoaa
open Go.Proofs.Ytnmlfhogolonoaa.Eo Go.RowKit Go.ChangeShapes Go.WideShapes Go.Deep
open Nat renaming reduceAdd → zA, reduceMul → zM, reduceLT → zL, reduceEqDiff → zE, reduceLeDiff → zD
open Int renaming reduceAdd → yA, reduceLE → yE, reduceLT → yL, reduceEq → yQ, reduceToNat → yT
set_option maxRecDepth 100000
theorem Try.cells43 : Try.prog.cellsOf 43 = 1 := by kernel_rfl
theorem Try.cells3 : Try.prog.cellsOf 3 = 1 := by kernel_rfl
theorem Try.cells5 : Try.prog.cellsOf 5 = 1 := by kernel_rfl
theorem Try.cells22 : Try.prog.cellsOf 22 = 1 := by kernel_rfl
theorem Try.cells24 : Try.prog.cellsOf 24 = 3 := by kernel_rfl
theorem Try.cells25 : Try.prog.cellsOf 25 = 6 := by kernel_rfl
theorem Try.cells27 : Try.prog.cellsOf 27 = 16 := by kernel_rfl
theorem Try.cells28 : Try.prog.cellsOf 28 = 1 := by kernel_rfl
theorem Try.cells29 : Try.prog.cellsOf 29 = 1 := by kernel_rfl
theorem Try.cells31 : Try.prog.cellsOf 31 = 18 := by kernel_rfl
theorem Try.cells42 : Try.prog.cellsOf 42 = 1 := by kernel_rfl
theorem Try.cells45 : Try.prog.cellsOf 45 = 7 := by kernel_rfl
theorem Try.bytes43 : Try.prog.bytesOf 43 = 8 := by kernel_rfl
theorem Try.bytes3 : Try.prog.bytesOf 3 = 8 := by kernel_rfl
theorem Try.bytes45 : Try.prog.bytesOf 45 = 56 := by kernel_rfl
theorem Try.bytes42 : Try.prog.bytesOf 42 = 24 := by kernel_rfl
noncomputable section
/-- an address at which a cell lies is plain -/
theorem plain_of_cell {w : World} {a : Addr} {v : Value} (h : w.cell? a = some v) : a = ⟨a.block, a.off, none⟩ := by
  obtain ⟨b, o, s⟩ := a
  cases s with
  | none => rfl
  | some s =>
    unfold World.cell? at h
    split at h
    · simp at h
    · cases h
theorem add_plain (b o i : Nat) : (⟨b, o, none⟩ : Addr).add i = ⟨b, o + i, none⟩ := by
  unfold Addr.add; split
  · rename_i h0; simp [h0]
  · simp
theorem wf_u64 {y : Int} (h : (Lit.int .u64 y).wf = true) : inU y := by
  simp [Lit.wf, IntKind.min, IntKind.max, IntKind.signed, IntKind.bits] at h
  exact ⟨h.1, by omega⟩
theorem wf_u8 {y : Int} (h : (Lit.int .u8 y).wf = true) : 0 ≤ y ∧ y < 256 := by
  simp [Lit.wf, IntKind.min, IntKind.max, IntKind.signed, IntKind.bits] at h
  exact ⟨h.1, by omega⟩
theorem ldA_tab7 {W : World} {b o : Nat} {x : OpT} (h : ∀ j, j < 7 → ∃ V, W.cell? ⟨b, o + j, none⟩ = some V ∧ impV W.heap.size V = (opC x)[j]?) : b < W.heap.size ∧ ldA (hW W).t.get (some 7) (glob + b) o = some (.agg (opC x)) := by
  have hb : b < W.heap.size := by
    obtain ⟨V, h1, h2⟩ := h 0 (by omega)
    exact (cell_tab h1 (v := .int .u8 x.1) h2).1
  refine ⟨hb, ?_⟩
  have key : ∀ j, j < 7 → ldA (hW W).t.get none (glob + b) (o + j) = (opC x)[j]? := fun j hj => by
    obtain ⟨V, h1, h2⟩ := h j hj
    have hl : (opC x)[j]? = some ((opC x)[j]'(by show j < 7; exact hj)) := List.getElem?_eq_getElem _
    rw [hl] at h2 ⊢
    exact (cell_tab h1 h2).2
  have hg : ∃ cells, (hW W).t.get (glob + b) = some (.tab cells) := by
    have h0 := key 0 (by omega)
    rw [rLdA] at h0
    cases hg : (hW W).t.get (glob + b) with
    | none => rw [hg] at h0; cases h0
    | some o =>
      obtain ⟨_, _, c, e, f, _, rfl⟩ := hW_get W hg
      exact ⟨_, rfl⟩
  obtain ⟨cells, hg⟩ := hg
  have key2 : ∀ j, j < 7 → cells.get (o + j) = (opC x)[j]? := fun j hj => by
    have := key j hj
    rw [rLdA, hg] at this
    exact this
  rw [rLdA, hg]
  show ldO (some 7) o (.tab cells) = _
  rw [rLdOtn]
  have k0 := key2 0 (by omega)
  have k1 := key2 1 (by omega)
  have k2 := key2 2 (by omega)
  have k3 := key2 3 (by omega)
  have k4 := key2 4 (by omega)
  have k5 := key2 5 (by omega)
  have k6 := key2 6 (by omega)
  simp only [opC, List.getElem?_cons_zero, List.getElem?_cons_succ, Nat.add_zero] at k0 k1 k2 k3 k4 k5 k6
  have e2 : o + 1 + 1 = o + 2 := rfl
  have e3 : o + 2 + 1 = o + 3 := rfl
  have e4 : o + 3 + 1 = o + 4 := rfl
  have e5 : o + 4 + 1 = o + 5 := rfl
  have e6 : o + 5 + 1 = o + 6 := rfl
  simp only [getList_succ, getList_zero, k0, e2, e3, e4, e5, e6, k1, k2, k3, k4, k5, k6]
  rfl
/-- the sizes that a script in memory keeps to -/
structure Sz (c : CfgT) (ps : List (List OpT)) (ks : List Int) : Prop where
  cu : c.cuts.length * 8 ≤ 140737488351232
  kl : ks.length * 8 ≤ 140737488351232
  pl : ps.length * 24 ≤ 140737488351232
  op : ∀ p ∈ ps, p.length * 56 ≤ 140737488351232
section
variable {H : Type} {enc : TypeId × Value → H} {W : World}
theorem openInts {t e : TypeId} {k : IntKind} {fuel : Nat} {cs : List Value} {x : DataW H × List MemPlace} (ht : Try.prog.underlying t = some (.slice e)) (he : Try.prog.underlying e = some (.int k)) (hc : Try.prog.cellsOf e = 1) (hby : Try.prog.bytesOf e = 8)
    (h : DataW.trod enc Try.prog W 0 (fun _ => true) true fuel t cs = some x) (hz : ∀ n ∈ x.1.weights Try.prog t, n ≤ reachBytes) : ∃ (v : Value) (l : List Int) (av : AV), cs = [v] ∧ VR (rhoW W.heap.size) av v ∧ RdL none 1 (hW W) av (l.map fun x : Int => AV.int k x) ∧ (∀ a, own av = some a → a < (hW W).next) ∧ (∀ y ∈ l, (Lit.int k y).wf = true) ∧ l.length * 8 ≤ 140737488351232 := by
  rcases open_ints ht he hc h with ⟨rfl, -⟩ | ⟨a, len, cap, zs, rfl, -, hl, hm, hn, hx, hcell, hwf⟩
  · exact ⟨_, [], .nils, rfl, rfl, .inl ⟨rfl, rfl⟩, fun a ha => by simp [own] at ha, fun y hy => (by cases hy), by decide⟩
  · simp only [if_true] at hn
    by_cases h0 : len = 0 ∧ cap = 0
    · obtain ⟨rfl, rfl⟩ := h0
      exact ⟨_, [], .sl 0 0 0 1 none, rfl, impS_VR (W := W) (by decide) rfl, .inr ⟨0, 0, none, rfl, Nat.zero_le _, fun i x hi => by simp at hi⟩, fun b hb => by simp only [own, Option.some.injEq] at hb; subst hb; show 0 < glob + _; unfold glob; omega, fun y hy => (by cases hy), by decide⟩
    · have hpos : 0 < zs.length := by omega
      have hpl := plain_of_cell (hcell 0 hpos)
      have hpl : a = ⟨a.block, a.off, none⟩ := by simpa [Addr.add] using hpl
      have hlen : (zs.take len).length = len := by rw [List.length_take]; omega
      have hat : ∀ i y, zs[i]? = some y → a.block < W.heap.size ∧ ldA (hW W).t.get none (glob + a.block) (a.off + i * 1) = some (.int k y) := fun i y hi => by
        have hc := hcell i (List.getElem?_eq_some_iff.1 hi).1
        have e1 : zs.getD i 0 = y := by simp [List.getD, hi]
        rw [e1, hpl, add_plain] at hc
        rw [Nat.mul_one]
        exact cell_tab hc rfl
      have hblk := (hat 0 zs[0] (List.getElem?_eq_getElem hpos)).1
      have hb : len * 8 ≤ 140737488351232 := by
        have := hz ((((lits (H := H) k (zs.take len)).length + (lits (H := H) k (zs.drop len)).length)) * Try.prog.bytesOf e) (by rw [hx]; simp [DataW.weights, ht])
        rw [hby] at this
        simp only [lits, List.length_map, List.length_take, List.length_drop] at this
        unfold reachBytes at this
        omega
      have hsp : a.spot = none := by rw [hpl]
      refine ⟨_, zs.take len, .sl (glob + a.block) a.off len 1 (some cap), rfl, impS_VR (W := W) (es := 1) Nat.one_pos ?_, .inr ⟨glob + a.block, a.off, some cap, by rw [List.length_map, hlen], by rw [List.length_map, hlen]; omega, fun i x hi => ?_⟩, fun b hb => ?_, fun y hy => hwf y (List.mem_of_mem_take hy), by rw [hlen]; exact hb⟩
      · unfold impS
        simp only []
        rw [if_neg h0, if_pos ⟨hsp, hblk, hl⟩]
      · rw [List.getElem?_map, Option.map_eq_some_iff] at hi
        obtain ⟨y, hy, rfl⟩ := hi
        rw [List.getElem?_take] at hy
        split at hy
        · exact (hat i y hy).2
        · cases hy
      · simp only [own, Option.some.injEq] at hb
        subst hb
        show glob + a.block < glob + W.heap.size
        omega
theorem openOpCells {fuel : Nat} {cs : List Value} {x : DataW H × List MemPlace} (h : DataW.trod enc Try.prog W 0 (fun _ => true) true fuel 45 cs = some x) :
    ∃ y : OpT, opR y ∧ cs = [.int .u8 y.1, .int .u64 y.2.1, .int .u64 y.2.2.1, .int .u64 y.2.2.2.1, .int .u64 y.2.2.2.2.1, .int .u64 y.2.2.2.2.2.1, .int .u64 y.2.2.2.2.2.2] := by
  obtain ⟨xs, n, -, hx, hl, hlen, hfi⟩ := DataW.trod_struct Try.underlying45 h
  have hsz : cs.length = 7 := hl.trans Try.cells45
  match cs, hsz with
  | [c0, c1, c2, c3, c4, c5, c6], _ =>
    have t0 := hfi 0 _ rfl
    have t1 := hfi 1 _ rfl
    have t2 := hfi 2 _ rfl
    have t3 := hfi 3 _ rfl
    have t4 := hfi 4 _ rfl
    have t5 := hfi 5 _ rfl
    have t6 := hfi 6 _ rfl
    match xs, hlen with
    | [y0, y1, y2, y3, y4, y5, y6], _ =>
      simp [Try.cells43, Try.cells5] at t0 t1 t2 t3 t4 t5 t6
      obtain ⟨k, e0, -, w0⟩ := DataW.trod_int Try.underlying5 t0
      obtain ⟨a, e1, -, w1⟩ := DataW.trod_int Try.underlying43 t1
      obtain ⟨b, e2, -, w2⟩ := DataW.trod_int Try.underlying43 t2
      obtain ⟨v, e3, -, w3⟩ := DataW.trod_int Try.underlying43 t3
      obtain ⟨o, e4, -, w4⟩ := DataW.trod_int Try.underlying43 t4
      obtain ⟨y, e5, -, w5⟩ := DataW.trod_int Try.underlying43 t5
      obtain ⟨d, e6, -, w6⟩ := DataW.trod_int Try.underlying43 t6
      simp at e0 e1 e2 e3 e4 e5 e6
      subst e0 e1 e2 e3 e4 e5 e6
      refine ⟨(k, a, b, v, o, y, d), ⟨wf_u8 w0, fun i => ?_⟩, rfl⟩
      match i with
      | 0 => exact wf_u64 w1
      | 1 => exact wf_u64 w2
      | 2 => exact wf_u64 w3
      | 3 => exact wf_u64 w4
      | 4 => exact wf_u64 w5
      | 5 => exact wf_u64 w6
      | n + 6 => exact ⟨Int.le_refl 0, (by decide : (0 : Int) < 18446744073709551616)⟩
theorem openOps {fuel : Nat} {cs : List Value} {x : DataW H × List MemPlace} (h : DataW.trod enc Try.prog W 0 (fun _ => true) true fuel 42 cs = some x) (hz : ∀ n ∈ x.1.weights Try.prog 42, n ≤ reachBytes) :
    ∃ (v : Value) (l : List OpT) (av : AV), cs = [v] ∧ impV W.heap.size v = some av ∧ RdL (some 7) 7 (hW W) av (l.map fun x : OpT => AV.agg (opC x)) ∧ (∀ a, own av = some a → a < (hW W).next) ∧ (∀ y ∈ l, opR y) ∧ l.length * 56 ≤ 140737488351232 := by
  rcases open_slice Try.underlying42 h with ⟨rfl, -⟩ | ⟨a, len, cap, m, n, D, Pl, rfl, -, hl, hm, hmm, rfl, hx⟩
  · exact ⟨_, [], .nils, rfl, rfl, .inl ⟨rfl, rfl⟩, fun a ha => by simp [own] at ha, fun y hy => (by cases hy), by decide⟩
  · simp only [if_true] at hmm
    by_cases h0 : len = 0 ∧ cap = 0
    · obtain ⟨rfl, rfl⟩ := h0
      exact ⟨_, [], .sl 0 0 0 7 none, rfl, rfl, .inr ⟨0, 0, none, rfl, Nat.zero_le _, fun i x hi => by simp at hi⟩, fun b hb => by simp only [own, Option.some.injEq] at hb; subst hb; show 0 < glob + _; unfold glob; omega, fun y hy => (by cases hy), by decide⟩
    · have hpl : a = ⟨a.block, a.off, none⟩ := by
        obtain ⟨cs0, g1, g2⟩ := hx 0 (by omega)
        rw [Try.cells45] at g1
        obtain ⟨_, hlen0, hcell0⟩ := World.cells?_some g1
        obtain ⟨y0, -, rfl⟩ := openOpCells g2
        have := plain_of_cell (a := a) (v := .int .u8 y0.1) (by simpa [Addr.add] using hcell0 0 (by omega))
        exact this
      have each : ∀ i, i < m → ∃ y : OpT, opR y ∧ a.block < W.heap.size ∧ ldA (hW W).t.get (some 7) (glob + a.block) (a.off + i * 7) = some (.agg (opC y)) := fun i hi => by
        obtain ⟨cs', h1, h2⟩ := hx i hi
        rw [Try.cells45] at h1
        obtain ⟨_, hlen, hcell⟩ := World.cells?_some h1
        obtain ⟨y, hy, rfl⟩ := openOpCells h2
        refine ⟨y, hy, ldA_tab7 fun j hj => ?_⟩
        have hcj := hcell j hj
        rw [add_add, hpl, add_plain, ← Nat.add_assoc] at hcj
        refine ⟨_, hcj.trans (List.getElem?_eq_getElem (show j < 7 from hj)), ?_⟩
        match j, hj with
        | 0, _ => rfl
        | 1, _ => rfl
        | 2, _ => rfl
        | 3, _ => rfl
        | 4, _ => rfl
        | 5, _ => rfl
        | 6, _ => rfl
      obtain ⟨q, hq⟩ := choose_lt each
      have hlq : ((List.range len).map q).length = len := by simp
      have hblk := (hq 0 (by omega)).2.1
      have hsp : a.spot = none := by rw [hpl]
      have hb : len * 56 ≤ 140737488351232 := by
        have := hz ((((List.range len).map D).length + ((List.range (m - len)).map fun j => D (len + j)).length) * Try.prog.bytesOf 45) (by simp [DataW.weights, Try.underlying42])
        rw [Try.bytes45] at this
        simp only [List.length_map, List.length_range] at this
        unfold reachBytes at this
        omega
      have hget : ∀ i (y : OpT), ((List.range len).map q)[i]? = some y → i < len ∧ y = q i := fun i y hi => by
        rw [List.getElem?_map, Option.map_eq_some_iff] at hi
        obtain ⟨j, hj, rfl⟩ := hi
        have hjl := (List.getElem?_eq_some_iff.1 hj).1
        rw [List.length_range] at hjl
        rw [List.getElem?_range hjl] at hj
        obtain rfl := Option.some.inj hj
        exact ⟨hjl, rfl⟩
      refine ⟨_, (List.range len).map q, .sl (glob + a.block) a.off len 7 (some cap), rfl, ?_, .inr ⟨glob + a.block, a.off, some cap, by rw [List.length_map, hlq], by rw [List.length_map, hlq]; omega, fun i x hi => ?_⟩, fun b hb => ?_, fun y hy => ?_, by rw [hlq]; exact hb⟩
      · show impS W.heap.size 7 (some a) len cap = _
        unfold impS
        simp only []
        rw [if_neg h0, if_pos ⟨hsp, hblk, hl⟩]
      · rw [List.getElem?_map, Option.map_eq_some_iff] at hi
        obtain ⟨y, hy, rfl⟩ := hi
        obtain ⟨h1, rfl⟩ := hget i y hy
        exact (hq i (by omega)).2.2
      · simp only [own, Option.some.injEq] at hb
        subst hb
        show glob + a.block < glob + W.heap.size
        omega
      · obtain ⟨i, hi⟩ := List.getElem?_of_mem hy
        obtain ⟨h1, rfl⟩ := hget i y hi
        exact (hq i (by omega)).1
theorem openProgs {fuel : Nat} {cs : List Value} {x : DataW H × List MemPlace} (h : DataW.trod enc Try.prog W 0 (fun _ => true) true fuel 28 cs = some x) (hz : ∀ n ∈ x.1.weights Try.prog 28, n ≤ reachBytes) :
    ∃ (v : Value) (l : List (List OpT)) (av : AV), cs = [v] ∧ VR (rhoW W.heap.size) av v ∧ RdP (hW W) av l ∧ (∀ p ∈ l, ∀ y ∈ p, opR y) ∧ l.length * 24 ≤ 140737488351232 ∧ ∀ p ∈ l, p.length * 56 ≤ 140737488351232 := by
  rcases open_slice1 Try.underlying28 Try.cells42 h with ⟨rfl, -⟩ | ⟨a, len, cap, m, n, V, D, Pl, rfl, -, hl, hm, hmm, rfl, hx⟩
  · exact ⟨_, [], .nils, rfl, rfl, ⟨[], .inl ⟨rfl, rfl⟩, rfl, fun i x p hx => by simp at hx, fun a ha => by simp [own] at ha, fun i x hx => by simp at hx⟩, fun y hy => (by cases hy), by decide, fun y hy => (by cases hy)⟩
  · simp only [if_true] at hmm
    by_cases h0 : len = 0 ∧ cap = 0
    · obtain ⟨rfl, rfl⟩ := h0
      exact ⟨_, [], .sl 0 0 0 1 none, rfl, impS_VR (W := W) (es := 1) Nat.one_pos rfl, ⟨[], .inr ⟨0, 0, none, rfl, Nat.zero_le _, fun i x hi => by simp at hi⟩, rfl, fun i x p hx => by simp at hx, fun b hb => by simp only [own, Option.some.injEq] at hb; subst hb; show 0 < glob + _; unfold glob; omega, fun i x hx => by simp at hx⟩, fun y hy => (by cases hy), by decide, fun y hy => (by cases hy)⟩
    have wmem : ∀ (l : List (DataW H)) (d : DataW H), d ∈ l → ∀ n ∈ d.weights Try.prog 42, n ∈ DataW.weightsAll Try.prog 42 l := by
      intro l
      induction l with
      | nil => intro d hd; cases hd
      | cons e l ih =>
        intro d hd n hn
        simp only [DataW.weightsAll, List.mem_append]
        rcases List.mem_cons.1 hd with rfl | hd
        · exact .inl hn
        · exact .inr (ih d hd n hn)
    have hpl : a = ⟨a.block, a.off, none⟩ := by have := plain_of_cell (hx 0 (by omega)).1; simpa [Addr.add] using this
    have hsp : a.spot = none := by rw [hpl]
    have hcell : ∀ i, i < m → W.cell? ⟨a.block, a.off + i, none⟩ = some (V i) := fun i hi => by
      have := (hx i hi).1
      rw [hpl, add_plain] at this
      exact this
    have hblk : a.block < W.heap.size := by
      have h1 := hcell 0 (by omega)
      unfold World.cell? at h1
      split at h1
      · rename_i c e f hb
        exact (Array.getElem?_eq_some_iff.1 hb).1
      · cases h1
    have each : ∀ i, i < len → ∃ z : List OpT × AV, impV W.heap.size (V i) = some z.2 ∧ RdL (some 7) 7 (hW W) z.2 (z.1.map fun x : OpT => AV.agg (opC x)) ∧ (∀ a, own z.2 = some a → a < (hW W).next) ∧ (∀ y ∈ z.1, opR y) ∧ z.1.length * 56 ≤ 140737488351232 := fun i hi => by
      obtain ⟨h1, h2⟩ := hx i (by omega)
      obtain ⟨v, y, av, e, h3, h4, h5, h6, h7⟩ := openOps h2 (fun n hn => hz n (by
        simp only [DataW.weights, Try.underlying28, List.mem_cons, List.mem_append]
        exact .inr (.inl (wmem _ (D i) (List.mem_map.2 ⟨i, List.mem_range.2 hi, rfl⟩) n hn))))
      simp at e
      subst e
      exact ⟨(y, av), h3, h4, h5, h6, h7⟩
    haveI : Inhabited (List OpT × AV) := ⟨([], .nils)⟩
    obtain ⟨q, hq⟩ := choose_lt each
    have hb : len * 24 ≤ 140737488351232 := by
      have := hz ((((List.range len).map D).length + ((List.range (m - len)).map fun j => D (len + j)).length) * Try.prog.bytesOf 42) (by simp [DataW.weights, Try.underlying28])
      rw [Try.bytes42] at this
      simp only [List.length_map, List.length_range] at this
      unfold reachBytes at this
      omega
    have hget : ∀ {α : Type} (f : List OpT × AV → α) i (y : α), ((List.range len).map fun i => f (q i))[i]? = some y → i < len ∧ y = f (q i) := fun f i y hi => by
      rw [List.getElem?_map, Option.map_eq_some_iff] at hi
      obtain ⟨j, hj, rfl⟩ := hi
      have hjl := (List.getElem?_eq_some_iff.1 hj).1
      rw [List.length_range] at hjl
      rw [List.getElem?_range hjl] at hj
      obtain rfl := Option.some.inj hj
      exact ⟨hjl, rfl⟩
    refine ⟨_, (List.range len).map fun i => (q i).1, .sl (glob + a.block) a.off len 1 (some cap), rfl, impS_VR (W := W) (es := 1) Nat.one_pos ?_, ⟨(List.range len).map fun i => (q i).2, .inr ⟨glob + a.block, a.off, some cap, by simp, by simp; omega, fun i x hi => ?_⟩, by simp, fun i x p hx hp => ?_, fun b hb => ?_, fun i x hx => ?_⟩, fun p hp => ?_, by simp; exact hb, fun p hp => ?_⟩
    · unfold impS
      simp only []
      rw [if_neg h0, if_pos ⟨hsp, hblk, hl⟩]
    · obtain ⟨h1, rfl⟩ := hget (fun z => z.2) i x hi
      rw [Nat.mul_one]
      exact (cell_tab (hcell i (by omega)) (hq i h1).1).2
    · obtain ⟨h1, rfl⟩ := hget (fun z => z.2) i x hx
      obtain ⟨_, rfl⟩ := hget (fun z => z.1) i p hp
      exact (hq i h1).2.1
    · simp only [own, Option.some.injEq] at hb
      subst hb
      show glob + a.block < glob + W.heap.size
      omega
    · obtain ⟨h1, rfl⟩ := hget (fun z => z.2) i x hx
      exact (hq i h1).2.2.1
    · obtain ⟨i, hi⟩ := List.getElem?_of_mem hp
      obtain ⟨h1, rfl⟩ := hget (fun z => z.1) i p hi
      exact (hq i h1).2.2.2.1
    · obtain ⟨i, hi⟩ := List.getElem?_of_mem hp
      obtain ⟨h1, rfl⟩ := hget (fun z => z.1) i p hi
      exact (hq i h1).2.2.2.2
theorem openDomain {fuel : Nat} {cs : List Value} {x : DataW H × List MemPlace} (h : DataW.trod enc Try.prog W 0 (fun _ => true) true fuel 24 cs = some x) (hz : ∀ n ∈ x.1.weights Try.prog 24, n ≤ reachBytes) :
    ∃ (dk dn : Int) (cv : Value) (l : List Int) (av : AV), cs = [.int .u8 dk, .int .i64 dn, cv] ∧ VR (rhoW W.heap.size) av cv ∧ RdL none 1 (hW W) av (l.map fun x : Int => AV.int .u64 x) ∧ (∀ a, own av = some a → a < (hW W).next) ∧ (∀ y ∈ l, inU y) ∧ l.length * 8 ≤ 140737488351232 := by
  obtain ⟨xs, n, -, hx, hl, hlen, hfi⟩ := DataW.trod_struct Try.underlying24 h
  have hsz : cs.length = 3 := hl.trans Try.cells24
  match cs, hsz with
  | [c0, c1, c2], _ =>
    have t0 := hfi 0 _ rfl
    have t1 := hfi 1 _ rfl
    have t2 := hfi 2 _ rfl
    match xs, hlen with
    | [y0, y1, y2], _ =>
      simp [Try.cells3, Try.cells5, Try.cells22] at t0 t1 t2
      obtain ⟨k, e0, -, w0⟩ := DataW.trod_int Try.underlying5 t0
      obtain ⟨a, e1, -, w1⟩ := DataW.trod_int Try.underlying3 t1
      obtain ⟨v, l, av, e2, h1, h2, h3, h4, h5⟩ := openInts Try.underlying22 Try.underlying43 Try.cells43 Try.bytes43 t2 (fun n hn => hz n (by
        rw [hx]
        simp only [DataW.weights, Try.underlying24, List.map_cons, List.map_nil, DataW.weightsEach, List.mem_append]
        exact .inr (.inr (.inl hn))))
      simp at e0 e1 e2
      subst e0 e1 e2
      exact ⟨k, a, _, l, av, rfl, h1, h2, h3, fun y hy => wf_u64 (h4 y hy), h5⟩
theorem openConfig {fuel : Nat} {cs : List Value} {x : DataW H × List MemPlace} (h : DataW.trod enc Try.prog W 0 (fun _ => true) true fuel 27 cs = some x) (hz : ∀ n ∈ x.1.weights Try.prog 27, n ≤ reachBytes) :
    ∃ (th sl en bu dk dn t0 t1 t2 t3 t4 t5 lo tr ba : Int) (cv : Value) (l : List Int) (av : AV), cs = [.int .i64 th, .int .i64 sl, .int .u8 en, .int .i64 bu, .int .u8 dk, .int .i64 dn, cv, .int .i64 t0, .int .i64 t1, .int .i64 t2, .int .i64 t3, .int .i64 t4, .int .i64 t5, .int .i64 lo, .int .i64 tr, .int .i64 ba] ∧ VR (rhoW W.heap.size) av cv ∧ RdL none 1 (hW W) av (l.map fun x : Int => AV.int .u64 x) ∧ (∀ a, own av = some a → a < (hW W).next) ∧ (∀ y ∈ l, inU y) ∧ l.length * 8 ≤ 140737488351232 := by
  obtain ⟨xs, n, -, hx, hl, hlen, hfi⟩ := DataW.trod_struct Try.underlying27 h
  have hsz : cs.length = 16 := hl.trans Try.cells27
  match cs, hsz with
  | [c0, c1, c2, c3, c4, c5, c6, c7, c8, c9, c10, c11, c12, c13, c14, c15], _ =>
    have s0 := hfi 0 _ rfl
    have s1 := hfi 1 _ rfl
    have s2 := hfi 2 _ rfl
    have s3 := hfi 3 _ rfl
    have s4 := hfi 4 _ rfl
    have s5 := hfi 5 _ rfl
    have s6 := hfi 6 _ rfl
    have s7 := hfi 7 _ rfl
    have s8 := hfi 8 _ rfl
    match xs, hlen with
    | [y0, y1, y2, y3, y4, y5, y6, y7, y8], _ =>
      simp [Try.cells3, Try.cells5, Try.cells24, Try.cells25] at s0 s1 s2 s3 s4 s5 s6 s7 s8
      obtain ⟨th, e0, -, -⟩ := DataW.trod_int Try.underlying3 s0
      obtain ⟨sl, e1, -, -⟩ := DataW.trod_int Try.underlying3 s1
      obtain ⟨en, e2, -, -⟩ := DataW.trod_int Try.underlying5 s2
      obtain ⟨bu, e3, -, -⟩ := DataW.trod_int Try.underlying3 s3
      obtain ⟨dk, dn, cv, l, av, e4, hv⟩ := openDomain s4 (fun n hn => hz n (by
        rw [hx]
        simp only [DataW.weights, Try.underlying27, List.map_cons, List.map_nil, DataW.weightsEach, List.mem_append]
        exact .inr (.inr (.inr (.inr (.inl hn))))))
      obtain ⟨zs, m, -, -, hal, hzl, hze⟩ := DataW.trod_array Try.underlying25 s5
      obtain ⟨lo, e6, -, -⟩ := DataW.trod_int Try.underlying3 s6
      obtain ⟨tr, e7, -, -⟩ := DataW.trod_int Try.underlying3 s7
      obtain ⟨ba, e8, -, -⟩ := DataW.trod_int Try.underlying3 s8
      rw [Try.cells3] at hze
      match zs, hzl with
      | [z0, z1, z2, z3, z4, z5], _ =>
        have u0 := hze 0 (by omega)
        have u1 := hze 1 (by omega)
        have u2 := hze 2 (by omega)
        have u3 := hze 3 (by omega)
        have u4 := hze 4 (by omega)
        have u5 := hze 5 (by omega)
        simp at u0 u1 u2 u3 u4 u5
        obtain ⟨t0, f0, -, -⟩ := DataW.trod_int Try.underlying3 u0
        obtain ⟨t1, f1, -, -⟩ := DataW.trod_int Try.underlying3 u1
        obtain ⟨t2, f2, -, -⟩ := DataW.trod_int Try.underlying3 u2
        obtain ⟨t3, f3, -, -⟩ := DataW.trod_int Try.underlying3 u3
        obtain ⟨t4, f4, -, -⟩ := DataW.trod_int Try.underlying3 u4
        obtain ⟨t5, f5, -, -⟩ := DataW.trod_int Try.underlying3 u5
        simp at e0 e1 e2 e3 e4 e6 e7 e8 f0 f1 f2 f3 f4 f5
        obtain ⟨e4, e4', e4''⟩ := e4
        subst e0 e1 e2 e3 e4 e4' e4'' e6 e7 e8 f0 f1 f2 f3 f4 f5
        exact ⟨th, sl, en, bu, dk, dn, t0, t1, t2, t3, t4, t5, lo, tr, ba, _, l, av, rfl, hv⟩
theorem openScript {base : Nat} {v0 : Value} {d0 : DataW H} {p0 : List MemPlace} (o0 : Value.okWide Try.prog W .any base 31 v0) (h0 : DataW.Trod enc Try.prog W 0 (fun _ => true) true 31 v0 d0 p0) (hz : ∀ n ∈ d0.weights Try.prog 31, n ≤ reachBytes) :
    ∃ (c : CfgT) (ps : List (List OpT)) (ks : List Int) (av : AV), VR (rhoW W.heap.size) av v0 ∧ IsS (hW W) av c ps ks ∧ (∀ p ∈ ps, ∀ y ∈ p, opR y) ∧ (∀ y ∈ c.cuts, inU y) ∧ Sz c ps ks := by
  obtain ⟨cs, rfl, hsz⟩ := okWide_struct Try.underlying31 o0
  obtain ⟨fuel, hf⟩ := h0
  obtain ⟨xs, n, -, hx, hl, hlen, hfi⟩ := DataW.trod_struct Try.underlying31 hf
  have hsz : cs.size = 18 := hsz.trans Try.cells31
  obtain ⟨c0, c1, c2, c3, c4, c5, c6, c7, c8, c9, c10, c11, c12, c13, c14, c15, c16, c17, rfl⟩ : ∃ c0 c1 c2 c3 c4 c5 c6 c7 c8 c9 c10 c11 c12 c13 c14 c15 c16 c17, cs = #[c0, c1, c2, c3, c4, c5, c6, c7, c8, c9, c10, c11, c12, c13, c14, c15, c16, c17] := by
    obtain ⟨l⟩ := cs
    match l, hsz with
    | [c0, c1, c2, c3, c4, c5, c6, c7, c8, c9, c10, c11, c12, c13, c14, c15, c16, c17], _ => exact ⟨c0, c1, c2, c3, c4, c5, c6, c7, c8, c9, c10, c11, c12, c13, c14, c15, c16, c17, rfl⟩
  have s0 := hfi 0 _ rfl
  have s1 := hfi 1 _ rfl
  have s2 := hfi 2 _ rfl
  match xs, hlen with
  | [y0, y1, y2], _ =>
    simp [Value.cells, Try.cells27, Try.cells28, Try.cells29] at s0 s1 s2
    have hx : d0 = .agg [y0.1, y1.1, y2.1] := by simpa using congrArg Prod.fst hx
    have hz0 : ∀ n ∈ y0.1.weights Try.prog 27, n ≤ reachBytes := fun n hn => hz n (by
      rw [hx]
      simp only [DataW.weights, Try.underlying31, List.map_cons, List.map_nil, DataW.weightsEach, List.mem_append]
      exact .inl hn)
    have hz1 : ∀ n ∈ y1.1.weights Try.prog 28, n ≤ reachBytes := fun n hn => hz n (by
      rw [hx]
      simp only [DataW.weights, Try.underlying31, List.map_cons, List.map_nil, DataW.weightsEach, List.mem_append]
      exact .inr (.inl hn))
    have hz2 : ∀ n ∈ y2.1.weights Try.prog 29, n ≤ reachBytes := fun n hn => hz n (by
      rw [hx]
      simp only [DataW.weights, Try.underlying31, List.map_cons, List.map_nil, DataW.weightsEach, List.mem_append]
      exact .inr (.inr (.inl hn)))
    obtain ⟨th, sl, en, bu, dk, dn, t0, t1, t2, t3, t4, t5, lo, tr, ba, cv, l, ac, e0, h1, h2, h3, h4, z1⟩ := openConfig s0 hz0
    obtain ⟨pv, L, ap, e1, h5, h6, h7, z2, z3⟩ := openProgs s1 hz1
    obtain ⟨kv, q, ak, e2, h8, h9, h10, h11, z4⟩ := openInts Try.underlying29 Try.underlying3 Try.cells3 Try.bytes3 s2 hz2
    simp at e0 e1 e2
    obtain ⟨g0, g1, g2, g3, g4, g5, g6, g7, g8, g9, g10, g11, g12, g13, g14, g15⟩ := e0
    subst g0 g1 g2 g3 g4 g5 g6 g7 g8 g9 g10 g11 g12 g13 g14 g15 e1 e2
    refine ⟨⟨th, sl, en, bu, dk, dn, l, t0, t1, t2, t3, t4, t5, lo, tr, ba⟩, L, q, .agg (cfgC ⟨th, sl, en, bu, dk, dn, l, t0, t1, t2, t3, t4, t5, lo, tr, ba⟩ ac ++ [ap, ak]), ?_, ⟨ac, ap, ak, rfl, h2, h3, h6, h9, h10⟩, h7, h4, ⟨z1, z4, z2, z3⟩⟩
    refine ⟨_, ?_, rfl⟩
    unfold cfgC
    simp only [VRs, VR, List.cons_append, List.nil_append]
    exact ⟨_, _, rfl, ⟨_, _, rfl, ⟨_, _, rfl, ⟨_, _, rfl, ⟨_, _, rfl, ⟨_, _, rfl, ⟨_, _, h1, ⟨_, _, rfl, ⟨_, _, rfl, ⟨_, _, rfl, ⟨_, _, rfl, ⟨_, _, rfl, ⟨_, _, rfl, ⟨_, _, rfl, ⟨_, _, rfl, ⟨_, _, rfl, ⟨_, _, h5, ⟨_, _, h8, rfl, rfl⟩, rfl⟩, rfl⟩, rfl⟩, rfl⟩, rfl⟩, rfl⟩, rfl⟩, rfl⟩, rfl⟩, rfl⟩, rfl⟩, rfl⟩, rfl⟩, rfl⟩, rfl⟩, rfl⟩, rfl⟩
end
end
end Go.Proofs.Ytnmlfhogolonoaa
