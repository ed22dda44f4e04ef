/-
  What a script that came in as an argument is: its numbers, and what its three slices read as. No condition but that it reads at all, and that no slice is greater than memory.
-/
import Derived.Test.YtnmlfhogolonoaaSeA
import Derived.Deep.Slices
import Derived.OpenShut
import Derived.SizedLaws
import Derived.KernelRfl
set_option linter.unusedVariables false
set_option linter.unusedSimpArgs false
namespace Go.Proofs.Ytnmlfhogolonoaa
open Go.RowKit Go.ChangeShapes Go.WideShapes Go.Deep
set_option maxRecDepth 100000
theorem Try.cells43 : Try.prog.cellsOf 43 = 1 := by kernel_rfl
theorem Try.cells3 : Try.prog.cellsOf 3 = 1 := by kernel_rfl
theorem Try.cells5 : Try.prog.cellsOf 5 = 1 := by kernel_rfl
theorem Try.cells22 : Try.prog.cellsOf 22 = 1 := by kernel_rfl
theorem Try.cells24 : Try.prog.cellsOf 24 = 3 := by kernel_rfl
theorem Try.cells25 : Try.prog.cellsOf 25 = 6 := by kernel_rfl
theorem Try.cells27 : Try.prog.cellsOf 27 = 16 := by kernel_rfl
theorem Try.cells28 : Try.prog.cellsOf 28 = 1 := by kernel_rfl
theorem Try.cells29 : Try.prog.cellsOf 29 = 1 := by kernel_rfl
theorem Try.cells31 : Try.prog.cellsOf 31 = 18 := by kernel_rfl
theorem Try.cells42 : Try.prog.cellsOf 42 = 1 := by kernel_rfl
theorem Try.cells45 : Try.prog.cellsOf 45 = 7 := by kernel_rfl
theorem Try.bytes43 : Try.prog.bytesOf 43 = 8 := by kernel_rfl
theorem Try.bytes3 : Try.prog.bytesOf 3 = 8 := by kernel_rfl
theorem Try.bytes45 : Try.prog.bytesOf 45 = 56 := by kernel_rfl
theorem Try.bytes42 : Try.prog.bytesOf 42 = 24 := by kernel_rfl
/-- an address at which a cell lies is plain -/
theorem plain_of_cell {w : World} {a : Addr} {v : Value} (h : w.cell? a = some v) : a = ⟨a.block, a.off, none⟩ := by
  obtain ⟨b, o, s⟩ := a
  cases s with
  | none => rfl
  | some s =>
    unfold World.cell? at h
    split at h
    · simp at h
    · cases h
section
variable {H : Type} {enc : TypeId × Value → H} {W : World}
theorem openInts {t e : TypeId} {k : IntKind} {fuel : Nat} {cs : List Value} {x : DataW H × List MemPlace} (ht : Try.prog.underlying t = some (.slice e)) (he : Try.prog.underlying e = some (.int k)) (hc : Try.prog.cellsOf e = 1) (hby : Try.prog.bytesOf e = 8)
    (h : DataW.trod enc Try.prog W 0 (fun _ => true) true fuel t cs = some x) (hz : ∀ n ∈ x.1.weights Try.prog t, n ≤ reachBytes) : ∃ v l, cs = [v] ∧ Sl (IntR k) 1 8 W v l := by
  rcases open_ints ht he hc h with ⟨rfl, -⟩ | ⟨a, len, cap, zs, rfl, -, hl, hm, hn, hx, hcell, hwf⟩
  · exact ⟨_, [], rfl, none, 0, rfl, Nat.le_refl _, ⟨Nat.zero_le _, by simp⟩, fun h => absurd rfl h⟩
  · simp only [if_true] at hn
    have hlen : (zs.take len).length = len := by rw [List.length_take]; omega
    have hb : len * 8 ≤ 140737488351232 := by
      have := hz ((((lits (H := H) k (zs.take len)).length + (lits (H := H) k (zs.drop len)).length)) * Try.prog.bytesOf e) (by rw [hx]; simp [DataW.weights, ht])
      rw [hby] at this
      simp only [lits, List.length_map, List.length_take, List.length_drop] at this
      unfold reachBytes at this
      omega
    refine ⟨_, zs.take len, rfl, some a, cap, by rw [hlen], by rw [hlen]; exact hl, ⟨hm, by rw [hlen]; exact hb⟩, fun hne => ?_⟩
    have hpos : 0 < zs.length := by
      cases zs with
      | nil => simp at hne
      | cons y ys => simp
    have hpl := plain_of_cell (hcell 0 hpos)
    have hpl : a = ⟨a.block, a.off, none⟩ := by simpa [Addr.add] using hpl
    refine ⟨a.block, a.off, by rw [← hpl], fun i y hi => ?_⟩
    have hi2 : i < zs.length ∧ zs[i]? = some y := by
      rw [List.getElem?_take] at hi
      split at hi
      · exact ⟨(List.getElem?_eq_some_iff.1 hi).1, hi⟩
      · cases hi
    have hc := hcell i hi2.1
    rw [hpl] at hc
    refine ⟨?_, hwf y (List.mem_of_getElem? hi2.2)⟩
    have e1 : zs.getD i 0 = y := by simp [List.getD, hi2.2]
    rw [e1] at hc
    have e2 : (⟨a.block, a.off, none⟩ : Addr).add i = ⟨a.block, a.off + i * 1, none⟩ := by
      unfold Addr.add; split
      · rename_i h0; simp [h0]
      · simp
    rw [e2] at hc
    exact hc
theorem openOpCells {fuel : Nat} {cs : List Value} {x : DataW H × List MemPlace} (h : DataW.trod enc Try.prog W 0 (fun _ => true) true fuel 45 cs = some x) :
    ∃ y : OpT, cs = [.int .u8 y.1, .int .u64 y.2.1, .int .u64 y.2.2.1, .int .u64 y.2.2.2.1, .int .u64 y.2.2.2.2.1, .int .u64 y.2.2.2.2.2.1, .int .u64 y.2.2.2.2.2.2] ∧
      (Lit.int .u8 y.1).wf = true ∧ (Lit.int .u64 y.2.1).wf = true ∧ (Lit.int .u64 y.2.2.1).wf = true ∧ (Lit.int .u64 y.2.2.2.1).wf = true ∧ (Lit.int .u64 y.2.2.2.2.1).wf = true ∧ (Lit.int .u64 y.2.2.2.2.2.1).wf = true ∧ (Lit.int .u64 y.2.2.2.2.2.2).wf = true := by
  obtain ⟨xs, n, -, hx, hl, hlen, hfi⟩ := DataW.trod_struct Try.underlying45 h
  have hsz : cs.length = 7 := hl.trans Try.cells45
  match cs, hsz with
  | [c0, c1, c2, c3, c4, c5, c6], _ =>
    have t0 := hfi 0 _ rfl
    have t1 := hfi 1 _ rfl
    have t2 := hfi 2 _ rfl
    have t3 := hfi 3 _ rfl
    have t4 := hfi 4 _ rfl
    have t5 := hfi 5 _ rfl
    have t6 := hfi 6 _ rfl
    match xs, hlen with
    | [y0, y1, y2, y3, y4, y5, y6], _ =>
      simp [Try.cells43, Try.cells5] at t0 t1 t2 t3 t4 t5 t6
      obtain ⟨k, e0, -, w0⟩ := DataW.trod_int Try.underlying5 t0
      obtain ⟨a, e1, -, w1⟩ := DataW.trod_int Try.underlying43 t1
      obtain ⟨b, e2, -, w2⟩ := DataW.trod_int Try.underlying43 t2
      obtain ⟨v, e3, -, w3⟩ := DataW.trod_int Try.underlying43 t3
      obtain ⟨o, e4, -, w4⟩ := DataW.trod_int Try.underlying43 t4
      obtain ⟨y, e5, -, w5⟩ := DataW.trod_int Try.underlying43 t5
      obtain ⟨d, e6, -, w6⟩ := DataW.trod_int Try.underlying43 t6
      simp at e0 e1 e2 e3 e4 e5 e6
      subst e0 e1 e2 e3 e4 e5 e6
      exact ⟨(k, a, b, v, o, y, d), rfl, w0, w1, w2, w3, w4, w5, w6⟩
theorem openOps {fuel : Nat} {cs : List Value} {x : DataW H × List MemPlace} (h : DataW.trod enc Try.prog W 0 (fun _ => true) true fuel 42 cs = some x) (hz : ∀ n ∈ x.1.weights Try.prog 42, n ≤ reachBytes) :
    ∃ v l, cs = [v] ∧ OpsR W v l := by
  rcases open_slice Try.underlying42 h with ⟨rfl, -⟩ | ⟨a, len, cap, m, n, D, Pl, rfl, -, hl, hm, hmm, rfl, hx⟩
  · exact ⟨_, [], rfl, none, 0, rfl, Nat.le_refl _, ⟨Nat.zero_le _, by simp⟩, fun h => absurd rfl h⟩
  · simp only [if_true] at hmm
    have each : ∀ i, i < len → ∃ y : OpT, OpR W a.block (a.off + i * 7) y ∧ (a = ⟨a.block, a.off, none⟩) := fun i hi => by
      obtain ⟨cs', h1, h2⟩ := hx i (by omega)
      rw [Try.cells45] at h1
      obtain ⟨_, hlen, hcell⟩ := World.cells?_some h1
      obtain ⟨y, rfl, hw⟩ := openOpCells h2
      have hp : a = ⟨a.block, a.off, none⟩ := by
        obtain ⟨cs0, g1, g2⟩ := hx 0 (by omega)
        rw [Try.cells45] at g1
        obtain ⟨_, hlen0, hcell0⟩ := World.cells?_some g1
        obtain ⟨y0, rfl, -⟩ := openOpCells g2
        have := plain_of_cell (a := a) (v := .int .u8 y0.1) (by simpa [Addr.add] using hcell0 0 (by omega))
        exact this
      have at' : ∀ j, j < 7 → W.cell? ⟨a.block, a.off + i * 7 + j, none⟩ = [Value.int .u8 y.1, .int .u64 y.2.1, .int .u64 y.2.2.1, .int .u64 y.2.2.2.1, .int .u64 y.2.2.2.2.1, .int .u64 y.2.2.2.2.2.1, .int .u64 y.2.2.2.2.2.2][j]? := fun j hj => by
        have := hcell j hj
        rw [add_add, hp] at this
        rw [← this]
        congr 1
        unfold Addr.add; split
        · rename_i h0
          have : i * 7 = 0 := by omega
          have : j = 0 := by omega
          simp [*]
        · simp [Nat.add_assoc]
      exact ⟨y, ⟨⟨at' 0 (by omega), at' 1 (by omega), at' 2 (by omega), at' 3 (by omega), at' 4 (by omega), at' 5 (by omega), at' 6 (by omega)⟩, hw⟩, hp⟩
    obtain ⟨q, hq⟩ := choose_lt each
    have hlq : ((List.range len).map q).length = len := by simp
    have hb : len * 56 ≤ 140737488351232 := by
      have := hz ((((List.range len).map D).length + ((List.range (m - len)).map fun j => D (len + j)).length) * Try.prog.bytesOf 45) (by simp [DataW.weights, Try.underlying42])
      rw [Try.bytes45] at this
      simp only [List.length_map, List.length_range] at this
      unfold reachBytes at this
      omega
    refine ⟨_, (List.range len).map q, rfl, some a, cap, by rw [hlq], by rw [hlq]; exact hl, ⟨hm, by rw [hlq]; exact hb⟩, fun hne => ?_⟩
    have hpos : 0 < len := by
      cases len with
      | zero => simp at hne
      | succ n => omega
    refine ⟨a.block, a.off, by rw [← (hq 0 hpos).2], fun i y hi => ?_⟩
    rw [List.getElem?_map, Option.map_eq_some_iff] at hi
    obtain ⟨j, hj, rfl⟩ := hi
    have hjl := (List.getElem?_eq_some_iff.1 hj).1
    rw [List.length_range] at hjl
    rw [List.getElem?_range hjl] at hj
    obtain rfl := Option.some.inj hj
    exact (hq i hjl).1
theorem openProgs {fuel : Nat} {cs : List Value} {x : DataW H × List MemPlace} (h : DataW.trod enc Try.prog W 0 (fun _ => true) true fuel 28 cs = some x) (hz : ∀ n ∈ x.1.weights Try.prog 28, n ≤ reachBytes) :
    ∃ v l, cs = [v] ∧ Progs W v l := by
  rcases open_slice1 Try.underlying28 Try.cells42 h with ⟨rfl, -⟩ | ⟨a, len, cap, m, n, V, D, Pl, rfl, -, hl, hm, hmm, rfl, hx⟩
  · exact ⟨_, [], rfl, none, 0, rfl, Nat.le_refl _, ⟨Nat.zero_le _, by simp⟩, fun h => absurd rfl h⟩
  · simp only [if_true] at hmm
    have wmem : ∀ (l : List (DataW H)) (d : DataW H), d ∈ l → ∀ n ∈ d.weights Try.prog 42, n ∈ DataW.weightsAll Try.prog 42 l := by
      intro l
      induction l with
      | nil => intro d hd; cases hd
      | cons e l ih =>
        intro d hd n hn
        simp only [DataW.weightsAll, List.mem_append]
        rcases List.mem_cons.1 hd with rfl | hd
        · exact .inl hn
        · exact .inr (ih d hd n hn)
    have each : ∀ i, i < len → ∃ y : List OpT, OpsR W (V i) y := fun i hi => by
      obtain ⟨h1, h2⟩ := hx i (by omega)
      obtain ⟨v, y, e, hv⟩ := openOps h2 (fun n hn => hz n (by
        simp only [DataW.weights, Try.underlying28, List.mem_cons, List.mem_append]
        exact .inr (.inl (wmem _ (D i) (List.mem_map.2 ⟨i, List.mem_range.2 hi, rfl⟩) n hn))))
      simp at e
      subst e
      exact ⟨y, hv⟩
    obtain ⟨q, hq⟩ := choose_lt each
    have hlq : ((List.range len).map q).length = len := by simp
    have hb : len * 24 ≤ 140737488351232 := by
      have := hz ((((List.range len).map D).length + ((List.range (m - len)).map fun j => D (len + j)).length) * Try.prog.bytesOf 42) (by simp [DataW.weights, Try.underlying28])
      rw [Try.bytes42] at this
      simp only [List.length_map, List.length_range] at this
      unfold reachBytes at this
      omega
    refine ⟨_, (List.range len).map q, rfl, some a, cap, by rw [hlq], by rw [hlq]; exact hl, ⟨hm, by rw [hlq]; exact hb⟩, fun hne => ?_⟩
    have hpos : 0 < len := by
      cases len with
      | zero => simp at hne
      | succ n => omega
    have hpl : a = ⟨a.block, a.off, none⟩ := by have := plain_of_cell (hx 0 (by omega)).1; simpa [Addr.add] using this
    refine ⟨a.block, a.off, by rw [← hpl], fun i y hi => ?_⟩
    rw [List.getElem?_map, Option.map_eq_some_iff] at hi
    obtain ⟨j, hj, rfl⟩ := hi
    have hjl := (List.getElem?_eq_some_iff.1 hj).1
    rw [List.length_range] at hjl
    rw [List.getElem?_range hjl] at hj
    obtain rfl := Option.some.inj hj
    refine ⟨V i, ?_, hq i hjl⟩
    have := (hx i (by omega)).1
    rw [hpl] at this
    have e2 : (⟨a.block, a.off, none⟩ : Addr).add i = ⟨a.block, a.off + i * 1, none⟩ := by
      unfold Addr.add; split
      · rename_i h0; simp [h0]
      · simp
    rw [e2] at this
    exact this
theorem openDomain {fuel : Nat} {cs : List Value} {x : DataW H × List MemPlace} (h : DataW.trod enc Try.prog W 0 (fun _ => true) true fuel 24 cs = some x) (hz : ∀ n ∈ x.1.weights Try.prog 24, n ≤ reachBytes) :
    ∃ (dk dn : Int) (cv : Value) (l : List Int), cs = [.int .u8 dk, .int .i64 dn, cv] ∧ Uints W cv l := by
  obtain ⟨xs, n, -, hx, hl, hlen, hfi⟩ := DataW.trod_struct Try.underlying24 h
  have hsz : cs.length = 3 := hl.trans Try.cells24
  match cs, hsz with
  | [c0, c1, c2], _ =>
    have t0 := hfi 0 _ rfl
    have t1 := hfi 1 _ rfl
    have t2 := hfi 2 _ rfl
    match xs, hlen with
    | [y0, y1, y2], _ =>
      simp [Try.cells3, Try.cells5, Try.cells22] at t0 t1 t2
      obtain ⟨k, e0, -, w0⟩ := DataW.trod_int Try.underlying5 t0
      obtain ⟨a, e1, -, w1⟩ := DataW.trod_int Try.underlying3 t1
      obtain ⟨v, l, e2, hv⟩ := openInts Try.underlying22 Try.underlying43 Try.cells43 Try.bytes43 t2 (fun n hn => hz n (by
        rw [hx]
        simp only [DataW.weights, Try.underlying24, List.map_cons, List.map_nil, DataW.weightsEach, List.mem_append]
        exact .inr (.inr (.inl hn))))
      simp at e0 e1 e2
      subst e0 e1 e2
      exact ⟨k, a, _, l, rfl, hv⟩
theorem openConfig {fuel : Nat} {cs : List Value} {x : DataW H × List MemPlace} (h : DataW.trod enc Try.prog W 0 (fun _ => true) true fuel 27 cs = some x) (hz : ∀ n ∈ x.1.weights Try.prog 27, n ≤ reachBytes) :
    ∃ (th sl en bu dk dn t0 t1 t2 t3 t4 t5 lo tr ba : Int) (cv : Value) (l : List Int), cs = [.int .i64 th, .int .i64 sl, .int .u8 en, .int .i64 bu, .int .u8 dk, .int .i64 dn, cv, .int .i64 t0, .int .i64 t1, .int .i64 t2, .int .i64 t3, .int .i64 t4, .int .i64 t5, .int .i64 lo, .int .i64 tr, .int .i64 ba] ∧ Uints W cv l := by
  obtain ⟨xs, n, -, hx, hl, hlen, hfi⟩ := DataW.trod_struct Try.underlying27 h
  have hsz : cs.length = 16 := hl.trans Try.cells27
  match cs, hsz with
  | [c0, c1, c2, c3, c4, c5, c6, c7, c8, c9, c10, c11, c12, c13, c14, c15], _ =>
    have s0 := hfi 0 _ rfl
    have s1 := hfi 1 _ rfl
    have s2 := hfi 2 _ rfl
    have s3 := hfi 3 _ rfl
    have s4 := hfi 4 _ rfl
    have s5 := hfi 5 _ rfl
    have s6 := hfi 6 _ rfl
    have s7 := hfi 7 _ rfl
    have s8 := hfi 8 _ rfl
    match xs, hlen with
    | [y0, y1, y2, y3, y4, y5, y6, y7, y8], _ =>
      simp [Try.cells3, Try.cells5, Try.cells24, Try.cells25] at s0 s1 s2 s3 s4 s5 s6 s7 s8
      obtain ⟨th, e0, -, -⟩ := DataW.trod_int Try.underlying3 s0
      obtain ⟨sl, e1, -, -⟩ := DataW.trod_int Try.underlying3 s1
      obtain ⟨en, e2, -, -⟩ := DataW.trod_int Try.underlying5 s2
      obtain ⟨bu, e3, -, -⟩ := DataW.trod_int Try.underlying3 s3
      obtain ⟨dk, dn, cv, l, e4, hv⟩ := openDomain s4 (fun n hn => hz n (by
        rw [hx]
        simp only [DataW.weights, Try.underlying27, List.map_cons, List.map_nil, DataW.weightsEach, List.mem_append]
        exact .inr (.inr (.inr (.inr (.inl hn))))))
      obtain ⟨zs, m, -, -, hal, hzl, hze⟩ := DataW.trod_array Try.underlying25 s5
      obtain ⟨lo, e6, -, -⟩ := DataW.trod_int Try.underlying3 s6
      obtain ⟨tr, e7, -, -⟩ := DataW.trod_int Try.underlying3 s7
      obtain ⟨ba, e8, -, -⟩ := DataW.trod_int Try.underlying3 s8
      rw [Try.cells3] at hze
      match zs, hzl with
      | [z0, z1, z2, z3, z4, z5], _ =>
        have u0 := hze 0 (by omega)
        have u1 := hze 1 (by omega)
        have u2 := hze 2 (by omega)
        have u3 := hze 3 (by omega)
        have u4 := hze 4 (by omega)
        have u5 := hze 5 (by omega)
        simp at u0 u1 u2 u3 u4 u5
        obtain ⟨t0, f0, -, -⟩ := DataW.trod_int Try.underlying3 u0
        obtain ⟨t1, f1, -, -⟩ := DataW.trod_int Try.underlying3 u1
        obtain ⟨t2, f2, -, -⟩ := DataW.trod_int Try.underlying3 u2
        obtain ⟨t3, f3, -, -⟩ := DataW.trod_int Try.underlying3 u3
        obtain ⟨t4, f4, -, -⟩ := DataW.trod_int Try.underlying3 u4
        obtain ⟨t5, f5, -, -⟩ := DataW.trod_int Try.underlying3 u5
        simp at e0 e1 e2 e3 e4 e6 e7 e8 f0 f1 f2 f3 f4 f5
        obtain ⟨e4, e4', e4''⟩ := e4
        subst e0 e1 e2 e3 e4 e4' e4'' e6 e7 e8 f0 f1 f2 f3 f4 f5
        exact ⟨th, sl, en, bu, dk, dn, t0, t1, t2, t3, t4, t5, lo, tr, ba, _, l, rfl, hv⟩
theorem openScript {base : Nat} {v0 : Value} {d0 : DataW H} {p0 : List MemPlace} (o0 : Value.okWide Try.prog W .any base 31 v0) (h0 : DataW.Trod enc Try.prog W 0 (fun _ => true) true 31 v0 d0 p0) (hz : ∀ n ∈ d0.weights Try.prog 31, n ≤ reachBytes) :
    ∃ (th sl en bu dk dn t0 t1 t2 t3 t4 t5 lo tr ba : Int) (cv pv kv : Value) (l q : List Int) (L : List (List OpT)), v0 = .agg #[.int .i64 th, .int .i64 sl, .int .u8 en, .int .i64 bu, .int .u8 dk, .int .i64 dn, cv, .int .i64 t0, .int .i64 t1, .int .i64 t2, .int .i64 t3, .int .i64 t4, .int .i64 t5, .int .i64 lo, .int .i64 tr, .int .i64 ba, pv, kv] ∧ Uints W cv l ∧ Progs W pv L ∧ Ints W kv q := by
  obtain ⟨cs, rfl, hsz⟩ := okWide_struct Try.underlying31 o0
  obtain ⟨fuel, hf⟩ := h0
  obtain ⟨xs, n, -, hx, hl, hlen, hfi⟩ := DataW.trod_struct Try.underlying31 hf
  have hsz : cs.size = 18 := hsz.trans Try.cells31
  obtain ⟨c0, c1, c2, c3, c4, c5, c6, c7, c8, c9, c10, c11, c12, c13, c14, c15, c16, c17, rfl⟩ : ∃ c0 c1 c2 c3 c4 c5 c6 c7 c8 c9 c10 c11 c12 c13 c14 c15 c16 c17, cs = #[c0, c1, c2, c3, c4, c5, c6, c7, c8, c9, c10, c11, c12, c13, c14, c15, c16, c17] := by
    obtain ⟨l⟩ := cs
    match l, hsz with
    | [c0, c1, c2, c3, c4, c5, c6, c7, c8, c9, c10, c11, c12, c13, c14, c15, c16, c17], _ => exact ⟨c0, c1, c2, c3, c4, c5, c6, c7, c8, c9, c10, c11, c12, c13, c14, c15, c16, c17, rfl⟩
  have s0 := hfi 0 _ rfl
  have s1 := hfi 1 _ rfl
  have s2 := hfi 2 _ rfl
  match xs, hlen with
  | [y0, y1, y2], _ =>
    simp [Value.cells, Try.cells27, Try.cells28, Try.cells29] at s0 s1 s2
    have hx : d0 = .agg [y0.1, y1.1, y2.1] := by simpa using congrArg Prod.fst hx
    have hz0 : ∀ n ∈ y0.1.weights Try.prog 27, n ≤ reachBytes := fun n hn => hz n (by
      rw [hx]
      simp only [DataW.weights, Try.underlying31, List.map_cons, List.map_nil, DataW.weightsEach, List.mem_append]
      exact .inl hn)
    have hz1 : ∀ n ∈ y1.1.weights Try.prog 28, n ≤ reachBytes := fun n hn => hz n (by
      rw [hx]
      simp only [DataW.weights, Try.underlying31, List.map_cons, List.map_nil, DataW.weightsEach, List.mem_append]
      exact .inr (.inl hn))
    have hz2 : ∀ n ∈ y2.1.weights Try.prog 29, n ≤ reachBytes := fun n hn => hz n (by
      rw [hx]
      simp only [DataW.weights, Try.underlying31, List.map_cons, List.map_nil, DataW.weightsEach, List.mem_append]
      exact .inr (.inr (.inl hn)))
    obtain ⟨th, sl, en, bu, dk, dn, t0, t1, t2, t3, t4, t5, lo, tr, ba, cv, l, e0, hv⟩ := openConfig s0 hz0
    obtain ⟨pv, L, e1, hp⟩ := openProgs s1 hz1
    obtain ⟨kv, q, e2, hk⟩ := openInts Try.underlying29 Try.underlying3 Try.cells3 Try.bytes3 s2 hz2
    simp at e0 e1 e2
    obtain ⟨g0, g1, g2, g3, g4, g5, g6, g7, g8, g9, g10, g11, g12, g13, g14, g15⟩ := e0
    subst g0 g1 g2 g3 g4 g5 g6 g7 g8 g9 g10 g11 g12 g13 g14 g15 e1 e2
    exact ⟨th, sl, en, bu, dk, dn, t0, t1, t2, t3, t4, t5, lo, tr, ba, _, _, _, l, q, L, rfl, hv, hp, hk⟩
end
end Go.Proofs.Ytnmlfhogolonoaa
