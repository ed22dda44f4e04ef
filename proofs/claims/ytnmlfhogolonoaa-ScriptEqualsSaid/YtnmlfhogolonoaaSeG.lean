/-
  The walks of CopyInts, CopyUints, CopyOps: what a copy reads as is what was copied. No condition but that the values read as lists.
-/
import Derived.Test.YtnmlfhogolonoaaSeE
import Derived.OwnWalk
import Derived.KernelRfl
set_option linter.unusedVariables false
set_option linter.unusedSimpArgs false
namespace Go.Proofs.Ytnmlfhogolonoaa
open Go.RowKit
theorem add_pl (b o j : Nat) : (⟨b, o, none⟩ : Addr).add j = ⟨b, o + j, none⟩ := by
  unfold Addr.add
  split
  · rename_i h; simp [h]
  · rfl
theorem Try.info3 : (Try.prog.info? 3).map (fun i => (i.zero, i.size, i.bytes)) = some (some (.int .i64 0), 1, 8) := by kernel_rfl
theorem Try.info43 : (Try.prog.info? 43).map (fun i => (i.zero, i.size, i.bytes)) = some (some (.int .u64 0), 1, 8) := by kernel_rfl
theorem Try.info45 : (Try.prog.info? 45).map (fun i => (i.zero, i.size, i.bytes)) = some (some (.agg #[.int .u8 0, .int .u64 0, .int .u64 0, .int .u64 0, .int .u64 0, .int .u64 0, .int .u64 0]), 7, 56) := by kernel_rfl
theorem Try.info42 : (Try.prog.info? 42).map (fun i => (i.zero, i.size, i.bytes)) = some (some (.slice none 0 0), 1, 24) := by kernel_rfl
def opCells (x : OpT) : List Value := [.int .u8 x.1, .int .u64 x.2.1, .int .u64 x.2.2.1, .int .u64 x.2.2.2.1, .int .u64 x.2.2.2.2.1, .int .u64 x.2.2.2.2.2.1, .int .u64 x.2.2.2.2.2.2]
theorem flat7 : ∀ (l : List OpT) (i : Nat) (x : OpT) (j : Nat), l[i]? = some x → j < 7 → (l.flatMap opCells)[i * 7 + j]? = (opCells x)[j]?
  | [], i, x, j, h, _ => by simp at h
  | y :: l, 0, x, j, h, hj => by
    simp at h; subst h
    rw [List.flatMap_cons, Nat.zero_mul, Nat.zero_add, List.getElem?_append_left (by simpa [opCells] using hj)]
  | y :: l, i + 1, x, j, h, hj => by
    rw [List.flatMap_cons, List.getElem?_append_right (by simp [opCells]; omega)]
    have := flat7 l i x j (by simpa using h) hj
    rw [← this]
    congr 1
    simp [opCells]; omega
theorem len7 (l : List OpT) : (l.flatMap opCells).length = l.length * 7 := by
  induction l with
  | nil => rfl
  | cons a l ih => rw [List.flatMap_cons, List.length_append, ih, List.length_cons]; simp [opCells]; omega
theorem own_ints {k : IntKind} {w : World} {base B : Nat} {e : TypeId} {v : Value} {l : List Int} (h : w.ownsRow base e 1 v l.length (l.map (Value.int k))) (hw : ∀ n ∈ l, (Lit.int k n).wf = true)
    (hB : l.length * B ≤ 140737488351232) : Sl (IntR k) 1 B w v l := by
  have hc := fun g => World.ownsRow.cells h (g := g)
  obtain ⟨h1, ⟨rfl, h2⟩ | ⟨g, cap, cur, rfl, hb, hg, hn, hm, hs, ht⟩⟩ := h
  · obtain rfl : l = [] := by simpa using h2
    exact ⟨none, 0, rfl, Nat.le_refl _, ⟨Nat.zero_le _, by simp⟩, fun h => absurd rfl h⟩
  · refine ⟨some ⟨g, 0, none⟩, cap, rfl, hn, ⟨hm, hB⟩, fun _ => ⟨g, 0, rfl, fun i x hx => ⟨?_, hw x (List.mem_of_getElem? hx)⟩⟩⟩
    have := hc g rfl i (.int k x) (by simp [hx])
    rw [add_pl] at this
    simpa using this
theorem own_ops {w : World} {base : Nat} {e : TypeId} {v : Value} {l : List OpT} (h : w.ownsRow base e 7 v l.length (l.flatMap opCells)) 
    (hw : ∀ x ∈ l, (Lit.int .u8 x.1).wf = true ∧ (Lit.int .u64 x.2.1).wf = true ∧ (Lit.int .u64 x.2.2.1).wf = true ∧ (Lit.int .u64 x.2.2.2.1).wf = true ∧ (Lit.int .u64 x.2.2.2.2.1).wf = true ∧ (Lit.int .u64 x.2.2.2.2.2.1).wf = true ∧ (Lit.int .u64 x.2.2.2.2.2.2).wf = true)
    (hB : l.length * 56 ≤ 140737488351232) : OpsR w v l := by
  have hc := fun g => World.ownsRow.cells h (g := g)
  obtain ⟨h1, ⟨rfl, h2⟩ | ⟨g, cap, cur, rfl, hb, hg, hn, hm, hs, ht⟩⟩ := h
  · obtain rfl : l = [] := by simpa using h2
    exact ⟨none, 0, rfl, Nat.le_refl _, ⟨Nat.zero_le _, by simp⟩, fun h => absurd rfl h⟩
  · refine ⟨some ⟨g, 0, none⟩, cap, rfl, hn, ⟨hm, hB⟩, fun _ => ⟨g, 0, rfl, fun i x hx => ⟨?_, hw x (List.mem_of_getElem? hx)⟩⟩⟩
    have one : ∀ j u, (opCells x)[j]? = some u → w.cell? ⟨g, 0 + i * 7 + j, none⟩ = some u := fun j u hu => by
      have hj : j < 7 := by have := (List.getElem?_eq_some_iff.1 hu).1; simpa [opCells] using this
      have := hc g rfl (i * 7 + j) u (by rw [flat7 l i x j hx hj]; exact hu)
      rw [add_pl] at this
      simpa [Nat.add_assoc] using this
    exact ⟨one 0 _ rfl, one 1 _ rfl, one 2 _ rfl, one 3 _ rfl, one 4 _ rfl, one 5 _ rfl, one 6 _ rfl⟩
/-- the cells that a slice leads to lie in blocks from 'base' on -/
def Fresh (base : Nat) (v : Value) : Prop := ∀ a n c, v = .slice (some a) n c → base ≤ a.block
/-- what was there to be read from block 'base' on is there still -/
def FExt (base : Nat) (w w' : World) : Prop := ∀ a v, base ≤ a.block → w.cell? a = some v → w'.cell? a = some v
theorem FExt.refl (base : Nat) (w : World) : FExt base w w := fun _ _ _ h => h
theorem FExt.trans {base : Nat} {a b c : World} (h : FExt base a b) (k : FExt base b c) : FExt base a c := fun x v hb e => k x v hb (h x v hb e)
theorem FExt.of {base : Nat} {w w' : World} (h : Ext w w') : FExt base w w' := fun a v _ e => h a v e
theorem FExt.mono {b b' : Nat} {w w' : World} (h : FExt b w w') (hb : b ≤ b') : FExt b' w w' := fun a v ha e => h a v (Nat.le_trans hb ha) e
theorem FExt.setCell {base : Nat} {w0 w : World} (h : FExt base w0 w) {p : Addr} (hp : p.block < base) (u : Value) : FExt base w0 (w.setCell p u) := fun a v ha e => by
  have e := h a v ha e
  unfold World.cell? at e ⊢
  rw [Below.heap_setCell w p u a.block (by omega)]
  exact e
def SlF {α : Type} (R : World → Nat → Nat → α → Prop) (s B base : Nat) (w : World) (v : Value) (l : List α) : Prop := Sl R s B w v l ∧ Fresh base v
def ProgRF (base : Nat) (w : World) (b o : Nat) (x : List OpT) : Prop := ∃ v, w.cell? ⟨b, o, none⟩ = some v ∧ SlF OpR 7 56 base w v x
theorem SlF.shape {α : Type} {R : World → Nat → Nat → α → Prop} {s B base : Nat} {w : World} {v : Value} {l : List α} (h : SlF R s B base w v l) : ∃ p c, v = .slice p l.length c := let ⟨p, c, e, _⟩ := h.1; ⟨p, c, e⟩
theorem SlF.ext {α : Type} {R : World → Nat → Nat → α → Prop} {s B base : Nat} {w w' : World} (hR : ∀ b o x, base ≤ b → R w b o x → R w' b o x) {v : Value} {l : List α} (h : SlF R s B base w v l) : SlF R s B base w' v l := by
  obtain ⟨⟨p, c, e, h1, h2, h3⟩, hf⟩ := h
  exact ⟨⟨p, c, e, h1, h2, fun hl => let ⟨b, o, e', hx⟩ := h3 hl; ⟨b, o, e', fun i x hi => hR _ _ _ (hf ⟨b, o, none⟩ _ _ (by rw [e, e'])) (hx i x hi)⟩⟩, hf⟩
theorem SlF.mono {α : Type} {R : World → Nat → Nat → α → Prop} {s B base base' : Nat} {w : World} {v : Value} {l : List α} (h : SlF R s B base w v l) (hb : base' ≤ base) : SlF R s B base' w v l :=
  ⟨h.1, fun a n c e => Nat.le_trans hb (h.2 a n c e)⟩
theorem IntR.fext {k : IntKind} {base : Nat} {w w' : World} (h : FExt base w w') {b o : Nat} {n : Int} (hb : base ≤ b) (r : IntR k w b o n) : IntR k w' b o n := ⟨h _ _ hb r.1, r.2⟩
theorem OpR.fext {base : Nat} {w w' : World} (h : FExt base w w') {b o : Nat} {n : OpT} (hb : base ≤ b) (r : OpR w b o n) : OpR w' b o n :=
  ⟨⟨h _ _ hb r.1.1, h _ _ hb r.1.2.1, h _ _ hb r.1.2.2.1, h _ _ hb r.1.2.2.2.1, h _ _ hb r.1.2.2.2.2.1, h _ _ hb r.1.2.2.2.2.2.1, h _ _ hb r.1.2.2.2.2.2.2⟩, r.2⟩
theorem ProgRF.fext {base : Nat} {w w' : World} (h : FExt base w w') {b o : Nat} {n : List OpT} (hb : base ≤ b) (r : ProgRF base w b o n) : ProgRF base w' b o n :=
  let ⟨v, e, s⟩ := r; ⟨v, h _ _ hb e, s.ext fun _ _ _ hb => OpR.fext h hb⟩
abbrev IntsF (base : Nat) (w : World) (v : Value) (l : List Int) : Prop := SlF (IntR .i64) 1 8 base w v l
abbrev UintsF (base : Nat) (w : World) (v : Value) (l : List Int) : Prop := SlF (IntR .u64) 1 8 base w v l
abbrev OpsF (base : Nat) (w : World) (v : Value) (l : List OpT) : Prop := SlF OpR 7 56 base w v l
abbrev ProgsF (base : Nat) (w : World) (v : Value) (l : List (List OpT)) : Prop := SlF (ProgRF base) 1 24 base w v l
theorem ProgsF.progs {base : Nat} {w : World} {v : Value} {l : List (List OpT)} (h : ProgsF base w v l) : Progs w v l := by
  obtain ⟨⟨p, c, e, h1, h2, h3⟩, hf⟩ := h
  exact ⟨p, c, e, h1, h2, fun hl => let ⟨b, o, e', hx⟩ := h3 hl; ⟨b, o, e', fun i x hi => let ⟨v, a, s⟩ := hx i x hi; ⟨v, a, s.1⟩⟩⟩
theorem ProgRF.mono {base base' : Nat} (hb : base' ≤ base) {w : World} {b o : Nat} {n : List OpT} (r : ProgRF base w b o n) : ProgRF base' w b o n := let ⟨v, e, s⟩ := r; ⟨v, e, s.mono hb⟩
theorem fresh_nil (base : Nat) : Fresh base (.slice none 0 0) := fun _ _ _ e => by cases e
theorem fresh_own {w : World} {base : Nat} {e : TypeId} {s : Nat} {v : Value} {n : Nat} {xs : List Value} (h : w.ownsRow base e s v n xs) : Fresh base v := fun a n c ev => by
  rcases h.2 with ⟨rfl, _⟩ | ⟨g, cap, cur, rfl, hb, _⟩
  · cases ev
  · simp only [Value.slice.injEq, Option.some.injEq] at ev
    rw [← ev.1]; exact hb
theorem Below.ofGrown {w w' : World} (h : w.grownBy w' none) : Below w.heap.size w w' := ⟨h.os, h.tape, h.output, h.size, fun k hk => h.block k hk (by simp)⟩
/-- the block that a slice leads to holds elements of type t -/
def Typed (t : TypeId) (w : World) (v : Value) : Prop := ∀ a n c, v = .slice (some a) n c → ∃ cur fr, w.heap[a.block]? = some (.cells cur t fr)
theorem typed_nil (t : TypeId) (w : World) : Typed t w (.slice none 0 0) := fun _ _ _ e => by cases e
theorem typed_own {w : World} {base : Nat} {e : TypeId} {s : Nat} {v : Value} {n : Nat} {xs : List Value} (h : w.ownsRow base e s v n xs) : Typed e w v := fun a n c ev => by
  rcases h.2 with ⟨rfl, _⟩ | ⟨g, cap, cur, rfl, hb, hg, _⟩
  · cases ev
  · simp only [Value.slice.injEq, Option.some.injEq] at ev
    rw [← ev.1]; exact ⟨_, _, hg⟩
set_option maxHeartbeats 2000000 in
theorem copy26 (w : World) (v : Value) (l : List Int) (h : Ints w v l) :
    Calls Try.prog 26 #[v] w fun e w' => ∃ v', e = .returned v' ∧ IntsF w.heap.size w' v' l ∧ Below w.heap.size w w' := by
  obtain ⟨p, c, rfl, hc, ⟨hm, hB⟩, h⟩ := h
  by_cases hnil : l = []
  · subst hnil
    clear h hc hm hB
    simp only [List.length_nil]
    cases p with
    | none =>
      go_enter Try.func26, Try.ntmps26
      go_wp2
      go_ret
      exact ⟨_, rfl, ⟨⟨none, 0, rfl, Nat.le_refl _, ⟨Nat.zero_le _, by simp⟩, fun h => absurd rfl h⟩, fresh_nil _⟩, Below.refl _ _⟩
    | some a =>
      go_enter Try.func26, Try.ntmps26
      go_wp2
      go_ret
      exact ⟨_, rfl, ⟨⟨none, 0, rfl, Nat.le_refl _, ⟨Nat.zero_le _, by simp⟩, fun h => absurd rfl h⟩, fresh_nil _⟩, Below.refl _ _⟩
  · obtain ⟨b, o, rfl, hE⟩ := h hnil
    clear h hnil
    obtain ⟨i0, hi, hz0, hz1, hz2⟩ := info_parts Try.info3
    have hw := fun x (hx : x ∈ l) => let ⟨i, hi⟩ := List.getElem?_of_mem hx; (hE i x hi).2
    have hnews : ∀ j u, (l.map (Value.int .i64))[j]? = some u → w.cell? ((⟨b, o, none⟩ : Addr).add j) = some u := by
      intro j u hu
      rw [add_pl]
      rw [List.getElem?_map] at hu
      obtain ⟨x, hx, rfl⟩ := Option.map_eq_some_iff.1 hu
      simpa using (hE j x hx).1
    have h1 : ∀ u ∈ (l.map (Value.int .i64)), u.oneCell' = true := by
      exact ints_oneCell _ _
    have h63 : 0 + l.length ≤ maxLen := by omega
    have hby : (0 + l.length) * 8 ≤ 140737488355328 := by omega
    have H1 := Lib.hid hnews
    have H2 := Lib.hid h1
    have H3 := Lib.hid h63
    have H4 := Lib.hid hby
    have H5 := Lib.hid hw
    have H6 := Lib.hid hB
    clear hE hw hnews h1 h63 hby hc hm hB
    go_enter Try.func26, Try.ntmps26
    go_wp2_with (at_builtin; refine wpList_append_own _ rfl _ _ 29 rfl w.heap.size 3 i0 (.int .i64 0) 1 8 Try.underlying29 hi hz0 hz1 hz2 rfl (by decide) _ _ _ rfl (World.ownsRow_nil _ _ _ _) ⟨b, o, none⟩ l.length c (l.map (Value.int .i64)) rfl (by simp) H1.out H2.out H3.out H4.out (Nat.le_refl _) ?_; intro v' w1 hown hgrow _)
    go_ret
    refine ⟨_, rfl, ⟨own_ints (by simpa using hown) H5.out H6.out, fresh_own hown⟩, Below.ofGrown hgrow⟩
set_option maxHeartbeats 2000000 in
theorem copy69 (w : World) (v : Value) (l : List Int) (h : Uints w v l) :
    Calls Try.prog 69 #[v] w fun e w' => ∃ v', e = .returned v' ∧ UintsF w.heap.size w' v' l ∧ Below w.heap.size w w' := by
  obtain ⟨p, c, rfl, hc, ⟨hm, hB⟩, h⟩ := h
  by_cases hnil : l = []
  · subst hnil
    clear h hc hm hB
    simp only [List.length_nil]
    cases p with
    | none =>
      go_enter Try.func69, Try.ntmps69
      go_wp2
      go_ret
      exact ⟨_, rfl, ⟨⟨none, 0, rfl, Nat.le_refl _, ⟨Nat.zero_le _, by simp⟩, fun h => absurd rfl h⟩, fresh_nil _⟩, Below.refl _ _⟩
    | some a =>
      go_enter Try.func69, Try.ntmps69
      go_wp2
      go_ret
      exact ⟨_, rfl, ⟨⟨none, 0, rfl, Nat.le_refl _, ⟨Nat.zero_le _, by simp⟩, fun h => absurd rfl h⟩, fresh_nil _⟩, Below.refl _ _⟩
  · obtain ⟨b, o, rfl, hE⟩ := h hnil
    clear h hnil
    obtain ⟨i0, hi, hz0, hz1, hz2⟩ := info_parts Try.info43
    have hw := fun x (hx : x ∈ l) => let ⟨i, hi⟩ := List.getElem?_of_mem hx; (hE i x hi).2
    have hnews : ∀ j u, (l.map (Value.int .u64))[j]? = some u → w.cell? ((⟨b, o, none⟩ : Addr).add j) = some u := by
      intro j u hu
      rw [add_pl]
      rw [List.getElem?_map] at hu
      obtain ⟨x, hx, rfl⟩ := Option.map_eq_some_iff.1 hu
      simpa using (hE j x hx).1
    have h1 : ∀ u ∈ (l.map (Value.int .u64)), u.oneCell' = true := by
      exact ints_oneCell _ _
    have h63 : 0 + l.length ≤ maxLen := by omega
    have hby : (0 + l.length) * 8 ≤ 140737488355328 := by omega
    have H1 := Lib.hid hnews
    have H2 := Lib.hid h1
    have H3 := Lib.hid h63
    have H4 := Lib.hid hby
    have H5 := Lib.hid hw
    have H6 := Lib.hid hB
    clear hE hw hnews h1 h63 hby hc hm hB
    go_enter Try.func69, Try.ntmps69
    go_wp2_with (at_builtin; refine wpList_append_own _ rfl _ _ 22 rfl w.heap.size 43 i0 (.int .u64 0) 1 8 Try.underlying22 hi hz0 hz1 hz2 rfl (by decide) _ _ _ rfl (World.ownsRow_nil _ _ _ _) ⟨b, o, none⟩ l.length c (l.map (Value.int .u64)) rfl (by simp) H1.out H2.out H3.out H4.out (Nat.le_refl _) ?_; intro v' w1 hown hgrow _)
    go_ret
    refine ⟨_, rfl, ⟨own_ints (by simpa using hown) H5.out H6.out, fresh_own hown⟩, Below.ofGrown hgrow⟩
set_option maxHeartbeats 2000000 in
theorem copy54 (w : World) (v : Value) (l : List OpT) (h : OpsR w v l) :
    Calls Try.prog 54 #[v] w fun e w' => ∃ v', e = .returned v' ∧ OpsF w.heap.size w' v' l ∧ Below w.heap.size w w' ∧ Typed 45 w' v' := by
  obtain ⟨p, c, rfl, hc, ⟨hm, hB⟩, h⟩ := h
  by_cases hnil : l = []
  · subst hnil
    clear h hc hm hB
    simp only [List.length_nil]
    cases p with
    | none =>
      go_enter Try.func54, Try.ntmps54
      go_wp2
      go_ret
      exact ⟨_, rfl, ⟨⟨none, 0, rfl, Nat.le_refl _, ⟨Nat.zero_le _, by simp⟩, fun h => absurd rfl h⟩, fresh_nil _⟩, Below.refl _ _, typed_nil _ _⟩
    | some a =>
      go_enter Try.func54, Try.ntmps54
      go_wp2
      go_ret
      exact ⟨_, rfl, ⟨⟨none, 0, rfl, Nat.le_refl _, ⟨Nat.zero_le _, by simp⟩, fun h => absurd rfl h⟩, fresh_nil _⟩, Below.refl _ _, typed_nil _ _⟩
  · obtain ⟨b, o, rfl, hE⟩ := h hnil
    clear h hnil
    obtain ⟨i0, hi, hz0, hz1, hz2⟩ := info_parts Try.info45
    have hw := fun x (hx : x ∈ l) => let ⟨i, hi⟩ := List.getElem?_of_mem hx; (hE i x hi).2
    have hnews : ∀ j u, (l.flatMap opCells)[j]? = some u → w.cell? ((⟨b, o, none⟩ : Addr).add j) = some u := by
      intro j u hu
      rw [add_pl]
      have hj := (List.getElem?_eq_some_iff.1 hu).1
      rw [len7] at hj
      obtain ⟨x, hx⟩ : ∃ x, l[j / 7]? = some x := ⟨l[j / 7]'(by omega), by simp⟩
      have hr := flat7 l (j / 7) x (j % 7) hx (Nat.mod_lt _ (by decide))
      rw [show j / 7 * 7 + j % 7 = j by omega] at hr
      rw [hr] at hu
      obtain ⟨⟨g0, g1, g2, g3, g4, g5, g6⟩, -⟩ := hE _ x hx
      have e0 : o + j = o + j / 7 * 7 + j % 7 := by omega
      rw [e0]
      have : j % 7 < 7 := Nat.mod_lt _ (by decide)
      generalize j % 7 = q at hu this ⊢
      match q, this with
      | 0, _ => simp [opCells] at hu; subst hu; exact g0
      | 1, _ => simp [opCells] at hu; subst hu; exact g1
      | 2, _ => simp [opCells] at hu; subst hu; exact g2
      | 3, _ => simp [opCells] at hu; subst hu; exact g3
      | 4, _ => simp [opCells] at hu; subst hu; exact g4
      | 5, _ => simp [opCells] at hu; subst hu; exact g5
      | 6, _ => simp [opCells] at hu; subst hu; exact g6
    have h1 : ∀ u ∈ (l.flatMap opCells), u.oneCell' = true := by
      intro u hu
      obtain ⟨x, _, hx⟩ := List.mem_flatMap.1 hu
      simp only [opCells, List.mem_cons, List.not_mem_nil, or_false] at hx
      rcases hx with rfl | rfl | rfl | rfl | rfl | rfl | rfl <;> rfl
    have h63 : 0 + l.length ≤ maxLen := by omega
    have hby : (0 + l.length) * 56 ≤ 140737488355328 := by omega
    have H1 := Lib.hid hnews
    have H2 := Lib.hid h1
    have H3 := Lib.hid h63
    have H4 := Lib.hid hby
    have H5 := Lib.hid hw
    have H6 := Lib.hid hB
    clear hE hw hnews h1 h63 hby hc hm hB
    go_enter Try.func54, Try.ntmps54
    go_wp2_with (at_builtin; refine wpList_append_own _ rfl _ _ 42 rfl w.heap.size 45 i0 (.agg #[.int .u8 0, .int .u64 0, .int .u64 0, .int .u64 0, .int .u64 0, .int .u64 0, .int .u64 0]) 7 56 Try.underlying42 hi hz0 hz1 hz2 rfl (by decide) _ _ _ rfl (World.ownsRow_nil _ _ _ _) ⟨b, o, none⟩ l.length c (l.flatMap opCells) rfl (len7 l) H1.out H2.out H3.out H4.out (Nat.le_refl _) ?_; intro v' w1 hown hgrow _)
    go_ret
    refine ⟨_, rfl, ⟨own_ops (by simpa using hown) H5.out H6.out, fresh_own hown⟩, Below.ofGrown hgrow, typed_own hown⟩
end Go.Proofs.Ytnmlfhogolonoaa
