/-
  A region in whatever order is drawn, where what holds of the world is given up at one operation (a store) for which all that leans on it is waited; the region of CopyScript.
-/
import Derived.Test.YtnmlfhogolonoaaSeJ
set_option linter.unusedVariables false
set_option linter.unusedSimpArgs false
namespace Go.Proofs.Ytnmlfhogolonoaa
open Go.RowKit
section
variable {P : Program} {ops : Array Oper} {Q : Exit → Act → World → Prop} {md : Region.Mode} {S : World → Prop} {m : Nat}
/-- whatever order is picked from here on, and S holds behind each operation as long as operation m has not come up -/
def wpAnyL (P : Program) (md : Region.Mode) (ops : Array Oper) (Q : Exit → Act → World → Prop) (m : Nat) (S : World → Prop) : Nat → Array Bool → Act → World → Prop
  | 0, listed, a, w => Region.ready md ops listed = [] ∧ Q .normal a w
  | fuel + 1, listed, a, w =>
    (Region.ready md ops listed = [] → Q .normal a w) ∧
    ∀ i ∈ Region.ready md ops listed, wpOp P ops Q i (fun a' w' => ((listed.setIfInBounds i true).getD m true = false → S w') ∧ wpAnyL P md ops Q m S fuel (listed.setIfInBounds i true) a' w') a w
theorem wpAny_of_L : ∀ (fuel : Nat) (listed : Array Bool) (a : Act) (w : World), wpAnyL P md ops Q m S fuel listed a w → wpAny P md ops Q fuel listed a w
  | 0, _, _, _, h => h
  | fuel + 1, _, _, _, h => ⟨h.1, fun i hi => wpOp_mono (fun a' w' h' => wpAny_of_L fuel _ a' w' h'.2) (h.2 i hi)⟩
theorem wpAnyL_first {i : Nat} {oi om : Oper} {v : Value} (hi : ops[i]? = some oi) (hsel : ∀ (j : Nat) (o : Oper) cs b, ops[j]? = some o → o.op ≠ .select cs b)
    (hQ : ∀ c a w, Q (.panic c) (a.put oi.dst v) w → Q (.panic c) a w) (hm : ops[m]? = some om) (hwm : ∃ e ∈ om.after, Region.binds md e = true ∧ e.on = i) :
    ∀ (fuel : Nat) (listed : Array Bool) (a : Act) (w : World),
      (∀ j oj, ops[j]? = some oj → j ≠ i → listed.getD j true = false → (∀ e ∈ oj.after, Region.binds md e = true → e.on ≠ i) → oi.apart ops oj = true) →
      i ∈ Region.ready md ops listed → YieldsIf P ops S oi v a → listed.getD m true = false → S w →
      wpAnyL P md ops Q m S fuel (listed.setIfInBounds i true) (a.put oi.dst v) w → wpAnyL P md ops Q m S (fuel + 1) listed a w := by
  have waits : ∀ {j : Nat} {listed : Array Bool}, i ∈ Region.ready md ops listed → j ∈ Region.ready md ops listed → j ≠ m := by
    intro j listed hr hj hjm
    subst hjm
    obtain ⟨_, oj, hoj, hall⟩ := mem_ready.1 hj
    obtain rfl := Option.some.inj (hoj.symm.trans hm)
    obtain ⟨e, he, hb, heq⟩ := hwm
    have h1 := hall e he hb
    have h0 := (mem_ready.1 hr).1
    rw [heq] at h1
    rcases Nat.lt_or_ge i listed.size with h' | h'
    · simp [h'] at h0 h1; rw [h0] at h1; cases h1
    · simp [Array.getElem?_eq_none h'] at h1
  intro fuel
  induction fuel with
  | zero =>
    intro listed a w _ hr hy hl hS H
    refine ⟨fun h => (by rw [h] at hr; cases hr), fun j hj => ?_⟩
    by_cases hji : j = i
    · subst hji; exact hy.wpOp hi hS ⟨fun _ => hS, H⟩
    · have := ready_mono hj hji
      rw [H.1] at this
      cases this
  | succ fuel ih =>
    intro listed a w hfree hr hy hl hS H
    refine ⟨fun h => (by rw [h] at hr; cases hr), fun j hj => ?_⟩
    by_cases hji : j = i
    · subst hji; exact hy.wpOp hi hS ⟨fun _ => hS, H⟩
    · have h1 := H.2 j (ready_mono hj hji)
      have hjm := waits hr hj
      have him := waits hr hr
      obtain ⟨hjun, oj, hoj, hall⟩ := mem_ready.1 hj
      have hnot : ∀ e ∈ oj.after, Region.binds md e = true → e.on ≠ i := fun e he hb heq => by
        have h1 := hall e he hb
        have h0 := (mem_ready.1 hr).1
        rw [heq] at h1
        rcases Nat.lt_or_ge i listed.size with h' | h'
        · simp [h'] at h0 h1; rw [h0] at h1; cases h1
        · simp [Array.getElem?_eq_none h'] at h1
      have h2 := wpOp_putIf hoj (hfree j oj hoj hji hjun hnot) (fun cs b => hsel i oi cs b hi) (fun cs b => hsel j oj cs b hoj) hQ hy h1
      have hfree' : ∀ k ok, ops[k]? = some ok → k ≠ i → (listed.setIfInBounds j true).getD k true = false →
          (∀ e ∈ ok.after, Region.binds md e = true → e.on ≠ i) → oi.apart ops ok = true := fun k ok hk hki hun hno => by
        refine hfree k ok hk hki ?_ hno
        by_cases hjk : j = k
        · subst hjk; exact hjun
        · rw [getD_set_ne true hjk] at hun; exact hun
      have hl1 : (listed.setIfInBounds j true).getD m true = false := by rw [getD_set_ne true hjm]; exact hl
      have hl2 : ((listed.setIfInBounds i true).setIfInBounds j true).getD m true = false := by rw [getD_set_ne true hjm, getD_set_ne true him]; exact hl
      refine wpOp_mono (fun a' w' h3 => ⟨fun _ => h3.2.1 hl2, ih (listed.setIfInBounds j true) a' w' hfree' (ready_mono hr (Ne.symm hji)) h3.1 hl1 (h3.2.1 hl2) ?_⟩) h2
      rw [Array.setIfInBounds_comm _ _ hji]
      exact h3.2.2
/-- operation m waits for i -/
def waitsFor (md : Region.Mode) (ops : Array Oper) (m i : Nat) : Bool := match ops[m]? with | some o => o.after.toList.any fun e => Region.binds md e && e.on == i | none => false
theorem wpAnyL_take {i : Nat} {oi : Oper} {v : Value} {fuel : Nat} {listed : Array Bool} {a : Act} {w : World} (hi : ops[i]? = some oi)
    (hs : Region.noSelect ops = true) (hf : Region.free md ops listed i = true) (hr : (Region.ready md ops listed).contains i = true) (hwm : waitsFor md ops m i = true) (hl : listed.getD m true = false)
    (hQ : ∀ c a w, Q (.panic c) (a.put oi.dst v) w → Q (.panic c) a w) (hy : YieldsIf P ops S oi v a) (hS : S w)
    (h : wpAnyL P md ops Q m S fuel (listed.setIfInBounds i true) (a.put oi.dst v) w) : wpAnyL P md ops Q m S (fuel + 1) listed a w := by
  unfold waitsFor at hwm
  split at hwm
  · rename_i om hom
    obtain ⟨e, he, hb⟩ := List.any_eq_true.1 hwm
    simp only [Bool.and_eq_true, beq_iff_eq] at hb
    exact wpAnyL_first hi (Region.noSelect_spec hs) hQ hom ⟨e, by simpa using he, hb.1, hb.2⟩ fuel listed a w (Region.free_spec hi hf) (by simpa using hr) hy hl hS h
  · cases hwm
/-- one operation alone may come up -/
theorem wpAnyL_only {i : Nat} {o : Oper} {fuel : Nat} {listed : Array Bool} {a : Act} {w : World} (hr : Region.ready md ops listed = [i]) (ho : ops[i]? = some o) (hg : o.guard = none)
    (h : ∀ K : Act → World → Prop, (∀ a w, ((listed.setIfInBounds i true).getD m true = false → S w) → wpAnyL P md ops Q m S fuel (listed.setIfInBounds i true) a w → K a w) → Oper.wp P o a w K Q) :
    wpAnyL P md ops Q m S (fuel + 1) listed a w := by
  refine ⟨fun h0 => absurd (hr ▸ h0) (by simp), fun j hj => ?_⟩
  rw [hr] at hj
  obtain rfl := List.mem_singleton.1 hj
  unfold wpOp
  simp only [ho]
  have hw : Region.wanted o (yielded ops a.tmps) = true := by unfold Region.wanted; rw [hg]
  rw [if_pos hw]
  exact .inl (h _ fun a w h1 h2 => ⟨h1, h2⟩)
theorem wpAnyL_done {listed : Array Bool} {a : Act} {w : World} (hr : Region.ready md ops listed = []) (h : Q .normal a w) : ∀ fuel, wpAnyL P md ops Q m S fuel listed a w
  | 0 => ⟨hr, h⟩
  | _ + 1 => ⟨fun _ => h, by rw [hr]; simp⟩
theorem wp_region_L {id : Nat} {a : Act} {w : World} (m : Nat) (S : World → Prop) (hm : P.follows .mixedOrders = true) (h : wpAnyL P .any ops Q m S ops.size (Array.replicate ops.size false) a w.drew) : (Code.region id ops true).wp P Q a w :=
  wp_region_any hm (wpAny_of_L _ _ _ _ h)
end
abbrev ops12 : Array Oper := #[{ dst := some 3, op := Op.fieldAddr 31 (Operand.tmp 1) 0, type := 0, pos := "kit.go:433", after := #[], guard := none }, { dst := some 4, op := Op.load 27 (Operand.tmp 3), type := 27, pos := "kit.go:433", after := #[{ on := 0, ground := Ground.data }], guard := none }, { dst := some 5, op := Op.call { callee := Callee.value (Operand.func 24), args := #[Operand.tmp 4], argTypes := #[27] }, type := 27, pos := "kit.go:433", after := #[{ on := 1, ground := Ground.data }], guard := none }, { dst := some 6, op := Op.fieldAddr 31 (Operand.tmp 1) 1, type := 0, pos := "kit.go:433", after := #[], guard := none }, { dst := some 7, op := Op.load 28 (Operand.tmp 6), type := 28, pos := "kit.go:433", after := #[{ on := 3, ground := Ground.data }], guard := none }, { dst := some 8, op := Op.call { callee := Callee.value (Operand.func 25), args := #[Operand.tmp 7], argTypes := #[28] }, type := 28, pos := "kit.go:433", after := #[{ on := 4, ground := Ground.data }, { on := 2, ground := Ground.chain }], guard := none }, { dst := some 9, op := Op.fieldAddr 31 (Operand.tmp 1) 2, type := 0, pos := "kit.go:433", after := #[], guard := none }, { dst := some 10, op := Op.load 29 (Operand.tmp 9), type := 29, pos := "kit.go:433", after := #[{ on := 6, ground := Ground.data }], guard := none }, { dst := some 11, op := Op.call { callee := Callee.value (Operand.func 26), args := #[Operand.tmp 10], argTypes := #[29] }, type := 29, pos := "kit.go:433", after := #[{ on := 7, ground := Ground.data }, { on := 5, ground := Ground.chain }], guard := none }, { dst := some 12, op := Op.fieldAddr 31 (Operand.tmp 1) 0, type := 0, pos := "kit.go:433", after := #[{ on := 0, ground := Ground.phase }, { on := 1, ground := Ground.phase }, { on := 2, ground := Ground.phase }, { on := 3, ground := Ground.phase }, { on := 4, ground := Ground.phase }, { on := 5, ground := .textOnly Departure.lateStoresUnsure }, { on := 6, ground := Ground.phase }, { on := 7, ground := Ground.phase }, { on := 8, ground := .textOnly Departure.lateStoresUnsure }], guard := none }, { dst := none, op := Op.store 27 (Operand.tmp 12) (Operand.tmp 5), type := 0, pos := "kit.go:433", after := #[{ on := 9, ground := Ground.data }, { on := 2, ground := Ground.data }, { on := 8, ground := Ground.chain }, { on := 0, ground := Ground.phase }, { on := 1, ground := Ground.phase }, { on := 2, ground := Ground.phase }, { on := 3, ground := Ground.phase }, { on := 4, ground := Ground.phase }, { on := 5, ground := .textOnly Departure.lateStoresUnsure }, { on := 6, ground := Ground.phase }, { on := 7, ground := Ground.phase }, { on := 8, ground := .textOnly Departure.lateStoresUnsure }], guard := none }, { dst := some 13, op := Op.fieldAddr 31 (Operand.tmp 1) 1, type := 0, pos := "kit.go:433", after := #[{ on := 0, ground := Ground.phase }, { on := 1, ground := Ground.phase }, { on := 2, ground := Ground.phase }, { on := 3, ground := Ground.phase }, { on := 4, ground := Ground.phase }, { on := 5, ground := Ground.phase }, { on := 6, ground := Ground.phase }, { on := 7, ground := Ground.phase }, { on := 8, ground := .textOnly Departure.lateStoresUnsure }, { on := 9, ground := Ground.phase }, { on := 10, ground := Ground.phase }], guard := none }, { dst := none, op := Op.store 28 (Operand.tmp 13) (Operand.tmp 8), type := 0, pos := "kit.go:433", after := #[{ on := 11, ground := Ground.data }, { on := 5, ground := Ground.data }, { on := 10, ground := Ground.chain }, { on := 0, ground := Ground.phase }, { on := 1, ground := Ground.phase }, { on := 2, ground := Ground.phase }, { on := 3, ground := Ground.phase }, { on := 4, ground := Ground.phase }, { on := 5, ground := Ground.phase }, { on := 6, ground := Ground.phase }, { on := 7, ground := Ground.phase }, { on := 8, ground := .textOnly Departure.lateStoresUnsure }, { on := 9, ground := Ground.phase }, { on := 10, ground := Ground.phase }], guard := none }, { dst := some 14, op := Op.fieldAddr 31 (Operand.tmp 1) 2, type := 0, pos := "kit.go:433", after := #[{ on := 0, ground := Ground.phase }, { on := 1, ground := Ground.phase }, { on := 2, ground := Ground.phase }, { on := 3, ground := Ground.phase }, { on := 4, ground := Ground.phase }, { on := 5, ground := Ground.phase }, { on := 6, ground := Ground.phase }, { on := 7, ground := Ground.phase }, { on := 8, ground := Ground.phase }, { on := 9, ground := Ground.phase }, { on := 10, ground := Ground.phase }, { on := 11, ground := Ground.phase }, { on := 12, ground := Ground.phase }], guard := none }, { dst := none, op := Op.store 29 (Operand.tmp 14) (Operand.tmp 11), type := 0, pos := "kit.go:433", after := #[{ on := 13, ground := Ground.data }, { on := 8, ground := Ground.data }, { on := 12, ground := Ground.chain }, { on := 0, ground := Ground.phase }, { on := 1, ground := Ground.phase }, { on := 2, ground := Ground.phase }, { on := 3, ground := Ground.phase }, { on := 4, ground := Ground.phase }, { on := 5, ground := Ground.phase }, { on := 6, ground := Ground.phase }, { on := 7, ground := Ground.phase }, { on := 8, ground := Ground.phase }, { on := 9, ground := Ground.phase }, { on := 10, ground := Ground.phase }, { on := 11, ground := Ground.phase }, { on := 12, ground := Ground.phase }], guard := none }]
theorem run_field1 (b : Nat) (w : World) : (Instr.fieldAt 31 (.pointer (some ⟨b, 0, none⟩)) 1).run Try.prog w = .ok (.pointer (some ⟨b, 16, none⟩)) w := by
  go_simp
theorem run_field2 (b : Nat) (w : World) : (Instr.fieldAt 31 (.pointer (some ⟨b, 0, none⟩)) 2).run Try.prog w = .ok (.pointer (some ⟨b, 17, none⟩)) w := by
  go_simp
theorem yields_f {S : World → Prop} {ops : Array Oper} {o : Oper} {a : Act} {x : Operand} {u : Value} {k : Nat} (hw : Region.wanted o (yielded ops a.tmps) = true) (ho : o.op = .fieldAddr 31 x k) {y : Value} (hx : a.eval x = y)
    (hr : ∀ w, (Instr.fieldAt 31 y k).run Try.prog w = .ok u w) : YieldsIf Try.prog ops S o u a :=
  .inl ⟨hw, fun w _ => by
    unfold execOp
    simp only [ho, hx, Sem.run_bind, hr, Result.andThen_ok, Sem.run_pure]⟩
theorem run_load28 {b o : Nat} {w : World} {v : Value} (h : w.cell? ⟨b, o, none⟩ = some v) : (Instr.loadAt 28 (.pointer (some ⟨b, o, none⟩))).run Try.prog w = .ok v w := by
  go_simp
theorem run_load29 {b o : Nat} {w : World} {v : Value} (h : w.cell? ⟨b, o, none⟩ = some v) : (Instr.loadAt 29 (.pointer (some ⟨b, o, none⟩))).run Try.prog w = .ok v w := by
  go_simp
theorem yields_l {S : World → Prop} {ops : Array Oper} {o : Oper} {a : Act} {x : Operand} {u : Value} {t : TypeId} (hw : Region.wanted o (yielded ops a.tmps) = true) (ho : o.op = .load t x) {y : Value} (hx : a.eval x = y)
    (hr : ∀ w, S w → (Instr.loadAt t y).run Try.prog w = .ok u w) : YieldsIf Try.prog ops S o u a :=
  .inl ⟨hw, fun w hw => by
    unfold execOp
    simp only [ho, hx, Sem.run_bind, hr w hw, Result.andThen_ok, Sem.run_pure]⟩
theorem run_store28 {b o : Nat} {w : World} {v : Value} {p : Option Addr} {n c : Nat} (h : w.cell? ⟨b, o, none⟩ = some v) (hf : w.frozen? ⟨b, o, none⟩ = false) :
    (Instr.storeAt 28 (.pointer (some ⟨b, o, none⟩)) (.slice p n c)).run Try.prog w = .ok () (w.setCell ⟨b, o, none⟩ (.slice p n c)) := by
  go_simp
theorem run_store29 {b o : Nat} {w : World} {v : Value} {p : Option Addr} {n c : Nat} (h : w.cell? ⟨b, o, none⟩ = some v) (hf : w.frozen? ⟨b, o, none⟩ = false) :
    (Instr.storeAt 29 (.pointer (some ⟨b, o, none⟩)) (.slice p n c)).run Try.prog w = .ok () (w.setCell ⟨b, o, none⟩ (.slice p n c)) := by
  go_simp
theorem wp_store_any {P : Program} {o : Oper} {a : Act} {w w' : World} {K : Act → World → Prop} {Q : Exit → Act → World → Prop} (t : TypeId) (x y : Operand) (ho : o.op = .store t x y) {u v : Value} (hx : a.eval x = u) (hy : a.eval y = v)
    (hr : (Instr.storeAt t u v).run P w = .ok () w') (h : K (a.put o.dst undef) w') : o.wp P a w K Q := by
  unfold Oper.wp execOp
  simp only [ho, hx, hy, Sem.run_bind, hr, Result.andThen_ok, Sem.run_pure, Oper.upon]
  exact h
theorem wp_call1 {P : Program} {o : Oper} {a : Act} {w : World} {K : Act → World → Prop} {Q : Exit → Act → World → Prop} (f : FuncId) (t : Tmp) (ty : TypeId) (ho : o.op = .call { callee := .value (.func f), args := #[.tmp t], argTypes := #[ty] }) {v : Value} (hx : a.eval (.tmp t) = v)
    (hcf : ∀ v w, (callFunc f #[v]).run P w = .ok (.enter f #[v]) w)
    {R : Ending → World → Prop} (hc : Calls P f #[v] w R) (h : ∀ e w', R e w' → ∃ u, e = .returned u ∧ K (a.put o.dst u) w') : o.wp P a w K Q := by
  have hx' : a.tmps[t]?.getD undef = v := by simpa [Act.eval] using hx
  unfold Oper.wp execOp
  simp only [ho]
  go_simp
  refine hc.mono fun e w' he => ?_
  obtain ⟨u, rfl, hk⟩ := h e w' he
  exact hk
theorem callFunc24 (v : Value) (w : World) : (callFunc 24 #[v]).run Try.prog w = .ok (.enter 24 #[v]) w := by go_simp
theorem callFunc25 (v : Value) (w : World) : (callFunc 25 #[v]).run Try.prog w = .ok (.enter 25 #[v]) w := by go_simp
theorem callFunc26 (v : Value) (w : World) : (callFunc 26 #[v]).run Try.prog w = .ok (.enter 26 #[v]) w := by go_simp
theorem wp_field {P : Program} {o : Oper} {a : Act} {w : World} {K : Act → World → Prop} {Q : Exit → Act → World → Prop} (t : TypeId) (x : Operand) (i : Nat) (ho : o.op = .fieldAddr t x i) {u v : Value} (hx : a.eval x = v)
    (hr : (Instr.fieldAt t v i).run P w = .ok u w) (h : K (a.put o.dst u) w) : o.wp P a w K Q := by
  unfold Oper.wp execOp
  simp only [ho, hx, Sem.run_bind, hr, Result.andThen_ok, Sem.run_pure, Oper.upon]
  exact h
theorem heap_sets {b k : Nat} (hk : k ≠ b) : ∀ (vs : List Value) (o : Nat) (w : World), (w.setCells b o vs).heap[k]? = w.heap[k]?
  | [], _, _ => rfl
  | v :: r, o, w => (heap_sets hk r (o + 1) _).trans (Below.heap_setCell w ⟨b, o, none⟩ v k hk)
/-- the state behind the region of CopyScript -/
abbrev a12 (a : Act) (b : Nat) (c0 c1 : Value) (pv kv pv' kv' : Value) : Act :=
  (((((((((((a.put (some 3) (.pointer (some ⟨b, 0, none⟩))).put (some 6) (.pointer (some ⟨b, 16, none⟩))).put (some 9) (.pointer (some ⟨b, 17, none⟩))).put (some 4) c0).put (some 7) pv).put (some 10) kv).put (some 5) c1).put (some 12) (.pointer (some ⟨b, 0, none⟩))).put (some 8) pv').put (some 11) kv').put (some 13) (.pointer (some ⟨b, 16, none⟩))).put (some 14) (.pointer (some ⟨b, 17, none⟩))
set_option maxRecDepth 100000 in
set_option maxHeartbeats 1000000 in
theorem region12 {Q : Exit → Act → World → Prop} {a : Act} {w : World} {B b : Nat} {cf : Value → List Value} {cv pv kv : Value} {l q : List Int} {L : List (List OpT)}
    (h1 : a.eval (.tmp 1) = .pointer (some ⟨b, 0, none⟩)) (hw : w.heap[b]? = some (.cells (cf cv ++ [pv, kv]).toArray 31)) (n1 : ∀ v, (cf v).length = 16) (e1 : ∀ p n c, (cf (.slice p n c)).toArray.all (·.oneCell') = true) (hs : a.tmps.size = 16)
    (hB : B ≤ b) (hQ : ∀ c (a : Act) (d : Tmp) v w, Q (.panic c) (a.put (some d) v) w → Q (.panic c) a w)
    (C24 : ∀ W, Below w.heap.size w W → Calls Try.prog 24 #[.agg (cf cv).toArray] W fun e w' => ∃ v', e = .returned (.agg (cf v').toArray) ∧ UintsF W.heap.size w' v' l ∧ Below W.heap.size W w')
    (C25 : ∀ W, Below w.heap.size w W → Calls Try.prog 25 #[pv] W fun e w' => ∃ v', e = .returned v' ∧ ProgsF W.heap.size w' v' L ∧ Below W.heap.size W w')
    (C26 : ∀ W, Below w.heap.size w W → Calls Try.prog 26 #[kv] W fun e w' => ∃ v', e = .returned v' ∧ IntsF W.heap.size w' v' q ∧ Below W.heap.size W w')
    (k : ∀ cv' pv' kv' w', UintsF w.heap.size w' cv' l → ProgsF w.heap.size w' pv' L → IntsF w.heap.size w' kv' q → Below B w w' → w'.rangeAt b 0 (cf cv' ++ [pv', kv']) → (∀ j, j < w.heap.size → j ≠ b → w'.heap[j]? = w.heap[j]?) →
      Q .normal (a12 a b (.agg (cf cv).toArray) (.agg (cf cv').toArray) pv kv pv' kv') w') : (Code.region 1 ops12 true).wp Try.prog Q a w := by
  have hb : b < w.heap.size := (Array.getElem?_eq_some_iff.1 hw).1
  have R0 := range_heap hw
  have hlen : ∀ v, ((cf v ++ [pv, kv]).toArray).size = 18 := fun v => by simp [n1]
  have rc : ∀ {w1 : World}, Below w.heap.size w w1 → w1.rangeAt b 0 (cf cv) ∧ w1.cell? ⟨b, 16, none⟩ = some pv ∧ w1.cell? ⟨b, 17, none⟩ = some kv := fun h => by
    refine ⟨range_sub (fun j v hv => by rw [h.cell hb]; exact R0 j v hv) 16 (by simp [n1]), ?_, ?_⟩
    · rw [h.cell hb]; have := R0 16 pv (by simp [n1]); simpa using this
    · rw [h.cell hb]; have := R0 17 kv (by simp [n1]); simpa using this
  refine wp_region_L 10 (fun w1 => Below w.heap.size w w1) (by kernel_rfl) ?_
  have S0 : Below w.heap.size w w.drew := (Below.refl _ _).drew
  have z : ∀ d, d < 16 → d < a.tmps.size := fun d h => hs ▸ h
  refine wpAnyL_take (i := 0) (v := .pointer (some ⟨b, 0, none⟩)) rfl (by kernel_rfl) (by kernel_rfl) (by kernel_rfl) (by kernel_rfl) rfl (fun c a w h => hQ c a _ _ w h) (yields_f rfl rfl h1 (run_field0 b)) S0 ?_
  refine wpAnyL_take (i := 3) (v := .pointer (some ⟨b, 16, none⟩)) rfl (by kernel_rfl) (by kernel_rfl) (by kernel_rfl) (by kernel_rfl) rfl (fun c a w h => hQ c a _ _ w h) (yields_f rfl rfl ((eval_other (by decide)).trans h1) (run_field1 b)) S0 ?_
  refine wpAnyL_take (i := 6) (v := .pointer (some ⟨b, 17, none⟩)) rfl (by kernel_rfl) (by kernel_rfl) (by kernel_rfl) (by kernel_rfl) rfl (fun c a w h => hQ c a _ _ w h) (yields_f rfl rfl ((eval_other (by decide)).trans ((eval_other (by decide)).trans h1)) (run_field2 b)) S0 ?_
  refine wpAnyL_take (i := 1) (v := .agg (cf cv).toArray) rfl (by kernel_rfl) (by kernel_rfl) (by kernel_rfl) (by kernel_rfl) rfl (fun c a w h => hQ c a _ _ w h)
    (yieldsIf_load_mid rfl 27 (.tmp 3) rfl b 0 ((eval_other (by decide)).trans ((eval_other (by decide)).trans (eval_same (z 3 (by decide))))) (cf cv) _ (fun _ h => (rc h).1) Try.underlying27 rfl (by rw [n1]; exact Try.size27)) S0 ?_
  refine wpAnyL_take (i := 4) (v := pv) rfl (by kernel_rfl) (by kernel_rfl) (by kernel_rfl) (by kernel_rfl) rfl (fun c a w h => hQ c a _ _ w h)
    (yields_l rfl rfl ((eval_other (by decide)).trans ((eval_other (by decide)).trans (eval_same (by rw [size_put]; exact z 6 (by decide))))) (fun _ h => run_load28 (rc h).2.1)) S0 ?_
  refine wpAnyL_take (i := 7) (v := kv) rfl (by kernel_rfl) (by kernel_rfl) (by kernel_rfl) (by kernel_rfl) rfl (fun c a w h => hQ c a _ _ w h)
    (yields_l rfl rfl ((eval_other (by decide)).trans ((eval_other (by decide)).trans (eval_same (by rw [size_put, size_put]; exact z 9 (by decide))))) (fun _ h => run_load29 (rc h).2.2)) S0 ?_
  have E4 : ((((((a.put (some 3) (.pointer (some ⟨b, 0, none⟩))).put (some 6) (.pointer (some ⟨b, 16, none⟩))).put (some 9) (.pointer (some ⟨b, 17, none⟩))).put (some 4) (.agg (cf cv).toArray)).put (some 7) pv).put (some 10) kv).eval (.tmp 4) = .agg (cf cv).toArray :=
    (eval_other (by decide)).trans ((eval_other (by decide)).trans (eval_same (by rw [size_put, size_put, size_put]; exact z 4 (by decide))))
  have E7 : ((((((a.put (some 3) (.pointer (some ⟨b, 0, none⟩))).put (some 6) (.pointer (some ⟨b, 16, none⟩))).put (some 9) (.pointer (some ⟨b, 17, none⟩))).put (some 4) (.agg (cf cv).toArray)).put (some 7) pv).put (some 10) kv).eval (.tmp 7) = pv :=
    (eval_other (by decide)).trans (eval_same (by rw [size_put, size_put, size_put, size_put]; exact z 7 (by decide)))
  have E10 : ((((((a.put (some 3) (.pointer (some ⟨b, 0, none⟩))).put (some 6) (.pointer (some ⟨b, 16, none⟩))).put (some 9) (.pointer (some ⟨b, 17, none⟩))).put (some 4) (.agg (cf cv).toArray)).put (some 7) pv).put (some 10) kv).eval (.tmp 10) = kv :=
    eval_same (by rw [size_put, size_put, size_put, size_put, size_put]; exact z 10 (by decide))
  have E1 : ((((((a.put (some 3) (.pointer (some ⟨b, 0, none⟩))).put (some 6) (.pointer (some ⟨b, 16, none⟩))).put (some 9) (.pointer (some ⟨b, 17, none⟩))).put (some 4) (.agg (cf cv).toArray)).put (some 7) pv).put (some 10) kv).eval (.tmp 1) = .pointer (some ⟨b, 0, none⟩) :=
    (eval_other (by decide)).trans ((eval_other (by decide)).trans ((eval_other (by decide)).trans ((eval_other (by decide)).trans ((eval_other (by decide)).trans ((eval_other (by decide)).trans h1)))))
  have hs6 : ((((((a.put (some 3) (.pointer (some ⟨b, 0, none⟩))).put (some 6) (.pointer (some ⟨b, 16, none⟩))).put (some 9) (.pointer (some ⟨b, 17, none⟩))).put (some 4) (.agg (cf cv).toArray)).put (some 7) pv).put (some 10) kv).tmps.size = 16 := by
    rw [size_put, size_put, size_put, size_put, size_put, size_put]; exact hs
  show wpAnyL Try.prog .any ops12 Q 10 _ _ _ ((((((a.put (some 3) (.pointer (some ⟨b, 0, none⟩))).put (some 6) (.pointer (some ⟨b, 16, none⟩))).put (some 9) (.pointer (some ⟨b, 17, none⟩))).put (some 4) (.agg (cf cv).toArray)).put (some 7) pv).put (some 10) kv) _
  unfold a12 at k
  generalize ((((((a.put (some 3) (.pointer (some ⟨b, 0, none⟩))).put (some 6) (.pointer (some ⟨b, 16, none⟩))).put (some 9) (.pointer (some ⟨b, 17, none⟩))).put (some 4) (.agg (cf cv).toArray)).put (some 7) pv).put (some 10) kv) = a6 at *
  have zz : ∀ d, d < 16 → d < a6.tmps.size := fun d h => hs6 ▸ h
  refine wpAnyL_only (i := 2) (by kernel_rfl) rfl rfl fun K hK => ?_
  refine wp_call1 24 4 27 rfl E4 callFunc24 (C24 _ S0) ?_
  rintro e w1 ⟨cv', rfl, f1, b1⟩
  refine ⟨_, rfl, hK _ _ (fun _ => ?_) ?_⟩
  · exact S0.trans b1
  have S1 : Below w.heap.size w w1 := S0.trans b1
  refine wpAnyL_take (i := 9) (v := .pointer (some ⟨b, 0, none⟩)) rfl (by kernel_rfl) (by kernel_rfl) (by kernel_rfl) (by kernel_rfl) rfl (fun c a w h => hQ c a _ _ w h) (yields_f rfl rfl ((eval_other (by decide)).trans E1) (run_field0 b)) S1 ?_
  refine wpAnyL_only (i := 5) (by kernel_rfl) rfl rfl fun K hK => ?_
  refine wp_call1 25 7 28 rfl ((eval_other (by decide)).trans ((eval_other (by decide)).trans E7)) callFunc25 (C25 _ S1) ?_
  rintro e w2 ⟨pv', rfl, f2, b2⟩
  have S2 : Below w.heap.size w w2 := S1.trans (b2.mono S1.size)
  refine ⟨_, rfl, hK _ _ (fun _ => S2) ?_⟩
  refine wpAnyL_only (i := 8) (by kernel_rfl) rfl rfl fun K hK => ?_
  refine wp_call1 26 10 29 rfl ((eval_other (by decide)).trans ((eval_other (by decide)).trans ((eval_other (by decide)).trans E10))) callFunc26 (C26 _ S2) ?_
  rintro e w3 ⟨kv', rfl, f3, b3⟩
  have S3 : Below w.heap.size w w3 := S2.trans (b3.mono S2.size)
  refine ⟨_, rfl, hK _ _ (fun _ => S3) ?_⟩
  -- what was copied reads so still
  have f1' : UintsF w.heap.size w3 cv' l := (f1.ext fun _ _ _ _ => IntR.ext ((Ext.below b2).trans (Ext.below b3))).mono S0.size
  have f2' : ProgsF w.heap.size w3 pv' L := by
    have := f2.ext (w' := w3) fun _ _ _ hb => ProgRF.fext (FExt.of (Ext.below b3)) hb
    obtain ⟨⟨p, c, e, g1, g2, g3⟩, g4⟩ := this.mono S1.size
    exact ⟨⟨p, c, e, g1, g2, fun hl => let ⟨b, o, e', hx⟩ := g3 hl; ⟨b, o, e', fun i x hi => (hx i x hi).mono S1.size⟩⟩, g4⟩
  have f3' : IntsF w.heap.size w3 kv' q := f3.mono S2.size
  obtain ⟨p1, c1, rfl⟩ := f1.shape
  obtain ⟨p2, c2, rfl⟩ := f2.shape
  obtain ⟨p3, c3, rfl⟩ := f3.shape
  have z8 : a6.tmps.size = 16 := hs6
  have F5 : ((((a6.put (some 5) (.agg (cf (.slice p1 l.length c1)).toArray)).put (some 12) (.pointer (some ⟨b, 0, none⟩))).put (some 8) (.slice p2 L.length c2)).put (some 11) (.slice p3 q.length c3)).eval (.tmp 5) = .agg (cf (.slice p1 l.length c1)).toArray :=
    (eval_other (by decide)).trans ((eval_other (by decide)).trans ((eval_other (by decide)).trans (eval_same (zz 5 (by decide)))))
  have F12 : ((((a6.put (some 5) (.agg (cf (.slice p1 l.length c1)).toArray)).put (some 12) (.pointer (some ⟨b, 0, none⟩))).put (some 8) (.slice p2 L.length c2)).put (some 11) (.slice p3 q.length c3)).eval (.tmp 12) = .pointer (some ⟨b, 0, none⟩) :=
    (eval_other (by decide)).trans ((eval_other (by decide)).trans (eval_same (by rw [size_put]; exact zz 12 (by decide))))
  have F8 : ((((a6.put (some 5) (.agg (cf (.slice p1 l.length c1)).toArray)).put (some 12) (.pointer (some ⟨b, 0, none⟩))).put (some 8) (.slice p2 L.length c2)).put (some 11) (.slice p3 q.length c3)).eval (.tmp 8) = .slice p2 L.length c2 :=
    (eval_other (by decide)).trans (eval_same (by rw [size_put, size_put]; exact zz 8 (by decide)))
  have F11 : ((((a6.put (some 5) (.agg (cf (.slice p1 l.length c1)).toArray)).put (some 12) (.pointer (some ⟨b, 0, none⟩))).put (some 8) (.slice p2 L.length c2)).put (some 11) (.slice p3 q.length c3)).eval (.tmp 11) = .slice p3 q.length c3 :=
    eval_same (by rw [size_put, size_put, size_put]; exact zz 11 (by decide))
  have F1 : ((((a6.put (some 5) (.agg (cf (.slice p1 l.length c1)).toArray)).put (some 12) (.pointer (some ⟨b, 0, none⟩))).put (some 8) (.slice p2 L.length c2)).put (some 11) (.slice p3 q.length c3)).eval (.tmp 1) = .pointer (some ⟨b, 0, none⟩) :=
    (eval_other (by decide)).trans ((eval_other (by decide)).trans ((eval_other (by decide)).trans ((eval_other (by decide)).trans E1)))
  have hs10 : ((((a6.put (some 5) (.agg (cf (.slice p1 l.length c1)).toArray)).put (some 12) (.pointer (some ⟨b, 0, none⟩))).put (some 8) (.slice p2 L.length c2)).put (some 11) (.slice p3 q.length c3)).tmps.size = 16 := by rw [size_put, size_put, size_put, size_put]; exact hs6
  have kk := fun w' => k (.slice p1 l.length c1) (.slice p2 L.length c2) (.slice p3 q.length c3) w'
  show wpAnyL Try.prog .any ops12 Q 10 _ _ _ ((((a6.put (some 5) (.agg (cf (.slice p1 l.length c1)).toArray)).put (some 12) (.pointer (some ⟨b, 0, none⟩))).put (some 8) (.slice p2 L.length c2)).put (some 11) (.slice p3 q.length c3)) _
  generalize ((((a6.put (some 5) (.agg (cf (.slice p1 l.length c1)).toArray)).put (some 12) (.pointer (some ⟨b, 0, none⟩))).put (some 8) (.slice p2 L.length c2)).put (some 11) (.slice p3 q.length c3)) = a10 at *
  have n16 : (cf (.slice p1 l.length c1)).toArray.size = 16 := by simp [n1]
  have hw3 : w3.heap[b]? = some (.cells (cf cv ++ [pv, kv]).toArray 31) := (S3.block b hb).trans hw
  have r3 := range_heap hw3
  have t3 := there_heap hw3 0 18 (by simp [n1])
  have fz : ∀ j, w3.frozen? ⟨b, j, none⟩ = false := fun j => frozen_of_row w3 b j _ _ hw3
  refine wpAnyL_only (i := 10) (by kernel_rfl) rfl rfl fun K hK => ?_
  refine wp_store_mid 27 (.tmp 12) (.tmp 5) rfl b 0 (cf (.slice p1 l.length c1)).toArray F12 F5 (fun j hj => t3 j (by rw [n16] at hj; omega)) (by rw [n16]; exact Try.size27) (e1 _ _ _) ?_
  refine hK _ _ (fun h => absurd h (by decide)) ?_
  have r4 := range_splice r3 0 (cf (.slice p1 l.length c1)) (by simp [n1])
  refine wpAnyL_only (i := 11) (by kernel_rfl) rfl rfl fun K hK => ?_
  refine wp_field 31 (.tmp 1) 1 rfl F1 (run_field1 b _) ?_
  refine hK _ _ (fun h => absurd h (by decide)) ?_
  refine wpAnyL_only (i := 12) (by kernel_rfl) rfl rfl fun K hK => ?_
  refine wp_store_any 28 (.tmp 13) (.tmp 8) rfl (eval_same (by simp only [size_put, hs10]; decide)) ((eval_other (by decide)).trans F8) (run_store28 (v := pv) (by have := r4 16 pv (by simp [n1]); simpa using this) (by rw [World.frozen?_setCells]; exact fz 16)) ?_
  refine hK _ _ (fun h => absurd h (by decide)) ?_
  have r5 := range_splice r4 16 [.slice p2 L.length c2] (by simp [n1])
  refine wpAnyL_only (i := 13) (by kernel_rfl) rfl rfl fun K hK => ?_
  refine wp_field 31 (.tmp 1) 2 rfl ((eval_other (by decide)).trans F1) (run_field2 b _) ?_
  refine hK _ _ (fun h => absurd h (by decide)) ?_
  refine wpAnyL_only (i := 14) (by kernel_rfl) rfl rfl fun K hK => ?_
  refine wp_store_any 29 (.tmp 14) (.tmp 11) rfl (eval_same (by simp only [size_put, hs10]; decide)) ((eval_other (by decide)).trans ((eval_other (by decide)).trans F11))
    (run_store29 (v := kv) (by have h := r5 17 kv (by simp [n1, List.take_append, List.drop_append]); rw [Nat.zero_add] at h; exact h) (by show (World.setCells _ b 16 [_]).frozen? _ = _; rw [World.frozen?_setCells, World.frozen?_setCells]; exact fz 17)) ?_
  refine hK _ _ (fun h => absurd h (by decide)) ?_
  have r6 := range_splice r5 17 [.slice p3 q.length c3] (by simp [n1])
  refine wpAnyL_done (by kernel_rfl) ?_ _
  have FE : FExt w.heap.size w3 ((((w3.setCells b 0 (cf (.slice p1 l.length c1))).setCells b 16 [.slice p2 L.length c2])).setCells b 17 [.slice p3 q.length c3]) := FExt.setCells hb _ _ (FExt.setCells hb _ _ (FExt.setCells hb _ _ (FExt.refl _ _)))
  refine kk _ (f1'.ext fun _ _ _ h => IntR.fext FE h) (f2'.ext fun _ _ _ h => ProgRF.fext FE h) (f3'.ext fun _ _ _ h => IntR.fext FE h) ?_ ?_ ?_
  · exact below_sets hB [.slice p3 q.length c3] 17 (below_sets hB [.slice p2 L.length c2] 16 (below_sets hB _ 0 (S3.mono (by omega))))
  · have e : List.take 17 (List.take 16 (List.take 0 (cf cv ++ [pv, kv]).toArray.toList ++ cf (.slice p1 l.length c1) ++ List.drop (0 + (cf (.slice p1 l.length c1)).length) (cf cv ++ [pv, kv]).toArray.toList) ++ [.slice p2 L.length c2] ++
        List.drop (16 + [Value.slice p2 L.length c2].length) (List.take 0 (cf cv ++ [pv, kv]).toArray.toList ++ cf (.slice p1 l.length c1) ++ List.drop (0 + (cf (.slice p1 l.length c1)).length) (cf cv ++ [pv, kv]).toArray.toList)) ++ [.slice p3 q.length c3] ++
        List.drop (17 + [Value.slice p3 q.length c3].length) (List.take 16 (List.take 0 (cf cv ++ [pv, kv]).toArray.toList ++ cf (.slice p1 l.length c1) ++ List.drop (0 + (cf (.slice p1 l.length c1)).length) (cf cv ++ [pv, kv]).toArray.toList) ++ [.slice p2 L.length c2] ++
        List.drop (16 + [Value.slice p2 L.length c2].length) (List.take 0 (cf cv ++ [pv, kv]).toArray.toList ++ cf (.slice p1 l.length c1) ++ List.drop (0 + (cf (.slice p1 l.length c1)).length) (cf cv ++ [pv, kv]).toArray.toList)) = cf (.slice p1 l.length c1) ++ [.slice p2 L.length c2, .slice p3 q.length c3] := by
      have q17 : List.take 17 (cf (.slice p1 l.length c1)) = cf (.slice p1 l.length c1) := List.take_of_length_le (by rw [n1]; decide)
      have d17 : List.drop 17 (cf (.slice p1 l.length c1)) = [] := List.drop_eq_nil_of_le (by rw [n1]; decide)
      have d18 : List.drop 18 (cf (.slice p1 l.length c1)) = [] := List.drop_eq_nil_of_le (by rw [n1]; decide)
      simp [n1, List.take_append, List.drop_append, q17, d17, d18]
    rw [e] at r6
    exact r6
  · intro j hj hjb
    have h1 := heap_sets hjb [.slice p3 q.length c3] 17 (((w3.setCells b 0 (cf (.slice p1 l.length c1))).setCells b 16 [.slice p2 L.length c2]))
    have h2 := heap_sets hjb [.slice p2 L.length c2] 16 (w3.setCells b 0 (cf (.slice p1 l.length c1)))
    have h3 := heap_sets hjb (cf (.slice p1 l.length c1)) 0 w3
    exact h1.trans (h2.trans (h3.trans (S3.block j hj)))
end Go.Proofs.Ytnmlfhogolonoaa
