/-
  A law of one region of Equal of package script, whatever order is drawn: two structs are copied into new blocks.
-/
import Derived.Test.YtnmlfhogolonoaaSeI
import Derived.Deep.RegionHeld
set_option linter.unusedVariables false
set_option linter.unusedSimpArgs false
namespace Go.Proofs.Ytnmlfhogolonoaa
open Go.RowKit
theorem range_sub {w : World} {b : Nat} {cs : List Value} (h : w.rangeAt b 0 cs) (n : Nat) {ds : List Value} (e : ds = cs.take n) : w.rangeAt b 0 ds := fun j v hv => by
  subst e
  rw [List.getElem?_take] at hv
  split at hv
  · exact h j v hv
  · cases hv
theorem eval_same {a : Act} {d : Tmp} {v : Value} (h : d < a.tmps.size) : (a.put (some d) v).eval (.tmp d) = v := by
  simp [Act.put, Act.eval, h]
theorem size_put (a : Act) (d : Option Tmp) (v : Value) : (a.put d v).tmps.size = a.tmps.size := by
  cases d <;> simp [Act.put]
theorem eval_other {a : Act} {d e : Tmp} {v : Value} (h : e ≠ d) : (a.put (some d) v).eval (.tmp e) = a.eval (.tmp e) := Act.eval_put (fun d' hd => by cases hd; simpa using h)
abbrev ops20 : Array Oper := #[{ dst := some 8, op := Op.fieldAddr 31 (Operand.tmp 2) 0, type := 0, pos := "script.go:315", after := #[], guard := none }, { dst := some 9, op := Op.load 27 (Operand.tmp 8), type := 27, pos := "script.go:315", after := #[{ on := 0, ground := Ground.data }], guard := none }, { dst := some 10, op := Op.fieldAddr 31 (Operand.tmp 3) 0, type := 0, pos := "script.go:315", after := #[{ on := 6, ground := .gcOnly Departure.lateStores }], guard := none }, { dst := some 11, op := Op.load 27 (Operand.tmp 10), type := 27, pos := "script.go:315", after := #[{ on := 2, ground := Ground.data }, { on := 6, ground := .gcOnly Departure.lateStores }], guard := none }, { dst := some 5, op := Op.alloc 27, type := 0, pos := "script.go:315", after := #[], guard := none }, { dst := some 6, op := Op.alloc 27, type := 0, pos := "script.go:315", after := #[], guard := none }, { dst := none, op := Op.store 27 (Operand.tmp 5) (Operand.tmp 9), type := 0, pos := "script.go:315", after := #[{ on := 4, ground := Ground.data }, { on := 1, ground := Ground.data }, { on := 0, ground := Ground.phase }, { on := 1, ground := Ground.phase }, { on := 2, ground := .textOnly Departure.lateStores }, { on := 3, ground := .textOnly Departure.lateStores }, { on := 4, ground := Ground.phase }, { on := 5, ground := Ground.phase }], guard := none }, { dst := none, op := Op.store 27 (Operand.tmp 6) (Operand.tmp 11), type := 0, pos := "script.go:315", after := #[{ on := 5, ground := Ground.data }, { on := 3, ground := Ground.data }, { on := 6, ground := Ground.chain }, { on := 0, ground := Ground.phase }, { on := 1, ground := Ground.phase }, { on := 2, ground := Ground.phase }, { on := 3, ground := Ground.phase }, { on := 4, ground := Ground.phase }, { on := 5, ground := Ground.phase }, { on := 6, ground := Ground.phase }], guard := none }]
abbrev zero27 : Obj := .cells #[.int .i64 0, .int .i64 0, .int .u8 0, .int .i64 0, .int .u8 0, .int .i64 0, .slice none 0 0, .int .i64 0, .int .i64 0, .int .i64 0, .int .i64 0, .int .i64 0, .int .i64 0, .int .i64 0, .int .i64 0, .int .i64 0] 27
theorem wp_alloc27 {o : Oper} {a : Act} {w : World} {K : Act → World → Prop} {Q : Exit → Act → World → Prop} (ho : o.op = .alloc 27) (h : K (a.put o.dst (.pointer (some ⟨w.heap.size, 0, none⟩))) (w.alloc zero27)) : o.wp Try.prog a w K Q := by
  unfold Oper.wp execOp
  simp only [ho]
  have e : (Instr.alloc 27 true (.tuple #[])).run Try.prog w = .ok (.pointer (some ⟨w.heap.size, 0, none⟩)) (w.alloc zero27) := by go_simp
  simp only [Sem.run_bind, e, Result.andThen_ok, Sem.run_pure, Oper.upon]
  exact h
theorem run_field0 (b : Nat) (w : World) : (Instr.fieldAt 31 (.pointer (some ⟨b, 0, none⟩)) 0).run Try.prog w = .ok (.pointer (some ⟨b, 0, none⟩)) w := by
  go_simp
theorem yields_field {S : World → Prop} {ops : Array Oper} {o : Oper} {a : Act} {x : Operand} {b : Nat} (hw : Region.wanted o (yielded ops a.tmps) = true) (ho : o.op = .fieldAddr 31 x 0) (hx : a.eval x = .pointer (some ⟨b, 0, none⟩)) :
    YieldsIf Try.prog ops S o (.pointer (some ⟨b, 0, none⟩)) a :=
  .inl ⟨hw, fun w _ => by
    unfold execOp
    simp only [ho, hx, Sem.run_bind, run_field0, Result.andThen_ok, Sem.run_pure]⟩
/-- the state behind the region -/
abbrev a20 (a : Act) (b1 b2 p q : Nat) (c1 c2 : List Value) : Act :=
  (((((a.put (some 8) (.pointer (some ⟨b1, 0, none⟩))).put (some 10) (.pointer (some ⟨b2, 0, none⟩))).put (some 9) (.agg c1.toArray)).put (some 11) (.agg c2.toArray)).put (some 5) (.pointer (some ⟨p, 0, none⟩))).put (some 6) (.pointer (some ⟨q, 0, none⟩))
set_option maxRecDepth 100000 in
set_option maxHeartbeats 1000000 in
theorem region20 {Q : Exit → Act → World → Prop} {a : Act} {w : World} {b1 b2 : Nat} {c1 c2 : List Value}
    (h2 : a.eval (.tmp 2) = .pointer (some ⟨b1, 0, none⟩)) (h3 : a.eval (.tmp 3) = .pointer (some ⟨b2, 0, none⟩)) (r1 : w.rangeAt b1 0 c1) (r2 : w.rangeAt b2 0 c2) (n1 : c1.length = 16) (n2 : c2.length = 16)
    (e1 : c1.toArray.all (·.oneCell') = true) (e2 : c2.toArray.all (·.oneCell') = true) (hs : a.tmps.size = 109) (k1 : b1 < w.heap.size) (k2 : b2 < w.heap.size)
    (hQ : ∀ c (a : Act) (d : Tmp) v w, Q (.panic c) (a.put (some d) v) w → Q (.panic c) a w)
    (k : ∀ p q w', w.heap.size ≤ p → w.heap.size ≤ q → Below w.heap.size w w' → w'.rangeAt p 0 c1 → w'.rangeAt q 0 c2 → Q .normal (a20 a b1 b2 p q c1 c2) w') : (Code.region 1 ops20 true).wp Try.prog Q a w := by
  refine wp_region_held_drew (S := fun w' => w'.rangeAt b1 0 c1 ∧ w'.rangeAt b2 0 c2) (by kernel_rfl) ⟨by simpa using r1, by simpa using r2⟩ fun S0 => ?_
  have z : ∀ d, d < 109 → d < a.tmps.size := fun d h => hs ▸ h
  refine wpAnyH_take (i := 0) (v := .pointer (some ⟨b1, 0, none⟩)) rfl (by kernel_rfl) (by kernel_rfl) (by kernel_rfl) (fun c a w h => hQ c a _ _ w h) (yields_field rfl rfl h2) S0 ?_
  refine wpAnyH_take (i := 2) (v := .pointer (some ⟨b2, 0, none⟩)) rfl (by kernel_rfl) (by kernel_rfl) (by kernel_rfl) (fun c a w h => hQ c a _ _ w h) (yields_field rfl rfl ((eval_other (by decide)).trans h3)) S0 ?_
  refine wpAnyH_take (i := 1) (v := .agg c1.toArray) rfl (by kernel_rfl) (by kernel_rfl) (by kernel_rfl) (fun c a w h => hQ c a _ _ w h)
    (yieldsIf_load_mid rfl 27 (.tmp 8) rfl b1 0 ((eval_other (by decide)).trans (eval_same (z 8 (by decide)))) c1 _ (fun _ h => h.1) Try.underlying27 rfl (by rw [n1]; exact Try.size27)) S0 ?_
  refine wpAnyH_take (i := 3) (v := .agg c2.toArray) rfl (by kernel_rfl) (by kernel_rfl) (by kernel_rfl) (fun c a w h => hQ c a _ _ w h)
    (yieldsIf_load_mid rfl 27 (.tmp 10) rfl b2 0 ((eval_other (by decide)).trans (eval_same (by rw [size_put]; exact z 10 (by decide)))) c2 _ (fun _ h => h.2) Try.underlying27 rfl (by rw [n2]; exact Try.size27)) S0 ?_
  have v9 : (((((a.put (some 8) (.pointer (some ⟨b1, 0, none⟩))).put (some 10) (.pointer (some ⟨b2, 0, none⟩))).put (some 9) (.agg c1.toArray)).put (some 11) (.agg c2.toArray))).eval (.tmp 9) = .agg c1.toArray :=
    (eval_other (by decide)).trans (eval_same (by rw [size_put, size_put]; exact z 9 (by decide)))
  have v11 : (((((a.put (some 8) (.pointer (some ⟨b1, 0, none⟩))).put (some 10) (.pointer (some ⟨b2, 0, none⟩))).put (some 9) (.agg c1.toArray)).put (some 11) (.agg c2.toArray))).eval (.tmp 11) = .agg c2.toArray :=
    eval_same (by rw [size_put, size_put, size_put]; exact z 11 (by decide))
  show wpAnyH Try.prog .any ops20 Q _ _ _ ((((a.put (some 8) (.pointer (some ⟨b1, 0, none⟩))).put (some 10) (.pointer (some ⟨b2, 0, none⟩))).put (some 9) (.agg c1.toArray)).put (some 11) (.agg c2.toArray)) _
  have hk := fun p q w' x1 x2 x3 x4 x5 => k p q w' x1 x2 x3 x4 x5
  unfold a20 at hk
  have hs4 : ((((a.put (some 8) (.pointer (some ⟨b1, 0, none⟩))).put (some 10) (.pointer (some ⟨b2, 0, none⟩))).put (some 9) (.agg c1.toArray)).put (some 11) (.agg c2.toArray)).tmps.size = 109 := by rw [size_put, size_put, size_put, size_put]; exact hs
  generalize ((((a.put (some 8) (.pointer (some ⟨b1, 0, none⟩))).put (some 10) (.pointer (some ⟨b2, 0, none⟩))).put (some 9) (.agg c1.toArray)).put (some 11) (.agg c2.toArray)) = a4 at *
  have S1 : ∀ {w1 : World}, Below w.heap.size w w1 → w1.rangeAt b1 0 c1 ∧ w1.rangeAt b2 0 c2 := fun hb => ⟨fun j v h => by rw [hb.cell k1]; exact r1 j v h, fun j v h => by rw [hb.cell k2]; exact r2 j v h⟩
  have B1 : Below w.heap.size w (w.drew.alloc zero27) := (Below.refl _ _).drew.alloc (Nat.le_refl _) _
  have B2 : Below w.heap.size w ((w.drew.alloc zero27).alloc zero27) := below_al1 B1 _
  have g1 := heap_alloc2_old w.drew zero27 zero27
  have g2 := heap_alloc2_new w.drew zero27 zero27
  have e1' : (#[Value.int .i64 0, .int .i64 0, .int .u8 0, .int .i64 0, .int .u8 0, .int .i64 0, .slice none 0 0, .int .i64 0, .int .i64 0, .int .i64 0, .int .i64 0, .int .i64 0, .int .i64 0, .int .i64 0, .int .i64 0, .int .i64 0] : Array Value).size = 16 := rfl
  -- the two stores, whichever block came first
  have tail : ∀ (p q : Nat) (a6 : Act), w.heap.size ≤ p → w.heap.size ≤ q → p ≠ q → ((w.drew.alloc zero27).alloc zero27).there p 0 16 → ((w.drew.alloc zero27).alloc zero27).there q 0 16 →
      a6 = (a4.put (some 5) (.pointer (some ⟨p, 0, none⟩))).put (some 6) (.pointer (some ⟨q, 0, none⟩)) →
      wpAnyH Try.prog .any ops20 Q (fun w' => w'.rangeAt b1 0 c1 ∧ w'.rangeAt b2 0 c2) 2 #[true, true, true, true, true, true, false, false] a6 ((w.drew.alloc zero27).alloc zero27) := by
    intro p q a6 hp hq hpq tp tq ha
    have u5 : a6.eval (.tmp 5) = .pointer (some ⟨p, 0, none⟩) := by rw [ha]; exact (eval_other (by decide)).trans (eval_same (by rw [hs4]; decide))
    have u6 : a6.eval (.tmp 6) = .pointer (some ⟨q, 0, none⟩) := by rw [ha]; exact eval_same (by rw [size_put, hs4]; decide)
    have u9 : a6.eval (.tmp 9) = .agg c1.toArray := by rw [ha]; exact (eval_other (by decide)).trans ((eval_other (by decide)).trans v9)
    have u11 : a6.eval (.tmp 11) = .agg c2.toArray := by rw [ha]; exact (eval_other (by decide)).trans ((eval_other (by decide)).trans v11)
    have l1 : c1.toArray.size = 16 := by simpa using n1
    have l2 : c2.toArray.size = 16 := by simpa using n2
    have B3 := below_sets (b := p) hp c1.toArray.toList 0 B2
    have B4 := below_sets (b := q) hq c2.toArray.toList 0 B3
    refine wpAnyH_ready (rs := [6]) (by kernel_rfl) (by simp) ?_
    refine AllReadyH.cons rfl (fun K hK => ?_) AllReadyH.nil
    refine wp_store_mid 27 (.tmp 5) (.tmp 9) rfl p 0 c1.toArray u5 u9 (by rw [l1]; exact tp) (by rw [l1]; exact Try.size27) e1 ?_
    refine hK.out _ _ (S1 B3) fun _ => ?_
    refine wpAnyH_ready (rs := [7]) (by kernel_rfl) (by simp) ?_
    refine AllReadyH.cons rfl (fun K hK => ?_) AllReadyH.nil
    refine wp_store_mid 27 (.tmp 6) (.tmp 11) rfl q 0 c2.toArray u6 u11 (by rw [l2]; exact World.there_setCells tq _ _ _) (by rw [l2]; exact Try.size27) e2 ?_
    refine hK.out _ _ (S1 B4) fun _ => ?_
    refine wpAnyH_done (by kernel_rfl) ?_ _
    have := hk p q _ hp hq B4 (World.rangeAt_setCells_apart (World.rangeAt_setCells_same _ p 0 c1 (by rw [n1]; exact tp)) q 0 c2 (.inl hpq)) (World.rangeAt_setCells_same _ q 0 c2 (by rw [n2]; exact World.there_setCells tq _ _ _))
    rw [← ha] at this
    exact this
  have t1 := there_heap g1 0 16 (by simp)
  have t2 := there_heap g2 0 16 (by simp)
  have hz : w.drew.heap.size = w.heap.size := rfl
  rw [hz] at t1 t2
  refine wpAnyH_ready (rs := [4, 5]) (by kernel_rfl) (by simp) ?_
  refine AllReadyH.cons rfl (fun K hK => ?_) (AllReadyH.cons rfl (fun K hK => ?_) AllReadyH.nil)
  · refine wp_alloc27 rfl ?_
    refine hK.out _ _ (S1 B1) fun _ => ?_
    refine wpAnyH_ready (rs := [5]) (by kernel_rfl) (by simp) ?_
    refine AllReadyH.cons rfl (fun K hK => ?_) AllReadyH.nil
    refine wp_alloc27 rfl ?_
    refine hK.out _ _ (S1 B2) fun _ => ?_
    exact tail w.heap.size (w.heap.size + 1) _ (Nat.le_refl _) (by omega) (by omega) t1 t2 (by simp)
  · refine wp_alloc27 rfl ?_
    refine hK.out _ _ (S1 B1) fun _ => ?_
    refine wpAnyH_ready (rs := [4]) (by kernel_rfl) (by simp) ?_
    refine AllReadyH.cons rfl (fun K hK => ?_) AllReadyH.nil
    refine wp_alloc27 rfl ?_
    refine hK.out _ _ (S1 B2) fun _ => ?_
    exact tail (w.heap.size + 1) w.heap.size _ (by omega) (Nat.le_refl _) (by omega) t2 t1 (by rw [Act.put_comm]; simp; intro d hd; cases hd; simp)
end Go.Proofs.Ytnmlfhogolonoaa
