/-
  The region of the law ScriptEquals that calls both functions, in whatever order is drawn.
-/
import Derived.Test.YtnmlfhogolonoaaSeK
set_option linter.unusedVariables false
set_option linter.unusedSimpArgs false
namespace Go.Proofs.Ytnmlfhogolonoaa
open Go.RowKit
theorem wanted_of {ops : Array Oper} {o : Oper} {a : Act} {j d : Nat} (hg : o.guard = some (j, true)) (hd : (ops[j]?).bind (·.dst) = some d) (hx : a.eval (.tmp d) = .bool true) : Region.wanted o (yielded ops a.tmps) = true := by
  have hx' : a.tmps[d]?.getD undef = .bool true := by simpa [Act.eval] using hx
  have hy : yielded ops a.tmps j = some true := by
    unfold yielded
    rw [hd]
    cases h : a.tmps[d]? with
    | none => rw [h] at hx'; cases hx'
    | some v => rw [h] at hx'; simp only [Option.getD_some] at hx'; subst hx'; simp [h]
  unfold Region.wanted
  rw [hg]
  show (yielded ops a.tmps j == some true) = true
  rw [hy]
  rfl
theorem wpAnyL_only' {P : Program} {ops : Array Oper} {Q : Exit → Act → World → Prop} {md : Region.Mode} {S : World → Prop} {m i : Nat} {o : Oper} {fuel : Nat} {listed : Array Bool} {a : Act} {w : World} (hr : Region.ready md ops listed = [i]) (ho : ops[i]? = some o)
    (hw : Region.wanted o (yielded ops a.tmps) = true)
    (h : ∀ K : Act → World → Prop, (∀ a w, ((listed.setIfInBounds i true).getD m true = false → S w) → wpAnyL P md ops Q m S fuel (listed.setIfInBounds i true) a w → K a w) → Oper.wp P o a w K Q) :
    wpAnyL P md ops Q m S (fuel + 1) listed a w := by
  refine ⟨fun h0 => absurd (hr ▸ h0) (by simp), fun j hj => ?_⟩
  rw [hr] at hj
  obtain rfl := List.mem_singleton.1 hj
  unfold wpOp
  simp only [ho]
  rw [if_pos hw]
  exact .inl (h _ fun a w h1 h2 => ⟨h1, h2⟩)
theorem put_def (a : Act) (d : Option Tmp) (v : Value) : (a.put d v).defers = a.defers := by cases d <;> rfl
theorem eval_tmp {a : Act} {d : Tmp} {v : Value} (h : a.eval (.tmp d) = v) : a.tmps[d]?.getD undef = v := by simpa [Act.eval] using h
theorem wp_call2 {P : Program} {o : Oper} {a : Act} {w : World} {K : Act → World → Prop} {Q : Exit → Act → World → Prop} (f : FuncId) (t t' : Tmp) (ty ty' : TypeId) (ho : o.op = .call { callee := .value (.func f), args := #[.tmp t, .tmp t'], argTypes := #[ty, ty'] }) {v v' : Value} (hx : a.eval (.tmp t) = v) (hy : a.eval (.tmp t') = v')
    (hcf : ∀ v v' w, (callFunc f #[v, v']).run P w = .ok (.enter f #[v, v']) w)
    {R : Ending → World → Prop} (hc : Calls P f #[v, v'] w R) (h : ∀ e w', R e w' → ∃ u, e = .returned u ∧ K (a.put o.dst u) w') : o.wp P a w K Q := by
  have hx' := eval_tmp hx
  have hy' := eval_tmp hy
  unfold Oper.wp execOp
  simp only [ho]
  go_simp
  refine hc.mono fun e w' he => ?_
  obtain ⟨u, rfl, hk⟩ := h e w' he
  exact hk
theorem callFunc20 (v v' : Value) (w : World) : (callFunc 20 #[v, v']).run Try.prog w = .ok (.enter 20 #[v, v']) w := by go_simp
theorem callFunc21 (v v' : Value) (w : World) : (callFunc 21 #[v, v']).run Try.prog w = .ok (.enter 21 #[v, v']) w := by go_simp
theorem callFunc12 (v : Value) (w : World) : (callFunc 12 #[v]).run Try.prog w = .ok (.enter 12 #[v]) w := by go_simp
theorem wp_eql4 {o : Oper} {a : Act} {w : World} {K : Act → World → Prop} {Q : Exit → Act → World → Prop} {r : Bool} (ho : o.op = .binOp .eql 4 (.tmp 14) (.tmp 17) 4) (hx : a.eval (.tmp 14) = .bool r) (hy : a.eval (.tmp 17) = .bool r) (h : K (a.put o.dst (.bool true)) w) : o.wp Try.prog a w K Q := by
  have hx' := eval_tmp hx
  have hy' := eval_tmp hy
  unfold Oper.wp execOp
  simp only [ho]
  cases r <;> (go_simp; first | exact h | simpa [Act.put] using h)
theorem wp_move {P : Program} {o : Oper} {a : Act} {w : World} {K : Act → World → Prop} {Q : Exit → Act → World → Prop} {t : Tmp} {v : Value} (ho : o.op = .move (.tmp t)) (hx : a.eval (.tmp t) = v) (h : K (a.put o.dst v) w) : o.wp P a w K Q := by
  have hx' := eval_tmp hx
  unfold Oper.wp execOp
  simp only [ho]
  go_simp
  exact h
theorem wp_assign {P : Program} {o : Oper} {a : Act} {w : World} {K : Act → World → Prop} {Q : Exit → Act → World → Prop} {t : Tmp} {v : Value} (ho : o.op = .assign (.tmp t)) (hx : a.eval (.tmp t) = v) (h : K (a.put o.dst v) w) : o.wp P a w K Q := by
  have hx' := eval_tmp hx
  unfold Oper.wp execOp
  simp only [ho]
  go_simp
  exact h
theorem wp_pick {P : Program} {o : Oper} {a : Act} {w : World} {K : Act → World → Prop} {Q : Exit → Act → World → Prop} {t t' : Tmp} {z v : Value} (ho : o.op = .pick (.tmp t) (.tmp t') (.const z)) (hx : a.eval (.tmp t) = .bool true) (hy : a.eval (.tmp t') = v) (h : K (a.put o.dst v) w) : o.wp P a w K Q := by
  have hx' := eval_tmp hx
  have hy' := eval_tmp hy
  unfold Oper.wp execOp
  simp only [ho]
  go_simp
  first | exact h | simpa [Act.put] using h
abbrev ops6 : Array Oper := #[{ dst := some 12, op := Op.load 31 (Operand.tmp 2), type := 31, pos := "law.go:54", after := #[], guard := none }, { dst := some 13, op := Op.load 31 (Operand.tmp 3), type := 31, pos := "law.go:54", after := #[], guard := none }, { dst := some 14, op := Op.call { callee := Callee.value (Operand.func 20), args := #[Operand.tmp 12, Operand.tmp 13], argTypes := #[31, 31] }, type := 4, pos := "law.go:54", after := #[{ on := 0, ground := Ground.data }, { on := 1, ground := Ground.data }], guard := none }, { dst := some 15, op := Op.load 31 (Operand.tmp 2), type := 31, pos := "law.go:54", after := #[], guard := none }, { dst := some 16, op := Op.load 31 (Operand.tmp 3), type := 31, pos := "law.go:54", after := #[], guard := none }, { dst := some 17, op := Op.call { callee := Callee.value (Operand.func 21), args := #[Operand.tmp 15, Operand.tmp 16], argTypes := #[31, 31] }, type := 4, pos := "law.go:54", after := #[{ on := 3, ground := Ground.data }, { on := 4, ground := Ground.data }, { on := 2, ground := Ground.chain }], guard := none }, { dst := some 18, op := Op.binOp BinOp.eql 4 (Operand.tmp 14) (Operand.tmp 17) 4, type := 4, pos := "law.go:54", after := #[{ on := 2, ground := Ground.data }, { on := 5, ground := Ground.data }], guard := none }, { dst := some 19, op := Op.move (Operand.tmp 18), type := 4, pos := "law.go:54", after := #[{ on := 6, ground := Ground.data }, { on := 5, ground := Ground.chain }], guard := none }, { dst := some 20, op := Op.load 31 (Operand.tmp 2), type := 31, pos := "law.go:54", after := #[{ on := 7, ground := Ground.guard }], guard := some (7, true) }, { dst := some 21, op := Op.load 31 (Operand.tmp 2), type := 31, pos := "law.go:54", after := #[{ on := 7, ground := Ground.guard }], guard := some (7, true) }, { dst := some 22, op := Op.call { callee := Callee.value (Operand.func 12), args := #[Operand.tmp 21], argTypes := #[31] }, type := 31, pos := "law.go:54", after := #[{ on := 9, ground := Ground.data }, { on := 7, ground := Ground.chain }, { on := 7, ground := Ground.guard }], guard := some (7, true) }, { dst := some 23, op := Op.call { callee := Callee.value (Operand.func 20), args := #[Operand.tmp 20, Operand.tmp 22], argTypes := #[31, 31] }, type := 4, pos := "law.go:54", after := #[{ on := 8, ground := Ground.data }, { on := 10, ground := Ground.data }, { on := 10, ground := Ground.chain }, { on := 7, ground := Ground.guard }], guard := some (7, true) }, { dst := some 24, op := Op.pick (Operand.tmp 19) (Operand.tmp 23) (Operand.const (Value.bool false)), type := 4, pos := "law.go:54", after := #[{ on := 7, ground := Ground.data }, { on := 11, ground := Ground.data }], guard := none }, { dst := some 4, op := Op.assign (Operand.tmp 24), type := 4, pos := "law.go:54", after := #[{ on := 12, ground := Ground.data }, { on := 11, ground := Ground.chain }, { on := 0, ground := Ground.phase }, { on := 1, ground := Ground.phase }, { on := 2, ground := Ground.phase }, { on := 3, ground := Ground.phase }, { on := 4, ground := Ground.phase }, { on := 5, ground := Ground.phase }, { on := 6, ground := Ground.phase }, { on := 7, ground := Ground.phase }, { on := 8, ground := Ground.phase }, { on := 9, ground := Ground.phase }, { on := 10, ground := Ground.phase }, { on := 11, ground := Ground.phase }, { on := 12, ground := Ground.phase }], guard := none }]
set_option maxRecDepth 100000 in
set_option maxHeartbeats 1000000 in
theorem region6 {Q : Exit → Act → World → Prop} {a : Act} {w : World} {b1 b2 : Nat} {c1 c2 : List Value} {r : Bool} {T : World → List Value → Prop}
    (h2 : a.eval (.tmp 2) = .pointer (some ⟨b1, 0, none⟩)) (h3 : a.eval (.tmp 3) = .pointer (some ⟨b2, 0, none⟩)) (r1 : w.rangeAt b1 0 c1) (r2 : w.rangeAt b2 0 c2) (n1 : c1.length = 18) (n2 : c2.length = 18)
    (hs : a.tmps.size = 25) (k1 : b1 < w.heap.size) (k2 : b2 < w.heap.size) (hQ : ∀ c (a : Act) (d : Tmp) v w, Q (.panic c) (a.put (some d) v) w → Q (.panic c) a w)
    (C20 : ∀ W, Below w.heap.size w W → Calls Try.prog 20 #[.agg c1.toArray, .agg c2.toArray] W fun e w' => e = .returned (.bool r) ∧ Below W.heap.size W w')
    (C21 : ∀ W, Below w.heap.size w W → Calls Try.prog 21 #[.agg c1.toArray, .agg c2.toArray] W fun e w' => e = .returned (.bool r) ∧ Below W.heap.size W w')
    (C12 : ∀ W, Below w.heap.size w W → Calls Try.prog 12 #[.agg c1.toArray] W fun e w' => ∃ c3 : List Value, e = .returned (.agg c3.toArray) ∧ T w' c3 ∧ Below W.heap.size W w')
    (D20 : ∀ W c3, Below w.heap.size w W → T W c3 → Calls Try.prog 20 #[.agg c1.toArray, .agg c3.toArray] W fun e w' => e = .returned (.bool true) ∧ Below W.heap.size W w')
    (k : ∀ a' w', a'.eval (.tmp 4) = .bool true → a'.defers = a.defers → a'.tmps.size = 25 → Below w.heap.size w w' → Q .normal a' w') : (Code.region 3 ops6 true).wp Try.prog Q a w := by
  have rc : ∀ {w1 : World}, Below w.heap.size w w1 → w1.rangeAt b1 0 c1 ∧ w1.rangeAt b2 0 c2 := fun hb => ⟨fun j v h => by rw [hb.cell k1]; exact r1 j v h, fun j v h => by rw [hb.cell k2]; exact r2 j v h⟩
  refine wp_region_L 13 (fun w1 => Below w.heap.size w w1) (by kernel_rfl) ?_
  have S0 : Below w.heap.size w w.drew := (Below.refl _ _).drew
  have z : ∀ d, d < 25 → d < a.tmps.size := fun d h => hs ▸ h
  refine wpAnyL_take (i := 0) (v := .agg c1.toArray) rfl (by kernel_rfl) (by kernel_rfl) (by kernel_rfl) (by kernel_rfl) rfl (fun c a w h => hQ c a _ _ w h) (yieldsIf_load_mid rfl 31 (.tmp 2) rfl b1 0 h2 c1 _ (fun _ h => (rc h).1) Try.underlying31 rfl (by rw [n1]; exact Try.size31)) S0 ?_
  refine wpAnyL_take (i := 1) (v := .agg c2.toArray) rfl (by kernel_rfl) (by kernel_rfl) (by kernel_rfl) (by kernel_rfl) rfl (fun c a w h => hQ c a _ _ w h) (yieldsIf_load_mid rfl 31 (.tmp 3) rfl b2 0 ((eval_other (by decide)).trans h3) c2 _ (fun _ h => (rc h).2) Try.underlying31 rfl (by rw [n2]; exact Try.size31)) S0 ?_
  refine wpAnyL_take (i := 3) (v := .agg c1.toArray) rfl (by kernel_rfl) (by kernel_rfl) (by kernel_rfl) (by kernel_rfl) rfl (fun c a w h => hQ c a _ _ w h) (yieldsIf_load_mid rfl 31 (.tmp 2) rfl b1 0 ((eval_other (by decide)).trans ((eval_other (by decide)).trans h2)) c1 _ (fun _ h => (rc h).1) Try.underlying31 rfl (by rw [n1]; exact Try.size31)) S0 ?_
  refine wpAnyL_take (i := 4) (v := .agg c2.toArray) rfl (by kernel_rfl) (by kernel_rfl) (by kernel_rfl) (by kernel_rfl) rfl (fun c a w h => hQ c a _ _ w h) (yieldsIf_load_mid rfl 31 (.tmp 3) rfl b2 0 ((eval_other (by decide)).trans ((eval_other (by decide)).trans ((eval_other (by decide)).trans h3))) c2 _ (fun _ h => (rc h).2) Try.underlying31 rfl (by rw [n2]; exact Try.size31)) S0 ?_
  have E12 : ((((((a).put (some 12) (.agg c1.toArray)).put (some 13) (.agg c2.toArray)).put (some 15) (.agg c1.toArray)).put (some 16) (.agg c2.toArray))).eval (.tmp 12) = .agg c1.toArray := (eval_other (by decide)).trans ((eval_other (by decide)).trans ((eval_other (by decide)).trans (eval_same (z 12 (by decide)))))
  have E13 : ((((((a).put (some 12) (.agg c1.toArray)).put (some 13) (.agg c2.toArray)).put (some 15) (.agg c1.toArray)).put (some 16) (.agg c2.toArray))).eval (.tmp 13) = .agg c2.toArray := (eval_other (by decide)).trans ((eval_other (by decide)).trans (eval_same (by rw [size_put]; exact z 13 (by decide))))
  have E15 : ((((((a).put (some 12) (.agg c1.toArray)).put (some 13) (.agg c2.toArray)).put (some 15) (.agg c1.toArray)).put (some 16) (.agg c2.toArray))).eval (.tmp 15) = .agg c1.toArray := (eval_other (by decide)).trans (eval_same (by rw [size_put, size_put]; exact z 15 (by decide)))
  have E16 : ((((((a).put (some 12) (.agg c1.toArray)).put (some 13) (.agg c2.toArray)).put (some 15) (.agg c1.toArray)).put (some 16) (.agg c2.toArray))).eval (.tmp 16) = .agg c2.toArray := eval_same (by rw [size_put, size_put, size_put]; exact z 16 (by decide))
  have E2 : ((((((a).put (some 12) (.agg c1.toArray)).put (some 13) (.agg c2.toArray)).put (some 15) (.agg c1.toArray)).put (some 16) (.agg c2.toArray))).eval (.tmp 2) = .pointer (some ⟨b1, 0, none⟩) := (eval_other (by decide)).trans ((eval_other (by decide)).trans ((eval_other (by decide)).trans ((eval_other (by decide)).trans h2)))
  have Es : ((((((a).put (some 12) (.agg c1.toArray)).put (some 13) (.agg c2.toArray)).put (some 15) (.agg c1.toArray)).put (some 16) (.agg c2.toArray))).tmps.size = 25 := by rw [size_put, size_put, size_put, size_put]; exact hs
  have Ed : ((((((a).put (some 12) (.agg c1.toArray)).put (some 13) (.agg c2.toArray)).put (some 15) (.agg c1.toArray)).put (some 16) (.agg c2.toArray))).defers = a.defers := rfl
  show wpAnyL Try.prog .any ops6 Q 13 _ _ _ ((((((a).put (some 12) (.agg c1.toArray)).put (some 13) (.agg c2.toArray)).put (some 15) (.agg c1.toArray)).put (some 16) (.agg c2.toArray))) _
  generalize (((((a).put (some 12) (.agg c1.toArray)).put (some 13) (.agg c2.toArray)).put (some 15) (.agg c1.toArray)).put (some 16) (.agg c2.toArray)) = a4 at *
  refine wpAnyL_only (i := 2) (by kernel_rfl) rfl rfl fun K hK => ?_
  refine wp_call2 20 12 13 31 31 rfl E12 E13 callFunc20 (C20 _ S0) ?_
  rintro e w1 ⟨rfl, b1'⟩
  have S1 : Below w.heap.size w w1 := S0.trans b1'
  refine ⟨_, rfl, hK _ _ (fun _ => S1) ?_⟩
  refine wpAnyL_only (i := 5) (by kernel_rfl) rfl rfl fun K hK => ?_
  refine wp_call2 21 15 16 31 31 rfl ((eval_other (by decide)).trans E15) ((eval_other (by decide)).trans E16) callFunc21 (C21 _ S1) ?_
  rintro e w2 ⟨rfl, b2'⟩
  have S2 : Below w.heap.size w w2 := S1.trans (b2'.mono S1.size)
  refine ⟨_, rfl, hK _ _ (fun _ => S2) ?_⟩
  refine wpAnyL_only (i := 6) (by kernel_rfl) rfl rfl fun K hK => ?_
  refine wp_eql4 rfl ((eval_other (by decide)).trans (eval_same (by rw [Es]; decide))) (eval_same (by simp only [size_put, Es]; decide)) ?_
  refine hK _ _ (fun _ => S2) ?_
  refine wpAnyL_only (i := 7) (by kernel_rfl) rfl rfl fun K hK => ?_
  refine wp_move rfl (eval_same (by simp only [size_put, Es]; decide)) ?_
  refine hK _ _ (fun _ => S2) ?_
  have G19 : ((((((a4).put (some 14) (.bool r)).put (some 17) (.bool r)).put (some 18) (.bool true)).put (some 19) (.bool true))).eval (.tmp 19) = .bool true := eval_same (by simp only [size_put, Es]; decide)
  have G2 : ((((((a4).put (some 14) (.bool r)).put (some 17) (.bool r)).put (some 18) (.bool true)).put (some 19) (.bool true))).eval (.tmp 2) = .pointer (some ⟨b1, 0, none⟩) := (eval_other (by decide)).trans ((eval_other (by decide)).trans ((eval_other (by decide)).trans ((eval_other (by decide)).trans E2)))
  have Gs : ((((((a4).put (some 14) (.bool r)).put (some 17) (.bool r)).put (some 18) (.bool true)).put (some 19) (.bool true))).tmps.size = 25 := by simp only [size_put, Es]
  have Gd : ((((((a4).put (some 14) (.bool r)).put (some 17) (.bool r)).put (some 18) (.bool true)).put (some 19) (.bool true))).defers = a.defers := Ed
  show wpAnyL Try.prog .any ops6 Q 13 _ _ _ ((((((a4).put (some 14) (.bool r)).put (some 17) (.bool r)).put (some 18) (.bool true)).put (some 19) (.bool true))) _
  generalize (((((a4).put (some 14) (.bool r)).put (some 17) (.bool r)).put (some 18) (.bool true)).put (some 19) (.bool true)) = a8 at *
  refine wpAnyL_take (i := 8) (v := .agg c1.toArray) rfl (by kernel_rfl) (by kernel_rfl) (by kernel_rfl) (by kernel_rfl) rfl (fun c a w h => hQ c a _ _ w h) (yieldsIf_load_mid (wanted_of (d := 19) rfl rfl G19) 31 (.tmp 2) rfl b1 0 G2 c1 _ (fun _ h => (rc h).1) Try.underlying31 rfl (by rw [n1]; exact Try.size31)) S2 ?_
  refine wpAnyL_take (i := 9) (v := .agg c1.toArray) rfl (by kernel_rfl) (by kernel_rfl) (by kernel_rfl) (by kernel_rfl) rfl (fun c a w h => hQ c a _ _ w h) (yieldsIf_load_mid (wanted_of (d := 19) rfl rfl ((eval_other (by decide)).trans G19)) 31 (.tmp 2) rfl b1 0 ((eval_other (by decide)).trans G2) c1 _ (fun _ h => (rc h).1) Try.underlying31 rfl (by rw [n1]; exact Try.size31)) S2 ?_
  refine wpAnyL_only' (i := 10) (by kernel_rfl) rfl (wanted_of (d := 19) rfl rfl ((eval_other (by decide)).trans ((eval_other (by decide)).trans G19))) fun K hK => ?_
  refine wp_call1 12 21 31 rfl (eval_same (by simp only [size_put, Gs]; decide)) callFunc12 (C12 _ S2) ?_
  rintro e w3 ⟨c3, rfl, ht, b3'⟩
  have S3 : Below w.heap.size w w3 := S2.trans (b3'.mono S2.size)
  refine ⟨_, rfl, hK _ _ (fun _ => S3) ?_⟩
  refine wpAnyL_only' (i := 11) (by kernel_rfl) rfl (wanted_of (d := 19) rfl rfl ((eval_other (by decide)).trans ((eval_other (by decide)).trans ((eval_other (by decide)).trans G19)))) fun K hK => ?_
  refine wp_call2 20 20 22 31 31 rfl ((eval_other (by decide)).trans ((eval_other (by decide)).trans (eval_same (by rw [Gs]; decide)))) (eval_same (by simp only [size_put, Gs]; decide)) callFunc20 (D20 _ c3 S3 ht) ?_
  rintro e w4 ⟨rfl, b4'⟩
  have S4 : Below w.heap.size w w4 := S3.trans (b4'.mono S3.size)
  refine ⟨_, rfl, hK _ _ (fun _ => S4) ?_⟩
  refine wpAnyL_only (i := 12) (by kernel_rfl) rfl rfl fun K hK => ?_
  refine wp_pick rfl ((eval_other (by decide)).trans ((eval_other (by decide)).trans ((eval_other (by decide)).trans ((eval_other (by decide)).trans G19)))) (eval_same (by simp only [size_put, Gs]; decide)) ?_
  refine hK _ _ (fun _ => S4) ?_
  refine wpAnyL_only (i := 13) (by kernel_rfl) rfl rfl fun K hK => ?_
  refine wp_assign rfl (eval_same (by simp only [size_put, Gs]; decide)) ?_
  refine hK _ _ (fun h => absurd h (by decide)) ?_
  refine wpAnyL_done (by kernel_rfl) ?_ _
  refine k _ _ ?_ ?_ ?_ S4
  · exact eval_same (by simp only [size_put, Gs]; decide)
  · simp only [put_def]; exact Gd
  · simp only [size_put, Gs]
end Go.Proofs.Ytnmlfhogolonoaa
