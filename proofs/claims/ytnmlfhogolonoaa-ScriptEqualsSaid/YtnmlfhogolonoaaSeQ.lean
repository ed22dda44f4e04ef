/-
  The walk of the law ScriptEquals: for any two scripts it returns true. No condition but that the values read as lists.
-/
import Derived.Test.YtnmlfhogolonoaaSeM
import Derived.Test.YtnmlfhogolonoaaSeN
import Derived.Test.YtnmlfhogolonoaaSeP
import Derived.Test.YtnmlfhogolonoaaSeO
set_option linter.unusedVariables false
set_option linter.unusedSimpArgs false
namespace Go.Proofs.Ytnmlfhogolonoaa
open Go.RowKit
theorem wpList_load_w {P : Program} {ops : Array Oper} {rest : List Oper} {op : Oper} {a : Act} {w : World} {Q : Exit → Act → World → Prop} (hw : Region.wanted op (yielded ops a.tmps) = true) (ty : TypeId) (x : Operand) (ho : op.op = .load ty x)
    (b o : Nat) (hx : a.eval x = .pointer (some ⟨b, o, none⟩)) (cs : List Value) (d : TypeDesc) (hc : w.rangeAt b o cs)
    (hu : P.underlying ty = some d) (hd : d.isRow = true) (hi : (P.info? ty).map (·.size) = some cs.length)
    (h : wpList P ops Q rest (a.put op.dst (.agg cs.toArray)) w) : wpList P ops Q (op :: rest) a w := by
  unfold wpList
  rw [if_pos hw]
  exact .inl (wp_load_mid ty x ho b o hx cs d hc hu hd hi h)
theorem below_next {a b c : World} (h : Below a.heap.size a b) (k : Below b.heap.size b c) : Below a.heap.size a c := h.trans (k.mono h.size)
theorem row_next {w w' : World} {b : Nat} {o : Obj} (h : w.heap[b]? = some o) (hb : Below w.heap.size w w') : w'.heap[b]? = some o := (hb.block b (Array.getElem?_eq_some_iff.1 h).1).trans h
theorem row_lt {w : World} {b : Nat} {o : Obj} (h : w.heap[b]? = some o) : b < w.heap.size := (Array.getElem?_eq_some_iff.1 h).1
theorem scrEq_refl (th sl en bu dk dn t0 t1 t2 t3 t4 t5 lo tr ba : Int) (l q : List Int) (L : List (List OpT)) : scrEq th sl en bu dk dn t0 t1 t2 t3 t4 t5 lo tr ba l L q th sl en bu dk dn t0 t1 t2 t3 t4 t5 lo tr ba l L q = true := by
  simp [scrEq, cfgEq, towEq]
set_option maxRecDepth 100000 in
set_option maxHeartbeats 8000000 in
theorem law6 (w : World) (th sl en bu dk dn t0 t1 t2 t3 t4 t5 lo tr ba th' sl' en' bu' dk' dn' t0' t1' t2' t3' t4' t5' lo' tr' ba' : Int) (cv cv' pv pv' kv kv' : Value) (l l' : List Int) (L L' : List (List OpT)) (q q' : List Int)
    (h : Uints w cv l) (h' : Uints w cv' l') (hp : Progs w pv L) (hp' : Progs w pv' L') (hk : Ints w kv q) (hk' : Ints w kv' q') :
    Calls Try.prog 6 #[.agg #[.int .i64 th, .int .i64 sl, .int .u8 en, .int .i64 bu, .int .u8 dk, .int .i64 dn, cv, .int .i64 t0, .int .i64 t1, .int .i64 t2, .int .i64 t3, .int .i64 t4, .int .i64 t5, .int .i64 lo, .int .i64 tr, .int .i64 ba, pv, kv], .agg #[.int .i64 th', .int .i64 sl', .int .u8 en', .int .i64 bu', .int .u8 dk', .int .i64 dn', cv', .int .i64 t0', .int .i64 t1', .int .i64 t2', .int .i64 t3', .int .i64 t4', .int .i64 t5', .int .i64 lo', .int .i64 tr', .int .i64 ba', pv', kv']] w fun e w' => e = .returned (.bool true) ∧ Below w.heap.size w w' := by
  have C10 : ∀ W, Ext w W → Calls Try.prog 10 #[.agg #[.int .i64 th, .int .i64 sl, .int .u8 en, .int .i64 bu, .int .u8 dk, .int .i64 dn, cv, .int .i64 t0, .int .i64 t1, .int .i64 t2, .int .i64 t3, .int .i64 t4, .int .i64 t5, .int .i64 lo, .int .i64 tr, .int .i64 ba, pv, kv]] W fun e w' => ∃ r, e = .returned (.bool r) ∧ Below W.heap.size W w' := fun W hW => long10 W th sl en bu dk dn t0 t1 t2 t3 t4 t5 lo tr ba cv pv kv l q L (h.ext fun _ _ _ => IntR.ext hW) (hp.ext fun _ _ _ => ProgR.ext hW) (hk.ext fun _ _ _ => IntR.ext hW)
  have D10 : ∀ W, Ext w W → Calls Try.prog 10 #[.agg #[.int .i64 th', .int .i64 sl', .int .u8 en', .int .i64 bu', .int .u8 dk', .int .i64 dn', cv', .int .i64 t0', .int .i64 t1', .int .i64 t2', .int .i64 t3', .int .i64 t4', .int .i64 t5', .int .i64 lo', .int .i64 tr', .int .i64 ba', pv', kv']] W fun e w' => ∃ r, e = .returned (.bool r) ∧ Below W.heap.size W w' := fun W hW => long10 W th' sl' en' bu' dk' dn' t0' t1' t2' t3' t4' t5' lo' tr' ba' cv' pv' kv' l' q' L' (h'.ext fun _ _ _ => IntR.ext hW) (hp'.ext fun _ _ _ => ProgR.ext hW) (hk'.ext fun _ _ _ => IntR.ext hW)
  have C20 : ∀ W, Ext w W → Calls Try.prog 20 #[.agg #[.int .i64 th, .int .i64 sl, .int .u8 en, .int .i64 bu, .int .u8 dk, .int .i64 dn, cv, .int .i64 t0, .int .i64 t1, .int .i64 t2, .int .i64 t3, .int .i64 t4, .int .i64 t5, .int .i64 lo, .int .i64 tr, .int .i64 ba, pv, kv], .agg #[.int .i64 th', .int .i64 sl', .int .u8 en', .int .i64 bu', .int .u8 dk', .int .i64 dn', cv', .int .i64 t0', .int .i64 t1', .int .i64 t2', .int .i64 t3', .int .i64 t4', .int .i64 t5', .int .i64 lo', .int .i64 tr', .int .i64 ba', pv', kv']] W fun e w' => e = .returned (.bool (scrEq th sl en bu dk dn t0 t1 t2 t3 t4 t5 lo tr ba l L q th' sl' en' bu' dk' dn' t0' t1' t2' t3' t4' t5' lo' tr' ba' l' L' q')) ∧ Below W.heap.size W w' := fun W hW => eq20 W th sl en bu dk dn t0 t1 t2 t3 t4 t5 lo tr ba th' sl' en' bu' dk' dn' t0' t1' t2' t3' t4' t5' lo' tr' ba' cv cv' pv pv' kv kv' l l' L L' q q'
    (h.ext fun _ _ _ => IntR.ext hW) (h'.ext fun _ _ _ => IntR.ext hW) (hp.ext fun _ _ _ => ProgR.ext hW) (hp'.ext fun _ _ _ => ProgR.ext hW) (hk.ext fun _ _ _ => IntR.ext hW) (hk'.ext fun _ _ _ => IntR.ext hW)
  have C21 : ∀ W, Ext w W → Calls Try.prog 21 #[.agg #[.int .i64 th, .int .i64 sl, .int .u8 en, .int .i64 bu, .int .u8 dk, .int .i64 dn, cv, .int .i64 t0, .int .i64 t1, .int .i64 t2, .int .i64 t3, .int .i64 t4, .int .i64 t5, .int .i64 lo, .int .i64 tr, .int .i64 ba, pv, kv], .agg #[.int .i64 th', .int .i64 sl', .int .u8 en', .int .i64 bu', .int .u8 dk', .int .i64 dn', cv', .int .i64 t0', .int .i64 t1', .int .i64 t2', .int .i64 t3', .int .i64 t4', .int .i64 t5', .int .i64 lo', .int .i64 tr', .int .i64 ba', pv', kv']] W fun e w' => e = .returned (.bool (scrEq th sl en bu dk dn t0 t1 t2 t3 t4 t5 lo tr ba l L q th' sl' en' bu' dk' dn' t0' t1' t2' t3' t4' t5' lo' tr' ba' l' L' q')) ∧ Below W.heap.size W w' := fun W hW => eq21 W th sl en bu dk dn t0 t1 t2 t3 t4 t5 lo tr ba th' sl' en' bu' dk' dn' t0' t1' t2' t3' t4' t5' lo' tr' ba' cv cv' pv pv' kv kv' l l' L L' q q'
    (h.ext fun _ _ _ => IntR.ext hW) (h'.ext fun _ _ _ => IntR.ext hW) (hp.ext fun _ _ _ => ProgR.ext hW) (hp'.ext fun _ _ _ => ProgR.ext hW) (hk.ext fun _ _ _ => IntR.ext hW) (hk'.ext fun _ _ _ => IntR.ext hW)
  have C12 : ∀ W, Ext w W → Calls Try.prog 12 #[.agg #[.int .i64 th, .int .i64 sl, .int .u8 en, .int .i64 bu, .int .u8 dk, .int .i64 dn, cv, .int .i64 t0, .int .i64 t1, .int .i64 t2, .int .i64 t3, .int .i64 t4, .int .i64 t5, .int .i64 lo, .int .i64 tr, .int .i64 ba, pv, kv]] W fun e w' => ∃ c3 : List Value, e = .returned (.agg c3.toArray) ∧ (∃ cv' pv' kv', c3 = [.int .i64 th, .int .i64 sl, .int .u8 en, .int .i64 bu, .int .u8 dk, .int .i64 dn, cv', .int .i64 t0, .int .i64 t1, .int .i64 t2, .int .i64 t3, .int .i64 t4, .int .i64 t5, .int .i64 lo, .int .i64 tr, .int .i64 ba, pv', kv'] ∧ Uints w' cv' l ∧ Progs w' pv' L ∧ Ints w' kv' q) ∧ Below W.heap.size W w' := fun W hW =>
    (copy12 W th sl en bu dk dn t0 t1 t2 t3 t4 t5 lo tr ba cv pv kv l q L (h.ext fun _ _ _ => IntR.ext hW) (hp.ext fun _ _ _ => ProgR.ext hW) (hk.ext fun _ _ _ => IntR.ext hW)).mono fun e w' ⟨cv', pv', kv', he, f1, f2, f3, hb⟩ => ⟨[.int .i64 th, .int .i64 sl, .int .u8 en, .int .i64 bu, .int .u8 dk, .int .i64 dn, cv', .int .i64 t0, .int .i64 t1, .int .i64 t2, .int .i64 t3, .int .i64 t4, .int .i64 t5, .int .i64 lo, .int .i64 tr, .int .i64 ba, pv', kv'], he, ⟨cv', pv', kv', rfl, f1.1, f2.progs, f3.1⟩, hb⟩
  have D20 : ∀ W c3, Ext w W → (∃ cv' pv' kv', c3 = [.int .i64 th, .int .i64 sl, .int .u8 en, .int .i64 bu, .int .u8 dk, .int .i64 dn, cv', .int .i64 t0, .int .i64 t1, .int .i64 t2, .int .i64 t3, .int .i64 t4, .int .i64 t5, .int .i64 lo, .int .i64 tr, .int .i64 ba, pv', kv'] ∧ Uints W cv' l ∧ Progs W pv' L ∧ Ints W kv' q) → Calls Try.prog 20 #[.agg #[.int .i64 th, .int .i64 sl, .int .u8 en, .int .i64 bu, .int .u8 dk, .int .i64 dn, cv, .int .i64 t0, .int .i64 t1, .int .i64 t2, .int .i64 t3, .int .i64 t4, .int .i64 t5, .int .i64 lo, .int .i64 tr, .int .i64 ba, pv, kv], .agg c3.toArray] W fun e w' => e = .returned (.bool true) ∧ Below W.heap.size W w' := fun W c3 hW ⟨cv', pv', kv', hc, f1, f2, f3⟩ => by
    subst hc
    have := eq20 W th sl en bu dk dn t0 t1 t2 t3 t4 t5 lo tr ba th sl en bu dk dn t0 t1 t2 t3 t4 t5 lo tr ba cv cv' pv pv' kv kv' l l L L q q (h.ext fun _ _ _ => IntR.ext hW) f1 (hp.ext fun _ _ _ => ProgR.ext hW) f2 (hk.ext fun _ _ _ => IntR.ext hW) f3
    rw [scrEq_refl] at this
    exact this
  obtain ⟨r0, hr0⟩ : ∃ r, scrEq th sl en bu dk dn t0 t1 t2 t3 t4 t5 lo tr ba l L q th' sl' en' bu' dk' dn' t0' t1' t2' t3' t4' t5' lo' tr' ba' l' L' q' = r := ⟨_, rfl⟩
  rw [hr0] at C20 C21
  have K10 := Lib.hid C10
  have M10 := Lib.hid D10
  have K20 := Lib.hid C20
  have K21 := Lib.hid C21
  have K12 := Lib.hid C12
  have M20 := Lib.hid D20
  clear C10 D10 C20 C21 C12 D20 h h' hp hp' hk hk' hr0
  go_enter Try.func6, Try.ntmps6
  go_wp2_with (first | (go_at_call_of 10 (Value.agg #[Value.int .i64 th, Value.int .i64 sl, Value.int .u8 en, Value.int .i64 bu, Value.int .u8 dk, Value.int .i64 dn, cv, Value.int .i64 t0, Value.int .i64 t1, Value.int .i64 t2, Value.int .i64 t3, Value.int .i64 t4, Value.int .i64 t5, Value.int .i64 lo, Value.int .i64 tr, Value.int .i64 ba, pv, kv]); refine (K10.out _ (ext2 w _ _)).mono ?_; rintro e w1 ⟨r, rfl, hb⟩; have HB1 := Lib.hid hb; clear hb; cases r) | (go_at_call_of 10 (Value.agg #[Value.int .i64 th', Value.int .i64 sl', Value.int .u8 en', Value.int .i64 bu', Value.int .u8 dk', Value.int .i64 dn', cv', Value.int .i64 t0', Value.int .i64 t1', Value.int .i64 t2', Value.int .i64 t3', Value.int .i64 t4', Value.int .i64 t5', Value.int .i64 lo', Value.int .i64 tr', Value.int .i64 ba', pv', kv']); refine (M10.out _ ((ext2 w _ _).trans (Ext.below HB1.out))).mono ?_; rintro e w2 ⟨r2, rfl, hb⟩; have HB2 := Lib.hid hb; clear hb) | (go_at_call 11; refine (known11 _).mono ?_; rintro e w3 ⟨rfl, hb⟩; have HB3 := Lib.hid hb; clear hb) | (refine wpList_load_mid rfl 31 (.tmp 2) rfl w.heap.size 0 rfl [.int .i64 th, .int .i64 sl, .int .u8 en, .int .i64 bu, .int .u8 dk, .int .i64 dn, cv, .int .i64 t0, .int .i64 t1, .int .i64 t2, .int .i64 t3, .int .i64 t4, .int .i64 t5, .int .i64 lo, .int .i64 tr, .int .i64 ba, pv, kv] _ (range_heap (heap_alloc2_old w _ _)) Try.underlying31 rfl Try.size31 ?_) | (refine wpList_load_w rfl 31 (.tmp 3) rfl (w.heap.size + 1) 0 rfl [.int .i64 th', .int .i64 sl', .int .u8 en', .int .i64 bu', .int .u8 dk', .int .i64 dn', cv', .int .i64 t0', .int .i64 t1', .int .i64 t2', .int .i64 t3', .int .i64 t4', .int .i64 t5', .int .i64 lo', .int .i64 tr', .int .i64 ba', pv', kv'] _ (range_heap (row2 HB1.out)) Try.underlying31 rfl Try.size31 ?_))
  · go_ret
    exact ⟨rfl, below_next (below_next (below2 HB1.out) HB2.out) HB3.out⟩
  · have E2 : Ext w w2 := ((ext2 w _ _).trans (Ext.below HB1.out)).trans (Ext.below HB2.out)
    have R1 := row_next (row1 HB1.out) HB2.out
    have R2 := row_next (row2 HB1.out) HB2.out
    refine region6 (b1 := w.heap.size) (b2 := w.heap.size + 1) (c1 := [.int .i64 th, .int .i64 sl, .int .u8 en, .int .i64 bu, .int .u8 dk, .int .i64 dn, cv, .int .i64 t0, .int .i64 t1, .int .i64 t2, .int .i64 t3, .int .i64 t4, .int .i64 t5, .int .i64 lo, .int .i64 tr, .int .i64 ba, pv, kv]) (c2 := [.int .i64 th', .int .i64 sl', .int .u8 en', .int .i64 bu', .int .u8 dk', .int .i64 dn', cv', .int .i64 t0', .int .i64 t1', .int .i64 t2', .int .i64 t3', .int .i64 t4', .int .i64 t5', .int .i64 lo', .int .i64 tr', .int .i64 ba', pv', kv']) (r := r0) (T := fun W c3 => ∃ cv' pv' kv', c3 = [.int .i64 th, .int .i64 sl, .int .u8 en, .int .i64 bu, .int .u8 dk, .int .i64 dn, cv', .int .i64 t0, .int .i64 t1, .int .i64 t2, .int .i64 t3, .int .i64 t4, .int .i64 t5, .int .i64 lo, .int .i64 tr, .int .i64 ba, pv', kv'] ∧ Uints W cv' l ∧ Progs W pv' L ∧ Ints W kv' q) rfl rfl (range_heap R1) (range_heap R2) rfl rfl rfl (row_lt R1) (row_lt R2) (fun _ _ _ _ _ h => h)
      (fun W hW => K20.out W (E2.trans (Ext.below hW))) (fun W hW => K21.out W (E2.trans (Ext.below hW))) (fun W hW => K12.out W (E2.trans (Ext.below hW))) (fun W c3 hW hT => M20.out W c3 (E2.trans (Ext.below hW)) hT) ?_
    intro a' w' h4 hd hs hb
    have HD := Lib.hid hd
    have HS := Lib.hid hs
    have H4 := Lib.hid h4
    have HB4 := Lib.hid hb
    clear h4 hd hs hb R1 R2 E2
    go_wp2
    (try simp only [Exit.inBlock, Exit.then])
    refine bodyPost_ret (results_tmp rfl _ _ _) (HD.out.trans rfl) ?_
    refine ⟨?_, below_next (below_next (below2 HB1.out) HB2.out) HB4.out⟩
    have := H4.out
    simp only [Act.eval] at this
    rw [this]
  · go_ret
    exact ⟨rfl, below_next (below2 HB1.out) HB3.out⟩
end Go.Proofs.Ytnmlfhogolonoaa
