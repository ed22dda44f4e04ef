/-
  The walks of CopyScript, of EqualScript, of Equal of the reference, and of the law's 'long'. No condition but that the values read as lists.
-/
import Derived.Test.YtnmlfhogolonoaaSeH
import Derived.Test.YtnmlfhogolonoaaSeK
import Derived.Test.YtnmlfhogolonoaaSeL
set_option linter.unusedVariables false
set_option linter.unusedSimpArgs false
namespace Go.Proofs.Ytnmlfhogolonoaa
open Go.RowKit
set_option maxRecDepth 100000 in
set_option maxHeartbeats 4000000 in
theorem copy12 (w : World) (th sl en bu dk dn t0 t1 t2 t3 t4 t5 lo tr ba : Int) (cv pv kv : Value) (l q : List Int) (L : List (List OpT)) (h : Uints w cv l) (hp : Progs w pv L) (hk : Ints w kv q) :
    Calls Try.prog 12 #[.agg #[.int .i64 th, .int .i64 sl, .int .u8 en, .int .i64 bu, .int .u8 dk, .int .i64 dn, cv, .int .i64 t0, .int .i64 t1, .int .i64 t2, .int .i64 t3, .int .i64 t4, .int .i64 t5, .int .i64 lo, .int .i64 tr, .int .i64 ba, pv, kv]] w fun e w' => ∃ cv' pv' kv', e = .returned (.agg #[.int .i64 th, .int .i64 sl, .int .u8 en, .int .i64 bu, .int .u8 dk, .int .i64 dn, cv', .int .i64 t0, .int .i64 t1, .int .i64 t2, .int .i64 t3, .int .i64 t4, .int .i64 t5, .int .i64 lo, .int .i64 tr, .int .i64 ba, pv', kv']) ∧ UintsF w.heap.size w' cv' l ∧ ProgsF w.heap.size w' pv' L ∧ IntsF w.heap.size w' kv' q ∧ Below w.heap.size w w' := by
  have C24 : ∀ W, Ext w W → Calls Try.prog 24 #[.agg #[.int .i64 th, .int .i64 sl, .int .u8 en, .int .i64 bu, .int .u8 dk, .int .i64 dn, cv, .int .i64 t0, .int .i64 t1, .int .i64 t2, .int .i64 t3, .int .i64 t4, .int .i64 t5, .int .i64 lo, .int .i64 tr, .int .i64 ba]] W fun e w' => ∃ v', e = .returned (.agg #[.int .i64 th, .int .i64 sl, .int .u8 en, .int .i64 bu, .int .u8 dk, .int .i64 dn, v', .int .i64 t0, .int .i64 t1, .int .i64 t2, .int .i64 t3, .int .i64 t4, .int .i64 t5, .int .i64 lo, .int .i64 tr, .int .i64 ba]) ∧ UintsF W.heap.size w' v' l ∧ Below W.heap.size W w' := fun W hW => copy24 W th sl en bu dk dn t0 t1 t2 t3 t4 t5 lo tr ba cv l (h.ext fun _ _ _ => IntR.ext hW)
  have C25 : ∀ W, Ext w W → Calls Try.prog 25 #[pv] W fun e w' => ∃ v', e = .returned v' ∧ ProgsF W.heap.size w' v' L ∧ Below W.heap.size W w' := fun W hW => copy25 W pv L (hp.ext fun _ _ _ => ProgR.ext hW)
  have C26 : ∀ W, Ext w W → Calls Try.prog 26 #[kv] W fun e w' => ∃ v', e = .returned v' ∧ IntsF W.heap.size w' v' q ∧ Below W.heap.size W w' := fun W hW => copy26 W kv q (hk.ext fun _ _ _ => IntR.ext hW)
  have K24 := Lib.hid C24
  have K25 := Lib.hid C25
  have K26 := Lib.hid C26
  clear C24 C25 C26 h hp hk
  go_enter Try.func12, Try.ntmps12
  go_wp2
  refine region12 (B := w.heap.size) (b := w.heap.size) (cf := fun cv => [.int .i64 th, .int .i64 sl, .int .u8 en, .int .i64 bu, .int .u8 dk, .int .i64 dn, cv, .int .i64 t0, .int .i64 t1, .int .i64 t2, .int .i64 t3, .int .i64 t4, .int .i64 t5, .int .i64 lo, .int .i64 tr, .int .i64 ba]) rfl (heap_alloc2_old w _ _) (fun _ => rfl) (fun _ _ _ => by simp [Value.oneCell']) rfl (Nat.le_refl _) (fun _ _ _ _ _ h => h) (fun W hW => K24.out W ((ext2 w _ _).trans (Ext.below hW))) (fun W hW => K25.out W ((ext2 w _ _).trans (Ext.below hW))) (fun W hW => K26.out W ((ext2 w _ _).trans (Ext.below hW))) ?_
  intro cv' pv' kv' w1 fc fp fk hb rr ho
  obtain ⟨p1, c1, rfl⟩ := fc.shape
  obtain ⟨p2, c2, rfl⟩ := fp.shape
  obtain ⟨p3, c3, rfl⟩ := fk.shape
  have hz : w1.heap[w.heap.size + 1]? = some (.cells #[.int .i64 0, .int .i64 0, .int .u8 0, .int .i64 0, .int .u8 0, .int .i64 0, .slice none 0 0, .int .i64 0, .int .i64 0, .int .i64 0, .int .i64 0, .int .i64 0, .int .i64 0, .int .i64 0, .int .i64 0, .int .i64 0, .slice none 0 0, .slice none 0 0] 31) := (ho _ (by simp) (by omega)).trans (heap_alloc2_new w _ _)
  have HC := Lib.hid fc
  have HP := Lib.hid fp
  have HK := Lib.hid fk
  have HB := Lib.hid hb
  have HR := Lib.hid rr
  have HZ := Lib.hid hz
  clear fc fp fk hb rr hz ho
  simp only [a12, Act.put, List.setIfInBounds_toArray, List.set_cons_zero, List.set_cons_succ]
  go_wp2_with (first | (refine wpList_load_mid rfl 31 (.tmp 1) rfl w.heap.size 0 rfl [.int .i64 th, .int .i64 sl, .int .u8 en, .int .i64 bu, .int .u8 dk, .int .i64 dn, .slice p1 l.length c1, .int .i64 t0, .int .i64 t1, .int .i64 t2, .int .i64 t3, .int .i64 t4, .int .i64 t5, .int .i64 lo, .int .i64 tr, .int .i64 ba, .slice p2 L.length c2, .slice p3 q.length c3] _ HR.out Try.underlying31 rfl Try.size31 ?_) | (refine wpList_store_mid rfl 31 (.tmp 2) (.tmp 15) rfl (w.heap.size + 1) 0 _ rfl rfl (there_heap HZ.out 0 18 (by simp)) Try.size31 (by simp [Value.oneCell']) ?_))
  (try simp only [Exit.inBlock, Exit.then])
  refine bodyPost_ret (results_cell1 rfl rfl (run_loadVar_mid _ _ _ 31 [.int .i64 th, .int .i64 sl, .int .u8 en, .int .i64 bu, .int .u8 dk, .int .i64 dn, .slice p1 l.length c1, .int .i64 t0, .int .i64 t1, .int .i64 t2, .int .i64 t3, .int .i64 t4, .int .i64 t5, .int .i64 lo, .int .i64 tr, .int .i64 ba, .slice p2 L.length c2, .slice p3 q.length c3] _ (World.rangeAt_setCells_same _ _ _ _ (there_heap HZ.out 0 18 (by simp))) Try.underlying31 rfl Try.size31)) rfl ?_
  have hs : w.heap.size ≤ ((w.alloc (.cells #[.int .i64 th, .int .i64 sl, .int .u8 en, .int .i64 bu, .int .u8 dk, .int .i64 dn, cv, .int .i64 t0, .int .i64 t1, .int .i64 t2, .int .i64 t3, .int .i64 t4, .int .i64 t5, .int .i64 lo, .int .i64 tr, .int .i64 ba, pv, kv] 31)).alloc (.cells #[.int .i64 0, .int .i64 0, .int .u8 0, .int .i64 0, .int .u8 0, .int .i64 0, .slice none 0 0, .int .i64 0, .int .i64 0, .int .i64 0, .int .i64 0, .int .i64 0, .int .i64 0, .int .i64 0, .int .i64 0, .int .i64 0, .slice none 0 0, .slice none 0 0] 31)).heap.size := by simp; omega
  have FE : FExt ((w.alloc (.cells #[.int .i64 th, .int .i64 sl, .int .u8 en, .int .i64 bu, .int .u8 dk, .int .i64 dn, cv, .int .i64 t0, .int .i64 t1, .int .i64 t2, .int .i64 t3, .int .i64 t4, .int .i64 t5, .int .i64 lo, .int .i64 tr, .int .i64 ba, pv, kv] 31)).alloc (.cells #[.int .i64 0, .int .i64 0, .int .u8 0, .int .i64 0, .int .u8 0, .int .i64 0, .slice none 0 0, .int .i64 0, .int .i64 0, .int .i64 0, .int .i64 0, .int .i64 0, .int .i64 0, .int .i64 0, .int .i64 0, .int .i64 0, .slice none 0 0, .slice none 0 0] 31)).heap.size w1 (w1.setCells (w.heap.size + 1) 0 [.int .i64 th, .int .i64 sl, .int .u8 en, .int .i64 bu, .int .u8 dk, .int .i64 dn, .slice p1 l.length c1, .int .i64 t0, .int .i64 t1, .int .i64 t2, .int .i64 t3, .int .i64 t4, .int .i64 t5, .int .i64 lo, .int .i64 tr, .int .i64 ba, .slice p2 L.length c2, .slice p3 q.length c3]) := FExt.setCells (by simp) _ _ (FExt.refl _ _)
  refine ⟨_, _, _, rfl, ?_, ?_, ?_, ?_⟩
  · exact (HC.out.ext fun _ _ _ h => IntR.fext FE h).mono hs
  · have := (HP.out.ext fun _ _ _ h => ProgRF.fext FE h).mono hs
    obtain ⟨⟨p, c, e, g1, g2, g3⟩, g4⟩ := this
    exact ⟨⟨p, c, e, g1, g2, fun hl => let ⟨b, o, e', hx⟩ := g3 hl; ⟨b, o, e', fun i x hi => (hx i x hi).mono hs⟩⟩, g4⟩
  · exact (HK.out.ext fun _ _ _ h => IntR.fext FE h).mono hs
  · exact below_sets (by omega) _ _ ((below_al1 (below_al1 (Below.refl w.heap.size w) _) _).trans HB.out)
set_option maxRecDepth 100000 in
set_option maxHeartbeats 4000000 in
theorem eq17 (w : World) (th sl en bu dk dn t0 t1 t2 t3 t4 t5 lo tr ba th' sl' en' bu' dk' dn' t0' t1' t2' t3' t4' t5' lo' tr' ba' : Int) (cv cv' pv pv' kv kv' : Value) (l l' : List Int) (L L' : List (List OpT)) (q q' : List Int)
    (h : Uints w cv l) (h' : Uints w cv' l') (hp : Progs w pv L) (hp' : Progs w pv' L') (hk : Ints w kv q) (hk' : Ints w kv' q') :
    Calls Try.prog 17 #[.agg #[.int .i64 th, .int .i64 sl, .int .u8 en, .int .i64 bu, .int .u8 dk, .int .i64 dn, cv, .int .i64 t0, .int .i64 t1, .int .i64 t2, .int .i64 t3, .int .i64 t4, .int .i64 t5, .int .i64 lo, .int .i64 tr, .int .i64 ba, pv, kv], .agg #[.int .i64 th', .int .i64 sl', .int .u8 en', .int .i64 bu', .int .u8 dk', .int .i64 dn', cv', .int .i64 t0', .int .i64 t1', .int .i64 t2', .int .i64 t3', .int .i64 t4', .int .i64 t5', .int .i64 lo', .int .i64 tr', .int .i64 ba', pv', kv']] w fun e w' => e = .returned (.bool (scrEq th sl en bu dk dn t0 t1 t2 t3 t4 t5 lo tr ba l L q th' sl' en' bu' dk' dn' t0' t1' t2' t3' t4' t5' lo' tr' ba' l' L' q')) ∧ Below w.heap.size w w' := by
  have C36 : ∀ W, Ext w W → Calls Try.prog 36 #[.agg #[.int .i64 th, .int .i64 sl, .int .u8 en, .int .i64 bu, .int .u8 dk, .int .i64 dn, cv, .int .i64 t0, .int .i64 t1, .int .i64 t2, .int .i64 t3, .int .i64 t4, .int .i64 t5, .int .i64 lo, .int .i64 tr, .int .i64 ba], .agg #[.int .i64 th', .int .i64 sl', .int .u8 en', .int .i64 bu', .int .u8 dk', .int .i64 dn', cv', .int .i64 t0', .int .i64 t1', .int .i64 t2', .int .i64 t3', .int .i64 t4', .int .i64 t5', .int .i64 lo', .int .i64 tr', .int .i64 ba']] W fun e w' => e = .returned (.bool (cfgEq th sl en bu dk dn t0 t1 t2 t3 t4 t5 lo tr ba l th' sl' en' bu' dk' dn' t0' t1' t2' t3' t4' t5' lo' tr' ba' l')) ∧ Below W.heap.size W w' := fun W hW => eq36 W th sl en bu dk dn t0 t1 t2 t3 t4 t5 lo tr ba th' sl' en' bu' dk' dn' t0' t1' t2' t3' t4' t5' lo' tr' ba' cv cv' l l' (h.ext fun _ _ _ => IntR.ext hW) (h'.ext fun _ _ _ => IntR.ext hW)
  have C37 : ∀ W, Ext w W → Calls Try.prog 37 #[pv, pv'] W fun e w' => e = .returned (.bool (decide (L = L'))) ∧ ∃ m, w' = W.drewN m := fun W hW => eq37 W pv pv' L L' (hp.ext fun _ _ _ => ProgR.ext hW) (hp'.ext fun _ _ _ => ProgR.ext hW)
  have C38 : ∀ W, Ext w W → Calls Try.prog 38 #[kv, kv'] W fun e w' => e = .returned (.bool (decide (q = q'))) ∧ ∃ m, w' = W.drewN m := fun W hW => eq38 W kv kv' q q' (hk.ext fun _ _ _ => IntR.ext hW) (hk'.ext fun _ _ _ => IntR.ext hW)
  unfold scrEq
  obtain ⟨rc, hrc⟩ : ∃ r, cfgEq th sl en bu dk dn t0 t1 t2 t3 t4 t5 lo tr ba l th' sl' en' bu' dk' dn' t0' t1' t2' t3' t4' t5' lo' tr' ba' l' = r := ⟨_, rfl⟩
  obtain ⟨rL, hrL⟩ : ∃ r, decide (L = L') = r := ⟨_, rfl⟩
  obtain ⟨rq, hrq⟩ : ∃ r, decide (q = q') = r := ⟨_, rfl⟩
  rw [hrc] at C36
  rw [hrL] at C37
  rw [hrq] at C38
  rw [hrc, hrL, hrq]
  have K36 := Lib.hid C36
  have K37 := Lib.hid C37
  have K38 := Lib.hid C38
  clear C36 C37 C38 h h' hp hp' hk hk' hrc hrL hrq
  cases rc <;> cases rL <;> cases rq
  all_goals
    go_enter Try.func17, Try.ntmps17
    go_wp2_with (first | (go_at_call 36; refine (K36.out _ (ext2 w _ _)).mono ?_; rintro e w1 ⟨rfl, hb⟩; have x0 := range_heap (row1 hb) 16 _ rfl; have x1 := range_heap (row1 hb) 17 _ rfl; have y0 := range_heap (row2 hb) 16 _ rfl; have y1 := range_heap (row2 hb) 17 _ rfl; simp only [Nat.zero_add] at x0 x1 y0 y1; have HX := Lib.hid ((ext2 w _ _).trans (Ext.below hb)); have HBw := Lib.hid (below2 hb); clear hb) | (go_at_call 37; refine (K37.out _ HX.out).mono ?_; rintro e w2 ⟨rfl, m, rfl⟩) | (go_at_call 38; refine (K38.out _ (HX.out.drawn _)).mono ?_; rintro e w3 ⟨rfl, m', rfl⟩))
    go_ret
    exact ⟨ret_bool (by simp), by (repeat (first | exact HBw.out | refine below_drewN ?_ _))⟩
set_option maxRecDepth 100000 in
set_option maxHeartbeats 4000000 in
theorem eq21 (w : World) (th sl en bu dk dn t0 t1 t2 t3 t4 t5 lo tr ba th' sl' en' bu' dk' dn' t0' t1' t2' t3' t4' t5' lo' tr' ba' : Int) (cv cv' pv pv' kv kv' : Value) (l l' : List Int) (L L' : List (List OpT)) (q q' : List Int)
    (h : Uints w cv l) (h' : Uints w cv' l') (hp : Progs w pv L) (hp' : Progs w pv' L') (hk : Ints w kv q) (hk' : Ints w kv' q') :
    Calls Try.prog 21 #[.agg #[.int .i64 th, .int .i64 sl, .int .u8 en, .int .i64 bu, .int .u8 dk, .int .i64 dn, cv, .int .i64 t0, .int .i64 t1, .int .i64 t2, .int .i64 t3, .int .i64 t4, .int .i64 t5, .int .i64 lo, .int .i64 tr, .int .i64 ba, pv, kv], .agg #[.int .i64 th', .int .i64 sl', .int .u8 en', .int .i64 bu', .int .u8 dk', .int .i64 dn', cv', .int .i64 t0', .int .i64 t1', .int .i64 t2', .int .i64 t3', .int .i64 t4', .int .i64 t5', .int .i64 lo', .int .i64 tr', .int .i64 ba', pv', kv']] w fun e w' => e = .returned (.bool (scrEq th sl en bu dk dn t0 t1 t2 t3 t4 t5 lo tr ba l L q th' sl' en' bu' dk' dn' t0' t1' t2' t3' t4' t5' lo' tr' ba' l' L' q')) ∧ Below w.heap.size w w' := by
  have C : ∀ W, Ext w W → Calls Try.prog 17 #[.agg #[.int .i64 th, .int .i64 sl, .int .u8 en, .int .i64 bu, .int .u8 dk, .int .i64 dn, cv, .int .i64 t0, .int .i64 t1, .int .i64 t2, .int .i64 t3, .int .i64 t4, .int .i64 t5, .int .i64 lo, .int .i64 tr, .int .i64 ba, pv, kv], .agg #[.int .i64 th', .int .i64 sl', .int .u8 en', .int .i64 bu', .int .u8 dk', .int .i64 dn', cv', .int .i64 t0', .int .i64 t1', .int .i64 t2', .int .i64 t3', .int .i64 t4', .int .i64 t5', .int .i64 lo', .int .i64 tr', .int .i64 ba', pv', kv']] W fun e w' => e = .returned (.bool (scrEq th sl en bu dk dn t0 t1 t2 t3 t4 t5 lo tr ba l L q th' sl' en' bu' dk' dn' t0' t1' t2' t3' t4' t5' lo' tr' ba' l' L' q')) ∧ Below W.heap.size W w' := fun W hW => eq17 W th sl en bu dk dn t0 t1 t2 t3 t4 t5 lo tr ba th' sl' en' bu' dk' dn' t0' t1' t2' t3' t4' t5' lo' tr' ba' cv cv' pv pv' kv kv' l l' L L' q q'
    (h.ext fun _ _ _ => IntR.ext hW) (h'.ext fun _ _ _ => IntR.ext hW) (hp.ext fun _ _ _ => ProgR.ext hW) (hp'.ext fun _ _ _ => ProgR.ext hW) (hk.ext fun _ _ _ => IntR.ext hW) (hk'.ext fun _ _ _ => IntR.ext hW)
  obtain ⟨r, hr⟩ : ∃ r, scrEq th sl en bu dk dn t0 t1 t2 t3 t4 t5 lo tr ba l L q th' sl' en' bu' dk' dn' t0' t1' t2' t3' t4' t5' lo' tr' ba' l' L' q' = r := ⟨_, rfl⟩
  rw [hr] at C ⊢
  have K := Lib.hid C
  clear C h h' hp hp' hk hk' hr
  go_enter Try.func21, Try.ntmps21
  go_wp2_with (first | (go_at_call 17; refine (K.out _ (ext2 w _ _)).mono ?_; rintro e w1 ⟨rfl, hb⟩; have HBw := Lib.hid (below2 hb); clear hb) | (refine wpList_load_mid rfl 31 (.tmp 2) rfl w.heap.size 0 rfl [.int .i64 th, .int .i64 sl, .int .u8 en, .int .i64 bu, .int .u8 dk, .int .i64 dn, cv, .int .i64 t0, .int .i64 t1, .int .i64 t2, .int .i64 t3, .int .i64 t4, .int .i64 t5, .int .i64 lo, .int .i64 tr, .int .i64 ba, pv, kv] _ (range_heap (heap_alloc2_old w _ _)) Try.underlying31 rfl Try.size31 ?_) | (refine wpList_load_mid rfl 31 (.tmp 3) rfl (w.heap.size + 1) 0 rfl [.int .i64 th', .int .i64 sl', .int .u8 en', .int .i64 bu', .int .u8 dk', .int .i64 dn', cv', .int .i64 t0', .int .i64 t1', .int .i64 t2', .int .i64 t3', .int .i64 t4', .int .i64 t5', .int .i64 lo', .int .i64 tr', .int .i64 ba', pv', kv'] _ (range_heap (heap_alloc2_new w _ _)) Try.underlying31 rfl Try.size31 ?_))
  go_ret
  exact ⟨rfl, HBw.out⟩
set_option maxRecDepth 100000 in
set_option maxHeartbeats 4000000 in
theorem long10 (w : World) (th sl en bu dk dn t0 t1 t2 t3 t4 t5 lo tr ba : Int) (cv pv kv : Value) (l q : List Int) (L : List (List OpT)) (h : Uints w cv l) (hp : Progs w pv L) (hk : Ints w kv q) :
    Calls Try.prog 10 #[.agg #[.int .i64 th, .int .i64 sl, .int .u8 en, .int .i64 bu, .int .u8 dk, .int .i64 dn, cv, .int .i64 t0, .int .i64 t1, .int .i64 t2, .int .i64 t3, .int .i64 t4, .int .i64 t5, .int .i64 lo, .int .i64 tr, .int .i64 ba, pv, kv]] w fun e w' => ∃ r, e = .returned (.bool r) ∧ Below w.heap.size w w' := by
  obtain ⟨cp, cc, rfl, -, ⟨hm1, -⟩, -⟩ := h
  obtain ⟨kp, kc, rfl, -, ⟨hm2, -⟩, -⟩ := hk
  obtain ⟨p, c, rfl, hc, ⟨hm, hB⟩, h⟩ := hp
  obtain ⟨N, hN⟩ : ∃ N, L.length = N := ⟨_, rfl⟩
  obtain ⟨M, hM⟩ : ∃ N, l.length = N := ⟨_, rfl⟩
  obtain ⟨O, hO⟩ : ∃ N, q.length = N := ⟨_, rfl⟩
  rw [hN, hM, hO]
  unfold maxLen at hm
  have hN63 : N ≤ 9223372036854775807 := by omega
  by_cases hnil : L = []
  · have h0 : N = 0 := by subst hnil; simpa using hN.symm
    subst h0
    clear h hnil hB hc hm hN hM hO hm1 hm2
    go_enter Try.func10, Try.ntmps10
    go_wp2
    refine wp_loop_rounds 1 ?_
    rw [rounds_succ]
    go_wp2
    go_ret
    exact ⟨_, rfl, below_al1 (Below.refl _ _) _⟩
  · obtain ⟨b, o, rfl, hE⟩ := h hnil
    have HE := Lib.hid hE
    have HN := Lib.hid hN
    clear h hnil hE hN hB hc hm hM hO hm1 hm2
    go_enter Try.func10, Try.ntmps10
    go_wp2
    go_loopw [3, 4] (fun v i wr => ∃ k : Nat, k ≤ N ∧ i = .int .i64 k ∧ (∃ n, v = .int .i64 n) ∧ ∃ m, wr = (w.alloc (.cells #[.int .i64 th, .int .i64 sl, .int .u8 en, .int .i64 bu, .int .u8 dk, .int .i64 dn, .slice cp M cc, .int .i64 t0, .int .i64 t1, .int .i64 t2, .int .i64 t3, .int .i64 t4, .int .i64 t5, .int .i64 lo, .int .i64 tr, .int .i64 ba, .slice (some ⟨b, o, none⟩) N c, .slice kp O kc] 31)).drewN m) (fun _ i _ => N - (intOf i).toNat)
    case atStart => exact ⟨0, Nat.zero_le _, rfl, ⟨_, rfl⟩, 0, rfl⟩
    case round =>
      obtain ⟨k, hk, rfl, ⟨n, rfl⟩, m, rfl⟩ := hrel
      by_cases hlt : k < N
      · obtain ⟨x, hx⟩ : ∃ x, L[k]? = some x := ⟨L[k]'(by have := HN.out; omega), by simp⟩
        obtain ⟨vx, gx, ⟨px, cx, rfl, -⟩⟩ := HE.out k x hx
        have g : ((w.alloc (.cells #[.int .i64 th, .int .i64 sl, .int .u8 en, .int .i64 bu, .int .u8 dk, .int .i64 dn, .slice cp M cc, .int .i64 t0, .int .i64 t1, .int .i64 t2, .int .i64 t3, .int .i64 t4, .int .i64 t5, .int .i64 lo, .int .i64 tr, .int .i64 ba, .slice (some ⟨b, o, none⟩) N c, .slice kp O kc] 31)).drewN m).cell? ⟨b, o + k, none⟩ = some (.slice px x.length cx) := ((Ext.refl w).alloc _).drawn m _ _ (by simpa using gx)
        have g' : (w.alloc (.cells #[.int .i64 th, .int .i64 sl, .int .u8 en, .int .i64 bu, .int .u8 dk, .int .i64 dn, .slice cp M cc, .int .i64 t0, .int .i64 t1, .int .i64 t2, .int .i64 t3, .int .i64 t4, .int .i64 t5, .int .i64 lo, .int .i64 tr, .int .i64 ba, .slice (some ⟨b, o, none⟩) N c, .slice kp O kc] 31)).cell? ⟨b, o + k, none⟩ = some (.slice px x.length cx) := ((Ext.refl w).alloc _) _ _ (by simpa using gx)
        clear gx hx
        have i0' : (0 : Int) ≤ (k : Int) := Int.natCast_nonneg _
        have i1 : (k : Int) < (N : Int) := by omega
        go_wp2
        go_roundw
        case rel => exact ⟨k + 1, by omega, by go_num, ⟨_, rfl⟩, m, rfl⟩
        case measure => simp [intOf]; omega
      · go_wp2
        go_ret
        exact ⟨_, rfl, below_drewN (below_al1 (Below.refl _ _) _) _⟩
end Go.Proofs.Ytnmlfhogolonoaa
