/-
  Ranges of cells in worlds that are not written out; the walks of CopyDomain and CopyConfig. No condition but that the values read as lists.
-/
import Derived.Test.YtnmlfhogolonoaaSeG
import Derived.Deep.MidRow
set_option linter.unusedVariables false
set_option linter.unusedSimpArgs false
namespace Go.Proofs.Ytnmlfhogolonoaa
open Go.RowKit
theorem results_cell1 {P : Program} {fn : Func} {p : Tmp} {ty : TypeId} (h : fn.results = #[.cell p ty]) {tmps : Array Value} {w : World} {a : Addr} {v : Value} (hp : tmps.getD p undef = .pointer (some a))
    (hl : (loadVar ty a).run P w = .ok v w) : (results fn tmps).run P w = .ok v w := by
  have hp' : tmps[p]?.getD undef = .pointer (some a) := by simpa using hp
  simp [results, h, hp', asAddr, hl]
theorem range_heap {w : World} {b : Nat} {C : Array Value} {t : TypeId} {fr : Nat × Nat} (h : w.heap[b]? = some (.cells C t fr)) : w.rangeAt b 0 C.toList := fun j v hv => by
  rw [cell_of_row w b _ C t fr h, Nat.zero_add]
  simpa using hv
theorem there_heap {w : World} {b : Nat} {C : Array Value} {t : TypeId} (h : w.heap[b]? = some (.cells C t (0, 0))) (o n : Nat) (hn : o + n ≤ C.size) : w.there b o n := fun j hj => by
  refine ⟨?_, frozen_of_row w b _ C t h⟩
  rw [cell_of_row w b _ C t (0, 0) h, Array.getElem?_eq_getElem (by omega)]
  rfl
theorem range_splice {w : World} {b : Nat} {cs : List Value} (h : w.rangeAt b 0 cs) (o : Nat) (vs : List Value) (ho : o + vs.length ≤ cs.length) : (w.setCells b o vs).rangeAt b 0 (cs.take o ++ vs ++ cs.drop (o + vs.length)) := fun j v hv => by
  rw [Nat.zero_add]
  have out : j < o ∨ o + vs.length ≤ j → cs[j]? = some v → (w.setCells b o vs).cell? ⟨b, j, none⟩ = some v := fun hj hc => by
    rw [World.cell?_setCells_out b vs o w ⟨b, j, none⟩ (fun _ _ => hj)]
    simpa using h j v hc
  have lo : (cs.take o).length = o := by rw [List.length_take]; omega
  by_cases h1 : j < o
  · refine out (.inl h1) ?_
    rw [List.append_assoc, List.getElem?_append_left (by omega), List.getElem?_take, if_pos h1] at hv
    exact hv
  · by_cases h2 : j < o + vs.length
    · rw [List.getElem?_append_left (by rw [List.length_append]; omega), List.getElem?_append_right (by omega), lo] at hv
      have hj := (List.getElem?_eq_some_iff.1 hv)
      obtain ⟨hj, he⟩ := hj
      have := World.cell?_setCells_in b vs o w (fun i hi => by
        have := (h (o + i) (cs[o + i]'(by omega)) (by simp [List.getElem?_eq_getElem (show o + i < cs.length by omega)]))
        rw [Nat.zero_add] at this
        rw [this]; rfl) (j - o) hj
      rw [show o + (j - o) = j by omega, he] at this
      exact this
    · refine out (.inr (by omega)) ?_
      rw [List.getElem?_append_right (by rw [List.length_append]; omega), List.length_append, lo, List.getElem?_drop] at hv
      rw [show o + vs.length + (j - (o + vs.length)) = j by omega] at hv
      exact hv
theorem FExt.setCells {base : Nat} {w0 : World} {b : Nat} (hb : b < base) : ∀ (vs : List Value) (o : Nat) {w : World}, FExt base w0 w → FExt base w0 (w.setCells b o vs)
  | [], _, _, h => h
  | v :: r, o, _, h => FExt.setCells hb r (o + 1) (h.setCell (p := ⟨b, o, none⟩) hb v)
theorem below_sets {B : Nat} {a : World} {b : Nat} (hb : B ≤ b) : ∀ (vs : List Value) (o : Nat) {w : World}, Below B a w → Below B a (w.setCells b o vs)
  | [], _, _, h => h
  | v :: r, o, _, h => below_sets hb r (o + 1) (h.setCell (p := ⟨b, o, none⟩) hb v)
theorem row1 {w w1 : World} {A Z : Obj} (hb : Below ((w.alloc A).alloc Z).heap.size ((w.alloc A).alloc Z) w1) : w1.heap[w.heap.size]? = some A := by
  rw [hb.block _ (by simp; omega)]
  exact heap_alloc2_old w A Z
theorem row2 {w w1 : World} {A Z : Obj} (hb : Below ((w.alloc A).alloc Z).heap.size ((w.alloc A).alloc Z) w1) : w1.heap[w.heap.size + 1]? = some Z := by
  rw [hb.block _ (by simp)]
  exact heap_alloc2_new w A Z
theorem below2 {w w1 : World} {A Z : Obj} (hb : Below ((w.alloc A).alloc Z).heap.size ((w.alloc A).alloc Z) w1) : Below w.heap.size w w1 :=
  (below_al1 (below_al1 (Below.refl w.heap.size w) A) Z).trans (hb.mono (by simp; omega))
theorem ext2 (w : World) (A Z : Obj) : Ext w ((w.alloc A).alloc Z) := ((Ext.refl w).alloc A).alloc Z
theorem size2 (w : World) (A Z : Obj) : ((w.alloc A).alloc Z).heap.size = w.heap.size + 1 + 1 := by simp
theorem cell_row1 {w w1 : World} {c0 c1 c2 : Value} {t : TypeId} {Z : Obj} (hb : Below ((w.alloc (.cells #[c0, c1, c2] t)).alloc Z).heap.size ((w.alloc (.cells #[c0, c1, c2] t)).alloc Z) w1) :
    w1.cell? ⟨w.heap.size, 2, none⟩ = some c2 ∧ w1.frozen? ⟨w.heap.size, 2, none⟩ = false := by
  refine ⟨?_, ((there_heap (row1 hb) 2 1 (by simp)) 0 (by decide)).2⟩
  have := range_heap (row1 hb) 2 c2 rfl
  rw [Nat.zero_add] at this
  exact this
theorem Try.size22 : (Try.prog.info? 22).map (·.size) = some 1 := by kernel_rfl
theorem Try.size24 : (Try.prog.info? 24).map (·.size) = some 3 := by kernel_rfl
theorem Try.size27 : (Try.prog.info? 27).map (·.size) = some 16 := by kernel_rfl
theorem Try.size31 : (Try.prog.info? 31).map (·.size) = some 18 := by kernel_rfl
set_option maxRecDepth 100000 in
set_option maxHeartbeats 4000000 in
theorem copy53 (w : World) (dk dn : Int) (cv : Value) (l : List Int) (h : Uints w cv l) :
    Calls Try.prog 53 #[.agg #[.int .u8 dk, .int .i64 dn, cv]] w fun e w' => ∃ v', e = .returned (.agg #[.int .u8 dk, .int .i64 dn, v']) ∧ UintsF w.heap.size w' v' l ∧ Below w.heap.size w w' := by
  have C : ∀ W, Ext w W → Calls Try.prog 69 #[cv] W fun e w' => ∃ v', e = .returned v' ∧ UintsF W.heap.size w' v' l ∧ Below W.heap.size W w' := fun W hW => copy69 W cv l (h.ext fun _ _ _ => IntR.ext hW)
  have K := Lib.hid C
  obtain ⟨cp, cc, rfl, -⟩ := h
  clear C
  go_enter Try.func53, Try.ntmps53
  go_wp2_with (first | (go_at_call 69; refine (K.out _ (ext2 w _ _)).mono ?_; rintro e w1 ⟨v', rfl, hf, hb⟩; obtain ⟨p, c, rfl⟩ := hf.shape; obtain ⟨q1, q2⟩ := cell_row1 hb; have HF := Lib.hid hf; have HV := Lib.hid hb; clear hf hb) | (refine wpList_load_mid rfl 24 (.tmp 1) rfl w.heap.size 0 rfl [.int .u8 dk, .int .i64 dn, .slice p l.length c] _ (range_splice (range_heap (row1 HV.out)) 2 [.slice p l.length c] (by simp)) Try.underlying24 rfl Try.size24 ?_) | (refine wpList_store_mid rfl 24 (.tmp 2) (.tmp 7) rfl (w.heap.size + 1) 0 _ rfl rfl (World.there_setCells (there_heap (row2 HV.out) 0 3 (by simp)) w.heap.size 2 [.slice p l.length c]) Try.size24 (by simp [Value.oneCell']) ?_))
  (try simp only [Exit.inBlock, Exit.then])
  refine bodyPost_ret (results_cell1 rfl rfl (run_loadVar_mid _ _ _ 24 [.int .u8 dk, .int .i64 dn, .slice p l.length c] _ (World.rangeAt_setCells_same _ _ _ _ (World.there_setCells (there_heap (row2 HV.out) 0 3 (by simp)) w.heap.size 2 [.slice p l.length c])) Try.underlying24 rfl Try.size24)) rfl ?_
  refine ⟨_, rfl, ?_, ?_⟩
  · have hf := HF.out
    refine (hf.ext fun _ _ _ hb => IntR.fext (FExt.setCells (by rw [size2]; omega) _ _ (FExt.setCells (by rw [size2]; omega) [.slice p l.length c] 2 (FExt.refl _ _))) hb).mono (by rw [size2]; omega)
  · exact below_sets (by omega) _ _ (below_sets (Nat.le_refl _) [.slice p l.length c] 2 (below2 HV.out))
set_option maxRecDepth 100000 in
set_option maxHeartbeats 4000000 in
theorem copy24 (w : World) (th sl en bu dk dn t0 t1 t2 t3 t4 t5 lo tr ba : Int) (cv : Value) (l : List Int) (h : Uints w cv l) :
    Calls Try.prog 24 #[.agg #[.int .i64 th, .int .i64 sl, .int .u8 en, .int .i64 bu, .int .u8 dk, .int .i64 dn, cv, .int .i64 t0, .int .i64 t1, .int .i64 t2, .int .i64 t3, .int .i64 t4, .int .i64 t5, .int .i64 lo, .int .i64 tr, .int .i64 ba]] w fun e w' => ∃ v', e = .returned (.agg #[.int .i64 th, .int .i64 sl, .int .u8 en, .int .i64 bu, .int .u8 dk, .int .i64 dn, v', .int .i64 t0, .int .i64 t1, .int .i64 t2, .int .i64 t3, .int .i64 t4, .int .i64 t5, .int .i64 lo, .int .i64 tr, .int .i64 ba]) ∧ UintsF w.heap.size w' v' l ∧ Below w.heap.size w w' := by
  have C : ∀ W, Ext w W → Calls Try.prog 53 #[.agg #[.int .u8 dk, .int .i64 dn, cv]] W fun e w' => ∃ v', e = .returned (.agg #[.int .u8 dk, .int .i64 dn, v']) ∧ UintsF W.heap.size w' v' l ∧ Below W.heap.size W w' := fun W hW => copy53 W dk dn cv l (h.ext fun _ _ _ => IntR.ext hW)
  have K := Lib.hid C
  obtain ⟨cp, cc, rfl, -⟩ := h
  clear C
  go_enter Try.func24, Try.ntmps24
  go_wp2_with (first | (go_at_call 53; refine (K.out _ (ext2 w _ _)).mono ?_; rintro e w1 ⟨v', rfl, hf, hb⟩; obtain ⟨p, c, rfl⟩ := hf.shape; have HF := Lib.hid hf; have HV := Lib.hid hb; clear hf hb) | (refine wpList_store_mid rfl 24 (.tmp 6) (.tmp 5) rfl w.heap.size 4 _ rfl rfl (there_heap (row1 HV.out) 4 3 (by simp)) Try.size24 (by simp [Value.oneCell']) ?_) | (refine wpList_load_mid rfl 27 (.tmp 1) rfl w.heap.size 0 rfl [.int .i64 th, .int .i64 sl, .int .u8 en, .int .i64 bu, .int .u8 dk, .int .i64 dn, .slice p l.length c, .int .i64 t0, .int .i64 t1, .int .i64 t2, .int .i64 t3, .int .i64 t4, .int .i64 t5, .int .i64 lo, .int .i64 tr, .int .i64 ba] _ (range_splice (range_heap (row1 HV.out)) 4 [.int .u8 dk, .int .i64 dn, .slice p l.length c] (by simp)) Try.underlying27 rfl Try.size27 ?_) | (refine wpList_store_mid rfl 27 (.tmp 2) (.tmp 7) rfl (w.heap.size + 1) 0 _ rfl rfl (World.there_setCells (there_heap (row2 HV.out) 0 16 (by simp)) _ _ _) Try.size27 (by simp [Value.oneCell']) ?_))
  (try simp only [Exit.inBlock, Exit.then])
  refine bodyPost_ret (results_cell1 rfl rfl (run_loadVar_mid _ _ _ 27 [.int .i64 th, .int .i64 sl, .int .u8 en, .int .i64 bu, .int .u8 dk, .int .i64 dn, .slice p l.length c, .int .i64 t0, .int .i64 t1, .int .i64 t2, .int .i64 t3, .int .i64 t4, .int .i64 t5, .int .i64 lo, .int .i64 tr, .int .i64 ba] _ (World.rangeAt_setCells_same _ _ _ _ (World.there_setCells (there_heap (row2 HV.out) 0 16 (by simp)) _ _ _)) Try.underlying27 rfl Try.size27)) rfl ?_
  refine ⟨_, rfl, ?_, ?_⟩
  · have hf := HF.out
    refine (hf.ext fun _ _ _ hb => IntR.fext (FExt.setCells (by rw [size2]; omega) _ _ (FExt.setCells (by rw [size2]; omega) _ _ (FExt.refl _ _))) hb).mono (by rw [size2]; omega)
  · exact below_sets (by omega) _ _ (below_sets (Nat.le_refl _) _ _ (below2 HV.out))
end Go.Proofs.Ytnmlfhogolonoaa
