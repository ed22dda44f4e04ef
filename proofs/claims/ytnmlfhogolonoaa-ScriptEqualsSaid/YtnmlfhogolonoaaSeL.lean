/-
  The walk of CopyPrograms: what the copy reads as is what was copied, in new memory. No condition but that the value reads as a list.
-/
import Derived.Test.YtnmlfhogolonoaaSeG
set_option linter.unusedVariables false
set_option linter.unusedSimpArgs false
namespace Go.Proofs.Ytnmlfhogolonoaa
open Go.RowKit
theorem own_below {w w' : World} {base : Nat} {e : TypeId} {s : Nat} {v : Value} {n : Nat} {xs : List Value} (h : w.ownsRow base e s v n xs) (hb : Below w.heap.size w w') : w'.ownsRow base e s v n xs := by
  obtain ⟨h1, h2 | ⟨g, cap, cur, hv, hg, hh, h3⟩⟩ := h
  · exact ⟨h1, .inl h2⟩
  · exact ⟨h1, .inr ⟨g, cap, cur, hv, hg, by rw [hb.block g (Array.getElem?_eq_some_iff.1 hh).1]; exact hh, h3⟩⟩
/-- an operation's list stands when another row grows -/
theorem ops_grown {base : Nat} {w w' : World} {u v : Value} {x : List OpT} {n : Nat} {xs : List Value} (h : OpsF base w u x) (ht : Typed 45 w u) (hown : w.ownsRow base 42 1 v n xs) (hg : w.grownBy w' v.ownBlock) :
    OpsF base w' u x ∧ Typed 45 w' u := by
  have row : ∀ a m c, u = .slice (some a) m c → some a.block ≠ v.ownBlock := fun a m c e h => by
    obtain ⟨cur, fr, hc⟩ := ht a m c e
    rcases hown.2 with ⟨rfl, _⟩ | ⟨g, cap, cur', rfl, _, hh, _⟩
    · cases h
    · simp only [Value.ownBlock, Option.some.injEq] at h
      rw [h, hh] at hc
      simp at hc
  refine ⟨⟨?_, h.2⟩, fun a m c e => ?_⟩
  · obtain ⟨p, c, e, h1, h2, h3⟩ := h.1
    refine ⟨p, c, e, h1, h2, fun hl => ?_⟩
    obtain ⟨b, o, e', hx⟩ := h3 hl
    have hr := row ⟨b, o, none⟩ _ _ (by rw [e, e'])
    refine ⟨b, o, e', fun i y hi => ?_⟩
    have := hx i y hi
    exact ⟨⟨hg.cell this.1.1 hr, hg.cell this.1.2.1 hr, hg.cell this.1.2.2.1 hr, hg.cell this.1.2.2.2.1 hr, hg.cell this.1.2.2.2.2.1 hr, hg.cell this.1.2.2.2.2.2.1 hr, hg.cell this.1.2.2.2.2.2.2 hr⟩, this.2⟩
  · obtain ⟨cur, fr, hc⟩ := ht a m c e
    exact ⟨cur, fr, by rw [hg.block a.block (Array.getElem?_eq_some_iff.1 hc).1 (row a m c e)]; exact hc⟩
theorem typed_below {t : TypeId} {w w' : World} {v : Value} (h : Typed t w v) (hb : Below w.heap.size w w') : Typed t w' v := fun a n c e => by
  obtain ⟨cur, fr, hc⟩ := h a n c e
  exact ⟨cur, fr, by rw [hb.block a.block (Array.getElem?_eq_some_iff.1 hc).1]; exact hc⟩
/-- what the loop keeps -/
def InvP (w : World) (L : List (List OpT)) (k : Nat) (v : Value) (vs : List Value) (wr : World) : Prop :=
  wr.ownsRow w.heap.size 42 1 v k vs ∧ Below w.heap.size w wr ∧ ∀ j x, j < k → L[j]? = some x → ∃ u, vs[j]? = some u ∧ OpsF w.heap.size wr u x ∧ Typed 45 wr u
theorem invP_step {w wr w2 w4 : World} {L : List (List OpT)} {k : Nat} {v v' u : Value} {vs : List Value} {x : List OpT} {o : Obj} (h : InvP w L k v vs wr) (hk : L[k]? = some x) (hb : Below wr.heap.size wr w2)
    (hu : OpsF wr.heap.size w2 u x) (ht : Typed 45 w2 u) (hown : w4.ownsRow w.heap.size 42 1 v' (k + 1) (vs ++ [u])) (hg : (w2.alloc o).grownBy w4 v.ownBlock) : InvP w L (k + 1) v' (vs ++ [u]) w4 := by
  obtain ⟨h1, h2, h3⟩ := h
  have b2 : Below w2.heap.size w2 (w2.alloc o) := below_al1 (Below.refl _ _) o
  have own2 := own_below (own_below h1 hb) b2
  have hsz : w.heap.size ≤ wr.heap.size := h2.size
  have all : Below w.heap.size w (w2.alloc o) := (h2.trans (hb.mono hsz)).trans (b2.mono (Nat.le_trans hsz hb.size))
  have hlen : vs.length = k := by have := h1.1; omega
  refine ⟨hown, ?_, fun j y hj hy => ?_⟩
  · refine ⟨hg.os.trans all.os, hg.tape.trans all.tape, hg.output.trans all.output, Nat.le_trans all.size hg.size, fun i hi => (hg.block i (Nat.lt_of_lt_of_le hi all.size) fun e => ?_).trans (all.block i hi)⟩
    have := (World.ownsRow.lt own2 i e.symm).1
    omega
  · by_cases hjk : j < k
    · obtain ⟨u', e1, e2, e3⟩ := h3 j y hjk hy
      have r2 := (e2.ext fun _ _ _ _ => OpR.ext ((Ext.below hb).trans (Ext.below b2)))
      obtain ⟨q1, q2⟩ := ops_grown r2 (typed_below (typed_below e3 hb) b2) own2 hg
      exact ⟨u', by rw [List.getElem?_append_left (by omega)]; exact e1, q1, q2⟩
    · obtain rfl : j = k := by omega
      obtain rfl := Option.some.inj (hy.symm.trans hk)
      have r2 := (hu.mono hsz).ext (w' := w2.alloc o) fun _ _ _ _ => OpR.ext (Ext.below b2)
      obtain ⟨q1, q2⟩ := ops_grown r2 (typed_below ht b2) own2 hg
      exact ⟨u, by rw [List.getElem?_append_right (by omega), hlen]; simp, q1, q2⟩
theorem invP_done {w wr : World} {L : List (List OpT)} {v : Value} {vs : List Value} (h : InvP w L L.length v vs wr) (hB : L.length * 24 ≤ 140737488351232) : ProgsF w.heap.size wr v L := by
  obtain ⟨h1, h2, h3⟩ := h
  refine ⟨?_, fresh_own h1⟩
  have hc := fun g => World.ownsRow.cells h1 (g := g)
  obtain ⟨h0, ⟨rfl, h4⟩ | ⟨g, cap, cur, rfl, hb, hg, hn, hm, hs, ht⟩⟩ := h1
  · obtain rfl : L = [] := by simpa using h4
    exact ⟨none, 0, rfl, Nat.le_refl _, ⟨Nat.zero_le _, by simp⟩, fun h => absurd rfl h⟩
  · refine ⟨some ⟨g, 0, none⟩, cap, rfl, hn, ⟨hm, hB⟩, fun _ => ⟨g, 0, rfl, fun i x hx => ?_⟩⟩
    obtain ⟨u, e1, e2, _⟩ := h3 i x (List.getElem?_eq_some_iff.1 hx).1 hx
    refine ⟨u, ?_, e2⟩
    have := hc g rfl i u e1
    rw [add_pl] at this
    simpa using this
set_option maxHeartbeats 2000000 in
theorem copy25 (w : World) (v : Value) (L : List (List OpT)) (h : Progs w v L) :
    Calls Try.prog 25 #[v] w fun e w' => ∃ v', e = .returned v' ∧ ProgsF w.heap.size w' v' L ∧ Below w.heap.size w w' := by
  obtain ⟨p, c, rfl, hc, ⟨hm, hB⟩, h⟩ := h
  by_cases hnil : L = []
  · subst hnil
    clear h hc hm hB
    simp only [List.length_nil]
    go_enter Try.func25, Try.ntmps25
    go_wp2
    refine wp_loop_rounds 1 ?_
    rw [rounds_succ]
    go_wp2
    go_ret
    exact ⟨_, rfl, ⟨⟨none, 0, rfl, Nat.le_refl _, ⟨Nat.zero_le _, by simp⟩, fun h => absurd rfl h⟩, fresh_nil _⟩, Below.refl _ _⟩
  · obtain ⟨b, o, rfl, hE⟩ := h hnil
    obtain ⟨N, hN⟩ : ∃ N, L.length = N := ⟨_, rfl⟩
    obtain ⟨i0, hi, hz0, hz1, hz2⟩ := info_parts Try.info42
    unfold maxLen at hm
    have hN63 : N ≤ 9223372036854775807 := by omega
    have hNB : N * 24 ≤ 140737488351232 := by omega
    rw [hN]
    have HE := Lib.hid hE
    have HN := Lib.hid hN
    clear h hnil hE hN hB hc hm
    go_enter Try.func25, Try.ntmps25
    go_wp2
    go_loopw [3, 4] (fun v i wr => ∃ k : Nat, k ≤ N ∧ i = .int .i64 k ∧ ∃ vs, InvP w L k v vs wr) (fun _ i _ => N - (intOf i).toNat)
    case atStart => exact ⟨0, Nat.zero_le _, rfl, [], World.ownsRow_nil _ _ _ _, Below.refl _ _, fun j x hj => absurd hj (Nat.not_lt_zero _)⟩
    case round =>
      obtain ⟨k, hk, rfl, vs, hinv⟩ := hrel
      by_cases hlt : k < N
      · obtain ⟨x, hx⟩ : ∃ x, L[k]? = some x := ⟨L[k]'(by have := HN.out; omega), by simp⟩
        obtain ⟨vx, gx, sx⟩ := HE.out k x hx
        have ex := Ext.below hinv.2.1
        have g : wr.cell? ⟨b, o + k, none⟩ = some vx := ex _ _ (by simpa using gx)
        have C := copy54 wr vx x (sx.ext fun _ _ _ => OpR.ext ex)
        have K := Lib.hid C
        have HI := Lib.hid hinv
        have HX := Lib.hid hx
        clear hinv hx gx sx ex C
        have i0' : (0 : Int) ≤ (k : Int) := Int.natCast_nonneg _
        have i1 : (k : Int) < (N : Int) := by omega
        go_wp2_with (first | (go_at_call 54; refine K.out.mono ?_; rintro e w2 ⟨u, rfl, hu, hb, ht⟩; obtain ⟨pu, cu, rfl⟩ := hu.shape; have HU := Lib.hid (And.intro hu (And.intro hb ht)); clear hu hb ht) | (at_builtin; refine wpList_append_own _ rfl _ _ 28 rfl w.heap.size 42 i0 (.slice none 0 0) 1 24 Try.underlying28 hi hz0 hz1 hz2 rfl (by decide) _ _ _ rfl ((own_below HI.out.1 HU.out.2.1).alloc _) ⟨w2.heap.size, 0, none⟩ 1 1 [.slice pu x.length cu] rfl rfl ?c1 ?c2 ?c3 ?c4 ?c5 ?_))
        case c1 =>
          intro j u hj
          match j, hj with
          | 0, hj => simp at hj; subst hj; simp [Addr.add]
        case c2 => intro u hu; simp at hu; subst hu; rfl
        case c3 => unfold maxLen; omega
        case c4 => omega
        case c5 => have h1 := HI.out.2.1.size; have h2 := HU.out.2.1.size; simp; omega
        · intro v' w4 hown hgrow _
          have R := invP_step HI.out HX.out HU.out.2.1 HU.out.1 HU.out.2.2 hown hgrow
          clear hown hgrow
          go_wp2
          go_roundw
          case rel => exact ⟨k + 1, by omega, by go_num, _, R⟩
          case measure => simp [intOf]; omega
      · have hk2 : k = N := by omega
        have HI := Lib.hid hinv
        clear hinv
        go_wp2
        go_ret
        subst hk2
        have hi := HI.out
        refine ⟨_, rfl, ?_, hi.2.1⟩
        have hN := HN.out
        subst hN
        exact invP_done hi hNB
end Go.Proofs.Ytnmlfhogolonoaa
