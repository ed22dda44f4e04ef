/-
  The walks of the functions that compare two slices: EqualOps and the library's Equal at operations. No condition but that the values read as lists.
-/
import Derived.Test.YtnmlfhogolonoaaSeA
set_option linter.unusedVariables false
set_option linter.unusedSimpArgs false
namespace Go.Proofs.Ytnmlfhogolonoaa
open Go.RowKit
set_option maxHeartbeats 2000000 in
theorem eq62 (w : World) (v v' : Value) (l l' : List OpT) (h : OpsR w v l) (h' : OpsR w v' l') :
    Calls Try.prog 62 #[v, v'] w fun e w' => e = .returned (.bool (decide (l = l'))) ∧ ∃ m, w' = w.drewN m := by
  obtain ⟨p, c, rfl, hc, hm, h⟩ := h
  obtain ⟨p', c', rfl, hc', hm', h'⟩ := h'
  unfold maxLen at hm hm'
  have hl : l.length ≤ 9223372036854775807 := by omega
  have hl' : l'.length ≤ 9223372036854775807 := by omega
  clear hc hm hc' hm'
  by_cases hlen : l.length = l'.length
  · by_cases hnil : l = []
    · subst hnil
      obtain rfl : l' = [] := by simpa using hlen.symm
      clear h h' hl hl' hlen
      simp only [List.length_nil]
      go_enter Try.func62, Try.ntmps62
      go_wp2
      refine wp_loop_rounds 1 ?_
      rw [rounds_succ]
      go_wp2
      go_ret
      exact ⟨rfl, 0, rfl⟩
    · have hnil' : l' ≠ [] := by intro e; subst e; simp at hlen; exact hnil hlen
      obtain ⟨b, o, rfl, hE⟩ := h hnil
      obtain ⟨b', o', rfl, hE'⟩ := h' hnil'
      clear hnil hnil'
      go_enter Try.func62, Try.ntmps62
      go_wp2
      go_loopw [5] (fun i wr => ∃ k : Nat, k ≤ l.length ∧ i = .int .i64 k ∧ l.take k = l'.take k ∧ ∃ m, wr = w.drewN m) (fun i _ => l.length - (intOf i).toNat)
      case atStart => exact ⟨0, Nat.zero_le _, rfl, rfl, 0, rfl⟩
      case round =>
        obtain ⟨k, hk, rfl, ht, m, rfl⟩ := hrel
        by_cases hlt : k < l.length
        · have hlt' : k < l'.length := by omega
          obtain ⟨x, hx⟩ : ∃ x, l[k]? = some x := ⟨l[k], by simp [hlt]⟩
          obtain ⟨y, hy⟩ : ∃ y, l'[k]? = some y := ⟨l'[k], by simp [hlt']⟩
          obtain ⟨⟨g0, g1, g2, g3, g4, g5, g6⟩, -⟩ := hE k x hx
          obtain ⟨⟨g0', g1', g2', g3', g4', g5', g6'⟩, -⟩ := hE' k y hy
          have ht1 : l.take (k + 1) = l.take k ++ [x] := by rw [List.take_add_one, hx]; rfl
          have ht2 : l'.take (k + 1) = l'.take k ++ [y] := by rw [List.take_add_one, hy]; rfl
          have HX := Lib.hid (And.intro hx (And.intro hy (And.intro ht1 (And.intro ht2 ht))))
          have HL := Lib.hid hlen
          obtain ⟨x0, x1, x2, x3, x4, x5, x6⟩ := x
          obtain ⟨y0, y1, y2, y3, y4, y5, y6⟩ := y
          simp only at g0 g1 g2 g3 g4 g5 g6 g0' g1' g2' g3' g4' g5' g6'
          clear hE hE' h h' hx hy ht1 ht2 ht
          have i0 : (0 : Int) ≤ (k : Int) := Int.natCast_nonneg _
          have i1 : (k : Int) < (l.length : Int) := by omega
          have i2 : (k : Int) < (l'.length : Int) := by omega
          by_cases d : x0 = y0
          · subst d
            by_cases d : x1 = y1
            · subst d
              by_cases d : x2 = y2
              · subst d
                by_cases d : x3 = y3
                · subst d
                  by_cases d : x4 = y4
                  · subst d
                    by_cases d : x5 = y5
                    · subst d
                      by_cases d : x6 = y6
                      · subst d
                        go_wp2
                        go_quiet (fail)
                        go_wp2
                        go_roundw
                        case rel =>
                          obtain ⟨_, _, e1, e2, e3⟩ := HX.out
                          exact ⟨k + 1, by omega, by go_num, by rw [e1, e2, e3], _, rfl⟩
                        case measure => simp [intOf]; omega
                      ·
                        go_wp2
                        go_quiet (fail)
                        go_wp2
                        go_ret
                        exact ⟨ret_bool (by
                          obtain ⟨e1, e2, _⟩ := HX.out
                          simp only [Bool.false_eq, decide_eq_false_iff_not]
                          intro e
                          rw [e, e2] at e1
                          have e1 := Option.some.inj e1
                          simp only [Prod.mk.injEq] at e1
                          exact d (e1.2.2.2.2.2.2.symm)), m + nq, by simp [go_sem]⟩
                    ·
                      go_wp2
                      go_quiet (fail)
                      go_wp2
                      go_ret
                      exact ⟨ret_bool (by
                        obtain ⟨e1, e2, _⟩ := HX.out
                        simp only [Bool.false_eq, decide_eq_false_iff_not]
                        intro e
                        rw [e, e2] at e1
                        have e1 := Option.some.inj e1
                        simp only [Prod.mk.injEq] at e1
                        exact d (e1.2.2.2.2.2.1.symm)), m + nq, by simp [go_sem]⟩
                  ·
                    go_wp2
                    go_quiet (fail)
                    go_wp2
                    go_ret
                    exact ⟨ret_bool (by
                      obtain ⟨e1, e2, _⟩ := HX.out
                      simp only [Bool.false_eq, decide_eq_false_iff_not]
                      intro e
                      rw [e, e2] at e1
                      have e1 := Option.some.inj e1
                      simp only [Prod.mk.injEq] at e1
                      exact d (e1.2.2.2.2.1.symm)), m + nq, by simp [go_sem]⟩
                ·
                  go_wp2
                  go_quiet (fail)
                  go_wp2
                  go_ret
                  exact ⟨ret_bool (by
                    obtain ⟨e1, e2, _⟩ := HX.out
                    simp only [Bool.false_eq, decide_eq_false_iff_not]
                    intro e
                    rw [e, e2] at e1
                    have e1 := Option.some.inj e1
                    simp only [Prod.mk.injEq] at e1
                    exact d (e1.2.2.2.1.symm)), m + nq, by simp [go_sem]⟩
              ·
                go_wp2
                go_quiet (fail)
                go_wp2
                go_ret
                exact ⟨ret_bool (by
                  obtain ⟨e1, e2, _⟩ := HX.out
                  simp only [Bool.false_eq, decide_eq_false_iff_not]
                  intro e
                  rw [e, e2] at e1
                  have e1 := Option.some.inj e1
                  simp only [Prod.mk.injEq] at e1
                  exact d (e1.2.2.1.symm)), m + nq, by simp [go_sem]⟩
            ·
              go_wp2
              go_quiet (fail)
              go_wp2
              go_ret
              exact ⟨ret_bool (by
                obtain ⟨e1, e2, _⟩ := HX.out
                simp only [Bool.false_eq, decide_eq_false_iff_not]
                intro e
                rw [e, e2] at e1
                have e1 := Option.some.inj e1
                simp only [Prod.mk.injEq] at e1
                exact d (e1.2.1.symm)), m + nq, by simp [go_sem]⟩
          ·
            go_wp2
            go_quiet (fail)
            go_wp2
            go_ret
            exact ⟨ret_bool (by
              obtain ⟨e1, e2, _⟩ := HX.out
              simp only [Bool.false_eq, decide_eq_false_iff_not]
              intro e
              rw [e, e2] at e1
              have e1 := Option.some.inj e1
              simp only [Prod.mk.injEq] at e1
              exact d (e1.1.symm)), m + nq, by simp [go_sem]⟩
        · have hk2 : k = l.length := by omega
          have HX := Lib.hid (And.intro ht hk2)
          have HL := Lib.hid hlen
          go_wp2
          go_ret
          exact ⟨ret_bool (by
            obtain ⟨e1, e2⟩ := HX.out
            simp only [Bool.true_eq, decide_eq_true_eq]
            rw [List.take_of_length_le (by omega), List.take_of_length_le (by have := HL.out; omega)] at e1
            exact e1), _, rfl⟩
  · clear h h'
    go_enter Try.func62, Try.ntmps62
    go_wp2
    go_ret
    exact ⟨ret_bool (by simp; intro e; exact hlen (by rw [e])), 0, rfl⟩

set_option maxHeartbeats 2000000 in
theorem eq47 (w : World) (v v' : Value) (l l' : List OpT) (h : OpsR w v l) (h' : OpsR w v' l') :
    Calls Try.prog 47 #[v, v'] w fun e w' => e = .returned (.bool (decide (l = l'))) ∧ ∃ m, w' = w.drewN m := by
  obtain ⟨p, c, rfl, hc, hm, h⟩ := h
  obtain ⟨p', c', rfl, hc', hm', h'⟩ := h'
  unfold maxLen at hm hm'
  have hl : l.length ≤ 9223372036854775807 := by omega
  have hl' : l'.length ≤ 9223372036854775807 := by omega
  clear hc hm hc' hm'
  by_cases hlen : l.length = l'.length
  · by_cases hnil : l = []
    · subst hnil
      obtain rfl : l' = [] := by simpa using hlen.symm
      clear h h' hl hl' hlen
      simp only [List.length_nil]
      go_enter Try.func47, Try.ntmps47
      go_wp2
      refine wp_loop_rounds 1 ?_
      rw [rounds_succ]
      go_wp2
      go_ret
      exact ⟨rfl, 0, rfl⟩
    · have hnil' : l' ≠ [] := by intro e; subst e; simp at hlen; exact hnil hlen
      obtain ⟨b, o, rfl, hE⟩ := h hnil
      obtain ⟨b', o', rfl, hE'⟩ := h' hnil'
      clear hnil hnil'
      go_enter Try.func47, Try.ntmps47
      go_wp2
      go_loopw [5, 13] (fun j i wr => ∃ k : Nat, k ≤ l.length ∧ i = .int .i64 k ∧ l.take k = l'.take k ∧ ∃ m, wr = w.drewN m) (fun _ i _ => l.length - (intOf i).toNat)
      case atStart => exact ⟨0, Nat.zero_le _, rfl, rfl, 0, rfl⟩
      case round =>
        obtain ⟨k, hk, rfl, ht, m, rfl⟩ := hrel
        by_cases hlt : k < l.length
        · have hlt' : k < l'.length := by omega
          obtain ⟨x, hx⟩ : ∃ x, l[k]? = some x := ⟨l[k], by simp [hlt]⟩
          obtain ⟨y, hy⟩ : ∃ y, l'[k]? = some y := ⟨l'[k], by simp [hlt']⟩
          obtain ⟨⟨g0, g1, g2, g3, g4, g5, g6⟩, -⟩ := hE k x hx
          obtain ⟨⟨g0', g1', g2', g3', g4', g5', g6'⟩, -⟩ := hE' k y hy
          have ht1 : l.take (k + 1) = l.take k ++ [x] := by rw [List.take_add_one, hx]; rfl
          have ht2 : l'.take (k + 1) = l'.take k ++ [y] := by rw [List.take_add_one, hy]; rfl
          have HX := Lib.hid (And.intro hx (And.intro hy (And.intro ht1 (And.intro ht2 ht))))
          have HL := Lib.hid hlen
          obtain ⟨x0, x1, x2, x3, x4, x5, x6⟩ := x
          obtain ⟨y0, y1, y2, y3, y4, y5, y6⟩ := y
          simp only at g0 g1 g2 g3 g4 g5 g6 g0' g1' g2' g3' g4' g5' g6'
          clear hE hE' h h' hx hy ht1 ht2 ht
          have i0 : (0 : Int) ≤ (k : Int) := Int.natCast_nonneg _
          have i1 : (k : Int) < (l.length : Int) := by omega
          have i2 : (k : Int) < (l'.length : Int) := by omega
          by_cases d : x0 = y0
          · subst d
            by_cases d : x1 = y1
            · subst d
              by_cases d : x2 = y2
              · subst d
                by_cases d : x3 = y3
                · subst d
                  by_cases d : x4 = y4
                  · subst d
                    by_cases d : x5 = y5
                    · subst d
                      by_cases d : x6 = y6
                      · subst d
                        go_wp2
                        go_quiet (fail)
                        go_wp2
                        go_roundw
                        case rel =>
                          obtain ⟨_, _, e1, e2, e3⟩ := HX.out
                          exact ⟨k + 1, by omega, by go_num, by rw [e1, e2, e3], _, rfl⟩
                        case measure => simp [intOf]; omega
                      ·
                        go_wp2
                        go_quiet (fail)
                        go_wp2
                        go_ret
                        exact ⟨ret_bool (by
                          obtain ⟨e1, e2, _⟩ := HX.out
                          simp only [Bool.false_eq, decide_eq_false_iff_not]
                          intro e
                          rw [e, e2] at e1
                          have e1 := Option.some.inj e1
                          simp only [Prod.mk.injEq] at e1
                          exact d (e1.2.2.2.2.2.2.symm)), m + nq, by simp [go_sem]⟩
                    ·
                      go_wp2
                      go_quiet (fail)
                      go_wp2
                      go_ret
                      exact ⟨ret_bool (by
                        obtain ⟨e1, e2, _⟩ := HX.out
                        simp only [Bool.false_eq, decide_eq_false_iff_not]
                        intro e
                        rw [e, e2] at e1
                        have e1 := Option.some.inj e1
                        simp only [Prod.mk.injEq] at e1
                        exact d (e1.2.2.2.2.2.1.symm)), m + nq, by simp [go_sem]⟩
                  ·
                    go_wp2
                    go_quiet (fail)
                    go_wp2
                    go_ret
                    exact ⟨ret_bool (by
                      obtain ⟨e1, e2, _⟩ := HX.out
                      simp only [Bool.false_eq, decide_eq_false_iff_not]
                      intro e
                      rw [e, e2] at e1
                      have e1 := Option.some.inj e1
                      simp only [Prod.mk.injEq] at e1
                      exact d (e1.2.2.2.2.1.symm)), m + nq, by simp [go_sem]⟩
                ·
                  go_wp2
                  go_quiet (fail)
                  go_wp2
                  go_ret
                  exact ⟨ret_bool (by
                    obtain ⟨e1, e2, _⟩ := HX.out
                    simp only [Bool.false_eq, decide_eq_false_iff_not]
                    intro e
                    rw [e, e2] at e1
                    have e1 := Option.some.inj e1
                    simp only [Prod.mk.injEq] at e1
                    exact d (e1.2.2.2.1.symm)), m + nq, by simp [go_sem]⟩
              ·
                go_wp2
                go_quiet (fail)
                go_wp2
                go_ret
                exact ⟨ret_bool (by
                  obtain ⟨e1, e2, _⟩ := HX.out
                  simp only [Bool.false_eq, decide_eq_false_iff_not]
                  intro e
                  rw [e, e2] at e1
                  have e1 := Option.some.inj e1
                  simp only [Prod.mk.injEq] at e1
                  exact d (e1.2.2.1.symm)), m + nq, by simp [go_sem]⟩
            ·
              go_wp2
              go_quiet (fail)
              go_wp2
              go_ret
              exact ⟨ret_bool (by
                obtain ⟨e1, e2, _⟩ := HX.out
                simp only [Bool.false_eq, decide_eq_false_iff_not]
                intro e
                rw [e, e2] at e1
                have e1 := Option.some.inj e1
                simp only [Prod.mk.injEq] at e1
                exact d (e1.2.1.symm)), m + nq, by simp [go_sem]⟩
          ·
            go_wp2
            go_quiet (fail)
            go_wp2
            go_ret
            exact ⟨ret_bool (by
              obtain ⟨e1, e2, _⟩ := HX.out
              simp only [Bool.false_eq, decide_eq_false_iff_not]
              intro e
              rw [e, e2] at e1
              have e1 := Option.some.inj e1
              simp only [Prod.mk.injEq] at e1
              exact d (e1.1.symm)), m + nq, by simp [go_sem]⟩
        · have hk2 : k = l.length := by omega
          have HX := Lib.hid (And.intro ht hk2)
          have HL := Lib.hid hlen
          go_wp2
          go_ret
          exact ⟨ret_bool (by
            obtain ⟨e1, e2⟩ := HX.out
            simp only [Bool.true_eq, decide_eq_true_eq]
            rw [List.take_of_length_le (by omega), List.take_of_length_le (by have := HL.out; omega)] at e1
            exact e1), _, rfl⟩
  · clear h h'
    go_enter Try.func47, Try.ntmps47
    go_wp2
    go_ret
    exact ⟨ret_bool (by simp; intro e; exact hlen (by rw [e])), 0, rfl⟩
end Go.Proofs.Ytnmlfhogolonoaa
