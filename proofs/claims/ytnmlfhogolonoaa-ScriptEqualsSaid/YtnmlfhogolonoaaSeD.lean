/-
  The walks of EqualPrograms and of the library's EqualFunc with the closure of script.Equal. No condition but that the values read as lists.
-/
import Derived.Test.YtnmlfhogolonoaaSeC
set_option linter.unusedVariables false
set_option linter.unusedSimpArgs false
namespace Go.Proofs.Ytnmlfhogolonoaa
open Go.RowKit
theorem eq46 (w : World) (v v' : Value) (l l' : List OpT) (h : OpsR w v l) (h' : OpsR w v' l') :
    Calls Try.prog 46 #[v, v'] w fun e w' => e = .returned (.bool (decide (l = l'))) ∧ ∃ m, w' = w.drewN m := by
  have C := eq47 w v v' l l' h h'
  obtain ⟨r, hr⟩ : ∃ r, decide (l = l') = r := ⟨_, rfl⟩
  rw [hr] at C ⊢
  clear h h' hr
  go_enter Try.func46, Try.ntmps46
  go_wp2_with (go_at_call 47; refine C.mono ?_; rintro e w' ⟨rfl, m, rfl⟩)
  go_ret
  exact ⟨rfl, _, rfl⟩
set_option maxHeartbeats 2000000 in
theorem eq37 (w : World) (v v' : Value) (l l' : List (List OpT)) (h : Progs w v l) (h' : Progs w v' l') :
    Calls Try.prog 37 #[v, v'] w fun e w' => e = .returned (.bool (decide (l = l'))) ∧ ∃ m, w' = w.drewN m := by
  obtain ⟨p, c, rfl, hc, hm, h⟩ := h
  obtain ⟨p', c', rfl, hc', hm', h'⟩ := h'
  unfold maxLen at hm hm'
  have hl : l.length ≤ 9223372036854775807 := by omega
  have hl' : l'.length ≤ 9223372036854775807 := by omega
  clear hc hm hc' hm'
  by_cases hlen : l.length = l'.length
  · by_cases hnil : l = []
    · subst hnil
      obtain rfl : l' = [] := by simpa using hlen.symm
      clear h h' hl hl' hlen
      simp only [List.length_nil]
      go_enter Try.func37, Try.ntmps37
      go_wp2
      refine wp_loop_rounds 1 ?_
      rw [rounds_succ]
      go_wp2
      go_ret
      exact ⟨rfl, 0, rfl⟩
    · have hnil' : l' ≠ [] := by intro e; subst e; simp at hlen; exact hnil hlen
      obtain ⟨b, o, rfl, hE⟩ := h hnil
      obtain ⟨b', o', rfl, hE'⟩ := h' hnil'
      clear hnil hnil'
      obtain ⟨N, hN⟩ : ∃ N, N = l.length := ⟨_, rfl⟩
      have hN' : N = l'.length := hN.trans hlen
      rw [← hN, ← hN']
      rw [← hN] at hl
      have HN := Lib.hid (And.intro hN hN')
      clear hN hN' hlen hl'
      go_enter Try.func37, Try.ntmps37
      go_wp2
      go_loopw [5] (fun i wr => ∃ k : Nat, k ≤ N ∧ i = .int .i64 k ∧ l.take k = l'.take k ∧ ∃ m, wr = w.drewN m) (fun i _ => N - (intOf i).toNat)
      case atStart => exact ⟨0, Nat.zero_le _, rfl, rfl, 0, rfl⟩
      case round =>
        obtain ⟨k, hk, rfl, ht, m, rfl⟩ := hrel
        by_cases hlt : k < N
        · obtain ⟨x, hx⟩ : ∃ x, l[k]? = some x := ⟨l[k]'(by have := HN.out; omega), by simp⟩
          obtain ⟨y, hy⟩ : ∃ y, l'[k]? = some y := ⟨l'[k]'(by have := HN.out; omega), by simp⟩
          obtain ⟨vx, gx, sx⟩ := hE k x hx
          obtain ⟨vy, gy, sy⟩ := hE' k y hy
          have g : w.cell? ⟨b, o + k, none⟩ = some vx := by simpa using gx
          have g' : w.cell? ⟨b', o' + k, none⟩ = some vy := by simpa using gy
          have ht1 : l.take (k + 1) = l.take k ++ [x] := by rw [List.take_add_one, hx]; rfl
          have ht2 : l'.take (k + 1) = l'.take k ++ [y] := by rw [List.take_add_one, hy]; rfl
          have HX := Lib.hid (And.intro hx (And.intro hy (And.intro ht1 (And.intro ht2 ht))))
          have C : ∀ n, Calls Try.prog 62 #[vx, vy] (w.drewN (m + n)) fun e w' => e = .returned (.bool (decide (x = y))) ∧ ∃ m', w' = w.drewN (m + m') := fun n =>
            (eq62 _ vx vy x y (sx.ext fun _ _ _ => OpR.ext (Ext.drewN w (m + n))) (sy.ext fun _ _ _ => OpR.ext (Ext.drewN w (m + n)))).mono fun e w' ⟨he, m', hm'⟩ => ⟨he, n + m', by rw [hm', World.drewN_drewN, Nat.add_assoc]⟩
          obtain ⟨r, hr⟩ : ∃ r, decide (x = y) = r := ⟨_, rfl⟩
          rw [hr] at C
          have HR := Lib.hid hr
          have K := Lib.hid C
          clear hE hE' h h' hx hy ht1 ht2 ht gx gy sx sy C hr
          have i0 : (0 : Int) ≤ (k : Int) := Int.natCast_nonneg _
          have i1 : (k : Int) < (N : Int) := by omega
          cases r
          · go_wp2
            go_quiet ((go_at_call 62; exact K.out _))
            go_wp2
            go_ret
            exact ⟨ret_bool (by
              obtain ⟨e1, e2, _⟩ := HX.out
              have e3 := HR.out
              simp only [Bool.false_eq, decide_eq_false_iff_not] at e3 ⊢
              intro e
              rw [e, e2] at e1
              exact e3 (Option.some.inj e1).symm), m + nq, by simp [go_sem]⟩
          · go_wp2
            go_quiet ((go_at_call 62; exact K.out _))
            go_wp2
            go_roundw
            case rel =>
              obtain ⟨_, _, e1, e2, e3⟩ := HX.out
              have e4 : x = y := of_decide_eq_true HR.out
              exact ⟨k + 1, by omega, by go_num, by rw [e1, e2, e3, e4], _, rfl⟩
            case measure => simp [intOf]; omega
        · have hk2 : k = N := by omega
          have HX := Lib.hid (And.intro ht hk2)
          go_wp2
          go_ret
          exact ⟨ret_bool (by
            obtain ⟨e1, e2⟩ := HX.out
            simp only [Bool.true_eq, decide_eq_true_eq]
            rw [List.take_of_length_le (by have := HN.out; omega), List.take_of_length_le (by have := HN.out; omega)] at e1
            exact e1), _, rfl⟩
  · clear h h'
    go_enter Try.func37, Try.ntmps37
    go_wp2
    go_ret
    exact ⟨ret_bool (by simp; intro e; exact hlen (by rw [e])), 0, rfl⟩
set_option maxHeartbeats 2000000 in
theorem eq45 (w : World) (v v' : Value) (l l' : List (List OpT)) (h : Progs w v l) (h' : Progs w v' l') :
    Calls Try.prog 45 #[v, v', .func (.func 46) #[] #[]] w fun e w' => e = .returned (.bool (decide (l = l'))) ∧ ∃ m, w' = w.drewN m := by
  obtain ⟨p, c, rfl, hc, hm, h⟩ := h
  obtain ⟨p', c', rfl, hc', hm', h'⟩ := h'
  unfold maxLen at hm hm'
  have hl : l.length ≤ 9223372036854775807 := by omega
  have hl' : l'.length ≤ 9223372036854775807 := by omega
  clear hc hm hc' hm'
  by_cases hlen : l.length = l'.length
  · by_cases hnil : l = []
    · subst hnil
      obtain rfl : l' = [] := by simpa using hlen.symm
      clear h h' hl hl' hlen
      simp only [List.length_nil]
      go_enter Try.func45, Try.ntmps45
      go_wp2
      refine wp_loop_rounds 1 ?_
      rw [rounds_succ]
      go_wp2
      go_ret
      exact ⟨rfl, 0, rfl⟩
    · have hnil' : l' ≠ [] := by intro e; subst e; simp at hlen; exact hnil hlen
      obtain ⟨b, o, rfl, hE⟩ := h hnil
      obtain ⟨b', o', rfl, hE'⟩ := h' hnil'
      clear hnil hnil'
      obtain ⟨N, hN⟩ : ∃ N, N = l.length := ⟨_, rfl⟩
      have hN' : N = l'.length := hN.trans hlen
      rw [← hN, ← hN']
      rw [← hN] at hl
      have HN := Lib.hid (And.intro hN hN')
      clear hN hN' hlen hl'
      go_enter Try.func45, Try.ntmps45
      go_wp2
      go_loopw [7, 8, 9, 17] (fun j x y i wr => ∃ k : Nat, k ≤ N ∧ i = .int .i64 k ∧ l.take k = l'.take k ∧ ∃ m, wr = w.drewN m) (fun _ _ _ i _ => N - (intOf i).toNat)
      case atStart => exact ⟨0, Nat.zero_le _, rfl, rfl, 0, rfl⟩
      case round =>
        obtain ⟨k, hk, rfl, ht, m, rfl⟩ := hrel
        by_cases hlt : k < N
        · obtain ⟨x, hx⟩ : ∃ x, l[k]? = some x := ⟨l[k]'(by have := HN.out; omega), by simp⟩
          obtain ⟨y, hy⟩ : ∃ y, l'[k]? = some y := ⟨l'[k]'(by have := HN.out; omega), by simp⟩
          obtain ⟨vx, gx, sx⟩ := hE k x hx
          obtain ⟨vy, gy, sy⟩ := hE' k y hy
          have g : w.cell? ⟨b, o + k, none⟩ = some vx := by simpa using gx
          have g' : w.cell? ⟨b', o' + k, none⟩ = some vy := by simpa using gy
          have ht1 : l.take (k + 1) = l.take k ++ [x] := by rw [List.take_add_one, hx]; rfl
          have ht2 : l'.take (k + 1) = l'.take k ++ [y] := by rw [List.take_add_one, hy]; rfl
          have HX := Lib.hid (And.intro hx (And.intro hy (And.intro ht1 (And.intro ht2 ht))))
          have C : ∀ n, Calls Try.prog 46 #[vx, vy] (w.drewN n) fun e w' => e = .returned (.bool (decide (x = y))) ∧ ∃ m', w' = (w.drewN n).drewN m' := fun n => eq46 _ vx vy x y (sx.ext fun _ _ _ => OpR.ext (Ext.drewN w n)) (sy.ext fun _ _ _ => OpR.ext (Ext.drewN w n))
          obtain ⟨r, hr⟩ : ∃ r, decide (x = y) = r := ⟨_, rfl⟩
          rw [hr] at C
          have HR := Lib.hid hr
          have K := Lib.hid C
          clear hE hE' h h' hx hy ht1 ht2 ht gx gy sx sy C hr
          have i0 : (0 : Int) ≤ (k : Int) := Int.natCast_nonneg _
          have i1 : (k : Int) < (N : Int) := by omega
          cases r
          · go_wp2_with (go_at_call 46; refine (K.out _).mono ?_; rintro e w' ⟨rfl, m', rfl⟩)
            go_ret
            exact ⟨ret_bool (by
              obtain ⟨e1, e2, _⟩ := HX.out
              have e3 := HR.out
              simp only [Bool.false_eq, decide_eq_false_iff_not] at e3 ⊢
              intro e
              rw [e, e2] at e1
              exact e3 (Option.some.inj e1).symm), _, rfl⟩
          · go_wp2_with (go_at_call 46; refine (K.out _).mono ?_; rintro e w' ⟨rfl, m', rfl⟩)
            go_roundw
            case rel =>
              obtain ⟨_, _, e1, e2, e3⟩ := HX.out
              have e4 : x = y := of_decide_eq_true HR.out
              exact ⟨k + 1, by omega, by go_num, by rw [e1, e2, e3, e4], _, rfl⟩
            case measure => simp [intOf]; omega
        · have hk2 : k = N := by omega
          have HX := Lib.hid (And.intro ht hk2)
          go_wp2
          go_ret
          exact ⟨ret_bool (by
            obtain ⟨e1, e2⟩ := HX.out
            simp only [Bool.true_eq, decide_eq_true_eq]
            rw [List.take_of_length_le (by have := HN.out; omega), List.take_of_length_le (by have := HN.out; omega)] at e1
            exact e1), _, rfl⟩
  · clear h h'
    go_enter Try.func45, Try.ntmps45
    go_wp2
    go_ret
    exact ⟨ret_bool (by simp; intro e; exact hlen (by rw [e])), 0, rfl⟩
end Go.Proofs.Ytnmlfhogolonoaa
