/-
  The walks of EqualDomain and EqualConfig. No condition but that the values read as lists.
-/
import Derived.Test.YtnmlfhogolonoaaSeB
import Derived.Test.YtnmlfhogolonoaaSeD
import Derived.ChangeKeysEq
set_option linter.unusedVariables false
set_option linter.unusedSimpArgs false
namespace Go.Proofs.Ytnmlfhogolonoaa
open Go.RowKit
theorem Ext.alloc {w w1 : World} (h : Ext w w1) (o : Obj) : Ext w (w1.alloc o) := h.trans (Ext.below ((Below.refl _ _).alloc (Nat.le_refl _) o))
theorem Ext.drawn {w w1 : World} (h : Ext w w1) (m : Nat) : Ext w (w1.drewN m) := h.trans (Ext.drewN _ m)
theorem Ext.drew {w w1 : World} (h : Ext w w1) : Ext w w1.drew := h.trans (Ext.below (Below.refl _ _).drew)
theorem below_drewN {B : Nat} {w w1 : World} (h : Below B w w1) : ∀ m, Below B w (w1.drewN m)
  | 0 => by simpa [World.drewN] using h
  | m + 1 => by
    have := (below_drewN h m).drew
    simpa [go_sem] using this
theorem below_al {B : Nat} {a w : World} (h : Below B a w) (hB : B ≤ a.heap.size) (o : Obj) : Below B a (w.alloc o) := h.alloc (Nat.le_trans hB h.size) o
theorem below_al1 {a w : World} (h : Below a.heap.size a w) (o : Obj) : Below a.heap.size a (w.alloc o) := below_al h (Nat.le_refl _) o
def towEq (t0 t1 t2 t3 t4 t5 t0' t1' t2' t3' t4' t5' : Int) : Bool := decide (t0 = t0') && decide (t1 = t1') && decide (t2 = t2') && decide (t3 = t3') && decide (t4 = t4') && decide (t5 = t5')
theorem run_towers (W : World) (t0 t1 t2 t3 t4 t5 t0' t1' t2' t3' t4' t5' : Int) :
    (Op.equalIn 10000 25 (.agg #[.int .i64 t0, .int .i64 t1, .int .i64 t2, .int .i64 t3, .int .i64 t4, .int .i64 t5]) (.agg #[.int .i64 t0', .int .i64 t1', .int .i64 t2', .int .i64 t3', .int .i64 t4', .int .i64 t5'])).run Try.prog W =
      .ok (towEq t0 t1 t2 t3 t4 t5 t0' t1' t2' t3' t4' t5') W := by
  have hp : ∀ (xs : Array Value) (off : Nat) (v : Value), xs[off]? = some v → (part 3 xs off).run Try.prog W = .ok v W := fun _ _ _ h => run_part_plain (w := W) (show Try.prog.plainKey 3 = true by kernel_rfl) h
  have hc : Try.prog.cellsOf 3 = 1 := by kernel_rfl
  obtain ⟨i, hi⟩ : ∃ i, Try.prog.info? 3 = some i := info_of_underlying Try.underlying3
  show (Op.equalIn (9999 + 1) 25 _ _).run _ _ = _
  rw [run_equalIn_array (w := W) 9999 _ _ Try.underlying25 hi, hc]
  show (Op.eqItems 9999 3 1 _ _ [0, 1, 2, 3, 4, 5]).run _ _ = _
  have he : ∀ a b : Int, (Op.equalIn 9999 3 (.int .i64 a) (.int .i64 b)).run Try.prog W = .ok (a == b) W := fun a b => run_equalIn_int (w := W) 9998 3 .i64 .i64 a b Try.underlying3
  have p0 := hp #[.int .i64 t0, .int .i64 t1, .int .i64 t2, .int .i64 t3, .int .i64 t4, .int .i64 t5] 0 (.int .i64 t0) rfl
  have p1 := hp #[.int .i64 t0, .int .i64 t1, .int .i64 t2, .int .i64 t3, .int .i64 t4, .int .i64 t5] 1 (.int .i64 t1) rfl
  have p2 := hp #[.int .i64 t0, .int .i64 t1, .int .i64 t2, .int .i64 t3, .int .i64 t4, .int .i64 t5] 2 (.int .i64 t2) rfl
  have p3 := hp #[.int .i64 t0, .int .i64 t1, .int .i64 t2, .int .i64 t3, .int .i64 t4, .int .i64 t5] 3 (.int .i64 t3) rfl
  have p4 := hp #[.int .i64 t0, .int .i64 t1, .int .i64 t2, .int .i64 t3, .int .i64 t4, .int .i64 t5] 4 (.int .i64 t4) rfl
  have p5 := hp #[.int .i64 t0, .int .i64 t1, .int .i64 t2, .int .i64 t3, .int .i64 t4, .int .i64 t5] 5 (.int .i64 t5) rfl
  have p0q := hp #[.int .i64 t0', .int .i64 t1', .int .i64 t2', .int .i64 t3', .int .i64 t4', .int .i64 t5'] 0 (.int .i64 t0') rfl
  have p1q := hp #[.int .i64 t0', .int .i64 t1', .int .i64 t2', .int .i64 t3', .int .i64 t4', .int .i64 t5'] 1 (.int .i64 t1') rfl
  have p2q := hp #[.int .i64 t0', .int .i64 t1', .int .i64 t2', .int .i64 t3', .int .i64 t4', .int .i64 t5'] 2 (.int .i64 t2') rfl
  have p3q := hp #[.int .i64 t0', .int .i64 t1', .int .i64 t2', .int .i64 t3', .int .i64 t4', .int .i64 t5'] 3 (.int .i64 t3') rfl
  have p4q := hp #[.int .i64 t0', .int .i64 t1', .int .i64 t2', .int .i64 t3', .int .i64 t4', .int .i64 t5'] 4 (.int .i64 t4') rfl
  have p5q := hp #[.int .i64 t0', .int .i64 t1', .int .i64 t2', .int .i64 t3', .int .i64 t4', .int .i64 t5'] 5 (.int .i64 t5') rfl
  unfold towEq
  have e0 : (t0 == t0') = decide (t0 = t0') := rfl
  have e1 : (t1 == t1') = decide (t1 = t1') := rfl
  have e2 : (t2 == t2') = decide (t2 = t2') := rfl
  have e3 : (t3 == t3') = decide (t3 = t3') := rfl
  have e4 : (t4 == t4') = decide (t4 = t4') := rfl
  have e5 : (t5 == t5') = decide (t5 = t5') := rfl
  simp only [Op.eqItems, Nat.mul_one, Sem.run_bind, p0, p0q, Result.andThen_ok, he, e0, Bool.not_true, Bool.false_eq_true, if_false]
  generalize decide (t0 = t0') = r0
  cases r0
  · simp
  simp only [Op.eqItems, Nat.mul_one, Sem.run_bind, p1, p1q, Result.andThen_ok, he, e1, Bool.not_true, Bool.false_eq_true, if_false]
  generalize decide (t1 = t1') = r1
  cases r1
  · simp
  simp only [Op.eqItems, Nat.mul_one, Sem.run_bind, p2, p2q, Result.andThen_ok, he, e2, Bool.not_true, Bool.false_eq_true, if_false]
  generalize decide (t2 = t2') = r2
  cases r2
  · simp
  simp only [Op.eqItems, Nat.mul_one, Sem.run_bind, p3, p3q, Result.andThen_ok, he, e3, Bool.not_true, Bool.false_eq_true, if_false]
  generalize decide (t3 = t3') = r3
  cases r3
  · simp
  simp only [Op.eqItems, Nat.mul_one, Sem.run_bind, p4, p4q, Result.andThen_ok, he, e4, Bool.not_true, Bool.false_eq_true, if_false]
  generalize decide (t4 = t4') = r4
  cases r4
  · simp
  simp only [Op.eqItems, Nat.mul_one, Sem.run_bind, p5, p5q, Result.andThen_ok, he, e5, Bool.not_true, Bool.false_eq_true, if_false]
  generalize decide (t5 = t5') = r5
  cases r5
  · simp
  simp [Op.eqItems]

set_option maxHeartbeats 2000000 in
theorem eq61 (w : World) (dk dn dk' dn' : Int) (cv cv' : Value) (l l' : List Int) (h : Uints w cv l) (h' : Uints w cv' l') :
    Calls Try.prog 61 #[.agg #[.int .u8 dk, .int .i64 dn, cv], .agg #[.int .u8 dk', .int .i64 dn', cv']] w fun e w' => e = .returned (.bool (decide (dk = dk') && decide (dn = dn') && decide (l = l'))) ∧
      ∃ m, w' = ((w.alloc (.cells #[.int .u8 dk, .int .i64 dn, cv] 24)).alloc (.cells #[.int .u8 dk', .int .i64 dn', cv'] 24)).drewN m := by
  have C : ∀ W, Ext w W → Calls Try.prog 71 #[cv, cv'] W fun e w' => e = .returned (.bool (decide (l = l'))) ∧ ∃ m, w' = W.drewN m := fun W hW => eq71 W cv cv' l l' (h.ext fun _ _ _ => IntR.ext hW) (h'.ext fun _ _ _ => IntR.ext hW)
  obtain ⟨r, hr⟩ : ∃ r, decide (l = l') = r := ⟨_, rfl⟩
  rw [hr] at C ⊢
  have K := Lib.hid C
  clear C hr h h'
  by_cases d0 : dk = dk'
  · subst d0
    by_cases d1 : dn = dn'
    · subst d1
      go_enter Try.func61, Try.ntmps61
      go_wp2_with (go_at_call 71; refine (K.out _ ?_).mono ?_; exact ((Ext.refl _).alloc _).alloc _; rintro e w' ⟨rfl, m, rfl⟩)
      go_ret
      exact ⟨ret_bool (by simp), m, rfl⟩
    · go_enter Try.func61, Try.ntmps61
      go_wp2
      go_ret
      exact ⟨ret_bool (by simp [d1]), 0, rfl⟩
  · go_enter Try.func61, Try.ntmps61
    go_wp2
    go_ret
    exact ⟨ret_bool (by simp [d0]), 0, rfl⟩

/-- what EqualConfig says -/
def cfgEq (th sl en bu dk dn t0 t1 t2 t3 t4 t5 lo tr ba : Int) (l : List Int) (th' sl' en' bu' dk' dn' t0' t1' t2' t3' t4' t5' lo' tr' ba' : Int) (l' : List Int) : Bool := decide (th = th') && decide (sl = sl') && decide (en = en') && decide (bu = bu') && (decide (dk = dk') && decide (dn = dn') && decide (l = l')) && towEq t0 t1 t2 t3 t4 t5 t0' t1' t2' t3' t4' t5' && decide (lo = lo') && decide (tr = tr') && decide (ba = ba')
set_option maxRecDepth 100000 in
set_option maxHeartbeats 4000000 in
theorem eq36 (w : World) (th sl en bu dk dn t0 t1 t2 t3 t4 t5 lo tr ba th' sl' en' bu' dk' dn' t0' t1' t2' t3' t4' t5' lo' tr' ba' : Int) (cv cv' : Value) (l l' : List Int) (h : Uints w cv l) (h' : Uints w cv' l') :
    Calls Try.prog 36 #[.agg #[.int .i64 th, .int .i64 sl, .int .u8 en, .int .i64 bu, .int .u8 dk, .int .i64 dn, cv, .int .i64 t0, .int .i64 t1, .int .i64 t2, .int .i64 t3, .int .i64 t4, .int .i64 t5, .int .i64 lo, .int .i64 tr, .int .i64 ba], .agg #[.int .i64 th', .int .i64 sl', .int .u8 en', .int .i64 bu', .int .u8 dk', .int .i64 dn', cv', .int .i64 t0', .int .i64 t1', .int .i64 t2', .int .i64 t3', .int .i64 t4', .int .i64 t5', .int .i64 lo', .int .i64 tr', .int .i64 ba']] w fun e w' => e = .returned (.bool (cfgEq th sl en bu dk dn t0 t1 t2 t3 t4 t5 lo tr ba l th' sl' en' bu' dk' dn' t0' t1' t2' t3' t4' t5' lo' tr' ba' l')) ∧ Below w.heap.size w w' := by
  have C : ∀ W, Ext w W → Calls Try.prog 61 #[.agg #[.int .u8 dk, .int .i64 dn, cv], .agg #[.int .u8 dk', .int .i64 dn', cv']] W fun e w' => e = .returned (.bool (decide (dk = dk') && decide (dn = dn') && decide (l = l'))) ∧
      ∃ m, w' = ((W.alloc (.cells #[.int .u8 dk, .int .i64 dn, cv] 24)).alloc (.cells #[.int .u8 dk', .int .i64 dn', cv'] 24)).drewN m := fun W hW => eq61 W dk dn dk' dn' cv cv' l l' (h.ext fun _ _ _ => IntR.ext hW) (h'.ext fun _ _ _ => IntR.ext hW)
  unfold cfgEq
  obtain ⟨r, hr⟩ : ∃ r, (decide (dk = dk') && decide (dn = dn') && decide (l = l')) = r := ⟨_, rfl⟩
  rw [hr] at C ⊢
  have K := Lib.hid C
  have HT := fun W => run_towers W t0 t1 t2 t3 t4 t5 t0' t1' t2' t3' t4' t5'
  obtain ⟨tb, htb⟩ : ∃ b, towEq t0 t1 t2 t3 t4 t5 t0' t1' t2' t3' t4' t5' = b := ⟨_, rfl⟩
  rw [htb] at HT ⊢
  clear C hr h h' htb
  by_cases d : th = th'
  · subst d
    by_cases d : sl = sl'
    · subst d
      by_cases d : en = en'
      · subst d
        by_cases d : bu = bu'
        · subst d
          cases r
          · go_enter Try.func36, Try.ntmps36
            go_wp2_with (go_at_call 61; refine (K.out _ ?_).mono ?_; exact ((Ext.refl _).alloc _).alloc _; rintro e w' ⟨rfl, m, rfl⟩)
            go_ret
            exact ⟨ret_bool (by simp), below_drewN (below_al1 (below_al1 (below_al1 (below_al1 (Below.refl _ _) _) _) _) _) _⟩
          cases tb
          · go_enter Try.func36, Try.ntmps36
            go_wp2_with (go_at_call 61; refine (K.out _ ?_).mono ?_; exact ((Ext.refl _).alloc _).alloc _; rintro e w' ⟨rfl, m, rfl⟩)
            go_ret
            exact ⟨ret_bool (by simp), below_drewN (below_al1 (below_al1 (below_al1 (below_al1 (Below.refl _ _) _) _) _) _) _⟩
          by_cases d : lo = lo'
          · subst d
            by_cases d : tr = tr'
            · subst d
              by_cases d : ba = ba'
              · subst d
                go_enter Try.func36, Try.ntmps36
                go_wp2_with (go_at_call 61; refine (K.out _ ?_).mono ?_; exact ((Ext.refl _).alloc _).alloc _; rintro e w' ⟨rfl, m, rfl⟩)
                go_ret
                exact ⟨ret_bool (by simp), below_drewN (below_al1 (below_al1 (below_al1 (below_al1 (Below.refl _ _) _) _) _) _) _⟩
              · go_enter Try.func36, Try.ntmps36
                go_wp2_with (go_at_call 61; refine (K.out _ ?_).mono ?_; exact ((Ext.refl _).alloc _).alloc _; rintro e w' ⟨rfl, m, rfl⟩)
                go_ret
                exact ⟨ret_bool (by simp [d]), below_drewN (below_al1 (below_al1 (below_al1 (below_al1 (Below.refl _ _) _) _) _) _) _⟩
            · go_enter Try.func36, Try.ntmps36
              go_wp2_with (go_at_call 61; refine (K.out _ ?_).mono ?_; exact ((Ext.refl _).alloc _).alloc _; rintro e w' ⟨rfl, m, rfl⟩)
              go_ret
              exact ⟨ret_bool (by simp [d]), below_drewN (below_al1 (below_al1 (below_al1 (below_al1 (Below.refl _ _) _) _) _) _) _⟩
          · go_enter Try.func36, Try.ntmps36
            go_wp2_with (go_at_call 61; refine (K.out _ ?_).mono ?_; exact ((Ext.refl _).alloc _).alloc _; rintro e w' ⟨rfl, m, rfl⟩)
            go_ret
            exact ⟨ret_bool (by simp [d]), below_drewN (below_al1 (below_al1 (below_al1 (below_al1 (Below.refl _ _) _) _) _) _) _⟩
        · go_enter Try.func36, Try.ntmps36
          go_wp2
          go_ret
          exact ⟨ret_bool (by simp [d]), below_al1 (below_al1 (Below.refl _ _) _) _⟩
      · go_enter Try.func36, Try.ntmps36
        go_wp2
        go_ret
        exact ⟨ret_bool (by simp [d]), below_al1 (below_al1 (Below.refl _ _) _) _⟩
    · go_enter Try.func36, Try.ntmps36
      go_wp2
      go_ret
      exact ⟨ret_bool (by simp [d]), below_al1 (below_al1 (Below.refl _ _) _) _⟩
  · go_enter Try.func36, Try.ntmps36
    go_wp2
    go_ret
    exact ⟨ret_bool (by simp [d]), below_al1 (below_al1 (Below.refl _ _) _) _⟩
end Go.Proofs.Ytnmlfhogolonoaa
