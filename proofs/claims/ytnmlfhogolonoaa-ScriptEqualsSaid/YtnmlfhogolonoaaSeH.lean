/-
  The walk of Equal of package script. No condition but that the values read as lists.
-/
import Derived.Test.YtnmlfhogolonoaaSeE
import Derived.Test.YtnmlfhogolonoaaSeJ
set_option linter.unusedVariables false
set_option linter.unusedSimpArgs false
namespace Go.Proofs.Ytnmlfhogolonoaa
open Go.RowKit
/-- what Equal says -/
def scrEq (th sl en bu dk dn t0 t1 t2 t3 t4 t5 lo tr ba : Int) (l : List Int) (L : List (List OpT)) (q : List Int) (th' sl' en' bu' dk' dn' t0' t1' t2' t3' t4' t5' lo' tr' ba' : Int) (l' : List Int) (L' : List (List OpT)) (q' : List Int) : Bool :=
  cfgEq th sl en bu dk dn t0 t1 t2 t3 t4 t5 lo tr ba l th' sl' en' bu' dk' dn' t0' t1' t2' t3' t4' t5' lo' tr' ba' l' && decide (L = L') && decide (q = q')
set_option maxRecDepth 100000 in
set_option maxHeartbeats 16000000 in
theorem eq20 (w : World) (th sl en bu dk dn t0 t1 t2 t3 t4 t5 lo tr ba th' sl' en' bu' dk' dn' t0' t1' t2' t3' t4' t5' lo' tr' ba' : Int) (cv cv' pv pv' kv kv' : Value) (l l' : List Int) (L L' : List (List OpT)) (q q' : List Int)
    (h : Uints w cv l) (h' : Uints w cv' l') (hp : Progs w pv L) (hp' : Progs w pv' L') (hk : Ints w kv q) (hk' : Ints w kv' q') :
    Calls Try.prog 20 #[.agg #[.int .i64 th, .int .i64 sl, .int .u8 en, .int .i64 bu, .int .u8 dk, .int .i64 dn, cv, .int .i64 t0, .int .i64 t1, .int .i64 t2, .int .i64 t3, .int .i64 t4, .int .i64 t5, .int .i64 lo, .int .i64 tr, .int .i64 ba, pv, kv], .agg #[.int .i64 th', .int .i64 sl', .int .u8 en', .int .i64 bu', .int .u8 dk', .int .i64 dn', cv', .int .i64 t0', .int .i64 t1', .int .i64 t2', .int .i64 t3', .int .i64 t4', .int .i64 t5', .int .i64 lo', .int .i64 tr', .int .i64 ba', pv', kv']] w fun e w' => e = .returned (.bool (scrEq th sl en bu dk dn t0 t1 t2 t3 t4 t5 lo tr ba l L q th' sl' en' bu' dk' dn' t0' t1' t2' t3' t4' t5' lo' tr' ba' l' L' q')) ∧ Below w.heap.size w w' := by
  have C44 : ∀ W, Ext w W → Calls Try.prog 44 #[cv, cv'] W fun e w' => e = .returned (.bool (decide (l = l'))) ∧ ∃ m, w' = W.drewN m := fun W hW => eq44 W cv cv' l l' (h.ext fun _ _ _ => IntR.ext hW) (h'.ext fun _ _ _ => IntR.ext hW)
  have C45 : ∀ W, Ext w W → Calls Try.prog 45 #[pv, pv', .func (.func 46) #[] #[]] W fun e w' => e = .returned (.bool (decide (L = L'))) ∧ ∃ m, w' = W.drewN m := fun W hW => eq45 W pv pv' L L' (hp.ext fun _ _ _ => ProgR.ext hW) (hp'.ext fun _ _ _ => ProgR.ext hW)
  have C48 : ∀ W, Ext w W → Calls Try.prog 48 #[kv, kv'] W fun e w' => e = .returned (.bool (decide (q = q'))) ∧ ∃ m, w' = W.drewN m := fun W hW => eq48 W kv kv' q q' (hk.ext fun _ _ _ => IntR.ext hW) (hk'.ext fun _ _ _ => IntR.ext hW)
  unfold scrEq cfgEq
  obtain ⟨r, hr⟩ : ∃ r, decide (l = l') = r := ⟨_, rfl⟩
  obtain ⟨rL, hrL⟩ : ∃ r, decide (L = L') = r := ⟨_, rfl⟩
  obtain ⟨rq, hrq⟩ : ∃ r, decide (q = q') = r := ⟨_, rfl⟩
  have HT := fun W => run_towers W t0 t1 t2 t3 t4 t5 t0' t1' t2' t3' t4' t5'
  obtain ⟨tb, htb⟩ : ∃ b, towEq t0 t1 t2 t3 t4 t5 t0' t1' t2' t3' t4' t5' = b := ⟨_, rfl⟩
  rw [htb] at HT
  rw [hr] at C44
  rw [hrL] at C45
  rw [hrq] at C48
  rw [hr, hrL, hrq, htb]
  obtain ⟨cp, cc, rfl, -⟩ := h
  obtain ⟨cp', cc', rfl, -⟩ := h'
  obtain ⟨cn, hcn⟩ : ∃ n, l.length = n := ⟨_, rfl⟩
  obtain ⟨cn', hcn'⟩ : ∃ n, l'.length = n := ⟨_, rfl⟩
  rw [hcn] at C44 ⊢
  rw [hcn'] at C44 ⊢
  have K44 := Lib.hid C44
  have K45 := Lib.hid C45
  have K48 := Lib.hid C48
  clear C44 C45 C48 hp hp' hk hk' hr hrL hrq htb hcn hcn'
  go_enter Try.func20, Try.ntmps20
  go_wp2
  refine region20 (b1 := w.heap.size) (b2 := w.heap.size + 1) (c1 := [.int .i64 th, .int .i64 sl, .int .u8 en, .int .i64 bu, .int .u8 dk, .int .i64 dn, .slice cp cn cc, .int .i64 t0, .int .i64 t1, .int .i64 t2, .int .i64 t3, .int .i64 t4, .int .i64 t5, .int .i64 lo, .int .i64 tr, .int .i64 ba]) (c2 := [.int .i64 th', .int .i64 sl', .int .u8 en', .int .i64 bu', .int .u8 dk', .int .i64 dn', .slice cp' cn' cc', .int .i64 t0', .int .i64 t1', .int .i64 t2', .int .i64 t3', .int .i64 t4', .int .i64 t5', .int .i64 lo', .int .i64 tr', .int .i64 ba']) rfl rfl (range_sub (range_heap (heap_alloc2_old w _ _)) 16 rfl) (range_sub (range_heap (heap_alloc2_new w _ _)) 16 rfl) rfl rfl (by simp [Value.oneCell']) (by simp [Value.oneCell']) rfl (by simp; omega) (by simp) (fun _ _ _ _ _ h => h) ?_
  intro bp bq w1 _ _ hb rp rq
  have f0 := rp 0 _ rfl
  have f1 := rp 1 _ rfl
  have f2 := rp 2 _ rfl
  have f3 := rp 3 _ rfl
  have f4 := rp 4 _ rfl
  have f5 := rp 5 _ rfl
  have f6 := rp 6 _ rfl
  have f7 := rp 7 _ rfl
  have f8 := rp 8 _ rfl
  have f9 := rp 9 _ rfl
  have f10 := rp 10 _ rfl
  have f11 := rp 11 _ rfl
  have f12 := rp 12 _ rfl
  have f13 := rp 13 _ rfl
  have f14 := rp 14 _ rfl
  have f15 := rp 15 _ rfl
  have g0 := rq 0 _ rfl
  have g1 := rq 1 _ rfl
  have g2 := rq 2 _ rfl
  have g3 := rq 3 _ rfl
  have g4 := rq 4 _ rfl
  have g5 := rq 5 _ rfl
  have g6 := rq 6 _ rfl
  have g7 := rq 7 _ rfl
  have g8 := rq 8 _ rfl
  have g9 := rq 9 _ rfl
  have g10 := rq 10 _ rfl
  have g11 := rq 11 _ rfl
  have g12 := rq 12 _ rfl
  have g13 := rq 13 _ rfl
  have g14 := rq 14 _ rfl
  have g15 := rq 15 _ rfl
  have x0 := range_heap (row1 hb) 16 _ rfl
  have x1 := range_heap (row1 hb) 17 _ rfl
  have y0 := range_heap (row2 hb) 16 _ rfl
  have y1 := range_heap (row2 hb) 17 _ rfl
  simp only [Nat.zero_add] at f0 g0 f1 g1 f2 g2 f3 g3 f4 g4 f5 g5 f6 g6 f7 g7 f8 g8 f9 g9 f10 g10 f11 g11 f12 g12 f13 g13 f14 g14 f15 g15 x0 x1 y0 y1
  have HX := Lib.hid ((ext2 w _ _).trans (Ext.below hb))
  have HBw := Lib.hid (below2 hb)
  clear hb rp rq
  simp only [a20, Act.put, List.setIfInBounds_toArray, List.set_cons_zero, List.set_cons_succ]
  by_cases d : th = th'
  · subst d
    by_cases d : sl = sl'
    · subst d
      by_cases d : en = en'
      · subst d
        by_cases d : bu = bu'
        · subst d
          cases tb
          · go_wp2_with (first | (go_at_call 44; refine (K44.out _ ?_).mono ?_; (repeat (first | exact HX.out | refine Ext.drew ?_ | refine Ext.drawn ?_ _ | refine Ext.alloc ?_ _)); rintro e w' ⟨rfl, m, rfl⟩) | (go_at_call 45; refine (K45.out _ ?_).mono ?_; (repeat (first | exact HX.out | refine Ext.drew ?_ | refine Ext.drawn ?_ _ | refine Ext.alloc ?_ _)); rintro e w' ⟨rfl, m, rfl⟩) | (go_at_call 48; refine (K48.out _ ?_).mono ?_; (repeat (first | exact HX.out | refine Ext.drew ?_ | refine Ext.drawn ?_ _ | refine Ext.alloc ?_ _)); rintro e w' ⟨rfl, m, rfl⟩))
            go_ret
            exact ⟨ret_bool (by simp), by (repeat (first | exact HBw.out | refine Below.drew ?_ | refine below_drewN ?_ _ | refine below_al1 ?_ _))⟩
          by_cases d : lo = lo'
          · subst d
            by_cases d : tr = tr'
            · subst d
              by_cases d : ba = ba'
              · subst d
                by_cases d : dk = dk'
                · subst d
                  by_cases d : dn = dn'
                  · subst d
                    cases r
                    · go_wp2_with (first | (go_at_call 44; refine (K44.out _ ?_).mono ?_; (repeat (first | exact HX.out | refine Ext.drew ?_ | refine Ext.drawn ?_ _ | refine Ext.alloc ?_ _)); rintro e w' ⟨rfl, m, rfl⟩) | (go_at_call 45; refine (K45.out _ ?_).mono ?_; (repeat (first | exact HX.out | refine Ext.drew ?_ | refine Ext.drawn ?_ _ | refine Ext.alloc ?_ _)); rintro e w' ⟨rfl, m, rfl⟩) | (go_at_call 48; refine (K48.out _ ?_).mono ?_; (repeat (first | exact HX.out | refine Ext.drew ?_ | refine Ext.drawn ?_ _ | refine Ext.alloc ?_ _)); rintro e w' ⟨rfl, m, rfl⟩))
                      go_ret
                      exact ⟨ret_bool (by simp), by (repeat (first | exact HBw.out | refine Below.drew ?_ | refine below_drewN ?_ _ | refine below_al1 ?_ _))⟩
                    cases rL
                    · go_wp2_with (first | (go_at_call 44; refine (K44.out _ ?_).mono ?_; (repeat (first | exact HX.out | refine Ext.drew ?_ | refine Ext.drawn ?_ _ | refine Ext.alloc ?_ _)); rintro e w' ⟨rfl, m, rfl⟩) | (go_at_call 45; refine (K45.out _ ?_).mono ?_; (repeat (first | exact HX.out | refine Ext.drew ?_ | refine Ext.drawn ?_ _ | refine Ext.alloc ?_ _)); rintro e w' ⟨rfl, m, rfl⟩) | (go_at_call 48; refine (K48.out _ ?_).mono ?_; (repeat (first | exact HX.out | refine Ext.drew ?_ | refine Ext.drawn ?_ _ | refine Ext.alloc ?_ _)); rintro e w' ⟨rfl, m, rfl⟩))
                      go_ret
                      exact ⟨ret_bool (by simp), by (repeat (first | exact HBw.out | refine Below.drew ?_ | refine below_drewN ?_ _ | refine below_al1 ?_ _))⟩
                    cases rq
                    · go_wp2_with (first | (go_at_call 44; refine (K44.out _ ?_).mono ?_; (repeat (first | exact HX.out | refine Ext.drew ?_ | refine Ext.drawn ?_ _ | refine Ext.alloc ?_ _)); rintro e w' ⟨rfl, m, rfl⟩) | (go_at_call 45; refine (K45.out _ ?_).mono ?_; (repeat (first | exact HX.out | refine Ext.drew ?_ | refine Ext.drawn ?_ _ | refine Ext.alloc ?_ _)); rintro e w' ⟨rfl, m, rfl⟩) | (go_at_call 48; refine (K48.out _ ?_).mono ?_; (repeat (first | exact HX.out | refine Ext.drew ?_ | refine Ext.drawn ?_ _ | refine Ext.alloc ?_ _)); rintro e w' ⟨rfl, m, rfl⟩))
                      go_ret
                      exact ⟨ret_bool (by simp), by (repeat (first | exact HBw.out | refine Below.drew ?_ | refine below_drewN ?_ _ | refine below_al1 ?_ _))⟩
                    go_wp2_with (first | (go_at_call 44; refine (K44.out _ ?_).mono ?_; (repeat (first | exact HX.out | refine Ext.drew ?_ | refine Ext.drawn ?_ _ | refine Ext.alloc ?_ _)); rintro e w' ⟨rfl, m, rfl⟩) | (go_at_call 45; refine (K45.out _ ?_).mono ?_; (repeat (first | exact HX.out | refine Ext.drew ?_ | refine Ext.drawn ?_ _ | refine Ext.alloc ?_ _)); rintro e w' ⟨rfl, m, rfl⟩) | (go_at_call 48; refine (K48.out _ ?_).mono ?_; (repeat (first | exact HX.out | refine Ext.drew ?_ | refine Ext.drawn ?_ _ | refine Ext.alloc ?_ _)); rintro e w' ⟨rfl, m, rfl⟩))
                    go_ret
                    exact ⟨ret_bool (by simp), by (repeat (first | exact HBw.out | refine Below.drew ?_ | refine below_drewN ?_ _ | refine below_al1 ?_ _))⟩
                  · go_wp2_with (first | (go_at_call 44; refine (K44.out _ ?_).mono ?_; (repeat (first | exact HX.out | refine Ext.drew ?_ | refine Ext.drawn ?_ _ | refine Ext.alloc ?_ _)); rintro e w' ⟨rfl, m, rfl⟩) | (go_at_call 45; refine (K45.out _ ?_).mono ?_; (repeat (first | exact HX.out | refine Ext.drew ?_ | refine Ext.drawn ?_ _ | refine Ext.alloc ?_ _)); rintro e w' ⟨rfl, m, rfl⟩) | (go_at_call 48; refine (K48.out _ ?_).mono ?_; (repeat (first | exact HX.out | refine Ext.drew ?_ | refine Ext.drawn ?_ _ | refine Ext.alloc ?_ _)); rintro e w' ⟨rfl, m, rfl⟩))
                    go_ret
                    exact ⟨ret_bool (by simp [d]), by (repeat (first | exact HBw.out | refine Below.drew ?_ | refine below_drewN ?_ _ | refine below_al1 ?_ _))⟩
                · go_wp2_with (first | (go_at_call 44; refine (K44.out _ ?_).mono ?_; (repeat (first | exact HX.out | refine Ext.drew ?_ | refine Ext.drawn ?_ _ | refine Ext.alloc ?_ _)); rintro e w' ⟨rfl, m, rfl⟩) | (go_at_call 45; refine (K45.out _ ?_).mono ?_; (repeat (first | exact HX.out | refine Ext.drew ?_ | refine Ext.drawn ?_ _ | refine Ext.alloc ?_ _)); rintro e w' ⟨rfl, m, rfl⟩) | (go_at_call 48; refine (K48.out _ ?_).mono ?_; (repeat (first | exact HX.out | refine Ext.drew ?_ | refine Ext.drawn ?_ _ | refine Ext.alloc ?_ _)); rintro e w' ⟨rfl, m, rfl⟩))
                  go_ret
                  exact ⟨ret_bool (by simp [d]), by (repeat (first | exact HBw.out | refine Below.drew ?_ | refine below_drewN ?_ _ | refine below_al1 ?_ _))⟩
              · go_wp2_with (first | (go_at_call 44; refine (K44.out _ ?_).mono ?_; (repeat (first | exact HX.out | refine Ext.drew ?_ | refine Ext.drawn ?_ _ | refine Ext.alloc ?_ _)); rintro e w' ⟨rfl, m, rfl⟩) | (go_at_call 45; refine (K45.out _ ?_).mono ?_; (repeat (first | exact HX.out | refine Ext.drew ?_ | refine Ext.drawn ?_ _ | refine Ext.alloc ?_ _)); rintro e w' ⟨rfl, m, rfl⟩) | (go_at_call 48; refine (K48.out _ ?_).mono ?_; (repeat (first | exact HX.out | refine Ext.drew ?_ | refine Ext.drawn ?_ _ | refine Ext.alloc ?_ _)); rintro e w' ⟨rfl, m, rfl⟩))
                go_ret
                exact ⟨ret_bool (by simp [d]), by (repeat (first | exact HBw.out | refine Below.drew ?_ | refine below_drewN ?_ _ | refine below_al1 ?_ _))⟩
            · go_wp2_with (first | (go_at_call 44; refine (K44.out _ ?_).mono ?_; (repeat (first | exact HX.out | refine Ext.drew ?_ | refine Ext.drawn ?_ _ | refine Ext.alloc ?_ _)); rintro e w' ⟨rfl, m, rfl⟩) | (go_at_call 45; refine (K45.out _ ?_).mono ?_; (repeat (first | exact HX.out | refine Ext.drew ?_ | refine Ext.drawn ?_ _ | refine Ext.alloc ?_ _)); rintro e w' ⟨rfl, m, rfl⟩) | (go_at_call 48; refine (K48.out _ ?_).mono ?_; (repeat (first | exact HX.out | refine Ext.drew ?_ | refine Ext.drawn ?_ _ | refine Ext.alloc ?_ _)); rintro e w' ⟨rfl, m, rfl⟩))
              go_ret
              exact ⟨ret_bool (by simp [d]), by (repeat (first | exact HBw.out | refine Below.drew ?_ | refine below_drewN ?_ _ | refine below_al1 ?_ _))⟩
          · go_wp2_with (first | (go_at_call 44; refine (K44.out _ ?_).mono ?_; (repeat (first | exact HX.out | refine Ext.drew ?_ | refine Ext.drawn ?_ _ | refine Ext.alloc ?_ _)); rintro e w' ⟨rfl, m, rfl⟩) | (go_at_call 45; refine (K45.out _ ?_).mono ?_; (repeat (first | exact HX.out | refine Ext.drew ?_ | refine Ext.drawn ?_ _ | refine Ext.alloc ?_ _)); rintro e w' ⟨rfl, m, rfl⟩) | (go_at_call 48; refine (K48.out _ ?_).mono ?_; (repeat (first | exact HX.out | refine Ext.drew ?_ | refine Ext.drawn ?_ _ | refine Ext.alloc ?_ _)); rintro e w' ⟨rfl, m, rfl⟩))
            go_ret
            exact ⟨ret_bool (by simp [d]), by (repeat (first | exact HBw.out | refine Below.drew ?_ | refine below_drewN ?_ _ | refine below_al1 ?_ _))⟩
        · go_wp2_with (first | (go_at_call 44; refine (K44.out _ ?_).mono ?_; (repeat (first | exact HX.out | refine Ext.drew ?_ | refine Ext.drawn ?_ _ | refine Ext.alloc ?_ _)); rintro e w' ⟨rfl, m, rfl⟩) | (go_at_call 45; refine (K45.out _ ?_).mono ?_; (repeat (first | exact HX.out | refine Ext.drew ?_ | refine Ext.drawn ?_ _ | refine Ext.alloc ?_ _)); rintro e w' ⟨rfl, m, rfl⟩) | (go_at_call 48; refine (K48.out _ ?_).mono ?_; (repeat (first | exact HX.out | refine Ext.drew ?_ | refine Ext.drawn ?_ _ | refine Ext.alloc ?_ _)); rintro e w' ⟨rfl, m, rfl⟩))
          go_ret
          exact ⟨ret_bool (by simp [d]), by (repeat (first | exact HBw.out | refine Below.drew ?_ | refine below_drewN ?_ _ | refine below_al1 ?_ _))⟩
      · go_wp2_with (first | (go_at_call 44; refine (K44.out _ ?_).mono ?_; (repeat (first | exact HX.out | refine Ext.drew ?_ | refine Ext.drawn ?_ _ | refine Ext.alloc ?_ _)); rintro e w' ⟨rfl, m, rfl⟩) | (go_at_call 45; refine (K45.out _ ?_).mono ?_; (repeat (first | exact HX.out | refine Ext.drew ?_ | refine Ext.drawn ?_ _ | refine Ext.alloc ?_ _)); rintro e w' ⟨rfl, m, rfl⟩) | (go_at_call 48; refine (K48.out _ ?_).mono ?_; (repeat (first | exact HX.out | refine Ext.drew ?_ | refine Ext.drawn ?_ _ | refine Ext.alloc ?_ _)); rintro e w' ⟨rfl, m, rfl⟩))
        go_ret
        exact ⟨ret_bool (by simp [d]), by (repeat (first | exact HBw.out | refine Below.drew ?_ | refine below_drewN ?_ _ | refine below_al1 ?_ _))⟩
    · go_wp2_with (first | (go_at_call 44; refine (K44.out _ ?_).mono ?_; (repeat (first | exact HX.out | refine Ext.drew ?_ | refine Ext.drawn ?_ _ | refine Ext.alloc ?_ _)); rintro e w' ⟨rfl, m, rfl⟩) | (go_at_call 45; refine (K45.out _ ?_).mono ?_; (repeat (first | exact HX.out | refine Ext.drew ?_ | refine Ext.drawn ?_ _ | refine Ext.alloc ?_ _)); rintro e w' ⟨rfl, m, rfl⟩) | (go_at_call 48; refine (K48.out _ ?_).mono ?_; (repeat (first | exact HX.out | refine Ext.drew ?_ | refine Ext.drawn ?_ _ | refine Ext.alloc ?_ _)); rintro e w' ⟨rfl, m, rfl⟩))
      go_ret
      exact ⟨ret_bool (by simp [d]), by (repeat (first | exact HBw.out | refine Below.drew ?_ | refine below_drewN ?_ _ | refine below_al1 ?_ _))⟩
  · go_wp2_with (first | (go_at_call 44; refine (K44.out _ ?_).mono ?_; (repeat (first | exact HX.out | refine Ext.drew ?_ | refine Ext.drawn ?_ _ | refine Ext.alloc ?_ _)); rintro e w' ⟨rfl, m, rfl⟩) | (go_at_call 45; refine (K45.out _ ?_).mono ?_; (repeat (first | exact HX.out | refine Ext.drew ?_ | refine Ext.drawn ?_ _ | refine Ext.alloc ?_ _)); rintro e w' ⟨rfl, m, rfl⟩) | (go_at_call 48; refine (K48.out _ ?_).mono ?_; (repeat (first | exact HX.out | refine Ext.drew ?_ | refine Ext.drawn ?_ _ | refine Ext.alloc ?_ _)); rintro e w' ⟨rfl, m, rfl⟩))
    go_ret
    exact ⟨ret_bool (by simp [d]), by (repeat (first | exact HBw.out | refine Below.drew ?_ | refine below_drewN ?_ _ | refine below_al1 ?_ _))⟩
end Go.Proofs.Ytnmlfhogolonoaa
