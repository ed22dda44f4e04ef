/-
  The bytes of a number: put of package script.
-/
import Derived.Test.YtnmlfhogolonoaaSoG
import Derived.Test.YtnmlfhogolonoaaEoOg
set_option linter.unusedVariables false
set_option linter.unusedSimpArgs false
namespace Go.Proofs.Ytnmlfhogolonoaa
open Go.Proofs.Ytnmlfhogolonoaa.Eo
open Nat renaming reduceAdd → zA, reduceMul → zM, reduceLT → zL, reduceEqDiff → zE, reduceLeDiff → zD
open Int renaming reduceAdd → yA, reduceLE → yE, reduceLT → yL, reduceEq → yQ, reduceToNat → yT
noncomputable section
/-! 27: leapfrog/script.put[int] -/
@[go_sem] def c27_s0 : List SQ := [⟨some 4, none, .p (.mv (.c .nils))⟩]
@[go_sem] def c27_s1 : List SQ := [⟨some 6, none, .p (.mv (.t 1))⟩, ⟨some 7, none, .p (.conv .u64 (.t 6))⟩, ⟨some 5, none, .p (.mv (.t 7))⟩]
@[go_sem] def c27_s2 : List SQ := [⟨some 8, none, .p (.mv (.t 5))⟩, ⟨some 9, none, .p (.bin .geq 43 false true (.t 8) (.c (.int .u64 128)))⟩]
@[go_sem] def c27_s3 : List SQ := [⟨some 10, none, .p (.mv (.t 0))⟩, ⟨some 11, none, .p (.mv (.t 5))⟩, ⟨some 12, none, .p (.bin .rem 43 false true (.t 11) (.c (.int .u64 128)))⟩, ⟨some 13, none, .p (.bin .add 43 true false (.c (.int .u64 128)) (.t 12))⟩, ⟨some 14, none, .p (.conv .u8 (.t 13))⟩, ⟨some 15, none, .n (.buildS 5 1 1 [.int .u8 0] [(0, 1, (.t 14))])⟩, ⟨some 16, none, .e (.app 5 1 1 (.t 10) (.t 15))⟩, ⟨some 0, none, .p (.mv (.t 16))⟩]
@[go_sem] def c27_s4 : List SQ := [⟨some 17, none, .p (.mv (.t 5))⟩, ⟨some 18, none, .p (.bin .quo 43 false true (.t 17) (.c (.int .u64 128)))⟩, ⟨some 5, none, .p (.mv (.t 18))⟩]
def c27_l5 : CC := (.seq (.seq (.ops c27_s2) (.cond (.t 9) .skip (.exit 0))) (.block 1 (.seq (.ops c27_s3) (.ops c27_s4))))
@[go_sem] def c27_s6 : List SQ := [⟨some 19, none, .p (.mv (.t 0))⟩, ⟨some 20, none, .p (.mv (.t 5))⟩, ⟨some 21, none, .p (.conv .u8 (.t 20))⟩, ⟨some 22, none, .n (.buildS 5 1 1 [.int .u8 0] [(0, 1, (.t 21))])⟩, ⟨some 23, none, .e (.app 5 1 1 (.t 19) (.t 22))⟩, ⟨some 4, none, .p (.mv (.t 23))⟩]
@[go_sem] def c27 : CF := ⟨2, (.seq (.ops c27_s0) (.seq (.ops c27_s1) (.seq (.block 0 (.loop c27_l5)) (.seq (.ops c27_s6) .ret)))), [.tmp 4]⟩
theorem c27_eq : cCF Try.prog 27 2 = some c27 := by kernel_rfl
/-! 28: leapfrog/script.put[uint8] -/
@[go_sem] def c28_s0 : List SQ := [⟨some 4, none, .p (.mv (.c .nils))⟩]
@[go_sem] def c28_s1 : List SQ := [⟨some 6, none, .p (.mv (.t 1))⟩, ⟨some 7, none, .p (.conv .u64 (.t 6))⟩, ⟨some 5, none, .p (.mv (.t 7))⟩]
@[go_sem] def c28_s2 : List SQ := [⟨some 8, none, .p (.mv (.t 5))⟩, ⟨some 9, none, .p (.bin .geq 43 false true (.t 8) (.c (.int .u64 128)))⟩]
@[go_sem] def c28_s3 : List SQ := [⟨some 10, none, .p (.mv (.t 0))⟩, ⟨some 11, none, .p (.mv (.t 5))⟩, ⟨some 12, none, .p (.bin .rem 43 false true (.t 11) (.c (.int .u64 128)))⟩, ⟨some 13, none, .p (.bin .add 43 true false (.c (.int .u64 128)) (.t 12))⟩, ⟨some 14, none, .p (.conv .u8 (.t 13))⟩, ⟨some 15, none, .n (.buildS 5 1 1 [.int .u8 0] [(0, 1, (.t 14))])⟩, ⟨some 16, none, .e (.app 5 1 1 (.t 10) (.t 15))⟩, ⟨some 0, none, .p (.mv (.t 16))⟩]
@[go_sem] def c28_s4 : List SQ := [⟨some 17, none, .p (.mv (.t 5))⟩, ⟨some 18, none, .p (.bin .quo 43 false true (.t 17) (.c (.int .u64 128)))⟩, ⟨some 5, none, .p (.mv (.t 18))⟩]
def c28_l5 : CC := (.seq (.seq (.ops c28_s2) (.cond (.t 9) .skip (.exit 0))) (.block 1 (.seq (.ops c28_s3) (.ops c28_s4))))
@[go_sem] def c28_s6 : List SQ := [⟨some 19, none, .p (.mv (.t 0))⟩, ⟨some 20, none, .p (.mv (.t 5))⟩, ⟨some 21, none, .p (.conv .u8 (.t 20))⟩, ⟨some 22, none, .n (.buildS 5 1 1 [.int .u8 0] [(0, 1, (.t 21))])⟩, ⟨some 23, none, .e (.app 5 1 1 (.t 19) (.t 22))⟩, ⟨some 4, none, .p (.mv (.t 23))⟩]
@[go_sem] def c28 : CF := ⟨2, (.seq (.ops c28_s0) (.seq (.ops c28_s1) (.seq (.block 0 (.loop c28_l5)) (.seq (.ops c28_s6) .ret)))), [.tmp 4]⟩
theorem c28_eq : cCF Try.prog 28 2 = some c28 := by kernel_rfl
/-! 29: leapfrog/script.put[uint64] -/
@[go_sem] def c29_s0 : List SQ := [⟨some 4, none, .p (.mv (.c .nils))⟩]
@[go_sem] def c29_s1 : List SQ := [⟨some 6, none, .p (.mv (.t 1))⟩, ⟨some 5, none, .p (.mv (.t 6))⟩]
@[go_sem] def c29_s2 : List SQ := [⟨some 7, none, .p (.mv (.t 5))⟩, ⟨some 8, none, .p (.bin .geq 43 false true (.t 7) (.c (.int .u64 128)))⟩]
@[go_sem] def c29_s3 : List SQ := [⟨some 9, none, .p (.mv (.t 0))⟩, ⟨some 10, none, .p (.mv (.t 5))⟩, ⟨some 11, none, .p (.bin .rem 43 false true (.t 10) (.c (.int .u64 128)))⟩, ⟨some 12, none, .p (.bin .add 43 true false (.c (.int .u64 128)) (.t 11))⟩, ⟨some 13, none, .p (.conv .u8 (.t 12))⟩, ⟨some 14, none, .n (.buildS 5 1 1 [.int .u8 0] [(0, 1, (.t 13))])⟩, ⟨some 15, none, .e (.app 5 1 1 (.t 9) (.t 14))⟩, ⟨some 0, none, .p (.mv (.t 15))⟩]
@[go_sem] def c29_s4 : List SQ := [⟨some 16, none, .p (.mv (.t 5))⟩, ⟨some 17, none, .p (.bin .quo 43 false true (.t 16) (.c (.int .u64 128)))⟩, ⟨some 5, none, .p (.mv (.t 17))⟩]
def c29_l5 : CC := (.seq (.seq (.ops c29_s2) (.cond (.t 8) .skip (.exit 0))) (.block 1 (.seq (.ops c29_s3) (.ops c29_s4))))
@[go_sem] def c29_s6 : List SQ := [⟨some 18, none, .p (.mv (.t 0))⟩, ⟨some 19, none, .p (.mv (.t 5))⟩, ⟨some 20, none, .p (.conv .u8 (.t 19))⟩, ⟨some 21, none, .n (.buildS 5 1 1 [.int .u8 0] [(0, 1, (.t 20))])⟩, ⟨some 22, none, .e (.app 5 1 1 (.t 18) (.t 21))⟩, ⟨some 4, none, .p (.mv (.t 22))⟩]
@[go_sem] def c29 : CF := ⟨2, (.seq (.ops c29_s0) (.seq (.ops c29_s1) (.seq (.block 0 (.loop c29_l5)) (.seq (.ops c29_s6) .ret)))), [.tmp 4]⟩
theorem c29_eq : cCF Try.prog 29 2 = some c29 := by kernel_rfl

/-- the bytes of a number -/
def putB (n : Nat) : List Int := if n < 128 then [(n : Int)] else (128 + (n % 128 : Nat) : Int) :: putB (n / 128)
termination_by n
decreasing_by omega
theorem putB_lt {n : Nat} (h : n < 128) : putB n = [(n : Int)] := by rw [putB, if_pos h]
theorem putB_ge {n : Nat} (h : ¬ n < 128) : putB n = (128 + (n % 128 : Nat) : Int) :: putB (n / 128) := by rw [putB, if_neg h]
theorem putB_pos (n : Nat) : 0 < (putB n).length := by
  by_cases h : n < 128
  · rw [putB_lt h]; exact Nat.one_pos
  · rw [putB_ge h]; exact Nat.succ_pos _
theorem putB_len : ∀ (k n : Nat), n < 128 ^ (k + 1) → (putB n).length ≤ k + 1
  | 0, n, h => by rw [putB_lt (by simpa using h)]; exact Nat.le_refl _
  | k + 1, n, h => by
    by_cases hn : n < 128
    · rw [putB_lt hn]; simp
    · rw [putB_ge hn]
      have : n / 128 < 128 ^ (k + 1) := by
        rw [Nat.div_lt_iff_lt_mul (by decide), ← Nat.pow_succ]; exact h
      have := putB_len k (n / 128) this
      simp; omega
theorem putB_len10 {n : Nat} (h : n < 18446744073709551616) : (putB n).length ≤ 10 := putB_len 9 n (Nat.lt_of_lt_of_le h (by decide))
abbrev byV (l : List Int) : List AV := l.map (AV.int .u8)
theorem byV_append (a b : List Int) : byV (a ++ b) = byV a ++ byV b := List.map_append
/-- bytes that grow: what was there before b is as it was -/
structure Grow (h0 : H) (b : AV) (h : H) (v : AV) : Prop where
  next : h0.next ≤ h.next
  old : ∀ c, c < h0.next → own b ≠ some c → h.t.get c = h0.t.get c
  own : ∀ a, own v = some a → own b = some a ∨ h0.next ≤ a
theorem Grow.refl (h : H) (b : AV) : Grow h b h b := ⟨Nat.le_refl _, fun _ _ _ => rfl, fun a ha => .inl ha⟩
theorem Grow.trans {h0 h1 h2 : H} {b v w : AV} (g : Grow h0 b h1 v) (k : Grow h1 v h2 w) : Grow h0 b h2 w := by
  refine ⟨Nat.le_trans g.next k.next, fun c hc ho => ?_, fun a ha => ?_⟩
  · rw [k.old c (Nat.lt_of_lt_of_le hc g.next) (fun hh => ?_), g.old c hc ho]
    rcases g.own c hh with h | h
    · exact ho h
    · omega
  · rcases k.own a ha with h | h
    · exact g.own a h
    · exact .inr (Nat.le_trans g.next h)
theorem Grow.step {h : H} {b : AV} {len : Nat} {cs : List AV} (o : Own 1 5 h b len cs) (x : AO) (src : List AV) : Grow h b (appT ⟨h.next + 1, h.t.set h.next x⟩ 5 b (cs ++ src)) (appV ⟨h.next + 1, h.t.set h.next x⟩ 1 (len + 1)) := by
  refine ⟨by rw [app_next]; show h.next ≤ h.next + 1 + 1; omega, fun c hc ho => ?_, fun a ha => ?_⟩
  · rw [app_get (by show c < h.next + 1; omega) ho]
    have e0 : ¬ c = h.next := by omega
    simp only [go_sem, ↓reduceIte, ↓reduceDIte, zA, zM, zL, zE, zD, yA, yE, yL, yQ, yT, reduceCtorEq, e0]
  · rw [own_appV] at ha
    simp only [Option.some.injEq] at ha
    exact .inr (by omega)
def PostPut (b : AV) (len : Nat) (bs : List Int) (n : Nat) (h : H) (v : AV) (h' : H) : Prop := Own 1 5 h' v (len + (putB n).length) (byV (bs ++ putB n)) ∧ Grow h b h' v

def K27 (h0 : H) (b : AV) (bs : List Int) (len n : Nat) (k : Nat) (tm : T AV) (h : H) : Prop :=
  ∃ (x l : Nat) (ds : List Int) (v : AV), k = x ∧ x < 18446744073709551616 ∧ tm.get 0 = some v ∧ tm.get 5 = some (.int .u64 (x : Int)) ∧ Own 1 5 h v l (byV ds) ∧ Grow h0 b h v ∧ ds ++ putB x = bs ++ putB n ∧ l + (putB x).length = len + (putB n).length
def L27 (h0 : H) (b : AV) (bs : List Int) (len n : Nat) (tm : T AV) (h : H) : Prop :=
  ∃ (x l : Nat) (ds : List Int) (v : AV), x < 128 ∧ tm.get 0 = some v ∧ tm.get 5 = some (.int .u64 (x : Int)) ∧ Own 1 5 h v l (byV ds) ∧ Grow h0 b h v ∧ ds ++ putB x = bs ++ putB n ∧ l + (putB x).length = len + (putB n).length
theorem step27 (P : Program) {call : CallE} {h0 : H} {b : AV} {bs : List Int} {len n : Nat} (hlen : len + (putB n).length ≤ 1099511627776) (k : Nat) (tm : T AV) (h : H) (hI : K27 h0 b bs len n k tm h) :
    WC P call c27_l5 (loopQ 0 (fun tm h => ∃ j, j < k ∧ K27 h0 b bs len n j tm h) (L27 h0 b bs len n) (fun _ _ => False)) tm h := by
  obtain ⟨x, l, ds, v, rfl, hx, t0, t5, ov, gr, hb, hl⟩ := hI
  by_cases e1 : k < 128
  · have e2 : (k : Int) < 128 := by omega
    simp only [go_sem, ↓reduceIte, ↓reduceDIte, zA, zM, zL, zE, zD, yA, yE, yL, yQ, yT, reduceCtorEq, c27_l5, t5, e2]
    refine ⟨k, l, ds, v, e1, ?_, ?_, ov, gr, hb, hl⟩ <;> simp only [go_sem, ↓reduceIte, ↓reduceDIte, zA, zM, zL, zE, zD, yA, yE, yL, yQ, yT, reduceCtorEq, t0, t5]
  · have e2 : ¬ (k : Int) < 128 := by omega
    have e3 : (k : Int).tmod 128 = ((k % 128 : Nat) : Int) := rfl
    have e4 : (k : Int).tdiv 128 = ((k / 128 : Nat) : Int) := rfl
    have f1 : fw .u64 (128 + ((k % 128 : Nat) : Int)) = 128 + ((k % 128 : Nat) : Int) := fwU (by omega) (by omega)
    have f2 : fw .u8 (128 + ((k % 128 : Nat) : Int)) = 128 + ((k % 128 : Nat) : Int) := fwB (by omega) (by omega)
    have f3 : fw .u64 ((k / 128 : Nat) : Int) = ((k / 128 : Nat) : Int) := fwU (by omega) (by omega)
    simp only [go_sem, ↓reduceIte, ↓reduceDIte, zA, zM, zL, zE, zD, yA, yE, yL, yQ, yT, reduceCtorEq, c27_l5, t0, t5, e2, e3, f1, f2]
    rw [putB_ge e1] at hb hl
    rw [List.length_cons] at hl
    have ov1 := ov.keep (h' := ⟨h.next + 1, h.t.set h.next (.row (putList 0 [.int .u8 (128 + ((k % 128 : Nat) : Int))] T.e) 1 5)⟩) (Nat.le_succ _) (fun b hb => by
      have := ov.lt hb
      have e0 : ¬ b = h.next := by omega
      simp only [go_sem, ↓reduceIte, ↓reduceDIte, zA, zM, zL, zE, zD, yA, yE, yL, yQ, yT, reduceCtorEq, e0])
    refine opt_some (appA_own ov1 (by decide) (by decide) (by omega) (by omega)) ?_
    have ov2 := own_app (src := [.int .u8 (128 + ((k % 128 : Nat) : Int))]) ov1 (n := 1) (by decide) rfl
    have gr2 := gr.trans (Grow.step ov (.row (putList 0 [.int .u8 (128 + ((k % 128 : Nat) : Int))] T.e) 1 5) [.int .u8 (128 + ((k % 128 : Nat) : Int))])
    have hap : byV ds ++ [AV.int .u8 (128 + ((k % 128 : Nat) : Int))] = byV (ds ++ [128 + ((k % 128 : Nat) : Int)]) := by rw [byV_append]; rfl
    rw [hap] at ov2 gr2 ⊢
    generalize appT _ 5 v _ = h2 at ov2 gr2 ⊢
    generalize appV _ 1 _ = v2 at ov2 gr2 ⊢
    simp only [go_sem, ↓reduceIte, ↓reduceDIte, zA, zM, zL, zE, zD, yA, yE, yL, yQ, yT, reduceCtorEq, t5, e4, f3]
    refine ⟨k / 128, by omega, k / 128, l + 1, ds ++ [128 + ((k % 128 : Nat) : Int)], v2, rfl, by omega, ?_, ?_, ov2, gr2, by rw [← hb]; simp, by omega⟩ <;> simp only [go_sem, ↓reduceIte, ↓reduceDIte, zA, zM, zL, zE, zD, yA, yE, yL, yQ, yT, reduceCtorEq]
theorem w27 (P : Program) {call : CallE} {h : H} {b : AV} {bs : List Int} {len n : Nat} (ob : Own 1 5 h b len (byV bs)) (hn : n < 18446744073709551616) (hlen : len + (putB n).length ≤ 1099511627776) :
    WF P call c27 [b, .int .i64 (n : Int)] h (PostPut b len bs n h) := by
  have fc : fw .u64 (n : Int) = (n : Int) := fwU (by omega) (by omega)
  simp only [go_sem, ↓reduceIte, ↓reduceDIte, zA, zM, zL, zE, zD, yA, yE, yL, yQ, yT, reduceCtorEq, c27, fc]
  refine loop_in (K27 h b bs len n) (L27 h b bs len n) (fun _ _ => False) (fun k tm h' hI => step27 P hlen k tm h' hI) (fun tm2 h2 hR => ?_) (fun _ _ hh => hh.elim) n _ _
    ⟨n, len, bs, b, rfl, hn, ?_, ?_, ob, Grow.refl _ _, rfl, rfl⟩
  · obtain ⟨x, l, ds, v, hx, t0, t5, ov, gr, hb, hl⟩ := hR
    have f1 : fw .u8 (x : Int) = (x : Int) := fwB (by omega) (by omega)
    simp only [go_sem, ↓reduceIte, ↓reduceDIte, zA, zM, zL, zE, zD, yA, yE, yL, yQ, yT, reduceCtorEq, t0, t5, f1]
    rw [putB_lt hx] at hb hl
    have ov1 := ov.keep (h' := ⟨h2.next + 1, h2.t.set h2.next (.row (putList 0 [.int .u8 (x : Int)] T.e) 1 5)⟩) (Nat.le_succ _) (fun b hb => by
      have := ov.lt hb
      have e0 : ¬ b = h2.next := by omega
      simp only [go_sem, ↓reduceIte, ↓reduceDIte, zA, zM, zL, zE, zD, yA, yE, yL, yQ, yT, reduceCtorEq, e0])
    rw [List.length_cons, List.length_nil] at hl
    refine opt_some (appA_own ov1 (by decide) (by decide) (by omega) (by omega)) ?_
    have ov2 := own_app (src := [.int .u8 (x : Int)]) ov1 (n := 1) (by decide) rfl
    have gr2 := gr.trans (Grow.step ov (.row (putList 0 [.int .u8 (x : Int)] T.e) 1 5) [.int .u8 (x : Int)])
    have hap : byV ds ++ [AV.int .u8 (x : Int)] = byV (ds ++ [(x : Int)]) := by rw [byV_append]; rfl
    rw [hap] at ov2 gr2 ⊢
    simp only [go_sem, ↓reduceIte, ↓reduceDIte, zA, zM, zL, zE, zD, yA, yE, yL, yQ, yT, reduceCtorEq]
    exact ⟨by rw [← hb, ← hl]; exact ov2, gr2⟩
  · simp only [go_sem, ↓reduceIte, ↓reduceDIte, zA, zM, zL, zE, zD, yA, yE, yL, yQ, yT, reduceCtorEq]
  · simp only [go_sem, ↓reduceIte, ↓reduceDIte, zA, zM, zL, zE, zD, yA, yE, yL, yQ, yT, reduceCtorEq]

def K28 (h0 : H) (b : AV) (bs : List Int) (len n : Nat) (k : Nat) (tm : T AV) (h : H) : Prop :=
  ∃ (x l : Nat) (ds : List Int) (v : AV), k = x ∧ x < 18446744073709551616 ∧ tm.get 0 = some v ∧ tm.get 5 = some (.int .u64 (x : Int)) ∧ Own 1 5 h v l (byV ds) ∧ Grow h0 b h v ∧ ds ++ putB x = bs ++ putB n ∧ l + (putB x).length = len + (putB n).length
def L28 (h0 : H) (b : AV) (bs : List Int) (len n : Nat) (tm : T AV) (h : H) : Prop :=
  ∃ (x l : Nat) (ds : List Int) (v : AV), x < 128 ∧ tm.get 0 = some v ∧ tm.get 5 = some (.int .u64 (x : Int)) ∧ Own 1 5 h v l (byV ds) ∧ Grow h0 b h v ∧ ds ++ putB x = bs ++ putB n ∧ l + (putB x).length = len + (putB n).length
theorem step28 (P : Program) {call : CallE} {h0 : H} {b : AV} {bs : List Int} {len n : Nat} (hlen : len + (putB n).length ≤ 1099511627776) (k : Nat) (tm : T AV) (h : H) (hI : K28 h0 b bs len n k tm h) :
    WC P call c28_l5 (loopQ 0 (fun tm h => ∃ j, j < k ∧ K28 h0 b bs len n j tm h) (L28 h0 b bs len n) (fun _ _ => False)) tm h := by
  obtain ⟨x, l, ds, v, rfl, hx, t0, t5, ov, gr, hb, hl⟩ := hI
  by_cases e1 : k < 128
  · have e2 : (k : Int) < 128 := by omega
    simp only [go_sem, ↓reduceIte, ↓reduceDIte, zA, zM, zL, zE, zD, yA, yE, yL, yQ, yT, reduceCtorEq, c28_l5, t5, e2]
    refine ⟨k, l, ds, v, e1, ?_, ?_, ov, gr, hb, hl⟩ <;> simp only [go_sem, ↓reduceIte, ↓reduceDIte, zA, zM, zL, zE, zD, yA, yE, yL, yQ, yT, reduceCtorEq, t0, t5]
  · have e2 : ¬ (k : Int) < 128 := by omega
    have e3 : (k : Int).tmod 128 = ((k % 128 : Nat) : Int) := rfl
    have e4 : (k : Int).tdiv 128 = ((k / 128 : Nat) : Int) := rfl
    have f1 : fw .u64 (128 + ((k % 128 : Nat) : Int)) = 128 + ((k % 128 : Nat) : Int) := fwU (by omega) (by omega)
    have f2 : fw .u8 (128 + ((k % 128 : Nat) : Int)) = 128 + ((k % 128 : Nat) : Int) := fwB (by omega) (by omega)
    have f3 : fw .u64 ((k / 128 : Nat) : Int) = ((k / 128 : Nat) : Int) := fwU (by omega) (by omega)
    simp only [go_sem, ↓reduceIte, ↓reduceDIte, zA, zM, zL, zE, zD, yA, yE, yL, yQ, yT, reduceCtorEq, c28_l5, t0, t5, e2, e3, f1, f2]
    rw [putB_ge e1] at hb hl
    rw [List.length_cons] at hl
    have ov1 := ov.keep (h' := ⟨h.next + 1, h.t.set h.next (.row (putList 0 [.int .u8 (128 + ((k % 128 : Nat) : Int))] T.e) 1 5)⟩) (Nat.le_succ _) (fun b hb => by
      have := ov.lt hb
      have e0 : ¬ b = h.next := by omega
      simp only [go_sem, ↓reduceIte, ↓reduceDIte, zA, zM, zL, zE, zD, yA, yE, yL, yQ, yT, reduceCtorEq, e0])
    refine opt_some (appA_own ov1 (by decide) (by decide) (by omega) (by omega)) ?_
    have ov2 := own_app (src := [.int .u8 (128 + ((k % 128 : Nat) : Int))]) ov1 (n := 1) (by decide) rfl
    have gr2 := gr.trans (Grow.step ov (.row (putList 0 [.int .u8 (128 + ((k % 128 : Nat) : Int))] T.e) 1 5) [.int .u8 (128 + ((k % 128 : Nat) : Int))])
    have hap : byV ds ++ [AV.int .u8 (128 + ((k % 128 : Nat) : Int))] = byV (ds ++ [128 + ((k % 128 : Nat) : Int)]) := by rw [byV_append]; rfl
    rw [hap] at ov2 gr2 ⊢
    generalize appT _ 5 v _ = h2 at ov2 gr2 ⊢
    generalize appV _ 1 _ = v2 at ov2 gr2 ⊢
    simp only [go_sem, ↓reduceIte, ↓reduceDIte, zA, zM, zL, zE, zD, yA, yE, yL, yQ, yT, reduceCtorEq, t5, e4, f3]
    refine ⟨k / 128, by omega, k / 128, l + 1, ds ++ [128 + ((k % 128 : Nat) : Int)], v2, rfl, by omega, ?_, ?_, ov2, gr2, by rw [← hb]; simp, by omega⟩ <;> simp only [go_sem, ↓reduceIte, ↓reduceDIte, zA, zM, zL, zE, zD, yA, yE, yL, yQ, yT, reduceCtorEq]
theorem w28 (P : Program) {call : CallE} {h : H} {b : AV} {bs : List Int} {len n : Nat} (ob : Own 1 5 h b len (byV bs)) (hn : n < 18446744073709551616) (hlen : len + (putB n).length ≤ 1099511627776) :
    WF P call c28 [b, .int .u8 (n : Int)] h (PostPut b len bs n h) := by
  have fc : fw .u64 (n : Int) = (n : Int) := fwU (by omega) (by omega)
  simp only [go_sem, ↓reduceIte, ↓reduceDIte, zA, zM, zL, zE, zD, yA, yE, yL, yQ, yT, reduceCtorEq, c28, fc]
  refine loop_in (K28 h b bs len n) (L28 h b bs len n) (fun _ _ => False) (fun k tm h' hI => step28 P hlen k tm h' hI) (fun tm2 h2 hR => ?_) (fun _ _ hh => hh.elim) n _ _
    ⟨n, len, bs, b, rfl, hn, ?_, ?_, ob, Grow.refl _ _, rfl, rfl⟩
  · obtain ⟨x, l, ds, v, hx, t0, t5, ov, gr, hb, hl⟩ := hR
    have f1 : fw .u8 (x : Int) = (x : Int) := fwB (by omega) (by omega)
    simp only [go_sem, ↓reduceIte, ↓reduceDIte, zA, zM, zL, zE, zD, yA, yE, yL, yQ, yT, reduceCtorEq, t0, t5, f1]
    rw [putB_lt hx] at hb hl
    have ov1 := ov.keep (h' := ⟨h2.next + 1, h2.t.set h2.next (.row (putList 0 [.int .u8 (x : Int)] T.e) 1 5)⟩) (Nat.le_succ _) (fun b hb => by
      have := ov.lt hb
      have e0 : ¬ b = h2.next := by omega
      simp only [go_sem, ↓reduceIte, ↓reduceDIte, zA, zM, zL, zE, zD, yA, yE, yL, yQ, yT, reduceCtorEq, e0])
    rw [List.length_cons, List.length_nil] at hl
    refine opt_some (appA_own ov1 (by decide) (by decide) (by omega) (by omega)) ?_
    have ov2 := own_app (src := [.int .u8 (x : Int)]) ov1 (n := 1) (by decide) rfl
    have gr2 := gr.trans (Grow.step ov (.row (putList 0 [.int .u8 (x : Int)] T.e) 1 5) [.int .u8 (x : Int)])
    have hap : byV ds ++ [AV.int .u8 (x : Int)] = byV (ds ++ [(x : Int)]) := by rw [byV_append]; rfl
    rw [hap] at ov2 gr2 ⊢
    simp only [go_sem, ↓reduceIte, ↓reduceDIte, zA, zM, zL, zE, zD, yA, yE, yL, yQ, yT, reduceCtorEq]
    exact ⟨by rw [← hb, ← hl]; exact ov2, gr2⟩
  · simp only [go_sem, ↓reduceIte, ↓reduceDIte, zA, zM, zL, zE, zD, yA, yE, yL, yQ, yT, reduceCtorEq]
  · simp only [go_sem, ↓reduceIte, ↓reduceDIte, zA, zM, zL, zE, zD, yA, yE, yL, yQ, yT, reduceCtorEq]

def K29 (h0 : H) (b : AV) (bs : List Int) (len n : Nat) (k : Nat) (tm : T AV) (h : H) : Prop :=
  ∃ (x l : Nat) (ds : List Int) (v : AV), k = x ∧ x < 18446744073709551616 ∧ tm.get 0 = some v ∧ tm.get 5 = some (.int .u64 (x : Int)) ∧ Own 1 5 h v l (byV ds) ∧ Grow h0 b h v ∧ ds ++ putB x = bs ++ putB n ∧ l + (putB x).length = len + (putB n).length
def L29 (h0 : H) (b : AV) (bs : List Int) (len n : Nat) (tm : T AV) (h : H) : Prop :=
  ∃ (x l : Nat) (ds : List Int) (v : AV), x < 128 ∧ tm.get 0 = some v ∧ tm.get 5 = some (.int .u64 (x : Int)) ∧ Own 1 5 h v l (byV ds) ∧ Grow h0 b h v ∧ ds ++ putB x = bs ++ putB n ∧ l + (putB x).length = len + (putB n).length
theorem step29 (P : Program) {call : CallE} {h0 : H} {b : AV} {bs : List Int} {len n : Nat} (hlen : len + (putB n).length ≤ 1099511627776) (k : Nat) (tm : T AV) (h : H) (hI : K29 h0 b bs len n k tm h) :
    WC P call c29_l5 (loopQ 0 (fun tm h => ∃ j, j < k ∧ K29 h0 b bs len n j tm h) (L29 h0 b bs len n) (fun _ _ => False)) tm h := by
  obtain ⟨x, l, ds, v, rfl, hx, t0, t5, ov, gr, hb, hl⟩ := hI
  by_cases e1 : k < 128
  · have e2 : (k : Int) < 128 := by omega
    simp only [go_sem, ↓reduceIte, ↓reduceDIte, zA, zM, zL, zE, zD, yA, yE, yL, yQ, yT, reduceCtorEq, c29_l5, t5, e2]
    refine ⟨k, l, ds, v, e1, ?_, ?_, ov, gr, hb, hl⟩ <;> simp only [go_sem, ↓reduceIte, ↓reduceDIte, zA, zM, zL, zE, zD, yA, yE, yL, yQ, yT, reduceCtorEq, t0, t5]
  · have e2 : ¬ (k : Int) < 128 := by omega
    have e3 : (k : Int).tmod 128 = ((k % 128 : Nat) : Int) := rfl
    have e4 : (k : Int).tdiv 128 = ((k / 128 : Nat) : Int) := rfl
    have f1 : fw .u64 (128 + ((k % 128 : Nat) : Int)) = 128 + ((k % 128 : Nat) : Int) := fwU (by omega) (by omega)
    have f2 : fw .u8 (128 + ((k % 128 : Nat) : Int)) = 128 + ((k % 128 : Nat) : Int) := fwB (by omega) (by omega)
    have f3 : fw .u64 ((k / 128 : Nat) : Int) = ((k / 128 : Nat) : Int) := fwU (by omega) (by omega)
    simp only [go_sem, ↓reduceIte, ↓reduceDIte, zA, zM, zL, zE, zD, yA, yE, yL, yQ, yT, reduceCtorEq, c29_l5, t0, t5, e2, e3, f1, f2]
    rw [putB_ge e1] at hb hl
    rw [List.length_cons] at hl
    have ov1 := ov.keep (h' := ⟨h.next + 1, h.t.set h.next (.row (putList 0 [.int .u8 (128 + ((k % 128 : Nat) : Int))] T.e) 1 5)⟩) (Nat.le_succ _) (fun b hb => by
      have := ov.lt hb
      have e0 : ¬ b = h.next := by omega
      simp only [go_sem, ↓reduceIte, ↓reduceDIte, zA, zM, zL, zE, zD, yA, yE, yL, yQ, yT, reduceCtorEq, e0])
    refine opt_some (appA_own ov1 (by decide) (by decide) (by omega) (by omega)) ?_
    have ov2 := own_app (src := [.int .u8 (128 + ((k % 128 : Nat) : Int))]) ov1 (n := 1) (by decide) rfl
    have gr2 := gr.trans (Grow.step ov (.row (putList 0 [.int .u8 (128 + ((k % 128 : Nat) : Int))] T.e) 1 5) [.int .u8 (128 + ((k % 128 : Nat) : Int))])
    have hap : byV ds ++ [AV.int .u8 (128 + ((k % 128 : Nat) : Int))] = byV (ds ++ [128 + ((k % 128 : Nat) : Int)]) := by rw [byV_append]; rfl
    rw [hap] at ov2 gr2 ⊢
    generalize appT _ 5 v _ = h2 at ov2 gr2 ⊢
    generalize appV _ 1 _ = v2 at ov2 gr2 ⊢
    simp only [go_sem, ↓reduceIte, ↓reduceDIte, zA, zM, zL, zE, zD, yA, yE, yL, yQ, yT, reduceCtorEq, t5, e4, f3]
    refine ⟨k / 128, by omega, k / 128, l + 1, ds ++ [128 + ((k % 128 : Nat) : Int)], v2, rfl, by omega, ?_, ?_, ov2, gr2, by rw [← hb]; simp, by omega⟩ <;> simp only [go_sem, ↓reduceIte, ↓reduceDIte, zA, zM, zL, zE, zD, yA, yE, yL, yQ, yT, reduceCtorEq]
theorem w29 (P : Program) {call : CallE} {h : H} {b : AV} {bs : List Int} {len n : Nat} (ob : Own 1 5 h b len (byV bs)) (hn : n < 18446744073709551616) (hlen : len + (putB n).length ≤ 1099511627776) :
    WF P call c29 [b, .int .u64 (n : Int)] h (PostPut b len bs n h) := by
  simp only [go_sem, ↓reduceIte, ↓reduceDIte, zA, zM, zL, zE, zD, yA, yE, yL, yQ, yT, reduceCtorEq, c29]
  refine loop_in (K29 h b bs len n) (L29 h b bs len n) (fun _ _ => False) (fun k tm h' hI => step29 P hlen k tm h' hI) (fun tm2 h2 hR => ?_) (fun _ _ hh => hh.elim) n _ _
    ⟨n, len, bs, b, rfl, hn, ?_, ?_, ob, Grow.refl _ _, rfl, rfl⟩
  · obtain ⟨x, l, ds, v, hx, t0, t5, ov, gr, hb, hl⟩ := hR
    have f1 : fw .u8 (x : Int) = (x : Int) := fwB (by omega) (by omega)
    simp only [go_sem, ↓reduceIte, ↓reduceDIte, zA, zM, zL, zE, zD, yA, yE, yL, yQ, yT, reduceCtorEq, t0, t5, f1]
    rw [putB_lt hx] at hb hl
    have ov1 := ov.keep (h' := ⟨h2.next + 1, h2.t.set h2.next (.row (putList 0 [.int .u8 (x : Int)] T.e) 1 5)⟩) (Nat.le_succ _) (fun b hb => by
      have := ov.lt hb
      have e0 : ¬ b = h2.next := by omega
      simp only [go_sem, ↓reduceIte, ↓reduceDIte, zA, zM, zL, zE, zD, yA, yE, yL, yQ, yT, reduceCtorEq, e0])
    rw [List.length_cons, List.length_nil] at hl
    refine opt_some (appA_own ov1 (by decide) (by decide) (by omega) (by omega)) ?_
    have ov2 := own_app (src := [.int .u8 (x : Int)]) ov1 (n := 1) (by decide) rfl
    have gr2 := gr.trans (Grow.step ov (.row (putList 0 [.int .u8 (x : Int)] T.e) 1 5) [.int .u8 (x : Int)])
    have hap : byV ds ++ [AV.int .u8 (x : Int)] = byV (ds ++ [(x : Int)]) := by rw [byV_append]; rfl
    rw [hap] at ov2 gr2 ⊢
    simp only [go_sem, ↓reduceIte, ↓reduceDIte, zA, zM, zL, zE, zD, yA, yE, yL, yQ, yT, reduceCtorEq]
    exact ⟨by rw [← hb, ← hl]; exact ov2, gr2⟩
  · simp only [go_sem, ↓reduceIte, ↓reduceDIte, zA, zM, zL, zE, zD, yA, yE, yL, yQ, yT, reduceCtorEq]
  · simp only [go_sem, ↓reduceIte, ↓reduceDIte, zA, zM, zL, zE, zD, yA, yE, yL, yQ, yT, reduceCtorEq]
end
end Go.Proofs.Ytnmlfhogolonoaa
