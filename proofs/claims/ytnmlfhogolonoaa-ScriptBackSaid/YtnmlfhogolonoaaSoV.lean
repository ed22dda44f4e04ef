/-
  A script that Read gives: it passes Check, and its bytes are few.
-/
import Derived.Test.YtnmlfhogolonoaaSoU
set_option linter.unusedVariables false
set_option linter.unusedSimpArgs false
namespace Go.Proofs.Ytnmlfhogolonoaa
open Go.Proofs.Ytnmlfhogolonoaa.Eo
open Nat renaming reduceAdd → zA, reduceMul → zM, reduceLT → zL, reduceEqDiff → zE, reduceLeDiff → zD
open Int renaming reduceAdd → yA, reduceLE → yE, reduceLT → yL, reduceEq → yQ, reduceToNat → yT
noncomputable section
theorem pI_1 {x : Int} (h : x < 128) : (pI x).length = 1 := by unfold pI; rw [putB_lt (by omega)]; rfl
theorem pI_pos (x : Int) : 1 ≤ (pI x).length := putB_pos _
/-- the numbers of an operation are small -/
structure opSm (x : OpT) : Prop where
  c : 1 ≤ x.1 ∧ x.1 < 128
  f0 : 0 ≤ x.2.1 ∧ x.2.1 < 128
  f1 : 0 ≤ x.2.2.1 ∧ x.2.2.1 < 128
  f2 : 0 ≤ x.2.2.2.1 ∧ x.2.2.2.1 < 128
  f3 : 0 ≤ x.2.2.2.2.1 ∧ x.2.2.2.2.1 < 128
  f4 : 0 ≤ x.2.2.2.2.2.1 ∧ x.2.2.2.2.2.1 < 128
  f5 : 0 ≤ x.2.2.2.2.2.2 ∧ x.2.2.2.2.2.2 < 128
theorem opSm.fld {x : OpT} (s : opSm x) : ∀ i, 0 ≤ fld x i ∧ fld x i < 128
  | 0 => s.f0
  | 1 => s.f1
  | 2 => s.f2
  | 3 => s.f3
  | 4 => s.f4
  | 5 => s.f5
  | n + 6 => by show 0 ≤ (0 : Int) ∧ (0 : Int) < 128; decide
theorem opSm.r {x : OpT} (s : opSm x) : opR x := ⟨by have := s.c; omega, fun i => by have := s.fld i; omega⟩
theorem opS_sm (r : ByteArray) : opSm (opS r).1 := by
  have k := vl_bound r (n := 15) (by decide)
  have a := vl_bound (nx r) (n := 12) (by decide)
  have b := vl_bound (nx (nx r)) (n := 8) (by decide)
  have d := vl_bound (nx (nx (nx r))) (n := 16) (by decide)
  have d8 := vl_bound (nx (nx (nx r))) (n := 8) (by decide)
  have d6 := vl_bound (nx (nx (nx r))) (n := 6) (by decide)
  have e := vl_bound (nx (nx (nx (nx r)))) (n := 16) (by decide)
  unfold opS
  dsimp only
  repeat' split
  all_goals (constructor <;> dsimp only <;> omega)
theorem opOpen_sm : opSm opOpen := by constructor <;> decide
theorem opsS_sm : ∀ (n : Nat) (r : ByteArray), ∀ x ∈ (opsS n r).1, opSm x
  | 0, r => fun x hx => by cases hx
  | n + 1, r => fun x hx => by
    rcases List.mem_cons.1 hx with rfl | hx
    · exact opS_sm r
    · exact opsS_sm n _ x hx
theorem progsS_sm : ∀ (n : Nat) (r : ByteArray), ∀ p ∈ (progsS n r).1, (∀ x ∈ p, opSm x) ∧ (1 ≤ p.length ∧ p.length ≤ 16) ∧ p[0]? = some opOpen
  | 0, r => fun p hp => by cases hp
  | n + 1, r => fun p hp => by
    rcases List.mem_cons.1 hp with rfl | hp
    · refine ⟨fun x hx => ?_, ?_, rfl⟩
      · rcases List.mem_cons.1 hx with rfl | hx
        · exact opOpen_sm
        · exact opsS_sm _ _ x hx
      · obtain ⟨a, b⟩ := vl_bound r (n := 16) (by decide)
        rw [List.length_cons, opsS_len]
        omega
    · exact progsS_sm n _ p hp
theorem opsS_size : ∀ (n : Nat) {r : ByteArray} {m : Nat}, r.size ≤ m → (opsS n r).2.size ≤ m
  | 0, r, m, h => h
  | n + 1, r, m, h => opsS_size n (opS_size h)
theorem progsS_size : ∀ (n : Nat) {r : ByteArray} {m : Nat}, r.size ≤ m → (progsS n r).2.size ≤ m
  | 0, r, m, h => h
  | n + 1, r, m, h => progsS_size n (opsS_size _ (nx_le h))
theorem cutsS_ok : ∀ (n : Nat) (a : Int) (r : ByteArray), ascB a (cutsS n a r).1 = true ∧ ∀ x ∈ (cutsS n a r).1, a < x ∧ x ≤ a + 8 * n
  | 0, a, r => ⟨rfl, fun x hx => by cases hx⟩
  | n + 1, a, r => by
    obtain ⟨b1, b2⟩ := vl_bound r (n := 8) (by decide)
    obtain ⟨h1, h2⟩ := cutsS_ok n (a + (1 + vl r 8)) (nx r)
    refine ⟨?_, fun x hx => ?_⟩
    · show (if a + (1 + vl r 8) ≤ a then false else ascB (a + (1 + vl r 8)) (cutsS n (a + (1 + vl r 8)) (nx r)).1) = true
      rw [if_neg (by omega)]
      exact h1
    · rcases List.mem_cons.1 hx with rfl | hx
      · omega
      · have := h2 x hx
        omega
theorem dl_len : ∀ (l : List Int) (a : Int), 0 ≤ a → (∀ x ∈ l, 0 ≤ x ∧ x < 18446744073709551616) → (dl a l).length ≤ 10 * l.length
  | [], a, h0, h => Nat.le_refl _
  | x :: l, a, h0, h => by
    have hx := h x (List.mem_cons_self ..)
    have h1 := dl_len l x hx.1 fun y hy => h y (List.mem_cons_of_mem _ hy)
    have h2 := pI_len (x := x - a) (by omega)
    rw [dl, List.length_append, List.length_cons]
    omega
theorem mk_sm (x : OpT) : mk x 6 < 128 := by have := (mk_bound x 6).2; omega
theorem ef_sm {x : OpT} (hx : opSm x) : ∀ i, (ef x i).length ≤ i
  | 0 => Nat.le_refl _
  | i + 1 => by
    have h1 := ef_sm hx i
    have h2 := pI_1 (hx.fld i).2
    rw [ef, List.length_append]
    split
    · simp; omega
    · omega
theorem encO_sm {x : OpT} (hx : opSm x) : (encO x).length ≤ 8 := by
  have h1 := ef_sm hx 6
  have h2 := pI_1 hx.c.2
  have h3 := pI_1 (mk_sm x)
  unfold encO
  rw [List.length_append, List.length_append]
  omega
theorem encOs_sm : ∀ {l : List OpT}, (∀ x ∈ l, opSm x) → (l.flatMap encO).length ≤ 8 * l.length
  | [], _ => Nat.le_refl _
  | x :: l, h => by
    have h1 := encOs_sm fun y hy => h y (List.mem_cons_of_mem _ hy)
    have h2 := encO_sm (h x (List.mem_cons_self ..))
    rw [List.flatMap_cons, List.length_append, List.length_cons]
    omega
theorem encPs_sm : ∀ {ps : List (List OpT)}, (∀ p ∈ ps, (∀ x ∈ p, opSm x) ∧ p.length ≤ 16) → (ps.flatMap encP).length ≤ 138 * ps.length
  | [], _ => Nat.le_refl _
  | p :: l, h => by
    have h1 := encPs_sm fun y hy => h y (List.mem_cons_of_mem _ hy)
    obtain ⟨h2, h3⟩ := h p (List.mem_cons_self ..)
    have h4 := encOs_sm h2
    have h5 := pI_len (x := (p.length : Int)) (by omega)
    rw [List.flatMap_cons, List.length_append, List.length_cons, encP, List.length_append]
    omega
theorem encR_sm : ∀ (r : List (Int × Int)), (∀ p ∈ r, (0 ≤ p.1 ∧ p.1 < 64) ∧ (1 ≤ p.2 ∧ p.2 ≤ 65536)) → ((encR r).length : Int) ≤ 2 * (r.map Prod.snd).sum
  | [], _ => Int.le_refl _
  | p :: l, h => by
    have h1 := encR_sm l fun y hy => h y (List.mem_cons_of_mem _ hy)
    obtain ⟨h2, h3⟩ := h p (List.mem_cons_self ..)
    have h4 := pI_1 (x := p.1) (by omega)
    have h5 : (pI p.2).length ≤ 3 := putB_len 2 _ (by omega)
    have h6 : p.2 < 128 → (pI p.2).length = 1 := pI_1
    unfold encR at h1 ⊢
    rw [List.flatMap_cons, List.length_append, List.length_append, List.map_cons, List.sum_cons]
    by_cases h7 : p.2 < 128
    · have := h6 h7
      omega
    · omega
theorem encR_append (a b : List (Int × Int)) : encR (a ++ b) = encR a ++ encR b := List.flatMap_append
theorem encR_reverse : ∀ r : List (Int × Int), (encR r.reverse).length = (encR r).length
  | [] => rfl
  | p :: l => by
    have e : encR (p :: l) = encR [p] ++ encR l := by rw [← encR_append]; rfl
    rw [List.reverse_cons, encR_append, e, List.length_append, List.length_append, encR_reverse l]
    omega
theorem encK_sm {l : List Int} (hl : ∀ x ∈ l, 0 ≤ x ∧ x < 64) (hn : l.length ≤ 65536) : (encK l).length ≤ 10 + 2 * l.length := by
  obtain ⟨h1, h2⟩ := runsF_ok hl hn
  have h3 := encR_sm (runR [] l) fun p hp => h2 p (by unfold runsF; rw [List.mem_reverse]; exact hp)
  have h4 := runR_sum l []
  simp only [List.map_nil, List.sum_nil, Int.zero_add] at h4
  have h5 := pI_len (x := ((runsF l).length : Int)) (by omega)
  have h6 : (encR (runsF l)).length = (encR (runR [] l)).length := encR_reverse _
  unfold encK
  rw [List.length_append]
  omega
theorem lay_mk {th sl en bu k n t0 t1 t2 lo tr ba : Int} {cuts : List Int} (hth : 1 ≤ th ∧ th ≤ 4) (hsl : 1 ≤ sl ∧ sl ≤ 4) (hen : (en = 3 ∧ 1 ≤ bu ∧ bu ≤ 4) ∨ (1 ≤ en ∧ en ≤ 2 ∧ bu = 0)) (h0 : 0 ≤ t0 ∧ t0 < 8) (h1 : 0 ≤ t1 ∧ t1 < 4) (h2 : 0 ≤ t2 ∧ t2 < 3)
    (hlo : 1 ≤ lo ∧ lo ≤ 3) (htr : 1 ≤ tr ∧ tr ≤ 8) (hba : 0 ≤ ba ∧ ba < 4) (hd : domB k n cuts) : layB ⟨th, sl, en, bu, k, n, cuts, t0, t1, t2, 0, 0, 0, lo, tr, ba⟩ := by
  have g1 : towB 1024 [t0, t1, t2, 0, 0, 0] := by simp only [towB, and_true]; omega
  have g2 : 1 ≤ th ∧ th ≤ 64 := by omega
  have g3 : 1 ≤ sl ∧ sl ≤ 64 := by omega
  have g4 : 1 ≤ en := by omega
  have g5 : en ≤ 3 := by omega
  have g6 : en = 3 → 1 ≤ bu ∧ bu ≤ 16 := by omega
  have g7 : en ≠ 3 → bu = 0 := by omega
  have g8 : 1 ≤ lo ∧ lo ≤ 16 := by omega
  have g9 : 1 ≤ tr ∧ tr ≤ 255 := by omega
  have g10 : 0 ≤ ba := by omega
  have g11 : ba ≤ 64 := by omega
  exact ⟨g1, g2, g3, g4, g5, g6, g7, hd, g8, g9, g10, g11⟩
theorem cfg2_ok (th sl en bu : Int) (r : ByteArray) (hth : 1 ≤ th ∧ th ≤ 4) (hsl : 1 ≤ sl ∧ sl ≤ 4) (hen : (en = 3 ∧ 1 ≤ bu ∧ bu ≤ 4) ∨ (1 ≤ en ∧ en ≤ 2 ∧ bu = 0)) :
    layB (cfgS2 th sl en bu r).1 ∧ (cfgS2 th sl en bu r).1.threads = th ∧ (∀ x ∈ (cfgS2 th sl en bu r).1.cuts, 0 ≤ x ∧ x < 18446744073709551616) ∧ (cfgS2 th sl en bu r).1.cuts.length ≤ 3 := by
  have t0 := vl_bound (nxn 3 r) (n := 8) (by decide)
  have t1 := vl_bound (nxn 4 r) (n := 4) (by decide)
  have t2 := vl_bound (nxn 5 r) (n := 3) (by decide)
  have k := vl_bound (nxn 6 r) (n := 3) (by decide)
  have n5 := vl_bound (nxn 7 r) (n := 5) (by decide)
  have n3 := vl_bound (nxn 7 r) (n := 3) (by decide)
  have l := vl_bound r (n := 3) (by decide)
  have tr := vl_bound (nxn 1 r) (n := 8) (by decide)
  have ba := vl_bound (nxn 2 r) (n := 4) (by decide)
  have hc := cutsS_ok (1 + vl (nxn 7 r) 3).toNat 0 (nx (nxn 7 r))
  have hcl := cutsS_len (1 + vl (nxn 7 r) 3).toNat 0 (nx (nxn 7 r))
  unfold cfgS2
  dsimp only
  generalize vl (nxn 3 r) 8 = x0 at t0 ⊢
  generalize vl (nxn 4 r) 4 = x1 at t1 ⊢
  generalize vl (nxn 5 r) 3 = x2 at t2 ⊢
  generalize vl (nxn 6 r) 3 = x3 at k ⊢
  generalize vl (nxn 7 r) 5 = x4 at n5 ⊢
  generalize vl r 3 = x6 at l ⊢
  generalize vl (nxn 1 r) 8 = x7 at tr ⊢
  generalize vl (nxn 2 r) 4 = x8 at ba ⊢
  generalize vl (nxn 7 r) 3 = x5 at n3 hc hcl ⊢
  generalize cutsS (1 + x5).toNat 0 (nx (nxn 7 r)) = cu at hc hcl ⊢
  have q1 : 1 ≤ 1 + x6 ∧ 1 + x6 ≤ 3 := by omega
  have q2 : 1 ≤ 1 + x7 ∧ 1 + x7 ≤ 8 := by omega
  have q3 : 1 ≤ cu.1.length ∧ cu.1.length ≤ 3 := by omega
  have hcu : ∀ x ∈ cu.1, 0 ≤ x ∧ x < 18446744073709551616 := fun x hx => by have := hc.2 x hx; omega
  by_cases k1 : x3 = 1
  · rw [if_pos k1]
    refine ⟨lay_mk hth hsl hen t0 t1 t2 q1 q2 ba ?_, rfl, (fun x hx => by cases hx), Nat.zero_le _⟩
    exact .inr (.inl ⟨by omega, by omega, rfl⟩)
  · rw [if_neg k1]
    by_cases k2 : x3 = 2
    · rw [if_pos k2]
      refine ⟨lay_mk hth hsl hen t0 t1 t2 q1 q2 ba ?_, rfl, hcu, q3.2⟩
      exact .inr (.inr ⟨by omega, rfl, by omega, by omega, hc.1⟩)
    · rw [if_neg k2]
      refine ⟨lay_mk hth hsl hen t0 t1 t2 q1 q2 ba ?_, rfl, (fun x hx => by cases hx), Nat.zero_le _⟩
      exact .inl ⟨by omega, rfl, rfl⟩
theorem cfg_ok (r : ByteArray) : layB (cfgS r).1 ∧ (1 ≤ (cfgS r).1.threads ∧ (cfgS r).1.threads ≤ 4) ∧ (∀ x ∈ (cfgS r).1.cuts, 0 ≤ x ∧ x < 18446744073709551616) ∧ (cfgS r).1.cuts.length ≤ 3 := by
  have a := vl_bound r (n := 4) (by decide)
  have b := vl_bound (nxn 1 r) (n := 4) (by decide)
  have d := vl_bound (nxn 2 r) (n := 3) (by decide)
  have e := vl_bound (nxn 3 r) (n := 4) (by decide)
  unfold cfgS
  by_cases h1 : vl (nxn 2 r) 3 = 2
  · rw [if_pos h1]
    obtain ⟨q1, q2, q3, q4⟩ := cfg2_ok (1 + vl r 4) (1 + vl (nxn 1 r) 4) 3 (1 + vl (nxn 3 r) 4) (nxn 4 r) (by omega) (by omega) (by omega)
    exact ⟨q1, by rw [q2]; omega, q3, q4⟩
  · rw [if_neg h1]
    obtain ⟨q1, q2, q3, q4⟩ := cfg2_ok (1 + vl r 4) (1 + vl (nxn 1 r) 4) (1 + vl (nxn 2 r) 3) 0 (nxn 3 r) (by omega) (by omega) (by omega)
    exact ⟨q1, by rw [q2]; omega, q3, q4⟩
theorem encC_ge (c : CfgT) : 14 ≤ (encC c).length := by
  have h := pI_pos
  have h0 := h c.threads
  have h1 := h c.slots
  have h2 := h c.engine
  have h3 := h c.buckets
  have h4 := h c.locks
  have h5 := h c.tries
  have h6 := h c.batch
  have h7 := h c.t0
  have h8 := h c.t1
  have h9 := h c.t2
  have h10 := h c.t3
  have h11 := h c.t4
  have h12 := h c.t5
  have h13 := h c.kind
  unfold encC
  simp only [List.length_append, List.length_nil]
  omega
theorem encC_le {c : CfgT} (hl : layB c) : (encC c).length ≤ 140 := by
  obtain ⟨ht, ⟨th1, th2⟩, ⟨sl1, sl2⟩, en1, en2, bk3, bkn, dom, ⟨lo1, lo2⟩, ⟨tr1, tr2⟩, ba1, ba2⟩ := hl
  simp only [towB, and_true] at ht
  have bk : 0 ≤ c.buckets ∧ c.buckets ≤ 16 := by
    by_cases hg : c.engine = 3
    · have := bk3 hg; omega
    · have := bkn hg; omega
  have hk : c.kind ≤ 3 := by unfold domB at dom; omega
  have h0 := pI_len (x := c.threads) (by omega)
  have h1 := pI_len (x := c.slots) (by omega)
  have h2 := pI_len (x := c.engine) (by omega)
  have h3 := pI_len (x := c.buckets) (by omega)
  have h4 := pI_len (x := c.locks) (by omega)
  have h5 := pI_len (x := c.tries) (by omega)
  have h6 := pI_len (x := c.batch) (by omega)
  have h7 := pI_len (x := c.t0) (by omega)
  have h8 := pI_len (x := c.t1) (by omega)
  have h9 := pI_len (x := c.t2) (by omega)
  have h10 := pI_len (x := c.t3) (by omega)
  have h11 := pI_len (x := c.t4) (by omega)
  have h12 := pI_len (x := c.t5) (by omega)
  have h13 := pI_len (x := c.kind) (by omega)
  unfold encC
  simp only [List.length_append, List.length_nil]
  omega
theorem encD_le {c : CfgT} (hl : layB c) (hc : ∀ x ∈ c.cuts, 0 ≤ x ∧ x < 18446744073709551616) (hn : c.cuts.length ≤ 3) : (encD c).length ≤ 40 := by
  have dom := hl.2.2.2.2.2.2.2.1
  have h1 := dl_len c.cuts 0 (Int.le_refl _) hc
  have h2 := pI_len (x := (c.cuts.length : Int)) (by omega)
  unfold encD
  by_cases k2 : c.kind = 2
  · rw [if_pos k2]
    have := pI_len (x := c.n) (by unfold domB at dom; omega)
    omega
  · rw [if_neg k2]
    by_cases k3 : c.kind = 3
    · rw [if_pos k3, List.length_append]; omega
    · rw [if_neg k3]; simp
structure ScrOk (s : ByteArray) (c : CfgT) (ps : List (List OpT)) (ks : List Int) : Prop where
  chk : chkB c ps ks
  op : ∀ p ∈ ps, ∀ x ∈ p, opR x
  cu : ∀ x ∈ c.cuts, x < 18446744073709551616
  len : (encS c ps ks).length ≤ 65536
  ge : 14 ≤ (encS c ps ks).length
  ks : ks.length ≤ s.size
  ps : ∀ p ∈ ps, (1 ≤ p.length ∧ p.length ≤ 16) ∧ p[0]? = some opOpen
theorem scr_ok {s : ByteArray} (hs : s.size ≤ 20000) {c : CfgT} {r r' : ByteArray} {ps : List (List OpT)} (h1 : cfgS s = (c, r)) (h2 : progsS c.threads.toNat r = (ps, r')) : ScrOk s c ps (picksS c.threads r') := by
  have k1 := cfg_ok s
  have k2 : (cfgS s).2.size ≤ s.size := cfgS_size (Nat.le_refl _)
  rw [h1] at k1 k2
  simp only at k1 k2
  obtain ⟨q1, q2, q3, q4⟩ := k1
  have p1 := progsS_sm c.threads.toNat r
  have p2 := (progsS_len c.threads.toNat r).1
  have p3 := progsS_size c.threads.toNat (r := r) (Nat.le_refl _)
  rw [h2] at p1 p2 p3
  simp only at p1 p2 p3
  have kl : (picksS c.threads r').length ≤ s.size := by unfold picksS; rw [List.length_map, List.length_range]; omega
  have kr : ∀ x ∈ picksS c.threads r', 0 ≤ x ∧ x < c.threads := fun x hx => by
    unfold picksS at hx
    obtain ⟨i, _, rfl⟩ := List.mem_map.1 hx
    unfold pickAt
    split
    · exact ⟨Int.tmod_nonneg _ (Int.natCast_nonneg _), Int.tmod_lt_of_pos _ (by omega)⟩
    · exact ⟨Int.le_refl _, by omega⟩
  have e1 := encC_le q1
  have e2 := encD_le q1 q3 q4
  have e3 := encPs_sm (ps := ps) fun p hp => ⟨(p1 p hp).1, (p1 p hp).2.1.2⟩
  have e4 := encK_sm (l := picksS c.threads r') (fun x hx => by have := kr x hx; omega) (by omega)
  have e5 := encC_ge c
  refine ⟨⟨q1, by omega, fun p hp => by have := (p1 p hp).2.1.2; omega, by omega, kr⟩, fun p hp x hx => ((p1 p hp).1 x hx).r, fun x hx => (q3 x hx).2, ?_, ?_, kl, fun p hp => (p1 p hp).2⟩
  · unfold encS
    rw [List.length_append, List.length_append, List.length_append]
    omega
  · unfold encS
    rw [List.length_append, List.length_append, List.length_append]
    omega
end
end Go.Proofs.Ytnmlfhogolonoaa
