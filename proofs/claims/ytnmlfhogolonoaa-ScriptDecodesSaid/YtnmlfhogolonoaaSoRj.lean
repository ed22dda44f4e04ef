/-
  Decode of the reference: the programs and the runs.
-/
import Derived.Test.YtnmlfhogolonoaaSoRi
set_option linter.unusedVariables false
set_option linter.unusedSimpArgs false
namespace Go.Proofs.Ytnmlfhogolonoaa
open Go.Proofs.Ytnmlfhogolonoaa.Eo
open Nat renaming reduceAdd → zA, reduceMul → zM, reduceLT → zL, reduceEqDiff → zE, reduceLeDiff → zD
open Int renaming reduceAdd → yA, reduceLE → yE, reduceLT → yL, reduceEq → yQ, reduceToNat → yT
noncomputable section
theorem opsT_le (n : Nat) : ∀ s : RdT, (opsT n s).2.1.size ≤ s.1.size := by
  induction n with
  | zero => intro s; exact Nat.le_refl _
  | succ n ih =>
    intro s
    rw [opsT]
    split
    · exact Nat.le_refl _
    · exact Nat.le_trans (ih _) (opT_le s)
theorem prT_le (s : RdT) : (prT s).2.1.size ≤ s.1.size := Nat.le_trans (opsT_le _ _) (numT_bd 256 s (by decide)).2.2
theorem progsT_le (n : Nat) : ∀ s : RdT, (progsT n s).2.1.size ≤ s.1.size := by
  induction n with
  | zero => intro s; exact Nat.le_refl _
  | succ n ih =>
    intro s
    rw [progsT]
    split
    · exact Nat.le_refl _
    · exact Nat.le_trans (ih _) (prT_le s)
theorem opsT_len (n : Nat) : ∀ s : RdT, (opsT n s).1.length ≤ n := by
  induction n with
  | zero => intro s; exact Nat.le_refl _
  | succ n ih =>
    intro s
    rw [opsT]
    split
    · exact Nat.zero_le _
    · exact Nat.succ_le_succ (ih _)
theorem prT_len (s : RdT) : (prT s).1.length ≤ 256 := by
  have := opsT_len (numT 256 s).1.toNat (numT 256 s).2
  have b := numT_bd 256 s (by decide)
  unfold prT
  omega
theorem progsT_len (n : Nat) : ∀ s : RdT, (progsT n s).1.length ≤ n ∧ ∀ q ∈ (progsT n s).1, q.length ≤ 256 := by
  induction n with
  | zero => intro s; exact ⟨Nat.le_refl _, fun q hq => by cases hq⟩
  | succ n ih =>
    intro s
    rw [progsT]
    split
    · exact ⟨Nat.zero_le _, fun q hq => by cases hq⟩
    · refine ⟨Nat.succ_le_succ (ih _).1, fun q hq => ?_⟩
      rcases List.mem_cons.1 hq with rfl | hq
      · exact prT_len s
      · exact (ih _).2 q hq
def F52 (call : CallE) : Prop := ∀ h a s, h.t.get a = some (tpA s) → a < h.next → s.1.size ≤ 9223372036854775807 → ∃ v h', call 52 [.ptr a 0] h = some (v, h') ∧ Post52 a s h v h'
section
variable {s0' : ByteArray} {n0 : Nat} {g0 : Nat → Option AO} {lo : Nat} {c : CfgT} {cv pv : AV}
/-- the loop over a program's operations -/
def J23 (s0' : ByteArray) (n0 : Nat) (g0 : Nat → Option AO) (lo hi : Nat) (c : CfgT) (cv pv : AV) (progs : List (List OpT)) (i : Int) (n : Nat) (s0 : RdT) (k : Nat) (tm : T AV) (h : H) : Prop :=
  At23 s0' n0 (n0 + 1) (n0 + 2) tm ∧ tm.get 11 = some (.int .i64 i) ∧ tm.get 13 = some (.int .i64 (n : Int)) ∧ ∃ (j : Nat) (s : RdT) (p : AV) (dn : List OpT), j + k = n ∧ dn.length = j ∧ tm.get 14 = some (.int .i64 (j : Int)) ∧ tm.get 12 = some p ∧
    DcS (tpA s) n0 g0 n0 (n0 + 1) (n0 + 2) lo hi c cv pv .nils progs h ∧ s.1.size ≤ s0.1.size ∧ Own 7 45 h p dn.length (dn.flatMap opC) ∧ (∀ b, own p = some b → hi ≤ b) ∧ opsT n s0 = (dn ++ (opsT k s).1, (opsT k s).2)
set_option maxRecDepth 4000 in
theorem step23o (P : Program) {call : CallE} (h52 : F52 call) {hi : Nat} {progs : List (List OpT)} {i : Int} {n : Nat} (hn : n ≤ 256) {s0 : RdT} (hs : s0.1.size ≤ 9223372036854775807) (k : Nat) (tm : T AV) (h : H) (hI : J23 s0' n0 g0 lo hi c cv pv progs i n s0 k tm h) :
    WC P call c23_l33 (loopQ 6 (fun tm h => ∃ j, j < k ∧ J23 s0' n0 g0 lo hi c cv pv progs i n s0 j tm h) (fun tm h => At23 s0' n0 (n0 + 1) (n0 + 2) tm ∧ tm.get 11 = some (.int .i64 i) ∧ ∃ p, tm.get 12 = some p ∧ DcS (tpA (opsT n s0).2) n0 g0 n0 (n0 + 1) (n0 + 2) lo hi c cv pv .nils progs h ∧ Own 7 45 h p (opsT n s0).1.length ((opsT n s0).1.flatMap opC) ∧ ∀ b, own p = some b → hi ≤ b) (fun _ _ => False)) tm h := by
  obtain ⟨⟨t0, t2, t4, t5, t6⟩, t11, t13, j, s, p, dn, hjk, hdl, t14, t12, dc, hsz, op, hp, ho⟩ := hI
  have ga := dc.ha
  cases k with
  | zero =>
    have e1 : ¬ (j : Int) < (n : Int) := by omega
    simp only [go_sem, ↓reduceIte, ↓reduceDIte, zA, zM, zL, zE, zD, yA, yE, yL, yQ, yT, reduceCtorEq, c23_l33, t13, t14, e1]
    rw [ho]
    simp only [opsT, List.append_nil]
    exact ⟨⟨by simp [go_sem, t0], by simp [go_sem, t2], by simp [go_sem, t4], by simp [go_sem, t5], by simp [go_sem, t6]⟩, by simp [go_sem, t11], p, by simp [go_sem, t12], dc, op, hp⟩
  | succ k =>
    have e1 : (j : Int) < (n : Int) := by omega
    by_cases hb : s.2 = true
    · simp only [go_sem, ↓reduceIte, ↓reduceDIte, zA, zM, zL, zE, zD, yA, yE, yL, yQ, yT, reduceCtorEq, c23_l33, t4, t13, t14, e1, ga, tpA, hb]
      rw [ho]
      simp only [opsT, if_pos hb, List.append_nil]
      exact ⟨⟨by simp [go_sem, t0], by simp [go_sem, t2], by simp [go_sem, t4], by simp [go_sem, t5], by simp [go_sem, t6]⟩, by simp [go_sem, t11], p, by simp [go_sem, t12], dc, op, hp⟩
    have hb' : s.2 = false := by simpa using hb
    have hbs : opsT (k + 1) s = ((opT s).1 :: (opsT k (opT s).2).1, (opsT k (opT s).2).2) := by rw [opsT, if_neg hb]
    rw [hbs] at ho
    have ga' : h.t.get (n0 + 1) = some (rowL [.str s.1, .bool false] 89) := by rw [ga, tpA, hb']
    have ord := dc.ord
    simp only [go_sem, ↓reduceIte, ↓reduceDIte, zA, zM, zL, zE, zD, yA, yE, yL, yQ, yT, reduceCtorEq, c23_l33, t4, t12, t13, t14, e1, ga']
    refine opt_by (h52 h (n0 + 1) s ga (by omega) (by omega)) fun v1 h1 p1 => ?_
    obtain ⟨rfl, ga1, nx1, old1⟩ := p1
    have dc1 := dc.box (bo' := tpA (opT s).2) nx1 (fun b hb hba => old1 b (by omega) hba) ga1
    have op1 := op.keep (h' := h1) nx1 (fun b hb => old1 b (op.lt hb) (by have := hp b hb; omega))
    have op2 := op1.keep (h' := ⟨h1.next + 1, h1.t.set h1.next (.row (putList 0 (opC (opT s).1) T.e) 7 45)⟩) (Nat.le_succ _) (fun b hb => by
      have := op1.lt hb
      have e0 : ¬ b = h1.next := by omega
      simp only [go_sem, ↓reduceIte, ↓reduceDIte, zA, zM, zL, zE, zD, yA, yE, yL, yQ, yT, reduceCtorEq, e0])
    simp only [go_sem, ↓reduceIte, ↓reduceDIte, zA, zM, zL, zE, zD, yA, yE, yL, yQ, yT, reduceCtorEq]
    refine opt_some (appA_own op2 (by decide) (by decide) (by omega) (by omega)) ?_
    have op3 := own_app (src := opC (opT s).1) op2 (n := 1) (by decide) rfl
    have dc2 : DcS (tpA (opT s).2) n0 g0 n0 (n0 + 1) (n0 + 2) lo hi c cv pv .nils progs (appT ⟨h1.next + 1, h1.t.set h1.next (.row (putList 0 (opC (opT s).1) T.e) 7 45)⟩ 45 p (dn.flatMap opC ++ opC (opT s).1)) := dc1.mono (by rw [app_next]; show h1.next ≤ h1.next + 1 + 1; omega) (fun b hb => by
      rw [app_get (by show b < h1.next + 1; omega) (fun hh => by have := hp b hh; omega)]
      have e0 : ¬ b = h1.next := by omega
      simp only [go_sem, ↓reduceIte, ↓reduceDIte, zA, zM, zL, zE, zD, yA, yE, yL, yQ, yT, reduceCtorEq, e0])
    have hfl : dn.flatMap opC ++ opC (opT s).1 = (dn ++ [(opT s).1]).flatMap opC := by simp [List.flatMap_append]
    have f1 : fw .i64 ((j : Int) + 1) = (j : Int) + 1 := fwI (by omega) (by omega)
    have e3 : ((j + 1 : Nat) : Int) = (j : Int) + 1 := rfl
    rw [hfl] at op3 dc2 ⊢
    simp only [go_sem, ↓reduceIte, ↓reduceDIte, zA, zM, zL, zE, zD, yA, yE, yL, yQ, yT, reduceCtorEq, t14, f1]
    refine ⟨k, Nat.lt_succ_self k, ⟨by simp [go_sem, t0], by simp [go_sem, t2], by simp [go_sem, t4], by simp [go_sem, t5], by simp [go_sem, t6]⟩, by simp [go_sem, t11], by simp [go_sem, t13], j + 1, (opT s).2, appV ⟨h1.next + 1, h1.t.set h1.next (.row (putList 0 (opC (opT s).1) T.e) 7 45)⟩ 7 (dn.length + 1), dn ++ [(opT s).1], by omega, by rw [List.length_append, hdl]; rfl, by simp [go_sem, e3], by simp [go_sem], dc2, Nat.le_trans (opT_le s) hsz, ?_, fun b hb => ?_, by rw [ho]; simp⟩
    · rw [List.length_append]
      exact op3
    · rw [own_appV] at hb
      simp only [Option.some.injEq] at hb
      omega
/-- the loop over the programs -/
def K23 (s0' : ByteArray) (n0 : Nat) (g0 : Nat → Option AO) (lo : Nat) (c : CfgT) (cv : AV) (m : Nat) (s0 : RdT) (k : Nat) (tm : T AV) (h : H) : Prop :=
  At23 s0' n0 (n0 + 1) (n0 + 2) tm ∧ ∃ (i : Nat) (s : RdT) (progs : List (List OpT)) (pv : AV), i + k = m ∧ tm.get 11 = some (.int .i64 (i : Int)) ∧ DcS (tpA s) n0 g0 n0 (n0 + 1) (n0 + 2) lo h.next c cv pv .nils progs h ∧ s.1.size ≤ s0.1.size ∧ progs.length = i ∧ progsT m s0 = (progs ++ (progsT k s).1, (progsT k s).2)
set_option maxRecDepth 4000 in
theorem step23p (P : Program) {call : CallE} (h50 : F50 call) (h52 : F52 call) {m : Nat} (hcm : c.threads = (m : Int)) (hm : m ≤ 64) {s0 : RdT} (hs : s0.1.size ≤ 9223372036854775807) (k : Nat) (tm : T AV) (h : H) (hI : K23 s0' n0 g0 lo c cv m s0 k tm h) :
    WC P call c23_l36 (loopQ 4 (fun tm h => ∃ j, j < k ∧ K23 s0' n0 g0 lo c cv m s0 j tm h) (fun tm h => At23 s0' n0 (n0 + 1) (n0 + 2) tm ∧ ∃ pv, DcS (tpA (progsT m s0).2) n0 g0 n0 (n0 + 1) (n0 + 2) lo h.next c cv pv .nils (progsT m s0).1 h) (fun _ _ => False)) tm h := by
  obtain ⟨⟨t0, t2, t4, t5, t6⟩, i, s, progs, pv, hik, t11, dc, hsz, hpl, ho⟩ := hI
  have hX := dc.hX
  have ga := dc.ha
  have ord := dc.ord
  cases k with
  | zero =>
    have e1 : ¬ (i : Int) < (m : Int) := by omega
    simp only [go_sem, ↓reduceIte, ↓reduceDIte, zA, zM, zL, zE, zD, yA, yE, yL, yQ, yT, reduceCtorEq, c23_l36, t6, t11, hX, hcm, e1]
    rw [ho]
    simp only [progsT, List.append_nil]
    exact ⟨⟨by simp [go_sem, t0], by simp [go_sem, t2], by simp [go_sem, t4], by simp [go_sem, t5], by simp [go_sem, t6]⟩, pv, dc⟩
  | succ k =>
    have e1 : (i : Int) < (m : Int) := by omega
    by_cases hb : s.2 = true
    · simp only [go_sem, ↓reduceIte, ↓reduceDIte, zA, zM, zL, zE, zD, yA, yE, yL, yQ, yT, reduceCtorEq, c23_l36, t4, t6, t11, hX, hcm, e1, ga, tpA, hb]
      rw [ho]
      simp only [progsT, if_pos hb, List.append_nil]
      exact ⟨⟨by simp [go_sem, t0], by simp [go_sem, t2], by simp [go_sem, t4], by simp [go_sem, t5], by simp [go_sem, t6]⟩, pv, dc⟩
    have hb' : s.2 = false := by simpa using hb
    have hbs : progsT (k + 1) s = ((prT s).1 :: (progsT k (prT s).2).1, (progsT k (prT s).2).2) := by rw [progsT, if_neg hb]
    rw [hbs] at ho
    have ga' : h.t.get (n0 + 1) = some (rowL [.str s.1, .bool false] 89) := by rw [ga, tpA, hb']
    simp only [go_sem, ↓reduceIte, ↓reduceDIte, zA, zM, zL, zE, zD, yA, yE, yL, yQ, yT, reduceCtorEq, c23_l36, t4, t6, t11, hX, hcm, e1, ga']
    refine opt50 h50 (s := s) ga (by omega) (by decide) (by decide) fun n s1 q1 l1 u1 z1 r1 => ?_
    obtain ⟨n, rfl⟩ : ∃ n' : Nat, n = n' := ⟨n.toNat, by omega⟩
    have hpr : prT s = opsT n s1 := by unfold prT; rw [q1]; rfl
    have dc1 := dc.box (h' := ⟨h.next, h.t.set (n0 + 1) (tpA s1)⟩) (bo' := tpA s1) (Nat.le_refl _) (fun b hb hba => by simp [go_sem, hba]) (by simp [go_sem])
    simp only [go_sem, ↓reduceIte, ↓reduceDIte, zA, zM, zL, zE, zD, yA, yE, yL, yQ, yT, reduceCtorEq]
    refine loop_in (J23 s0' n0 g0 lo h.next c cv pv progs (i : Int) n s1) _ _ (fun k tm h hI => step23o P h52 (by omega) r1 k tm h hI) (fun tm2 h2 hR => ?_) (fun _ _ hh => hh.elim) n _ _
      ⟨⟨by simp [go_sem, t0], by simp [go_sem, t2], by simp [go_sem, t4], by simp [go_sem, t5], by simp [go_sem, t6]⟩, by simp [go_sem, t11], by simp [go_sem], 0, s1, .nils, [], by omega, rfl, by simp [go_sem], by simp [go_sem], dc1, Nat.le_refl _, .nil, fun b hb => by simp [own] at hb, rfl⟩
    obtain ⟨⟨t0, t2, t4, t5, t6⟩, t11, p, t12, dc2, op, hp⟩ := hR
    rw [← hpr] at dc2 op
    have hX2 := dc2.hX
    have ord2 := dc2.ord
    have one := op.one
    have x2 : ¬ n0 + 2 = h2.next := by omega
    have dc3 := dc2.mono (h' := ⟨h2.next + 1, h2.t.set h2.next (.row (putList 0 [p] T.e) 1 42)⟩) (Nat.le_succ _) (fun b hb => by
      have e0 : ¬ b = h2.next := by omega
      simp only [go_sem, ↓reduceIte, ↓reduceDIte, zA, zM, zL, zE, zD, yA, yE, yL, yQ, yT, reduceCtorEq, e0])
    have op3 := op.keep (h' := ⟨h2.next + 1, h2.t.set h2.next (.row (putList 0 [p] T.e) 1 42)⟩) (Nat.le_succ _) (fun b hb => by
      have := op.lt hb
      have e0 : ¬ b = h2.next := by omega
      simp only [go_sem, ↓reduceIte, ↓reduceDIte, zA, zM, zL, zE, zD, yA, yE, yL, yQ, yT, reduceCtorEq, e0])
    obtain ⟨vs, oo, dc4⟩ := dc3.push op3 hp
    simp only [go_sem, ↓reduceIte, ↓reduceDIte, zA, zM, zL, zE, zD, yA, yE, yL, yQ, yT, reduceCtorEq, t5, t12, one, hX2]
    refine opt_some (appA_own oo (by decide) (by decide) (by omega) (by omega)) ?_
    have hX3 : (appT ⟨h2.next + 1, h2.t.set h2.next (.row (putList 0 [p] T.e) 1 42)⟩ 42 pv (vs ++ [p])).t.get (n0 + 2) = some (rowL (cfgC c cv ++ [pv, .nils]) 31) := by
      rw [app_get (by show n0 + 2 < h2.next + 1; omega) (fun hh => by obtain ⟨ws, w1, w2, w3⟩ := dc.pr.ex; have := (w2 _ hh).1; omega)]
      exact dc3.hX
    have onev := (own_app (src := [p]) oo (n := 1) (by decide) rfl).one
    have f1 : fw .i64 ((i : Int) + 1) = (i : Int) + 1 := fwI (by omega) (by omega)
    have e3 : ((i + 1 : Nat) : Int) = (i : Int) + 1 := rfl
    simp only [go_sem, ↓reduceIte, ↓reduceDIte, zA, zM, zL, zE, zD, yA, yE, yL, yQ, yT, reduceCtorEq, t5, t11, hX3, onev, f1]
    refine ⟨k, Nat.lt_succ_self k, ⟨by simp [go_sem, t0], by simp [go_sem, t2], by simp [go_sem, t4], by simp [go_sem, t5], by simp [go_sem, t6]⟩, i + 1, (prT s).2, progs ++ [(prT s).1], appV ⟨h2.next + 1, h2.t.set h2.next (.row (putList 0 [p] T.e) 1 42)⟩ 1 (progs.length + 1), by omega, by simp [go_sem, e3], dc4, Nat.le_trans (prT_le s) hsz, by simp [hpl], ?_⟩
    rw [ho]
    simp
def rp (ks : List Int) (x : Int) (j : Nat) : List Int := ks ++ List.replicate j x
theorem rp_len (ks : List Int) (x : Int) (j : Nat) : (rp ks x j).length = ks.length + j := by unfold rp; simp
/-- the loop that appends a run -/
def L23 (s0' : ByteArray) (n0 : Nat) (g0 : Nat → Option AO) (lo hi : Nat) (c : CfgT) (cv pv : AV) (progs : List (List OpT)) (s : RdT) (i n : Int) (m : Nat) (x : Int) (ks : List Int) (k : Nat) (tm : T AV) (h : H) : Prop :=
  At23 s0' n0 (n0 + 1) (n0 + 2) tm ∧ tm.get 15 = some (.int .i64 n) ∧ tm.get 16 = some (.int .i64 i) ∧ tm.get 17 = some (.int .i64 x) ∧ tm.get 18 = some (.int .i64 (m : Int)) ∧ ∃ (j : Nat) (kv : AV), j + k = m ∧ tm.get 19 = some (.int .i64 (j : Int)) ∧
    DcS (tpA s) n0 g0 n0 (n0 + 1) (n0 + 2) lo hi c cv pv kv progs h ∧ Own 1 3 h kv (rp ks x j).length ((rp ks x j).map (AV.int .i64)) ∧ ∀ b, own kv = some b → hi ≤ b
set_option maxRecDepth 4000 in
theorem step23r (P : Program) {call : CallE} {hi : Nat} {progs : List (List OpT)} {s : RdT} {i n : Int} {m : Nat} {x : Int} {ks : List Int} (hk : ks.length + m ≤ 65536) (k : Nat) (tm : T AV) (h : H) (hI : L23 s0' n0 g0 lo hi c cv pv progs s i n m x ks k tm h) :
    WC P call c23_l46 (loopQ 10 (fun tm h => ∃ j, j < k ∧ L23 s0' n0 g0 lo hi c cv pv progs s i n m x ks j tm h) (fun tm h => At23 s0' n0 (n0 + 1) (n0 + 2) tm ∧ tm.get 15 = some (.int .i64 n) ∧ tm.get 16 = some (.int .i64 i) ∧ ∃ kv, DcS (tpA s) n0 g0 n0 (n0 + 1) (n0 + 2) lo hi c cv pv kv progs h ∧ Own 1 3 h kv (rp ks x m).length ((rp ks x m).map (AV.int .i64)) ∧ ∀ b, own kv = some b → hi ≤ b) (fun _ _ => False)) tm h := by
  obtain ⟨⟨t0, t2, t4, t5, t6⟩, t15, t16, t17, t18, j, kv, hjk, t19, dc, ok, hkv⟩ := hI
  cases k with
  | zero =>
    have e1 : ¬ (j : Int) < (m : Int) := by omega
    obtain rfl : j = m := by omega
    simp only [go_sem, ↓reduceIte, ↓reduceDIte, zA, zM, zL, zE, zD, yA, yE, yL, yQ, yT, reduceCtorEq, c23_l46, t18, t19, e1]
    exact ⟨⟨by simp [go_sem, t0], by simp [go_sem, t2], by simp [go_sem, t4], by simp [go_sem, t5], by simp [go_sem, t6]⟩, by simp [go_sem, t15], by simp [go_sem, t16], kv, dc, ok, hkv⟩
  | succ k =>
    have e1 : (j : Int) < (m : Int) := by omega
    have hX := dc.hX
    have ord := dc.ord
    have x2 : ¬ n0 + 2 = h.next := by omega
    have hl := rp_len ks x j
    simp only [go_sem, ↓reduceIte, ↓reduceDIte, zA, zM, zL, zE, zD, yA, yE, yL, yQ, yT, reduceCtorEq, c23_l46, t5, t17, t18, t19, e1, hX]
    have dc2 := dc.mono (h' := ⟨h.next + 1, h.t.set h.next (.row (putList 0 [.int .i64 x] T.e) 1 3)⟩) (Nat.le_succ _) (fun b hb => by
      have e0 : ¬ b = h.next := by omega
      simp only [go_sem, ↓reduceIte, ↓reduceDIte, zA, zM, zL, zE, zD, yA, yE, yL, yQ, yT, reduceCtorEq, e0])
    have ok2 := ok.keep (h' := ⟨h.next + 1, h.t.set h.next (.row (putList 0 [.int .i64 x] T.e) 1 3)⟩) (Nat.le_succ _) (fun b hb => by
      have := ok.lt hb
      have e0 : ¬ b = h.next := by omega
      simp only [go_sem, ↓reduceIte, ↓reduceDIte, zA, zM, zL, zE, zD, yA, yE, yL, yQ, yT, reduceCtorEq, e0])
    obtain ⟨dc3, ok3⟩ := dc2.pick (n := 1) (src := [.int .i64 x]) ok2 hkv (by decide) rfl
    refine opt_some (appA_own ok2 (by decide) (by decide) (by omega) (by omega)) ?_
    have hX2 : (appT ⟨h.next + 1, h.t.set h.next (.row (putList 0 [.int .i64 x] T.e) 1 3)⟩ 3 kv ((rp ks x j).map (AV.int .i64) ++ [.int .i64 x])).t.get (n0 + 2) = some (rowL (cfgC c cv ++ [pv, kv]) 31) := by
      rw [app_get (by show n0 + 2 < h.next + 1; omega) (fun hh => by have := hkv _ hh; omega)]
      exact dc2.hX
    have onev := (own_app (src := [.int .i64 x]) ok2 (n := 1) (by decide) rfl).one
    have f1 : fw .i64 ((j : Int) + 1) = (j : Int) + 1 := fwI (by omega) (by omega)
    have e3 : ((j + 1 : Nat) : Int) = (j : Int) + 1 := rfl
    have hrep : rp ks x (j + 1) = rp ks x j ++ [x] := by unfold rp; rw [List.replicate_succ', List.append_assoc]
    have hmap : (rp ks x (j + 1)).map (AV.int .i64) = (rp ks x j).map (AV.int .i64) ++ [.int .i64 x] := by rw [hrep, List.map_append]; rfl
    have hlen : (rp ks x (j + 1)).length = (rp ks x j).length + 1 := by rw [hrep, List.length_append]; rfl
    simp only [go_sem, ↓reduceIte, ↓reduceDIte, zA, zM, zL, zE, zD, yA, yE, yL, yQ, yT, reduceCtorEq, t5, t19, hX2, onev, f1]
    refine ⟨k, Nat.lt_succ_self k, ⟨by simp [go_sem, t0], by simp [go_sem, t2], by simp [go_sem, t4], by simp [go_sem, t5], by simp [go_sem, t6]⟩, by simp [go_sem, t15], by simp [go_sem, t16], by simp [go_sem, t17], by simp [go_sem, t18], j + 1, appV ⟨h.next + 1, h.t.set h.next (.row (putList 0 [.int .i64 x] T.e) 1 3)⟩ 1 ((rp ks x j).length + 1), by omega, by simp [go_sem, e3], dc3, ?_, fun b hb => ?_⟩
    · rw [hlen, hmap]
      exact ok3
    · rw [own_appV] at hb
      simp only [Option.some.injEq] at hb
      omega
/-- the loop over the runs -/
def M23 (s0' : ByteArray) (n0 : Nat) (g0 : Nat → Option AO) (lo hi : Nat) (c : CfgT) (cv pv : AV) (progs : List (List OpT)) (n : Nat) (s0 : RdT) (k : Nat) (tm : T AV) (h : H) : Prop :=
  At23 s0' n0 (n0 + 1) (n0 + 2) tm ∧ tm.get 15 = some (.int .i64 (n : Int)) ∧ ∃ (i : Nat) (s : RdT) (ks : List Int) (kv : AV), i + k = n ∧ tm.get 16 = some (.int .i64 (i : Int)) ∧
    DcS (tpA s) n0 g0 n0 (n0 + 1) (n0 + 2) lo hi c cv pv kv progs h ∧ s.1.size ≤ s0.1.size ∧ Own 1 3 h kv ks.length (ks.map (AV.int .i64)) ∧ (∀ b, own kv = some b → hi ≤ b) ∧ ks.length ≤ 65536 ∧ runsT n s0 [] = runsT k s ks
set_option maxRecDepth 4000 in
theorem step23k (P : Program) {call : CallE} (h50 : F50 call) {hi : Nat} {progs : List (List OpT)} {n : Nat} (hn : n ≤ 65536) {s0 : RdT} (hs : s0.1.size ≤ 9223372036854775807) (k : Nat) (tm : T AV) (h : H) (hI : M23 s0' n0 g0 lo hi c cv pv progs n s0 k tm h) :
    WC P call c23_l48 (loopQ 8 (fun tm h => ∃ j, j < k ∧ M23 s0' n0 g0 lo hi c cv pv progs n s0 j tm h) (fun tm h => At23 s0' n0 (n0 + 1) (n0 + 2) tm ∧ ∃ kv, DcS (tpA (runsT n s0 []).2) n0 g0 n0 (n0 + 1) (n0 + 2) lo hi c cv pv kv progs h ∧ Own 1 3 h kv (runsT n s0 []).1.length ((runsT n s0 []).1.map (AV.int .i64)) ∧ (∀ b, own kv = some b → hi ≤ b) ∧ (runsT n s0 []).1.length ≤ 65536) (fun _ _ => False)) tm h := by
  obtain ⟨⟨t0, t2, t4, t5, t6⟩, t15, i, s, ks, kv, hik, t16, dc, hsz, ok, hkv, hkl, ho⟩ := hI
  have ga := dc.ha
  cases k with
  | zero =>
    have e1 : ¬ (i : Int) < (n : Int) := by omega
    simp only [go_sem, ↓reduceIte, ↓reduceDIte, zA, zM, zL, zE, zD, yA, yE, yL, yQ, yT, reduceCtorEq, c23_l48, t15, t16, e1]
    rw [ho]
    simp only [runsT]
    exact ⟨⟨by simp [go_sem, t0], by simp [go_sem, t2], by simp [go_sem, t4], by simp [go_sem, t5], by simp [go_sem, t6]⟩, kv, dc, ok, hkv, hkl⟩
  | succ k =>
    have e1 : (i : Int) < (n : Int) := by omega
    by_cases hb : s.2 = true
    · simp only [go_sem, ↓reduceIte, ↓reduceDIte, zA, zM, zL, zE, zD, yA, yE, yL, yQ, yT, reduceCtorEq, c23_l48, t4, t15, t16, e1, ga, tpA, hb]
      rw [ho]
      simp only [runsT, if_pos hb]
      exact ⟨⟨by simp [go_sem, t0], by simp [go_sem, t2], by simp [go_sem, t4], by simp [go_sem, t5], by simp [go_sem, t6]⟩, kv, dc, ok, hkv, hkl⟩
    have hb' : s.2 = false := by simpa using hb
    have hbs : runsT (k + 1) s ks = runsT k (numT (65536 - (ks.length : Int)) (numT 64 s).2).2 (ks ++ List.replicate (numT (65536 - (ks.length : Int)) (numT 64 s).2).1.toNat (numT 64 s).1) := by rw [runsT, if_neg hb]
    rw [hbs] at ho
    have ga' : h.t.get (n0 + 1) = some (rowL [.str s.1, .bool false] 89) := by rw [ga, tpA, hb']
    have hX := dc.hX
    have ord := dc.ord
    have lk := ok.lenA
    have f2 : fw .i64 (65536 - (ks.length : Int)) = 65536 - (ks.length : Int) := fwI (by omega) (by omega)
    simp only [go_sem, ↓reduceIte, ↓reduceDIte, zA, zM, zL, zE, zD, yA, yE, yL, yQ, yT, reduceCtorEq, c23_l48, t4, t15, t16, e1, ga']
    refine opt50 h50 (s := s) ga (by omega) (by decide) (by decide) fun p s1 q1 l1 u1 z1 r1 => ?_
    simp only [go_sem, ↓reduceIte, ↓reduceDIte, zA, zM, zL, zE, zD, yA, yE, yL, yQ, yT, reduceCtorEq, t4, t5, hX, lk, f2]
    refine opt50 h50 (s := s1) (by simp [go_sem]) (by omega) (by omega) (by omega) fun m s2 q2 l2 u2 z2 r2 => ?_
    obtain ⟨m, rfl⟩ : ∃ m' : Nat, m = m' := ⟨m.toNat, by omega⟩
    rw [q1] at ho
    dsimp only at ho
    rw [q2] at ho
    simp only [Int.toNat_natCast] at ho
    have dc1 := dc.box (h' := ⟨h.next, h.t.set (n0 + 1) (tpA s2)⟩) (bo' := tpA s2) (Nat.le_refl _) (fun b hb hba => by simp [go_sem, hba]) (by simp [go_sem])
    have ok1 := ok.keep (h' := ⟨h.next, h.t.set (n0 + 1) (tpA s2)⟩) (Nat.le_refl _) (fun b hb => by
      have := hkv b hb
      have e0 : ¬ b = n0 + 1 := by omega
      simp only [go_sem, ↓reduceIte, ↓reduceDIte, zA, zM, zL, zE, zD, yA, yE, yL, yQ, yT, reduceCtorEq, e0])
    simp only [go_sem, ↓reduceIte, ↓reduceDIte, zA, zM, zL, zE, zD, yA, yE, yL, yQ, yT, reduceCtorEq]
    refine loop_in (L23 s0' n0 g0 lo hi c cv pv progs s2 (i : Int) (n : Int) m p ks) _ _ (fun k tm h hI => step23r P (by omega) k tm h hI) (fun tm2 h2 hR => ?_) (fun _ _ hh => hh.elim) m _ _
      ⟨⟨by simp [go_sem, t0], by simp [go_sem, t2], by simp [go_sem, t4], by simp [go_sem, t5], by simp [go_sem, t6]⟩, by simp [go_sem, t15], by simp [go_sem, t16], by simp [go_sem], by simp [go_sem], 0, kv, by omega, by simp [go_sem], dc1, by rw [show rp ks p 0 = ks from List.append_nil ks]; exact ok1, hkv⟩
    obtain ⟨⟨t0, t2, t4, t5, t6⟩, t15, t16, kv2, dc2, ok2, hkv2⟩ := hR
    have f1 : fw .i64 ((i : Int) + 1) = (i : Int) + 1 := fwI (by omega) (by omega)
    have e3 : ((i + 1 : Nat) : Int) = (i : Int) + 1 := rfl
    have hl := rp_len ks p m
    simp only [go_sem, ↓reduceIte, ↓reduceDIte, zA, zM, zL, zE, zD, yA, yE, yL, yQ, yT, reduceCtorEq, t16, f1]
    exact ⟨k, Nat.lt_succ_self k, ⟨by simp [go_sem, t0], by simp [go_sem, t2], by simp [go_sem, t4], by simp [go_sem, t5], by simp [go_sem, t6]⟩, by simp [go_sem, t15], i + 1, s2, rp ks p m, kv2, by omega, by simp [go_sem, e3], dc2, by omega, ok2, hkv2, by rw [hl]; omega, ho⟩
end
end
end Go.Proofs.Ytnmlfhogolonoaa
