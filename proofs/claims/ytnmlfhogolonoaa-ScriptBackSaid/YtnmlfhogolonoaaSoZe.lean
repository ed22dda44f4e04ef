/-
  A script that may be one is read: the programs and the picks.
-/
import Derived.Test.YtnmlfhogolonoaaSoZd
set_option linter.unusedVariables false
set_option linter.unusedSimpArgs false
namespace Go.Proofs.Ytnmlfhogolonoaa
open Go.Proofs.Ytnmlfhogolonoaa.Eo
open Nat renaming reduceAdd → zA, reduceMul → zM, reduceLT → zL, reduceEqDiff → zE, reduceLeDiff → zD
open Int renaming reduceAdd → yA, reduceLE → yE, reduceLT → yL, reduceEq → yQ, reduceToNat → yT
noncomputable section
theorem headD_le (s : RdT) : (headD s).2.1.size ≤ s.1.size := by
  unfold headD
  dsimp only
  iterate 13 (refine Nat.le_trans (cntR_le _ _) ?_)
  exact cntR_le _ _
theorem headD_cuts (s : RdT) : (headD s).1.cuts = [] := rfl
theorem cuts_nil {c : CfgT} (h : c.cuts = []) : { c with cuts := [] } = c := by
  cases c
  cases h
  rfl
theorem cutsD_le (n : Nat) : ∀ (b : Int) (s : RdT), (cutsD n b s).2.1.size ≤ s.1.size := by
  induction n with
  | zero => intro b s; exact Nat.le_refl _
  | succ n ih =>
    intro b s
    have h1 := ih (fw .u64 (b + (numR s).1)) (numR s).2
    have h2 := numR_le s
    have e : (cutsD (n + 1) b s).2 = (cutsD n (fw .u64 (b + (numR s).1)) (numR s).2).2 := rfl
    rw [e]
    omega
theorem cfgX_le (x : CfgT × RdT) : (cfgX x).2.1.size ≤ x.2.1.size := by
  unfold cfgX
  split
  · exact cntR_le _ _
  · split
    · exact Nat.le_trans (cutsD_le _ _ _) (cntR_le _ _)
    · exact Nat.le_refl _
theorem cfgD_le (s : RdT) : (cfgD s).2.1.size ≤ s.1.size := by
  have h2 := headD_le s
  unfold cfgD
  generalize headD s = x at h2 ⊢
  exact Nat.le_trans (cfgX_le x) h2
theorem fD_le (m : Int) : ∀ (k i : Nat) (l : List Int) (s : RdT), (fD m k i l s).2.1.size ≤ s.1.size
  | 0, i, l, s => Nat.le_refl _
  | k + 1, i, l, s => by
    rw [fD]
    split
    · exact Nat.le_trans (fD_le m k _ _ _) (numR_le s)
    · exact fD_le m k _ _ _
theorem opD_le (s : RdT) : (opD s).2.1.size ≤ s.1.size := Nat.le_trans (fD_le _ _ _ _ _) (Nat.le_trans (cntR_le _ _) (cntR_le _ _))
theorem progD_le : ∀ (n : Nat) (s : RdT), (progD n s).2.1.size ≤ s.1.size
  | 0, s => Nat.le_refl _
  | n + 1, s => by rw [progD]; exact Nat.le_trans (progD_le n (opD s).2) (opD_le s)
theorem prD_le (s : RdT) : (prD s).2.1.size ≤ s.1.size := Nat.le_trans (progD_le _ _) (cntR_le _ _)
theorem progsD_le : ∀ (n : Nat) (s : RdT), (progsD n s).2.1.size ≤ s.1.size
  | 0, s => Nat.le_refl _
  | n + 1, s => by rw [progsD]; exact Nat.le_trans (progsD_le n (prD s).2) (prD_le s)
theorem progD_len : ∀ (n : Nat) (s : RdT), (progD n s).1.length = n
  | 0, s => rfl
  | n + 1, s => by rw [progD, List.length_cons, progD_len n]
def sw49 (X : CC) : CC := .seq (.seq (.ops c49_s13) (.block 2 (.seq (.ops c49_s14) (.cond (.t 69) (.ops c49_s15) (.seq (.ops c49_s16) (.cond (.t 77) (.seq (.ops c49_s17) (.seq (.ops c49_s18) (.block 3 (.loop c49_l23)))) .skip)))))) X
set_option maxRecDepth 4000 in
theorem sw49_w (P : Program) {call : CallE} (h65 : F65 call) (h66 : F66 call) {n0 : Nat} {g0 : Nat → Option AO} {a : Nat} (han : a < n0) {s : RdT} (hs : s.1.size ≤ 9223372036854775807) {tm : T AV} {h : H} (hdA : HdA n0 g0 a n0 (n0 + 1) s tm h) {X : CC} {Q : Cont}
    (hX : ∀ tm' h' cv, At49 a n0 (n0 + 1) tm' → CtA n0 g0 a (cfgD s).2 (cfgD s).1 cv h' → WC P call X Q tm' h') : WC P call (sw49 X) Q tm h := by
  obtain ⟨⟨t0, t2, t3, t4⟩, nx, ga, gR, gX, old⟩ := hdA
  have hle := headD_le s
  have hcut := headD_cuts s
  have hcf : cfgD s = cfgX (headD s) := rfl
  rw [hcf] at hX
  clear hcf
  generalize headD s = hd at *
  have x1 : ¬ n0 + 1 = a := by omega
  have x2 : ¬ a = n0 + 1 := by omega
  have x3 : ¬ n0 = a := by omega
  have x4 : ¬ n0 = n0 + 1 := by omega
  by_cases k2 : hd.1.kind = 2
  · simp only [go_sem, ↓reduceIte, ↓reduceDIte, zA, zM, zL, zE, zD, yA, yE, yL, yQ, yT, reduceCtorEq, sw49, t0, t2, t3, t4, gX, k2]
    refine opt65 h65 (s := hd.2) ga (by omega) (by decide) (by decide) fun v s1 q1 l1 u1 z1 r1 => ?_
    simp only [go_sem, ↓reduceIte, ↓reduceDIte, zA, zM, zL, zE, zD, yA, yE, yL, yQ, yT, reduceCtorEq, t4, x1, gX]
    have e : cfgX hd = ({ hd.1 with n := v }, s1) := by unfold cfgX; rw [if_pos k2, q1]
    refine hX _ _ .nils ⟨by simp [go_sem, t0], by simp [go_sem, t2], by simp [go_sem, t3], by simp [go_sem, t4]⟩ ⟨by show n0 + 2 ≤ h.next; omega, ?_, ?_, ?_, ?_, fun b hb => by simp [own] at hb, fun b h1 h2 => ?_⟩
    · rw [e]
      simp only [go_sem, ↓reduceIte, ↓reduceDIte, zA, zM, zL, zE, zD, yA, yE, yL, yQ, yT, reduceCtorEq, x2]
    · simp only [go_sem, ↓reduceIte, ↓reduceDIte, zA, zM, zL, zE, zD, yA, yE, yL, yQ, yT, reduceCtorEq, x3, x4]
      exact gR
    · rw [e]
      simp only [go_sem, ↓reduceIte, ↓reduceDIte, zA, zM, zL, zE, zD, yA, yE, yL, yQ, yT, reduceCtorEq, cfg_len]
      rfl
    · rw [e]
      show Own 1 43 _ .nils hd.1.cuts.length (hd.1.cuts.map (AV.int .u64))
      rw [hcut]
      exact .nil
    · have e0 : ¬ b = n0 + 1 := by omega
      simp only [go_sem, ↓reduceIte, ↓reduceDIte, zA, zM, zL, zE, zD, yA, yE, yL, yQ, yT, reduceCtorEq, e0, h2]
      exact old b h1 h2
  · by_cases k3 : hd.1.kind = 3
    · simp only [go_sem, ↓reduceIte, ↓reduceDIte, zA, zM, zL, zE, zD, yA, yE, yL, yQ, yT, reduceCtorEq, sw49, t0, t2, t3, t4, gX, k2, k3]
      refine opt65 h65 (s := hd.2) ga (by omega) (by decide) (by decide) fun v s1 q1 l1 u1 z1 r1 => ?_
      obtain ⟨n, rfl⟩ : ∃ n : Nat, v = n := ⟨v.toNat, by omega⟩
      have e : cfgX hd = ({ hd.1 with cuts := (cutsD n 0 s1).1 }, (cutsD n 0 s1).2) := by unfold cfgX; rw [if_neg k2, if_pos k3, q1]; rfl
      simp only [go_sem, ↓reduceIte, ↓reduceDIte, zA, zM, zL, zE, zD, yA, yE, yL, yQ, yT, reduceCtorEq]
      have c0 := cuts_nil (hcut)
      refine loop_in (I23 n0 g0 a hd.1 n s1) _ _ (fun k tm h hI => step23 P h66 han (by omega) r1 k tm h hI) (fun tm2 h2 hR => ?_) (fun _ _ hh => hh.elim) n _ _
        ⟨⟨by simp [go_sem, t0], by simp [go_sem, t2], by simp [go_sem, t3], by simp [go_sem, t4]⟩, by simp [go_sem], 0, s1, 0, .nils, [], by omega, rfl, by simp [go_sem], by simp [go_sem], ⟨by show n0 + 2 ≤ h.next; omega, by simp [go_sem], ?_, ?_, .nil, fun b hb => by simp [own] at hb, fun b h1 h2 => ?_⟩, Nat.le_refl _, rfl⟩
      · obtain ⟨⟨a1, cv, ct⟩, _⟩ := hR
        simp only [go_sem, ↓reduceIte, ↓reduceDIte, zA, zM, zL, zE, zD, yA, yE, yL, yQ, yT, reduceCtorEq]
        exact hX _ _ cv a1 (by rw [e]; exact ct)
      · simp only [go_sem, ↓reduceIte, ↓reduceDIte, zA, zM, zL, zE, zD, yA, yE, yL, yQ, yT, reduceCtorEq, x3]
        exact gR
      · simp only [go_sem, ↓reduceIte, ↓reduceDIte, zA, zM, zL, zE, zD, yA, yE, yL, yQ, yT, reduceCtorEq, x1]
        rw [c0]
        exact gX
      · simp only [go_sem, ↓reduceIte, ↓reduceDIte, zA, zM, zL, zE, zD, yA, yE, yL, yQ, yT, reduceCtorEq, h2]
        exact old b h1 h2
    · simp only [go_sem, ↓reduceIte, ↓reduceDIte, zA, zM, zL, zE, zD, yA, yE, yL, yQ, yT, reduceCtorEq, sw49, t0, t2, t3, t4, gX, k2, k3]
      have e : cfgX hd = hd := by unfold cfgX; rw [if_neg k2, if_neg k3]
      refine hX _ _ .nils ⟨by simp [go_sem, t0], by simp [go_sem, t2], by simp [go_sem, t3], by simp [go_sem, t4]⟩ ⟨by omega, by rw [e]; exact ga, gR, by rw [e]; exact gX, ?_, fun b hb => by simp [own] at hb, old⟩
      rw [e, hcut]
      exact .nil
def F67 (call : CallE) : Prop := ∀ h a s, h.t.get a = some (rdA s) → a < h.next → s.1.size ≤ 9223372036854775807 → ∃ v h', call 67 [.ptr a 0] h = some (v, h') ∧ Post67 a s h v h'
def F68 (call : CallE) : Prop := ∀ h b (n : Nat) p, h.t.get b = some (rowL [.int .i64 p] 3) → b < h.next → n ≤ 65536 → ∃ v h', call 68 [.sl b 0 1 1 (some 1), .int .i64 (n : Int)] h = some (v, h') ∧ Post68 p n h v h'
def I49p (n0 : Nat) (g0 : Nat → Option AO) (a lo : Nat) (c : CfgT) (cv : AV) (m : Nat) (s0 : RdT) (k : Nat) (tm : T AV) (h : H) : Prop :=
  At49 a n0 (n0 + 1) tm ∧ tm.get 103 = some (.int .i64 (m : Int)) ∧ ∃ (i : Nat) (s : RdT) (progs : List (List OpT)) (pv : AV), i + k = m ∧ tm.get 104 = some (.int .i64 (i : Int)) ∧
    DcS (rdA s) n0 g0 n0 a (n0 + 1) lo h.next c cv pv .nils progs h ∧ s.1.size ≤ s0.1.size ∧ progs.length = i ∧ progsD m s0 = (progs ++ (progsD k s).1, (progsD k s).2)
def R49p (n0 : Nat) (g0 : Nat → Option AO) (a lo : Nat) (c : CfgT) (cv : AV) (s : RdT) (progs : List (List OpT)) (tm : T AV) (h : H) : Prop :=
  At49 a n0 (n0 + 1) tm ∧ ∃ pv, DcS (rdA s) n0 g0 n0 a (n0 + 1) lo h.next c cv pv .nils progs h
set_option maxRecDepth 4000 in
theorem step49p (P : Program) {call : CallE} (h67 : F67 call) {n0 : Nat} {g0 : Nat → Option AO} {a lo : Nat} {c : CfgT} {cv : AV} {m : Nat} (hm : m ≤ 64) {s0 : RdT} (hs : s0.1.size ≤ 9223372036854775807) (k : Nat) (tm : T AV) (h : H) (hI : I49p n0 g0 a lo c cv m s0 k tm h) :
    WC P call c49_l28 (loopQ 5 (fun tm h => ∃ j, j < k ∧ I49p n0 g0 a lo c cv m s0 j tm h) (R49p n0 g0 a lo c cv (progsD m s0).2 (progsD m s0).1) (fun _ _ => False)) tm h := by
  obtain ⟨⟨t0, t2, t3, t4⟩, t103, i, s, progs, pv, hik, t104, dc, hsz, hpl, ho⟩ := hI
  cases k with
  | zero =>
    have e1 : ¬ (i : Int) < (m : Int) := by omega
    simp only [go_sem, ↓reduceIte, ↓reduceDIte, zA, zM, zL, zE, zD, yA, yE, yL, yQ, yT, reduceCtorEq, c49_l28, t103, t104, e1]
    rw [ho]
    simp only [progsD, List.append_nil]
    exact ⟨⟨by simp [go_sem, t0], by simp [go_sem, t2], by simp [go_sem, t3], by simp [go_sem, t4]⟩, pv, dc⟩
  | succ k =>
    have e1 : (i : Int) < (m : Int) := by omega
    have hX := dc.hX
    have ord := dc.ord
    have ha := dc.ha
    simp only [go_sem, ↓reduceIte, ↓reduceDIte, zA, zM, zL, zE, zD, yA, yE, yL, yQ, yT, reduceCtorEq, c49_l28, t0, t3, t103, t104, e1, hX]
    refine opt_by (h67 h a s ha (by omega) (by omega)) fun p h1 p1 => ?_
    have nx1 := p1.next
    have x1 : ¬ n0 + 1 = a := by omega
    have dc1 := dc.box (bo' := rdA (prD s).2) nx1 (fun b hb hba => p1.old b (by omega) hba) p1.ga
    have hX1 := dc1.hX
    have one := p1.ow.one
    have x2 : ¬ n0 + 1 = h1.next := by omega
    have dc2 := dc1.mono (h' := ⟨h1.next + 1, h1.t.set h1.next (.row (putList 0 [p] T.e) 1 42)⟩) (Nat.le_succ _) (fun b hb => by
      have e0 : ¬ b = h1.next := by omega
      simp only [go_sem, ↓reduceIte, ↓reduceDIte, zA, zM, zL, zE, zD, yA, yE, yL, yQ, yT, reduceCtorEq, e0])
    have op2 := p1.ow.keep (h' := ⟨h1.next + 1, h1.t.set h1.next (.row (putList 0 [p] T.e) 1 42)⟩) (Nat.le_succ _) (fun b hb => by
      have := p1.ow.lt hb
      have e0 : ¬ b = h1.next := by omega
      simp only [go_sem, ↓reduceIte, ↓reduceDIte, zA, zM, zL, zE, zD, yA, yE, yL, yQ, yT, reduceCtorEq, e0])
    obtain ⟨vs, oo, dc4⟩ := dc2.push op2 p1.own
    simp only [go_sem, ↓reduceIte, ↓reduceDIte, zA, zM, zL, zE, zD, yA, yE, yL, yQ, yT, reduceCtorEq, one, nx1]
    refine opt_some (appA_own oo (by decide) (by decide) (by omega) (by omega)) ?_
    have hX2 : (appT ⟨h1.next + 1, h1.t.set h1.next (.row (putList 0 [p] T.e) 1 42)⟩ 42 pv (vs ++ [p])).t.get (n0 + 1) = some (rowL (cfgC c cv ++ [pv, .nils]) 31) := by
      rw [app_get (by show n0 + 1 < h1.next + 1; omega) (fun hh => by obtain ⟨ws, w1, w2, w3⟩ := dc.pr.ex; have := (w2 _ hh).1; omega)]
      exact dc2.hX
    have onev := (own_app (src := [p]) oo (n := 1) (by decide) rfl).one
    have f1 : fw .i64 ((i : Int) + 1) = (i : Int) + 1 := fwI (by omega) (by omega)
    have e3 : ((i + 1 : Nat) : Int) = (i : Int) + 1 := rfl
    simp only [go_sem, ↓reduceIte, ↓reduceDIte, zA, zM, zL, zE, zD, yA, yE, yL, yQ, yT, reduceCtorEq, t3, t104, hX1, hX2, onev, f1, app_next, x1, x2]
    refine ⟨k, Nat.lt_succ_self k, ⟨by simp [go_sem, t0], by simp [go_sem, t2], by simp [go_sem, t3], by simp [go_sem, t4]⟩, by simp [go_sem, t103], i + 1, (prD s).2, progs ++ [(prD s).1], appV ⟨h1.next + 1, h1.t.set h1.next (.row (putList 0 [p] T.e) 1 42)⟩ 1 (progs.length + 1), by omega, by simp [go_sem, e3], dc4, Nat.le_trans (prD_le s) hsz, by simp [hpl], ?_⟩
    rw [ho]
    simp [progsD]
theorem appA_zero {es es' bytes len : Nat} {e e' : TypeId} {h h' : H} {v : AV} {cs : List AV} (o : Own es e h v len cs) : appA h' e' es' bytes v 0 [] = some (v, h') := by
  cases o <;> rfl
/-- the loop over the runs -/
def I49k (n0 : Nat) (g0 : Nat → Option AO) (a lo hi : Nat) (c : CfgT) (cv pv : AV) (progs : List (List OpT)) (n : Nat) (s0 : RdT) (k : Nat) (tm : T AV) (h : H) : Prop :=
  At49 a n0 (n0 + 1) tm ∧ tm.get 115 = some (.int .i64 (n : Int)) ∧ ∃ (i : Nat) (s : RdT) (ks : List Int) (kv : AV), i + k = n ∧ tm.get 116 = some (.int .i64 (i : Int)) ∧
    DcS (rdA s) n0 g0 n0 a (n0 + 1) lo hi c cv pv kv progs h ∧ s.1.size ≤ s0.1.size ∧ Own 1 3 h kv ks.length (ks.map (AV.int .i64)) ∧ (∀ b, own kv = some b → hi ≤ b) ∧ ks.length ≤ 65536 ∧ runsD n s0 [] = runsD k s ks
def R49k (n0 : Nat) (g0 : Nat → Option AO) (a lo hi : Nat) (c : CfgT) (cv pv : AV) (progs : List (List OpT)) (s : RdT) (ks : List Int) (tm : T AV) (h : H) : Prop :=
  At49 a n0 (n0 + 1) tm ∧ ∃ kv, DcS (rdA s) n0 g0 n0 a (n0 + 1) lo hi c cv pv kv progs h ∧ Own 1 3 h kv ks.length (ks.map (AV.int .i64)) ∧ (∀ b, own kv = some b → hi ≤ b) ∧ ks.length ≤ 65536
set_option maxRecDepth 4000 in
theorem step49k (P : Program) {call : CallE} (h65 : F65 call) (h68 : F68 call) {n0 : Nat} {g0 : Nat → Option AO} {a lo hi : Nat} {c : CfgT} {cv pv : AV} {progs : List (List OpT)} {n : Nat} (hn : n ≤ 65536) {s0 : RdT} (hs : s0.1.size ≤ 9223372036854775807) (k : Nat) (tm : T AV) (h : H) (hI : I49k n0 g0 a lo hi c cv pv progs n s0 k tm h) :
    WC P call c49_l35 (loopQ 7 (fun tm h => ∃ j, j < k ∧ I49k n0 g0 a lo hi c cv pv progs n s0 j tm h) (R49k n0 g0 a lo hi c cv pv progs (runsD n s0 []).2 (runsD n s0 []).1) (fun _ _ => False)) tm h := by
  obtain ⟨⟨t0, t2, t3, t4⟩, t115, i, s, ks, kv, hik, t116, dc, hsz, ok, hkv, hkl, ho⟩ := hI
  cases k with
  | zero =>
    have e1 : ¬ (i : Int) < (n : Int) := by omega
    simp only [go_sem, ↓reduceIte, ↓reduceDIte, zA, zM, zL, zE, zD, yA, yE, yL, yQ, yT, reduceCtorEq, c49_l35, t115, t116, e1]
    rw [ho]
    simp only [runsD]
    exact ⟨⟨by simp [go_sem, t0], by simp [go_sem, t2], by simp [go_sem, t3], by simp [go_sem, t4]⟩, kv, dc, ok, hkv, hkl⟩
  | succ k =>
    have e1 : (i : Int) < (n : Int) := by omega
    have hX := dc.hX
    have ord := dc.ord
    have ha := dc.ha
    have lk := ok.lenA
    have f2 : fw .i64 (65536 - (ks.length : Int)) = 65536 - (ks.length : Int) := fwI (by omega) (by omega)
    have x1 : ¬ n0 + 1 = a := by omega
    have x2 : ¬ a = n0 + 1 := by omega
    simp only [go_sem, ↓reduceIte, ↓reduceDIte, zA, zM, zL, zE, zD, yA, yE, yL, yQ, yT, reduceCtorEq, c49_l35, t0, t3, t115, t116, e1, hX, lk, f2]
    refine opt65 h65 (s := s) ha (by omega) (by decide) (by decide) fun p s1 q1 l1 u1 z1 r1 => ?_
    simp only [go_sem, ↓reduceIte, ↓reduceDIte, zA, zM, zL, zE, zD, yA, yE, yL, yQ, yT, reduceCtorEq]
    refine opt65 h65 (s := s1) (by simp [go_sem]) (by omega) (by omega) (by omega) fun m s2 q2 l2 u2 z2 r2 => ?_
    obtain ⟨m, rfl⟩ : ∃ m' : Nat, m = m' := ⟨m.toNat, by omega⟩
    simp only [go_sem, ↓reduceIte, ↓reduceDIte, zA, zM, zL, zE, zD, yA, yE, yL, yQ, yT, reduceCtorEq, t3, x1, hX, lk, f2]
    have y1 : ¬ n0 + 1 = h.next := by omega
    have y2 : ¬ a = h.next := by omega
    have dcA : DcS (rdA s2) n0 g0 n0 a (n0 + 1) lo hi c cv pv kv progs ⟨h.next + 1, (h.t.set a (rdA s2)).set h.next (.row (putList 0 [.int .i64 p] T.e) 1 3)⟩ := dc.box (Nat.le_succ _) (fun b hb hba => by
      have e0 : ¬ b = h.next := by omega
      simp only [go_sem, ↓reduceIte, ↓reduceDIte, zA, zM, zL, zE, zD, yA, yE, yL, yQ, yT, reduceCtorEq, e0, hba]) (by simp [go_sem, y2])
    refine opt_by (h68 _ h.next m p (by simp only [go_sem, ↓reduceIte, ↓reduceDIte, zA, zM, zL, zE, zD, yA, yE, yL, yQ, yT, reduceCtorEq]; rfl) (Nat.lt_succ_self _) (by omega)) fun v2 h2 p2 => ?_
    obtain ⟨⟨nx2, old2⟩, d, rfl, d1, d2, d3⟩ := p2
    have nx2' : h.next + 1 ≤ h2.next := nx2
    have old2' : ∀ b, b < h.next → b ≠ a → h2.t.get b = h.t.get b := fun b hb hba => by
      rw [old2 b (by show b < h.next + 1; omega)]
      have e0 : ¬ b = h.next := by omega
      simp only [go_sem, ↓reduceIte, ↓reduceDIte, zA, zM, zL, zE, zD, yA, yE, yL, yQ, yT, reduceCtorEq, e0, hba]
    have dcB := dcA.mono nx2 (fun b hb => old2 b (by show b < h.next + 1; omega))
    have hXB := dcB.hX
    have okB := ok.keep (h' := h2) (by omega) (fun b hb => old2' b (ok.lt hb) (fun hh => by have := hkv b hb; omega))
    have f1 : fw .i64 ((i : Int) + 1) = (i : Int) + 1 := fwI (by omega) (by omega)
    have e3 : ((i + 1 : Nat) : Int) = (i : Int) + 1 := rfl
    have onek := ok.one
    have hru : runsD (k + 1) s ks = if s2.2 = true then (ks ++ List.replicate m p, s2) else runsD k s2 (ks ++ List.replicate m p) := by
      rw [runsD]
      simp only [q1, q2, Int.toNat_natCast]
    rw [hru] at ho
    rcases Nat.eq_zero_or_pos m with m0 | mp
    · subst m0
      have hsrc : srcA h2.t.get 1 (.sl d 0 0 1 (some 0)) = some (0, []) := rfl
      have happ : appA h2 3 1 8 kv 0 [] = some (kv, h2) := appA_zero ok
      have dcC : DcS (rdA s2) n0 g0 n0 a (n0 + 1) lo hi c cv pv kv progs ⟨h2.next, h2.t.set (n0 + 1) (.row (putList 0 (cfgC c cv ++ [pv, kv]) T.e) 18 31)⟩ := dcB.upd (Nat.le_refl _) (fun b hb h1 h2 => by simp [go_sem, h2]) (by simp only [go_sem, ↓reduceIte, ↓reduceDIte, zA, zM, zL, zE, zD, yA, yE, yL, yQ, yT, reduceCtorEq, x2]; exact dcB.ha) (by simp [go_sem, rowL, cfg_len])
      have okC := okB.keep (h' := ⟨h2.next, h2.t.set (n0 + 1) (.row (putList 0 (cfgC c cv ++ [pv, kv]) T.e) 18 31)⟩) (Nat.le_refl _) (fun b hb => by
        have := hkv b hb
        have e0 : ¬ b = n0 + 1 := by omega
        simp only [go_sem, ↓reduceIte, ↓reduceDIte, zA, zM, zL, zE, zD, yA, yE, yL, yQ, yT, reduceCtorEq, e0])
      have haC := dcC.ha
      by_cases hb : s2.2 = true
      · simp only [go_sem, ↓reduceIte, ↓reduceDIte, zA, zM, zL, zE, zD, yA, yE, yL, yQ, yT, reduceCtorEq, hsrc, happ, nx2', t0, t3, t116, hXB, onek, y1, x1, x2, hX, dcB.ha, rdA, hb]
        rw [if_pos hb, List.replicate_zero, List.append_nil] at ho
        rw [ho]
        exact ⟨⟨by simp [go_sem, t0], by simp [go_sem, t2], by simp [go_sem, t3], by simp [go_sem, t4]⟩, kv, dcC, okC, hkv, hkl⟩
      · have hb' : s2.2 = false := by simpa using hb
        simp only [go_sem, ↓reduceIte, ↓reduceDIte, zA, zM, zL, zE, zD, yA, yE, yL, yQ, yT, reduceCtorEq, hsrc, happ, nx2', t0, t3, t116, hXB, onek, y1, x1, x2, hX, dcB.ha, rdA, hb', f1]
        rw [if_neg hb, List.replicate_zero, List.append_nil] at ho
        exact ⟨k, Nat.lt_succ_self k, ⟨by simp [go_sem, t0], by simp [go_sem, t2], by simp [go_sem, t3], by simp [go_sem, t4]⟩, by simp [go_sem, t115], i + 1, s2, ks, kv, by omega, by simp [go_sem, e3], dcC, by omega, okC, hkv, hkl, ho⟩
    · obtain ⟨j, rfl⟩ : ∃ j, m = j + 1 := ⟨m - 1, by omega⟩
      have hsrc : getList (putList 0 (List.replicate (j + 1) (AV.int .i64 p)) T.e) 0 (j + 1) = some (List.replicate (j + 1) (.int .i64 p)) := by
        rw [getList_row, if_pos (.inl (by simp)), List.drop_zero, List.take_of_length_le (by simp)]
      have happ := appA_own (es := 1) (bytes := 8) (n := j + 1) (src := List.replicate (j + 1) (.int .i64 p)) okB (by decide) mp (by omega) (by omega)
      obtain ⟨dcC, okC⟩ := dcB.pick (n := j + 1) (src := List.replicate (j + 1) (.int .i64 p)) okB hkv mp List.length_replicate
      have onev := (own_app (src := List.replicate (j + 1) (AV.int .i64 p)) okB mp (by simp)).one
      have hXC : (appT h2 3 kv (ks.map (AV.int .i64) ++ List.replicate (j + 1) (.int .i64 p))).t.get (n0 + 1) = some (rowL (cfgC c cv ++ [pv, kv]) 31) := by
        rw [app_get (by omega) (fun hh => by have := hkv _ hh; omega)]
        exact hXB
      have haC : (appT h2 3 kv (ks.map (AV.int .i64) ++ List.replicate (j + 1) (.int .i64 p))).t.get a = some (rdA s2) := by
        rw [app_get (by omega) (fun hh => by have := hkv _ hh; omega)]
        exact dcB.ha
      have nx3 : h2.next ≤ (appT h2 3 kv (ks.map (AV.int .i64) ++ List.replicate (j + 1) (.int .i64 p))).next := Nat.le_succ _
      have hmap : ks.map (AV.int .i64) ++ List.replicate (j + 1) (AV.int .i64 p) = (ks ++ List.replicate (j + 1) p).map (AV.int .i64) := by rw [List.map_append, List.map_replicate]
      have hlen : (ks ++ List.replicate (j + 1) p).length = ks.length + (j + 1) := by simp
      have hkv3 : ∀ b, own (appV h2 1 (ks.length + (j + 1))) = some b → hi ≤ b := fun b hb => by
        rw [own_appV] at hb
        simp only [Option.some.injEq] at hb
        omega
      rw [hmap] at okC
      rw [hmap] at happ hXC haC nx3 dcC
      have dcC2 : DcS (rdA s2) n0 g0 n0 a (n0 + 1) lo hi c cv pv (appV h2 1 (ks.length + (j + 1))) progs ⟨h2.next + 1, (appT h2 3 kv ((ks ++ List.replicate (j + 1) p).map (AV.int .i64))).t.set (n0 + 1) (.row (putList 0 (cfgC c cv ++ [pv, appV h2 1 (ks.length + (j + 1))]) T.e) 18 31)⟩ := dcC
      have okC2 : Own 1 3 ⟨h2.next + 1, (appT h2 3 kv ((ks ++ List.replicate (j + 1) p).map (AV.int .i64))).t.set (n0 + 1) (.row (putList 0 (cfgC c cv ++ [pv, appV h2 1 (ks.length + (j + 1))]) T.e) 18 31)⟩ (appV h2 1 (ks.length + (j + 1))) (ks ++ List.replicate (j + 1) p).length ((ks ++ List.replicate (j + 1) p).map (AV.int .i64)) := by
        rw [hlen]
        exact okC
      have hk3 : (ks ++ List.replicate (j + 1) p).length ≤ 65536 := by rw [hlen]; omega
      have nxC : (appT h2 3 kv ((ks ++ List.replicate (j + 1) p).map (AV.int .i64))).next = h2.next + 1 := rfl
      by_cases hb : s2.2 = true
      · simp only [go_sem, ↓reduceIte, ↓reduceDIte, zA, zM, zL, zE, zD, yA, yE, yL, yQ, yT, reduceCtorEq, d3, hsrc, Nat.mul_one, happ, nx2', nx3, t0, t3, t116, hXB, hXC, onev, y1, x1, x2, hX, haC, rdA, hb]
        rw [if_pos hb] at ho
        rw [ho, nxC]
        exact ⟨⟨by simp [go_sem, t0], by simp [go_sem, t2], by simp [go_sem, t3], by simp [go_sem, t4]⟩, _, dcC2, okC2, hkv3, hk3⟩
      · have hb' : s2.2 = false := by simpa using hb
        simp only [go_sem, ↓reduceIte, ↓reduceDIte, zA, zM, zL, zE, zD, yA, yE, yL, yQ, yT, reduceCtorEq, d3, hsrc, Nat.mul_one, happ, nx2', nx3, t0, t3, t116, hXB, hXC, onev, y1, x1, x2, hX, haC, rdA, hb', f1]
        rw [if_neg hb] at ho
        rw [nxC]
        exact ⟨k, Nat.lt_succ_self k, ⟨by simp [go_sem, t0], by simp [go_sem, t2], by simp [go_sem, t3], by simp [go_sem, t4]⟩, by simp [go_sem, t115], i + 1, s2, ks ++ List.replicate (j + 1) p, _, by omega, by simp [go_sem, e3], dcC2, by omega, okC2, hkv3, hk3, ho⟩
end
end Go.Proofs.Ytnmlfhogolonoaa
