/-
  Decode of package script; what is read is in range.
-/
import Derived.Test.YtnmlfhogolonoaaSoZf
set_option linter.unusedVariables false
set_option linter.unusedSimpArgs false
namespace Go.Proofs.Ytnmlfhogolonoaa
open Go.Proofs.Ytnmlfhogolonoaa.Eo
open Nat renaming reduceAdd → zA, reduceMul → zM, reduceLT → zL, reduceEqDiff → zE, reduceLeDiff → zD
open Int renaming reduceAdd → yA, reduceLE → yE, reduceLT → yL, reduceEq → yQ, reduceToNat → yT
noncomputable section
theorem fw_lt {n : Int} (h : 0 ≤ n) : 0 ≤ fw .u64 n ∧ fw .u64 n < 18446744073709551616 := by
  obtain ⟨m, rfl⟩ : ∃ m : Nat, n = m := ⟨n.toNat, by omega⟩
  rw [fwU_mod]
  have := Nat.mod_lt m (show 0 < 18446744073709551616 by decide)
  omega
theorem fw63 (m : Nat) : fw .u64 ((m : Int) * 2 ^ (7 * 9)) ≤ 9223372036854775808 := by
  have e1 : ((m : Int) * 2 ^ (7 * 9)) = ((9223372036854775808 * m : Nat) : Int) := by rw [show (2 : Int) ^ (7 * 9) = 9223372036854775808 from rfl]; omega
  rw [e1, fwU_mod, show (18446744073709551616 : Nat) = 9223372036854775808 * 2 from rfl, Nat.mul_mod_mul_left]
  have := Nat.mod_lt m (show 0 < 2 by decide)
  omega
theorem numL_lt (r : ByteArray) : ∀ (k i : Nat) (acc : Int), i + k = 10 → 0 ≤ acc → acc < 2 ^ (7 * i) → numV (numL r k i acc) < 18446744073709551616
  | 0, i, acc, _, _, _ => (by decide : (0 : Int) < 18446744073709551616)
  | k + 1, i, acc, hk, h0, h1 => by
    rw [numL]
    split
    · rename_i hi
      have hm : ((r[i].toNat : Int).tmod 128) = ((r[i].toNat % 128 : Nat) : Int) := rfl
      have hlt := Nat.mod_lt r[i].toNat (show 0 < 128 by decide)
      have hb := acc_bd (m := r[i].toNat % 128) h0 h1 hlt
      rw [hm]
      generalize r[i].toNat % 128 = m at hlt hb
      split
      · show acc + _ < _
        rcases Nat.lt_or_ge i 9 with h9 | h9
        · have h2 : (2 : Nat) ^ (7 * (i + 1)) ≤ 2 ^ 63 := Nat.pow_le_pow_right (by decide) (by omega)
          have h3 : ((2 : Int) ^ (7 * (i + 1))) = ((2 ^ (7 * (i + 1)) : Nat) : Int) := by push_cast; rfl
          rw [h3] at hb
          have h4 : (2 : Nat) ^ 63 = 9223372036854775808 := rfl
          omega
        · obtain rfl : i = 9 := by omega
          have := fw63 m
          have h4 : (2 : Int) ^ (7 * 9) = 9223372036854775808 := rfl
          rw [h4] at h1 ⊢
          rw [h4] at this
          omega
      · exact numL_lt r k (i + 1) _ (by omega) hb.1 hb.2
    · exact (by decide : (0 : Int) < 18446744073709551616)
theorem numR_lt (s : RdT) : (numR s).1 < 18446744073709551616 := by
  rw [numR_V]
  exact numL_lt s.1 10 0 0 rfl (Int.le_refl _) (by decide)
def inU (x : Int) : Prop := 0 ≤ x ∧ x < 18446744073709551616
def fldL (x : OpT) : List Int := [fld x 0, fld x 1, fld x 2, fld x 3, fld x 4, fld x 5]
theorem fw_u {x : Int} (h : inU x) : fw .u64 x = x := fwU h.1 (by have := h.2; omega)
theorem fD_in (m : Int) : ∀ (k i : Nat) (l : List Int) (s : RdT), (∀ x ∈ l, inU x) → ∀ x ∈ (fD m k i l s).1, inU x := by
  intro k
  induction k with
  | zero => intro i l s h; exact h
  | succ k ih =>
    intro i l s h
    rw [fD]
    split
    · refine ih _ _ _ fun x hx => ?_
      rcases List.mem_or_eq_of_mem_set hx with hx | rfl
      · exact h x hx
      · exact ⟨numR_nonneg s, numR_lt s⟩
    · exact ih _ _ _ h
theorem fD_len (m : Int) : ∀ (k i : Nat) (l : List Int) (s : RdT), (fD m k i l s).1.length = l.length := by
  intro k
  induction k with
  | zero => intro i l s; rfl
  | succ k ih =>
    intro i l s
    rw [fD]
    split
    · rw [ih, List.length_set]
    · exact ih _ _ _
theorem opR_mk {k : Int} (hk : 0 ≤ k ∧ k < 256) : ∀ {l : List Int}, (∀ x ∈ l, inU x) → l.length = 6 → opR (mkOp k l)
  | [a, b, c, d, e, f], h, _ => by
    refine ⟨hk, fun i => ?_⟩
    simp only [List.mem_cons, List.not_mem_nil, or_false, forall_eq_or_imp, forall_eq] at h
    obtain ⟨ha, hb, hc, hd, he, hf⟩ := h
    match i with
    | 0 => exact ha
    | 1 => exact hb
    | 2 => exact hc
    | 3 => exact hd
    | 4 => exact he
    | 5 => exact hf
    | _ + 6 => exact ⟨Int.le_refl 0, (by decide : (0 : Int) < 18446744073709551616)⟩
theorem opD_R (s : RdT) : opR (opD s).1 := by
  have b := cntR_bd 255 s (by decide)
  unfold opD
  refine opR_mk (by omega) (fD_in _ _ _ _ _ fun x hx => ?_) (by rw [fD_len]; rfl)
  simp only [List.mem_cons, List.not_mem_nil, or_false, or_self] at hx
  subst hx
  exact ⟨Int.le_refl _, by decide⟩
theorem progD_R (n : Nat) : ∀ (s : RdT), ∀ x ∈ (progD n s).1, opR x := by
  induction n with
  | zero => intro s x hx; cases hx
  | succ n ih =>
    intro s x hx
    rw [progD] at hx
    rcases List.mem_cons.1 hx with rfl | hx
    · exact opD_R s
    · exact ih _ x hx
theorem progsD_R (n : Nat) : ∀ (s : RdT), ∀ p ∈ (progsD n s).1, ∀ x ∈ p, opR x := by
  induction n with
  | zero => intro s x hx; cases hx
  | succ n ih =>
    intro s x hx
    rw [progsD] at hx
    rcases List.mem_cons.1 hx with rfl | hx
    · exact progD_R _ _
    · exact ih _ x hx
theorem cutsD_in (n : Nat) : ∀ (b : Int) (s : RdT), 0 ≤ b → ∀ x ∈ (cutsD n b s).1, inU x := by
  induction n with
  | zero => intro b s _ x hx; cases hx
  | succ n ih =>
    intro b s hb x hx
    have h1 := fw_lt (n := b + (numR s).1) (by have := numR_nonneg s; omega)
    rw [cutsD] at hx
    rcases List.mem_cons.1 hx with rfl | hx
    · exact h1
    · exact ih _ _ h1.1 x hx
theorem cfgX_in (x : CfgT × RdT) (h : x.1.cuts = []) : ∀ y ∈ (cfgX x).1.cuts, inU y := by
  unfold cfgX
  split
  · show ∀ y ∈ x.1.cuts, inU y
    rw [h]
    intro y hy
    cases hy
  · split
    · exact cutsD_in _ _ _ (Int.le_refl _)
    · rw [h]
      intro y hy
      cases hy
theorem cfgD_in (s : RdT) : ∀ y ∈ (cfgD s).1.cuts, inU y := by
  have h := headD_cuts s
  unfold cfgD
  generalize headD s = x at h ⊢
  exact cfgX_in x h
theorem anyD_in (s : RdT) : (∀ p ∈ (anyD s).ps, ∀ x ∈ p, opR x) ∧ ∀ x ∈ (anyD s).c.cuts, x < 18446744073709551616 := by
  have h := cfgD_in s
  unfold anyD
  generalize cfgD s = x at h ⊢
  exact ⟨progsD_R _ _, fun y hy => (h y hy).2⟩
def zCfg : CfgT := ⟨0, 0, 0, 0, 0, 0, [], 0, 0, 0, 0, 0, 0, 0, 0, 0⟩
/-- the string is the bytes of the script that is read of it -/
structure Acc (s : ByteArray) (A : AnyT) : Prop where
  good : A.s.2 = false
  all : A.s.1.size = 0
  chk : chkB A.c A.ps A.ks
  enc : encZ (encS A.c A.ps A.ks) = (s, 0)
/-- what Decode answers -/
inductive DecA (s : ByteArray) (P : Prop) (A : AnyT) : Int → CfgT → List (List OpT) → List Int → Prop where
  | long (h : 65536 < s.size) : DecA s P A 5 zCfg [] []
  | ok (h : s.size ≤ 65536) (g : P) : DecA s P A 0 A.c A.ps A.ks
  | form (h : s.size ≤ 65536) (g : ¬ P) : DecA s P A 4 zCfg [] []
structure PostDec (s : ByteArray) (P : Prop) (A : AnyT) (h : H) (v : AV) (h' : H) : Prop where
  st : StepN h h'
  ex : ∃ v' e c ps ks, v = .tup [v', .int .i64 e] ∧ IsS h' v' c ps ks ∧ DecA s P A e c ps ks
theorem isS_zero (h : H) : IsS h (.agg zc) zCfg [] [] := ⟨.nils, .nils, .nils, rfl, .inl ⟨rfl, rfl⟩, fun x hx => by simp [own] at hx, ⟨[], .inl ⟨rfl, rfl⟩, rfl, fun i x p hx => by simp at hx, fun a ha => by simp [own] at ha, fun i x hx => by simp at hx⟩, .inl ⟨rfl, rfl⟩, fun x hx => by simp [own] at hx⟩
set_option maxRecDepth 8000 in
theorem w22 (P : Program) {call : CallE} (h49 : ∀ h a s, h.t.get a = some (rdA s) → a < h.next → s.1.size ≤ 9223372036854775807 → ∃ v h', call 49 [.ptr a 0] h = some (v, h') ∧ Post49 (anyD s) a h v h')
    (h13 : ∀ h v c ps ks, IsS h v c ps ks → (∀ p ∈ ps, ∀ x ∈ p, opR x) → (∀ x ∈ c.cuts, x < 18446744073709551616) → ∃ v' h', call 13 [v] h = some (v', h') ∧ Post13 c ps ks h v' h')
    {h : H} {s : ByteArray} : WF P call c22 [.str s] h (PostDec s (Acc s (anyD (s, false))) (anyD (s, false)) h) := by
  by_cases hl : s.size ≤ 65536
  case neg =>
    have e1 : (65536 : Int) < (s.size : Int) := by omega
    simp only [go_sem, ↓reduceIte, ↓reduceDIte, zA, zM, zL, zE, zD, yA, yE, yL, yQ, yT, reduceCtorEq, c22, e1]
    refine ⟨StepN.new h _, _, 5, zCfg, [], [], rfl, isS_zero _, .long (by omega)⟩
  have e1 : ¬ (65536 : Int) < (s.size : Int) := by omega
  have hs : s.size ≤ 9223372036854775807 := by omega
  simp only [go_sem, ↓reduceIte, ↓reduceDIte, zA, zM, zL, zE, zD, yA, yE, yL, yQ, yT, reduceCtorEq, c22, e1]
  obtain ⟨op, hcu⟩ := anyD_in (s, false)
  refine opt_by (h49 _ (h.next + 1) (s, false) (by simp only [go_sem, ↓reduceIte, ↓reduceDIte, zA, zM, zL, zE, zD, yA, yE, yL, yQ, yT, reduceCtorEq]; rfl) (Nat.lt_succ_self _) hs) fun v1 h1 p1 => ?_
  generalize anyD (s, false) = A at *
  obtain ⟨il1, ga, nx, old⟩ := p1
  have is1 := il1.is
  have nx' : h.next + 2 ≤ h1.next := nx
  have gR : h1.t.get h.next = some (.row (putList 0 zc T.e) 18 31) := by
    rw [old h.next (by show h.next < h.next + 2; omega) (by omega)]
    have e0 : ¬ h.next = h.next + 1 := by omega
    simp only [go_sem, ↓reduceIte, ↓reduceDIte, zA, zM, zL, zE, zD, yA, yE, yL, yQ, yT, reduceCtorEq, e0]
    rfl
  have oldT : ∀ b, b < h.next → h1.t.get b = h.t.get b := fun b hb => by
    rw [old b (by show b < h.next + 2; omega) (by omega)]
    have e0 : ¬ b = h.next + 1 := by omega
    have e2 : ¬ b = h.next := by omega
    simp only [go_sem, ↓reduceIte, ↓reduceDIte, zA, zM, zL, zE, zD, yA, yE, yL, yQ, yT, reduceCtorEq, e0, e2]
  obtain ⟨cv, pv, kv, rfl, i1, i2, i3, i4, i5⟩ := id is1
  have ov := i1.one
  have opa := i3.one
  have oka := i4.one
  have x1 : ¬ h.next + 1 = h1.next := by omega
  have x2 : ¬ h.next = h1.next := by omega
  have st2 := StepN.new h1 (.row (putList 0 (cfgC A.c cv ++ [pv, kv]) T.e) 18 31)
  have is2 := is1.keep st2
  have hbad : ∀ h', StepN h h' → ¬ Acc s A → PostDec s (Acc s A) A h (.tup [.agg zc, .int .i64 4]) h' := fun h' st na => ⟨st, _, 4, zCfg, [], [], rfl, isS_zero _, .form hl na⟩
  have stA : ∀ X Y, StepN h ⟨h1.next + 1, (h1.t.set h1.next X).set h.next Y⟩ := fun X Y => ⟨by show h.next ≤ h1.next + 1; omega, fun b hb => by
    have e0 : ¬ b = h1.next := by omega
    have e2 : ¬ b = h.next := by omega
    simp only [go_sem, ↓reduceIte, ↓reduceDIte, zA, zM, zL, zE, zD, yA, yE, yL, yQ, yT, reduceCtorEq, e0, e2]
    exact oldT b hb⟩
  by_cases hg : A.s.2 = true
  · simp only [go_sem, ↓reduceIte, ↓reduceDIte, zA, zM, zL, zE, zD, yA, yE, yL, yQ, yT, reduceCtorEq, ov, opa, oka, ga, x1, rdA, hg, gR, x2, zc]
    exact hbad _ (stA _ _) fun x => by have := x.good; rw [hg] at this; cases this
  have hg' : A.s.2 = false := by simpa using hg
  by_cases he : A.s.1.size = 0
  case neg =>
    simp only [go_sem, ↓reduceIte, ↓reduceDIte, zA, zM, zL, zE, zD, yA, yE, yL, yQ, yT, reduceCtorEq, ov, opa, oka, ga, x1, rdA, hg', bytes_empty, he, gR, x2, zc]
    exact hbad _ (stA _ _) fun x => he x.all
  simp only [go_sem, ↓reduceIte, ↓reduceDIte, zA, zM, zL, zE, zD, yA, yE, yL, yQ, yT, reduceCtorEq, ov, opa, oka, ga, x1, rdA, hg', bytes_empty, he]
  refine opt_by (h13 _ _ A.c A.ps A.ks is2 op hcu) fun v3 h3 p3 => ?_
  obtain ⟨st3, z, e, rfl, hz1, hz2⟩ := p3
  have gX3 := st3.old h1.next (by show h1.next < h1.next + 1; omega)
  have gR3 := st3.old h.next (by show h.next < h1.next + 1; omega)
  simp only [go_sem, ↓reduceIte, ↓reduceDIte, zA, zM, zL, zE, zD, yA, yE, yL, yQ, yT, reduceCtorEq] at gX3
  simp only [go_sem, ↓reduceIte, ↓reduceDIte, zA, zM, zL, zE, zD, yA, yE, yL, yQ, yT, reduceCtorEq, x2] at gR3
  rw [gR] at gR3
  have stB : ∀ Y, StepN h ⟨h3.next, h3.t.set h.next Y⟩ := fun Y => ⟨by have := st3.next; show h.next ≤ h3.next; have : h1.next + 1 ≤ h3.next := this; omega, fun b hb => by
    have e2 : ¬ b = h.next := by omega
    have e0 : ¬ b = h1.next := by omega
    simp only [go_sem, ↓reduceIte, ↓reduceDIte, zA, zM, zL, zE, zD, yA, yE, yL, yQ, yT, reduceCtorEq, e2]
    rw [st3.old b (by show b < h1.next + 1; omega)]
    simp only [go_sem, ↓reduceIte, ↓reduceDIte, zA, zM, zL, zE, zD, yA, yE, yL, yQ, yT, reduceCtorEq, e0]
    exact oldT b hb⟩
  by_cases e0 : e = 0
  · by_cases ez : z = s
    · simp only [go_sem, ↓reduceIte, ↓reduceDIte, zA, zM, zL, zE, zD, yA, yE, yL, yQ, yT, reduceCtorEq, e0, ez, gX3, gR3, zc, ov, opa, oka]
      have hc : chkB A.c A.ps A.ks := Classical.byContradiction fun hh => hh (chkE_iff.1 ((hz2 hh).2.symm.trans e0))
      obtain ⟨w1, w2⟩ := hz1 hc
      refine ⟨stB _, _, 0, A.c, A.ps, A.ks, rfl, ?_, .ok hl ⟨hg', he, hc, by rw [← ez, w1, ← e0, w2]⟩⟩
      refine il1 _ (by have := st3.next; show h1.next ≤ h3.next; have : h1.next + 1 ≤ h3.next := this; omega) fun b hb hb' => ?_
      have hb2 : h.next + 2 ≤ b := hb
      have e3 : ¬ b = h.next := by omega
      have e4 : ¬ b = h1.next := by omega
      simp only [go_sem, ↓reduceIte, ↓reduceDIte, zA, zM, zL, zE, zD, yA, yE, yL, yQ, yT, reduceCtorEq, e3]
      rw [st3.old b (by show b < h1.next + 1; omega)]
      simp only [go_sem, ↓reduceIte, ↓reduceDIte, zA, zM, zL, zE, zD, yA, yE, yL, yQ, yT, reduceCtorEq, e4]
    · simp only [go_sem, ↓reduceIte, ↓reduceDIte, zA, zM, zL, zE, zD, yA, yE, yL, yQ, yT, reduceCtorEq, e0, ez, gX3, gR3, zc, ov, opa, oka]
      refine hbad _ (stB _) fun x => ez ?_
      rw [(hz1 x.chk).1, x.enc]
  · simp only [go_sem, ↓reduceIte, ↓reduceDIte, zA, zM, zL, zE, zD, yA, yE, yL, yQ, yT, reduceCtorEq, e0, gX3, gR3, zc]
    refine hbad _ (stB _) fun x => e0 ?_
    rw [(hz1 x.chk).2, x.enc]
open Classical in
/-- what Encode answers -/
def resS (c : CfgT) (ps : List (List OpT)) (ks : List Int) : ByteArray × Int := if chkB c ps ks then encZ (encS c ps ks) else (⟨#[]⟩, chkE c ps ks)
def PostEnc (c : CfgT) (ps : List (List OpT)) (ks : List Int) (h : H) (v : AV) (h' : H) : Prop := StepN h h' ∧ v = .tup [.str (resS c ps ks).1, .int .i64 (resS c ps ks).2]
theorem Post13.enc {c : CfgT} {ps : List (List OpT)} {ks : List Int} {h : H} {v : AV} {h' : H} (p : Post13 c ps ks h v h') : PostEnc c ps ks h v h' := by
  obtain ⟨st, s, e, rfl, h1, h2⟩ := p
  refine ⟨st, ?_⟩
  unfold resS
  by_cases hc : chkB c ps ks
  · rw [if_pos hc, (h1 hc).1, (h1 hc).2]
  · rw [if_neg hc, (h2 hc).1, (h2 hc).2]
end
end Go.Proofs.Ytnmlfhogolonoaa
