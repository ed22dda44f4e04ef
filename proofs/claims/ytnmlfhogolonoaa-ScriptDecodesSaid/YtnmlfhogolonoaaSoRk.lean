/-
  Decode of the reference, whole.
-/
import Derived.Test.YtnmlfhogolonoaaSoRj
set_option linter.unusedVariables false
set_option linter.unusedSimpArgs false
namespace Go.Proofs.Ytnmlfhogolonoaa
open Go.Proofs.Ytnmlfhogolonoaa.Eo
open Nat renaming reduceAdd → zA, reduceMul → zM, reduceLT → zL, reduceEqDiff → zE, reduceLeDiff → zD
open Int renaming reduceAdd → yA, reduceLE → yE, reduceLT → yL, reduceEq → yQ, reduceToNat → yT
noncomputable section
theorem fT_in (m : Int) : ∀ (k i : Nat) (l : List Int) (s : RdT), (∀ x ∈ l, inU x) → ∀ x ∈ (fT m k i l s).1, inU x := by
  intro k
  induction k with
  | zero => intro i l s h; exact h
  | succ k ih =>
    intro i l s h
    rw [fT]
    split
    · refine ih _ _ _ fun x hx => ?_
      rcases List.mem_or_eq_of_mem_set hx with hx | rfl
      · exact h x hx
      · have := numT_bd mxU s (by decide)
        have e : mxU = 18446744073709551615 := rfl
        exact ⟨this.1, by omega⟩
    · exact ih _ _ _ h
theorem opT_R (s : RdT) : opR (opT s).1 := by
  have b := numT_bd 255 s (by decide)
  unfold opT
  refine opR_mk (by omega) (fT_in _ _ _ _ _ fun x hx => ?_) (by rw [fT_len]; rfl)
  simp only [List.mem_cons, List.not_mem_nil, or_false, or_self] at hx
  subst hx
  exact ⟨Int.le_refl _, by decide⟩
theorem opsT_R (n : Nat) : ∀ (s : RdT), ∀ x ∈ (opsT n s).1, opR x := by
  induction n with
  | zero => intro s x hx; cases hx
  | succ n ih =>
    intro s x hx
    rw [opsT] at hx
    split at hx
    · cases hx
    · rcases List.mem_cons.1 hx with rfl | hx
      · exact opT_R s
      · exact ih _ x hx
theorem progsT_R (n : Nat) : ∀ (s : RdT), ∀ p ∈ (progsT n s).1, ∀ x ∈ p, opR x := by
  induction n with
  | zero => intro s x hx; cases hx
  | succ n ih =>
    intro s x hx
    rw [progsT] at hx
    split at hx
    · cases hx
    · rcases List.mem_cons.1 hx with rfl | hx
      · exact opsT_R _ _
      · exact ih _ x hx
theorem cutsT_in (n : Nat) : ∀ (b : Int) (s : RdT), 0 ≤ b → ∀ x ∈ (cutsT n b s).1, inU x := by
  induction n with
  | zero => intro b s _ x hx; cases hx
  | succ n ih =>
    intro b s hb x hx
    have h1 := fw_lt (n := b + (numT mxU s).1) (by have := (numT_bd mxU s (by decide)).1; omega)
    rw [cutsT] at hx
    split at hx
    · cases hx
    · rcases List.mem_cons.1 hx with rfl | hx
      · exact h1
      · exact ih _ _ h1.1 x hx
theorem cutsT_len (n : Nat) : ∀ (b : Int) (s : RdT), (cutsT n b s).1.length ≤ n := by
  induction n with
  | zero => intro b s; exact Nat.le_refl _
  | succ n ih =>
    intro b s
    rw [cutsT]
    split
    · exact Nat.zero_le _
    · exact Nat.succ_le_succ (ih _ _)
theorem cfgY_in (x : CfgT × RdT) (h : x.1.cuts = []) : (∀ y ∈ (cfgY x).1.cuts, inU y) ∧ (cfgY x).1.cuts.length ≤ 64 := by
  have hb := numT_bd 63 x.2 (by decide)
  unfold cfgY
  split
  · show (∀ y ∈ x.1.cuts, inU y) ∧ x.1.cuts.length ≤ 64
    rw [h]
    exact ⟨fun y hy => (by cases hy), Nat.zero_le _⟩
  · split
    · refine ⟨cutsT_in _ _ _ (Int.le_refl _), ?_⟩
      show (cutsT _ _ _).1.length ≤ 64
      have := cutsT_len (numT 63 x.2).1.toNat 0 (numT 63 x.2).2
      omega
    · rw [h]
      exact ⟨fun y hy => (by cases hy), Nat.zero_le _⟩
theorem cfgY_th (x : CfgT × RdT) : (cfgY x).1.threads = x.1.threads := by
  unfold cfgY
  split
  · rfl
  · split <;> rfl
theorem headT_th (s : RdT) : 0 ≤ (headT s).1.threads ∧ (headT s).1.threads ≤ 64 := by
  have h := numT_bd 64 s (by decide)
  have e : (headT s).1.threads = (numT 64 s).1 := rfl
  rw [e]
  exact ⟨h.1, h.2.1⟩
def accT (s : ByteArray) (A : AnyT) : Prop := A.s.2 = false ∧ resS A.c A.ps A.ks = (s, 0)
def tl23 : CC := .seq (.seq (.ops c23_s25) (.block 4 (.loop c23_l36))) (.seq (.ops c23_s37) (.seq (.seq (.ops c23_s38) (.block 8 (.loop c23_l48))) (.seq (.ops c23_s49) (.seq (.seq (.ops c23_s50) (.cond (.t 222) (.seq (.ops c23_s51) .ret) .skip)) (.seq (.ops c23_s52) .ret)))))
theorem c23_split : c23 = ⟨1, head23 (sw23 tl23), [.cell 2 (some 18), .tmp 3]⟩ := rfl
set_option maxRecDepth 8000 in
theorem tl23_w (P : Program) {call : CallE} (h50 : F50 call) (h52 : F52 call)
    (h14 : ∀ h v c ps ks, IsS h v c ps ks → (∀ p ∈ ps, ∀ x ∈ p, opR x) → (∀ x ∈ c.cuts, inU x) → ∃ v' h', call 14 [v] h = some (v', h') ∧ PostEnc c ps ks h v' h')
    {h0 : H} {s : ByteArray} (hsz : s.size ≤ 65536) {x : CfgT × RdT} (hx : x.2.1.size ≤ s.size) (hth : 0 ≤ x.1.threads ∧ x.1.threads ≤ 64) (hcu : (∀ y ∈ x.1.cuts, inU y) ∧ x.1.cuts.length ≤ 64) {tm : T AV} {h : H} {cv : AV}
    (at' : At23 s h0.next (h0.next + 1) (h0.next + 2) tm) (ct : CtB h0.next h0.t.get x.2 x.1 cv h) : WC P call tl23 (endW [.cell 2 (some 18), .tmp 3] (PostDec s (accT s (anyY x)) (anyY x) h0)) tm h := by
  obtain ⟨t0, t2, t4, t5, t6⟩ := at'
  have hX := ct.hX
  obtain ⟨m, hm⟩ : ∃ m : Nat, x.1.threads = m := ⟨x.1.threads.toNat, by omega⟩
  have hm64 : m ≤ 64 := by omega
  have hany : anyY x = ⟨x.1, (progsT m x.2).1, (runsT (numT 65536 (progsT m x.2).2).1.toNat (numT 65536 (progsT m x.2).2).2 []).1, (runsT (numT 65536 (progsT m x.2).2).1.toNat (numT 65536 (progsT m x.2).2).2 []).2⟩ := by
    unfold anyY
    simp only [hm, Int.toNat_natCast]
  have hpl := progsT_len m x.2
  have hpR := progsT_R m x.2
  have hps := progsT_le m x.2
  have nx := ct.next
  have dc : DcS (tpA x.2) h0.next h0.t.get h0.next (h0.next + 1) (h0.next + 2) h.next h.next x.1 cv .nils .nils [] h := by
    refine ⟨⟨by omega, by omega, by omega, by omega, by omega, Nat.le_refl _, Nat.le_refl _, by omega, by omega, by omega⟩, ct.ha, ⟨zc, rfl, ct.hR⟩, ct.hX, ct.oc, fun b hb => ?_, ⟨[], .nil, fun b hb => by simp [own] at hb, fun i v p hv => by simp at hv⟩, fun b hb _ => ct.old b hb⟩
    have h1 := ct.ow b hb
    have h2 := ct.oc.lt hb
    omega
  simp only [go_sem, ↓reduceIte, ↓reduceDIte, zA, zM, zL, zE, zD, yA, yE, yL, yQ, yT, reduceCtorEq, tl23]
  refine loop_in (K23 s h0.next h0.t.get h.next x.1 cv m x.2) _ _ (fun k tm h hI => step23p P h50 h52 hm hm64 (by omega) k tm h hI) (fun tm2 h2 hR => ?_) (fun _ _ hh => hh.elim) m _ _
    ⟨⟨by simp [go_sem, t0], by simp [go_sem, t2], by simp [go_sem, t4], by simp [go_sem, t5], by simp [go_sem, t6]⟩, 0, x.2, [], .nils, by omega, by simp [go_sem], dc, Nat.le_refl _, rfl, by simp⟩
  obtain ⟨⟨t0, t2, t4, t5, t6⟩, pv, dc2⟩ := hR
  generalize progsT m x.2 = y at *
  simp only [go_sem, ↓reduceIte, ↓reduceDIte, zA, zM, zL, zE, zD, yA, yE, yL, yQ, yT, reduceCtorEq, t4]
  refine opt50 h50 (s := y.2) dc2.ha (by omega) (by decide) (by decide) fun n s3 q3 l3 u3 z3 r3 => ?_
  obtain ⟨n, rfl⟩ : ∃ n' : Nat, n = n' := ⟨n.toNat, by omega⟩
  have ord := dc2.ord
  have dc3 := dc2.box (h' := ⟨h2.next, h2.t.set (h0.next + 1) (tpA s3)⟩) (bo' := tpA s3) (Nat.le_refl _) (fun b hb hba => by simp [go_sem, hba]) (by simp [go_sem])
  rw [q3] at hany
  simp only [Int.toNat_natCast] at hany
  simp only [go_sem, ↓reduceIte, ↓reduceDIte, zA, zM, zL, zE, zD, yA, yE, yL, yQ, yT, reduceCtorEq]
  refine loop_in (M23 s h0.next h0.t.get h.next h2.next x.1 cv pv y.1 n s3) _ _ (fun k tm h hI => step23k P h50 (by omega) r3 k tm h hI) (fun tm4 h4 hR => ?_) (fun _ _ hh => hh.elim) n _ _
    ⟨⟨by simp [go_sem, t0], by simp [go_sem, t2], by simp [go_sem, t4], by simp [go_sem, t5], by simp [go_sem, t6]⟩, by simp [go_sem], 0, s3, [], .nils, by omega, by simp [go_sem], dc3, Nat.le_refl _, .nil, fun b hb => by simp [own] at hb, by simp, rfl⟩
  obtain ⟨⟨t0, t2, t4, t5, t6⟩, kv, dc4, ok4, hkv, hkl⟩ := hR
  generalize runsT n s3 [] = z at *
  have hX4 := dc4.hX
  have ha4 := dc4.ha
  obtain ⟨zs, hz1, hz2⟩ := dc4.hR
  have onc := dc4.oc.one
  have onp : oneA pv = true := by obtain ⟨vs, w1, _⟩ := dc4.pr.ex; exact w1.one
  have onk := ok4.one
  have ord4 := dc4.ord
  have lo' : h.next ≤ h2.next := ord4.2.2.2.2.2.1
  have lo4 : h2.next ≤ h4.next := ord4.2.2.2.2.2.2.1
  have il : IsL (h0.next + 3) h4 (.agg (cfgC x.1 cv ++ [pv, kv])) x.1 y.1 z.1 := fun h' hn' hk => ⟨cv, pv, kv, rfl, RdL.keep (Own.rdl1 dc4.oc (by omega)) (fun b hb => hk b (by have := dc4.cvlo b hb; omega) (dc4.oc.lt hb)), fun b hb => Nat.lt_of_lt_of_le (dc4.oc.lt hb) hn',
      PR.rdp (dc4.pr.keep (h' := h') hn' (fun b hb hb' => hk b (by omega) (by omega))) (by omega) (fun q hq => by have := hpl.2 q hq; omega),
      RdL.keep (Own.rdl1 ok4 (by omega)) (fun b hb => hk b (by have := hkv b hb; omega) (ok4.lt hb)), fun b hb => Nat.lt_of_lt_of_le (ok4.lt hb) hn'⟩
  simp only [go_sem, ↓reduceIte, ↓reduceDIte, zA, zM, zL, zE, zD, yA, yE, yL, yQ, yT, reduceCtorEq, t5, hX4]
  refine opt_by (h14 h4 _ x.1 y.1 z.1 il.is hpR hcu.1) fun v5 h5 p5 => ?_
  obtain ⟨st5, rfl⟩ := p5
  have gX5 := (st5.old (h0.next + 2) (by omega)).trans hX4
  have ga5 := (st5.old (h0.next + 1) (by omega)).trans ha4
  have gR5 := (st5.old h0.next (by omega)).trans hz2
  have nx5 := st5.next
  have stB : ∀ Y, StepN h0 ⟨h5.next, h5.t.set h0.next Y⟩ := fun Y => ⟨by show h0.next ≤ h5.next; omega, fun b hb => by
    have e2 : ¬ b = h0.next := by omega
    simp only [go_sem, ↓reduceIte, ↓reduceDIte, zA, zM, zL, zE, zD, yA, yE, yL, yQ, yT, reduceCtorEq, e2]
    rw [st5.old b (by omega)]
    exact dc4.old b hb (by omega)⟩
  have hlz : ∀ l : List AV, l.length = 18 → putList 0 l (putList 0 zs T.e) = putList 0 l T.e := fun l hl => rowPutAll _ _ (by rw [hl, hz1])
  have hlay := hlz zc rfl
  have hlay2 := hlz (cfgC x.1 cv ++ [pv, kv]) rfl
  unfold zc at hlay
  rw [hany]
  generalize hres : resS x.1 y.1 z.1 = r
  obtain ⟨rs, re⟩ := r
  have hbad : ¬ accT s ⟨x.1, y.1, z.1, z.2⟩ → PostDec s (accT s ⟨x.1, y.1, z.1, z.2⟩) ⟨x.1, y.1, z.1, z.2⟩ h0 (.tup [.agg zc, .int .i64 4]) ⟨h5.next, h5.t.set h0.next (.row (putList 0 zc T.e) 18 31)⟩ := fun na => ⟨stB _, _, 4, zCfg, [], [], rfl, isS_zero _, .form hsz na⟩
  by_cases hb : z.2.2 = true
  · simp only [go_sem, ↓reduceIte, ↓reduceDIte, zA, zM, zL, zE, zD, yA, yE, yL, yQ, yT, reduceCtorEq, t4, t2, ga5, tpA, hb, gR5, hz1, hlay]
    exact hbad fun hh => by have := hh.1; dsimp only at this; rw [hb] at this; cases this
  have hb' : z.2.2 = false := by simpa using hb
  by_cases he : re = 0
  case neg =>
    simp only [go_sem, ↓reduceIte, ↓reduceDIte, zA, zM, zL, zE, zD, yA, yE, yL, yQ, yT, reduceCtorEq, t4, t2, ga5, tpA, hb', he, gR5, hz1, hlay]
    exact hbad fun hh => he (by have := hh.2; dsimp only at this; rw [hres] at this; exact (Prod.ext_iff.1 this).2)
  by_cases hs : rs = s
  case neg =>
    simp only [go_sem, ↓reduceIte, ↓reduceDIte, zA, zM, zL, zE, zD, yA, yE, yL, yQ, yT, reduceCtorEq, t4, t2, t0, ga5, tpA, hb', he, hs, gR5, hz1, hlay]
    exact hbad fun hh => hs (by have := hh.2; dsimp only at this; rw [hres] at this; exact (Prod.ext_iff.1 this).1)
  simp only [go_sem, ↓reduceIte, ↓reduceDIte, zA, zM, zL, zE, zD, yA, yE, yL, yQ, yT, reduceCtorEq, t4, t2, t0, t5, ga5, tpA, hb', he, hs, gR5, gX5, hz1, onc, onp, onk, hlay2]
  refine ⟨stB _, _, 0, x.1, y.1, z.1, rfl, il _ (by show h4.next ≤ h5.next; exact nx5) (fun b h1 h2 => ?_), .ok hsz ⟨hb', by rw [hres, he, hs]⟩⟩
  have e2 : ¬ b = h0.next := by omega
  simp only [go_sem, ↓reduceIte, ↓reduceDIte, zA, zM, zL, zE, zD, yA, yE, yL, yQ, yT, reduceCtorEq, e2]
  exact st5.old b h2
set_option maxRecDepth 8000 in
theorem w23 (P : Program) {call : CallE} (h50 : F50 call) (h51 : F51 call) (h52 : F52 call)
    (h14 : ∀ h v c ps ks, IsS h v c ps ks → (∀ p ∈ ps, ∀ x ∈ p, opR x) → (∀ x ∈ c.cuts, inU x) → ∃ v' h', call 14 [v] h = some (v', h') ∧ PostEnc c ps ks h v' h')
    {h : H} {s : ByteArray} : WF P call c23 [.str s] h (PostDec s (accT s (anyT (s, false))) (anyT (s, false)) h) := by
  by_cases hl : s.size ≤ 65536
  case neg =>
    have e1 : (65536 : Int) < (s.size : Int) := by omega
    simp only [go_sem, ↓reduceIte, ↓reduceDIte, zA, zM, zL, zE, zD, yA, yE, yL, yQ, yT, reduceCtorEq, c23, e1]
    exact ⟨StepN.new h _, _, 5, zCfg, [], [], rfl, isS_zero _, .long (by omega)⟩
  have hs : s.size ≤ 9223372036854775807 := by omega
  rw [c23_split, rWF]
  have h1 := headT_le (s, false)
  have h2 := headT_cuts (s, false)
  have h3 := headT_th (s, false)
  refine head23_w P h50 hl fun tm' h' hd => ?_
  unfold anyT
  generalize headT (s, false) = y at *
  have h4 := cfgY_le y
  have h5 := cfgY_in y h2
  have h6 := cfgY_th y
  exact sw23_w P h50 h51 h2 (Nat.le_trans h1 hs) hd fun tm2 h2 cv at' ct => tl23_w P h50 h52 h14 hl (Nat.le_trans h4 h1) (by rw [h6]; exact h3) h5 at' ct
end
end Go.Proofs.Ytnmlfhogolonoaa
