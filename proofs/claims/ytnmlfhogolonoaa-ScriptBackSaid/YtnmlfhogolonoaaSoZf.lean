/-
  A script that may be one is read, whole; Decode of package script.
-/
import Derived.Test.YtnmlfhogolonoaaSoZe
set_option linter.unusedVariables false
set_option linter.unusedSimpArgs false
namespace Go.Proofs.Ytnmlfhogolonoaa
open Go.Proofs.Ytnmlfhogolonoaa.Eo
open Nat renaming reduceAdd → zA, reduceMul → zM, reduceLT → zL, reduceEqDiff → zE, reduceLeDiff → zD
open Int renaming reduceAdd → yA, reduceLE → yE, reduceLT → yL, reduceEq → yQ, reduceToNat → yT
noncomputable section
/-! 22: leapfrog/script.Decode -/
@[go_sem] def c22_s0 : List SQ := [⟨some 2, none, .n (.new 31 [.int .i64 0, .int .i64 0, .int .u8 0, .int .i64 0, .int .u8 0, .int .i64 0, .nils, .int .i64 0, .int .i64 0, .int .i64 0, .int .i64 0, .int .i64 0, .int .i64 0, .int .i64 0, .int .i64 0, .int .i64 0, .nils, .nils])⟩, ⟨some 3, none, .p (.mv (.c (.int .i64 0)))⟩]
@[go_sem] def c22_s1 : List SQ := [⟨some 8, none, .p (.mv (.t 0))⟩, ⟨some 9, none, .p (.lens (.t 8))⟩, ⟨some 10, none, .p (.bin .gtr 3 false true (.t 9) (.c (.int .i64 65536)))⟩]
@[go_sem] def c22_s2 : List SQ := [⟨some 11, none, .p (.build [.int .i64 0, .int .i64 0, .int .u8 0, .int .i64 0, .int .u8 0, .int .i64 0, .nils, .int .i64 0, .int .i64 0, .int .i64 0, .int .i64 0, .int .i64 0, .int .i64 0, .int .i64 0, .int .i64 0, .int .i64 0, .nils, .nils] [])⟩, ⟨none, none, .e (.st 18 (.t 2) (.t 11))⟩, ⟨some 3, none, .p (.mv (.c (.int .i64 5)))⟩]
@[go_sem] def c22_s3 : List SQ := [⟨some 12, none, .p (.mv (.t 0))⟩, ⟨some 13, none, .p (.build [.str ⟨#[]⟩, .bool false] [(0, 1, (.t 12))])⟩, ⟨some 14, none, .n (.box 85 (.t 13))⟩, ⟨some 4, none, .p (.mv (.t 14))⟩]
@[go_sem] def c22_s4 : List SQ := [⟨some 15, none, .p (.mv (.t 4))⟩, ⟨some 16, none, .cv (.c (.fn (.func 49) [] [])) [(.t 15)]⟩, ⟨some 5, none, .n (.new 31 [.int .i64 0, .int .i64 0, .int .u8 0, .int .i64 0, .int .u8 0, .int .i64 0, .nils, .int .i64 0, .int .i64 0, .int .i64 0, .int .i64 0, .int .i64 0, .int .i64 0, .int .i64 0, .int .i64 0, .int .i64 0, .nils, .nils])⟩, ⟨none, none, .e (.st 18 (.t 5) (.t 16))⟩]
@[go_sem] def c22_s5 : List SQ := [⟨some 17, none, .p (.mv (.t 4))⟩, ⟨some 18, none, .p (.nilck (.t 17))⟩, ⟨some 19, none, .p (.fadr 1 (.t 18))⟩, ⟨some 20, none, .r (.ld none (.t 19))⟩, ⟨some 21, none, .p (.mv (.t 20))⟩, ⟨some 22, some (21, false), .p (.mv (.t 4))⟩, ⟨some 23, some (21, false), .p (.nilck (.t 22))⟩, ⟨some 24, some (21, false), .p (.fadr 0 (.t 23))⟩, ⟨some 25, some (21, false), .r (.ld none (.t 24))⟩, ⟨some 26, some (21, false), .p (.bin .neq 9 false true (.t 25) (.c (.str ⟨#[]⟩)))⟩, ⟨some 27, none, .p (.pick (.t 21) (.c (.bool true)) (.t 26))⟩]
@[go_sem] def c22_s6 : List SQ := [⟨some 28, none, .p (.build [.int .i64 0, .int .i64 0, .int .u8 0, .int .i64 0, .int .u8 0, .int .i64 0, .nils, .int .i64 0, .int .i64 0, .int .i64 0, .int .i64 0, .int .i64 0, .int .i64 0, .int .i64 0, .int .i64 0, .int .i64 0, .nils, .nils] [])⟩, ⟨none, none, .e (.st 18 (.t 2) (.t 28))⟩, ⟨some 3, none, .p (.mv (.c (.int .i64 4)))⟩]
@[go_sem] def c22_s7 : List SQ := [⟨some 30, none, .r (.ld (some 18) (.t 5))⟩, ⟨some 31, none, .cv (.c (.fn (.func 13) [] [])) [(.t 30)]⟩, ⟨some 29, none, .p (.mv (.t 31))⟩, ⟨some 32, none, .p (.extr (.t 29) 0)⟩, ⟨some 33, none, .p (.extr (.t 29) 1)⟩, ⟨some 6, none, .p (.mv (.t 32))⟩, ⟨some 7, none, .p (.mv (.t 33))⟩]
@[go_sem] def c22_s8 : List SQ := [⟨some 34, none, .p (.mv (.t 7))⟩, ⟨some 35, none, .p (.bin .neq 35 false true (.t 34) (.c (.int .i64 0)))⟩, ⟨some 36, none, .p (.mv (.t 35))⟩, ⟨some 37, some (36, false), .p (.mv (.t 6))⟩, ⟨some 38, some (36, false), .p (.mv (.t 0))⟩, ⟨some 39, some (36, false), .p (.bin .neq 9 false false (.t 37) (.t 38))⟩, ⟨some 40, none, .p (.pick (.t 36) (.c (.bool true)) (.t 39))⟩]
@[go_sem] def c22_s9 : List SQ := [⟨some 41, none, .p (.build [.int .i64 0, .int .i64 0, .int .u8 0, .int .i64 0, .int .u8 0, .int .i64 0, .nils, .int .i64 0, .int .i64 0, .int .i64 0, .int .i64 0, .int .i64 0, .int .i64 0, .int .i64 0, .int .i64 0, .int .i64 0, .nils, .nils] [])⟩, ⟨none, none, .e (.st 18 (.t 2) (.t 41))⟩, ⟨some 3, none, .p (.mv (.c (.int .i64 4)))⟩]
@[go_sem] def c22_s10 : List SQ := [⟨some 42, none, .r (.ld (some 18) (.t 5))⟩, ⟨none, none, .e (.st 18 (.t 2) (.t 42))⟩, ⟨some 3, none, .p (.mv (.c (.int .i64 0)))⟩]
@[go_sem] def c22 : CF := ⟨1, (.seq (.ops c22_s0) (.seq (.seq (.ops c22_s1) (.cond (.t 10) (.seq (.ops c22_s2) .ret) .skip)) (.seq (.ops c22_s3) (.seq (.ops c22_s4) (.seq (.seq (.ops c22_s5) (.cond (.t 27) (.seq (.ops c22_s6) .ret) .skip)) (.seq (.seq (.ops c22_s7) (.seq (.ops c22_s8) (.cond (.t 40) (.seq (.ops c22_s9) .ret) .skip))) (.seq (.ops c22_s10) .ret))))))), [(.cell 2 (some 18)), .tmp 3]⟩
theorem c22_eq : cCF Try.prog 22 1 = some c22 := by kernel_rfl

theorem headD_th (s : RdT) : (headD s).1.threads = (cntR 64 s).1 := rfl
theorem cfgX_th (x : CfgT × RdT) : (cfgX x).1.threads = x.1.threads := by
  unfold cfgX
  split
  · rfl
  · split <;> rfl
theorem cfgD_th (s : RdT) : 0 ≤ (cfgD s).1.threads ∧ (cfgD s).1.threads ≤ 64 := by
  have h := cntR_bd 64 s (by decide)
  rw [← headD_th] at h
  unfold cfgD
  rw [cfgX_th]
  exact h
theorem cutsD_len (n : Nat) : ∀ (b : Int) (s : RdT), (cutsD n b s).1.length = n := by
  induction n with
  | zero => intro b s; rfl
  | succ n ih => intro b s; rw [cutsD, List.length_cons, ih]
theorem cfgX_cuts (x : CfgT × RdT) (h : x.1.cuts = []) : (cfgX x).1.cuts.length ≤ 64 := by
  have hb := cntR_bd 64 x.2 (by decide)
  unfold cfgX
  split
  · show x.1.cuts.length ≤ 64
    rw [h]
    exact Nat.zero_le _
  · split
    · show (cutsD _ _ _).1.length ≤ 64
      rw [cutsD_len]
      omega
    · rw [h]
      exact Nat.zero_le _
theorem cfgD_cuts (s : RdT) : (cfgD s).1.cuts.length ≤ 64 := by
  have h := headD_cuts s
  unfold cfgD
  generalize headD s = x at h ⊢
  exact cfgX_cuts x h
theorem progsD_len (n : Nat) : ∀ s : RdT, (progsD n s).1.length = n ∧ ∀ q ∈ (progsD n s).1, q.length ≤ 256 := by
  induction n with
  | zero => intro s; exact ⟨rfl, fun q hq => by cases hq⟩
  | succ n ih =>
    intro s
    rw [progsD]
    refine ⟨by rw [List.length_cons, (ih _).1], fun q hq => ?_⟩
    rcases List.mem_cons.1 hq with rfl | hq
    · have hb := cntR_bd 256 s (by decide)
      unfold prD
      rw [progD_len]
      omega
    · exact (ih _).2 q hq
/-- a value reads as a script, and what it has lies at lo or above -/
def IsL (lo : Nat) (h : H) (v : AV) (c : CfgT) (ps : List (List OpT)) (ks : List Int) : Prop := ∀ h', h.next ≤ h'.next → (∀ b, lo ≤ b → b < h.next → h'.t.get b = h.t.get b) → IsS h' v c ps ks
theorem IsL.is {lo : Nat} {h : H} {v : AV} {c : CfgT} {ps : List (List OpT)} {ks : List Int} (i : IsL lo h v c ps ks) : IsS h v c ps ks := i h (Nat.le_refl _) fun _ _ _ => rfl
theorem IsL.keep {lo : Nat} {h h1 : H} {v : AV} {c : CfgT} {ps : List (List OpT)} {ks : List Int} (i : IsL lo h v c ps ks) (hn : h.next ≤ h1.next) (hk : ∀ b, lo ≤ b → b < h.next → h1.t.get b = h.t.get b) : IsL lo h1 v c ps ks :=
  fun h' n k => i h' (Nat.le_trans hn n) fun b h1' h2 => (k b h1' (Nat.lt_of_lt_of_le h2 hn)).trans (hk b h1' h2)
/-- what is read of a reader -/
structure Post49 (A : AnyT) (a : Nat) (h : H) (v : AV) (h' : H) : Prop where
  is : IsL h.next h' v A.c A.ps A.ks
  ga : h'.t.get a = some (rdA A.s)
  next : h.next ≤ h'.next
  old : ∀ b, b < h.next → b ≠ a → h'.t.get b = h.t.get b
def tl49 : CC := .seq (.seq (.ops c49_s24) (.block 5 (.loop c49_l28))) (.seq (.seq (.ops c49_s29) (.block 7 (.loop c49_l35))) (.seq (.ops c49_s36) .ret))
theorem c49_split : c49 = ⟨1, head49 (sw49 tl49), [.cell 2 (some 18)]⟩ := rfl
set_option maxRecDepth 4000 in
theorem tl49_w (P : Program) {call : CallE} (h65 : F65 call) (h67 : F67 call) (h68 : F68 call) {h0 : H} {a : Nat} (han : a < h0.next) {s : RdT} (hs : s.1.size ≤ 9223372036854775807) {tm : T AV} {h : H} {cv : AV}
    (at' : At49 a h0.next (h0.next + 1) tm) (ct : CtA h0.next h0.t.get a (cfgD s).2 (cfgD s).1 cv h) : WC P call tl49 (endW [.cell 2 (some 18)] (Post49 (anyD s) a h0)) tm h := by
  obtain ⟨t0, t2, t3, t4⟩ := at'
  have hX := ct.hX
  obtain ⟨m, hm⟩ : ∃ m : Nat, (cfgD s).1.threads = m := ⟨(cfgD s).1.threads.toNat, by have := cfgD_th s; omega⟩
  have hm64 : m ≤ 64 := by have := cfgD_th s; omega
  have hle := cfgD_le s
  have hcl := cfgD_cuts s
  have hany : anyD s = ⟨(cfgD s).1, (progsD m (cfgD s).2).1, (runsD (cntR 65536 (progsD m (cfgD s).2).2).1.toNat (cntR 65536 (progsD m (cfgD s).2).2).2 []).1, (runsD (cntR 65536 (progsD m (cfgD s).2).2).1.toNat (cntR 65536 (progsD m (cfgD s).2).2).2 []).2⟩ := by
    unfold anyD anyX
    simp only [hm, Int.toNat_natCast]
  have hpl := progsD_len m (cfgD s).2
  have hps := progsD_le m (cfgD s).2
  have nx := ct.next
  generalize cfgD s = x at *
  have dc : DcS (rdA x.2) h0.next h0.t.get h0.next a (h0.next + 1) h.next h.next x.1 cv .nils .nils [] h := by
    refine ⟨⟨by omega, by omega, by omega, by omega, by omega, Nat.le_refl _, Nat.le_refl _, by omega, by omega, by omega⟩, ct.ha, ⟨zc, rfl, ct.hR⟩, ct.hX, ct.oc, fun b hb => ?_, ⟨[], .nil, fun b hb => by simp [own] at hb, fun i v p hv => by simp at hv⟩, ct.old⟩
    have h1 := ct.ow b hb
    have h2 := ct.oc.lt hb
    omega
  simp only [go_sem, ↓reduceIte, ↓reduceDIte, zA, zM, zL, zE, zD, yA, yE, yL, yQ, yT, reduceCtorEq, tl49, t0, t2, t3, t4, hX, hm]
  refine loop_in (I49p h0.next h0.t.get a h.next x.1 cv m x.2) _ _ (fun k tm h hI => step49p P h67 hm64 (by omega) k tm h hI) (fun tm2 h2 hR => ?_) (fun _ _ hh => hh.elim) m _ _
    ⟨⟨by simp [go_sem, t0], by simp [go_sem, t2], by simp [go_sem, t3], by simp [go_sem, t4]⟩, by simp [go_sem], 0, x.2, [], .nils, by omega, by simp [go_sem], dc, Nat.le_refl _, rfl, by simp⟩
  obtain ⟨⟨t0, t2, t3, t4⟩, pv, dc2⟩ := hR
  generalize progsD m x.2 = y at *
  simp only [go_sem, ↓reduceIte, ↓reduceDIte, zA, zM, zL, zE, zD, yA, yE, yL, yQ, yT, reduceCtorEq, t0]
  refine opt65 h65 (s := y.2) dc2.ha (by omega) (by decide) (by decide) fun n s3 q3 l3 u3 z3 r3 => ?_
  obtain ⟨n, rfl⟩ : ∃ n' : Nat, n = n' := ⟨n.toNat, by omega⟩
  have ord := dc2.ord
  have dc3 := dc2.box (h' := ⟨h2.next, h2.t.set a (rdA s3)⟩) (bo' := rdA s3) (Nat.le_refl _) (fun b hb hba => by simp [go_sem, hba]) (by simp [go_sem])
  rw [q3] at hany
  simp only [Int.toNat_natCast] at hany
  simp only [go_sem, ↓reduceIte, ↓reduceDIte, zA, zM, zL, zE, zD, yA, yE, yL, yQ, yT, reduceCtorEq]
  refine loop_in (I49k h0.next h0.t.get a h.next h2.next x.1 cv pv y.1 n s3) _ _ (fun k tm h hI => step49k P h65 h68 (by omega) r3 k tm h hI) (fun tm4 h4 hR => ?_) (fun _ _ hh => hh.elim) n _ _
    ⟨⟨by simp [go_sem, t0], by simp [go_sem, t2], by simp [go_sem, t3], by simp [go_sem, t4]⟩, by simp [go_sem], 0, s3, [], .nils, by omega, by simp [go_sem], dc3, Nat.le_refl _, .nil, fun b hb => by simp [own] at hb, by simp, rfl⟩
  obtain ⟨⟨t0, t2, t3, t4⟩, kv, dc4, ok4, hkv, hkl⟩ := hR
  generalize runsD n s3 [] = z at *
  have hX4 := dc4.hX
  obtain ⟨zs, hz1, hz2⟩ := dc4.hR
  have onc := dc4.oc.one
  have onp : oneA pv = true := by obtain ⟨vs, w1, _⟩ := dc4.pr.ex; exact w1.one
  have onk := ok4.one
  have ord4 := dc4.ord
  have hlay : putList 0 (cfgC x.1 cv ++ [pv, kv]) (putList 0 zs T.e) = putList 0 (cfgC x.1 cv ++ [pv, kv]) T.e := rowPutAll _ _ (by rw [cfg_len, hz1])
  simp only [go_sem, ↓reduceIte, ↓reduceDIte, zA, zM, zL, zE, zD, yA, yE, yL, yQ, yT, reduceCtorEq, t2, t3, hX4, hz2, onc, onp, onk, hz1, cfg_len, hlay]
  have st : ∀ b, b ≠ h0.next → (⟨h4.next, h4.t.set h0.next (.row (putList 0 (cfgC x.1 cv ++ [pv, kv]) T.e) 18 31)⟩ : H).t.get b = h4.t.get b := fun b hb => by simp only [go_sem, ↓reduceIte, ↓reduceDIte, zA, zM, zL, zE, zD, yA, yE, yL, yQ, yT, reduceCtorEq, hb]
  have lo' : h.next ≤ h2.next := ord4.2.2.2.2.2.1
  rw [hany]
  refine ⟨fun h' hn hk => ?_, ?_, ?_, ?_⟩
  · have hn' : h4.next ≤ h'.next := hn
    have stk : ∀ b, h0.next < b → b < h4.next → h'.t.get b = h4.t.get b := fun b h1 h2 => (hk b (by omega) h2).trans (st b (by omega))
    exact ⟨cv, pv, kv, rfl, RdL.keep (Own.rdl1 dc4.oc (by omega)) (fun b hb => stk b (by have := dc4.cvlo b hb; omega) (dc4.oc.lt hb)), fun b hb => Nat.lt_of_lt_of_le (dc4.oc.lt hb) hn',
      PR.rdp (dc4.pr.keep (h' := h') hn' (fun b hb hb' => stk b (by omega) (by omega))) (by rw [hpl.1]; omega) (fun q hq => by have := hpl.2 q hq; omega),
      RdL.keep (Own.rdl1 ok4 (by omega)) (fun b hb => stk b (by have := hkv b hb; omega) (ok4.lt hb)), fun b hb => Nat.lt_of_lt_of_le (ok4.lt hb) hn'⟩
  · rw [st a (by omega)]
    exact dc4.ha
  · show h0.next ≤ h4.next
    omega
  · intro b h1 h2
    rw [st b (by omega)]
    exact dc4.old b h1 h2
theorem w49 (P : Program) {call : CallE} (h65 : F65 call) (h66 : F66 call) (h67 : F67 call) (h68 : F68 call) {h : H} {a : Nat} {s : RdT} (ga : h.t.get a = some (rdA s)) (han : a < h.next) (hs : s.1.size ≤ 9223372036854775807) : WF P call c49 [.ptr a 0] h (Post49 (anyD s) a h) := by
  rw [c49_split, rWF]
  exact head49_w P h65 ga han hs fun tm' h' hd hl => sw49_w P h65 h66 han hs hd fun tm2 h2 cv at' ct => tl49_w P h65 h67 h68 han hs at' ct
end
end Go.Proofs.Ytnmlfhogolonoaa
