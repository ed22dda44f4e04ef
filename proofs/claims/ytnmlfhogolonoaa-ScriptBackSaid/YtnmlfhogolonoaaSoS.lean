/-
  Encode.
-/
import Derived.Test.YtnmlfhogolonoaaSoR
set_option linter.unusedVariables false
set_option linter.unusedSimpArgs false
namespace Go.Proofs.Ytnmlfhogolonoaa
open Go.Proofs.Ytnmlfhogolonoaa.Eo
open Nat renaming reduceAdd → zA, reduceMul → zM, reduceLT → zL, reduceEqDiff → zE, reduceLeDiff → zD
open Int renaming reduceAdd → yA, reduceLE → yE, reduceLT → yL, reduceEq → yQ, reduceToNat → yT
noncomputable section
abbrev tail13 : CC := (.seq (.seq (.ops c13_s29) (.block 5 (.loop c13_l56))) (.seq (.ops c13_s57) (.seq (.ops c13_s58) (.seq (.seq (.ops c13_s59) (.block 13 (.loop c13_l64))) (.seq (.seq (.ops c13_s65) (.cond (.t 183) (.seq (.ops c13_s66) .ret) .skip)) (.seq (.ops c13_s67) .ret))))))

theorem sum_ge : ∀ (r : List (Int × Int)), (∀ p ∈ r, 1 ≤ p.2) → (r.length : Int) ≤ (r.map Prod.snd).sum ∧ ∀ p ∈ r, p.2 ≤ (r.map Prod.snd).sum
  | [], _ => ⟨Int.le_refl _, fun p hp => by cases hp⟩
  | x :: l, h => by
    obtain ⟨a, b⟩ := sum_ge l fun p hp => h p (List.mem_cons_of_mem _ hp)
    have hx := h x (List.mem_cons_self ..)
    rw [List.map_cons, List.sum_cons, List.length_cons]
    refine ⟨by omega, fun p hp => ?_⟩
    rcases List.mem_cons.1 hp with rfl | hp
    · omega
    · have := b p hp; omega
theorem runsF_ok {l : List Int} (hl : ∀ x ∈ l, 0 ≤ x ∧ x < 64) (hn : l.length ≤ 65536) : (runsF l).length ≤ l.length ∧ ∀ p ∈ runsF l, (0 ≤ p.1 ∧ p.1 < 64) ∧ (1 ≤ p.2 ∧ p.2 ≤ 65536) := by
  have h1 := runR_mem l [] (fun x => 0 ≤ x ∧ x < 64) hl (fun p hp => by cases hp)
  have h2 := runR_sum l []
  obtain ⟨h3, h4⟩ := sum_ge (runR [] l) fun p hp => (h1 p hp).2
  simp only [List.map_nil, List.sum_nil, Int.zero_add] at h2
  unfold runsF
  refine ⟨by rw [List.length_reverse]; omega, fun p hp => ?_⟩
  rw [List.mem_reverse] at hp
  have := h4 p hp
  exact ⟨(h1 p hp).1, (h1 p hp).2, by omega⟩
def strOf (l : List Int) : ByteArray := l.foldl (fun r n => r.push (UInt8.ofNat n.toNat)) ByteArray.empty
theorem strOf_size : ∀ (l : List Int) (b : ByteArray), (l.foldl (fun r n => r.push (UInt8.ofNat n.toNat)) b).size = b.size + l.length
  | [], b => rfl
  | x :: l, b => by rw [List.foldl_cons, strOf_size l, ByteArray.size_push, List.length_cons]; omega
theorem strOf_len (l : List Int) : (strOf l).size = l.length := by unfold strOf; rw [strOf_size]; show 0 + l.length = l.length; omega
theorem bytesOf_byV : ∀ l : List Int, bytesOf (byV l) = some l
  | [] => rfl
  | x :: l => by
    have := bytesOf_byV l
    unfold byV at this ⊢
    rw [List.map_cons, bytesOf, this]
theorem b2s_own {tm : T AV} {h : H} {w : AV} {l : List Int} {t : Nat} (o : Own 1 5 h w l.length (byV l)) (ht : tm.get t = some w) : evS tm h.t.get (.b2s (.t t)) = some (.str (strOf l)) := by
  have hv : evo tm (.t t) = some w := ht
  have hby := bytesOf_byV l
  generalize hn : l.length = n at o
  generalize hcs : byV l = cs at o hby
  unfold evS
  simp only [hv]
  cases o with
  | nil =>
    have : l = [] := List.length_eq_zero_iff.1 hn
    subst this
    rfl
  | sl a len cs cap hc h0 hl ha hg =>
    have c4 : getList (putList 0 cs T.e) 0 n = some cs := by
      rw [getList_row, if_pos (.inl (by omega)), List.drop_zero, List.take_of_length_le (by omega)]
    simp only [hg, c4, hby]
    rfl
/-- what Encode says of its bytes -/
def encZ (l : List Int) : ByteArray × Int := if 65536 < l.length then (⟨#[]⟩, 5) else (strOf l, 0)
def F31 (call : CallE) : Prop := ∀ h v (l : List Int), l.length ≤ 65536 → RdL none 1 h v (l.map fun x : Int => AV.int .i64 x) → (∀ a, own v = some a → a < h.next) → ∃ v' h', call 31 [v] h = some (v', h') ∧ Post31 l h v' h'
theorem PB.stepN0 {h h' : H} {bs : List Int} {w : AV} (p : PB h .nils bs h' w) : StepN h h' := ⟨p.gr.next, fun b hb => p.gr.old b hb (by simp [own])⟩
def encK (ks : List Int) : List Int := pI ((runsF ks).length : Int) ++ encR (runsF ks)
set_option maxRecDepth 4000 in
theorem tail13_w (P : Program) {call : CallE} (h27 : PutF call 27 .i64) (h28 : PutF call 28 .u8) (h29 : PutF call 29 .u64) (h30 : F30 call) (h31 : F31 call) {h1 : H} {A : Nat} {c : CfgT} {cv pv kv : AV} {ps : List (List OpT)} {ks : List Int} (hA : h1.t.get A = some (.row (putList 0 (cfgC c cv ++ [pv, kv]) T.e) 18 31)) (hAn : A < h1.next)
    (hps : RdP h1 pv ps) (hp : ∀ p ∈ ps, (∀ x ∈ p, opR x) ∧ p.length ≤ 256) (hpl : ps.length ≤ 64) (hk : RdL none 1 h1 kv (ks.map fun x : Int => AV.int .i64 x)) (hkk : ∀ a, own kv = some a → a < h1.next) (hkr : ∀ x ∈ ks, 0 ≤ x ∧ x < 64) (hkl : ks.length ≤ 65536)
    {bs : List Int} {w : AV} {tm : T AV} {h : H} (hlen : bs.length ≤ 10000) (pb : PB h1 .nils bs h w) (t1 : tm.get 1 = some (.ptr A 0)) (t6 : tm.get 6 = some w) {Q : Cont}
    (hQ : ∀ tm' h', StepN h1 h' → tm'.get 2 = some (.str (encZ (bs ++ ps.flatMap encP ++ encK ks)).1) → tm'.get 3 = some (.int .i64 (encZ (bs ++ ps.flatMap encP ++ encK ks)).2) → Q .ret tm' h') : WC P call tail13 Q tm h := by
  have gA := (pb.get hAn (by simp [own])).trans hA
  obtain ⟨vs, q1, q2, q3⟩ := id hps
  have lps := q1.lenA
  rw [q2] at lps
  have ops := hps.one
  have oks := hk.one
  simp only [go_sem, ↓reduceIte, ↓reduceDIte, zA, zM, zL, zE, zD, yA, yE, yL, yQ, yT, reduceCtorEq, tail13, c13, t1, gA, cfgC, lps, ops, oks]
  refine loop_in (I56 h1 bs A pv ps) _ _ (fun k tm h hI => step56 P h27 h28 h29 h30 hps hp hpl hlen k tm h hI) (fun tm2 h2 hR => ?_) (fun _ _ hh => hh.elim) ps.length _ _
    ⟨0, w, by omega, by simp [go_sem, T0, t1], by simp [go_sem, t6], by rw [List.take_zero, List.flatMap_nil, List.append_nil]; exact pb⟩
  obtain ⟨t1, w2, t6, pb2⟩ := hR
  have gA2 := (pb2.get hAn (by simp [own])).trans hA
  have hlt := encPs_len hp
  generalize hB : bs ++ ps.flatMap encP = B at pb2 hQ
  have hBl : B.length ≤ 1400000 := by rw [← hB, List.length_append]; omega
  simp only [go_sem, ↓reduceIte, ↓reduceDIte, zA, zM, zL, zE, zD, yA, yE, yL, yQ, yT, reduceCtorEq, t1, gA2, cfgC]
  refine opt_by (h31 h2 kv ks hkl (hk.keep fun b hb => pb2.get (hkk b hb) (by simp [own])) (fun a ha => Nat.lt_of_lt_of_le (hkk a ha) pb2.gr.next)) fun v3 h3 p3 => ?_
  obtain ⟨st3, ow3, own3⟩ := p3
  have pb3 := pb2.stepN st3
  have l3 := ow3.lenA
  have o3 := ow3.one
  obtain ⟨rl, rr⟩ := runsF_ok hkr hkl
  simp only [go_sem, ↓reduceIte, ↓reduceDIte, zA, zM, zL, zE, zD, yA, yE, yL, yQ, yT, reduceCtorEq, l3, o3, t6]
  refine opt_by (h27 h3 w2 B ((runsF ks).length : Int) pb3.ow (by omega) (by omega) (by omega)) fun v4 h4 pb4 => ?_
  have pl4 := pI_len (x := ((runsF ks).length : Int)) (by omega)
  have pb5 := pb3.trans pb4
  have hne : ∀ a, own v3 = some a → own w2 ≠ some a := fun a ha hh => by have := pb2.ow.lt hh; have := own3 a ha; omega
  have ow4 := ow3.keep pb4.gr.next (fun b hb => pb4.gr.old b (ow3.lt hb) (hne b hb))
  have ru := Own.rdl2 ow4 (by omega)
  have hru : ∀ a, own v3 = some a → a < h4.next ∧ own v4 ≠ some a := fun a ha => ⟨ow4.lt ha, fun hh => by
    rcases pb4.gr.own a hh with h | h
    · exact hne a ha h
    · have := ow3.lt ha; omega⟩
  simp only [go_sem, ↓reduceIte, ↓reduceDIte, zA, zM, zL, zE, zD, yA, yE, yL, yQ, yT, reduceCtorEq, l3, o3]
  refine loop_in (I64 h4 v4 (B ++ pI ((runsF ks).length : Int)) v3 (runsF ks)) _ _ (fun k tm h hI => step64 P h27 ru hru (fun p hp => by have := rr p hp; omega) (by omega) (by rw [List.length_append]; omega) k tm h hI) (fun tm5 h5 hR => ?_) (fun _ _ hh => hh.elim) (runsF ks).length _ _
    ⟨0, v4, by omega, by simp [go_sem], by simp [go_sem], by simp [go_sem], by simp [go_sem], by rw [List.take_zero]; exact ⟨by rw [encR, List.flatMap_nil, List.append_nil]; exact pb5.ow, Grow.refl _ _⟩⟩
  obtain ⟨w5, t6, pb6⟩ := hR
  have pb7 := pb5.trans pb6
  have eB : B ++ pI ((runsF ks).length : Int) ++ encR (runsF ks) = B ++ encK ks := by rw [encK, List.append_assoc]
  rw [eB] at pb7
  have l7 := pb7.ow.lenA
  generalize B ++ encK ks = Z at pb7 hQ l7
  by_cases hz : (65536 : Int) < (Z.length : Int)
  · simp only [go_sem, ↓reduceIte, ↓reduceDIte, zA, zM, zL, zE, zD, yA, yE, yL, yQ, yT, reduceCtorEq, t6, l7, hz]
    have hz2 : encZ Z = (⟨#[]⟩, 5) := if_pos (by omega)
    rw [hz2] at hQ
    refine hQ _ _ pb7.stepN0 ?_ ?_ <;> simp only [go_sem, ↓reduceIte, ↓reduceDIte, zA, zM, zL, zE, zD, yA, yE, yL, yQ, yT, reduceCtorEq]
  · simp only [go_sem, ↓reduceIte, ↓reduceDIte, zA, zM, zL, zE, zD, yA, yE, yL, yQ, yT, reduceCtorEq, t6, l7, hz]
    have hz2 : encZ Z = (strOf Z, 0) := if_neg (by omega)
    rw [hz2] at hQ
    rw [b2s_own (l := Z) pb7.ow (by simp [go_sem])]
    simp only [go_sem, ↓reduceIte, ↓reduceDIte, zA, zM, zL, zE, zD, yA, yE, yL, yQ, yT, reduceCtorEq]
    refine hQ _ _ pb7.stepN0 ?_ ?_ <;> simp only [go_sem, ↓reduceIte, ↓reduceDIte, zA, zM, zL, zE, zD, yA, yE, yL, yQ, yT, reduceCtorEq]
end
end Go.Proofs.Ytnmlfhogolonoaa
