/-
  Encode of the reference; both give the same bytes.
-/
import Derived.Test.YtnmlfhogolonoaaSoRe
set_option linter.unusedVariables false
set_option linter.unusedSimpArgs false
namespace Go.Proofs.Ytnmlfhogolonoaa
open Go.Proofs.Ytnmlfhogolonoaa.Eo
open Nat renaming reduceAdd → zA, reduceMul → zM, reduceLT → zL, reduceEqDiff → zE, reduceLeDiff → zD
open Int renaming reduceAdd → yA, reduceLE → yE, reduceLT → yL, reduceEq → yQ, reduceToNat → yT
noncomputable section
/-! 14: leapfrog/leapfrogref43.Encode -/
@[go_sem] def c14_s0 : List SQ := [⟨some 1, none, .n (.box 31 (.t 0))⟩, ⟨some 2, none, .p (.mv (.c (.str ⟨#[]⟩)))⟩, ⟨some 3, none, .p (.mv (.c (.int .i64 0)))⟩]
@[go_sem] def c14_s1 : List SQ := [⟨some 6, none, .r (.ld (some 18) (.t 1))⟩, ⟨some 7, none, .cv (.c (.fn (.func 16) [] [])) [(.t 6)]⟩, ⟨some 4, none, .p (.mv (.t 7))⟩]
@[go_sem] def c14_s2 : List SQ := [⟨some 8, none, .p (.mv (.t 4))⟩, ⟨some 9, none, .p (.bin .neq 35 false true (.t 8) (.c (.int .i64 0)))⟩]
@[go_sem] def c14_s3 : List SQ := [⟨some 10, none, .p (.mv (.t 4))⟩, ⟨some 2, none, .p (.mv (.c (.str ⟨#[]⟩)))⟩, ⟨some 3, none, .p (.mv (.t 10))⟩]
@[go_sem] def c14_s4 : List SQ := [⟨some 11, none, .r (.ld (some 18) (.t 1))⟩, ⟨some 12, none, .cv (.c (.fn (.func 33) [] [])) [(.t 11)]⟩, ⟨some 13, none, .cv (.c (.fn (.func 32) [] [])) [(.t 12)]⟩, ⟨some 5, none, .p (.mv (.t 13))⟩]
@[go_sem] def c14_s5 : List SQ := [⟨some 14, none, .p (.mv (.t 5))⟩, ⟨some 15, none, .p (.lens (.t 14))⟩, ⟨some 16, none, .p (.bin .gtr 3 false true (.t 15) (.c (.int .i64 65536)))⟩]
@[go_sem] def c14_s6 : List SQ := [⟨some 2, none, .p (.mv (.c (.str ⟨#[]⟩)))⟩, ⟨some 3, none, .p (.mv (.c (.int .i64 5)))⟩]
@[go_sem] def c14_s7 : List SQ := [⟨some 17, none, .p (.mv (.t 5))⟩, ⟨some 2, none, .p (.mv (.t 17))⟩, ⟨some 3, none, .p (.mv (.c (.int .i64 0)))⟩]
@[go_sem] def c14 : CF := ⟨1, (.seq (.ops c14_s0) (.seq (.ops c14_s1) (.seq (.seq (.ops c14_s2) (.cond (.t 9) (.seq (.ops c14_s3) .ret) .skip)) (.seq (.ops c14_s4) (.seq (.seq (.ops c14_s5) (.cond (.t 16) (.seq (.ops c14_s6) .ret) .skip)) (.seq (.ops c14_s7) .ret)))))), [.tmp 2, .tmp 3]⟩
theorem c14_eq : cCF Try.prog 14 1 = some c14 := by kernel_rfl

theorem bytesF_append (a b : List Int) : bytesF (a ++ b) = bytesF a ++ bytesF b := List.flatMap_append
theorem bytesF_one (a : Int) : bytesF [a] = pI a := by unfold bytesF; simp
theorem bytesF_cons (a : Int) (l : List Int) : bytesF (a :: l) = pI a ++ bytesF l := rfl
theorem bytesF_flat {α : Type} (f : α → List Int) : ∀ l : List α, bytesF (l.flatMap f) = l.flatMap fun x => bytesF (f x)
  | [] => rfl
  | x :: l => by rw [List.flatMap_cons, bytesF_append, bytesF_flat f l, List.flatMap_cons]
theorem bytesF_dl : ∀ (a : Int) (l : List Int), bytesF (diffs a l) = dl a l
  | a, [] => rfl
  | a, x :: l => by rw [diffs, dl, bytesF_cons, bytesF_dl x l]
theorem bytesF_ef (x : OpT) : ∀ i, i ≤ 6 → ef x i = bytesF (((fldL x).take i).filter fun y => decide (y ≠ 0))
  | 0, _ => rfl
  | i + 1, h => by
    have e : (fldL x).take (i + 1) = (fldL x).take i ++ [fld x i] := by
      rw [List.take_add_one, fldL_get x i (by omega)]
      rfl
    rw [ef, bytesF_ef x i (by omega), e, List.filter_append, bytesF_append]
    congr 1
    by_cases h0 : fld x i = 0
    · rw [if_pos h0, List.filter_cons, if_neg (by simp [h0])]
      rfl
    · rw [if_neg h0, List.filter_cons, if_pos (by simp [h0])]
      exact (bytesF_one _).symm
theorem bytesF_O (x : OpT) : bytesF (numsO x) = encO x := by
  unfold numsO encO
  rw [bytesF_append, bytesF_ef x 6 (Nat.le_refl _), bytesF_cons, bytesF_one]
  rfl
theorem bytesF_P (p : List OpT) : bytesF (numsP p) = encP p := by
  unfold numsP encP
  rw [bytesF_cons, bytesF_flat]
  congr 1
  exact congrArg (fun f => p.flatMap f) (funext bytesF_O)
theorem bytesF_R (r : List (Int × Int)) : bytesF (numsR r) = encR r := by
  unfold numsR encR
  rw [bytesF_flat]
  congr 1
  funext p
  rw [bytesF_cons, bytesF_one]
theorem bytesF_D (c : CfgT) : bytesF (numsD c) = encD c := by
  unfold numsD encD
  split
  · exact bytesF_one _
  · split
    · rw [bytesF_cons, bytesF_dl]
    · rfl
theorem bytesF_C (c : CfgT) : bytesF (numsC c) = encC c := by
  unfold numsC encC
  simp only [bytesF_cons, List.append_assoc, List.nil_append]
  show _ = _
  congr
  exact List.append_nil _
theorem bytesF_S (c : CfgT) (ps : List (List OpT)) (ks : List Int) : bytesF (numsS c ps ks) = encS c ps ks := by
  unfold numsS encS numsK encK
  rw [bytesF_append, bytesF_append, bytesF_append, bytesF_C, bytesF_D, bytesF_flat, bytesF_cons, bytesF_R]
  congr 3
  exact funext bytesF_P
open Classical in
/-- what Encode answers -/
def resS (c : CfgT) (ps : List (List OpT)) (ks : List Int) : ByteArray × Int := if chkB c ps ks then encZ (encS c ps ks) else (⟨#[]⟩, chkE c ps ks)
def PostEnc (c : CfgT) (ps : List (List OpT)) (ks : List Int) (h : H) (v : AV) (h' : H) : Prop := StepN h h' ∧ v = .tup [.str (resS c ps ks).1, .int .i64 (resS c ps ks).2]
theorem Post13.enc {c : CfgT} {ps : List (List OpT)} {ks : List Int} {h : H} {v : AV} {h' : H} (p : Post13 c ps ks h v h') : PostEnc c ps ks h v h' := by
  obtain ⟨st, s, e, rfl, h1, h2⟩ := p
  refine ⟨st, ?_⟩
  unfold resS
  by_cases hc : chkB c ps ks
  · rw [if_pos hc, (h1 hc).1, (h1 hc).2]
  · rw [if_neg hc, (h2 hc).1, (h2 hc).2]
theorem numsO_in {x : OpT} (hx : opR x) : ∀ y ∈ numsO x, inU y := by
  intro y hy
  unfold numsO at hy
  rcases List.mem_append.1 hy with hy | hy
  · have := (mk_bound x 6)
    have h64 : (2 : Int) ^ 6 = 64 := rfl
    rw [h64] at this
    simp only [List.mem_cons, List.not_mem_nil, or_false] at hy
    rcases hy with rfl | rfl
    · exact ⟨hx.1.1, by have := hx.1.2; omega⟩
    · exact ⟨this.1, by omega⟩
  · have hy := (List.mem_filter.1 hy).1
    unfold fldL at hy
    simp only [List.mem_cons, List.not_mem_nil, or_false] at hy
    rcases hy with rfl | rfl | rfl | rfl | rfl | rfl <;> exact hx.2 _
theorem diffs_in : ∀ (a : Int) (l : List Int), 0 ≤ a → ascB a l = true → (∀ x ∈ l, inU x) → ∀ y ∈ diffs a l, inU y
  | a, [], _, _, _, y, hy => by cases hy
  | a, x :: l, ha, hasc, hin, y, hy => by
    rw [ascB] at hasc
    by_cases hx : x ≤ a
    · rw [if_pos hx] at hasc; cases hasc
    rw [if_neg hx] at hasc
    have h1 := hin x (List.mem_cons_self ..)
    rw [diffs] at hy
    rcases List.mem_cons.1 hy with rfl | hy
    · exact ⟨by omega, by have := h1.2; omega⟩
    · exact diffs_in x l h1.1 hasc (fun z hz => hin z (List.mem_cons_of_mem _ hz)) y hy
theorem numsS_in {c : CfgT} {ps : List (List OpT)} {ks : List Int} (hchk : chkB c ps ks) (hop : ∀ p ∈ ps, ∀ x ∈ p, opR x) (hcu : ∀ x ∈ c.cuts, inU x) : (∀ y ∈ numsS c ps ks, inU y) ∧ (numsS c ps ks).length ≤ 1000000 := by
  obtain ⟨⟨ht, ⟨th1, th2⟩, ⟨sl1, sl2⟩, en1, en2, bk3, bkn, dom, ⟨lo1, lo2⟩, ⟨tr1, tr2⟩, ba1, ba2⟩, hpl, hpo, hkl, hkr⟩ := id hchk
  have bk : 0 ≤ c.buckets ∧ c.buckets ≤ 16 := by
    by_cases hg : c.engine = 3
    · have := bk3 hg; omega
    · have := bkn hg; omega
  have kd : 1 ≤ c.kind ∧ c.kind ≤ 3 := by rcases dom with ⟨a, _⟩ | ⟨a, _⟩ | ⟨a, _⟩ <;> omega
  have hcl : c.cuts.length ≤ 64 := by rcases dom with ⟨_, _, a⟩ | ⟨_, _, a⟩ | ⟨_, _, _, a, _⟩ <;> first | (rw [a]; exact Nat.zero_le _) | omega
  simp only [towB, and_true] at ht
  obtain ⟨rl, rr⟩ := runsF_ok (fun x hx => by have := hkr x hx; omega) hkl
  constructor
  · intro y hy
    unfold numsS at hy
    rcases List.mem_append.1 hy with hy | hy
    · rcases List.mem_append.1 hy with hy | hy
      · rcases List.mem_append.1 hy with hy | hy
        · unfold numsC at hy
          simp only [List.mem_cons, List.not_mem_nil, or_false] at hy
          rcases hy with rfl | rfl | rfl | rfl | rfl | rfl | rfl | rfl | rfl | rfl | rfl | rfl | rfl | rfl <;> exact ⟨by omega, by omega⟩
        · unfold numsD at hy
          split at hy
          · simp only [List.mem_cons, List.not_mem_nil, or_false] at hy
            subst hy
            rcases dom with ⟨a, _⟩ | ⟨_, b, _⟩ | ⟨a, _⟩
            · exact ⟨by omega, by omega⟩
            · exact ⟨by omega, by omega⟩
            · exact ⟨by omega, by omega⟩
          · split at hy
            · rename_i k2 k3
              have hasc : ascB 0 c.cuts = true := by rcases dom with ⟨a, _⟩ | ⟨a, _⟩ | ⟨_, _, _, _, b⟩ <;> first | exact b | (exfalso; omega)
              rcases List.mem_cons.1 hy with rfl | hy
              · exact ⟨by omega, by omega⟩
              · exact diffs_in 0 c.cuts (Int.le_refl _) hasc hcu y hy
            · cases hy
      · obtain ⟨p, hp, hy⟩ := List.mem_flatMap.1 hy
        have := hpo p hp
        rcases List.mem_cons.1 hy with rfl | hy
        · exact ⟨by omega, by omega⟩
        · obtain ⟨x, hx, hy⟩ := List.mem_flatMap.1 hy
          exact numsO_in (hop p hp x hx) y hy
    · unfold numsK at hy
      rcases List.mem_cons.1 hy with rfl | hy
      · exact ⟨by omega, by omega⟩
      · obtain ⟨p, hp, hy⟩ := List.mem_flatMap.1 hy
        have := rr p hp
        simp only [List.mem_cons, List.not_mem_nil, or_false] at hy
        rcases hy with rfl | rfl <;> exact ⟨by omega, by omega⟩
  · have lD := numsD_len hcl
    have lC : (numsC c).length = 14 := rfl
    have lP := numsPs_len hpo
    have hp64 : ps.length ≤ 64 := by omega
    have lR : ∀ r : List (Int × Int), (numsR r).length = 2 * r.length := fun r => by
      induction r with
      | nil => rfl
      | cons p r ih =>
        have : numsR (p :: r) = [p.1, p.2] ++ numsR r := rfl
        rw [this, List.length_append, ih, List.length_cons]
        simp only [List.length_cons, List.length_nil]
        omega
    have := lR (runsF ks)
    unfold numsS numsK
    simp only [List.length_append, List.length_cons]
    omega
set_option maxRecDepth 8000 in
theorem w14 (P : Program) {call : CallE} (h16 : ∀ h v c ps ks, IsS h v c ps ks → (∀ x ∈ c.cuts, inU x) → ∃ v' h', call 16 [v] h = some (v', h') ∧ SaysX (chkE c ps ks) h v' h')
    (h33 : ∀ h v c ps ks, IsS h v c ps ks → chkB c ps ks → (∀ p ∈ ps, ∀ x ∈ p, opR x) → (∀ x ∈ c.cuts, inU x) → ∃ v' h', call 33 [v] h = some (v', h') ∧ Post33 (numsS c ps ks) h v' h')
    (h32 : ∀ h v (l : List Int), l.length ≤ 10000000 → (∀ x ∈ l, inU x) → RdL none 1 h v (l.map fun x : Int => AV.int .u64 x) → (∀ a, own v = some a → a < h.next) → ∃ v' h', call 32 [v] h = some (v', h') ∧ (v' = .str (strOf (bytesF l)) ∧ StepN h h'))
    {h : H} {v : AV} {c : CfgT} {ps : List (List OpT)} {ks : List Int} (hs : IsS h v c ps ks) (hop : ∀ p ∈ ps, ∀ x ∈ p, opR x) (hcu : ∀ x ∈ c.cuts, inU x) : WF P call c14 [v] h (PostEnc c ps ks h) := by
  obtain ⟨cv, pv, kv, rfl, i1, i2, i3, i4, i5⟩ := id hs
  have ov := i1.one
  have opa := i3.one
  have oka := i4.one
  have st0 := StepN.new h (.row (putList 0 (cfgC c cv ++ [pv, kv]) T.e) 18 31)
  have is0 := hs.keep st0
  simp only [go_sem, ↓reduceIte, ↓reduceDIte, zA, zM, zL, zE, zD, yA, yE, yL, yQ, yT, reduceCtorEq, c14, ov, opa, oka]
  refine opt_by (h16 _ _ c ps ks is0 hcu) fun v1 h1 p1 => ?_
  obtain ⟨rfl, st1⟩ := p1
  have stA := st0.trans st1
  by_cases d0 : chkE c ps ks = 0
  case neg =>
    have hn : ¬ chkB c ps ks := fun hh => d0 (chkE_iff.2 hh)
    simp only [go_sem, ↓reduceIte, ↓reduceDIte, zA, zM, zL, zE, zD, yA, yE, yL, yQ, yT, reduceCtorEq, d0]
    exact ⟨stA, by unfold resS; rw [if_neg hn]⟩
  have hchk := chkE_iff.1 d0
  have gA0 := st1.old h.next (by show h.next < h.next + 1; omega)
  simp only [go_sem, ↓reduceIte, ↓reduceDIte, zA, zM, zL, zE, zD, yA, yE, yL, yQ, yT, reduceCtorEq] at gA0
  have is1 := is0.keep st1
  simp only [go_sem, ↓reduceIte, ↓reduceDIte, zA, zM, zL, zE, zD, yA, yE, yL, yQ, yT, reduceCtorEq, d0, gA0, ov, opa, oka]
  refine opt_by (h33 _ _ c ps ks is1 hchk hop hcu) fun v2 h2 p2 => ?_
  obtain ⟨st2, ow2, lo2⟩ := p2
  obtain ⟨nin, nlen⟩ := numsS_in hchk hop hcu
  simp only [go_sem, ↓reduceIte, ↓reduceDIte, zA, zM, zL, zE, zD, yA, yE, yL, yQ, yT, reduceCtorEq]
  refine opt_by (h32 _ _ (numsS c ps ks) (by omega) nin (Own.rdl1 ow2 (by omega)) (fun b hb => ow2.lt hb)) fun v3 h3 p3 => ?_
  obtain ⟨rfl, st3⟩ := p3
  have stT := (stA.trans st2).trans st3
  rw [bytesF_S]
  have hR : resS c ps ks = encZ (encS c ps ks) := by unfold resS; rw [if_pos hchk]
  have hl := strOf_len (encS c ps ks)
  by_cases hlen : 65536 < (encS c ps ks).length
  · have e1 : (65536 : Int) < ((strOf (encS c ps ks)).size : Int) := by omega
    simp only [go_sem, ↓reduceIte, ↓reduceDIte, zA, zM, zL, zE, zD, yA, yE, yL, yQ, yT, reduceCtorEq, e1]
    exact ⟨stT, by rw [hR]; unfold encZ; rw [if_pos hlen]⟩
  · have e1 : ¬ (65536 : Int) < ((strOf (encS c ps ks)).size : Int) := by omega
    simp only [go_sem, ↓reduceIte, ↓reduceDIte, zA, zM, zL, zE, zD, yA, yE, yL, yQ, yT, reduceCtorEq, e1]
    exact ⟨stT, by rw [hR]; unfold encZ; rw [if_neg hlen]⟩
end
end Go.Proofs.Ytnmlfhogolonoaa
