/-
  Encode: the whole.
-/
import Derived.Test.YtnmlfhogolonoaaSoS
set_option linter.unusedVariables false
set_option linter.unusedSimpArgs false
namespace Go.Proofs.Ytnmlfhogolonoaa
open Go.Proofs.Ytnmlfhogolonoaa.Eo
open Nat renaming reduceAdd → zA, reduceMul → zM, reduceLT → zL, reduceEqDiff → zE, reduceLeDiff → zD
open Int renaming reduceAdd → yA, reduceLE → yE, reduceLT → yL, reduceEq → yQ, reduceToNat → yT
noncomputable section
theorem StepN.refl (h : H) : StepN h h := ⟨Nat.le_refl _, fun _ _ => rfl⟩
theorem pI_app {h h' : H} {b w : AV} {bs cs : List Int} (p : PB h b bs h' w) (e : bs = cs) : PB h b cs h' w := e ▸ p
def dl : Int → List Int → List Int
  | _, [] => []
  | a, x :: l => pI (x - a) ++ dl x l
def I28 (h1 : H) (bs1 : List Int) (A C : Nat) (cv : AV) (l : List Int) (k : Nat) (tm : T AV) (h : H) : Prop :=
  tm.get 1 = some (.ptr A 0) ∧ ∃ (q : Nat) (w : AV) (a : Int) (bs : List Int), q + k = l.length ∧ tm.get 89 = some cv ∧ tm.get 90 = some (.int .i64 (l.length : Int)) ∧ tm.get 91 = some (.int .i64 (q : Int)) ∧ tm.get 9 = some (.int .u64 a) ∧ tm.get 6 = some w ∧ PB h1 .nils bs h w ∧ 0 ≤ a ∧ ascB a (l.drop q) = true ∧ bs ++ dl a (l.drop q) = bs1 ++ dl 0 l ∧ bs.length ≤ bs1.length + 10 * q
theorem stepD (P : Program) {call : CallE} (h29 : PutF call 29 .u64) {h1 : H} {bs1 : List Int} {A C : Nat} {cv : AV} {l : List Int} (hv : RdL none 1 h1 cv (l.map fun x : Int => AV.int .u64 x)) (hvk : ∀ a, own cv = some a → a < h1.next) (hlt : ∀ x ∈ l, x < 18446744073709551616) (hll : l.length < 64) (hlen : bs1.length ≤ 5000) (k : Nat) (tm : T AV) (h : H) (hI : I28 h1 bs1 A C cv l k tm h) :
    WC P call c13_l28 (loopQ 3 (fun tm h => ∃ m, m < k ∧ I28 h1 bs1 A C cv l m tm h) (fun tm h => tm.get 1 = some (.ptr A 0) ∧ ∃ w, tm.get 6 = some w ∧ PB h1 .nils (bs1 ++ dl 0 l) h w ∧ (bs1 ++ dl 0 l).length ≤ bs1.length + 640) (fun _ _ => False)) tm h := by
  obtain ⟨t1, q, w, a, bs, hq, t89, t90, t91, t9, t6, pb, ha0, hasc, hdl, hbl⟩ := hI
  cases k with
  | zero =>
    have e1 : ¬ (q : Int) < (l.length : Int) := by omega
    simp only [go_sem, ↓reduceIte, ↓reduceDIte, zA, zM, zL, zE, zD, yA, yE, yL, yQ, yT, reduceCtorEq, c13_l28, t90, t91, e1, t1, t6]
    rw [List.drop_eq_nil_of_le (by omega), dl, List.append_nil] at hdl
    have hdll := congrArg List.length hdl
    rw [List.length_append] at hdll
    rw [← hdl]
    exact ⟨w, rfl, pb, by omega⟩
  | succ k =>
    have e1 : (q : Int) < (l.length : Int) := by omega
    have hi : q < l.length := by omega
    rw [List.drop_eq_getElem_cons hi, ascB] at hasc
    rw [List.drop_eq_getElem_cons hi, dl] at hdl
    have hx : ¬ l[q] ≤ a := fun hh => by rw [if_pos hh] at hasc; cases hasc
    rw [if_neg hx] at hasc
    have hx2 := hlt l[q] (List.getElem_mem hi)
    have hv2 := hv.keep (h' := h) fun b hb => pb.get (hvk b hb) (by simp [own])
    rcases hv2 with ⟨_, hh⟩ | ⟨b, o, cap, rfl, _, ra⟩
    · rw [List.map_eq_nil_iff] at hh; subst hh; simp at hi
    have ha := ra q (.int .u64 l[q]) (by simp [hi])
    rw [rLdA, Nat.mul_one] at ha
    have t89' := t89
    rw [List.length_map] at t89'
    have f1 : fw .i64 ((q : Int) + 1) = (q : Int) + 1 := fwI (by omega) (by omega)
    have f2 : fw .u64 (l[q] - a) = l[q] - a := fwU (by omega) (by omega)
    have e3 : ((q + 1 : Nat) : Int) = (q : Int) + 1 := rfl
    have pl := pI_len (x := l[q] - a) (by omega)
    simp only [go_sem, ↓reduceIte, ↓reduceDIte, zA, zM, zL, zE, zD, yA, yE, yL, yQ, yT, reduceCtorEq, c13_l28, t6, t9, t89', t90, t91, e1, Nat.mul_one, ha, f2]
    refine opt_by (h29 h w bs (l[q] - a) pb.ow (by omega) (by omega) (by omega)) fun v1 h' pb1 => ?_
    simp only [go_sem, ↓reduceIte, ↓reduceDIte, zA, zM, zL, zE, zD, yA, yE, yL, yQ, yT, reduceCtorEq, t91, f1]
    refine ⟨k, Nat.lt_succ_self k, by simp [go_sem, t1], q + 1, v1, l[q], bs ++ pI (l[q] - a), by omega, by simp [go_sem, t89], by simp [go_sem, t90], by simp [go_sem, e3], by simp [go_sem], by simp [go_sem], pb.trans pb1, by omega, hasc, by rw [← hdl, List.append_assoc], by rw [List.length_append]; omega⟩

abbrev head13 (X : CC) : CC := (.seq (.ops c13_s0) (.seq (.seq (.ops c13_s1) (.seq (.ops c13_s2) (.cond (.t 27) (.seq (.ops c13_s3) .ret) .skip))) (.seq (.ops c13_s4) (.seq (.ops c13_s5) (.seq (.drw ⟨c13_p6, [(0, 31), (1, 32), (2, 33), (3, 34), (4, 35), (5, 36), (6, 37), (7, 6)], [(⟨5, [(35, (some 4))], none, (.r (.ld none (.t 35)))⟩, [1])]⟩) (.seq (.drw ⟨c13_p7, [(0, 38), (1, 39), (2, 40), (3, 41), (4, 42), (5, 43), (6, 44), (7, 6)], [(⟨5, [(42, (some 4))], none, (.r (.ld none (.t 42)))⟩, [1])]⟩) (.seq (.drw ⟨c13_p8, [(0, 45), (1, 46), (2, 47), (3, 48), (4, 49), (5, 50), (6, 51), (7, 52), (8, 53), (9, 54), (10, 6)], [(⟨5, [(49, (some 4))], none, (.r (.ld none (.t 49)))⟩, [1]), (⟨8, [(52, (some 7))], none, (.r (.ld none (.t 52)))⟩, [1, 2])]⟩) (.seq (.seq (.ops c13_s9) (.block 0 (.loop c13_l14))) (.seq (.ops c13_s15) (.seq (.seq (.ops c13_s16) (.block 2 (.seq (.ops c13_s17) (.cond (.t 72) (.ops c13_s18) (.seq (.ops c13_s19) (.cond (.t 79) (.seq (.ops c13_s20) (.seq (.ops c13_s21) (.seq (.ops c13_s22) (.block 3 (.loop c13_l28))))) .skip)))))) X))))))))))

/-- what the tail of Encode does -/
def TailF (call : CallE) (X : CC) : Prop := ∀ (h1 : H) (A : Nat) (c : CfgT) (cv pv kv : AV) (ps : List (List OpT)) (ks : List Int), h1.t.get A = some (.row (putList 0 (cfgC c cv ++ [pv, kv]) T.e) 18 31) → A < h1.next →
    RdP h1 pv ps → (∀ p ∈ ps, (∀ x ∈ p, opR x) ∧ p.length ≤ 256) → ps.length ≤ 64 → RdL none 1 h1 kv (ks.map fun x : Int => AV.int .i64 x) → (∀ a, own kv = some a → a < h1.next) → (∀ x ∈ ks, 0 ≤ x ∧ x < 64) → ks.length ≤ 65536 →
    ∀ (bs : List Int) (w : AV) (tm : T AV) (h : H), bs.length ≤ 10000 → PB h1 .nils bs h w → tm.get 1 = some (.ptr A 0) → tm.get 6 = some w → ∀ Q : Cont,
    (∀ tm' h', StepN h1 h' → tm'.get 2 = some (.str (encZ (bs ++ ps.flatMap encP ++ encK ks)).1) → tm'.get 3 = some (.int .i64 (encZ (bs ++ ps.flatMap encP ++ encK ks)).2) → Q .ret tm' h') → WC Try.prog call X Q tm h
theorem tailF {call : CallE} (h27 : PutF call 27 .i64) (h28 : PutF call 28 .u8) (h29 : PutF call 29 .u64) (h30 : F30 call) (h31 : F31 call) : TailF call tail13 :=
  fun h1 A c cv pv kv ps ks hA hAn hps hp hpl hk hkk hkr hkl bs w tm h hlen pb t1 t6 Q hQ => tail13_w Try.prog h27 h28 h29 h30 h31 hA hAn hps hp hpl hk hkk hkr hkl hlen pb t1 t6 hQ
def encD (c : CfgT) : List Int := if c.kind = 2 then pI c.n else if c.kind = 3 then pI (c.cuts.length : Int) ++ dl 0 c.cuts else []
def encC (c : CfgT) : List Int := [] ++ pI c.threads ++ pI c.slots ++ pI c.engine ++ pI c.buckets ++ pI c.locks ++ pI c.tries ++ pI c.batch ++ pI c.t0 ++ pI c.t1 ++ pI c.t2 ++ pI c.t3 ++ pI c.t4 ++ pI c.t5 ++ pI c.kind
def encS (c : CfgT) (ps : List (List OpT)) (ks : List Int) : List Int := encC c ++ encD c ++ ps.flatMap encP ++ encK ks
def Post13 (c : CfgT) (ps : List (List OpT)) (ks : List Int) (h : H) (v : AV) (h' : H) : Prop := StepN h h' ∧ ∃ (s : ByteArray) (e : Int), v = .tup [.str s, .int .i64 e] ∧ (chkB c ps ks → s = (encZ (encS c ps ks)).1 ∧ e = (encZ (encS c ps ks)).2) ∧ (¬ chkB c ps ks → s = ⟨#[]⟩ ∧ e = chkE c ps ks)
set_option maxRecDepth 10000 in
theorem w13h {call : CallE} {X : CC} (hX : TailF call X) (h15 : ∀ h v c ps ks, IsS h v c ps ks → ∃ v' h', call 15 [v] h = some (v', h') ∧ SaysX (chkE c ps ks) h v' h') (h27 : PutF call 27 .i64) (h28 : PutF call 28 .u8) (h29 : PutF call 29 .u64) 
    {h : H} {v : AV} {c : CfgT} {ps : List (List OpT)} {ks : List Int} (hs : IsS h v c ps ks) (hop : ∀ p ∈ ps, ∀ x ∈ p, opR x) (hcu : ∀ x ∈ c.cuts, x < 18446744073709551616) : WF Try.prog call ⟨1, head13 X, [.tmp 2, .tmp 3]⟩ [v] h (Post13 c ps ks h) := by
  obtain ⟨cv, pv, kv, rfl, i1, i2, i3, i4, i5⟩ := id hs
  have ov := i1.one
  have opa := i3.one
  have oka := i4.one
  have st0 := StepN.new h (.row (putList 0 (cfgC c cv ++ [pv, kv]) T.e) 18 31)
  simp only [go_sem, ↓reduceIte, ↓reduceDIte, zA, zM, zL, zE, zD, yA, yE, yL, yQ, yT, reduceCtorEq, head13, c13, ov, opa, oka]
  refine opt_by (h15 _ _ c ps ks (hs.keep st0)) fun v1 h' p1 => ?_
  obtain ⟨rfl, st1⟩ := p1
  have stA := st0.trans st1
  by_cases d0 : chkE c ps ks = 0
  case neg =>
    simp only [go_sem, ↓reduceIte, ↓reduceDIte, zA, zM, zL, zE, zD, yA, yE, yL, yQ, yT, reduceCtorEq, d0]
    exact ⟨stA, _, _, rfl, fun hh => absurd (chkE_iff.2 hh) d0, fun _ => ⟨rfl, rfl⟩⟩
  have hchk := chkE_iff.1 d0
  obtain ⟨⟨ht, ⟨th1, th2⟩, ⟨sl1, sl2⟩, en1, en2, bk3, bkn, dom, ⟨lo1, lo2⟩, ⟨tr1, tr2⟩, ba1, ba2⟩, hpl, hpo, hkl, hkr⟩ := id hchk
  have bk : 0 ≤ c.buckets ∧ c.buckets ≤ 16 := by
    by_cases hg : c.engine = 3
    · have := bk3 hg; omega
    · have := bkn hg; omega
  simp only [towB, and_true] at ht
  have gA0 := st1.old h.next (by show h.next < h.next + 1; omega)
  simp only [go_sem, ↓reduceIte, ↓reduceDIte, zA, zM, zL, zE, zD, yA, yE, yL, yQ, yT, reduceCtorEq] at gA0
  have hA0 : h.next < h'.next := Nat.lt_of_lt_of_le (Nat.lt_succ_self _) st1.next
  simp only [go_sem, ↓reduceIte, ↓reduceDIte, zA, zM, zL, zE, zD, yA, yE, yL, yQ, yT, reduceCtorEq, d0, gA0, cfgC, ov]
  have st2 := StepN.new h' (.row (putList 0 (cfgC c cv) T.e) 16 27)
  have gC : (⟨h'.next + 1, h'.t.set h'.next (.row (putList 0 (cfgC c cv) T.e) 16 27)⟩ : H).t.get h'.next = some (rowL (cfgC c cv) 27) := by simp only [go_sem, ↓reduceIte, ↓reduceDIte, zA, zM, zL, zE, zD, yA, yE, yL, yQ, yT, reduceCtorEq]; rfl
  have hCn : h'.next < (⟨h'.next + 1, h'.t.set h'.next (.row (putList 0 (cfgC c cv) T.e) 16 27)⟩ : H).next := Nat.lt_succ_self _
  have gA := (st2.old h.next hA0).trans gA0
  have hAn := Nat.lt_of_lt_of_le hA0 st2.next
  have stB := stA.trans st2
  unfold cfgC rowL at gC
  unfold cfgC at gA hCn hAn stB
  generalize (⟨h'.next + 1, h'.t.set h'.next _⟩ : H) = h1 at gC hCn gA hAn stB ⊢
  generalize h'.next = C at gC hCn ⊢
  generalize h.next = A at gA hAn ⊢
  have pb0 : PB h1 .nils [] h1 .nils := ⟨.nil, Grow.refl _ _⟩
  have gC0 := gC
  refine opt_by (h27 h1 .nils ([]) c.threads pb0.ow (by omega) (by omega) (by simp only [List.length_append, List.length_nil]; omega)) fun w1 k1 q1 => ?_
  have pl1 := pI_len (x := c.threads) (by omega)
  have pb1 := pb0.trans q1
  have gC1 := (pb1.get hCn (by simp [own])).trans gC
  simp only [go_sem, ↓reduceIte, ↓reduceDIte, zA, zM, zL, zE, zD, yA, yE, yL, yQ, yT, reduceCtorEq, gC0, gC1]
  refine ⟨q1.gr.next, ?_⟩
  refine opt_by (h27 k1 w1 ([] ++ pI c.threads) c.slots pb1.ow (by omega) (by omega) (by simp only [List.length_append, List.length_nil]; omega)) fun w2 k2 q2 => ?_
  have pl2 := pI_len (x := c.slots) (by omega)
  have pb2 := pb1.trans q2
  have gC2 := (pb2.get hCn (by simp [own])).trans gC
  simp only [go_sem, ↓reduceIte, ↓reduceDIte, zA, zM, zL, zE, zD, yA, yE, yL, yQ, yT, reduceCtorEq, gC1, gC2]
  refine ⟨q2.gr.next, ?_⟩
  refine opt_by (h28 k2 w2 ([] ++ pI c.threads ++ pI c.slots) c.engine pb2.ow (by omega) (by omega) (by simp only [List.length_append, List.length_nil]; omega)) fun w3 k3 q3 => ?_
  have pl3 := pI_len (x := c.engine) (by omega)
  have pb3 := pb2.trans q3
  have gC3 := (pb3.get hCn (by simp [own])).trans gC
  simp only [go_sem, ↓reduceIte, ↓reduceDIte, zA, zM, zL, zE, zD, yA, yE, yL, yQ, yT, reduceCtorEq, gC2, gC3]
  refine ⟨q3.gr.next, ?_⟩
  refine opt_by (h27 k3 w3 ([] ++ pI c.threads ++ pI c.slots ++ pI c.engine) c.buckets pb3.ow (by omega) (by omega) (by simp only [List.length_append, List.length_nil]; omega)) fun w4 k4 q4 => ?_
  have pl4 := pI_len (x := c.buckets) (by omega)
  have pb4 := pb3.trans q4
  have gC4 := (pb4.get hCn (by simp [own])).trans gC
  simp only [go_sem, ↓reduceIte, ↓reduceDIte, zA, zM, zL, zE, zD, yA, yE, yL, yQ, yT, reduceCtorEq, gC3, gC4]
  refine ⟨q4.gr.next, ?_⟩
  refine opt_by (h27 k4 w4 ([] ++ pI c.threads ++ pI c.slots ++ pI c.engine ++ pI c.buckets) c.locks pb4.ow (by omega) (by omega) (by simp only [List.length_append, List.length_nil]; omega)) fun w5 k5 q5 => ?_
  have pl5 := pI_len (x := c.locks) (by omega)
  have pb5 := pb4.trans q5
  have gC5 := (pb5.get hCn (by simp [own])).trans gC
  simp only [go_sem, ↓reduceIte, ↓reduceDIte, zA, zM, zL, zE, zD, yA, yE, yL, yQ, yT, reduceCtorEq, gC4, gC5]
  refine ⟨q5.gr.next, ?_⟩
  refine opt_by (h27 k5 w5 ([] ++ pI c.threads ++ pI c.slots ++ pI c.engine ++ pI c.buckets ++ pI c.locks) c.tries pb5.ow (by omega) (by omega) (by simp only [List.length_append, List.length_nil]; omega)) fun w6 k6 q6 => ?_
  have pl6 := pI_len (x := c.tries) (by omega)
  have pb6 := pb5.trans q6
  have gC6 := (pb6.get hCn (by simp [own])).trans gC
  simp only [go_sem, ↓reduceIte, ↓reduceDIte, zA, zM, zL, zE, zD, yA, yE, yL, yQ, yT, reduceCtorEq, gC5, gC6]
  refine ⟨q6.gr.next, ?_⟩
  refine opt_by (h27 k6 w6 ([] ++ pI c.threads ++ pI c.slots ++ pI c.engine ++ pI c.buckets ++ pI c.locks ++ pI c.tries) c.batch pb6.ow (by omega) (by omega) (by simp only [List.length_append, List.length_nil]; omega)) fun w7 k7 q7 => ?_
  have pl7 := pI_len (x := c.batch) (by omega)
  have pb7 := pb6.trans q7
  have gC7 := (pb7.get hCn (by simp [own])).trans gC
  simp only [go_sem, ↓reduceIte, ↓reduceDIte, zA, zM, zL, zE, zD, yA, yE, yL, yQ, yT, reduceCtorEq, gC6, gC7]
  refine ⟨q7.gr.next, ?_⟩
  refine ⟨by simp [go_sem, gC5], ?_⟩
  refine unroll 7 ?_
  simp only [go_sem, ↓reduceIte, ↓reduceDIte, zA, zM, zL, zE, zD, yA, yE, yL, yQ, yT, reduceCtorEq, c13_l14, part3, fl1, fl2, fl3, fl4, fl5, fl6]
  refine opt_by (h27 k7 w7 ([] ++ pI c.threads ++ pI c.slots ++ pI c.engine ++ pI c.buckets ++ pI c.locks ++ pI c.tries ++ pI c.batch) c.t0 pb7.ow (by omega) (by omega) (by simp only [List.length_append, List.length_nil]; omega)) fun w8 k8 q8 => ?_
  have pl8 := pI_len (x := c.t0) (by omega)
  have pb8 := pb7.trans q8
  have gC8 := (pb8.get hCn (by simp [own])).trans gC
  simp only [go_sem, ↓reduceIte, ↓reduceDIte, zA, zM, zL, zE, zD, yA, yE, yL, yQ, yT, reduceCtorEq, c13_l14, part3, fl1, fl2, fl3, fl4, fl5, fl6]
  refine opt_by (h27 k8 w8 ([] ++ pI c.threads ++ pI c.slots ++ pI c.engine ++ pI c.buckets ++ pI c.locks ++ pI c.tries ++ pI c.batch ++ pI c.t0) c.t1 pb8.ow (by omega) (by omega) (by simp only [List.length_append, List.length_nil]; omega)) fun w9 k9 q9 => ?_
  have pl9 := pI_len (x := c.t1) (by omega)
  have pb9 := pb8.trans q9
  have gC9 := (pb9.get hCn (by simp [own])).trans gC
  simp only [go_sem, ↓reduceIte, ↓reduceDIte, zA, zM, zL, zE, zD, yA, yE, yL, yQ, yT, reduceCtorEq, c13_l14, part3, fl1, fl2, fl3, fl4, fl5, fl6]
  refine opt_by (h27 k9 w9 ([] ++ pI c.threads ++ pI c.slots ++ pI c.engine ++ pI c.buckets ++ pI c.locks ++ pI c.tries ++ pI c.batch ++ pI c.t0 ++ pI c.t1) c.t2 pb9.ow (by omega) (by omega) (by simp only [List.length_append, List.length_nil]; omega)) fun w10 k10 q10 => ?_
  have pl10 := pI_len (x := c.t2) (by omega)
  have pb10 := pb9.trans q10
  have gC10 := (pb10.get hCn (by simp [own])).trans gC
  simp only [go_sem, ↓reduceIte, ↓reduceDIte, zA, zM, zL, zE, zD, yA, yE, yL, yQ, yT, reduceCtorEq, c13_l14, part3, fl1, fl2, fl3, fl4, fl5, fl6]
  refine opt_by (h27 k10 w10 ([] ++ pI c.threads ++ pI c.slots ++ pI c.engine ++ pI c.buckets ++ pI c.locks ++ pI c.tries ++ pI c.batch ++ pI c.t0 ++ pI c.t1 ++ pI c.t2) c.t3 pb10.ow (by omega) (by omega) (by simp only [List.length_append, List.length_nil]; omega)) fun w11 k11 q11 => ?_
  have pl11 := pI_len (x := c.t3) (by omega)
  have pb11 := pb10.trans q11
  have gC11 := (pb11.get hCn (by simp [own])).trans gC
  simp only [go_sem, ↓reduceIte, ↓reduceDIte, zA, zM, zL, zE, zD, yA, yE, yL, yQ, yT, reduceCtorEq, c13_l14, part3, fl1, fl2, fl3, fl4, fl5, fl6]
  refine opt_by (h27 k11 w11 ([] ++ pI c.threads ++ pI c.slots ++ pI c.engine ++ pI c.buckets ++ pI c.locks ++ pI c.tries ++ pI c.batch ++ pI c.t0 ++ pI c.t1 ++ pI c.t2 ++ pI c.t3) c.t4 pb11.ow (by omega) (by omega) (by simp only [List.length_append, List.length_nil]; omega)) fun w12 k12 q12 => ?_
  have pl12 := pI_len (x := c.t4) (by omega)
  have pb12 := pb11.trans q12
  have gC12 := (pb12.get hCn (by simp [own])).trans gC
  simp only [go_sem, ↓reduceIte, ↓reduceDIte, zA, zM, zL, zE, zD, yA, yE, yL, yQ, yT, reduceCtorEq, c13_l14, part3, fl1, fl2, fl3, fl4, fl5, fl6]
  refine opt_by (h27 k12 w12 ([] ++ pI c.threads ++ pI c.slots ++ pI c.engine ++ pI c.buckets ++ pI c.locks ++ pI c.tries ++ pI c.batch ++ pI c.t0 ++ pI c.t1 ++ pI c.t2 ++ pI c.t3 ++ pI c.t4) c.t5 pb12.ow (by omega) (by omega) (by simp only [List.length_append, List.length_nil]; omega)) fun w13 k13 q13 => ?_
  have pl13 := pI_len (x := c.t5) (by omega)
  have pb13 := pb12.trans q13
  have gC13 := (pb13.get hCn (by simp [own])).trans gC
  simp only [go_sem, ↓reduceIte, ↓reduceDIte, zA, zM, zL, zE, zD, yA, yE, yL, yQ, yT, reduceCtorEq, c13_l14, part3, fl1, fl2, fl3, fl4, fl5, fl6, gC13]
  refine opt_by (h28 k13 w13 _ c.kind pb13.ow (by have := dom; unfold domB at this; omega) (by have := dom; unfold domB at this; omega) (by simp only [List.length_append, List.length_nil]; omega)) fun w14 k14 q14 => ?_
  have pl14 := pI_len (x := c.kind) (by have := dom; unfold domB at this; omega)
  have pb14 : PB h1 .nils (encC c) k14 w14 := pb13.trans q14
  have gC14 := (pb14.get hCn (by simp [own])).trans gC
  have hCl : (encC c).length ≤ 140 := by unfold encC; simp only [List.length_append, List.length_nil]; omega
  have hps' := i3.keep stB
  have hpp : ∀ p ∈ ps, (∀ x ∈ p, opR x) ∧ p.length ≤ 256 := fun p hp => ⟨hop p hp, hpo p hp⟩
  have hpl' : ps.length ≤ 64 := by omega
  have hk' := i4.keep (h' := h1) fun b hb => stB.old b (i5 b hb)
  have hkk' : ∀ a, own kv = some a → a < h1.next := fun a ha => Nat.lt_of_lt_of_le (i5 a ha) stB.next
  have hkr' : ∀ x ∈ ks, 0 ≤ x ∧ x < 64 := fun x hx => by have := hkr x hx; omega
  by_cases c2 : c.kind = 2
  · rw [c2] at gC14
    have hd : encD c = pI c.n := by unfold encD; rw [if_pos c2]
    have dn : 1 ≤ c.n ∧ c.n ≤ 64 := by unfold domB at dom; omega
    simp only [go_sem, ↓reduceIte, ↓reduceDIte, zA, zM, zL, zE, zD, yA, yE, yL, yQ, yT, reduceCtorEq, c13, gC14]
    refine opt_by (h27 k14 w14 (encC c) c.n pb14.ow (by omega) (by omega) (by omega)) fun w15 k15 q15 => ?_
    have pln := pI_len (x := c.n) (by omega)
    have pb15 := pb14.trans q15
    simp only [go_sem, ↓reduceIte, ↓reduceDIte, zA, zM, zL, zE, zD, yA, yE, yL, yQ, yT, reduceCtorEq]
    refine hX h1 A c cv pv kv ps ks gA hAn hps' hpp hpl' hk' hkk' hkr' hkl (encC c ++ pI c.n) w15 _ _ (by rw [List.length_append]; omega) pb15 (by simp [go_sem]) (by simp [go_sem]) _ fun tm' h' st e2 e3 => ?_
    simp only [go_sem, ↓reduceIte, ↓reduceDIte, zA, zM, zL, zE, zD, yA, yE, yL, yQ, yT, reduceCtorEq, e2, e3]
    exact ⟨stB.trans st, _, _, rfl, fun _ => by unfold encS; rw [hd]; exact ⟨rfl, rfl⟩, fun hh => absurd hchk hh⟩
  by_cases c3 : c.kind = 3
  case neg =>
    have hd : encD c = [] := by unfold encD; rw [if_neg c2, if_neg c3]
    simp only [go_sem, ↓reduceIte, ↓reduceDIte, zA, zM, zL, zE, zD, yA, yE, yL, yQ, yT, reduceCtorEq, c13, gC14, c2, c3]
    refine hX h1 A c cv pv kv ps ks gA hAn hps' hpp hpl' hk' hkk' hkr' hkl (encC c) w14 _ _ (by omega) pb14 (by simp [go_sem]) (by simp [go_sem]) _ fun tm' h' st e2 e3 => ?_
    simp only [go_sem, ↓reduceIte, ↓reduceDIte, zA, zM, zL, zE, zD, yA, yE, yL, yQ, yT, reduceCtorEq, e2, e3]
    exact ⟨stB.trans st, _, _, rfl, fun _ => by unfold encS; rw [hd, List.append_nil]; exact ⟨rfl, rfl⟩, fun hh => absurd hchk hh⟩
  rw [c3] at gC14
  have hd : encD c = pI (c.cuts.length : Int) ++ dl 0 c.cuts := by unfold encD; rw [if_neg c2, if_pos c3]
  obtain ⟨dn, dn2, dasc⟩ : 1 ≤ c.cuts.length ∧ c.cuts.length < 64 ∧ ascB 0 c.cuts = true := by
    rcases dom with ⟨h1, _⟩ | ⟨h1, _⟩ | ⟨_, _, h3, h4, h5⟩
    · omega
    · omega
    · exact ⟨h3, h4, h5⟩
  have hv' := i1.keep (h' := h1) fun b hb => stB.old b (i2 b hb)
  have hvk' : ∀ a, own cv = some a → a < h1.next := fun a ha => Nat.lt_of_lt_of_le (i2 a ha) stB.next
  have cl := i1.lenA
  rw [List.length_map] at cl
  simp only [go_sem, ↓reduceIte, ↓reduceDIte, zA, zM, zL, zE, zD, yA, yE, yL, yQ, yT, reduceCtorEq, c13, gC14, cl, ov]
  refine opt_by (h27 k14 w14 (encC c) (c.cuts.length : Int) pb14.ow (by omega) (by omega) (by omega)) fun w15 k15 q15 => ?_
  have pln := pI_len (x := (c.cuts.length : Int)) (by omega)
  have pb15 := pb14.trans q15
  have gC15 := (pb15.get hCn (by simp [own])).trans gC
  rw [c3] at gC15
  simp only [go_sem, ↓reduceIte, ↓reduceDIte, zA, zM, zL, zE, zD, yA, yE, yL, yQ, yT, reduceCtorEq, gC15, cl, ov]
  refine loop_in (I28 h1 (encC c ++ pI (c.cuts.length : Int)) A C cv c.cuts) _ _ (fun k tm h hI => stepD Try.prog h29 hv' hvk' hcu dn2 (by rw [List.length_append]; omega) k tm h hI) (fun tm2 h2 hR => ?_) (fun _ _ hh => hh.elim) c.cuts.length _ _
    ⟨by simp [go_sem], 0, w15, 0, _, by omega, by simp [go_sem], by simp [go_sem], by simp [go_sem], by simp [go_sem], by simp [go_sem], pb15, Int.le_refl _, dasc, rfl, by omega⟩
  obtain ⟨t1, w16, t6, pb16, hl16⟩ := hR
  simp only [go_sem, ↓reduceIte, ↓reduceDIte, zA, zM, zL, zE, zD, yA, yE, yL, yQ, yT, reduceCtorEq]
  refine hX h1 A c cv pv kv ps ks gA hAn hps' hpp hpl' hk' hkk' hkr' hkl _ w16 _ _ (by rw [List.length_append] at hl16 ⊢; rw [List.length_append] at hl16 ⊢; omega) pb16 (by simp [go_sem, t1]) (by simp [go_sem, t6]) _ fun tm' h' st e2 e3 => ?_
  simp only [go_sem, ↓reduceIte, ↓reduceDIte, zA, zM, zL, zE, zD, yA, yE, yL, yQ, yT, reduceCtorEq, e2, e3]
  exact ⟨stB.trans st, _, _, rfl, fun _ => by unfold encS; rw [hd, ← List.append_assoc]; exact ⟨rfl, rfl⟩, fun hh => absurd hchk hh⟩
end
end Go.Proofs.Ytnmlfhogolonoaa
