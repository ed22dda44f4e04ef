/-
  An evaluator of Go code over relative heaps, part R: regions whose operations are not wholly ordered.
-/
import Derived.Test.YtnmlfhogolonoaaEvS
set_option linter.unusedVariables false
set_option linter.unusedSimpArgs false
namespace Go.Proofs.Ytnmlfhogolonoaa.Ev
noncomputable section

/-! ### What comes before what -/
def bit (b j : Nat) : Bool := Nat.beq (Nat.land (Nat.shiftRight b j) 1) 1
theorem bit_eq (b j : Nat) : bit b j = b.testBit j := by
  unfold bit
  rw [odd_iff, show Nat.shiftRight b j = b >>> j from rfl, Nat.testBit_eq_decide_div_mod_eq, Nat.shiftRight_eq_div_pow]
def predE (acc : T Nat) : List Edge → Nat → Nat
  | [], s => s
  | e :: l, s => match Region.binds .any e with
    | true => predE acc l (Nat.lor (Nat.lor s (Nat.pow 2 e.on)) ((acc.get e.on).getD 0))
    | false => predE acc l s
def predsFrom : List Oper → Nat → T Nat → T Nat
  | [], _, acc => acc
  | o :: l, i, acc => predsFrom l (i + 1) (acc.set i (predE acc o.after.toList 0))
def preds (ops : List Oper) : T Nat := predsFrom ops 0 .e
/-- operation j comes before operation i -/
def bef (m : T Nat) (i j : Nat) : Bool := match m.get i with
  | some b => bit b j
  | none => false
def edgesOk : List Oper → Nat → Bool
  | [], _ => true
  | o :: l, i => o.after.toList.all (fun e => !Region.binds .any e || Nat.blt e.on i) && edgesOk l (i + 1)

/-- nothing stands in S whose predecessors do not -/
def Down (ops : List Oper) (S : Nat → Prop) : Prop := ∀ i o, ops[i]? = some o → S i → ∀ e ∈ o.after.toList, Region.binds .any e = true → S e.on

theorem predE_sound {ops : List Oper} {i : Nat} {o : Oper} (ho : ops[i]? = some o) {acc : T Nat} (hacc : ∀ k b, acc.get k = some b → ∀ j, bit b j = true → j < k ∧ ∀ S, Down ops S → S k → S j) : ∀ (es : List Edge) (s : Nat),
    (∀ e ∈ es, e ∈ o.after.toList ∧ (Region.binds .any e = true → e.on < i)) → (∀ j, bit s j = true → j < i ∧ ∀ S, Down ops S → S i → S j) → ∀ j, bit (predE acc es s) j = true → j < i ∧ ∀ S, Down ops S → S i → S j
  | [], s, _, hs, j, hj => hs j hj
  | e :: es, s, he, hs, j, hj => by
    unfold predE at hj
    have he' := fun x hx => he x (List.mem_cons_of_mem _ hx)
    split at hj
    · rename_i hb
      refine predE_sound ho hacc es _ he' ?_ j hj
      intro j hj
      obtain ⟨h1, h2⟩ := he e (List.mem_cons_self ..)
      have hlt := h2 hb
      rw [bit_eq] at hj
      rw [show Nat.lor (Nat.lor s (Nat.pow 2 e.on)) ((acc.get e.on).getD 0) = (s ||| 2 ^ e.on) ||| ((acc.get e.on).getD 0) from rfl, Nat.testBit_or, Nat.testBit_or, Nat.testBit_two_pow] at hj
      simp only [Bool.or_eq_true, decide_eq_true_eq] at hj
      rcases hj with (hj | rfl) | hj
      · exact hs j (by rw [bit_eq]; exact hj)
      · exact ⟨hlt, fun S hS hi => hS i o ho hi e h1 hb⟩
      · cases hg : acc.get e.on with
        | none => rw [hg] at hj; simp at hj
        | some b =>
          rw [hg] at hj
          obtain ⟨k1, k2⟩ := hacc _ _ hg j (by rw [bit_eq]; exact hj)
          exact ⟨by omega, fun S hS hi => k2 S hS (hS i o ho hi e h1 hb)⟩
    · exact predE_sound ho hacc es _ he' hs j hj

theorem predsFrom_sound {ops : List Oper} : ∀ (l : List Oper) (i : Nat) (acc : T Nat), ops.drop i = l → edgesOk l i = true → (∀ k b, acc.get k = some b → ∀ j, bit b j = true → j < k ∧ ∀ S, Down ops S → S k → S j) →
    ∀ k b, (predsFrom l i acc).get k = some b → ∀ j, bit b j = true → j < k ∧ ∀ S, Down ops S → S k → S j
  | [], i, acc, _, _, h => h
  | o :: l, i, acc, hl, he, h => by
    unfold edgesOk at he
    simp only [Bool.and_eq_true, List.all_eq_true] at he
    have ho : ops[i]? = some o := by
      have : (ops.drop i)[0]? = some o := by rw [hl]; rfl
      simpa using this
    have hl' : ops.drop (i + 1) = l := by rw [← List.drop_drop, hl]; rfl
    refine predsFrom_sound l (i + 1) _ hl' he.2 ?_
    intro k b hk
    rw [T.get_set] at hk
    by_cases e : k = i
    · subst e
      simp at hk; subst hk
      refine predE_sound ho h _ 0 (fun e hee => ⟨hee, fun hb => ?_⟩) (fun j hj => by rw [bit_eq] at hj; simp at hj)
      have := he.1 e hee
      rw [hb] at this
      simpa using this
    · rw [if_neg e] at hk
      exact h k b hk

theorem bef_sound {ops : List Oper} (he : edgesOk ops 0 = true) {i j : Nat} (h : bef (preds ops) i j = true) : j < i ∧ ∀ S, Down ops S → S i → S j := by
  unfold bef at h
  split at h
  · rename_i b hb
    exact predsFrom_sound ops 0 .e (by simp) he (fun k b hk => by simp [T.get_e] at hk) i b hb j h
  · simp at h

/-! ### Who writes what a slot holds -/
def writersFrom (t : Nat) : List Oper → Nat → List Nat
  | [], _ => []
  | o :: l, i => match o.dst with
    | some d => match Nat.beq d t with
      | true => i :: writersFrom t l (i + 1)
      | false => writersFrom t l (i + 1)
    | none => writersFrom t l (i + 1)
/-- the last writer ahead of operation i; all others must come before or behind it -/
def lookGo (m : T Nat) (i : Nat) : List Nat → Option Nat → Option (Option Nat)
  | [], acc => some acc
  | w :: ws, acc => match Nat.beq w i with
    | true => lookGo m i ws acc
    | false => match bef m i w with
      | true => lookGo m i ws (some w)
      | false => match bef m w i with
        | true => lookGo m i ws acc
        | false => none
def lookOf (ops : List Oper) (m : T Nat) (i t : Nat) : Option (Option Nat) := lookGo m i (writersFrom t ops 0) none
theorem writersFrom_mem {t : Nat} : ∀ {l : List Oper} {i w : Nat}, w ∈ writersFrom t l i ↔ i ≤ w ∧ ∃ o, l[w - i]? = some o ∧ o.dst = some t
  | [], i, w => by simp [writersFrom]
  | o :: l, i, w => by
    have ih := writersFrom_mem (t := t) (l := l) (i := i + 1) (w := w)
    have key : (w ∈ writersFrom t l (i + 1) ↔ i < w ∧ ∃ o', (o :: l)[w - i]? = some o' ∧ o'.dst = some t) := by
      rw [ih]
      constructor
      · rintro ⟨h1, o', h2, h3⟩
        exact ⟨h1, o', by rw [show w - i = (w - (i + 1)) + 1 by omega]; simpa using h2, h3⟩
      · rintro ⟨h1, o', h2, h3⟩
        rw [show w - i = (w - (i + 1)) + 1 by omega] at h2
        exact ⟨h1, o', by simpa using h2, h3⟩
    have key2 : o.dst = some t → (w ∈ i :: writersFrom t l (i + 1) ↔ i ≤ w ∧ ∃ o', (o :: l)[w - i]? = some o' ∧ o'.dst = some t) := by
      intro hd
      rw [List.mem_cons, key]
      constructor
      · rintro (rfl | ⟨h1, h2⟩)
        · exact ⟨Nat.le_refl _, o, by simp, hd⟩
        · exact ⟨by omega, h2⟩
      · rintro ⟨h1, h2⟩
        by_cases e : w = i
        · exact .inl e
        · exact .inr ⟨by omega, h2⟩
    have key3 : ¬ o.dst = some t → (w ∈ writersFrom t l (i + 1) ↔ i ≤ w ∧ ∃ o', (o :: l)[w - i]? = some o' ∧ o'.dst = some t) := by
      intro hd
      rw [key]
      constructor
      · rintro ⟨h1, h2⟩; exact ⟨by omega, h2⟩
      · rintro ⟨h1, o', h2, h3⟩
        by_cases e : w = i
        · subst e; simp at h2; subst h2; exact absurd h3 hd
        · exact ⟨by omega, o', h2, h3⟩
    unfold writersFrom
    split
    · rename_i d hd
      split
      · rename_i hb
        have := Nat.eq_of_beq_eq_true hb
        subst this
        exact key2 hd
      · rename_i hb
        exact key3 (by rw [hd]; intro e; simp at e; subst e; simp at hb)
    · rename_i hd
      exact key3 (by rw [hd]; simp)

theorem writersFrom_sorted {t : Nat} : ∀ {l : List Oper} {i : Nat}, (writersFrom t l i).Pairwise (· < ·)
  | [], i => by simp [writersFrom]
  | o :: l, i => by
    have ih := writersFrom_sorted (t := t) (l := l) (i := i + 1)
    unfold writersFrom
    split
    · split
      · refine List.Pairwise.cons (fun w hw => ?_) ih
        have := (writersFrom_mem.1 hw).1
        omega
      · exact ih
    · exact ih
theorem lookGo_sound {m : T Nat} {i : Nat} : ∀ {ws : List Nat} {acc r : Option Nat}, lookGo m i ws acc = some r → ws.Pairwise (· < ·) → (∀ j, acc = some j → ∀ w ∈ ws, j < w) →
    (∀ w ∈ ws, w = i ∨ bef m i w = true ∨ bef m w i = true) ∧
    (match r with
     | some j => (acc = some j ∨ (j ∈ ws ∧ j ≠ i ∧ bef m i j = true)) ∧ (∀ w ∈ ws, w ≠ i → bef m i w = true → w ≤ j) ∧ (∀ k, acc = some k → k ≤ j)
     | none => acc = none ∧ ∀ w ∈ ws, w ≠ i → bef m i w = false)
  | [], acc, r, h, _, _ => by
    simp [lookGo] at h; subst h
    cases acc <;> simp
  | w :: ws, acc, r, h, hp, hacc => by
    obtain ⟨hp1, hp2⟩ := List.pairwise_cons.1 hp
    unfold lookGo at h
    split at h
    · rename_i hw
      have hw := Nat.eq_of_beq_eq_true hw
      obtain ⟨k1, k2⟩ := lookGo_sound h hp2 (fun j hj w' hw' => hacc j hj w' (List.mem_cons_of_mem _ hw'))
      refine ⟨fun w' hw' => ?_, ?_⟩
      · rcases List.mem_cons.1 hw' with rfl | hw'
        · exact .inl hw
        · exact k1 _ hw'
      · cases r with
        | some j =>
          obtain ⟨a1, a2, a3⟩ := k2
          refine ⟨a1.imp id fun ⟨b1, b2, b3⟩ => ⟨List.mem_cons_of_mem _ b1, b2, b3⟩, fun w' hw' hn hb => ?_, a3⟩
          rcases List.mem_cons.1 hw' with rfl | hw'
          · exact absurd hw hn
          · exact a2 _ hw' hn hb
        | none =>
          obtain ⟨a1, a2⟩ := k2
          refine ⟨a1, fun w' hw' hn => ?_⟩
          rcases List.mem_cons.1 hw' with rfl | hw'
          · exact absurd hw hn
          · exact a2 _ hw' hn
    · rename_i hw
      have hne : w ≠ i := fun e => by subst e; simp at hw
      split at h
      · rename_i hb
        obtain ⟨k1, k2⟩ := lookGo_sound h hp2 (fun j hj w' hw' => by simp at hj; subst hj; exact hp1 _ hw')
        refine ⟨fun w' hw' => ?_, ?_⟩
        · rcases List.mem_cons.1 hw' with rfl | hw'
          · exact .inr (.inl hb)
          · exact k1 _ hw'
        · cases r with
          | some j =>
            obtain ⟨a1, a2, a3⟩ := k2
            have hwj := a3 w rfl
            refine ⟨.inr ?_, fun w' hw' hn hbb => ?_, fun k hk => ?_⟩
            · rcases a1 with a1 | ⟨b1, b2, b3⟩
              · simp at a1; subst a1; exact ⟨List.mem_cons_self .., hne, hb⟩
              · exact ⟨List.mem_cons_of_mem _ b1, b2, b3⟩
            · rcases List.mem_cons.1 hw' with rfl | hw'
              · exact hwj
              · exact a2 _ hw' hn hbb
            · have := hacc k hk w (List.mem_cons_self ..)
              omega
          | none => simp at k2
      · rename_i hb
        split at h
        · rename_i hb2
          obtain ⟨k1, k2⟩ := lookGo_sound h hp2 (fun j hj w' hw' => hacc j hj w' (List.mem_cons_of_mem _ hw'))
          refine ⟨fun w' hw' => ?_, ?_⟩
          · rcases List.mem_cons.1 hw' with rfl | hw'
            · exact .inr (.inr hb2)
            · exact k1 _ hw'
          · cases r with
            | some j =>
              obtain ⟨a1, a2, a3⟩ := k2
              refine ⟨a1.imp id fun ⟨b1, b2, b3⟩ => ⟨List.mem_cons_of_mem _ b1, b2, b3⟩, fun w' hw' hn hbb => ?_, a3⟩
              rcases List.mem_cons.1 hw' with rfl | hw'
              · rw [hb] at hbb; simp at hbb
              · exact a2 _ hw' hn hbb
            | none =>
              obtain ⟨a1, a2⟩ := k2
              refine ⟨a1, fun w' hw' hn => ?_⟩
              rcases List.mem_cons.1 hw' with rfl | hw'
              · exact hb
              · exact a2 _ hw' hn
        · simp at h

/-! ### The evaluation -/
inductive Rec where
  | quiet (v : AV)
  | read (v : AV)
  | alloc (v : AV) (a : Nat) (o : AO) (ph : Nat)
  | eff (v : AV)
def Rec.val : Rec → AV
  | .quiet v => v
  | .read v => v
  | .alloc v _ _ _ => v
  | .eff v => v
def tmpsOf : List Operand → List Nat
  | [] => []
  | .tmp t :: l => t :: tmpsOf l
  | _ :: l => tmpsOf l
/-- the slots that an operation looks at -/
def slotsOf (ops : List Oper) (o : Oper) : List Nat := match o.guard with
  | none => tmpsOf o.op.operands.toList
  | some (j, _) => match gslot ops j with
    | some t => t :: tmpsOf o.op.operands.toList
    | none => tmpsOf o.op.operands.toList
def looksOf (ops : List Oper) (m : T Nat) (i : Nat) : List Nat → Option (List (Nat × Option Nat))
  | [] => some []
  | t :: l => match lookOf ops m i t with
    | some r => match looksOf ops m i l with
      | some rs => some ((t, r) :: rs)
      | none => none
    | none => none
/-- the slots that an operation looks at, as they stand -/
def mkTm (tm0 : T AV) (F : T Rec) : List (Nat × Option Nat) → Option (T AV)
  | [] => some .e
  | (t, none) :: l => match mkTm tm0 F l with
    | some tm => match tm0.get t with
      | some v => some (tm.set t v)
      | none => some tm
    | none => none
  | (t, some j) :: l => match mkTm tm0 F l with
    | some tm => match F.get j with
      | some r => some (tm.set t r.val)
      | none => none
    | none => none
/-- where an operation writes, no other writes at the same time -/
def dstOk (ops : List Oper) (m : T Nat) (N i : Nat) (dst : Option Nat) : Bool := match dst with
  | none => true
  | some d => match lookOf ops m i d with
    | some _ => Nat.ble (d + 1) N
    | none => false
def localTm (ops : List Oper) (m : T Nat) (N : Nat) (tm0 : T AV) (F : T Rec) (i : Nat) (o : Oper) : Option (T AV) :=
  match dstOk ops m N i o.dst with
  | true => match looksOf ops m i (slotsOf ops o) with
    | some lk => mkTm tm0 F lk
    | none => none
  | false => none
/-- an operation that is no effect -/
def opQ (P : Program) (ops : List Oper) (m : T Nat) (N : Nat) (tm0 : T AV) (ph : Nat) (F : T Rec) (h : H) (i : Nat) (o : Oper) : Option (Rec × H) :=
  match localTm ops m N tm0 F i o with
  | some tm => match wantA ops tm o with
    | some false => some (.quiet (.tup []), h)
    | some true => match cOp P o with
      | some (.p x) => match evP P tm x with
        | some v => some (.quiet v, h)
        | none => none
      | some (.r x) => match evR tm h.t.get x with
        | some v => some (.read v, h)
        | none => none
      | some (.l x) => match evL tm h.t.get x with
        | some v => some (.read v, h)
        | none => none
      | some (.s x) => match evS tm h.t.get x with
        | some v => some (.read v, h)
        | none => none
      | some (.n x) => match evN tm x with
        | some (ao, f) => some (.alloc (f h.next) h.next ao ph, ⟨h.next + 1, h.t.set h.next ao⟩)
        | none => none
      | _ => none
    | none => none
  | none => none
def phE (P : Program) (ops : List Oper) (m : T Nat) (N : Nat) (tm0 : T AV) (ph : Nat) : List Nat → T Rec → H → Option (T Rec × H)
  | [], F, h => some (F, h)
  | i :: l, F, h => match ops[i]?, F.get i with
    | some o, none => match opQ P ops m N tm0 ph F h i o with
      | some (r, h') => phE P ops m N tm0 ph l (F.set i r) h'
      | none => none
    | _, _ => none
/-- an operation with an effect -/
def opF (P : Program) (call : CallE) (ops : List Oper) (m : T Nat) (N : Nat) (tm0 : T AV) (F : T Rec) (h : H) (i : Nat) (o : Oper) : Option (AV × H) :=
  match localTm ops m N tm0 F i o with
  | some tm => match wantA ops tm o with
    | some false => some (.tup [], h)
    | some true => match cOp P o with
      | some c => evOp P call tm h c
      | none => none
    | none => none
  | none => none
/-- the phases: what is no effect, and the effect behind it -/
def drE (P : Program) (call : CallE) (ops : List Oper) (m : T Nat) (N : Nat) (tm0 : T AV) : Nat → List (List Nat × Option Nat) → T Rec → H → Option (T Rec × List H)
  | _, [], F, h => none
  | ph, (ids, none) :: _, F, h => match phE P ops m N tm0 ph ids F h with
    | some (F', h') => some (F', [h'])
    | none => none
  | ph, (ids, some e) :: rest, F, h => match phE P ops m N tm0 ph ids F h with
    | some (F1, h1) => match ops[e]?, F1.get e with
      | some o, none => match opF P call ops m N tm0 F1 h1 e o with
        | some (v, h2) => match Nat.ble h1.next h2.next with
          | true => match drE P call ops m N tm0 (ph + 1) rest (F1.set e (.eff v)) h2 with
            | some (F', hs) => some (F', h1 :: hs)
            | none => none
          | false => none
        | none => none
      | _, _ => none
    | none => none
/-- is it an effect? -/
def isEff (P : Program) (o : Oper) : Bool := match cOp P o with
  | some (.p _) => false
  | some (.r _) => false
  | some (.l _) => false
  | some (.s _) => false
  | some (.n _) => false
  | _ => true
def effsFrom (P : Program) : List Oper → Nat → List Nat
  | [], _ => []
  | o :: l, i => match isEff P o with
    | true => i :: effsFrom P l (i + 1)
    | false => effsFrom P l (i + 1)
/-- each effect comes behind all earlier ones -/
def chainOk (m : T Nat) : List Nat → Bool
  | [] => true
  | e :: es => es.all (fun f => bef m f e) && chainOk m es
/-- how many of the effects come up to the last one that is ahead of operation i -/
def phaseOf (m : T Nat) (i : Nat) : List Nat → Nat → Nat → Nat
  | [], _, acc => acc
  | e :: es, k, acc => match bef m i e with
    | true => phaseOf m i es (k + 1) (k + 1)
    | false => phaseOf m i es (k + 1) acc
def inPhase (m : T Nat) (es : List Nat) (k : Nat) (n : Nat) : List Nat := (List.range n).filter fun i => !(es.contains i) && Nat.beq (phaseOf m i es 0 0) k
def phasesOf (m : T Nat) (es : List Nat) (n : Nat) : Nat → List Nat → List (List Nat × Option Nat)
  | k, [] => [(inPhase m es k n, none)]
  | k, e :: rest => (inPhase m es k n, some e) :: phasesOf m es n (k + 1) rest
end
end Go.Proofs.Ytnmlfhogolonoaa.Ev
