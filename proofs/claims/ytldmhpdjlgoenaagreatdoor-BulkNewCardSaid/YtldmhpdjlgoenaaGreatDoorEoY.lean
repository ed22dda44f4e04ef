/-
  An evaluator of Go code over relative heaps, part R: regions whose operations are not wholly ordered.
  An evaluator of Go code over relative heaps, part X: what the evaluation of a region tells.
  An evaluator of Go code over relative heaps, part Y: regions whose operations are not wholly ordered, and that their evaluation is sound.
-/
import Derived.Test.YtldmhpdjlgoenaaGreatDoorEoS
set_option linter.unusedVariables false
set_option linter.unusedSimpArgs false
namespace Go.Proofs.YtldmhpdjlgoenaaGreatDoor.Eo
noncomputable section

/-! ### What comes before what -/
def bit (b j : Nat) : Bool := Nat.beq (Nat.land (Nat.shiftRight b j) 1) 1
theorem bit_eq (b j : Nat) : bit b j = b.testBit j := by
  unfold bit
  rw [odd_iff, show Nat.shiftRight b j = b >>> j from rfl, Nat.testBit_eq_decide_div_mod_eq, Nat.shiftRight_eq_div_pow]
def predE (acc : OT Nat) (l : List Edge) (s : Nat) : Nat :=
  List.rec (motive := fun _ => Nat → Nat) (fun s => s) (fun e _ ih s => Bool.rec (ih s) (ih (Nat.lor (Nat.lor s (Nat.pow 2 e.on)) (Option.rec 0 (fun b => b) (acc.get e.on)))) (Region.binds .any e)) l s
theorem predE_nil (acc : OT Nat) (s : Nat) : predE acc [] s = s := rfl
theorem predE_cons (acc : OT Nat) (e : Edge) (l : List Edge) (s : Nat) : predE acc (e :: l) s = match Region.binds .any e with
    | true => predE acc l (Nat.lor (Nat.lor s (Nat.pow 2 e.on)) ((acc.get e.on).getD 0))
    | false => predE acc l s := by
  show (Bool.rec (predE acc l s) (predE acc l (Nat.lor (Nat.lor s (Nat.pow 2 e.on)) (Option.rec 0 (fun b => b) (acc.get e.on)))) (Region.binds .any e) : Nat) = _
  cases Region.binds .any e with
  | false => rfl
  | true => cases acc.get e.on <;> rfl
def predsFrom : List Oper → Nat → OT Nat → OT Nat
  | [], _, acc => acc
  | o :: l, i, acc => predsFrom l (i + 1) (acc.set i (predE acc o.after.toList 0))
def preds (ops : List Oper) : OT Nat := predsFrom ops 0 .e
/-- operation j comes before operation i -/
def bef (m : OT Nat) (i j : Nat) : Bool := match m.get i with
  | some b => bit b j
  | none => false
def edgeOk (i : Nat) (l : List Edge) : Bool := List.rec true (fun e _ ih => Bool.rec ih (Bool.rec false ih (Nat.ble (Nat.succ e.on) i)) (Region.binds .any e)) l
theorem edgeOk_eq (i : Nat) : ∀ l : List Edge, edgeOk i l = l.all (fun e => !Region.binds .any e || Nat.blt e.on i)
  | [] => rfl
  | e :: l => by
    show (Bool.rec (edgeOk i l) (Bool.rec false (edgeOk i l) (Nat.ble (Nat.succ e.on) i)) (Region.binds .any e) : Bool) = _
    rw [edgeOk_eq i l, List.all_cons]
    cases Region.binds .any e with
    | false => simp
    | true =>
      show (Bool.rec false _ (Nat.blt e.on i) : Bool) = _
      cases Nat.blt e.on i <;> simp
def edgesOk (l : List Oper) (i : Nat) : Bool :=
  List.rec (motive := fun _ => Nat → Bool) (fun _ => true) (fun o _ ih i => Bool.rec false (ih (Nat.succ i)) (edgeOk i o.after.toList)) l i
theorem edgesOk_nil (i : Nat) : edgesOk [] i = true := rfl
theorem edgesOk_cons (o : Oper) (l : List Oper) (i : Nat) : edgesOk (o :: l) i = (o.after.toList.all (fun e => !Region.binds .any e || Nat.blt e.on i) && edgesOk l (i + 1)) := by
  show (Bool.rec false (edgesOk l (i + 1)) (edgeOk i o.after.toList) : Bool) = _
  rw [edgeOk_eq]
  cases o.after.toList.all (fun e => !Region.binds .any e || Nat.blt e.on i) <;> rfl

/-- nothing stands in S whose predecessors do not -/
def Down (ops : List Oper) (S : Nat → Prop) : Prop := ∀ i o, ops[i]? = some o → S i → ∀ e ∈ o.after.toList, Region.binds .any e = true → S e.on

theorem predE_sound {ops : List Oper} {i : Nat} {o : Oper} (ho : ops[i]? = some o) {acc : OT Nat} (hacc : ∀ k b, acc.get k = some b → ∀ j, bit b j = true → j < k ∧ ∀ S, Down ops S → S k → S j) : ∀ (es : List Edge) (s : Nat),
    (∀ e ∈ es, e ∈ o.after.toList ∧ (Region.binds .any e = true → e.on < i)) → (∀ j, bit s j = true → j < i ∧ ∀ S, Down ops S → S i → S j) → ∀ j, bit (predE acc es s) j = true → j < i ∧ ∀ S, Down ops S → S i → S j
  | [], s, _, hs, j, hj => hs j hj
  | e :: es, s, he, hs, j, hj => by
    rw [predE_cons] at hj
    have he' := fun x hx => he x (List.mem_cons_of_mem _ hx)
    split at hj
    · rename_i hb
      refine predE_sound ho hacc es _ he' ?_ j hj
      intro j hj
      obtain ⟨h1, h2⟩ := he e (List.mem_cons_self ..)
      have hlt := h2 hb
      rw [bit_eq] at hj
      rw [show Nat.lor (Nat.lor s (Nat.pow 2 e.on)) ((acc.get e.on).getD 0) = (s ||| 2 ^ e.on) ||| ((acc.get e.on).getD 0) from rfl, Nat.testBit_or, Nat.testBit_or, Nat.testBit_two_pow] at hj
      simp only [Bool.or_eq_true, decide_eq_true_eq] at hj
      rcases hj with (hj | rfl) | hj
      · exact hs j (by rw [bit_eq]; exact hj)
      · exact ⟨hlt, fun S hS hi => hS i o ho hi e h1 hb⟩
      · cases hg : acc.get e.on with
        | none => rw [hg] at hj; simp at hj
        | some b =>
          rw [hg] at hj
          obtain ⟨k1, k2⟩ := hacc _ _ hg j (by rw [bit_eq]; exact hj)
          exact ⟨by omega, fun S hS hi => k2 S hS (hS i o ho hi e h1 hb)⟩
    · exact predE_sound ho hacc es _ he' hs j hj

theorem predsFrom_sound {ops : List Oper} : ∀ (l : List Oper) (i : Nat) (acc : OT Nat), ops.drop i = l → edgesOk l i = true → (∀ k b, acc.get k = some b → ∀ j, bit b j = true → j < k ∧ ∀ S, Down ops S → S k → S j) →
    ∀ k b, (predsFrom l i acc).get k = some b → ∀ j, bit b j = true → j < k ∧ ∀ S, Down ops S → S k → S j
  | [], i, acc, _, _, h => h
  | o :: l, i, acc, hl, he, h => by
    rw [edgesOk_cons] at he
    simp only [Bool.and_eq_true, List.all_eq_true] at he
    have ho : ops[i]? = some o := by
      have : (ops.drop i)[0]? = some o := by rw [hl]; rfl
      simpa using this
    have hl' : ops.drop (i + 1) = l := by rw [← List.drop_drop, hl]; rfl
    refine predsFrom_sound l (i + 1) _ hl' he.2 ?_
    intro k b hk
    rw [OT.get_set] at hk
    by_cases e : k = i
    · subst e
      simp at hk; subst hk
      refine predE_sound ho h _ 0 (fun e hee => ⟨hee, fun hb => ?_⟩) (fun j hj => by rw [bit_eq] at hj; simp at hj)
      have := he.1 e hee
      rw [hb] at this
      simpa using this
    · rw [if_neg e] at hk
      exact h k b hk

theorem bef_sound {ops : List Oper} (he : edgesOk ops 0 = true) {i j : Nat} (h : bef (preds ops) i j = true) : j < i ∧ ∀ S, Down ops S → S i → S j := by
  unfold bef at h
  split at h
  · rename_i b hb
    exact predsFrom_sound ops 0 .e (by simp) he (fun k b hk => by simp [OT.get_e] at hk) i b hb j h
  · simp at h

/-! ### Who writes what a slot holds -/
def writersFrom (t : Nat) (l : List Oper) (i : Nat) : List Nat :=
  List.rec (motive := fun _ => Nat → List Nat) (fun _ => []) (fun o _ ih i => Option.rec (ih (Nat.succ i)) (fun d => Bool.rec (ih (Nat.succ i)) (i :: ih (Nat.succ i)) (Nat.beq d t)) o.dst) l i
theorem writersFrom_nil (t i : Nat) : writersFrom t [] i = [] := rfl
theorem writersFrom_cons (t : Nat) (o : Oper) (l : List Oper) (i : Nat) : writersFrom t (o :: l) i = match o.dst with
    | some d => match Nat.beq d t with
      | true => i :: writersFrom t l (i + 1)
      | false => writersFrom t l (i + 1)
    | none => writersFrom t l (i + 1) := by
  show (Option.rec (writersFrom t l (i + 1)) (fun d => Bool.rec (writersFrom t l (i + 1)) (i :: writersFrom t l (i + 1)) (Nat.beq d t)) o.dst : List Nat) = _
  cases o.dst with
  | none => rfl
  | some d => simp only []; cases Nat.beq d t <;> rfl
/-- the last writer ahead of operation i; all others must come before or behind it -/
def lookGo (m : OT Nat) (i : Nat) : List Nat → Option Nat → Option (Option Nat)
  | [], acc => some acc
  | w :: ws, acc => match Nat.beq w i with
    | true => lookGo m i ws acc
    | false => match bef m i w with
      | true => lookGo m i ws (some w)
      | false => match bef m w i with
        | true => lookGo m i ws acc
        | false => none
def lookOf (ops : List Oper) (m : OT Nat) (i t : Nat) : Option (Option Nat) := lookGo m i (writersFrom t ops 0) none
theorem writersFrom_mem {t : Nat} : ∀ {l : List Oper} {i w : Nat}, w ∈ writersFrom t l i ↔ i ≤ w ∧ ∃ o, l[w - i]? = some o ∧ o.dst = some t
  | [], i, w => by simp [writersFrom_nil]
  | o :: l, i, w => by
    have ih := writersFrom_mem (t := t) (l := l) (i := i + 1) (w := w)
    have key : (w ∈ writersFrom t l (i + 1) ↔ i < w ∧ ∃ o', (o :: l)[w - i]? = some o' ∧ o'.dst = some t) := by
      rw [ih]
      constructor
      · rintro ⟨h1, o', h2, h3⟩
        exact ⟨h1, o', by rw [show w - i = (w - (i + 1)) + 1 by omega]; simpa using h2, h3⟩
      · rintro ⟨h1, o', h2, h3⟩
        rw [show w - i = (w - (i + 1)) + 1 by omega] at h2
        exact ⟨h1, o', by simpa using h2, h3⟩
    have key2 : o.dst = some t → (w ∈ i :: writersFrom t l (i + 1) ↔ i ≤ w ∧ ∃ o', (o :: l)[w - i]? = some o' ∧ o'.dst = some t) := by
      intro hd
      rw [List.mem_cons, key]
      constructor
      · rintro (rfl | ⟨h1, h2⟩)
        · exact ⟨Nat.le_refl _, o, by simp, hd⟩
        · exact ⟨by omega, h2⟩
      · rintro ⟨h1, h2⟩
        by_cases e : w = i
        · exact .inl e
        · exact .inr ⟨by omega, h2⟩
    have key3 : ¬ o.dst = some t → (w ∈ writersFrom t l (i + 1) ↔ i ≤ w ∧ ∃ o', (o :: l)[w - i]? = some o' ∧ o'.dst = some t) := by
      intro hd
      rw [key]
      constructor
      · rintro ⟨h1, h2⟩; exact ⟨by omega, h2⟩
      · rintro ⟨h1, o', h2, h3⟩
        by_cases e : w = i
        · subst e; simp at h2; subst h2; exact absurd h3 hd
        · exact ⟨by omega, o', h2, h3⟩
    rw [writersFrom_cons]
    split
    · rename_i d hd
      split
      · rename_i hb
        have := Nat.eq_of_beq_eq_true hb
        subst this
        exact key2 hd
      · rename_i hb
        exact key3 (by rw [hd]; intro e; simp at e; subst e; simp at hb)
    · rename_i hd
      exact key3 (by rw [hd]; simp)

theorem writersFrom_sorted {t : Nat} : ∀ {l : List Oper} {i : Nat}, (writersFrom t l i).Pairwise (· < ·)
  | [], i => by simp [writersFrom_nil]
  | o :: l, i => by
    have ih := writersFrom_sorted (t := t) (l := l) (i := i + 1)
    rw [writersFrom_cons]
    split
    · split
      · refine List.Pairwise.cons (fun w hw => ?_) ih
        have := (writersFrom_mem.1 hw).1
        omega
      · exact ih
    · exact ih
theorem lookGo_sound {m : OT Nat} {i : Nat} : ∀ {ws : List Nat} {acc r : Option Nat}, lookGo m i ws acc = some r → ws.Pairwise (· < ·) → (∀ j, acc = some j → ∀ w ∈ ws, j < w) →
    (∀ w ∈ ws, w = i ∨ bef m i w = true ∨ bef m w i = true) ∧
    (match r with
     | some j => (acc = some j ∨ (j ∈ ws ∧ j ≠ i ∧ bef m i j = true)) ∧ (∀ w ∈ ws, w ≠ i → bef m i w = true → w ≤ j) ∧ (∀ k, acc = some k → k ≤ j)
     | none => acc = none ∧ ∀ w ∈ ws, w ≠ i → bef m i w = false)
  | [], acc, r, h, _, _ => by
    simp [lookGo] at h; subst h
    cases acc <;> simp
  | w :: ws, acc, r, h, hp, hacc => by
    obtain ⟨hp1, hp2⟩ := List.pairwise_cons.1 hp
    unfold lookGo at h
    split at h
    · rename_i hw
      have hw := Nat.eq_of_beq_eq_true hw
      obtain ⟨k1, k2⟩ := lookGo_sound h hp2 (fun j hj w' hw' => hacc j hj w' (List.mem_cons_of_mem _ hw'))
      refine ⟨fun w' hw' => ?_, ?_⟩
      · rcases List.mem_cons.1 hw' with rfl | hw'
        · exact .inl hw
        · exact k1 _ hw'
      · cases r with
        | some j =>
          obtain ⟨a1, a2, a3⟩ := k2
          refine ⟨a1.imp id fun ⟨b1, b2, b3⟩ => ⟨List.mem_cons_of_mem _ b1, b2, b3⟩, fun w' hw' hn hb => ?_, a3⟩
          rcases List.mem_cons.1 hw' with rfl | hw'
          · exact absurd hw hn
          · exact a2 _ hw' hn hb
        | none =>
          obtain ⟨a1, a2⟩ := k2
          refine ⟨a1, fun w' hw' hn => ?_⟩
          rcases List.mem_cons.1 hw' with rfl | hw'
          · exact absurd hw hn
          · exact a2 _ hw' hn
    · rename_i hw
      have hne : w ≠ i := fun e => by subst e; simp at hw
      split at h
      · rename_i hb
        obtain ⟨k1, k2⟩ := lookGo_sound h hp2 (fun j hj w' hw' => by simp at hj; subst hj; exact hp1 _ hw')
        refine ⟨fun w' hw' => ?_, ?_⟩
        · rcases List.mem_cons.1 hw' with rfl | hw'
          · exact .inr (.inl hb)
          · exact k1 _ hw'
        · cases r with
          | some j =>
            obtain ⟨a1, a2, a3⟩ := k2
            have hwj := a3 w rfl
            refine ⟨.inr ?_, fun w' hw' hn hbb => ?_, fun k hk => ?_⟩
            · rcases a1 with a1 | ⟨b1, b2, b3⟩
              · simp at a1; subst a1; exact ⟨List.mem_cons_self .., hne, hb⟩
              · exact ⟨List.mem_cons_of_mem _ b1, b2, b3⟩
            · rcases List.mem_cons.1 hw' with rfl | hw'
              · exact hwj
              · exact a2 _ hw' hn hbb
            · have := hacc k hk w (List.mem_cons_self ..)
              omega
          | none => simp at k2
      · rename_i hb
        split at h
        · rename_i hb2
          obtain ⟨k1, k2⟩ := lookGo_sound h hp2 (fun j hj w' hw' => hacc j hj w' (List.mem_cons_of_mem _ hw'))
          refine ⟨fun w' hw' => ?_, ?_⟩
          · rcases List.mem_cons.1 hw' with rfl | hw'
            · exact .inr (.inr hb2)
            · exact k1 _ hw'
          · cases r with
            | some j =>
              obtain ⟨a1, a2, a3⟩ := k2
              refine ⟨a1.imp id fun ⟨b1, b2, b3⟩ => ⟨List.mem_cons_of_mem _ b1, b2, b3⟩, fun w' hw' hn hbb => ?_, a3⟩
              rcases List.mem_cons.1 hw' with rfl | hw'
              · rw [hb] at hbb; simp at hbb
              · exact a2 _ hw' hn hbb
            | none =>
              obtain ⟨a1, a2⟩ := k2
              refine ⟨a1, fun w' hw' hn => ?_⟩
              rcases List.mem_cons.1 hw' with rfl | hw'
              · exact hb
              · exact a2 _ hw' hn
        · simp at h

/-! ### The evaluation -/
inductive Rec where
  | quiet (v : AV)
  | read (v : AV)
  | alloc (v : AV) (a : Nat) (o : AO) (ph : Nat)
  | eff (v : AV)
def Rec.val : Rec → AV
  | .quiet v => v
  | .read v => v
  | .alloc v _ _ _ => v
  | .eff v => v
def tmpsOf : List Operand → List Nat
  | [] => []
  | .tmp t :: l => t :: tmpsOf l
  | _ :: l => tmpsOf l
/-- the slots that an operation looks at -/
def slotsOf (ops : List Oper) (o : Oper) : List Nat := match o.guard with
  | none => tmpsOf o.op.operands.toList
  | some (j, _) => match gslot ops j with
    | some t => t :: tmpsOf o.op.operands.toList
    | none => tmpsOf o.op.operands.toList
def looksOf (ops : List Oper) (m : OT Nat) (i : Nat) : List Nat → Option (List (Nat × Option Nat))
  | [] => some []
  | t :: l => match lookOf ops m i t with
    | some r => match looksOf ops m i l with
      | some rs => some ((t, r) :: rs)
      | none => none
    | none => none
/-- the slots that an operation looks at, as they stand -/
def mkTm (tm0 : T AV) (F : T Rec) (l : List (Nat × Option Nat)) : Option (T AV) :=
  List.rec (some .e) (fun p _ ih => Option.rec none (fun tm => Option.rec (Option.rec (some tm) (fun v => some (tm.set p.1 v)) (tm0.get p.1)) (fun j => Option.rec none (fun r => some (tm.set p.1 r.val)) (F.get j)) p.2) ih) l
theorem mkTm_nil (tm0 : T AV) (F : T Rec) : mkTm tm0 F [] = some .e := rfl
theorem mkTm_none (tm0 : T AV) (F : T Rec) (t : Nat) (l : List (Nat × Option Nat)) : mkTm tm0 F ((t, none) :: l) = match mkTm tm0 F l with
    | some tm => match tm0.get t with
      | some v => some (tm.set t v)
      | none => some tm
    | none => none := by
  show (Option.rec none (fun tm => Option.rec (some tm) (fun v => some (tm.set t v)) (tm0.get t)) (mkTm tm0 F l) : Option (T AV)) = _
  cases mkTm tm0 F l with
  | none => rfl
  | some tm => cases h : tm0.get t <;> simp [h]
theorem mkTm_some (tm0 : T AV) (F : T Rec) (t j : Nat) (l : List (Nat × Option Nat)) : mkTm tm0 F ((t, some j) :: l) = match mkTm tm0 F l with
    | some tm => match F.get j with
      | some r => some (tm.set t r.val)
      | none => none
    | none => none := by
  show (Option.rec none (fun tm => Option.rec none (fun r => some (tm.set t r.val)) (F.get j)) (mkTm tm0 F l) : Option (T AV)) = _
  cases mkTm tm0 F l with
  | none => rfl
  | some tm => cases h : F.get j <;> simp [h]
/-- where an operation writes, no other writes at the same time -/
def dstOk (ops : List Oper) (m : OT Nat) (N i : Nat) (dst : Option Nat) : Bool := match dst with
  | none => true
  | some d => match lookOf ops m i d with
    | some _ => Nat.ble (d + 1) N
    | none => false
def localTm (ops : List Oper) (m : OT Nat) (N : Nat) (tm0 : T AV) (F : T Rec) (i : Nat) (o : Oper) : Option (T AV) :=
  match dstOk ops m N i o.dst with
  | true => match looksOf ops m i (slotsOf ops o) with
    | some lk => mkTm tm0 F lk
    | none => none
  | false => none
/-- an operation that is no effect -/
def opQ (P : Program) (ops : List Oper) (m : OT Nat) (N : Nat) (tm0 : T AV) (ph : Nat) (F : T Rec) (h : H) (i : Nat) (o : Oper) : Option (Rec × H) :=
  match localTm ops m N tm0 F i o with
  | some tm => match wantA ops tm o with
    | some false => some (.quiet (.tup []), h)
    | some true => match cOp P o with
      | some (.p x) => match evP P tm x with
        | some v => some (.quiet v, h)
        | none => none
      | some (.r x) => match evR tm h.t.get x with
        | some v => some (.read v, h)
        | none => none
      | some (.l x) => match evL tm h.t.get x with
        | some v => some (.read v, h)
        | none => none
      | some (.s x) => match evS tm h.t.get x with
        | some v => some (.read v, h)
        | none => none
      | some (.n x) => match evN tm x with
        | some (ao, f) => some (.alloc (f h.next) h.next ao ph, ⟨h.next + 1, h.t.set h.next ao⟩)
        | none => none
      | _ => none
    | none => none
  | none => none
def phE (P : Program) (ops : List Oper) (m : OT Nat) (N : Nat) (tm0 : T AV) (ph : Nat) : List Nat → T Rec → H → Option (T Rec × H)
  | [], F, h => some (F, h)
  | i :: l, F, h => match ops[i]?, F.get i with
    | some o, none => match opQ P ops m N tm0 ph F h i o with
      | some (r, h') => phE P ops m N tm0 ph l (F.set i r) h'
      | none => none
    | _, _ => none
/-- an operation with an effect -/
def opF (P : Program) (call : CallE) (ops : List Oper) (m : OT Nat) (N : Nat) (tm0 : T AV) (F : T Rec) (h : H) (i : Nat) (o : Oper) : Option (AV × H) :=
  match localTm ops m N tm0 F i o with
  | some tm => match wantA ops tm o with
    | some false => some (.tup [], h)
    | some true => match cOp P o with
      | some c => evOp P call tm h c
      | none => none
    | none => none
  | none => none
/-- the phases: what is no effect, and the effect behind it -/
def drE (P : Program) (call : CallE) (ops : List Oper) (m : OT Nat) (N : Nat) (tm0 : T AV) : Nat → List (List Nat × Option Nat) → T Rec → H → Option (T Rec × List H)
  | _, [], F, h => none
  | ph, (ids, none) :: _, F, h => match phE P ops m N tm0 ph ids F h with
    | some (F', h') => some (F', [h'])
    | none => none
  | ph, (ids, some e) :: rest, F, h => match phE P ops m N tm0 ph ids F h with
    | some (F1, h1) => match ops[e]?, F1.get e with
      | some o, none => match opF P call ops m N tm0 F1 h1 e o with
        | some (v, h2) => match Nat.ble h1.next h2.next with
          | true => match drE P call ops m N tm0 (ph + 1) rest (F1.set e (.eff v)) h2 with
            | some (F', hs) => some (F', h1 :: hs)
            | none => none
          | false => none
        | none => none
      | _, _ => none
    | none => none
/-- is it an effect? -/
def isEff (P : Program) (o : Oper) : Bool := match cOp P o with
  | some (.p _) => false
  | some (.r _) => false
  | some (.l _) => false
  | some (.s _) => false
  | some (.n _) => false
  | _ => true
def effsFrom (P : Program) : List Oper → Nat → List Nat
  | [], _ => []
  | o :: l, i => match isEff P o with
    | true => i :: effsFrom P l (i + 1)
    | false => effsFrom P l (i + 1)
/-- each effect comes behind all earlier ones -/
def chainOk (m : OT Nat) : List Nat → Bool
  | [] => true
  | e :: es => es.all (fun f => bef m f e) && chainOk m es
/-- how many of the effects come up to the last one that is ahead of operation i -/
def phaseOf (m : OT Nat) (i : Nat) : List Nat → Nat → Nat → Nat
  | [], _, acc => acc
  | e :: es, k, acc => match bef m i e with
    | true => phaseOf m i es (k + 1) (k + 1)
    | false => phaseOf m i es (k + 1) acc
def inPhase (m : OT Nat) (es : List Nat) (k : Nat) (n : Nat) : List Nat := (List.range n).filter fun i => !(es.contains i) && Nat.beq (phaseOf m i es 0 0) k
def phasesOf (m : OT Nat) (es : List Nat) (n : Nat) : Nat → List Nat → List (List Nat × Option Nat)
  | k, [] => [(inPhase m es k n, none)]
  | k, e :: rest => (inPhase m es k n, some e) :: phasesOf m es n (k + 1) rest
end
end Go.Proofs.YtldmhpdjlgoenaaGreatDoor.Eo

namespace Go.Proofs.YtldmhpdjlgoenaaGreatDoor.Eo
noncomputable section

/-- more records -/
def Sub (F F' : T Rec) : Prop := ∀ i r, F.get i = some r → F'.get i = some r
theorem Sub.refl (F : T Rec) : Sub F F := fun _ _ h => h
theorem Sub.trans {F F' F'' : T Rec} (h : Sub F F') (h' : Sub F' F'') : Sub F F'' := fun i r e => h' i r (h i r e)
theorem Sub.set {F : T Rec} {i : Nat} {r : Rec} (h : F.get i = none) : Sub F (F.set i r) := fun j s e => by
  rw [T.get_set, if_neg]
  · exact e
  · rintro rfl; rw [h] at e; simp at e
theorem mkTm_mono {tm0 : T AV} {F F' : T Rec} (h : Sub F F') : ∀ {lk : List (Nat × Option Nat)} {tm : T AV}, mkTm tm0 F lk = some tm → mkTm tm0 F' lk = some tm
  | [], tm, e => e
  | (t, none) :: l, tm, e => by
    rw [mkTm_none] at e ⊢
    split at e
    · rename_i tm' h1
      rw [mkTm_mono h h1]
      exact e
    · simp at e
  | (t, some j) :: l, tm, e => by
    rw [mkTm_some] at e ⊢
    split at e
    · rename_i tm' h1
      rw [mkTm_mono h h1]
      simp only []
      split at e
      · rename_i r hr
        rw [h _ _ hr]
        exact e
      · simp at e
    · simp at e
theorem localTm_mono {ops : List Oper} {m : OT Nat} {N : Nat} {tm0 : T AV} {F F' : T Rec} (h : Sub F F') {i : Nat} {o : Oper} {tm : T AV} (e : localTm ops m N tm0 F i o = some tm) : localTm ops m N tm0 F' i o = some tm := by
  unfold localTm at e ⊢
  split at e
  · split at e
    · rename_i hd lk hl
      exact mkTm_mono h e
    · simp at e
  · simp at e
theorem opQ_mono {P : Program} {ops : List Oper} {m : OT Nat} {N : Nat} {tm0 : T AV} {ph : Nat} {F F' : T Rec} (h : Sub F F') {hp : H} {i : Nat} {o : Oper} {x : Rec × H} (e : opQ P ops m N tm0 ph F hp i o = some x) : opQ P ops m N tm0 ph F' hp i o = some x := by
  unfold opQ at e ⊢
  split at e
  · rename_i tm ht
    rw [localTm_mono h ht]
    exact e
  · simp at e
theorem opF_mono {P : Program} {call : CallE} {ops : List Oper} {m : OT Nat} {N : Nat} {tm0 : T AV} {F F' : T Rec} (h : Sub F F') {hp : H} {i : Nat} {o : Oper} {x : AV × H} (e : opF P call ops m N tm0 F hp i o = some x) : opF P call ops m N tm0 F' hp i o = some x := by
  unfold opF at e ⊢
  split at e
  · rename_i tm ht
    rw [localTm_mono h ht]
    exact e
  · simp at e

/-- what an operation that is no effect does to the heap -/
theorem opQ_heap {P : Program} {ops : List Oper} {m : OT Nat} {N : Nat} {tm0 : T AV} {ph : Nat} {F : T Rec} {h h' : H} {i : Nat} {o : Oper} {r : Rec} (e : opQ P ops m N tm0 ph F h i o = some (r, h')) :
    (∀ v, r ≠ .eff v) ∧ ((h' = h ∧ ∀ v a ao p, r ≠ .alloc v a ao p) ∨ ∃ v ao, r = .alloc v h.next ao ph ∧ h' = ⟨h.next + 1, h.t.set h.next ao⟩) := by
  unfold opQ at e
  split at e
  · split at e
    · simp at e; obtain ⟨rfl, rfl⟩ := e; simp
    · split at e
      all_goals first
        | (split at e
           · first
             | (simp at e; obtain ⟨rfl, rfl⟩ := e; simp; done)
             | (simp only [Option.some.injEq, Prod.mk.injEq] at e; obtain ⟨rfl, rfl⟩ := e
                exact ⟨by simp, .inr ⟨_, _, rfl, rfl⟩⟩)
           · simp at e)
        | (simp at e; done)
    · simp at e
  · simp at e

/-- what a phase tells; F: the records of the whole region -/
structure PhF (P : Program) (ops : List Oper) (m : OT Nat) (N : Nat) (tm0 : T AV) (ph : Nat) (F : T Rec) (h h1 : H) : Prop where
  next : h.next ≤ h1.next
  old : ∀ b, b < h.next → h1.t.get b = h.t.get b
  at_ : ∀ i v a ao, F.get i = some (.alloc v a ao ph) → h.next ≤ a ∧ a < h1.next ∧ h1.t.get a = some ao

/-- an operation's record is what its evaluation gives -/
def QF (P : Program) (ops : List Oper) (m : OT Nat) (N : Nat) (tm0 : T AV) (F : T Rec) (i : Nat) (r : Rec) : Prop :=
  ∃ o ph h h', ops[i]? = some o ∧ opQ P ops m N tm0 ph F h i o = some (r, h')

theorem phE_sound {P : Program} {ops : List Oper} {m : OT Nat} {N : Nat} {tm0 : T AV} {ph : Nat} : ∀ {ids : List Nat} {F F1 : T Rec} {h h1 : H}, phE P ops m N tm0 ph ids F h = some (F1, h1) →
    Sub F F1 ∧ h.next ≤ h1.next ∧ (∀ b, b < h.next → h1.t.get b = h.t.get b) ∧
    (∀ i r, F1.get i = some r → F.get i = some r ∨ (QF P ops m N tm0 F1 i r ∧ ∀ v a ao p, r = .alloc v a ao p → p = ph ∧ h.next ≤ a ∧ a < h1.next ∧ h1.t.get a = some ao)) ∧
    (∀ i j v a ao p v' ao' p', F.get i = none → F1.get i = some (.alloc v a ao p) → F.get j = none → F1.get j = some (.alloc v' a ao' p') → i = j)
  | [], F, F1, h, h1, e => by
    simp [phE] at e; obtain ⟨rfl, rfl⟩ := e
    exact ⟨Sub.refl _, Nat.le_refl _, fun _ _ => rfl, fun i r hr => .inl hr, fun i j v a ao p v' ao' p' h1 h2 => by rw [h1] at h2; simp at h2⟩
  | i :: l, F, F1, h, h1, e => by
    unfold phE at e
    split at e
    · rename_i o ho hF
      split at e
      · rename_i r h2 hq
        obtain ⟨k1, k2, k3, k4, k5⟩ := phE_sound e
        have hsub : Sub F (F.set i r) := Sub.set hF
        obtain ⟨q1, q2⟩ := opQ_heap hq
        have hn : h.next ≤ h2.next := by
          rcases q2 with ⟨rfl, _⟩ | ⟨v, ao, _, rfl⟩
          · exact Nat.le_refl _
          · exact Nat.le_succ _
        have hold : ∀ b, b < h.next → h2.t.get b = h.t.get b := by
          intro b hb
          rcases q2 with ⟨rfl, _⟩ | ⟨v, ao, _, rfl⟩
          · rfl
          · show (h.t.set h.next ao).get b = _
            rw [T.get_set, if_neg (by omega)]
        have hi1 : F1.get i = some r := k1 i r (by rw [T.get_set, if_pos rfl])
        have hia : ∀ v a ao p, r = .alloc v a ao p → p = ph ∧ a = h.next ∧ h2.next = h.next + 1 ∧ h2.t.get a = some ao := by
          intro v a ao p hr
          rcases q2 with ⟨_, hne⟩ | ⟨v', ao', hr', rfl⟩
          · exact absurd hr (hne v a ao p)
          · rw [hr'] at hr; simp at hr
            obtain ⟨_, rfl, rfl, rfl⟩ := hr
            exact ⟨rfl, rfl, rfl, by show (h.t.set h.next ao').get h.next = _; rw [T.get_set, if_pos rfl]⟩
        refine ⟨hsub.trans k1, Nat.le_trans hn k2, fun b hb => by rw [k3 b (by omega), hold b hb], ?_, ?_⟩
        · intro j s hj
          rcases k4 j s hj with hh | ⟨hh1, hh2⟩
          · rw [T.get_set] at hh
            by_cases e : j = i
            · subst e
              rw [if_pos rfl] at hh; simp at hh; subst hh
              refine .inr ⟨⟨o, ph, h, h2, ho, opQ_mono (hsub.trans k1) hq⟩, fun v a ao p hr => ?_⟩
              obtain ⟨r1, rfl, r3, r4⟩ := hia v a ao p hr
              exact ⟨r1, Nat.le_refl _, by omega, by rw [k3 _ (by omega)]; exact r4⟩
            · rw [if_neg e] at hh; exact .inl hh
          · exact .inr ⟨hh1, fun v a ao p hr => by
              obtain ⟨r1, r2, r3, r4⟩ := hh2 v a ao p hr
              exact ⟨r1, by omega, r3, r4⟩⟩
        · have far : ∀ j v a ao p, j ≠ i → F.get j = none → F1.get j = some (.alloc v a ao p) → h2.next ≤ a := by
            intro j v a ao p hji hj hj1
            rcases k4 j _ hj1 with hh | ⟨_, hh⟩
            · rw [T.get_set, if_neg hji, hj] at hh; simp at hh
            · exact (hh v a ao p rfl).2.1
          have near : ∀ v a ao p, F1.get i = some (.alloc v a ao p) → a < h2.next := by
            intro v a ao p hh
            rw [hi1] at hh; simp at hh
            obtain ⟨_, rfl, r3, _⟩ := hia v a ao p hh
            omega
          intro j k v a ao p v' ao' p' hj hj1 hk hk1
          by_cases ej : j = i
          · by_cases ek : k = i
            · rw [ej, ek]
            · subst ej
              have := near _ _ _ _ hj1
              have := far k _ _ _ _ ek hk hk1
              omega
          · by_cases ek : k = i
            · subst ek
              have := near _ _ _ _ hk1
              have := far j _ _ _ _ ej hj hj1
              omega
            · exact k5 j k v a ao p v' ao' p' (by rw [T.get_set, if_neg ej]; exact hj) hj1 (by rw [T.get_set, if_neg ek]; exact hk) hk1
      · simp at e
    · simp at e

/-- what is made in this phase or later has a number that was free at its beginning -/
def LowP (F : T Rec) (ph : Nat) (h : H) : Prop := ∀ i v a ao p, F.get i = some (.alloc v a ao p) → ph ≤ p → h.next ≤ a
def CertP (P : Program) (call : CallE) (ops : List Oper) (m : OT Nat) (N : Nat) (tm0 : T AV) (F : T Rec) : Nat → List (List Nat × Option Nat) → H → List H → Prop
  | _, [], _, _ => False
  | ph, (_, none) :: _, h, hs => LowP F ph h ∧ ∃ h1, hs = [h1] ∧ PhF P ops m N tm0 ph F h h1
  | ph, (_, some e) :: rest, h, hs => LowP F ph h ∧ ∃ h1 hs' v h2 o, hs = h1 :: hs' ∧ PhF P ops m N tm0 ph F h h1 ∧ ops[e]? = some o ∧ F.get e = some (.eff v) ∧ opF P call ops m N tm0 F h1 e o = some (v, h2) ∧ h1.next ≤ h2.next ∧
      CertP P call ops m N tm0 F (ph + 1) rest h2 hs'

theorem QF.mono {P : Program} {ops : List Oper} {m : OT Nat} {N : Nat} {tm0 : T AV} {F F' : T Rec} (hs : Sub F F') {i : Nat} {r : Rec} (h : QF P ops m N tm0 F i r) : QF P ops m N tm0 F' i r := by
  obtain ⟨o, ph, h1, h2, k1, k2⟩ := h
  exact ⟨o, ph, h1, h2, k1, opQ_mono hs k2⟩

theorem drE_sound {P : Program} {call : CallE} {ops : List Oper} {m : OT Nat} {N : Nat} {tm0 : T AV} : ∀ {l : List (List Nat × Option Nat)} {ph : Nat} {F0 F : T Rec} {h : H} {hs : List H}, drE P call ops m N tm0 ph l F0 h = some (F, hs) →
    (∀ i v a ao p, F0.get i = some (.alloc v a ao p) → p < ph) →
    Sub F0 F ∧ CertP P call ops m N tm0 F ph l h hs ∧
    (∀ i r, F.get i = some r → F0.get i = some r ∨ (∃ v, r = .eff v) ∨ QF P ops m N tm0 F i r) ∧
    (∀ i v a ao p, F.get i = some (.alloc v a ao p) → F0.get i = some (.alloc v a ao p) ∨ (ph ≤ p ∧ h.next ≤ a)) ∧
    (∀ i j v a ao p v' ao' p', F0.get i = none → F.get i = some (.alloc v a ao p) → F0.get j = none → F.get j = some (.alloc v' a ao' p') → i = j)
  | [], ph, F0, F, h, hs, e, _ => by simp [drE] at e
  | (ids, none) :: l, ph, F0, F, h, hs, e, htag => by
    unfold drE at e
    split at e
    · rename_i F1 h1 hp
      simp at e; obtain ⟨rfl, rfl⟩ := e
      obtain ⟨k1, k2, k3, k4, k5⟩ := phE_sound hp
      refine ⟨k1, ⟨fun i v a ao p hi hp => ?_, h1, rfl, ⟨k2, k3, fun i v a ao hi => ?_⟩⟩, fun i r hi => ?_, fun i v a ao p hi => ?_, k5⟩
      · rcases k4 i _ hi with hh | ⟨_, hh⟩
        · have := htag _ _ _ _ _ hh; omega
        · exact (hh v a ao p rfl).2.1
      · rcases k4 i _ hi with hh | ⟨_, hh⟩
        · exact absurd (htag _ _ _ _ _ hh) (Nat.lt_irrefl _)
        · exact (hh v a ao ph rfl).2
      · rcases k4 i _ hi with hh | ⟨hh, _⟩
        · exact .inl hh
        · exact .inr (.inr hh)
      · rcases k4 i _ hi with hh | ⟨_, hh⟩
        · exact .inl hh
        · obtain ⟨rfl, r2, _⟩ := hh v a ao p rfl
          exact .inr ⟨Nat.le_refl _, r2⟩
    · simp at e
  | (ids, some x) :: l, ph, F0, F, h, hs, e, htag => by
    unfold drE at e
    split at e
    · rename_i F1 h1 hp
      split at e
      · rename_i o ho hFx
        split at e
        · rename_i v h2 hv
          split at e
          · rename_i hle
            have hle := Nat.le_of_ble_eq_true hle
            split at e
            · rename_i F' hs' hd
              simp at e; obtain ⟨rfl, rfl⟩ := e
              obtain ⟨k1, k2, k3, k4, k5⟩ := phE_sound hp
              have hset : Sub F1 (F1.set x (.eff v)) := Sub.set hFx
              have htag' : ∀ i v' a ao p, (F1.set x (.eff v)).get i = some (.alloc v' a ao p) → p < ph + 1 := by
                intro i v' a ao p hi
                rw [T.get_set] at hi
                by_cases e : i = x
                · rw [if_pos e] at hi; simp at hi
                · rw [if_neg e] at hi
                  rcases k4 i _ hi with hh | ⟨_, hh⟩
                  · have := htag _ _ _ _ _ hh; omega
                  · have := (hh v' a ao p rfl).1; omega
              obtain ⟨j1, j2, j3, j4, j5⟩ := drE_sound hd htag'
              have hsub : Sub F1 F' := hset.trans j1
              -- where an allocation of the end was made
              have back : ∀ i v' a ao p, F'.get i = some (.alloc v' a ao p) → F1.get i = some (.alloc v' a ao p) ∨ (ph + 1 ≤ p ∧ h2.next ≤ a) := by
                intro i v' a ao p hi
                rcases j4 i _ _ _ _ hi with hh | hh
                · rw [T.get_set] at hh
                  by_cases e : i = x
                  · rw [if_pos e] at hh; simp at hh
                  · rw [if_neg e] at hh; exact .inl hh
                · exact .inr hh
              refine ⟨k1.trans hsub, ⟨fun i v' a ao p hi hp => ?_, h1, hs', v, h2, o, rfl, ⟨k2, k3, fun i v' a ao hi => ?_⟩, ho, j1 _ _ (by rw [T.get_set, if_pos rfl]), opF_mono hsub hv, hle, j2⟩, fun i r hi => ?_, fun i v' a ao p hi => ?_, ?_⟩
              · rcases back i _ _ _ _ hi with hh | hh
                · rcases k4 i _ hh with hh | ⟨_, hh⟩
                  · have := htag _ _ _ _ _ hh; omega
                  · exact (hh v' a ao p rfl).2.1
                · omega
              · rcases back i _ _ _ _ hi with hh | hh
                · rcases k4 i _ hh with hh | ⟨_, hh⟩
                  · exact absurd (htag _ _ _ _ _ hh) (Nat.lt_irrefl _)
                  · exact (hh v' a ao ph rfl).2
                · omega
              · rcases j3 i r hi with hh | hh | hh
                · rw [T.get_set] at hh
                  by_cases e : i = x
                  · rw [if_pos e] at hh; simp at hh; exact .inr (.inl ⟨v, hh.symm⟩)
                  · rw [if_neg e] at hh
                    rcases k4 i r hh with hh | ⟨hh, _⟩
                    · exact .inl hh
                    · exact .inr (.inr (hh.mono hsub))
                · exact .inr (.inl hh)
                · exact .inr (.inr hh)
              · rcases back i _ _ _ _ hi with hh | ⟨hh, hh2⟩
                · rcases k4 i _ hh with hh | ⟨_, hh⟩
                  · exact .inl hh
                  · obtain ⟨rfl, r2, _⟩ := hh v' a ao p rfl
                    exact .inr ⟨Nat.le_refl _, r2⟩
                · exact .inr ⟨by omega, by omega⟩
              · intro i j v1 a ao p v2 ao' p' hi0 hi hj0 hj
                have lo : ∀ i v' ao p, F0.get i = none → F1.get i = some (.alloc v' a ao p) → a < h1.next := by
                  intro i v' ao p h0 hh
                  rcases k4 i _ hh with hh | ⟨_, hh⟩
                  · rw [h0] at hh; simp at hh
                  · exact (hh v' a ao p rfl).2.2.1
                have none1 : ∀ i v' ao p, F'.get i = some (.alloc v' a ao p) → F1.get i = some (.alloc v' a ao p) ∨ (F1.set x (.eff v)).get i = none := by
                  intro i v' ao p hh
                  cases hg : (F1.set x (.eff v)).get i with
                  | none => exact .inr rfl
                  | some s =>
                    have := j1 _ _ hg
                    rw [hh] at this; simp at this; subst this
                    rw [T.get_set] at hg
                    by_cases e : i = x
                    · rw [if_pos e] at hg; simp at hg
                    · rw [if_neg e] at hg; exact .inl hg
                rcases back i _ _ _ _ hi with bi | ⟨_, bi⟩
                · rcases back j _ _ _ _ hj with bj | ⟨_, bj⟩
                  · exact k5 i j _ _ _ _ _ _ _ hi0 bi hj0 bj
                  · have := lo i _ _ _ hi0 bi; omega
                · rcases back j _ _ _ _ hj with bj | ⟨_, bj⟩
                  · have := lo j _ _ _ hj0 bj; omega
                  · have n1 : ∀ i v' ao p, F0.get i = none → F'.get i = some (.alloc v' a ao p) → (F1.set x (.eff v)).get i = none := by
                      intro i v' ao p h0 hh
                      rcases none1 i v' ao p hh with hh1 | hh1
                      · have := lo i _ _ _ h0 hh1; omega
                      · exact hh1
                    exact j5 i j _ _ _ _ _ _ _ (n1 i _ _ _ hi0 hi) hi (n1 j _ _ _ hj0 hj) hj
            · simp at e
          · simp at e
        · simp at e
      · simp at e
    · simp at e
end
end Go.Proofs.YtldmhpdjlgoenaaGreatDoor.Eo

namespace Go.Proofs.YtldmhpdjlgoenaaGreatDoor.Eo
noncomputable section

/-! ### Equality of values, for the kernel -/
/-! ### The whole region -/
/-- may operation i run when the first k effects have been? -/
def mayAt (m : OT Nat) (i : Nat) : List Nat → Nat → Bool
  | [], _ => true
  | e :: es, 0 => !bef m i e && mayAt m i es 0
  | e :: es, k + 1 => !bef m e i && mayAt m i es k
def readAt (P : Program) (tm : T AV) (h : H) (o : Oper) : Option AV := match cOp P o with
  | some (.r x) => evR tm h.t.get x
  | some (.l x) => evL tm h.t.get x
  | some (.s x) => evS tm h.t.get x
  | _ => none
def finalTm (F : T Rec) (l : List Oper) (i : Nat) (tm : T AV) : T AV :=
  List.rec (motive := fun _ => Nat → T AV → T AV) (fun _ tm => tm) (fun o _ ih i tm => Option.rec (ih (Nat.succ i) tm) (fun d => Option.rec (ih (Nat.succ i) tm) (fun r => ih (Nat.succ i) (tm.set d r.val)) (F.get i)) o.dst) l i tm
theorem finalTm_nil (F : T Rec) (i : Nat) (tm : T AV) : finalTm F [] i tm = tm := rfl
theorem finalTm_cons (F : T Rec) (o : Oper) (l : List Oper) (i : Nat) (tm : T AV) : finalTm F (o :: l) i tm = match o.dst, F.get i with
    | some d, some r => finalTm F l (i + 1) (tm.set d r.val)
    | _, _ => finalTm F l (i + 1) tm := by
  show (Option.rec (finalTm F l (i + 1) tm) (fun d => Option.rec (finalTm F l (i + 1) tm) (fun r => finalTm F l (i + 1) (tm.set d r.val)) (F.get i)) o.dst : T AV) = _
  cases o.dst with
  | none => rfl
  | some d => cases h : F.get i <;> simp
def lastH : List H → Option H
  | [] => none
  | [h] => some h
  | _ :: hs => lastH hs
/-- no deferred calls -/
def noDefer (ops : List Oper) : Bool := ops.all fun o => match o.op with
  | .defer _ => false
  | _ => true
end
end Go.Proofs.YtldmhpdjlgoenaaGreatDoor.Eo
