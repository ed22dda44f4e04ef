/-
  An evaluator of Go code over relative heaps, part Fa: a faster evaluation for the kernel, and that it says the same.
-/
import Derived.Test.YtjkahbgkfenfcaaGreatDoorEvT
import Derived.Test.YtjkahbgkfenfcaaGreatDoorEvY
set_option linter.unusedVariables false
set_option linter.unusedSimpArgs false
namespace Go.Proofs.YtjkahbgkfenfcaaGreatDoor.Ev
noncomputable section

abbrev Out := Option (T AV × H)
/-- an operation made ready: from temporaries and heap to what follows -/
inductive Step where
  | mk (f : CallE → T AV → H → (T AV → H → Out) → Out)
def Step.run : Step → CallE → T AV → H → (T AV → H → Out) → Out
  | .mk f => f

/-- pure operations -/
def stepP (P : Program) (d : Nat) : POp → Step
  | .mv (.t n) => .mk fun call tm h k => Option.rec none (fun v => k (tm.set d v) h) (tm.get n)
  | .mv (.c v) => .mk fun call tm h k => k (tm.set d v) h
  | .bin op t cx cy x y => .mk fun call tm h k => Option.rec none (fun v => k (tm.set d v) h) (evP_bin P tm op t cx cy x y)
  | .nilck x => .mk fun call tm h k => Option.rec none (fun v => k (tm.set d v) h) (evP_nilck tm x)
  | .fadr off x => .mk fun call tm h k => Option.rec none (fun v => k (tm.set d v) h) (evP_fadr tm off x)
  | .iadrS es x i => .mk fun call tm h k => Option.rec none (fun v => k (tm.set d v) h) (evP_iadrS tm es x i)
  | .iadrA len es x i => .mk fun call tm h k => Option.rec none (fun v => k (tm.set d v) h) (evP_iadrA tm len es x i)
  | .idxA len t es x i => .mk fun call tm h k => Option.rec none (fun v => k (tm.set d v) h) (evP_idxA P tm len t es x i)
  | .extr x i => .mk fun call tm h k => Option.rec none (fun v => k (tm.set d v) h) (evP_extr tm x i)
  | .lenv x => .mk fun call tm h k => Option.rec none (fun v => k (tm.set d v) h) (evP_lenv tm x)
  | .un op x => .mk fun call tm h k => Option.rec none (fun v => k (tm.set d v) h) (evP_un tm op x)
  | .conv t x => .mk fun call tm h k => Option.rec none (fun v => k (tm.set d v) h) (evP_conv tm t x)
  | .fld t off x => .mk fun call tm h k => Option.rec none (fun v => k (tm.set d v) h) (evP_fld P tm t off x)
  | .pick c a b => .mk fun call tm h k => Option.rec none (fun v => k (tm.set d v) h) (evP_pick tm c a b)
  | x => .mk fun call tm h k => Option.rec none (fun v => k (tm.set d v) h) (evP P tm x)
/-- what is put where -/
def putK (dst : Option Nat) (N : Nat) (k : T AV → H → Out) (tm : T AV) (v : AV) (h : H) : Out := match dst with
  | none => k tm h
  | some d => cond (Nat.ble (d + 1) N) (k (tm.set d v) h) none
def stepC (P : Program) (dst : Option Nat) (N : Nat) : COp → Step
  | .p x => match dst with
    | some d => match Nat.ble (d + 1) N with
      | true => stepP P d x
      | false => .mk fun _ _ _ _ => none
    | none => .mk fun call tm h k => Option.rec none (fun v => k tm h) (evP P tm x)
  | .r x => .mk fun call tm h k => Option.rec none (fun v => putK dst N k tm v h) (evR tm h.t.get x)
  | .l x => .mk fun call tm h k => Option.rec none (fun v => putK dst N k tm v h) (evL tm h.t.get x)
  | .s x => .mk fun call tm h k => Option.rec none (fun v => putK dst N k tm v h) (evS tm h.t.get x)
  | .e x => .mk fun call tm h k => Option.rec none (fun p => Prod.rec (fun v h' => putK dst N k tm v h') p) (evE tm h x)
  | c => .mk fun call tm h k => Option.rec none (fun p => Prod.rec (fun v h' => putK dst N k tm v h') p) (evOp P call tm h c)
def stepB (P : Program) (ops : List Oper) (N : Nat) (o : Oper) : Step := match o.guard with
  | none => match cOp P o with
    | some c => stepC P o.dst N c
    | none => .mk fun _ _ _ _ => none
  | some _ => .mk fun call tm h k => Option.rec none (fun p => Prod.rec (fun tm' h' => k tm' h') p) (stepE P call ops N tm h o)

def thenK (x : Out) (k : T AV → H → Out) : Out := match x with
  | some (tm, h) => k tm h
  | none => none
theorem stepP_run (P : Program) (d : Nat) (x : POp) (call : CallE) (tm : T AV) (h : H) (k : T AV → H → Out) :
    (stepP P d x).run call tm h k = match evP P tm x with
      | some v => k (tm.set d v) h
      | none => none := by
  cases x <;> first
    | (simp only [stepP, Step.run, evP]; split <;> rename_i e <;> simp [e]; done)
    | (rename_i y; cases y <;> simp only [stepP, Step.run, evP, evo] <;> (try split) <;> (try rename_i e) <;> (try simp [e]); done)
theorem putK_eq (dst : Option Nat) (N : Nat) (k : T AV → H → Out) (tm : T AV) (v : AV) (h : H) :
    putK dst N k tm v h = match putT N tm dst v with
      | some tm' => k tm' h
      | none => none := by
  cases dst with
  | none => rfl
  | some d =>
    simp only [putK, putT]
    cases Nat.ble (d + 1) N <;> rfl
theorem stepB_run (P : Program) (ops : List Oper) (N : Nat) (o : Oper) (call : CallE) (tm : T AV) (h : H) (k : T AV → H → Out) :
    (stepB P ops N o).run call tm h k = thenK (stepE P call ops N tm h o) k := by
  unfold stepB stepE
  cases hg : o.guard with
  | some g =>
    simp only [Step.run]
    have : ∀ x : Out, (Option.rec none (fun p => Prod.rec (fun tm' h' => k tm' h') p) x : Out) = thenK x k := by
      intro x; cases x with
      | none => rfl
      | some p => rfl
    rw [this]
  | none =>
    simp only [wantA, hg]
    cases hc : cOp P o with
    | none => simp only [Step.run]; rfl
    | some c =>
      simp only
      have fin : ∀ (x : Option (AV × H)), (Option.rec none (fun p => Prod.rec (fun v h' => putK o.dst N k tm v h') p) x : Out) = thenK (match x with
          | some (v, h') => match putT N tm o.dst v with
            | some tm' => some (tm', h')
            | none => none
          | none => none) k := by
        intro x
        cases x with
        | none => rfl
        | some p =>
          obtain ⟨v, h'⟩ := p
          simp only [putK_eq]
          cases putT N tm o.dst v <;> rfl
      have fin1 : ∀ (x : Option AV), (Option.rec none (fun v => putK o.dst N k tm v h) x : Out) = thenK (match (match x with
            | some v => some (v, h)
            | none => none : Option (AV × H)) with
          | some (v, h') => match putT N tm o.dst v with
            | some tm' => some (tm', h')
            | none => none
          | none => none) k := by
        intro x
        cases x with
        | none => rfl
        | some v =>
          simp only [putK_eq]
          cases putT N tm o.dst v <;> rfl
      cases c with
      | p x =>
        simp only [stepC, evOp]
        refine Eq.trans ?_ (fin1 (evP P tm x))
        cases hd : o.dst with
        | none => simp only [Step.run, putK]
        | some d =>
          simp only [putK]
          cases hb : Nat.ble (d + 1) N with
          | true =>
            simp only [stepP_run, cond_true]
            cases evP P tm x <;> rfl
          | false =>
            simp only [Step.run, cond_false]
            cases evP P tm x <;> rfl
      | r x => simp only [stepC, Step.run, evOp]; exact fin1 _
      | l x => simp only [stepC, Step.run, evOp]; exact fin1 _
      | s x => simp only [stepC, Step.run, evOp]; exact fin1 _
      | e x => simp only [stepC, Step.run, evOp]; exact fin _
      | n x => simp only [stepC, Step.run]; exact fin _
      | m x => simp only [stepC, Step.run]; exact fin _
      | i x => simp only [stepC, Step.run]; exact fin _
      | w x => simp only [stepC, Step.run]; exact fin _
      | cv f as => simp only [stepC, Step.run]; exact fin _
      | ci r name as => simp only [stepC, Step.run]; exact fin _

def seqF (P : Program) (call : CallE) (ops : List Oper) (N : Nat) (l : List Oper) : T AV → H → Out :=
  List.rec (fun tm h => some (tm, h)) (fun o _ ih tm h => Step.rec (fun f => f call tm h ih) (stepB P ops N o)) l
theorem seqF_eq (P : Program) (call : CallE) (ops : List Oper) (N : Nat) : ∀ (l : List Oper), seqF P call ops N l = seqE P call ops N l
  | [] => rfl
  | o :: l => by
    funext tm h
    have ih := seqF_eq P call ops N l
    have hs : ∀ s : Step, (Step.rec (fun f => f call tm h (seqF P call ops N l)) s : Out) = s.run call tm h (seqF P call ops N l) := fun s => by cases s; rfl
    change (Step.rec (fun f => f call tm h (seqF P call ops N l)) (stepB P ops N o) : Out) = _
    rw [hs, stepB_run, ih]
    simp only [seqE, thenK]
    cases stepE P call ops N tm h o <;> rfl

/-! ### Code -/
abbrev SeqT := CallE → List Oper → Nat → List Oper → T AV → H → Out
def codeG (P : Program) (sq : SeqT) (draw : DrawE) (call : CallE) (N fuel : Nat) (goE : Code → CodeE) (c : Code) : CodeE :=
  Code.rec (motive := fun _ => CodeE)
    (fun tm h => some (.normal, tm, h))
    (fun id ops d tm h => match d with
      | false => match sq call ops.toList N ops.toList tm h with
        | some (tm', h') => some (.normal, tm', h')
        | none => none
      | true => match draw call ops.toList N tm h with
        | some (tm', h') => some (.normal, tm', h')
        | none => none)
    (fun a b iha ihb tm h => match iha tm h with
      | some (.normal, tm', h') => ihb tm' h'
      | r => r)
    (fun c x y ihx ihy tm h => match cOpd c with
      | some c => match evo tm c with
        | some (.bool true) => ihx tm h
        | some (.bool false) => ihy tm h
        | _ => none
      | none => none)
    (fun id body ih tm h => match ih tm h with
      | some (.exit j, tm', h') => cond (Nat.beq j id) (some (.normal, tm', h')) (some (.exit j, tm', h'))
      | r => r)
    (fun body ih tm h => loopE ih fuel tm h)
    (fun f ps x y ihx ihy tm h => match cOpd f with
      | some f => match evo tm f with
        | some fv => rangeE P call N ps.toList x y fv tm h
        | none => none
      | none => none)
    (fun id tm h => some (.exit id, tm, h))
    (fun body ih tm h => match ih tm h with
      | some (.goto l, tm', h') => match findLabel body l with
        | some rest => match goE rest tm' h' with
          | some (.goto _, _, _) => none
          | r => r
        | none => none
      | r => r)
    (fun l tm h => some (.normal, tm, h))
    (fun l tm h => some (.goto l, tm, h))
    (fun tm h => some (.ret, tm, h))
    (fun why tm h => none)
    c
theorem codeG_seqE (P : Program) (draw : DrawE) (call : CallE) (N fuel : Nat) (goE : Code → CodeE) (c : Code) : codeG P (seqE P) draw call N fuel goE c = codeE P draw call N fuel goE c := rfl
def bodyN (P : Program) (sq : SeqT) (draw : DrawE) (call : CallE) (fuel N : Nat) (fn : Func) (c : Code) (args : List AV) (h : H) : Option (AV × H) :=
  match codeG P sq draw call N fuel (codeG P sq draw call N fuel fun _ _ _ => none) c (putList 0 args .e) h with
  | some (ex, tm, h') => match ex with
    | .exit _ => none
    | .goto _ => none
    | _ => match resA P tm h'.t.get fn.results.toList with
      | some vs => some (packA vs, h')
      | none => none
  | none => none
def bodyG (P : Program) (sq : SeqT) (draw : DrawE) (call : CallE) (fuel : Nat) (fn : Func) (c : Code) (args : List AV) (h : H) : Option (AV × H) :=
  match Nat.ble args.length fn.ntmps with
  | true => bodyN P sq draw call fuel fn.ntmps fn c args h
  | false => bodyN P sq draw call fuel (Nat.add args.length (Nat.sub fn.ntmps args.length)) fn c args h
theorem bodyG_seqE (P : Program) (draw : DrawE) (call : CallE) (fuel : Nat) (fn : Func) (c : Code) (args : List AV) (h : H) : bodyG P (seqE P) draw call fuel fn c args h = bodyE P draw call fuel fn c args h := by
  unfold bodyG
  have key : bodyN P (seqE P) draw call fuel (Nat.add args.length (Nat.sub fn.ntmps args.length)) fn c args h = bodyE P draw call fuel fn c args h := rfl
  cases hb : Nat.ble args.length fn.ntmps with
  | true =>
    have := Nat.le_of_ble_eq_true hb
    have e : Nat.add args.length (Nat.sub fn.ntmps args.length) = fn.ntmps := by
      show args.length + (fn.ntmps - args.length) = fn.ntmps
      omega
    rw [e] at key
    exact key
  | false => exact key
/-- a list as a trie -/
def toT {α : Type} (l : List α) : Nat → T α → T α := List.rec (fun _ t => t) (fun x _ ih i t => ih (Nat.succ i) (t.set i x)) l
theorem toT_get {α : Type} : ∀ (l : List α) (i : Nat) (t : T α) (j : Nat), (toT l i t).get j = if i ≤ j ∧ j < i + l.length then l[j - i]? else t.get j
  | [], i, t, j => by
    show t.get j = _
    rw [if_neg (by simp)]
  | x :: l, i, t, j => by
    show (toT l (i + 1) (t.set i x)).get j = _
    rw [toT_get l (i + 1) (t.set i x) j, T.get_set]
    by_cases h1 : i + 1 ≤ j ∧ j < i + 1 + l.length
    · rw [if_pos h1, if_pos (by simp; omega)]
      have : j - i = (j - (i + 1)) + 1 := by omega
      rw [this]; simp
    · rw [if_neg h1]
      by_cases h2 : j = i
      · subst h2
        rw [if_pos rfl, if_pos (by simp)]
        simp
      · rw [if_neg h2, if_neg (by simp; omega)]
def funT (P : Program) : T Func := toT P.funcs.toList 0 .e
theorem funT_get (P : Program) (f : Nat) : (funT P).get f = P.funcs[f]? := by
  unfold funT
  rw [toT_get]
  by_cases h : f < P.funcs.size
  · rw [if_pos (by simp; exact h)]; simp
  · rw [if_neg (by simp; omega), T.get_e]
    simp; omega
def callG (P : Program) (sq : SeqT) (draw : DrawE) (X : FuncId → Option ATag) (S : FuncId → H → Option Bool) (fuel : Nat) (n : Nat) : CallE :=
  Nat.rec (motive := fun _ => CallE) (fun _ _ _ => none) (fun _ ih f args h => match Nat.ble ykey f with
    | true => yieldE P draw ih (Nat.sub f ykey) args h
    | false => match S f h with
      | some b => match args with
        | [] => some (.bool b, h)
        | _ => none
      | none => match (funT P).get f with
        | some fn => match fn.body with
          | some c => match bodyG P sq draw ih fuel fn c args h with
            | none => forkE P draw ih fuel fn c args h
            | r => r
          | none => match X f with
            | some tag => evA h tag args
            | none => none
        | none => none) n
/-- no function is the one that counts the goroutines -/
def noNG (P : Program) : Bool := P.funcs.toList.all fun fn => !(fn.name == "runtime.NumGoroutine")
theorem noNG_at {P : Program} (h : noNG P = true) {f : Nat} {fn : Func} (hf : P.funcs[f]? = some fn) : (fn.name == "runtime.NumGoroutine") = false := by
  have := List.all_eq_true.1 h fn (by simpa using Array.mem_of_getElem? hf)
  simpa using this
theorem callG_seqE {P : Program} (hNG : noNG P = true) (draw : DrawE) (X : FuncId → Option ATag) (S : FuncId → H → Option Bool) (fuel : Nat) (n : Nat) : callG P (seqE P) draw X S fuel n = callE P draw X S fuel n := by
  induction n with
  | zero => rfl
  | succ n ih =>
    funext f args h
    show (match Nat.ble ykey f with
      | true => yieldE P draw (callG P (seqE P) draw X S fuel n) (Nat.sub f ykey) args h
      | false => match S f h with
        | some b => match args with
          | [] => some (AV.bool b, h)
          | _ => none
        | none => match (funT P).get f with
          | some fn => match fn.body with
            | some c => match bodyG P (seqE P) draw (callG P (seqE P) draw X S fuel n) fuel fn c args h with
              | none => forkE P draw (callG P (seqE P) draw X S fuel n) fuel fn c args h
              | r => r
            | none => match X f with
              | some tag => evA h tag args
              | none => none
          | none => none) = (match Nat.ble ykey f with
      | true => yieldE P draw (callE P draw X S fuel n) (Nat.sub f ykey) args h
      | false => match S f h with
        | some b => match args with
          | [] => some (AV.bool b, h)
          | _ => none
        | none => match P.funcs[f]? with
          | some fn => match fn.name == "runtime.NumGoroutine" with
            | true => none
            | false => match fn.body with
              | some c => match bodyE P draw (callE P draw X S fuel n) fuel fn c args h with
                | none => forkE P draw (callE P draw X S fuel n) fuel fn c args h
                | r => r
              | none => match X f with
                | some tag => evA h tag args
                | none => none
          | none => none)
    simp only [bodyG_seqE, ih, funT_get]
    cases hf : P.funcs[f]? with
    | none => rfl
    | some fn => simp only [noNG_at hNG hf]

def saysF (P : Program) (draw : DrawE) (X : FuncId → Option ATag) (S : FuncId → H → Option Bool) (fuel n : Nat) (f : FuncId) (h0 : H) : Option Bool :=
  match callG P (seqF P) draw X S fuel n f [] h0 with
  | some (.bool x, _) => some x
  | _ => none
theorem saysF_eq {P : Program} (hNG : noNG P = true) (draw : DrawE) (X : FuncId → Option ATag) (S : FuncId → H → Option Bool) (fuel n : Nat) (f : FuncId) (h0 : H) : saysF P draw X S fuel n f h0 = saysE P draw X S fuel n f h0 := by
  have : seqF P = seqE P := by
    funext call ops N l
    exact seqF_eq P call ops N l
  unfold saysF saysE
  rw [this, callG_seqE hNG]
  cases callE P draw X S fuel n f [] h0 with
  | none => rfl
  | some p => obtain ⟨v, h⟩ := p; cases v <;> rfl
end
end Go.Proofs.YtjkahbgkfenfcaaGreatDoor.Ev
