/-
  An evaluator of Go code over relative heaps, part Q: all operations, and regions in their written order.
  An evaluator of Go code over relative heaps, part S: code, and calls.
-/
import Derived.Test.YtldmhpdjlgoenaaGreatDoorEoW
import Derived.RangeFuncLeaves
import Derived.RangeFuncRecord
import Derived.LoopN
import Derived.ScopeJumps
set_option linter.unusedVariables false
set_option linter.unusedSimpArgs false
namespace Go.Proofs.YtldmhpdjlgoenaaGreatDoor.Eo
noncomputable section

/-- what an operation comes to: a value, or a call that returns one -/
def POut (P : Program) (s : Sem Next) (ρ : Rho) (h : H) (w : World) (v : AV) (h' : H) : Prop :=
  EOut P s ρ h w v h' ∨ ∃ f args, s.run P w = .ok (.enter f args) w ∧ Calls P f args w fun e w' => ∃ ρ' V, e = .returned V ∧ VR ρ' v V ∧ Way ρ h w ρ' h' w'
/-- .. or a round of a loop over a function -/
def ROut (P : Program) (s : Sem Next) (ρ : Rho) (h : H) (w : World) (v : AV) (h' : H) : Prop :=
  ∃ l fn tmps assign body, s.run P w = .ok (.round l fn tmps assign body) w ∧ RoundIn Fence.wide 0 P l fn tmps assign body w fun e w' => ∃ ρ' V, e = .returned V ∧ VR ρ' v V ∧ Way ρ h w ρ' h' w'
def XOut (y : Bool) (P : Program) (s : Sem Next) (ρ : Rho) (h : H) (w : World) (v : AV) (h' : H) : Prop :=
  POut P s ρ h w v h' ∨ y = true ∧ ROut P s ρ h w v h'
theorem POut.congr {P : Program} {s s' : Sem Next} {ρ : Rho} {h : H} {w : World} {v : AV} {h' : H} (e : s'.run P w = s.run P w) (x : POut P s ρ h w v h') : POut P s' ρ h w v h' := by
  unfold POut EOut at *
  rw [e]; exact x
theorem ROut.congr {P : Program} {s s' : Sem Next} {ρ : Rho} {h : H} {w : World} {v : AV} {h' : H} (e : s'.run P w = s.run P w) (x : ROut P s ρ h w v h') : ROut P s' ρ h w v h' := by
  unfold ROut at *
  rw [e]; exact x
theorem XOut.congr {y : Bool} {P : Program} {s s' : Sem Next} {ρ : Rho} {h : H} {w : World} {v : AV} {h' : H} (e : s'.run P w = s.run P w) (x : XOut y P s ρ h w v h') : XOut y P s' ρ h w v h' := by
  rcases x with x | ⟨hy, x⟩
  · exact .inl (x.congr e)
  · exact .inr ⟨hy, x.congr e⟩
theorem XOut.e {y : Bool} {P : Program} {s : Sem Next} {ρ : Rho} {h : H} {w : World} {v : AV} {h' : H} (x : EOut P s ρ h w v h') : XOut y P s ρ h w v h' := .inl (.inl x)

/-- the numbers from here on are those of calls of yield -/
def ykey : Nat := 1099511627776
abbrev CallE := FuncId → List AV → H → Option (AV × H)
/-- y: calls of yield may be among them -/
def CallOK (y : Bool) (P : Program) (call : CallE) : Prop :=
  ∀ f args h v h', call f args h = some (v, h') → ∀ ρ w ARGS, VRs ρ args ARGS → HR ρ h.t.get w → Fresh ρ h.next →
    (Nat.ble ykey f = false ∧ POut P (callFunc f ARGS.toArray) ρ h w v h') ∨
    (y = true ∧ Nat.ble ykey f = true ∧ ∀ l, ρ (Nat.sub f ykey) = some l → ROut P (Instr.yield l.blk ARGS.toArray) ρ h w v h')
/-- calls, but none of yield -/
def plainCall (call : CallE) : CallE := fun f args h => match Nat.ble ykey f with
  | true => none
  | false => call f args h
theorem plainCall_ok {y : Bool} {P : Program} {call : CallE} (hcall : CallOK y P call) : CallOK false P (plainCall call) := by
  intro f args h v h' he ρ w ARGS ha hr hf
  unfold plainCall at he
  cases hb : Nat.ble ykey f with
  | true => rw [hb] at he; simp at he
  | false =>
    rw [hb] at he
    rcases hcall f args h v h' he ρ w ARGS ha hr hf with ⟨_, k⟩ | ⟨_, k, _⟩
    · exact .inl ⟨rfl, k⟩
    · rw [hb] at k; simp at k

/-- an operation, made ready -/
inductive COp where
  | p (x : POp)
  | r (x : ROp)
  | l (x : LOp)
  | n (x : NOp)
  | e (x : EOp)
  | m (x : MOp)
  | s (x : SOp)
  | w (x : WOp)
  | cv (f : Opd) (args : List Opd)
  | ci (r : Opd) (name : String) (args : List Opd)
def cCall (o : Oper) : Option COp := match o.op with
  | .call { callee := .value f, args, argTypes } => match cOpd f, cOpds args.toList with
    | some f, some as => some (.cv f as)
    | _, _ => none
  | .call { callee := .invoke r name, args, argTypes } => match cOpd r, cOpds args.toList with
    | some r, some as => some (.ci r name as)
    | _, _ => none
  | _ => none
def cOp (P : Program) (o : Oper) : Option COp :=
  match cCall o with
  | some c => some c
  | none => match cS P o with
   | some x => some (.s x)
   | none => match cP P o with
    | some x => some (.p x)
    | none => match cR P o with
      | some x => some (.r x)
      | none => match cE P o with
        | some x => some (.e x)
        | none => match cN P o with
          | some x => some (.n x)
          | none => match cL P o with
            | some x => some (.l x)
            | none => match cM P o with
              | some x => some (.m x)
              | none => match cW P o with
                | some x => some (.w x)
                | none => none
def evCall (P : Program) (call : CallE) (h : H) (fn : AV) (as : List AV) : Option (AV × H) := match fn with
  | .fn fn first captured => match tgtA P h.t.get fn (first ++ as) captured with
    | some (f, as) => cond (Nat.ble ykey f) none (call f as h)
    | none => none
  | .yld a => call (Nat.add ykey a) as h
  | _ => none
def evOp (P : Program) (call : CallE) (tm : T AV) (h : H) : COp → Option (AV × H)
  | .p x => match evP P tm x with
    | some v => some (v, h)
    | none => none
  | .r x => match evR tm h.t.get x with
    | some v => some (v, h)
    | none => none
  | .l x => match evL tm h.t.get x with
    | some v => some (v, h)
    | none => none
  | .n x => match evN tm x with
    | some (o, f) => some (f h.next, ⟨h.next + 1, h.t.set h.next o⟩)
    | none => none
  | .e x => evE tm h x
  | .m x => evM tm h x
  | .w x => evW tm h x
  | .s x => match evS tm h.t.get x with
    | some v => some (v, h)
    | none => none
  | .cv f as => match evo tm f, evos tm as with
    | some f, some as => evCall P call h f as
    | _, _ => none
  | .ci r name as => match evo tm r, evos tm as with
    | some r, some as => evCall P call h (.fn (.method name) [r] []) as
    | _, _ => none

theorem evCall_sound {y : Bool} {P : Program} {call : CallE} (hcall : CallOK y P call) {h h' : H} {fn v : AV} {as : List AV} (he : evCall P call h fn as = some (v, h')) {ρ : Rho} {w : World} (hr : HR ρ h.t.get w) (hf : Fresh ρ h.next)
    {F : Value} {AS : List Value} (hF : VR ρ fn F) (hA : VRs ρ as AS) : XOut y P (do let d ← Deferred.ofValue F AS.toArray; invoke d.target d.args) ρ h w v h' := by
  unfold evCall at he
  split at he
  · rename_i f first captured
    split at he
    · rename_i g as' ht
      simp only [VR] at hF
      obtain ⟨FI, CA, h1, h2, rfl⟩ := hF
      obtain ⟨AS', k1, k2⟩ := tgtA_sound (P := P) hr ht (VRs.append h1 hA) h2
      cases hb : Nat.ble ykey g with
      | true => rw [hb] at he; simp at he
      | false =>
        rw [hb] at he
        rcases hcall _ _ _ _ _ he ρ w AS' k1 hr hf with ⟨_, k⟩ | ⟨_, k, _⟩
        · refine .inl (k.congr ?_)
          rw [← k2]
          simp [Deferred.ofValue]
        · rw [hb] at k; simp at k
    · simp at he
  · rename_i a
    simp only [VR] at hF
    obtain ⟨l, h1, rfl⟩ := hF
    rcases hcall _ _ _ _ _ he ρ w AS hA hr hf with ⟨k, _⟩ | ⟨hy, _, k2⟩
    · have : Nat.ble ykey (Nat.add ykey a) = true := Nat.ble_eq_true_of_le (Nat.le_add_right _ _)
      rw [this] at k; simp at k
    · have e : Nat.sub (Nat.add ykey a) ykey = a := Nat.add_sub_cancel_left ykey a
      refine .inr ⟨hy, (k2 l (by rw [e]; exact h1)).congr ?_⟩
      simp [Deferred.ofValue, invoke]
  · simp at he

theorem evOp_sound {y : Bool} {P : Program} {call : CallE} (hcall : CallOK y P call) {o : Oper} {c : COp} (hc : cOp P o = some c) {tm : T AV} {h h' : H} {v : AV} (he : evOp P call tm h c = some (v, h')) {ρ : Rho} {a : Act} {w : World} (ht : TR ρ tm a.tmps) (hr : HR ρ h.t.get w) (hf : Fresh ρ h.next) :
    XOut y P (execOp a.eval o) ρ h w v h' := by
  unfold cOp at hc
  split at hc
  · rename_i c' hcc
    simp at hc; subst hc
    obtain ⟨dst, op, type, pos, after, guard⟩ := o
    unfold cCall at hcc
    simp only [] at hcc
    split at hcc
    · rename_i f args ats
      split at hcc
      · rename_i f' as' hf' has
        simp at hcc; subst hcc
        simp only [evOp] at he
        split at he
        · rename_i fv av hfv hav
          refine XOut.congr ?_ (evCall_sound hcall he hr hf (evo_sound ht hf' hfv) (evos_sound ht has hav))
          have e : args.map a.eval = (args.toList.map a.eval).toArray := by simp [← Array.toList_map]
          simp [execOp, resolve, e]
        · simp at he
      · simp at hcc
    · rename_i r name args ats
      split at hcc
      · rename_i r' as' hr' has
        simp at hcc; subst hcc
        simp only [evOp] at he
        split at he
        · rename_i rv av hrv hav
          refine XOut.congr ?_ (evCall_sound hcall he hr hf (F := .func (.method name) #[a.eval r] #[]) ⟨[a.eval r], [], ⟨a.eval r, [], evo_sound ht hr' hrv, rfl, rfl⟩, rfl, rfl⟩ (evos_sound ht has hav))
          have e : args.map a.eval = (args.toList.map a.eval).toArray := by simp [← Array.toList_map]
          simp [execOp, resolve, Deferred.ofValue, e]
        · simp at he
      · simp at hcc
    · simp at hcc
  · split at hc
    · rename_i x hx
      simp at hc; subst hc
      simp only [evOp] at he
      split at he
      · rename_i u hu
        simp at he; obtain ⟨rfl, rfl⟩ := he
        obtain ⟨V, k1, k2⟩ := evS_sound hx hu ht hr
        exact .e ⟨ρ, w, V, .inl k2, k1, Way.refl hr hf⟩
      · simp at he
    · split at hc
      · rename_i x hx
        simp at hc; subst hc
        simp only [evOp] at he
        split at he
        · rename_i u hu
          simp at he; obtain ⟨rfl, rfl⟩ := he
          obtain ⟨V, k1, k2⟩ := evP_sound hx hu ht
          exact .e ⟨ρ, w, V, .inl (k2 w), k1, Way.refl hr hf⟩
        · simp at he
      · split at hc
        · rename_i x hx
          simp at hc; subst hc
          simp only [evOp] at he
          split at he
          · rename_i u hu
            simp at he; obtain ⟨rfl, rfl⟩ := he
            obtain ⟨V, k1, k2⟩ := evR_sound hx hu ht hr
            exact .e ⟨ρ, w, V, .inl k2, k1, Way.refl hr hf⟩
          · simp at he
        · split at hc
          · rename_i x hx
            simp at hc; subst hc
            exact .e (evE_sound hx he ht hr hf)
          · split at hc
            · rename_i x hx
              simp at hc; subst hc
              simp only [evOp] at he
              split at he
              · rename_i ao fv hu
                simp at he; obtain ⟨rfl, rfl⟩ := he
                obtain ⟨hl, obj, room, k1, k2⟩ := evN_sound hx hu ht
                obtain ⟨V, j1, j2⟩ := k1 w
                refine .e ⟨upd ρ h.next ⟨w.heap.size, 0, room⟩, w.alloc obj, V, .inl j1, j2 _ _ (upd_same (hf _ (Nat.le_refl _))), way_new hf (nx_new hr (hf _ (Nat.le_refl _)) rfl (fun b => T.get_set _ _ _ _) ?_)⟩
                exact k2 _ _ _ (upd_le hf (Nat.le_refl _)) (by show (w.heap.push _)[w.heap.size]? = _; simp)
              · simp at he
            · split at hc
              · rename_i x hx
                simp at hc; subst hc
                simp only [evOp] at he
                split at he
                · rename_i u hu
                  simp at he; obtain ⟨rfl, rfl⟩ := he
                  obtain ⟨V, k1, k2⟩ := evL_sound hx hu ht hr
                  exact .e ⟨ρ, w, V, .inl k2, k1, Way.refl hr hf⟩
                · simp at he
              · split at hc
                · rename_i x hx
                  simp at hc; subst hc
                  exact .e (evM_sound hx he ht hr hf)
                · split at hc
                  · rename_i x hx
                    simp at hc; subst hc
                    exact .e (evW_sound hx he ht hr hf)
                  · simp at hc

theorem XOut.wp {P : Program} {o : Oper} {a : Act} {ρ : Rho} {h h' : H} {w : World} {v : AV} {K : Act → World → Prop} {Q : Exit → Act → World → Prop} (hx : XOut false P (execOp a.eval o) ρ h w v h')
    (hK : ∀ ρ' w' V, VR ρ' v V → Way ρ h w ρ' h' w' → K (a.put o.dst V) w') : o.wp P a w K Q := by
  unfold Oper.wp
  rcases hx with (⟨ρ', w', V, he | ⟨he, rfl⟩, hv, hw⟩ | ⟨f, args, he, hcalls⟩) | ⟨hy, _⟩
  · rw [he]; exact hK _ _ _ hv hw
  · rw [he]; exact hK _ _ _ hv hw
  · rw [he]
    exact Calls.mono hcalls fun e w'' hh => by
      obtain ⟨ρ', V, rfl, hv, hw⟩ := hh
      exact hK _ _ _ hv hw
  · simp at hy
/-- every machine, in a round or in none -/
def Fnc (r : Option Nat) : Fence := { Fence.wide with round := r }
theorem Fnc_none : Fnc none = Fence.wide := rfl
theorem callsIn_Fnc {r : Option Nat} {n : Nat} {P : Program} {f : FuncId} {args : Array Value} {w : World} {R : Ending → World → Prop} (h : Calls P f args w R) : CallsIn (Fnc r) n P f args w R := callsIn_wide (n := n).2 h
theorem XOut.wpIn {y : Bool} {r : Option Nat} {P : Program} {o : Oper} {a : Act} {ρ : Rho} {h h' : H} {w : World} {v : AV} {K : Act → World → Prop} {Q : Exit → Act → World → Prop} (hx : XOut y P (execOp a.eval o) ρ h w v h') (hd : ∀ c, o.op ≠ .defer c)
    (hK : ∀ ρ' w' V, VR ρ' v V → Way ρ h w ρ' h' w' → K (a.put o.dst V) w') : o.wpIn (Fnc r) 0 P a w K Q := by
  refine ⟨fun _ _ => trivial, ?_⟩
  rw [Oper.semAt_eq _ _ _ hd]
  rcases hx with (⟨ρ', w', V, he | ⟨he, rfl⟩, hv, hw⟩ | ⟨f, args, he, hcalls⟩) | ⟨_, l, fn, tmps, assign, body, he, hround⟩
  · rw [he]; exact hK _ _ _ hv hw
  · rw [he]; exact hK _ _ _ hv hw
  · rw [he]
    refine ⟨fun hh => by simp [Fnc, Fence.wide] at hh, callsIn_Fnc (Calls.mono hcalls fun e w'' hh => ?_)⟩
    obtain ⟨ρ', V, rfl, hv, hw⟩ := hh
    exact hK _ _ _ hv hw
  · rw [he]
    refine ⟨fun hh => by simp [Fnc, Fence.wide] at hh, RoundIn.mono (F := Fnc r) hround fun e w'' hh => ?_⟩
    obtain ⟨ρ', V, rfl, hv, hw⟩ := hh
    exact hK _ _ _ hv hw
theorem cOp_defer {P : Program} {o : Oper} {c : COp} (h : cOp P o = some c) : ∀ d, o.op ≠ .defer d := by
  intro d hd
  obtain ⟨dst, op, type, pos, after, guard⟩ := o
  simp only at hd; subst hd
  simp [cOp, cCall, cS, cP, cPo, cR, cE, cN, cL, cM, cW] at h

/-! ### Regions in their written order -/
/-- the slot of a guard -/
def gslot : List Oper → Nat → Option Nat
  | [], _ => none
  | o :: _, 0 => o.dst
  | _ :: l, n + 1 => gslot l n
def wantA (ops : List Oper) (tm : T AV) (o : Oper) : Option Bool := match o.guard with
  | none => some true
  | some (j, want) => match gslot ops j with
    | some t => match tm.get t with
      | some (.bool b) => some (match b, want with | true, true => true | false, false => true | _, _ => false)
      | some (.tup _) => some false
      | _ => none
    | none => none
def putT (N : Nat) (tm : T AV) (dst : Option Nat) (v : AV) : Option (T AV) := match dst with
  | none => some tm
  | some d => cond (Nat.ble (d + 1) N) (some (tm.set d v)) none
def stepE (P : Program) (call : CallE) (ops : List Oper) (N : Nat) (tm : T AV) (h : H) (o : Oper) : Option (T AV × H) :=
  match wantA ops tm o with
  | some true => match cOp P o with
    | some c => match evOp P call tm h c with
      | some (v, h') => match putT N tm o.dst v with
        | some tm' => some (tm', h')
        | none => none
      | none => none
    | none => none
  | some false => match putT N tm o.dst (.tup []) with
    | some tm' => some (tm', h)
    | none => none
  | none => none
def seqE (P : Program) (call : CallE) (ops : List Oper) (N : Nat) : List Oper → T AV → H → Option (T AV × H)
  | [], tm, h => some (tm, h)
  | o :: l, tm, h => match stepE P call ops N tm h o with
    | some (tm', h') => seqE P call ops N l tm' h'
    | none => none

theorem gslot_eq : ∀ (l : List Oper) (j : Nat), gslot l j = (l[j]?).bind (·.dst)
  | [], j => by simp [gslot]
  | o :: l, 0 => by simp [gslot]
  | o :: l, j + 1 => by simp [gslot, gslot_eq l j]
theorem wantA_sound {ops : Array Oper} {tm : T AV} {o : Oper} {b : Bool} (h : wantA ops.toList tm o = some b) {ρ : Rho} {tmps : Array Value} (ht : TR ρ tm tmps) : Region.wanted o (yielded ops tmps) = b := by
  unfold wantA at h
  unfold Region.wanted
  split at h
  · rename_i hg; rw [hg]; simpa using h
  · rename_i j want hg
    rw [hg]
    simp only []
    split at h
    · rename_i t hs
      rw [gslot_eq] at hs
      have hs' : (ops[j]?).bind (·.dst) = some t := by simpa using hs
      have hy : ∀ V, t < tmps.size → tmps.getD t undef = V → tmps[t]? = some V := fun V h1 h2 => by
        rw [← h2]; simp [h1]
      split at h
      · rename_i c hc
        obtain ⟨k1, k2⟩ := ht _ _ hc
        simp only [VR] at k2
        simp only [yielded, hs', Option.bind_some, hy _ k1 k2]
        simp at h; subst h
        cases c <;> cases want <;> rfl
      · rename_i l hc
        obtain ⟨k1, k2⟩ := ht _ _ hc
        simp only [VR] at k2
        obtain ⟨L, _, k3⟩ := k2
        simp only [yielded, hs', Option.bind_some, hy _ k1 k3]
        simp at h; subst h
        rfl
      · simp at h
    · simp at h
theorem putT_sound {N : Nat} {tm tm' : T AV} {dst : Option Nat} {v : AV} {V : Value} (h : putT N tm dst v = some tm') {ρ : Rho} {a : Act} (hN : a.tmps.size = N) (ht : TR ρ tm a.tmps) (hv : VR ρ v V) :
    TR ρ tm' (a.put dst V).tmps ∧ (a.put dst V).tmps.size = N ∧ (a.put dst V).defers = a.defers := by
  unfold putT at h
  split at h
  · simp at h; subst h; exact ⟨ht, hN, rfl⟩
  · rename_i d
    cases hb : Nat.ble (d + 1) N
    · rw [hb] at h; simp at h
    · rw [hb] at h; simp at h; subst h
      have := Nat.le_of_ble_eq_true hb
      exact ⟨TR.set ht (by omega) hv, by simp [Act.put, hN], rfl⟩

/-- the deferred calls of an activation: marks of loops over functions, whose blocks are empty -/
def Clean (B : Nat) (w : World) : List Deferred → Prop
  | [] => True
  | d :: ds => (∃ D, d = { target := .collected D, args := #[] } ∧ B ≤ D ∧ w.heap[D]? = some (.deferred (some [])) ∧ ∀ e ∈ ds, e ≠ d) ∧ Clean B w ds
theorem HR.not_def {ρ : Rho} {g : Nat → Option AO} {w : World} (hr : HR ρ g w) {D : Nat} {x : Option (List Deferred)} (hD : w.heap[D]? = some (.deferred x)) : ∀ a o l, g a = some o → o.live = true → ρ a = some l → l.blk ≠ D := by
  intro a o l h1 h2 h3 e
  obtain ⟨_, k⟩ := hr.obj a o l h1 h2 h3
  rw [← e] at hD
  cases o with
  | row cells len t => obtain ⟨_, c, k1, _⟩ := k; rw [hD] at k1; simp at k1
  | map es clock => obtain ⟨ES, _, k1⟩ := k; rw [hD] at k1; simp at k1
  | iter m since seen last => obtain ⟨_, M, k1, _⟩ := k; rw [hD] at k1; simp at k1
  | loop st pend tm N ps assign body => obtain ⟨tmps, fn, D', _, _, k1⟩ := k; rw [hD] at k1; simp at k1
  | tab cells => obtain ⟨c, t, f, k1, _⟩ := k; rw [hD] at k1; simp at k1
  | dead => simp [AO.live] at h2
theorem Clean.nx {B : Nat} {ρ ρ' : Rho} {g g' : Nat → Option AO} {w w' : World} (hr : HR ρ g w) (hn : Nx ρ g w ρ' g' w') : ∀ {ds : List Deferred}, Clean B w ds → Clean B w' ds
  | [], _ => trivial
  | d :: ds, h => by
    obtain ⟨⟨D, h1, h2, h3, h4⟩, h5⟩ := h
    refine ⟨⟨D, h1, h2, ?_, h4⟩, Clean.nx hr hn h5⟩
    rw [hn.frame D (Array.getElem?_eq_some_iff.1 h3).1 fun a o l k1 k2 k3 => hr.not_def h3 a o l k1 (AO.live_of_mut k2) k3]
    exact h3

/-- how the parts of a state stand to each other -/
structure St (B N : Nat) (ρ : Rho) (tm : T AV) (h : H) (a : Act) (w : World) : Prop where
  tr : TR ρ tm a.tmps
  hr : HR ρ h.t.get w
  fresh : Fresh ρ h.next
  size : a.tmps.size = N
  defers : Clean B w a.defers
  base : B ≤ w.heap.size

def wpOpIn (F : Fence) (n : Nat) (P : Program) (ops : Array Oper) (Q : Exit → Act → World → Prop) (i : Nat) (K : Act → World → Prop) (a : Act) (w : World) : Prop :=
  match ops[i]? with
  | none => K a w
  | some o => if Region.wanted o (yielded ops a.tmps) then o.wpIn F n P a w K Q else (∀ f, o.about P w a.eval = some f → F.fn f) ∧ K (a.put o.dst undef) w
theorem wpOpsIn_cons {F : Fence} {n : Nat} {P : Program} {ops : Array Oper} {Q : Exit → Act → World → Prop} (i : Nat) (rest : List Nat) (a : Act) (w : World) :
    wpOpsIn F n P ops Q (i :: rest) a w = wpOpIn F n P ops Q i (wpOpsIn F n P ops Q rest) a w := by
  simp only [wpOpsIn, wpOpIn]
  cases ops[i]? <;> rfl

theorem stepE_sound {r : Option Nat} {P : Program} {call : CallE} (hcall : CallOK true P call) {ops : Array Oper} {B N : Nat} {tm tm' : T AV} {h h' : H} {o : Oper} (he : stepE P call ops.toList N tm h o = some (tm', h')) {ρ : Rho} {a : Act} {w : World} (hs : St B N ρ tm h a w)
    {i : Nat} (hi : ops[i]? = some o) {Q : Exit → Act → World → Prop} {K : Act → World → Prop} (hK : ∀ ρ' a' w', St B N ρ' tm' h' a' w' → Way ρ h w ρ' h' w' → K a' w') : wpOpIn (Fnc r) 0 P ops Q i K a w := by
  unfold wpOpIn
  simp only [hi]
  unfold stepE at he
  split at he
  · rename_i hw
    rw [wantA_sound hw hs.tr, if_pos rfl]
    split at he
    · rename_i c hc
      split at he
      · rename_i v h2 hv
        split at he
        · rename_i tm2 hp
          simp at he; obtain ⟨rfl, rfl⟩ := he
          refine (evOp_sound hcall hc hv hs.tr hs.hr hs.fresh).wpIn (cOp_defer hc) fun ρ' w' V k1 k2 => ?_
          obtain ⟨j1, j2, j3⟩ := putT_sound hp hs.size (hs.tr.mono k2.nx.le) k1
          exact hK ρ' _ w' ⟨j1, k2.nx.rel, k2.fresh, j2, by rw [j3]; exact hs.defers.nx hs.hr k2.nx, Nat.le_trans hs.base k2.nx.size⟩ k2
        · simp at he
      · simp at he
    · simp at he
  · rename_i hw
    rw [wantA_sound hw hs.tr, if_neg (by simp)]
    split at he
    · rename_i tm2 hp
      simp at he; obtain ⟨rfl, rfl⟩ := he
      obtain ⟨j1, j2, j3⟩ := putT_sound (V := undef) hp hs.size hs.tr (by simp only [VR]; exact ⟨[], rfl, rfl⟩)
      exact ⟨fun _ _ => trivial, hK ρ _ w ⟨j1, hs.hr, hs.fresh, j2, by rw [j3]; exact hs.defers, hs.base⟩ (Way.refl hs.hr hs.fresh)⟩
    · simp at he
  · simp at he

theorem seqE_sound {r : Option Nat} {P : Program} {call : CallE} (hcall : CallOK true P call) {ops : Array Oper} {B N : Nat} {Q : Exit → Act → World → Prop} : ∀ {l : List Oper} {i : Nat} {tm tm' : T AV} {h h' : H}, ops.toList.drop i = l → seqE P call ops.toList N l tm h = some (tm', h') →
    ∀ {ρ : Rho} {a : Act} {w : World}, St B N ρ tm h a w → (∀ ρ' a' w', St B N ρ' tm' h' a' w' → Way ρ h w ρ' h' w' → Q .normal a' w') → wpOpsIn (Fnc r) 0 P ops Q (List.range' i l.length) a w
  | [], i, tm, tm', h, h', hl, he, ρ, a, w, hs, hQ => by
    simp [seqE] at he; obtain ⟨rfl, rfl⟩ := he
    exact hQ ρ a w hs (Way.refl hs.hr hs.fresh)
  | o :: l, i, tm, tm', h, h', hl, he, ρ, a, w, hs, hQ => by
    unfold seqE at he
    split at he
    · rename_i tm2 h2 h1
      have hi : ops[i]? = some o := by
        have : (ops.toList.drop i)[0]? = some o := by rw [hl]; rfl
        simpa using this
      have hl' : ops.toList.drop (i + 1) = l := by
        rw [← List.drop_drop, hl]; rfl
      simp only [List.length_cons, List.range'_succ, wpOpsIn_cons]
      refine stepE_sound hcall h1 hs hi fun ρ' a' w' k1 k2 => ?_
      exact seqE_sound hcall hl' he k1 fun ρ'' a'' w'' j1 j2 => hQ _ _ _ j1 (k2.trans j2)
    · simp at he
end
end Go.Proofs.YtldmhpdjlgoenaaGreatDoor.Eo

namespace Go.Proofs.YtldmhpdjlgoenaaGreatDoor.Eo
noncomputable section

inductive Ex where
  | normal
  | exit (id : Nat)
  | goto (l : Nat)
  | ret
def Ex.out : Ex → Exit
  | .normal => .normal
  | .exit id => .exit id
  | .goto l => .goto l
  | .ret => .ret

abbrev DrawE := CallE → List Oper → Nat → T AV → H → Option (T AV × H)
/-- what code does -/
def Does (P : Program) (c : Code) (N : Nat) (tm : T AV) (h : H) (ex : Ex) (tm' : T AV) (h' : H) : Prop :=
  ∀ B ρ a w, St B N ρ tm h a w → c.wp P (fun e a' w' => e = ex.out ∧ ∃ ρ', St B N ρ' tm' h' a' w' ∧ Way ρ h w ρ' h' w') a w
/-- what code does, in any machine (within a round, or in none) -/
def DoesR (P : Program) (c : Code) (N : Nat) (tm : T AV) (h : H) (ex : Ex) (tm' : T AV) (h' : H) : Prop :=
  ∀ r B ρ a w, St B N ρ tm h a w → c.wpIn (Fnc r) 0 P (fun e a' w' => e = ex.out ∧ ∃ ρ', St B N ρ' tm' h' a' w' ∧ Way ρ h w ρ' h' w') a w
theorem DoesR.does {P : Program} {c : Code} {N : Nat} {tm tm' : T AV} {h h' : H} {ex : Ex} (hd : DoesR P c N tm h ex tm' h') : Does P c N tm h ex tm' h' :=
  fun B ρ a w hs => (wpIn_wide (n := 0)).1 (hd none B ρ a w hs)
def DrawOK (P : Program) (draw : DrawE) : Prop :=
  ∀ call, CallOK true P call → ∀ (id : Nat) (ops : Array Oper) N tm h tm' h', draw call ops.toList N tm h = some (tm', h') → DoesR P (.region id ops true) N tm h .normal tm' h'

abbrev CodeE := T AV → H → Option (Ex × T AV × H)
/-- the function is there and has a body -/
def hasE (P : Program) (f : FuncId) : Bool := match P.funcs[f]? with
  | some fn => (fn.name == "runtime.NumGoroutine") == false && fn.body.isSome
  | none => false
theorem hasE_of {P : Program} {f : FuncId} (h : hasE P f = true) : ∃ fn c, P.funcs[f]? = some fn ∧ (fn.name == "runtime.NumGoroutine") = false ∧ fn.body = some c := by
  unfold hasE at h
  split at h
  · rename_i fn hf
    rw [Bool.and_eq_true] at h
    obtain ⟨c, hc⟩ := Option.isSome_iff_exists.1 h.2
    exact ⟨fn, c, hf, by simpa using h.1, hc⟩
  · simp at h
theorem run_callFunc_enter {P : Program} {f : FuncId} {fn : Func} {c : Code} (hf : P.funcs[f]? = some fn) (hname : (fn.name == "runtime.NumGoroutine") = false) (hb : fn.body = some c) (args : Array Value) (w : World) :
    (callFunc f args).run P w = .ok (.enter f args) w := by
  have h1 : fn.name ≠ "runtime.NumGoroutine" := by simpa using hname
  simp [callFunc, hf, h1, hb]

/-! ### Rounds of a loop over a function -/
theorem wpIn_post {P : Program} {c : Code} {N : Nat} {tm tm' : T AV} {h h' : H} {ex : Ex} (hd : DoesR P c N tm h ex tm' h') {r : Option Nat} {B : Nat} {ρ : Rho} {a : Act} {w : World} (hs : St B N ρ tm h a w) {Q : Exit → Act → World → Prop}
    (hQ : ∀ ρ' a' w', St B N ρ' tm' h' a' w' → Way ρ h w ρ' h' w' → Q ex.out a' w') : c.wpIn (Fnc r) 0 P Q a w :=
  wpIn_mono (hd r B ρ a w hs) fun e a' w' hh => by
    obtain ⟨rfl, ρ', k1, k2⟩ := hh
    exact hQ _ _ _ k1 k2
/-! ### Loops over functions -/
def resA (P : Program) (tm : T AV) (g : Nat → Option AO) : List ResultVar → Option (List AV)
  | [] => some []
  | r :: l => match (match r with
      | .tmp t => tm.get t
      | .cell a t => match tm.get a, aggOf P t with
        | some (.ptr p o), some agg => ldA g agg p o
        | _, _ => none) with
    | some v => match resA P tm g l with
      | some vs => some (v :: vs)
      | none => none
    | none => none
def packA : List AV → AV
  | [v] => v
  | l => .tup l

theorem wp_post {P : Program} {c : Code} {N : Nat} {tm tm' : T AV} {h h' : H} {ex : Ex} (hd : Does P c N tm h ex tm' h') {B : Nat} {ρ : Rho} {a : Act} {w : World} (hs : St B N ρ tm h a w) {Q : Exit → Act → World → Prop}
    (hQ : ∀ ρ' a' w', St B N ρ' tm' h' a' w' → Way ρ h w ρ' h' w' → Q ex.out a' w') : c.wp P Q a w :=
  wp_mono (hd B ρ a w hs) fun e a' w' hh => by
    obtain ⟨rfl, ρ', k1, k2⟩ := hh
    exact hQ _ _ _ k1 k2

theorem Clean.lt {B : Nat} {w : World} : ∀ {ds : List Deferred}, Clean B w ds → ∀ e ∈ ds, ∃ D, e = { target := .collected D, args := #[] } ∧ B ≤ D ∧ D < w.heap.size
  | [], _, e, he => by simp at he
  | d :: ds, h, e, he => by
    obtain ⟨⟨D, h1, h2, h3, _⟩, h5⟩ := h
    rcases List.mem_cons.1 he with rfl | he
    · exact ⟨D, h1, h2, (Array.getElem?_eq_some_iff.1 h3).1⟩
    · exact Clean.lt h5 e he
def resOf (a : Act) : ResultVar → Sem Value
  | .tmp t => pure (a.tmps.getD t undef)
  | .cell x t => do loadVar t (← asAddr (a.tmps.getD x undef))
theorem resA_sound {P : Program} {ρ : Rho} {tm : T AV} {h : H} {a : Act} {w : World} (ht : TR ρ tm a.tmps) (hr : HR ρ h.t.get w) : ∀ {l : List ResultVar} {vs : List AV}, resA P tm h.t.get l = some vs →
    ∃ VS, VRs ρ vs VS ∧ (l.mapM (resOf a)).run P w = Result.ok VS w
  | [], vs, h => by simp [resA] at h; subst h; exact ⟨[], rfl, by simp⟩
  | r :: l, vs, hv => by
    unfold resA at hv
    split at hv
    · rename_i v h1
      split at hv
      · rename_i vs' h2
        simp at hv; subst hv
        obtain ⟨VS, k1, k2⟩ := resA_sound ht hr h2
        cases r with
        | tmp t =>
          simp only [] at h1
          exact ⟨_, ⟨_, VS, (ht _ _ h1).2, k1, rfl⟩, by simp [List.mapM_cons, resOf, k2]⟩
        | cell x t =>
          simp only [] at h1
          split at h1
          · rename_i p o agg hp hagg
            have hp' := (ht _ _ hp).2
            simp only [VR] at hp'
            obtain ⟨lc, hlc, hp'⟩ := hp'
            obtain ⟨V, j1, j2⟩ := ldA_sound (P := P) hr hagg h1 hlc
            have hp'' : a.tmps[x]?.getD undef = .pointer (some ⟨lc.blk, lc.off + o, none⟩) := by simpa using hp'
            exact ⟨_, ⟨V, VS, j1, k1, rfl⟩, by simp [List.mapM_cons, resOf, k2, hp'', asAddr, j2]⟩
          · simp at h1
      · simp at hv
    · simp at hv

end
end Go.Proofs.YtldmhpdjlgoenaaGreatDoor.Eo
