/-
  An evaluator of Go code over relative heaps, part Q: all operations, and regions in their written order.
-/
import Derived.Test.YtnmlfhogolonoaaEvW
set_option linter.unusedVariables false
set_option linter.unusedSimpArgs false
namespace Go.Proofs.Ytnmlfhogolonoaa.Ev
noncomputable section

/-- what an operation comes to: a value, or a call that returns one -/
def XOut (P : Program) (s : Sem Next) (ρ : Rho) (h : H) (w : World) (v : AV) (h' : H) : Prop :=
  EOut P s ρ h w v h' ∨ ∃ f args, s.run P w = .ok (.enter f args) w ∧ Calls P f args w fun e w' => ∃ ρ' V, e = .returned V ∧ VR ρ' v V ∧ Way ρ h w ρ' h' w'
theorem XOut.congr {P : Program} {s s' : Sem Next} {ρ : Rho} {h : H} {w : World} {v : AV} {h' : H} (e : s'.run P w = s.run P w) (x : XOut P s ρ h w v h') : XOut P s' ρ h w v h' := by
  unfold XOut EOut at *
  rw [e]; exact x

abbrev CallE := FuncId → List AV → H → Option (AV × H)
def CallOK (P : Program) (call : CallE) : Prop :=
  ∀ f args h v h', call f args h = some (v, h') → ∀ ρ w ARGS, VRs ρ args ARGS → HR ρ h.t.get w → Fresh ρ h.next → XOut P (callFunc f ARGS.toArray) ρ h w v h'

/-- an operation, made ready -/
inductive COp where
  | p (x : POp)
  | r (x : ROp)
  | l (x : LOp)
  | n (x : NOp)
  | e (x : EOp)
  | m (x : MOp)
  | i (x : IOp)
  | s (x : SOp)
  | w (x : WOp)
  | cv (f : Opd) (args : List Opd)
  | ci (r : Opd) (name : String) (args : List Opd)
def cCall (o : Oper) : Option COp := match o.op with
  | .call { callee := .value f, args, argTypes } => match cOpd f, cOpds args.toList with
    | some f, some as => some (.cv f as)
    | _, _ => none
  | .call { callee := .invoke r name, args, argTypes } => match cOpd r, cOpds args.toList with
    | some r, some as => some (.ci r name as)
    | _, _ => none
  | _ => none
def cOp (P : Program) (o : Oper) : Option COp :=
  match cCall o with
  | some c => some c
  | none => match cS P o with
   | some x => some (.s x)
   | none => match cP P o with
    | some x => some (.p x)
    | none => match cR P o with
      | some x => some (.r x)
      | none => match cE P o with
        | some x => some (.e x)
        | none => match cN P o with
          | some x => some (.n x)
          | none => match cL P o with
            | some x => some (.l x)
            | none => match cM P o with
              | some x => some (.m x)
              | none => match cI P o with
                | some x => some (.i x)
                | none => match cW P o with
                  | some x => some (.w x)
                  | none => none
def evCall (P : Program) (call : CallE) (h : H) (fn : AV) (as : List AV) : Option (AV × H) := match fn with
  | .fn fn first captured => match tgtA P h.t.get fn (first ++ as) captured with
    | some (f, as) => call f as h
    | none => none
  | _ => none
def evOp (P : Program) (call : CallE) (tm : T AV) (h : H) : COp → Option (AV × H)
  | .p x => match evP P tm x with
    | some v => some (v, h)
    | none => none
  | .r x => match evR tm h.t.get x with
    | some v => some (v, h)
    | none => none
  | .l x => match evL tm h.t.get x with
    | some v => some (v, h)
    | none => none
  | .n x => match evN tm x with
    | some (o, f) => some (f h.next, ⟨h.next + 1, h.t.set h.next o⟩)
    | none => none
  | .e x => evE tm h x
  | .m x => evM tm h x
  | .i x => evI tm h x
  | .w x => evW tm h x
  | .s x => match evS tm h.t.get x with
    | some v => some (v, h)
    | none => none
  | .cv f as => match evo tm f, evos tm as with
    | some f, some as => evCall P call h f as
    | _, _ => none
  | .ci r name as => match evo tm r, evos tm as with
    | some r, some as => evCall P call h (.fn (.method name) [r] []) as
    | _, _ => none

theorem evCall_sound {P : Program} {call : CallE} (hcall : CallOK P call) {h h' : H} {fn v : AV} {as : List AV} (he : evCall P call h fn as = some (v, h')) {ρ : Rho} {w : World} (hr : HR ρ h.t.get w) (hf : Fresh ρ h.next)
    {F : Value} {AS : List Value} (hF : VR ρ fn F) (hA : VRs ρ as AS) : XOut P (do let d ← Deferred.ofValue F AS.toArray; invoke d.target d.args) ρ h w v h' := by
  unfold evCall at he
  split at he
  · rename_i f first captured
    split at he
    · rename_i g as' ht
      simp only [VR] at hF
      obtain ⟨FI, CA, h1, h2, rfl⟩ := hF
      obtain ⟨AS', k1, k2⟩ := tgtA_sound (P := P) hr ht (VRs.append h1 hA) h2
      refine XOut.congr ?_ (hcall _ _ _ _ _ he ρ w AS' k1 hr hf)
      rw [← k2]
      simp [Deferred.ofValue]
    · simp at he
  · simp at he

theorem evOp_sound {P : Program} {call : CallE} (hcall : CallOK P call) {o : Oper} {c : COp} (hc : cOp P o = some c) {tm : T AV} {h h' : H} {v : AV} (he : evOp P call tm h c = some (v, h')) {ρ : Rho} {a : Act} {w : World} (ht : TR ρ tm a.tmps) (hr : HR ρ h.t.get w) (hf : Fresh ρ h.next) :
    XOut P (execOp a.eval o) ρ h w v h' := by
  unfold cOp at hc
  split at hc
  · rename_i c' hcc
    simp at hc; subst hc
    obtain ⟨dst, op, type, pos, after, guard⟩ := o
    unfold cCall at hcc
    simp only [] at hcc
    split at hcc
    · rename_i f args ats
      split at hcc
      · rename_i f' as' hf' has
        simp at hcc; subst hcc
        simp only [evOp] at he
        split at he
        · rename_i fv av hfv hav
          refine XOut.congr ?_ (evCall_sound hcall he hr hf (evo_sound ht hf' hfv) (evos_sound ht has hav))
          have e : args.map a.eval = (args.toList.map a.eval).toArray := by simp [← Array.toList_map]
          simp [execOp, resolve, e]
        · simp at he
      · simp at hcc
    · rename_i r name args ats
      split at hcc
      · rename_i r' as' hr' has
        simp at hcc; subst hcc
        simp only [evOp] at he
        split at he
        · rename_i rv av hrv hav
          refine XOut.congr ?_ (evCall_sound hcall he hr hf (F := .func (.method name) #[a.eval r] #[]) ⟨[a.eval r], [], ⟨a.eval r, [], evo_sound ht hr' hrv, rfl, rfl⟩, rfl, rfl⟩ (evos_sound ht has hav))
          have e : args.map a.eval = (args.toList.map a.eval).toArray := by simp [← Array.toList_map]
          simp [execOp, resolve, Deferred.ofValue, e]
        · simp at he
      · simp at hcc
    · simp at hcc
  · split at hc
    · rename_i x hx
      simp at hc; subst hc
      simp only [evOp] at he
      split at he
      · rename_i u hu
        simp at he; obtain ⟨rfl, rfl⟩ := he
        obtain ⟨V, k1, k2⟩ := evS_sound hx hu ht hr
        exact .inl ⟨ρ, w, V, .inl k2, k1, Way.refl hr hf⟩
      · simp at he
    · split at hc
      · rename_i x hx
        simp at hc; subst hc
        simp only [evOp] at he
        split at he
        · rename_i u hu
          simp at he; obtain ⟨rfl, rfl⟩ := he
          obtain ⟨V, k1, k2⟩ := evP_sound hx hu ht
          exact .inl ⟨ρ, w, V, .inl (k2 w), k1, Way.refl hr hf⟩
        · simp at he
      · split at hc
        · rename_i x hx
          simp at hc; subst hc
          simp only [evOp] at he
          split at he
          · rename_i u hu
            simp at he; obtain ⟨rfl, rfl⟩ := he
            obtain ⟨V, k1, k2⟩ := evR_sound hx hu ht hr
            exact .inl ⟨ρ, w, V, .inl k2, k1, Way.refl hr hf⟩
          · simp at he
        · split at hc
          · rename_i x hx
            simp at hc; subst hc
            exact .inl (evE_sound hx he ht hr hf)
          · split at hc
            · rename_i x hx
              simp at hc; subst hc
              simp only [evOp] at he
              split at he
              · rename_i ao fv hu
                simp at he; obtain ⟨rfl, rfl⟩ := he
                obtain ⟨hl, obj, room, k1, k2⟩ := evN_sound hx hu ht
                obtain ⟨V, j1, j2⟩ := k1 w
                refine .inl ⟨upd ρ h.next ⟨w.heap.size, 0, room⟩, w.alloc obj, V, .inl j1, j2 _ _ upd_same, way_new hf (nx_new hr (hf _ (Nat.le_refl _)) rfl (fun b => T.get_set _ _ _ _) ?_)⟩
                exact k2 _ _ _ (upd_le hf (Nat.le_refl _)) (by show (w.heap.push _)[w.heap.size]? = _; simp)
              · simp at he
            · split at hc
              · rename_i x hx
                simp at hc; subst hc
                simp only [evOp] at he
                split at he
                · rename_i u hu
                  simp at he; obtain ⟨rfl, rfl⟩ := he
                  obtain ⟨V, k1, k2⟩ := evL_sound hx hu ht hr
                  exact .inl ⟨ρ, w, V, .inl k2, k1, Way.refl hr hf⟩
                · simp at he
              · split at hc
                · rename_i x hx
                  simp at hc; subst hc
                  exact .inl (evM_sound hx he ht hr hf)
                · split at hc
                  · rename_i x hx
                    simp at hc; subst hc
                    exact .inl (evI_sound hx he ht hr hf)
                  · split at hc
                    · rename_i x hx
                      simp at hc; subst hc
                      exact .inl (evW_sound hx he ht hr hf)
                    · simp at hc

theorem XOut.wp {P : Program} {o : Oper} {a : Act} {ρ : Rho} {h h' : H} {w : World} {v : AV} {K : Act → World → Prop} {Q : Exit → Act → World → Prop} (hx : XOut P (execOp a.eval o) ρ h w v h')
    (hK : ∀ ρ' w' V, VR ρ' v V → Way ρ h w ρ' h' w' → K (a.put o.dst V) w') : o.wp P a w K Q := by
  unfold Oper.wp
  rcases hx with ⟨ρ', w', V, he | ⟨he, rfl⟩, hv, hw⟩ | ⟨f, args, he, hcalls⟩
  · rw [he]; exact hK _ _ _ hv hw
  · rw [he]; exact hK _ _ _ hv hw
  · rw [he]
    exact Calls.mono hcalls fun e w'' hh => by
      obtain ⟨ρ', V, rfl, hv, hw⟩ := hh
      exact hK _ _ _ hv hw

/-! ### Regions in their written order -/
/-- the slot of a guard -/
def gslot : List Oper → Nat → Option Nat
  | [], _ => none
  | o :: _, 0 => o.dst
  | _ :: l, n + 1 => gslot l n
def wantA (ops : List Oper) (tm : T AV) (o : Oper) : Option Bool := match o.guard with
  | none => some true
  | some (j, want) => match gslot ops j with
    | some t => match tm.get t with
      | some (.bool b) => some (match b, want with | true, true => true | false, false => true | _, _ => false)
      | some (.tup _) => some false
      | _ => none
    | none => none
def putT (N : Nat) (tm : T AV) (dst : Option Nat) (v : AV) : Option (T AV) := match dst with
  | none => some tm
  | some d => cond (Nat.ble (d + 1) N) (some (tm.set d v)) none
def stepE (P : Program) (call : CallE) (ops : List Oper) (N : Nat) (tm : T AV) (h : H) (o : Oper) : Option (T AV × H) :=
  match wantA ops tm o with
  | some true => match cOp P o with
    | some c => match evOp P call tm h c with
      | some (v, h') => match putT N tm o.dst v with
        | some tm' => some (tm', h')
        | none => none
      | none => none
    | none => none
  | some false => match putT N tm o.dst (.tup []) with
    | some tm' => some (tm', h)
    | none => none
  | none => none
def seqE (P : Program) (call : CallE) (ops : List Oper) (N : Nat) : List Oper → T AV → H → Option (T AV × H)
  | [], tm, h => some (tm, h)
  | o :: l, tm, h => match stepE P call ops N tm h o with
    | some (tm', h') => seqE P call ops N l tm' h'
    | none => none

theorem gslot_eq : ∀ (l : List Oper) (j : Nat), gslot l j = (l[j]?).bind (·.dst)
  | [], j => by simp [gslot]
  | o :: l, 0 => by simp [gslot]
  | o :: l, j + 1 => by simp [gslot, gslot_eq l j]
theorem wantA_sound {ops : Array Oper} {tm : T AV} {o : Oper} {b : Bool} (h : wantA ops.toList tm o = some b) {ρ : Rho} {tmps : Array Value} (ht : TR ρ tm tmps) : Region.wanted o (yielded ops tmps) = b := by
  unfold wantA at h
  unfold Region.wanted
  split at h
  · rename_i hg; rw [hg]; simpa using h
  · rename_i j want hg
    rw [hg]
    simp only []
    split at h
    · rename_i t hs
      rw [gslot_eq] at hs
      have hs' : (ops[j]?).bind (·.dst) = some t := by simpa using hs
      have hy : ∀ V, t < tmps.size → tmps.getD t undef = V → tmps[t]? = some V := fun V h1 h2 => by
        rw [← h2]; simp [h1]
      split at h
      · rename_i c hc
        obtain ⟨k1, k2⟩ := ht _ _ hc
        simp only [VR] at k2
        simp only [yielded, hs', Option.bind_some, hy _ k1 k2]
        simp at h; subst h
        cases c <;> cases want <;> rfl
      · rename_i l hc
        obtain ⟨k1, k2⟩ := ht _ _ hc
        simp only [VR] at k2
        obtain ⟨L, _, k3⟩ := k2
        simp only [yielded, hs', Option.bind_some, hy _ k1 k3]
        simp at h; subst h
        rfl
      · simp at h
    · simp at h
theorem putT_sound {N : Nat} {tm tm' : T AV} {dst : Option Nat} {v : AV} {V : Value} (h : putT N tm dst v = some tm') {ρ : Rho} {a : Act} (hN : a.tmps.size = N) (ht : TR ρ tm a.tmps) (hv : VR ρ v V) :
    TR ρ tm' (a.put dst V).tmps ∧ (a.put dst V).tmps.size = N ∧ (a.put dst V).defers = a.defers := by
  unfold putT at h
  split at h
  · simp at h; subst h; exact ⟨ht, hN, rfl⟩
  · rename_i d
    cases hb : Nat.ble (d + 1) N
    · rw [hb] at h; simp at h
    · rw [hb] at h; simp at h; subst h
      have := Nat.le_of_ble_eq_true hb
      exact ⟨TR.set ht (by omega) hv, by simp [Act.put, hN], rfl⟩

/-- how the parts of a state stand to each other -/
structure St (N : Nat) (ρ : Rho) (tm : T AV) (h : H) (a : Act) (w : World) : Prop where
  tr : TR ρ tm a.tmps
  hr : HR ρ h.t.get w
  fresh : Fresh ρ h.next
  size : a.tmps.size = N
  defers : a.defers = []

theorem stepE_sound {P : Program} {call : CallE} (hcall : CallOK P call) {ops : Array Oper} {N : Nat} {tm tm' : T AV} {h h' : H} {o : Oper} (he : stepE P call ops.toList N tm h o = some (tm', h')) {ρ : Rho} {a : Act} {w : World} (hs : St N ρ tm h a w)
    {i : Nat} (hi : ops[i]? = some o) {Q : Exit → Act → World → Prop} {K : Act → World → Prop} (hK : ∀ ρ' a' w', St N ρ' tm' h' a' w' → Way ρ h w ρ' h' w' → K a' w') : wpOp P ops Q i K a w := by
  unfold wpOp
  simp only [hi]
  unfold stepE at he
  split at he
  · rename_i hw
    rw [wantA_sound hw hs.tr, if_pos rfl]
    split at he
    · rename_i c hc
      split at he
      · rename_i v h2 hv
        split at he
        · rename_i tm2 hp
          simp at he; obtain ⟨rfl, rfl⟩ := he
          refine .inl ((evOp_sound hcall hc hv hs.tr hs.hr hs.fresh).wp fun ρ' w' V k1 k2 => ?_)
          obtain ⟨j1, j2, j3⟩ := putT_sound hp hs.size (hs.tr.mono k2.nx.le) k1
          exact hK ρ' _ w' ⟨j1, k2.nx.rel, k2.fresh, j2, j3.trans hs.defers⟩ k2
        · simp at he
      · simp at he
    · simp at he
  · rename_i hw
    rw [wantA_sound hw hs.tr, if_neg (by simp)]
    split at he
    · rename_i tm2 hp
      simp at he; obtain ⟨rfl, rfl⟩ := he
      obtain ⟨j1, j2, j3⟩ := putT_sound (V := undef) hp hs.size hs.tr (by simp only [VR]; exact ⟨[], rfl, rfl⟩)
      exact hK ρ _ w ⟨j1, hs.hr, hs.fresh, j2, j3.trans hs.defers⟩ (Way.refl hs.hr hs.fresh)
    · simp at he
  · simp at he

theorem seqE_sound {P : Program} {call : CallE} (hcall : CallOK P call) {ops : Array Oper} {N : Nat} {Q : Exit → Act → World → Prop} : ∀ {l : List Oper} {i : Nat} {tm tm' : T AV} {h h' : H}, ops.toList.drop i = l → seqE P call ops.toList N l tm h = some (tm', h') →
    ∀ {ρ : Rho} {a : Act} {w : World}, St N ρ tm h a w → (∀ ρ' a' w', St N ρ' tm' h' a' w' → Way ρ h w ρ' h' w' → Q .normal a' w') → wpOps P ops Q (List.range' i l.length) a w
  | [], i, tm, tm', h, h', hl, he, ρ, a, w, hs, hQ => by
    simp [seqE] at he; obtain ⟨rfl, rfl⟩ := he
    exact hQ ρ a w hs (Way.refl hs.hr hs.fresh)
  | o :: l, i, tm, tm', h, h', hl, he, ρ, a, w, hs, hQ => by
    unfold seqE at he
    split at he
    · rename_i tm2 h2 h1
      have hi : ops[i]? = some o := by
        have : (ops.toList.drop i)[0]? = some o := by rw [hl]; rfl
        simpa using this
      have hl' : ops.toList.drop (i + 1) = l := by
        rw [← List.drop_drop, hl]; rfl
      simp only [List.length_cons, List.range'_succ, wpOps_cons]
      refine stepE_sound hcall h1 hs hi fun ρ' a' w' k1 k2 => ?_
      exact seqE_sound hcall hl' he k1 fun ρ'' a'' w'' j1 j2 => hQ _ _ _ j1 (k2.trans j2)
    · simp at he
end
end Go.Proofs.Ytnmlfhogolonoaa.Ev
