/-
  An evaluator of Go code over relative heaps, part T: functions.
-/
import Derived.Test.YtnmlfhogolonoaaEvS
set_option linter.unusedVariables false
set_option linter.unusedSimpArgs false
namespace Go.Proofs.Ytnmlfhogolonoaa.Ev
noncomputable section

/-- which functions without a body are atomic operations -/
def KnownX (P : Program) (X : FuncId → Option ATag) : Prop :=
  ∀ f tag, X f = some tag → ∃ fn, P.funcs[f]? = some fn ∧ (fn.name == "runtime.NumGoroutine") = false ∧ fn.body.isNone = true ∧ Extern.findNext fn = none ∧ Extern.find fn = some tag.fn
/-- functions without arguments whose results are known: they leave all memory as it was -/
def KnownS (P : Program) (S : FuncId → Option Bool) : Prop :=
  ∀ f b, S f = some b → (∃ fn c, P.funcs[f]? = some fn ∧ (fn.name == "runtime.NumGoroutine") = false ∧ fn.body = some c) ∧
    ∀ w : World, Calls P f #[] w fun e w' => e = .returned (.bool b) ∧ Env w w' ∧ w.heap.size ≤ w'.heap.size ∧ ∀ r, r < w.heap.size → w'.heap[r]? = w.heap[r]?

def bodyE (P : Program) (draw : DrawE) (call : CallE) (fuel : Nat) (fn : Func) (c : Code) (args : List AV) (h : H) : Option (AV × H) :=
  match codeE P draw call (Nat.add args.length (Nat.sub fn.ntmps args.length)) fuel (codeE P draw call (Nat.add args.length (Nat.sub fn.ntmps args.length)) fuel fun _ _ _ => none) c (putList 0 args .e) h with
  | some (ex, tm, h') => match ex with
    | .exit _ => none
    | .goto _ => none
    | _ => match resA P tm h'.t.get fn.results.toList with
      | some vs => some (packA vs, h')
      | none => none
  | none => none
def callE (P : Program) (draw : DrawE) (X : FuncId → Option ATag) (S : FuncId → Option Bool) (fuel : Nat) (n : Nat) : CallE :=
  Nat.rec (motive := fun _ => CallE) (fun _ _ _ => none) (fun _ ih f args h => match S f with
    | some b => match args with
      | [] => some (.bool b, h)
      | _ => none
    | none => match P.funcs[f]? with
      | some fn => match fn.name == "runtime.NumGoroutine" with
        | true => none
        | false => match fn.body with
          | some c => bodyE P draw ih fuel fn c args h
          | none => match X f with
            | some tag => evA h tag args
            | none => none
      | none => none) n

theorem run_callFunc_enter {P : Program} {f : FuncId} {fn : Func} {c : Code} (hf : P.funcs[f]? = some fn) (hname : (fn.name == "runtime.NumGoroutine") = false) (hb : fn.body = some c) (args : Array Value) (w : World) :
    (callFunc f args).run P w = .ok (.enter f args) w := by
  have h1 : fn.name ≠ "runtime.NumGoroutine" := by simpa using hname
  simp [callFunc, hf, h1, hb]

theorem run_results {P : Program} {N : Nat} {ρ : Rho} {tm : T AV} {h : H} {a : Act} {w : World} (hs : St N ρ tm h a w) {fn : Func} {vs : List AV} (hv : resA P tm h.t.get fn.results.toList = some vs) :
    ∃ V, VR ρ (packA vs) V ∧ (results fn a.tmps).run P w = .ok V w := by
  obtain ⟨VS, k1, k2⟩ := resA_sound hs hv
  have hm : (fn.results.mapM (resOf a)).run P w = Result.ok VS.toArray w := by
    rw [Array.mapM_eq_mapM_toList]
    simp [k2]
  have hr : (results fn a.tmps).run P w = .ok (if h : VS.toArray.size = 1 then VS.toArray[0] else .tuple VS.toArray) w := by
    have : results fn a.tmps = (do
      let vs ← fn.results.mapM (resOf a)
      pure (if h : vs.size = 1 then vs[0] else .tuple vs)) := by
      unfold results
      congr 1
    rw [this]
    simp only [Sem.run_bind, hm, Result.andThen_ok, Sem.run_pure]
  refine ⟨_, ?_, hr⟩
  have hl := k1.length
  match vs, VS, k1, hl with
  | [v], [V], k1, _ =>
    simp only [VRs] at k1
    obtain ⟨V', M, h1, rfl, h2⟩ := k1
    simp at h2; subst h2
    simpa [packA] using h1
  | [], [], k1, _ => simp only [packA, VR]; exact ⟨[], rfl, by simp⟩
  | v :: u :: l, V :: U :: L, k1, _ =>
    simp only [packA, VR]
    exact ⟨_, k1, by simp⟩

theorem bodyE_sound {P : Program} {draw : DrawE} (hdraw : DrawOK P draw) {call : CallE} (hcall : CallOK P call) {fuel : Nat} {f : FuncId} {fn : Func} {c : Code} (hf : P.funcs[f]? = some fn) (hb : fn.body = some c) {args : List AV} {h h' : H} {v : AV}
    (he : bodyE P draw call fuel fn c args h = some (v, h')) {ρ : Rho} {w : World} {ARGS : List Value} (ha : VRs ρ args ARGS) (hr : HR ρ h.t.get w) (hfr : Fresh ρ h.next) :
    Calls P f ARGS.toArray w fun e w' => ∃ ρ' V, e = .returned V ∧ VR ρ' v V ∧ Way ρ h w ρ' h' w' := by
  refine calls_of_wp hf hb ?_
  unfold bodyE at he
  have hl := ha.length
  have hs : St (Nat.add args.length (Nat.sub fn.ntmps args.length)) ρ (putList 0 args .e) h { tmps := ARGS.toArray ++ Array.replicate (fn.ntmps - ARGS.toArray.size) undef, defers := [] } w := by
    refine ⟨fun i u hi => ?_, hr, hfr, by simp [hl], rfl⟩
    rw [putList_get] at hi
    by_cases hh : 0 ≤ i ∧ i < 0 + args.length
    · rw [if_pos hh] at hi
      have hi' : args[i]? = some u := by simpa using hi
      obtain ⟨V, k1, k2⟩ := ha.get hi'
      have hlt : i < ARGS.length := (List.getElem?_eq_some_iff.1 k1).1
      refine ⟨by simp; omega, ?_⟩
      rw [Array.getD_eq_getD_getElem?, Array.getElem?_append_left (by simpa using hlt)]
      simpa [k1] using k2
    · rw [if_neg hh, T.get_e] at hi; simp at hi
  split at he
  · rename_i ex tm h2 h1
    refine wp_post (codeE_sound hdraw hcall _ _ (codeE_sound hdraw hcall _ _ (by intros; contradiction)) _ _ _ _ _ _ h1) hs fun ρ' a' w' k1 k2 => ?_
    have key : (match resA P tm h2.t.get fn.results.toList with
      | some vs => some (packA vs, h2)
      | none => none) = some (v, h') → a'.defers = [] ∧ ∃ V, (results fn a'.tmps).run P w' = .ok V w' ∧ ∃ ρ' V', Ending.returned V = .returned V' ∧ VR ρ' v V' ∧ Way ρ h w ρ' h' w' := by
      intro he
      split at he
      · rename_i vs hvs
        simp only [Option.some.injEq, Prod.mk.injEq] at he
        obtain ⟨rfl, rfl⟩ := he
        obtain ⟨V, j1, j2⟩ := run_results k1 hvs
        exact ⟨k1.defers, V, j2, ρ', V, rfl, j1, k2⟩
      · simp at he
    cases ex with
    | exit id => simp at he
    | goto l => simp at he
    | normal => exact key he
    | ret => exact key he
  · simp at he

theorem callE_sound {P : Program} {draw : DrawE} (hdraw : DrawOK P draw) {X : FuncId → Option ATag} (hX : KnownX P X) {S : FuncId → Option Bool} (hS : KnownS P S) (fuel : Nat) : ∀ n, CallOK P (callE P draw X S fuel n) := by
  intro n
  induction n with
  | zero => intro f args h v h' he; simp [callE] at he
  | succ n ih =>
    intro f args h v h' he ρ w ARGS ha hr hf
    change (match S f with
      | some b => match args with
        | [] => some (AV.bool b, h)
        | _ => none
      | none => match P.funcs[f]? with
        | some fn => match fn.name == "runtime.NumGoroutine" with
          | true => none
          | false => match fn.body with
            | some c => bodyE P draw (callE P draw X S fuel n) fuel fn c args h
            | none => match X f with
              | some tag => evA h tag args
              | none => none
        | none => none) = _ at he
    split at he
    · rename_i b hb
      split at he
      · simp only [Option.some.injEq, Prod.mk.injEq] at he
        obtain ⟨rfl, rfl⟩ := he
        simp only [VRs] at ha; subst ha
        obtain ⟨⟨fn, c, h1, h2, h3⟩, hc⟩ := hS f b hb
        refine .inr ⟨f, #[], run_callFunc_enter h1 h2 h3 _ _, Calls.mono (hc w) fun e w' hh => ?_⟩
        obtain ⟨rfl, k1, k2, k3⟩ := hh
        refine ⟨ρ, _, rfl, rfl, ⟨?_, Le.refl _, k1, k2, fun r hr _ => k3 r hr, fun a o l h1 h2 h3 _ => ⟨a, o, l, h1, h2, h3, rfl⟩⟩, hf, Kp.refl _ _⟩
        exact ⟨fun a o l h1 h2 h3 => by
          obtain ⟨j1, j2⟩ := hr.obj a o l h1 h2 h3
          exact ⟨by omega, OIn.congr (k3 _ j1) j2⟩, hr.inj⟩
      · simp at he
    · split at he
      · rename_i fn hfn
        split at he
        · simp at he
        · rename_i hname
          split at he
          · rename_i c hb
            exact .inr ⟨f, ARGS.toArray, run_callFunc_enter hfn hname hb _ _, bodyE_sound hdraw ih hfn hb he ha hr hf⟩
          · rename_i hb
            split at he
            · rename_i tag ht
              obtain ⟨fn', h1, h2, h3, h4, h5⟩ := hX f tag ht
              obtain ⟨ρ', w', V, k1, k2, k3⟩ := evA_sound (P := P) hr hf he ha
              refine .inl ⟨ρ', w', V, .inl ?_, k2, k3⟩
              rw [run_callFunc_extern h1 h2 h3 h4 h5, k1]
              rfl
            · simp at he
      · simp at he

/-- What a closed function does: from nothing at all. -/
theorem closed {P : Program} {draw : DrawE} (hdraw : DrawOK P draw) {X : FuncId → Option ATag} (hX : KnownX P X) {S : FuncId → Option Bool} (hS : KnownS P S) {fuel n : Nat} {f : FuncId} {fn : Func} {c : Code} (hf : P.funcs[f]? = some fn) (hname : (fn.name == "runtime.NumGoroutine") = false) (hb : fn.body = some c) {b : Bool}
    (he : (match callE P draw X S fuel (n + 1) f [] ⟨0, .e⟩ with
      | some (.bool x, _) => some x
      | _ => none) = some b) (w : World) :
    Calls P f #[] w fun e w' => e = .returned (.bool b) ∧ Env w w' ∧ w.heap.size ≤ w'.heap.size ∧ ∀ r, r < w.heap.size → w'.heap[r]? = w.heap[r]? := by
  split at he
  · rename_i x h' hc
    simp at he; subst he
    have hr : HR (fun _ => none) (H.mk 0 .e).t.get w := ⟨fun a o l h1 => by simp [T.get_e] at h1, fun a b o p l m h1 => by simp [T.get_e] at h1⟩
    have hx := callE_sound hdraw hX hS fuel (n + 1) f [] ⟨0, .e⟩ _ _ hc (fun _ => none) w [] rfl hr (fun _ _ => rfl)
    rcases hx with ⟨ρ', w', V, h1 | ⟨h1, _⟩, _⟩ | ⟨g, as, h1, h2⟩
    · have := run_callFunc_enter hf hname hb #[] w
      rw [this] at h1; simp at h1
    · have := run_callFunc_enter hf hname hb #[] w
      rw [this] at h1; simp at h1
    · have := run_callFunc_enter hf hname hb #[] w
      rw [this] at h1
      simp at h1
      obtain ⟨rfl, rfl⟩ := h1
      refine Calls.mono h2 fun e w' hh => ?_
      obtain ⟨ρ', V, rfl, k1, k2⟩ := hh
      simp only [VR] at k1; subst k1
      exact ⟨rfl, k2.nx.env, k2.nx.size, fun r hr => k2.nx.frame r hr fun a o l h1 => by simp [T.get_e] at h1⟩
  · simp at he
/-- what the evaluator says of a function without arguments -/
def saysE (P : Program) (draw : DrawE) (X : FuncId → Option ATag) (S : FuncId → Option Bool) (fuel n : Nat) (f : FuncId) : Option Bool :=
  match callE P draw X S fuel n f [] ⟨0, .e⟩ with
  | some (.bool x, _) => some x
  | _ => none
/-- the function is there and has a body -/
def hasE (P : Program) (f : FuncId) : Bool := match P.funcs[f]? with
  | some fn => (fn.name == "runtime.NumGoroutine") == false && fn.body.isSome
  | none => false
theorem hasE_of {P : Program} {f : FuncId} (h : hasE P f = true) : ∃ fn c, P.funcs[f]? = some fn ∧ (fn.name == "runtime.NumGoroutine") = false ∧ fn.body = some c := by
  unfold hasE at h
  split at h
  · rename_i fn hf
    rw [Bool.and_eq_true] at h
    obtain ⟨c, hc⟩ := Option.isSome_iff_exists.1 h.2
    exact ⟨fn, c, hf, by simpa using h.1, hc⟩
  · simp at h
theorem says_closed {P : Program} {draw : DrawE} (hdraw : DrawOK P draw) {X : FuncId → Option ATag} (hX : KnownX P X) {S : FuncId → Option Bool} (hS : KnownS P S) {fuel n : Nat} {f : FuncId} (hf : hasE P f = true) {b : Bool} (he : saysE P draw X S fuel (n + 1) f = some b) (w : World) :
    Calls P f #[] w fun e w' => e = .returned (.bool b) ∧ Env w w' ∧ w.heap.size ≤ w'.heap.size ∧ ∀ r, r < w.heap.size → w'.heap[r]? = w.heap[r]? := by
  obtain ⟨fn, c, h1, h2, h3⟩ := hasE_of hf
  exact closed hdraw hX hS h1 h2 h3 he w
end
end Go.Proofs.Ytnmlfhogolonoaa.Ev
