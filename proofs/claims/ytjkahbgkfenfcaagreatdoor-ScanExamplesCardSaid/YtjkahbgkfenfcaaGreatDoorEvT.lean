/-
  An evaluator of Go code over relative heaps, part T: functions.
-/
import Derived.Test.YtjkahbgkfenfcaaGreatDoorEvSg
set_option linter.unusedVariables false
set_option linter.unusedSimpArgs false
namespace Go.Proofs.YtjkahbgkfenfcaaGreatDoor.Ev
noncomputable section

/-- which functions without a body are atomic operations -/
def KnownX (P : Program) (X : FuncId → Option ATag) : Prop :=
  ∀ f tag, X f = some tag → ∃ fn, P.funcs[f]? = some fn ∧ (fn.name == "runtime.NumGoroutine") = false ∧ fn.body.isNone = true ∧ Extern.findNext fn = none ∧ Extern.find fn = some tag.fn
/-- functions without arguments whose results are known: they leave all memory as it was -/
def KnownS (P : Program) (S : FuncId → H → Option Bool) : Prop :=
  ∀ f h b, S f h = some b → (∃ fn c, P.funcs[f]? = some fn ∧ (fn.name == "runtime.NumGoroutine") = false ∧ fn.body = some c) ∧
    ∀ (ρ : Rho) (w : World), HR ρ h.t.get w → Calls P f #[] w fun e w' => e = .returned (.bool b) ∧ Env w w' ∧ w.heap.size ≤ w'.heap.size ∧ ∀ r, r < w.heap.size → w'.heap[r]? = w.heap[r]?

def bodyE (P : Program) (draw : DrawE) (call : CallE) (fuel : Nat) (fn : Func) (c : Code) (args : List AV) (h : H) : Option (AV × H) :=
  match codeE P draw call (Nat.add args.length (Nat.sub fn.ntmps args.length)) fuel (codeE P draw call (Nat.add args.length (Nat.sub fn.ntmps args.length)) fuel fun _ _ _ => none) c (putList 0 args .e) h with
  | some (ex, tm, h') => match ex with
    | .exit _ => none
    | .goto _ => none
    | _ => match resA P tm h'.t.get fn.results.toList with
      | some vs => some (packA vs, h')
      | none => none
  | none => none
/-- the end of one of the ways -/
def endL (P : Program) (fn : Func) (r : Ex × T AV × H) : Option (List (AV × H)) := match r.1 with
  | .exit _ => none
  | .goto _ => none
  | _ => match resA P r.2.1 r.2.2.t.get fn.results.toList with
    | some vs => some [(packA vs, r.2.2)]
    | none => none
/-- a call in every way: all must give the same -/
def forkE (P : Program) (draw : DrawE) (call : CallE) (fuel : Nat) (fn : Func) (c : Code) (args : List AV) (h : H) : Option (AV × H) :=
  match codeL P draw call (Nat.add args.length (Nat.sub fn.ntmps args.length)) fuel c (putList 0 args .e) ⟨h.next, partH h (keysH h args)⟩ with
  | some rs => match bindL (endL P fn) rs with
    | some (q :: qs) => match (q :: qs).all fun x => eqAV 4 q.1 x.1 && Nat.beq x.2.next q.2.next && stays h (keysH h args) x.2 with
      | true => some (q.1, ⟨q.2.next, joinT q.2 ((q :: qs).map fun x => x.2) (Nat.sub q.2.next h.next) h.next h.t⟩)
      | false => none
    | _ => none
  | none => none
/-- yield's arguments are laid -/
def setPs (N : Nat) (tm : T AV) : List Nat → List AV → Option (T AV)
  | [], [] => some tm
  | p :: ps, v :: vs => cond (Nat.ble (p + 1) N) (setPs N (tm.set p v) ps vs) none
  | _, _ => none
/-- the jump that a round leaves -/
def exJump : Ex → Option (Option Code)
  | .normal => some none
  | .ret => some (some .ret)
  | .exit id => some (some (.exit id))
  | .goto _ => none
/-- the end of a round -/
def yieldEnd (a : Nat) (jump : Option Code) (h : H) : Option (AV × H) := match h.t.get a with
  | some (.loop st pend tm N ps x y) => match jump with
    | none => some (.bool true, ⟨h.next, h.t.set a (.loop .ready none tm N ps x y)⟩)
    | some c => some (.bool false, ⟨h.next, h.t.set a (.loop .done (some c) tm N ps x y)⟩)
  | _ => none
/-- one round of a loop over a function -/
def yieldE (P : Program) (draw : DrawE) (call : CallE) (a : Nat) (args : List AV) (h : H) : Option (AV × H) := match h.t.get a with
  | some (.loop .ready pend tm N ps x y) => match setPs N tm ps args with
    | some tm0 => match codeR P draw call N x tm0 h with
      | some (.normal, tm1, h1) => match h1.t.get a with
        | some (.loop .ready pend' tmL NL psL xL yL) => match codeR P draw call N y tm1 ⟨h1.next, h1.t.set a (.loop .busy pend' tmL NL psL xL yL)⟩ with
          | some (ex, _, h3) => match exJump ex with
            | some jump => yieldEnd a jump h3
            | none => none
          | none => none
        | _ => none
      | _ => none
    | none => none
  | _ => none
def callE (P : Program) (draw : DrawE) (X : FuncId → Option ATag) (S : FuncId → H → Option Bool) (fuel : Nat) (n : Nat) : CallE :=
  Nat.rec (motive := fun _ => CallE) (fun _ _ _ => none) (fun _ ih f args h => match Nat.ble ykey f with
    | true => yieldE P draw ih (Nat.sub f ykey) args h
    | false => match S f h with
      | some b => match args with
        | [] => some (.bool b, h)
        | _ => none
      | none => match P.funcs[f]? with
        | some fn => match fn.name == "runtime.NumGoroutine" with
          | true => none
          | false => match fn.body with
            | some c => match bodyE P draw ih fuel fn c args h with
              | none => forkE P draw ih fuel fn c args h
              | r => r
            | none => match X f with
              | some tag => evA h tag args
              | none => none
        | none => none) n

theorem run_results {P : Program} {ρ : Rho} {tm : T AV} {h : H} {a : Act} {w : World} (ht : TR ρ tm a.tmps) (hr : HR ρ h.t.get w) {fn : Func} {vs : List AV} (hv : resA P tm h.t.get fn.results.toList = some vs) :
    ∃ V, VR ρ (packA vs) V ∧ (results fn a.tmps).run P w = .ok V w := by
  obtain ⟨VS, k1, k2⟩ := resA_sound ht hr hv
  have hm : (fn.results.mapM (resOf a)).run P w = Result.ok VS.toArray w := by
    rw [Array.mapM_eq_mapM_toList]
    simp [k2]
  have hr : (results fn a.tmps).run P w = .ok (if h : VS.toArray.size = 1 then VS.toArray[0] else .tuple VS.toArray) w := by
    have : results fn a.tmps = (do
      let vs ← fn.results.mapM (resOf a)
      pure (if h : vs.size = 1 then vs[0] else .tuple vs)) := by
      unfold results
      congr 1
    rw [this]
    simp only [Sem.run_bind, hm, Result.andThen_ok, Sem.run_pure]
  refine ⟨_, ?_, hr⟩
  have hl := k1.length
  match vs, VS, k1, hl with
  | [v], [V], k1, _ =>
    simp only [VRs] at k1
    obtain ⟨V', M, h1, rfl, h2⟩ := k1
    simp at h2; subst h2
    simpa [packA] using h1
  | [], [], k1, _ => simp only [packA, VR]; exact ⟨[], rfl, by simp⟩
  | v :: u :: l, V :: U :: L, k1, _ =>
    simp only [packA, VR]
    exact ⟨_, k1, by simp⟩

/-- A mark's block is shut: nothing that is known is there. -/
theorem way_shut {ρ0 ρ : Rho} {h0 h : H} {w0 w : World} (hw : Way ρ0 h0 w0 ρ h w) {D : Nat} (hD : w.heap[D]? = some (.deferred (some []))) (hb : w0.heap.size ≤ D) : Way ρ0 h0 w0 ρ h (w.putObj D (.deferred none)) := by
  refine ⟨⟨⟨fun a o l h1 h2 h3 => ?_, hw.nx.rel.inj⟩, hw.nx.le, ⟨hw.nx.env.os, hw.nx.env.tape, hw.nx.env.output⟩, by simpa using hw.nx.size, fun r hr hn => ?_, hw.nx.back⟩, hw.fresh, hw.kp⟩
  · obtain ⟨k1, k2⟩ := hw.nx.rel.obj a o l h1 h2 h3
    exact ⟨by simpa using k1, OIn.congr (World.putObj_heap_other (hw.nx.rel.not_def hD a o l h1 h2 h3)) k2⟩
  · exact (World.putObj_heap_other (by omega)).trans (hw.nx.frame r hr hn)
theorem clean_shut {B : Nat} {w : World} {D : Nat} : ∀ {ds : List Deferred}, Clean B w ds → (∀ e ∈ ds, e ≠ { target := .collected D, args := #[] }) → Clean B (w.putObj D (.deferred none)) ds
  | [], _, _ => trivial
  | d :: ds, h, hne => by
    obtain ⟨⟨D', h1, h2, h3, h4⟩, h5⟩ := h
    refine ⟨⟨D', h1, h2, ?_, h4⟩, clean_shut h5 fun e he => hne e (by simp [he])⟩
    rw [World.putObj_heap_other]
    · exact h3
    · rintro rfl
      exact hne d (by simp) h1
theorem leaves {P : Program} {fn : Func} {tmps : Array Value} {R : Ending → World → Prop} {ρ0 ρ : Rho} {h0 h : H} {w0 : World} (hR : ∀ w, HR ρ h.t.get w → Way ρ0 h0 w0 ρ h w → ∃ V, (results fn tmps).run P w = .ok V w ∧ R (.returned V) w) :
    ∀ {ds : List Deferred} {w : World}, Clean w0.heap.size w ds → Way ρ0 h0 w0 ρ h w → LeavesInM Fence.wide 0 P fn tmps R ds .returning w
  | [], w, _, hw => hR w hw.nx.rel hw
  | d :: ds, w, h, hw => by
    obtain ⟨⟨D, h1, h2, h3, h4⟩, h5⟩ := h
    refine ⟨by simp, .inl ⟨D, w.putObj D (.deferred none), by rw [h1], run_takeDeferred h3, ?_⟩⟩
    exact leaves hR (clean_shut h5 fun e he => by rw [← h1]; exact h4 e he) (way_shut hw h3 h2)

theorem bodyE_sound {P : Program} {draw : DrawE} (hdraw : DrawOK P draw) {call : CallE} (hcall : CallOK true P call) {fuel : Nat} {f : FuncId} {fn : Func} {c : Code} (hf : P.funcs[f]? = some fn) (hb : fn.body = some c) {args : List AV} {h h' : H} {v : AV}
    (he : bodyE P draw call fuel fn c args h = some (v, h')) {ρ : Rho} {w : World} {ARGS : List Value} (ha : VRs ρ args ARGS) (hr : HR ρ h.t.get w) (hfr : Fresh ρ h.next) :
    Calls P f ARGS.toArray w fun e w' => ∃ ρ' V, e = .returned V ∧ VR ρ' v V ∧ Way ρ h w ρ' h' w' := by
  refine callsIn_wide.1 (callsIn_of_wp_marks (n := 0) hf hb trivial ((wpIn_wide (n := 0)).2 ?_))
  unfold bodyE at he
  have hl := ha.length
  have hs : St w.heap.size (Nat.add args.length (Nat.sub fn.ntmps args.length)) ρ (putList 0 args .e) h { tmps := ARGS.toArray ++ Array.replicate (fn.ntmps - ARGS.toArray.size) undef, defers := [] } w := by
    refine ⟨fun i u hi => ?_, hr, hfr, by simp [hl], trivial, Nat.le_refl _⟩
    rw [putList_get] at hi
    by_cases hh : 0 ≤ i ∧ i < 0 + args.length
    · rw [if_pos hh] at hi
      have hi' : args[i]? = some u := by simpa using hi
      obtain ⟨V, k1, k2⟩ := ha.get hi'
      have hlt : i < ARGS.length := (List.getElem?_eq_some_iff.1 k1).1
      refine ⟨by simp; omega, ?_⟩
      rw [Array.getD_eq_getD_getElem?, Array.getElem?_append_left (by simpa using hlt)]
      simpa [k1] using k2
    · rw [if_neg hh, T.get_e] at hi; simp at hi
  split at he
  · rename_i ex tm h2 h1
    refine wp_post (codeE_sound hdraw hcall _ _ (codeE_sound hdraw hcall _ _ (by intros; contradiction)) _ _ _ _ _ _ h1) hs fun ρ' a' w' k1 k2 => ?_
    have key : (match resA P tm h2.t.get fn.results.toList with
      | some vs => some (packA vs, h2)
      | none => none) = some (v, h') → LeavesInM Fence.wide 0 P fn a'.tmps (fun e w' => ∃ ρ' V, e = .returned V ∧ VR ρ' v V ∧ Way ρ h w ρ' h' w') a'.defers .returning w' := by
      intro he
      split at he
      · rename_i vs hvs
        simp only [Option.some.injEq, Prod.mk.injEq] at he
        obtain ⟨rfl, rfl⟩ := he
        refine leaves (ρ := ρ') (h := h2) (fun w'' hr'' hw'' => ?_) k1.defers k2
        obtain ⟨V, j1, j2⟩ := run_results k1.tr hr'' hvs
        exact ⟨V, j2, ρ', V, rfl, j1, hw''⟩
      · simp at he
    cases ex with
    | exit id => simp at he
    | goto l => simp at he
    | normal => exact key he
    | ret => exact key he
  · simp at he

theorem forkE_sound {P : Program} {draw : DrawE} (hdraw : DrawOK P draw) {call : CallE} (hcall : CallOK true P call) {fuel : Nat} {f : FuncId} {fn : Func} {c : Code} (hf : P.funcs[f]? = some fn) (hb : fn.body = some c) {args : List AV} {h h' : H} {v : AV}
    (he : forkE P draw call fuel fn c args h = some (v, h')) {ρ : Rho} {w : World} {ARGS : List Value} (ha : VRs ρ args ARGS) (hr : HR ρ h.t.get w) (hfr : Fresh ρ h.next) :
    Calls P f ARGS.toArray w fun e w' => ∃ ρ' V, e = .returned V ∧ VR ρ' v V ∧ Way ρ h w ρ' h' w' := by
  refine callsIn_wide.1 (callsIn_of_wp_marks (n := 0) hf hb trivial ((wpIn_wide (n := 0)).2 ?_))
  unfold forkE at he
  have hl := ha.length
  have hs : St w.heap.size (Nat.add args.length (Nat.sub fn.ntmps args.length)) ρ (putList 0 args .e) ⟨h.next, partH h (keysH h args)⟩ { tmps := ARGS.toArray ++ Array.replicate (fn.ntmps - ARGS.toArray.size) undef, defers := [] } w := by
    refine ⟨fun i u hi => ?_, partH_rel hr _, hfr, by simp [hl], trivial, Nat.le_refl _⟩
    rw [putList_get] at hi
    by_cases hh : 0 ≤ i ∧ i < 0 + args.length
    · rw [if_pos hh] at hi
      have hi' : args[i]? = some u := by simpa using hi
      obtain ⟨V, k1, k2⟩ := ha.get hi'
      have hlt : i < ARGS.length := (List.getElem?_eq_some_iff.1 k1).1
      refine ⟨by simp; omega, ?_⟩
      rw [Array.getD_eq_getD_getElem?, Array.getElem?_append_left (by simpa using hlt)]
      simpa [k1] using k2
    · rw [if_neg hh, T.get_e] at hi; simp at hi
  split at he
  · rename_i rs hrs
    split at he
    · rename_i q qs hends
      split at he
      · rename_i hall
        simp only [Option.some.injEq, Prod.mk.injEq] at he
        obtain ⟨rfl, rfl⟩ := he
        refine wp_postL (codeL_sound hdraw hcall _ _ _ _ _ _ hrs) hs fun r hr' ρ' a' w' k1 k2 => ?_
        obtain ⟨bs, hbs, hmem⟩ := bindL_mem hends r hr'
        have key : (match resA P r.2.1 r.2.2.t.get fn.results.toList with
          | some vs => some [(packA vs, r.2.2)]
          | none => none) = some bs → LeavesInM Fence.wide 0 P fn a'.tmps (fun e w' => ∃ ρ' V, e = .returned V ∧ VR ρ' q.1 V ∧ Way ρ h w ρ' ⟨q.2.next, joinT q.2 ((q :: qs).map fun x => x.2) (Nat.sub q.2.next h.next) h.next h.t⟩ w') a'.defers .returning w' := by
          intro he
          split at he
          · rename_i vs hvs
            simp only [Option.some.injEq] at he
            subst he
            have hx : (packA vs, r.2.2) ∈ q :: qs := hmem _ (by simp)
            have hchk := List.all_eq_true.1 hall _ hx
            simp only [Bool.and_eq_true] at hchk
            obtain ⟨⟨c1, c2⟩, c3⟩ := hchk
            have c1 := eqAV_sound _ _ _ c1
            have c2 := Nat.eq_of_beq_eq_true c2
            refine leaves (ρ := ρ') (h := r.2.2) (fun w'' hr'' hw'' => ?_) k1.defers k2
            obtain ⟨V, j1, j2⟩ := run_results k1.tr hr'' hvs
            refine ⟨V, j2, ρ', V, rfl, by rw [c1]; exact j1, ?_⟩
            have := join_way (h1 := q.2) (hs := (q :: qs).map fun x => x.2) hr hfr (List.mem_map.2 ⟨_, hx, rfl⟩) c3 hw''

            rw [c2] at this
            exact this
          · simp at he
        obtain ⟨ex, tm, h2⟩ := r
        cases ex with
        | exit id => simp [endL] at hbs
        | goto l => simp [endL] at hbs
        | normal => exact key hbs
        | ret => exact key hbs
      · simp at he
    · simp at he
  · simp at he

theorem setPs_sound {N : Nat} {ρ : Rho} : ∀ {ps : List Nat} {tm tm' : T AV} {vs : List AV}, setPs N tm ps vs = some tm' → ∀ {VS : List Value} {tmps : Array Value}, VRs ρ vs VS → tmps.size = N → TR ρ tm tmps →
    VS.length = ps.length ∧ TR ρ tm' ((ps.zip VS).foldl (fun tmps (t, a) => tmps.setIfInBounds t a) tmps) ∧ ((ps.zip VS).foldl (fun tmps (t, a) => tmps.setIfInBounds t a) tmps).size = N
  | [], tm, tm', [], h, VS, tmps, hv, hN, ht => by
    simp [setPs] at h; subst h
    simp only [VRs] at hv; subst hv
    exact ⟨rfl, ht, hN⟩
  | p :: ps, tm, tm', v :: vs, h, VS, tmps, hv, hN, ht => by
    simp only [setPs] at h
    simp only [VRs] at hv
    obtain ⟨V, M, h1, h2, rfl⟩ := hv
    cases hb : Nat.ble (p + 1) N with
    | false => rw [hb] at h; simp at h
    | true =>
      rw [hb] at h
      have hlt := Nat.le_of_ble_eq_true hb
      obtain ⟨k1, k2, k3⟩ := setPs_sound (by simpa using h) h2 (tmps := tmps.setIfInBounds p V) (by simpa using hN) (TR.set ht (by omega) h1)
      exact ⟨by simp [k1], by simpa using k2, by simpa using k3⟩
  | [], tm, tm', v :: vs, h, VS, tmps, _, _, _ => by simp [setPs] at h
  | p :: ps, tm, tm', [], h, VS, tmps, _, _, _ => by simp [setPs] at h

theorem yieldE_sound {P : Program} {draw : DrawE} (hdraw : DrawOK P draw) {call : CallE} (hcall : CallOK true P call) {a : Nat} {args : List AV} {h h' : H} {v : AV} (he : yieldE P draw call a args h = some (v, h')) {ρ : Rho} {w : World} {ARGS : List Value} (ha : VRs ρ args ARGS) (hr : HR ρ h.t.get w) (hfr : Fresh ρ h.next)
    {l : Loc} (hl : ρ a = some l) : ROut P (Instr.yield l.blk ARGS.toArray) ρ h w v h' := by
  unfold yieldE at he
  split at he
  · rename_i pend tm N ps x y hget
    split at he
    · rename_i tm0 hps
      split at he
      · rename_i tm1 h1 hx
        split at he
        · rename_i pend' tmL NL psL xL yL hget1
          split at he
          · rename_i ex tm3 h3 hy
            split at he
            · rename_i jump hj
              obtain ⟨hb, tmps, fn, D, htm, hN, hheap⟩ := hr.obj a _ l hget rfl hl
              obtain ⟨q1, q2, q3⟩ := setPs_sound hps ha hN htm
              have hy0 := run_yield (P := P) (w := w) (l := l.blk) (r := { state := .ready, pending := pend, fn, tmps, params := ps.toArray, assign := x, body := y, defers := D }) (args := ARGS.toArray) hheap (by simpa using q1)
              refine ⟨_, _, _, _, _, hy0, ?_⟩
              have hz : (ps.toArray.zip ARGS.toArray).foldl (fun tmps (t, a) => tmps.setIfInBounds t a) tmps = (ps.zip ARGS).foldl (fun tmps (t, a) => tmps.setIfInBounds t a) tmps := by simp
              simp only [hz]
              refine roundIn_of_wpIn (F := Fence.wide) trivial ?_
              refine wpIn_post (r := some l.blk) (B := 0) (codeR_sound hdraw hcall N _ _ _ _ _ _ hx) ⟨q2, hr, hfr, q3, (show Clean 0 w [] from trivial), Nat.zero_le _⟩ fun ρ1 a1 w1 k1 k2 => ?_
              have hl1 : ρ1 a = some l := k2.nx.le _ _ hl
              obtain ⟨hb1, tmps1, fn1, D1, htm1, hN1, hheap1⟩ := k1.hr.obj a _ l hget1 rfl hl1
              refine ⟨_, run_beginRound hheap1 rfl, ?_⟩
              obtain ⟨w2, hw2⟩ : ∃ w2, w2 = w1.putObj l.blk (.loop { state := .busy, pending := pend', fn := fn1, tmps := tmps1, params := psL.toArray, assign := xL, body := yL, defers := D1 }) := ⟨_, rfl⟩
              have way2 : Way ρ1 h1 w1 ρ1 ⟨h1.next, h1.t.set a (.loop .busy pend' tmL NL psL xL yL)⟩ w2 := by
                rw [hw2]
                refine way_set k1.fresh hl1 (nx_set k1.hr hget1 rfl hl1 (fun b => T.get_set _ _ _ _) ⟨rfl, rfl, rfl⟩ (by simp) (fun r hr => World.putObj_heap_other hr) rfl ⟨tmps1, fn1, D1, htm1, hN1, ?_⟩)
                exact World.putObj_heap_same hb1
              rw [← hw2]
              refine wpIn_post (r := some l.blk) (B := 0) (codeR_sound hdraw hcall N _ _ _ _ _ _ hy) ⟨k1.tr.mono way2.nx.le, way2.nx.rel, way2.fresh, k1.size, k1.defers.nx k1.hr way2.nx, Nat.zero_le _⟩ fun ρ3 a3 w3 j1 j2 => ?_
              have hl3 : ρ3 a = some l := j2.nx.le _ _ hl1
              have wayAll : Way ρ h w ρ3 h3 w3 := k2.trans (way2.trans j2)
              have fin : ∃ v' w', (Instr.endRound l.blk jump).run P w3 = .ok v' w' ∧ ∃ ρ' V, Ending.returned v' = .returned V ∧ VR ρ' v V ∧ Way ρ h w ρ' h' w' := by
                unfold yieldEnd at he
                split at he
                · rename_i st4 pend4 tm4 N4 ps4 x4 y4 hget4
                  obtain ⟨hb4, tmps4, fn4, D4, htm4, hN4, hheap4⟩ := j1.hr.obj a _ l hget4 rfl hl3
                  have hrun := run_endRound (P := P) jump hheap4
                  refine ⟨_, _, hrun, ρ3, _, rfl, ?_⟩
                  cases jump with
                  | none =>
                    simp at he; obtain ⟨rfl, rfl⟩ := he
                    refine ⟨by simp [VR], wayAll.trans (way_set j1.fresh hl3 (nx_set j1.hr hget4 rfl hl3 (fun b => T.get_set _ _ _ _) ⟨rfl, rfl, rfl⟩ (by simp) (fun r hr => World.putObj_heap_other hr) rfl ⟨tmps4, fn4, D4, htm4, hN4, ?_⟩))⟩
                    exact World.putObj_heap_same hb4
                  | some c =>
                    simp at he; obtain ⟨rfl, rfl⟩ := he
                    refine ⟨by simp [VR], wayAll.trans (way_set j1.fresh hl3 (nx_set j1.hr hget4 rfl hl3 (fun b => T.get_set _ _ _ _) ⟨rfl, rfl, rfl⟩ (by simp) (fun r hr => World.putObj_heap_other hr) rfl ⟨tmps4, fn4, D4, htm4, hN4, ?_⟩))⟩
                    exact World.putObj_heap_same hb4
                · simp at he
              cases ex with
              | normal => simp [exJump] at hj; subst hj; exact fin
              | ret => simp [exJump] at hj; subst hj; exact fin
              | exit id => simp [exJump] at hj; subst hj; exact fin
              | goto l' => simp [exJump] at hj
            · simp at he
          · simp at he
        · simp at he
      · simp at he
    · simp at he
  · simp at he

theorem callE_sound {P : Program} {draw : DrawE} (hdraw : DrawOK P draw) {X : FuncId → Option ATag} (hX : KnownX P X) {S : FuncId → H → Option Bool} (hS : KnownS P S) (fuel : Nat) : ∀ n, CallOK true P (callE P draw X S fuel n) := by
  intro n
  induction n with
  | zero => intro f args h v h' he; simp [callE] at he
  | succ n ih =>
    intro f args h v h' he ρ w ARGS ha hr hf
    change (match (generalizing := false) Nat.ble ykey f with
      | true => yieldE P draw (callE P draw X S fuel n) (Nat.sub f ykey) args h
      | false => match (generalizing := false) S f h with
        | some b => match (generalizing := false) args with
          | [] => some (AV.bool b, h)
          | _ => none
        | none => match (generalizing := false) P.funcs[f]? with
          | some fn => match (generalizing := false) fn.name == "runtime.NumGoroutine" with
            | true => none
            | false => match (generalizing := false) fn.body with
              | some c => match (generalizing := false) bodyE P draw (callE P draw X S fuel n) fuel fn c args h with
                | none => forkE P draw (callE P draw X S fuel n) fuel fn c args h
                | r => r
              | none => match (generalizing := false) X f with
                | some tag => evA h tag args
                | none => none
          | none => none) = _ at he
    split at he
    · rename_i hkey
      exact .inr ⟨rfl, hkey, fun l hl => yieldE_sound hdraw ih he ha hr hf hl⟩
    · rename_i hkey
      refine .inl ⟨hkey, ?_⟩
      split at he
      · rename_i b hb
        split at he
        · simp only [Option.some.injEq, Prod.mk.injEq] at he
          obtain ⟨rfl, rfl⟩ := he
          simp only [VRs] at ha; subst ha
          obtain ⟨⟨fn, c, h1, h2, h3⟩, hc⟩ := hS f h b hb
          refine .inr ⟨f, #[], run_callFunc_enter h1 h2 h3 _ _, Calls.mono (hc ρ w hr) fun e w' hh => ?_⟩
          obtain ⟨rfl, k1, k2, k3⟩ := hh
          refine ⟨ρ, _, rfl, rfl, ⟨?_, Le.refl _, k1, k2, fun r hr _ => k3 r hr, fun a o l h1 h2 h3 _ => ⟨a, o, l, h1, h2, h3, rfl⟩⟩, hf, Kp.refl _ _⟩
          exact ⟨fun a o l h1 h2 h3 => by
            obtain ⟨j1, j2⟩ := hr.obj a o l h1 h2 h3
            exact ⟨by omega, OIn.congr (k3 _ j1) j2⟩, hr.inj⟩
        · simp at he
      · split at he
        · rename_i fn hfn
          split at he
          · simp at he
          · rename_i hname
            split at he
            · rename_i c hb
              split at he
              · exact .inr ⟨f, ARGS.toArray, run_callFunc_enter hfn hname hb _ _, forkE_sound hdraw ih hfn hb he ha hr hf⟩
              · exact .inr ⟨f, ARGS.toArray, run_callFunc_enter hfn hname hb _ _, bodyE_sound hdraw ih hfn hb he ha hr hf⟩
            · rename_i hb
              split at he
              · rename_i tag ht
                obtain ⟨fn', h1, h2, h3, h4, h5⟩ := hX f tag ht
                obtain ⟨ρ', w', V, k1, k2, k3⟩ := evA_sound (P := P) hr hf he ha
                refine .inl ⟨ρ', w', V, .inl ?_, k2, k3⟩
                rw [run_callFunc_extern h1 h2 h3 h4 h5, k1]
                rfl
              · simp at he
        · simp at he

/-- where the objects lie when nothing is known but the global variables -/
def rho0 : Rho := ⟨fun a => if a < glob then some ⟨a, 0, 0⟩ else none, fun g hg => ⟨0, if_pos hg⟩⟩
theorem rho0_fresh : Fresh rho0 glob := fun a ha => if_neg (by omega)
/-- What a closed function does: from nothing at all but tables. -/
theorem closed {P : Program} {draw : DrawE} (hdraw : DrawOK P draw) {X : FuncId → Option ATag} (hX : KnownX P X) {S : FuncId → H → Option Bool} (hS : KnownS P S) {fuel n : Nat} {f : FuncId} {fn : Func} {c : Code} (hf : P.funcs[f]? = some fn) (hname : (fn.name == "runtime.NumGoroutine") = false) (hb : fn.body = some c) {b : Bool} (hkey : Nat.ble ykey f = false)
    {h0 : H} (hn : h0.next = glob) (hmut : ∀ a o, h0.t.get a = some o → o.mut = false)
    (he : (match callE P draw X S fuel (n + 1) f [] h0 with
      | some (.bool x, _) => some x
      | _ => none) = some b) (w : World) (hr : HR rho0 h0.t.get w) :
    Calls P f #[] w fun e w' => e = .returned (.bool b) ∧ Env w w' ∧ w.heap.size ≤ w'.heap.size ∧ ∀ r, r < w.heap.size → w'.heap[r]? = w.heap[r]? := by
  split at he
  · rename_i x h' hc
    simp at he; subst he
    have hx := callE_sound hdraw hX hS fuel (n + 1) f [] h0 _ _ hc rho0 w [] rfl hr (by rw [hn]; exact rho0_fresh)
    rcases hx with ⟨_, ⟨ρ', w', V, h1 | ⟨h1, _⟩, _⟩ | ⟨g, as, h1, h2⟩⟩ | ⟨_, hk, _⟩
    · have := run_callFunc_enter hf hname hb #[] w
      rw [this] at h1; simp at h1
    · have := run_callFunc_enter hf hname hb #[] w
      rw [this] at h1; simp at h1
    · have := run_callFunc_enter hf hname hb #[] w
      rw [this] at h1
      simp at h1
      obtain ⟨rfl, rfl⟩ := h1
      refine Calls.mono h2 fun e w' hh => ?_
      obtain ⟨ρ', V, rfl, k1, k2⟩ := hh
      simp only [VR] at k1; subst k1
      exact ⟨rfl, k2.nx.env, k2.nx.size, fun r hr => k2.nx.frame r hr fun a o l h1 h2 => by rw [hmut a o h1] at h2; simp at h2⟩
    · rw [hkey] at hk; simp at hk
  · simp at he

/-! ### Tables -/
/-- a global variable that holds a table of integers -/
def TabW (g : Nat) (k : IntKind) (l : List Int) (w : World) : Prop := ∃ c e f, w.heap[g]? = some (.cells c e f) ∧ ∀ (i : Nat) (n : Int), l[i]? = some n → c[i]? = some (Value.int k n)
def tabH (g : Nat) (k : IntKind) (l : List Int) : H := ⟨glob, T.set .e g (.tab (putList 0 (l.map (.int k)) .e))⟩
def chkTab (k : IntKind) : List Int → T AV → Nat → Bool
  | [], _, _ => true
  | n :: l, cells, i => (match cells.get i with
    | some (.int k' m) => decide (k' = k) && iEq m n
    | _ => false) && chkTab k l cells (i + 1)
def hasTab (g : Nat) (k : IntKind) (l : List Int) (h : H) : Bool := match h.t.get g with
  | some (.tab cells) => chkTab k l cells 0
  | _ => false
theorem chkTab_at {k : IntKind} {cells : T AV} : ∀ {l : List Int} {i : Nat}, chkTab k l cells i = true → ∀ j n, l[j]? = some n → cells.get (i + j) = some (.int k n)
  | [], i, h, j, n, hj => by simp at hj
  | m :: l, i, h, j, n, hj => by
    simp only [chkTab, Bool.and_eq_true] at h
    cases j with
    | zero =>
      simp at hj; subst hj
      have h1 := h.1
      split at h1
      · rename_i k' x hx
        simp only [Bool.and_eq_true, decide_eq_true_eq, iEq_eq, beq_iff_eq] at h1
        rw [Nat.add_zero, hx, h1.1, h1.2]
      · simp at h1
    | succ j =>
      have := chkTab_at h.2 j n (by simpa using hj)
      rw [← this]; congr 1; omega
theorem hasTab_w {g : Nat} {k : IntKind} {l : List Int} {h : H} (hg : g < glob) (hh : hasTab g k l h = true) {ρ : Rho} {w : World} (hr : HR ρ h.t.get w) : TabW g k l w := by
  unfold hasTab at hh
  split at hh
  · rename_i cells hc
    obtain ⟨r, hl⟩ := ρ.own g hg
    obtain ⟨_, c, e, f, h1, h2⟩ := hr.obj g _ _ hc rfl hl
    refine ⟨c, e, f, h1, fun i n hi => ?_⟩
    have := chkTab_at hh i n hi
    rw [Nat.zero_add] at this
    obtain ⟨V, k1, _, k2⟩ := h2 i _ this
    simp only [VR] at k1; subst k1
    simpa using k2
  · simp at hh
theorem tabH_mut {g : Nat} {k : IntKind} {l : List Int} : ∀ a o, (tabH g k l).t.get a = some o → o.mut = false := by
  intro a o h
  simp only [tabH, T.get_set] at h
  by_cases e : a = g
  · rw [if_pos e] at h; simp at h; subst h; rfl
  · rw [if_neg e, T.get_e] at h; simp at h
theorem tabH_hr {g : Nat} {k : IntKind} {l : List Int} (hg : g < glob) {w : World} (hw : TabW g k l w) : HR rho0 (tabH g k l).t.get w := by
  obtain ⟨c, e, f, h1, h2⟩ := hw
  have key : ∀ a o, (tabH g k l).t.get a = some o → a = g ∧ o = .tab (putList 0 (l.map (.int k)) .e) := by
    intro a o h
    simp only [tabH, T.get_set] at h
    by_cases e : a = g
    · rw [if_pos e] at h; simp at h; exact ⟨e, h.symm⟩
    · rw [if_neg e, T.get_e] at h; simp at h
  refine ⟨fun a o m ha ho hm => ?_, fun a b o p m n ha _ hb _ _ _ _ => ?_⟩
  · obtain ⟨rfl, rfl⟩ := key a o ha
    have hm' : rho0 a = some ⟨a, 0, 0⟩ := if_pos hg
    rw [hm'] at hm; simp at hm; subst hm
    refine ⟨(Array.getElem?_eq_some_iff.1 h1).1, c, e, f, h1, fun i v hi => ?_⟩
    rw [putList_get] at hi
    by_cases hh : 0 ≤ i ∧ i < 0 + (l.map (AV.int k)).length
    · rw [if_pos hh] at hi
      simp only [Nat.sub_zero, List.getElem?_map, Option.map_eq_some_iff] at hi
      obtain ⟨n, hn, rfl⟩ := hi
      exact ⟨.int k n, by simp [VR], rfl, by simpa using h2 i n hn⟩
    · rw [if_neg hh, T.get_e] at hi; simp at hi
  · rw [(key a o ha).1, (key b p hb).1]
/-- nothing at all -/
def noH : H := ⟨glob, .e⟩
theorem noH_mut : ∀ a o, noH.t.get a = some o → o.mut = false := fun a o h => by simp [noH, T.get_e] at h
theorem noH_hr (w : World) : HR rho0 noH.t.get w := ⟨fun a o l h => by simp [noH, T.get_e] at h, fun a b o p l m h => by simp [noH, T.get_e] at h⟩
/-- what the evaluator says of a function without arguments -/
def saysE (P : Program) (draw : DrawE) (X : FuncId → Option ATag) (S : FuncId → H → Option Bool) (fuel n : Nat) (f : FuncId) (h0 : H) : Option Bool :=
  match callE P draw X S fuel n f [] h0 with
  | some (.bool x, _) => some x
  | _ => none
theorem says_closed {P : Program} {draw : DrawE} (hdraw : DrawOK P draw) {X : FuncId → Option ATag} (hX : KnownX P X) {S : FuncId → H → Option Bool} (hS : KnownS P S) {fuel n : Nat} {f : FuncId} (hf : hasE P f = true) {b : Bool} (hkey : Nat.ble ykey f = false)
    {h0 : H} (hn : h0.next = glob) (hmut : ∀ a o, h0.t.get a = some o → o.mut = false) (he : saysE P draw X S fuel (n + 1) f h0 = some b) (w : World) (hr : HR rho0 h0.t.get w) :
    Calls P f #[] w fun e w' => e = .returned (.bool b) ∧ Env w w' ∧ w.heap.size ≤ w'.heap.size ∧ ∀ r, r < w.heap.size → w'.heap[r]? = w.heap[r]? := by
  obtain ⟨fn, c, h1, h2, h3⟩ := hasE_of hf
  exact closed hdraw hX hS h1 h2 h3 hkey hn hmut he w hr

/-- functions without a body, by a list -/
def lookX (l : List (Nat × ATag)) (f : Nat) : Option ATag :=
  List.rec none (fun p _ ih => cond (Nat.beq p.1 f) (some p.2) ih) l
def okX (P : Program) (p : Nat × ATag) : Prop :=
  (P.funcs[p.1]?).map (fun fn => (fn.name == "runtime.NumGoroutine", fn.body.isNone, (Extern.findNext fn).isNone)) = some (false, true, true) ∧ (P.funcs[p.1]?).bind Extern.find = some p.2.fn
theorem lookX_known {P : Program} : ∀ {l : List (Nat × ATag)}, (∀ p ∈ l, okX P p) → KnownX P (lookX l)
  | [], _, f, tag, h => by cases h
  | p :: l, hl, f, tag, h => by
    change cond (Nat.beq p.1 f) (some p.2) (lookX l f) = some tag at h
    cases hb : Nat.beq p.1 f with
    | true =>
      rw [hb] at h
      simp at h; subst h
      have : p.1 = f := Nat.eq_of_beq_eq_true hb
      subst this
      obtain ⟨h1, h2⟩ := hl p (by simp)
      cases hf : P.funcs[p.1]? with
      | none => rw [hf] at h1; simp at h1
      | some fn =>
        rw [hf] at h1 h2
        simp only [Option.map_some, Option.some.injEq, Prod.mk.injEq] at h1
        obtain ⟨k1, k2, k3⟩ := h1
        exact ⟨fn, rfl, k1, k2, by simpa using k3, h2⟩
    | false =>
      rw [hb] at h
      exact lookX_known (fun q hq => hl q (by simp [hq])) f tag h

/-- one function more that is known, where the heap passes a look -/
def addS (g : Nat) (b : Bool) (chk : H → Bool) (S : FuncId → H → Option Bool) (f : FuncId) (h : H) : Option Bool := cond (Nat.beq g f) (cond (chk h) (some b) none) (S f h)
theorem addS_known {P : Program} {g : Nat} {b : Bool} {chk : H → Bool} {S : FuncId → H → Option Bool} (hS : KnownS P S) (hg : hasE P g = true)
    (hh : ∀ (ρ : Rho) (h : H) (w : World), chk h = true → HR ρ h.t.get w → Calls P g #[] w fun e w' => e = .returned (.bool b) ∧ Env w w' ∧ w.heap.size ≤ w'.heap.size ∧ ∀ r, r < w.heap.size → w'.heap[r]? = w.heap[r]?) : KnownS P (addS g b chk S) := by
  intro f h c hc
  unfold addS at hc
  cases hb : Nat.beq g f with
  | true =>
    rw [hb] at hc
    cases hk : chk h with
    | true =>
      rw [hk] at hc
      simp at hc; subst hc
      have : g = f := Nat.eq_of_beq_eq_true hb
      subst this
      exact ⟨hasE_of hg, fun ρ w hr => hh ρ h w hk hr⟩
    | false => rw [hk] at hc; simp at hc
  | false => rw [hb] at hc; exact hS f h c hc
/-- no function is known -/
def noS : FuncId → H → Option Bool := fun _ _ => none
theorem noS_known {P : Program} : KnownS P noS := fun _ _ _ h => by cases h
end
end Go.Proofs.YtjkahbgkfenfcaaGreatDoor.Ev
