/-
  An evaluator of Go code over relative heaps, part T: functions.
  Open evaluation, part Oa: regions whose operations are not wholly ordered, their checks as propositions.
  Open evaluation, part Ob: code made ready, and what it does, as propositions that may have open terms.
  Open evaluation, part Oc: regions, code and functions.
  Open evaluation, part Od: code and functions.
-/
import Derived.Test.YtldmhpdjlgoenaaGreatDoorEoS
import Derived.Test.YtldmhpdjlgoenaaGreatDoorEoZd
set_option linter.unusedVariables false
set_option linter.unusedSimpArgs false
namespace Go.Proofs.YtldmhpdjlgoenaaGreatDoor.Eo
noncomputable section

theorem run_results {P : Program} {ρ : Rho} {tm : T AV} {h : H} {a : Act} {w : World} (ht : TR ρ tm a.tmps) (hr : HR ρ h.t.get w) {fn : Func} {vs : List AV} (hv : resA P tm h.t.get fn.results.toList = some vs) :
    ∃ V, VR ρ (packA vs) V ∧ (results fn a.tmps).run P w = .ok V w := by
  obtain ⟨VS, k1, k2⟩ := resA_sound ht hr hv
  have hm : (fn.results.mapM (resOf a)).run P w = Result.ok VS.toArray w := by
    rw [Array.mapM_eq_mapM_toList]
    simp [k2]
  have hr : (results fn a.tmps).run P w = .ok (if h : VS.toArray.size = 1 then VS.toArray[0] else .tuple VS.toArray) w := by
    have : results fn a.tmps = (do
      let vs ← fn.results.mapM (resOf a)
      pure (if h : vs.size = 1 then vs[0] else .tuple vs)) := by
      unfold results
      congr 1
    rw [this]
    simp only [Sem.run_bind, hm, Result.andThen_ok, Sem.run_pure]
  refine ⟨_, ?_, hr⟩
  have hl := k1.length
  match vs, VS, k1, hl with
  | [v], [V], k1, _ =>
    simp only [VRs] at k1
    obtain ⟨V', M, h1, rfl, h2⟩ := k1
    simp at h2; subst h2
    simpa [packA] using h1
  | [], [], k1, _ => simp only [packA, VR]; exact ⟨[], rfl, by simp⟩
  | v :: u :: l, V :: U :: L, k1, _ =>
    simp only [packA, VR]
    exact ⟨_, k1, by simp⟩

/-- A mark's block is shut: nothing that is known is there. -/
theorem way_shut {ρ0 ρ : Rho} {h0 h : H} {w0 w : World} (hw : Way ρ0 h0 w0 ρ h w) {D : Nat} (hD : w.heap[D]? = some (.deferred (some []))) (hb : w0.heap.size ≤ D) : Way ρ0 h0 w0 ρ h (w.putObj D (.deferred none)) := by
  refine ⟨⟨⟨fun a o l h1 h2 h3 => ?_, hw.nx.rel.inj⟩, hw.nx.le, ⟨hw.nx.env.os, hw.nx.env.tape, hw.nx.env.output⟩, by simpa using hw.nx.size, fun r hr hn => ?_, hw.nx.back⟩, hw.fresh, hw.kp⟩
  · obtain ⟨k1, k2⟩ := hw.nx.rel.obj a o l h1 h2 h3
    exact ⟨by simpa using k1, OIn.congr (World.putObj_heap_other (hw.nx.rel.not_def hD a o l h1 h2 h3)) k2⟩
  · exact (World.putObj_heap_other (by omega)).trans (hw.nx.frame r hr hn)
theorem clean_shut {B : Nat} {w : World} {D : Nat} : ∀ {ds : List Deferred}, Clean B w ds → (∀ e ∈ ds, e ≠ { target := .collected D, args := #[] }) → Clean B (w.putObj D (.deferred none)) ds
  | [], _, _ => trivial
  | d :: ds, h, hne => by
    obtain ⟨⟨D', h1, h2, h3, h4⟩, h5⟩ := h
    refine ⟨⟨D', h1, h2, ?_, h4⟩, clean_shut h5 fun e he => hne e (by simp [he])⟩
    rw [World.putObj_heap_other]
    · exact h3
    · rintro rfl
      exact hne d (by simp) h1
theorem leaves {P : Program} {fn : Func} {tmps : Array Value} {R : Ending → World → Prop} {ρ0 ρ : Rho} {h0 h : H} {w0 : World} (hR : ∀ w, HR ρ h.t.get w → Way ρ0 h0 w0 ρ h w → ∃ V, (results fn tmps).run P w = .ok V w ∧ R (.returned V) w) :
    ∀ {ds : List Deferred} {w : World}, Clean w0.heap.size w ds → Way ρ0 h0 w0 ρ h w → LeavesInM Fence.wide 0 P fn tmps R ds .returning w
  | [], w, _, hw => hR w hw.nx.rel hw
  | d :: ds, w, h, hw => by
    obtain ⟨⟨D, h1, h2, h3, h4⟩, h5⟩ := h
    refine ⟨by simp, .inl ⟨D, w.putObj D (.deferred none), by rw [h1], run_takeDeferred h3, ?_⟩⟩
    exact leaves hR (clean_shut h5 fun e he => by rw [← h1]; exact h4 e he) (way_shut hw h3 h2)

/-- where the objects lie when nothing is known but the global variables -/
def rho0 : Rho := ⟨fun a => if a < glob then some ⟨a, 0, 0⟩ else none, fun g hg => ⟨0, if_pos hg⟩⟩
theorem rho0_fresh : Fresh rho0 glob := fun a ha => if_neg (by omega)
/-! ### Tables -/
/-- nothing at all -/
def noH : H := ⟨glob, .e⟩
theorem noH_mut : ∀ a o, noH.t.get a = some o → o.mut = false := fun a o h => by simp [noH, T.get_e] at h
theorem noH_hr (w : World) : HR rho0 noH.t.get w := ⟨fun a o l h => by simp [noH, T.get_e] at h, fun a b o p l m h => by simp [noH, T.get_e] at h⟩
end
end Go.Proofs.YtldmhpdjlgoenaaGreatDoor.Eo

namespace Go.Proofs.YtldmhpdjlgoenaaGreatDoor.Eo
noncomputable section

/-- what is asked of the records of a region -/
def ChkP (P : Program) (ops : List Oper) (m : OT Nat) (N : Nat) (es : List Nat) (tm0 : T AV) (F : T Rec) (hs : List H) : Prop :=
  ∀ i o, ops[i]? = some o → ∃ r, F.get i = some r ∧
    (∀ v, r = .read v → ∃ tm, localTm ops m N tm0 F i o = some tm ∧ ∀ l h, hs[l]? = some h → mayAt m i es l = true → readAt P tm h o = some v) ∧
    (∀ v a ao q, r = .alloc v a ao (q + 1) → ∃ e, es[q]? = some e ∧ bef m i e = true) ∧
    (∀ v, r = .eff v → es.contains i = true)
theorem stepAnyP {P : Program} {call : CallE} (hcall : CallOK false P call) {ops : Array Oper} {N : Nat} {es : List Nat} {F : T Rec} {h0 : H} {ρ0 : Rho} {w0 : World} {a0 : Act} {listed : Array Bool} {k : Nat} {hk : H} {ρ : Rho} {a : Act} {w : World} {tm0 : T AV} {hs : List H}
    (hok : edgesOk ops.toList 0 = true) (hch : chainOk (preds ops.toList) es = true) {n : Nat} (hdr : drE P call ops.toList (preds ops.toList) N tm0 0 (phasesOf (preds ops.toList) es n 0 es) .e h0 = some (F, hs))
    (hchk : ChkP P ops.toList (preds ops.toList) N es tm0 F hs) (ht0 : TR ρ0 tm0 a0.tmps) (hN0 : a0.tmps.size = N)
    (hI : Inv ops N es F h0 ρ0 w0 a0 listed k hk ρ a w) (hhk : hs[k]? = some hk) {i : Nat} {o : Oper} (hn : Next ops listed i o) {Q : Exit → Act → World → Prop} {K : Act → World → Prop}
    (hK : ∀ k' hk' ρ' a' w', hs[k']? = some hk' → Inv ops N es F h0 ρ0 w0 a0 (listed.setIfInBounds i true) k' hk' ρ' a' w' → K a' w') : wpOp P ops Q i K a w := by
  obtain ⟨r, hr, c1, c2, c3⟩ := hchk i o (by simpa using hn.op)
  obtain ⟨d1, d2, d3, d4, d5⟩ := drE_sound hdr (by intro i v a ao p h; simp [T.get_e] at h)
  obtain ⟨e1, e2, e3⟩ := certAt d2
  have before : ∀ (l e : Nat), es[l]? = some e → bef (preds ops.toList) i e = true → l < k := fun l e hl hb => (hI.effs l e hl).1 (hn.bef_on hI.down hok hb)
  rcases d3 i r hr with hh | ⟨v, rfl⟩ | ⟨o', ph, hh, hh', ho', hq⟩
  · simp [T.get_e] at hh
  · have hmem := c3 v rfl
    have : i ∈ es := by simpa using hmem
    obtain ⟨l, hl⟩ := List.getElem?_of_mem this
    have hnl : ¬ l < k := fun h => hn.new ((hI.effs l i hl).2 h)
    have hlk : l = k := by
      rcases Nat.lt_or_ge k l with h | h
      · obtain ⟨f, hf⟩ : ∃ f, es[k]? = some f := ⟨es[k]'(Nat.lt_trans h (List.getElem?_eq_some_iff.1 hl).1), by simp⟩
        have := before k f hf (chain_spec hch k l f i hf hl h)
        omega
      · omega
    subst hlk
    obtain ⟨hk1, v', h2, hk', o'', f1, f2, f3, f4, f5, f6, f7⟩ := e3 l i hl
    rw [hhk] at f1; simp at f1; subst f1
    have : o'' = o := by
      have := hn.op
      have f2' : ops[i]? = some o'' := by simpa using f2
      rw [f2'] at this; simpa using this
    subst this
    rw [hr] at f3; simp at f3; subst f3
    rw [Nat.zero_add] at f6 f7
    refine stepF hcall hI hok ht0 hN0 hn hl (fun l' hl' => ?_) hr f4 f6 f7 (fun ρ' a' w' hI' => hK _ _ _ _ _ f5 hI')
    rcases Nat.lt_trichotomy l' l with h | h | h
    · have := (bef_sound hok (chain_spec hch l' l i i hl' hl h)).1; omega
    · exact h
    · have := (bef_sound hok (chain_spec hch l l' i i hl hl' h)).1; omega
  · have : o' = o := by
      have := hn.op
      have f2' : ops[i]? = some o' := by simpa using ho'
      rw [f2'] at this; simpa using this
    subst this
    have hne := (opQ_heap hq).1
    have hes : ∀ l : Nat, es[l]? ≠ some i := by
      intro l hl
      obtain ⟨_, v', _, _, _, _, _, f3, _⟩ := e3 l i hl
      rw [hr] at f3; simp at f3
      exact hne v' f3
    refine stepQ hI hok ht0 hN0 hn hq hr hes (fun v hv tm htm => ?_) (fun v b ao p hv => ?_) (fun ρ' a' w' hI' => hK _ _ _ _ _ hhk hI')
    · obtain ⟨tm', g1, g2⟩ := c1 v hv
      rw [htm] at g1; simp at g1; subst g1
      refine g2 k hk hhk ?_
      exact mayAt_ok (fun l e hl hlt => hn.not_bef hI.down hok ((hI.effs l e hl).2 hlt)) (fun l e hl hge => by
        cases hb : bef (preds ops.toList) i e with
        | false => rfl
        | true => have := before l e hl hb; omega)
    · subst hv
      refine ⟨?_, ?_, fun j v' ao' p' hj => ?_⟩
      · cases p with
        | zero => omega
        | succ q =>
          obtain ⟨e, he, hb⟩ := c2 _ _ _ _ rfl
          exact before q e he hb
      · rcases d4 i _ _ _ _ hr with hh | ⟨_, hh⟩
        · simp [T.get_e] at hh
        · exact hh
      · exact d5 j i _ _ _ _ _ _ _ (T.get_e _) hj (T.get_e _) hr
/-- A region whose operations are not wholly ordered. -/
theorem drawP_does {P : Program} (hm : P.follows .mixedOrders = true) {call : CallE} (hcall : CallOK true P call) {id : Nat} {ops : Array Oper} {N : Nat} {tm : T AV} {h : H} {F : T Rec} {hs : List H} {hl : H}
    (hok : edgesOk ops.toList 0 = true) (hch : chainOk (preds ops.toList) (effsFrom P ops.toList 0) = true) (hnd : noDefer ops.toList = true)
    (hdr : drE P (plainCall call) ops.toList (preds ops.toList) N tm 0 (phasesOf (preds ops.toList) (effsFrom P ops.toList 0) ops.toList.length 0 (effsFrom P ops.toList 0)) .e h = some (F, hs))
    (hchk : ChkP P ops.toList (preds ops.toList) N (effsFrom P ops.toList 0) tm F hs) (hlast : lastH hs = some hl) : DoesR P (.region id ops true) N tm h .normal (finalTm F ops.toList 0 tm) hl := by
  intro r B ρ0 a0 w0 hs0
  obtain ⟨d1, d2, d3, d4, d5⟩ := drE_sound hdr (by intro i v a ao p h; simp [T.get_e] at h)
  obtain ⟨e1, ⟨hk0, e2, e2', e2''⟩, e3⟩ := certAt d2
  have hF : ∀ i o, ops[i]? = some o → ∃ r, F.get i = some r := fun i o ho => by
    obtain ⟨r, hr, _⟩ := hchk i o (by simpa using ho)
    exact ⟨r, hr⟩
  have main : ∀ fuel listed k hk ρ a w, Inv ops N (effsFrom P ops.toList 0) F h ρ0 w0 a0 listed k hk ρ a w → hs[k]? = some hk → (List.range ops.size).countP (fun i => !listed.getD i false) ≤ fuel →
      wpAny P .any ops (fun e a' w' => e = Ex.normal.out ∧ ∃ ρ', St B N ρ' (finalTm F ops.toList 0 tm) hl a' w' ∧ Way ρ0 h w0 ρ' hl w') fuel listed a w := by
    have done : ∀ listed k hk ρ a w, Inv ops N (effsFrom P ops.toList 0) F h ρ0 w0 a0 listed k hk ρ a w → hs[k]? = some hk → (∀ i, i < ops.size → On listed i) →
        Ex.normal.out = Ex.normal.out ∧ ∃ ρ', St B N ρ' (finalTm F ops.toList 0 tm) hl a w ∧ Way ρ0 h w0 ρ' hl w := by
      intro listed k hk ρ a w hI hhk hall
      have hkl : k = (effsFrom P ops.toList 0).length := by
        rcases Nat.lt_or_ge k (effsFrom P ops.toList 0).length with hlt | hge
        · have hx : (effsFrom P ops.toList 0)[k]? = some ((effsFrom P ops.toList 0)[k]) := by simp [hlt]
          obtain ⟨_, _, _, _, o, _, f2, _⟩ := e3 k _ hx
          have := (hI.effs k _ hx).1 (hall _ (by have := (List.getElem?_eq_some_iff.1 f2).1; simpa using this))
          omega
        · have := hI.kle; omega
      have : hl = hk := by
        have := lastH_at hlast e1
        rw [← hkl, hhk] at this
        simpa using this.symm
      subst this
      exact ⟨rfl, ρ, ⟨end_tr hI hs0.tr hs0.size hall hF, hI.nx.rel, hI.fresh, hI.tsize, by rw [hI.defers]; exact hs0.defers.nx hs0.hr hI.nx, Nat.le_trans hs0.base hI.nx.size⟩, hI.nx, hI.fresh, hI.kp⟩
    intro fuel
    induction fuel with
    | zero =>
      intro listed k hk ρ a w hI hhk hc
      have hall : ∀ i, i < ops.size → On listed i := by
        intro i hi
        have h0 : (List.range ops.size).countP (fun i => !listed.getD i false) = 0 := by omega
        have := List.countP_eq_zero.1 h0 i (by simpa using hi)
        unfold On
        cases hh : listed.getD i false with
        | true => rfl
        | false => rw [hh] at this; simp at this
      refine ⟨?_, done _ _ _ _ _ _ hI hhk hall⟩
      cases hr : Region.ready .any ops listed with
      | nil => rfl
      | cons x xs =>
        have hx : x ∈ Region.ready .any ops listed := by rw [hr]; simp
        obtain ⟨q1, o, q2, _⟩ := mem_ready.1 hx
        have := hall x (Array.getElem?_eq_some_iff.1 q2).1
        unfold On at this
        have hlt : x < listed.size := by rw [hI.lsize]; exact (Array.getElem?_eq_some_iff.1 q2).1
        simp [hlt] at q1 this
        rw [q1] at this; simp at this
    | succ fuel ih =>
      intro listed k hk ρ a w hI hhk hc
      refine ⟨fun hr => done _ _ _ _ _ _ hI hhk (all_on hok hI.lsize hr), fun i hi => ?_⟩
      obtain ⟨q1, o, q2, q3⟩ := mem_ready.1 hi
      have hlt : i < listed.size := by rw [hI.lsize]; exact (Array.getElem?_eq_some_iff.1 q2).1
      have hno : listed.getD i false = false := by simp [hlt] at q1 ⊢; exact q1
      refine stepAnyP (plainCall_ok hcall) hok hch hdr hchk hs0.tr hs0.size hI hhk ⟨q2, by unfold On; rw [hno]; simp, fun e he hb => q3 e (by simpa using he) hb⟩ fun k' hk' ρ' a' w' hhk' hI' => ih _ _ _ _ _ _ hI' hhk' ?_
      have := count_lt (l := List.range ops.size) (x := i) (p := fun i => !listed.getD i false) (q := fun j => !(listed.setIfInBounds i true).getD j false) (by simpa using (Array.getElem?_eq_some_iff.1 q2).1) (by simp only [hno, Bool.not_false]) (by
        have : On (listed.setIfInBounds i true) i := (on_set hlt).2 (.inr rfl)
        unfold On at this; rw [this]; rfl) (fun y hy => by
        cases hh : listed.getD y false with
        | false => rfl
        | true =>
          have : On (listed.setIfInBounds i true) y := (on_set hlt).2 (.inl hh)
          unfold On at this; rw [this] at hy; simp at hy)
      omega
  refine wpIn_region_draw fun t => ?_
  simp only [Region.schedule, hm, Bool.true_or, if_true]
  refine wpOps_in (noDefer_at hnd) (by rintro ⟨_, _, hh, _⟩; simp [Ex.out] at hh) _ _ _ (wpAny_sound ops.size t _ a0 _ (main ops.size (Array.replicate ops.size false) 0 hk0 ρ0 a0 _ ?_ e2 (Nat.le_trans List.countP_le_length (by simp))))
  have hno : ∀ i, ¬ On (Array.replicate ops.size false) i := fun i => by
    unfold On
    rw [Array.getD_eq_getD_getElem?, Array.getElem?_replicate]
    split <;> simp
  have hd := Nx.drew (w' := { w0 with drawn := w0.drawn + 1 }) hs0.hr rfl ⟨rfl, rfl, rfl⟩
  refine ⟨by simp, fun i o _ hi => absurd hi (hno i), fun l e hl => ⟨fun hh => absurd hh (hno e), fun hh => by omega⟩, Nat.zero_le _, hd.ext hs0.fresh e2'.old, fun c hc => hs0.fresh c (Nat.le_trans e2'.next hc), ⟨e2'.next, fun c hc e => ⟨e, e2'.old c hc⟩⟩, fun i v b o p hi _ => ?_, fun t => .inr ⟨fun j o _ _ => hno j, rfl⟩, hs0.size, rfl⟩
  refine ⟨hs0.fresh b (e2'' i v b o p hi (Nat.zero_le _)), fun hp => ?_⟩
  have : p = 0 := by omega
  subst this
  obtain ⟨q1, q2, q3⟩ := e2'.at_ i v b o hi
  exact ⟨q3, q2⟩

end
end Go.Proofs.YtldmhpdjlgoenaaGreatDoor.Eo

namespace Go.Proofs.YtldmhpdjlgoenaaGreatDoor.Eo
noncomputable section

/-! ### What is looked at first (what comes behind is kept where the simplifier does not go) -/
class KW (α : Type) where
  k : α → Prop
class PW where
  p : Prop
def optI {α : Type} (o : Option α) [K : KW α] : Prop := match o with
  | some x => K.k x
  | none => False
abbrev optW {α : Type} (o : Option α) (K : α → Prop) : Prop := @optI α o ⟨K⟩
theorem optI_some {α : Type} (x : α) (K : α → Prop) : @optI α (some x) ⟨K⟩ = K x := rfl
theorem optW_elim {α : Type} {o : Option α} {K : α → Prop} (h : optW o K) : ∃ x, o = some x ∧ K x := by
  cases o with
  | none => exact h.elim
  | some x => exact ⟨x, rfl, h⟩
theorem optW_of {α : Type} {o : Option α} {K : α → Prop} {x : α} (h : o = some x) (k : K x) : optW o K := by rw [h]; exact k
def selI (b : Bool) [A : PW] [B : PW] : Prop := match b with
  | true => A.p
  | false => B.p
abbrev selW (b : Bool) (A B : Prop) : Prop := @selI b ⟨A⟩ ⟨B⟩
theorem selI_true (A B : Prop) : @selI true ⟨A⟩ ⟨B⟩ = A := rfl
theorem selI_false (A B : Prop) : @selI false ⟨A⟩ ⟨B⟩ = B := rfl
/-- the value of a condition -/
def boolA : AV → Option Bool
  | .bool b => some b
  | _ => none

/-! ### Operations in written order -/
structure SQ where
  dst : Option Nat
  gd : Option (Nat × Bool)
  c : COp
def cGd (ops : List Oper) (o : Oper) : Option (Option (Nat × Bool)) := match o.guard with
  | none => some none
  | some (j, want) => match gslot ops j with
    | some t => some (some (t, want))
    | none => none
def wantQ (tm : T AV) (g : Option (Nat × Bool)) : Option Bool := match g with
  | none => some true
  | some (t, want) => match tm.get t with
    | some (.bool b) => some (match b, want with | true, true => true | false, false => true | _, _ => false)
    | some (.tup _) => some false
    | _ => none
theorem wantQ_eq {ops : List Oper} {o : Oper} {g : Option (Nat × Bool)} (h : cGd ops o = some g) (tm : T AV) : wantA ops tm o = wantQ tm g := by
  unfold cGd at h
  unfold wantA
  split at h
  · rename_i hg
    simp at h; subst h
    rw [hg]; rfl
  · rename_i j want hg
    split at h
    · rename_i t ht
      simp at h; subst h
      rw [hg]
      simp only [ht]
      rfl
    · simp at h
def dLt (N : Nat) (d : Option Nat) : Bool := match d with
  | none => true
  | some d => Nat.ble (d + 1) N
def setO (tm : T AV) (d : Option Nat) (v : AV) : T AV := match d with
  | none => tm
  | some d => tm.set d v
theorem putT_eq {N : Nat} {d : Option Nat} (h : dLt N d = true) (tm : T AV) (v : AV) : putT N tm d v = some (setO tm d v) := by
  unfold dLt at h
  unfold putT setO
  split at h
  · rfl
  · rename_i d'; simp [h]
def cSQ (P : Program) (N : Nat) (ops : List Oper) (o : Oper) : Option SQ := match cGd ops o, cOp P o, dLt N o.dst with
  | some g, some c, true => some ⟨o.dst, g, c⟩
  | _, _, _ => none
def cSQs (P : Program) (N : Nat) (ops : List Oper) : List Oper → Option (List SQ)
  | [] => some []
  | o :: l => match cSQ P N ops o, cSQs P N ops l with
    | some q, some r => some (q :: r)
    | _, _ => none
/-- operations, one behind the other -/
def WS (P : Program) (call : CallE) : List SQ → (T AV → H → Prop) → T AV → H → Prop
  | [], K, tm, h => K tm h
  | q :: l, K, tm, h => optW (wantQ tm q.gd) fun b => selW b (optW (evOp P call tm h q.c) fun r => WS P call l K (setO tm q.dst r.1) r.2) (WS P call l K (setO tm q.dst (.tup [])) h)
theorem WS_sound {P : Program} {call : CallE} {N : Nat} {ops : List Oper} : ∀ {l : List Oper} {qs : List SQ}, cSQs P N ops l = some qs → ∀ {K : T AV → H → Prop} {tm : T AV} {h : H}, WS P call qs K tm h → ∃ tm' h', seqE P call ops N l tm h = some (tm', h') ∧ K tm' h'
  | [], qs, hc, K, tm, h, hw => by
    simp [cSQs] at hc; subst hc
    exact ⟨tm, h, rfl, hw⟩
  | o :: l, qs, hc, K, tm, h, hw => by
    unfold cSQs at hc
    split at hc
    · rename_i q r hq hr
      simp at hc; subst hc
      unfold cSQ at hq
      split at hq
      · rename_i g c hg hco hd
        simp at hq; subst hq
        unfold WS at hw
        unfold seqE stepE
        rw [wantQ_eq hg, hco]
        obtain ⟨b, hwant, hw⟩ := optW_elim hw
        simp only [] at hwant ⊢
        rw [hwant]
        cases b with
        | true =>
          obtain ⟨⟨v, h'⟩, hev, hw⟩ := optW_elim hw
          simp only [] at hev ⊢
          rw [hev]
          simp only [putT_eq hd]
          exact WS_sound hr hw
        | false =>
          simp only [putT_eq hd]
          exact WS_sound hr hw
      · simp at hq
    · simp at hc

/-! ### Regions whose operations are not wholly ordered -/
structure DQ where
  i : Nat
  lk : List (Nat × Option Nat)
  gd : Option (Nat × Bool)
  c : COp
def cDQ (P : Program) (ops : List Oper) (m : OT Nat) (N i : Nat) : Option DQ := match ops[i]? with
  | some o => match dstOk ops m N i o.dst, looksOf ops m i (slotsOf ops o), cGd ops o, cOp P o with
    | true, some lk, some g, some c => some ⟨i, lk, g, c⟩
    | _, _, _, _ => none
  | none => none
def cDQs (P : Program) (ops : List Oper) (m : OT Nat) (N : Nat) : List Nat → Option (List DQ)
  | [] => some []
  | i :: l => match cDQ P ops m N i, cDQs P ops m N l with
    | some q, some r => some (q :: r)
    | _, _ => none
def cPhs (P : Program) (ops : List Oper) (m : OT Nat) (N : Nat) : List (List Nat × Option Nat) → Option (List (List DQ × Option DQ))
  | [] => some []
  | (ids, none) :: l => match cDQs P ops m N ids, cPhs P ops m N l with
    | some qs, some r => some ((qs, none) :: r)
    | _, _ => none
  | (ids, some e) :: l => match cDQs P ops m N ids, cDQ P ops m N e, cPhs P ops m N l with
    | some qs, some q, some r => some ((qs, some q) :: r)
    | _, _, _ => none
/-- the record of an operation that is no effect -/
def qRec (P : Program) (tm : T AV) (h : H) (ph : Nat) : COp → Option (Rec × H)
  | .p x => match evP P tm x with
    | some v => some (.quiet v, h)
    | none => none
  | .r x => match evR tm h.t.get x with
    | some v => some (.read v, h)
    | none => none
  | .l x => match evL tm h.t.get x with
    | some v => some (.read v, h)
    | none => none
  | .s x => match evS tm h.t.get x with
    | some v => some (.read v, h)
    | none => none
  | .n x => match evN tm x with
    | some (ao, f) => some (.alloc (f h.next) h.next ao ph, ⟨h.next + 1, h.t.set h.next ao⟩)
    | none => none
  | _ => none
def qGo (P : Program) (tm0 : T AV) (ph : Nat) (F : T Rec) (h : H) (q : DQ) : Option (Rec × H) := match mkTm tm0 F q.lk with
  | some tm => match wantQ tm q.gd with
    | some true => qRec P tm h ph q.c
    | some false => some (.quiet (.tup []), h)
    | none => none
  | none => none
def fGo (P : Program) (call : CallE) (tm0 : T AV) (F : T Rec) (h : H) (q : DQ) : Option (AV × H) := match mkTm tm0 F q.lk with
  | some tm => match wantQ tm q.gd with
    | some true => evOp P call tm h q.c
    | some false => some (.tup [], h)
    | none => none
  | none => none
theorem cDQ_spec {P : Program} {ops : List Oper} {m : OT Nat} {N i : Nat} {q : DQ} (h : cDQ P ops m N i = some q) : ∃ o, ops[i]? = some o ∧ q.i = i ∧ cOp P o = some q.c ∧
    (∀ tm0 F, localTm ops m N tm0 F i o = mkTm tm0 F q.lk) ∧ (∀ tm, wantA ops tm o = wantQ tm q.gd) := by
  unfold cDQ at h
  split at h
  · rename_i o ho
    split at h
    · rename_i lk g c h1 h2 h3 h4
      simp at h; subst h
      refine ⟨o, ho, rfl, h4, fun tm0 F => ?_, fun tm => wantQ_eq h3 tm⟩
      unfold localTm
      rw [h1, h2]
    · simp at h
  · simp at h
theorem qGo_eq {P : Program} {ops : List Oper} {m : OT Nat} {N i : Nat} {q : DQ} (h : cDQ P ops m N i = some q) (tm0 : T AV) (ph : Nat) (F : T Rec) (hp : H) {o : Oper} (ho : ops[i]? = some o) :
    opQ P ops m N tm0 ph F hp i o = qGo P tm0 ph F hp q := by
  obtain ⟨o', h1, h2, h3, h4, h5⟩ := cDQ_spec h
  rw [ho] at h1; simp at h1; subst h1
  unfold opQ qGo
  rw [h4]
  cases mkTm tm0 F q.lk with
  | none => rfl
  | some tm =>
    simp only [h5, h3]
    cases wantQ tm q.gd with
    | none => rfl
    | some b =>
      cases b with
      | false => rfl
      | true => simp only []; cases q.c <;> rfl
theorem fGo_eq {P : Program} {call : CallE} {ops : List Oper} {m : OT Nat} {N i : Nat} {q : DQ} (h : cDQ P ops m N i = some q) (tm0 : T AV) (F : T Rec) (hp : H) {o : Oper} (ho : ops[i]? = some o) :
    opF P call ops m N tm0 F hp i o = fGo P call tm0 F hp q := by
  obtain ⟨o', h1, h2, h3, h4, h5⟩ := cDQ_spec h
  rw [ho] at h1; simp at h1; subst h1
  unfold opF fGo
  rw [h4]
  cases mkTm tm0 F q.lk with
  | none => rfl
  | some tm =>
    simp only [h5, h3]
    cases wantQ tm q.gd with
    | none => rfl
    | some b => cases b <;> rfl

def phW (P : Program) (tm0 : T AV) (ph : Nat) : List DQ → (T Rec → H → Prop) → T Rec → H → Prop
  | [], K, F, h => K F h
  | q :: l, K, F, h => optW (qGo P tm0 ph F h q) fun r => phW P tm0 ph l K (F.set q.i r.1) r.2
def drW (P : Program) (call : CallE) (tm0 : T AV) : Nat → List (List DQ × Option DQ) → (T Rec → List H → Prop) → T Rec → H → Prop
  | _, [], K, F, h => False
  | ph, (qs, none) :: _, K, F, h => phW P tm0 ph qs (fun F h => K F [h]) F h
  | ph, (qs, some e) :: rest, K, F, h => phW P tm0 ph qs (fun F1 h1 => optW (fGo P call tm0 F1 h1 e) fun r => h1.next ≤ r.2.next ∧ drW P call tm0 (ph + 1) rest (fun F' hs => K F' (h1 :: hs)) (F1.set e.i (.eff r.1)) r.2) F h

theorem phW_sound {P : Program} {ops : List Oper} {m : OT Nat} {N : Nat} {tm0 : T AV} {ph : Nat} : ∀ {ids : List Nat} {qs : List DQ}, cDQs P ops m N ids = some qs → ids.Nodup → ∀ {K : T Rec → H → Prop} {F : T Rec} {h : H}, (∀ i ∈ ids, F.get i = none) → phW P tm0 ph qs K F h →
    ∃ F' h', phE P ops m N tm0 ph ids F h = some (F', h') ∧ (∀ i, i ∉ ids → F'.get i = F.get i) ∧ K F' h'
  | [], qs, hc, _, K, F, h, _, hw => by
    simp [cDQs] at hc; subst hc
    exact ⟨F, h, rfl, fun _ _ => rfl, hw⟩
  | i :: l, qs, hc, hn, K, F, h, hF, hw => by
    unfold cDQs at hc
    split at hc
    · rename_i q r hq hr
      simp at hc; subst hc
      obtain ⟨o, ho, hi, _⟩ := cDQ_spec hq
      unfold phW at hw
      rw [← qGo_eq hq tm0 ph F h ho] at hw
      · obtain ⟨⟨rc, h1⟩, hgo, hw⟩ := optW_elim hw
        simp only [] at hw
        rw [hi] at hw
        obtain ⟨hn1, hn2⟩ := List.nodup_cons.1 hn
        obtain ⟨F', h', k1, k2, k3⟩ := phW_sound hr hn2 (fun j hj => by
          rw [T.get_set, if_neg (by rintro rfl; exact hn1 hj)]
          exact hF j (List.mem_cons_of_mem _ hj)) hw
        refine ⟨F', h', ?_, fun j hj => ?_, k3⟩
        · unfold phE
          rw [ho, hF i (List.mem_cons_self ..)]
          simp only [hgo]
          exact k1
        · rw [k2 j (fun e => hj (List.mem_cons_of_mem _ e)), T.get_set, if_neg (by rintro rfl; exact hj (List.mem_cons_self ..))]
    · simp at hc
/-- all numbers of a row of phases -/
def idsOf : List (List Nat × Option Nat) → List Nat
  | [] => []
  | (ids, none) :: _ => ids
  | (ids, some e) :: l => ids ++ e :: idsOf l
theorem drW_sound {P : Program} {call : CallE} {ops : List Oper} {m : OT Nat} {N : Nat} {tm0 : T AV} : ∀ {l : List (List Nat × Option Nat)} {ps : List (List DQ × Option DQ)}, cPhs P ops m N l = some ps → (idsOf l).Nodup → ∀ {ph : Nat} {K : T Rec → List H → Prop} {F : T Rec} {h : H}, (∀ i ∈ idsOf l, F.get i = none) → drW P call tm0 ph ps K F h →
    ∃ F' hs, drE P call ops m N tm0 ph l F h = some (F', hs) ∧ K F' hs
  | [], ps, hc, _, ph, K, F, h, _, hw => by simp [cPhs] at hc; subst hc; exact hw.elim
  | (ids, none) :: l, ps, hc, hn, ph, K, F, h, hF, hw => by
    unfold cPhs at hc
    split at hc
    · rename_i qs r hq hr
      simp at hc; subst hc
      obtain ⟨F', h', k1, _, k3⟩ := phW_sound hq hn hF hw
      exact ⟨F', [h'], by unfold drE; rw [k1], k3⟩
    · simp at hc
  | (ids, some e) :: l, ps, hc, hn, ph, K, F, h, hF, hw => by
    unfold cPhs at hc
    split at hc
    · rename_i qs q r hq he hr
      simp at hc; subst hc
      simp only [idsOf] at hn hF
      obtain ⟨n1, n2, n3⟩ := List.nodup_append.1 hn
      obtain ⟨n4, n5⟩ := List.nodup_cons.1 n2
      obtain ⟨F1, h1, k1, k2, k3⟩ := phW_sound hq n1 (fun i hi => hF i (List.mem_append_left _ hi)) hw
      obtain ⟨o, ho, hie, _⟩ := cDQ_spec he
      rw [← fGo_eq he tm0 F1 h1 ho] at k3
      · obtain ⟨⟨v, h2⟩, hgo, hle, k4⟩ := optW_elim k3
        simp only [] at hle k4
        have hFe : F1.get e = none := by
          rw [k2 e (fun hh => n3 e hh e (List.mem_cons_self ..) rfl)]
          exact hF e (List.mem_append_right _ (List.mem_cons_self ..))
        rw [hie] at k4
        obtain ⟨F', hs, j1, j2⟩ := drW_sound hr n5 (fun i hi => by
          rw [T.get_set, if_neg (by rintro rfl; exact n4 hi), k2 i (fun hh => n3 i hh i (List.mem_cons_of_mem _ hi) rfl)]
          exact hF i (List.mem_append_right _ (List.mem_cons_of_mem _ hi))) k4
        refine ⟨F', h1 :: hs, ?_, j2⟩
        unfold drE
        rw [k1]
        simp only [ho, hFe, hgo, Nat.ble_eq_true_of_le hle, j1]
    · simp at hc
end
end Go.Proofs.YtldmhpdjlgoenaaGreatDoor.Eo

namespace Go.Proofs.YtldmhpdjlgoenaaGreatDoor.Eo
noncomputable section

/-! ### The checks of a region -/
def rdQ (P : Program) (tm : T AV) (h : H) : COp → Option AV
  | .r x => evR tm h.t.get x
  | .l x => evL tm h.t.get x
  | .s x => evS tm h.t.get x
  | _ => none
def isRd : COp → Bool
  | .r _ => true
  | .l _ => true
  | .s _ => true
  | _ => false
def isAl : COp → Bool
  | .n _ => true
  | _ => false
/-- the reads that may happen at other times: they give the same there -/
def chkW (P : Program) (tm0 : T AV) (F : T Rec) (hs : List H) : List (DQ × List Nat) → Prop
  | [] => True
  | (q, ls) :: l => (match F.get q.i with
    | some (.read v) => match mkTm tm0 F q.lk with
      | some tm => ∀ k ∈ ls, match hs[k]? with
        | some h => rdQ P tm h q.c = some v
        | none => True
      | none => False
    | _ => True) ∧ chkW P tm0 F hs l
/-- what a phase without allocations reads, it reads from the heap at its end -/
theorem phE_still {P : Program} {ops : List Oper} {m : OT Nat} {N : Nat} {tm0 : T AV} {ph : Nat} : ∀ {ids : List Nat} {F F1 : T Rec} {h h1 : H}, phE P ops m N tm0 ph ids F h = some (F1, h1) →
    (∀ i ∈ ids, ∀ o c, ops[i]? = some o → cOp P o = some c → isAl c = false) → h1 = h ∧ ∀ i ∈ ids, ∃ o Fi r, ops[i]? = some o ∧ opQ P ops m N tm0 ph Fi h i o = some (r, h) ∧ F1.get i = some r ∧ Sub Fi F1
  | [], F, F1, h, h1, e, _ => by
    simp [phE] at e; obtain ⟨rfl, rfl⟩ := e
    exact ⟨rfl, by simp⟩
  | i :: l, F, F1, h, h1, e, hal => by
    unfold phE at e
    split at e
    · rename_i o ho hF
      split at e
      · rename_i r h2 hq
        have hh2 : h2 = h := by
          have hq' := hq
          unfold opQ at hq'
          split at hq'
          · split at hq'
            · simp at hq'; exact hq'.2.symm
            · rename_i hx
              split at hq'
              all_goals first
                | (split at hq'
                   · first
                     | (simp at hq'; exact hq'.2.symm)
                     | (rename_i hc _ _ _ _
                        have := hal i (List.mem_cons_self ..) o _ ho hc
                        simp [isAl] at this)
                   · simp at hq')
                | (simp at hq'; done)
            · simp at hq'
          · simp at hq'
        subst hh2
        obtain ⟨k1, k2, _⟩ := phE_sound e
        obtain ⟨j1, j2⟩ := phE_still e (fun j hj => hal j (List.mem_cons_of_mem _ hj))
        refine ⟨j1, fun j hj => ?_⟩
        rcases List.mem_cons.1 hj with rfl | hj
        · exact ⟨o, F, r, ho, hq, k1 _ _ (by rw [T.get_set, if_pos rfl]), (Sub.set hF).trans k1⟩
        · exact j2 j hj
      · simp at e
    · simp at e
theorem drE_still {P : Program} {call : CallE} {ops : List Oper} {m : OT Nat} {N : Nat} {tm0 : T AV} : ∀ {l : List (List Nat × Option Nat)} {ph : Nat} {F0 F : T Rec} {h : H} {hs : List H}, drE P call ops m N tm0 ph l F0 h = some (F, hs) →
    Sub F0 F ∧ ∀ k ids e, l[k]? = some (ids, e) → (∀ k' ids', k' < k → l[k']? = some (ids', none) → False) → (∀ i ∈ ids, ∀ o c, ops[i]? = some o → cOp P o = some c → isAl c = false) →
      ∃ hk, hs[k]? = some hk ∧ ∀ i ∈ ids, ∃ o Fi r, ops[i]? = some o ∧ opQ P ops m N tm0 (ph + k) Fi hk i o = some (r, hk) ∧ F.get i = some r ∧ Sub Fi F
  | [], ph, F0, F, h, hs, e => by simp [drE] at e
  | (ids, none) :: l, ph, F0, F, h, hs, e => by
    unfold drE at e
    split at e
    · rename_i F1 h1 hp
      simp at e; obtain ⟨rfl, rfl⟩ := e
      refine ⟨(phE_sound hp).1, fun k ids' e' hk hnone hal => ?_⟩
      cases k with
      | zero =>
        simp at hk; obtain ⟨rfl, rfl⟩ := hk
        obtain ⟨j1, j2⟩ := phE_still hp hal
        subst j1
        exact ⟨_, rfl, j2⟩
      | succ k => exact (hnone 0 ids (Nat.succ_pos _) rfl).elim
    · simp at e
  | (ids, some x) :: l, ph, F0, F, h, hs, e => by
    unfold drE at e
    split at e
    · rename_i F1 h1 hp
      split at e
      · rename_i o ho hFx
        split at e
        · rename_i v h2 hv
          split at e
          · split at e
            · rename_i F' hs' hd
              simp at e; obtain ⟨rfl, rfl⟩ := e
              obtain ⟨q1, q2⟩ := drE_still hd
              have hsub : Sub F1 F' := (Sub.set hFx).trans q1
              refine ⟨(phE_sound hp).1.trans hsub, fun k ids' e' hk hnone hal => ?_⟩
              cases k with
              | zero =>
                simp at hk; obtain ⟨rfl, rfl⟩ := hk
                obtain ⟨j1, j2⟩ := phE_still hp hal
                subst j1
                refine ⟨_, rfl, fun i hi => ?_⟩
                obtain ⟨o', Fi, r, a1, a2, a3, a4⟩ := j2 i hi
                exact ⟨o', Fi, r, a1, a2, hsub _ _ a3, a4.trans hsub⟩
              | succ k =>
                simp at hk
                obtain ⟨hk', a1, a2⟩ := q2 k ids' e' hk (fun k' ids'' hlt hh => hnone (k' + 1) ids'' (by omega) (by simpa using hh)) hal
                refine ⟨hk', by simpa using a1, fun i hi => ?_⟩
                have := a2 i hi
                rwa [show ph + 1 + k = ph + (k + 1) by omega] at this
            · simp at e
          · simp at e
        · simp at e
      · simp at e
    · simp at e

/-! ### A region, made ready -/
structure DR where
  phs : List (List DQ × Option DQ)
  fin : List (Nat × Nat)
  chk : List (DQ × List Nat)
def finFrom : List Oper → Nat → List (Nat × Nat)
  | [], _ => []
  | o :: l, i => match o.dst with
    | some d => (i, d) :: finFrom l (i + 1)
    | none => finFrom l (i + 1)
def finW (F : T Rec) : List (Nat × Nat) → T AV → T AV
  | [], tm => tm
  | (i, d) :: l, tm => match F.get i with
    | some r => finW F l (tm.set d r.val)
    | none => finW F l tm

theorem opQ_read {P : Program} {ops : List Oper} {m : OT Nat} {N : Nat} {tm0 : T AV} {ph : Nat} {F : T Rec} {h h' : H} {i : Nat} {o : Oper} {v : AV} (e : opQ P ops m N tm0 ph F h i o = some (.read v, h')) :
    ∃ tm c, localTm ops m N tm0 F i o = some tm ∧ cOp P o = some c ∧ isRd c = true ∧ rdQ P tm h c = some v := by
  unfold opQ at e
  split at e
  · rename_i tm ht
    split at e
    · simp at e
    · split at e
      all_goals first
        | (rename_i hc
           split at e
           · rename_i v' hv
             first
               | (simp at e; obtain ⟨rfl, _⟩ := e
                  exact ⟨tm, _, ht, hc, rfl, hv⟩)
               | (simp at e; done)
           · simp at e)
        | (simp at e; done)
    · simp at e
  · simp at e
theorem opQ_al {P : Program} {ops : List Oper} {m : OT Nat} {N : Nat} {tm0 : T AV} {ph : Nat} {F : T Rec} {h h' : H} {i : Nat} {o : Oper} {v : AV} {a q : Nat} {ao : AO} (e : opQ P ops m N tm0 ph F h i o = some (.alloc v a ao q, h')) : q = ph := by
  rcases (opQ_heap e).2 with ⟨_, hh⟩ | ⟨v', ao', hh, _⟩
  · exact absurd rfl (hh v a ao q)
  · simp at hh; exact hh.2.2.2
theorem phE_at {P : Program} {ops : List Oper} {m : OT Nat} {N : Nat} {tm0 : T AV} {ph : Nat} : ∀ {ids : List Nat} {F F1 : T Rec} {h h1 : H}, phE P ops m N tm0 ph ids F h = some (F1, h1) →
    ∀ i ∈ ids, ∃ o Fi hi hi' r, ops[i]? = some o ∧ opQ P ops m N tm0 ph Fi hi i o = some (r, hi') ∧ F1.get i = some r ∧ Sub Fi F1
  | [], F, F1, h, h1, e => by simp
  | i :: l, F, F1, h, h1, e => by
    unfold phE at e
    split at e
    · rename_i o ho hF
      split at e
      · rename_i r h2 hq
        obtain ⟨k1, k2, _⟩ := phE_sound e
        intro j hj
        rcases List.mem_cons.1 hj with rfl | hj
        · exact ⟨o, F, h, h2, r, ho, hq, k1 _ _ (by rw [T.get_set, if_pos rfl]), (Sub.set hF).trans k1⟩
        · exact phE_at e j hj
      · simp at e
    · simp at e
theorem drE_at {P : Program} {call : CallE} {ops : List Oper} {m : OT Nat} {N : Nat} {tm0 : T AV} : ∀ {l : List (List Nat × Option Nat)} {ph : Nat} {F0 F : T Rec} {h : H} {hs : List H}, drE P call ops m N tm0 ph l F0 h = some (F, hs) →
    Sub F0 F ∧ hs.length ≤ l.length ∧ ∀ i ∈ idsOf l, (∃ (v : AV) (k : Nat) (ids : List Nat), l[k]? = some (ids, some i) ∧ F.get i = some (.eff v)) ∨
      ∃ (k : Nat) (ids : List Nat) (e : Option Nat), l[k]? = some (ids, e) ∧ (∀ k' ids', k' < k → l[k']? = some (ids', none) → False) ∧ i ∈ ids ∧ ∃ o Fi hi hi' r, ops[i]? = some o ∧ opQ P ops m N tm0 (ph + k) Fi hi i o = some (r, hi') ∧ F.get i = some r ∧ Sub Fi F
  | [], ph, F0, F, h, hs, e => by simp [drE] at e
  | (ids, none) :: l, ph, F0, F, h, hs, e => by
    unfold drE at e
    split at e
    · rename_i F1 h1 hp
      simp at e; obtain ⟨rfl, rfl⟩ := e
      refine ⟨(phE_sound hp).1, by simp, fun i hi => .inr ⟨0, ids, none, rfl, fun k' _ h => by omega, hi, ?_⟩⟩
      exact phE_at hp i hi
    · simp at e
  | (ids, some x) :: l, ph, F0, F, h, hs, e => by
    unfold drE at e
    split at e
    · rename_i F1 h1 hp
      split at e
      · rename_i o ho hFx
        split at e
        · rename_i v h2 hv
          split at e
          · split at e
            · rename_i F' hs' hd
              simp at e; obtain ⟨rfl, rfl⟩ := e
              obtain ⟨q1, q2, q3⟩ := drE_at hd
              have hsub : Sub F1 F' := (Sub.set hFx).trans q1
              refine ⟨(phE_sound hp).1.trans hsub, by simp; omega, fun i hi => ?_⟩
              simp only [idsOf, List.mem_append, List.mem_cons] at hi
              rcases hi with hi | rfl | hi
              · obtain ⟨o', Fi, hi1, hi2, r, a1, a2, a3, a4⟩ := phE_at hp i hi
                exact .inr ⟨0, ids, some x, rfl, fun k' _ h => by omega, hi, o', Fi, hi1, hi2, r, a1, a2, hsub _ _ a3, a4.trans hsub⟩
              · exact .inl ⟨v, 0, ids, rfl, q1 _ _ (by rw [T.get_set, if_pos rfl])⟩
              · rcases q3 i hi with ⟨v', k, ids', b1, b2⟩ | ⟨k, ids', e', b1, b2, b3, o', Fi, hi1, hi2, r, a1, a2, a3, a4⟩
                · exact .inl ⟨v', k + 1, ids', by simpa using b1, b2⟩
                · refine .inr ⟨k + 1, ids', e', by simpa using b1, fun k' ids'' hlt hh => ?_, b3, o', Fi, hi1, hi2, r, a1, by rwa [show ph + 1 + k = ph + (k + 1) by omega] at a2, a3, a4⟩
                  cases k' with
                  | zero => simp at hh
                  | succ k' => exact b2 k' ids'' (by omega) (by simpa using hh)
            · simp at e
          · simp at e
        · simp at e
      · simp at e
    · simp at e

/-- the phase has no allocation -/
def stillB (P : Program) (ops : List Oper) (ids : List Nat) : Bool := ids.all fun i => match ops[i]? with
  | some o => match cOp P o with
    | some c => !isAl c
    | none => true
  | none => true
/-- the reads of a phase that are to be looked at again -/
def chkPh (P : Program) (ops : List Oper) (m : OT Nat) (N : Nat) (es : List Nat) (n k : Nat) (still : Bool) : List Nat → List (DQ × List Nat)
  | [] => []
  | i :: l => match cDQ P ops m N i with
    | some q => match isRd q.c, (List.range n).filter (fun j => mayAt m i es j && !(still && Nat.beq j k)) with
      | true, j :: js => (q, j :: js) :: chkPh P ops m N es n k still l
      | _, _ => chkPh P ops m N es n k still l
    | none => chkPh P ops m N es n k still l
def chkAll (P : Program) (ops : List Oper) (m : OT Nat) (N : Nat) (es : List Nat) (n : Nat) : Nat → List (List Nat × Option Nat) → List (DQ × List Nat)
  | _, [] => []
  | k, (ids, _) :: l => chkPh P ops m N es n k (stillB P ops ids) ids ++ chkAll P ops m N es n (k + 1) l
/-- allocations of later phases come behind an effect -/
def alB (m : OT Nat) (es : List Nat) : Nat → List (List Nat × Option Nat) → Bool
  | _, [] => true
  | 0, (ids, e) :: l => alB m es 1 l
  | k + 1, (ids, e) :: l => ids.all (fun i => match es[k]? with
    | some x => bef m i x
    | none => false) && alB m es (k + 2) l
def effB (es : List Nat) : List (List Nat × Option Nat) → Bool
  | [] => true
  | (_, none) :: l => effB es l
  | (_, some x) :: l => es.contains x && effB es l
def nodupB : List Nat → Bool
  | [] => true
  | x :: l => !(l.any (Nat.beq x)) && nodupB l
def covB (ids : List Nat) (n : Nat) : Bool := (List.range n).all fun i => ids.any (Nat.beq i)
def regB (P : Program) (ops : List Oper) (m : OT Nat) (es : List Nat) (phs : List (List Nat × Option Nat)) : Bool :=
  edgesOk ops 0 && chainOk m es && noDefer ops && nodupB (idsOf phs) && covB (idsOf phs) ops.length && effB es phs && alB m es 0 phs
def cDR0 (P : Program) (ops : List Oper) (N : Nat) (m : OT Nat) (es : List Nat) (phs : List (List Nat × Option Nat)) : Option DR := match regB P ops m es phs with
  | true => match cPhs P ops m N phs with
    | some ps => some ⟨ps, finFrom ops 0, chkAll P ops m N es phs.length 0 phs⟩
    | none => none
  | false => none
def cDR (P : Program) (N : Nat) (ops : List Oper) : Option DR :=
  cDR0 P ops N (preds ops) (effsFrom P ops 0) (phasesOf (preds ops) (effsFrom P ops 0) ops.length 0 (effsFrom P ops 0))

theorem nodupB_spec : ∀ {l : List Nat}, nodupB l = true → l.Nodup
  | [], _ => List.nodup_nil
  | x :: l, h => by
    simp only [nodupB, Bool.and_eq_true, Bool.not_eq_true', List.any_eq_false] at h
    refine List.nodup_cons.2 ⟨fun hx => ?_, nodupB_spec h.2⟩
    exact h.1 x hx (by simp)
theorem covB_spec {ids : List Nat} {n : Nat} (h : covB ids n = true) {i : Nat} (hi : i < n) : i ∈ ids := by
  unfold covB at h
  have := List.all_eq_true.1 h i (by simpa using hi)
  obtain ⟨j, h1, h2⟩ := List.any_eq_true.1 this
  have := Nat.eq_of_beq_eq_true h2
  subst this
  exact h1
theorem effB_spec {es : List Nat} : ∀ {l : List (List Nat × Option Nat)}, effB es l = true → ∀ (k : Nat) (ids : List Nat) (x : Nat), l[k]? = some (ids, some x) → es.contains x = true
  | [], _, k, ids, x, h => by simp at h
  | (_, none) :: l, hb, k, ids, x, h => by
    cases k with
    | zero => simp at h
    | succ k => exact effB_spec (l := l) (by simpa [effB] using hb) k ids x (by simpa using h)
  | (_, some y) :: l, hb, k, ids, x, h => by
    simp only [effB, Bool.and_eq_true] at hb
    cases k with
    | zero => simp at h; obtain ⟨_, rfl⟩ := h; exact hb.1
    | succ k => exact effB_spec (l := l) hb.2 k ids x (by simpa using h)
theorem alB_spec {m : OT Nat} {es : List Nat} : ∀ {l : List (List Nat × Option Nat)} {k0 : Nat}, alB m es k0 l = true → ∀ (k : Nat) (ids : List Nat) (e : Option Nat) (q : Nat), l[k]? = some (ids, e) → k0 + k = q + 1 → ∀ i ∈ ids, ∃ x, es[q]? = some x ∧ bef m i x = true
  | [], _, _, k, ids, e, q, h, _, _, _ => by simp at h
  | (ids', e') :: l, 0, hb, k, ids, e, q, h, hk, i, hi => by
    cases k with
    | zero => omega
    | succ k => exact alB_spec (l := l) (k0 := 1) (by simpa [alB] using hb) k ids e q (by simpa using h) (by omega) i hi
  | (ids', e') :: l, k0 + 1, hb, k, ids, e, q, h, hk, i, hi => by
    simp only [alB, Bool.and_eq_true] at hb
    cases k with
    | zero =>
      simp at h; obtain ⟨rfl, rfl⟩ := h
      have : q = k0 := by omega
      subst this
      have := List.all_eq_true.1 hb.1 i hi
      split at this
      · rename_i x hx; exact ⟨x, hx, this⟩
      · simp at this
    | succ k => exact alB_spec (l := l) (k0 := k0 + 2) hb.2 k ids e q (by simpa using h) (by omega) i hi
theorem chkPh_mem {P : Program} {ops : List Oper} {m : OT Nat} {N : Nat} {es : List Nat} {n k : Nat} {still : Bool} : ∀ {ids : List Nat} {i : Nat} {q : DQ}, i ∈ ids → cDQ P ops m N i = some q → isRd q.c = true → ∀ j, j < n → mayAt m i es j = true → ¬ (still = true ∧ j = k) → ∃ ls, (q, ls) ∈ chkPh P ops m N es n k still ids ∧ j ∈ ls
  | [], i, q, hi, _, _, j, _, _, _ => by simp at hi
  | x :: l, i, q, hi, hq, hrd, j, hj, hmay, hns => by
    have hf : j ∈ (List.range n).filter (fun j => mayAt m i es j && !(still && Nat.beq j k)) := by
      rw [List.mem_filter]
      refine ⟨by simpa using hj, ?_⟩
      rw [hmay]
      cases still with
      | false => rfl
      | true =>
        have : ¬ j = k := fun e => hns ⟨rfl, e⟩
        have hb : j.beq k = false := by rw [beq_iff]; simp [this]
        simp [hb]
    rcases List.mem_cons.1 hi with rfl | hi
    · unfold chkPh
      rw [hq]
      simp only [hrd]
      cases hl : (List.range n).filter (fun j => mayAt m i es j && !(still && Nat.beq j k)) with
      | nil => rw [hl] at hf; simp at hf
      | cons a b =>
        rw [hl] at hf
        exact ⟨_, List.mem_cons_self .., hf⟩
    · obtain ⟨ls, h1, h2⟩ := chkPh_mem (still := still) hi hq hrd j hj hmay hns
      refine ⟨ls, ?_, h2⟩
      unfold chkPh
      split
      · split
        · exact List.mem_cons_of_mem _ h1
        · exact h1
      · exact h1
theorem chkAll_mem {P : Program} {ops : List Oper} {m : OT Nat} {N : Nat} {es : List Nat} {n : Nat} : ∀ {l : List (List Nat × Option Nat)} {k0 k : Nat} {ids : List Nat} {e : Option Nat} {x : DQ × List Nat}, l[k]? = some (ids, e) → x ∈ chkPh P ops m N es n (k0 + k) (stillB P ops ids) ids → x ∈ chkAll P ops m N es n k0 l
  | [], k0, k, ids, e, x, h, _ => by simp at h
  | (ids', e') :: l, k0, k, ids, e, x, h, hx => by
    unfold chkAll
    cases k with
    | zero => simp at h; obtain ⟨rfl, rfl⟩ := h; exact List.mem_append_left _ hx
    | succ k => exact List.mem_append_right _ (chkAll_mem (l := l) (k0 := k0 + 1) (k := k) (by simpa using h) (by rwa [show k0 + 1 + k = k0 + (k + 1) by omega]))
theorem chkW_mem {P : Program} {tm0 : T AV} {F : T Rec} {hs : List H} : ∀ {l : List (DQ × List Nat)}, chkW P tm0 F hs l → ∀ q ls, (q, ls) ∈ l → ∀ v, F.get q.i = some (.read v) → ∃ tm, mkTm tm0 F q.lk = some tm ∧ ∀ k ∈ ls, ∀ h, hs[k]? = some h → rdQ P tm h q.c = some v
  | [], _, q, ls, h, v, _ => by simp at h
  | (q', ls') :: l, hc, q, ls, hm, v, hv => by
    unfold chkW at hc
    rcases List.mem_cons.1 hm with e | hm
    · simp at e; obtain ⟨rfl, rfl⟩ := e
      have h1 := hc.1
      rw [hv] at h1
      simp only [] at h1
      split at h1
      · rename_i tm htm
        refine ⟨tm, htm, fun k hk h hh => ?_⟩
        have := h1 k hk
        rw [hh] at this
        exact this
      · exact h1.elim
    · exact chkW_mem hc.2 q ls hm v hv
theorem stillB_spec {P : Program} {ops : List Oper} {ids : List Nat} (h : stillB P ops ids = true) : ∀ i ∈ ids, ∀ o c, ops[i]? = some o → cOp P o = some c → isAl c = false := by
  intro i hi o c ho hc
  have := List.all_eq_true.1 h i hi
  rw [ho] at this
  simp only [hc] at this
  simpa using this
theorem cDQs_mem {P : Program} {ops : List Oper} {m : OT Nat} {N : Nat} : ∀ {ids : List Nat} {qs : List DQ}, cDQs P ops m N ids = some qs → ∀ i ∈ ids, ∃ q, cDQ P ops m N i = some q
  | [], qs, _, i, hi => by simp at hi
  | x :: l, qs, h, i, hi => by
    unfold cDQs at h
    split at h
    · rename_i q r hq hr
      rcases List.mem_cons.1 hi with rfl | hi
      · exact ⟨q, hq⟩
      · exact cDQs_mem hr i hi
    · simp at h
theorem cPhs_mem {P : Program} {ops : List Oper} {m : OT Nat} {N : Nat} : ∀ {l : List (List Nat × Option Nat)} {ps : List (List DQ × Option DQ)}, cPhs P ops m N l = some ps → ∀ (k : Nat) (ids : List Nat) (e : Option Nat), l[k]? = some (ids, e) → ∀ i ∈ ids, ∃ q, cDQ P ops m N i = some q
  | [], ps, _, k, ids, e, h, _, _ => by simp at h
  | (ids', none) :: l, ps, hc, k, ids, e, h, i, hi => by
    unfold cPhs at hc
    split at hc
    · rename_i qs r hq hr
      cases k with
      | zero => simp at h; obtain ⟨rfl, rfl⟩ := h; exact cDQs_mem hq i hi
      | succ k => exact cPhs_mem hr k ids e (by simpa using h) i hi
    · simp at hc
  | (ids', some x) :: l, ps, hc, k, ids, e, h, i, hi => by
    unfold cPhs at hc
    split at hc
    · rename_i qs q r hq he hr
      cases k with
      | zero => simp at h; obtain ⟨rfl, rfl⟩ := h; exact cDQs_mem hq i hi
      | succ k => exact cPhs_mem hr k ids e (by simpa using h) i hi
    · simp at hc

theorem chkP_of {P : Program} {call : CallE} {ops : List Oper} {N : Nat} {tm0 : T AV} {m : OT Nat} {es : List Nat} {phs : List (List Nat × Option Nat)} (hreg : regB P ops m es phs = true)
    {ps : List (List DQ × Option DQ)} (hps : cPhs P ops m N phs = some ps) {F : T Rec} {h : H} {hs : List H} (hdr : drE P call ops m N tm0 0 phs .e h = some (F, hs)) (hw : chkW P tm0 F hs (chkAll P ops m N es phs.length 0 phs)) : ChkP P ops m N es tm0 F hs := by
  simp only [regB, Bool.and_eq_true] at hreg
  obtain ⟨⟨⟨⟨⟨⟨c1, c2⟩, c3⟩, c4⟩, c5⟩, c6⟩, c7⟩ := hreg
  obtain ⟨_, hlen, hat⟩ := drE_at hdr
  intro i o ho
  have hi : i ∈ idsOf phs := covB_spec c5 (List.getElem?_eq_some_iff.1 ho).1
  rcases hat i hi with ⟨v, k, ids, h1, h2⟩ | ⟨k, ids, e, h1, h2, h3, o', Fi, hi1, hi2, r, a1, a2, a3, a4⟩
  · exact ⟨_, h2, by simp, by simp, fun _ _ => effB_spec c6 k ids i h1⟩
  · rw [ho] at a1; simp at a1; subst a1
    refine ⟨r, a3, fun v hv => ?_, fun v a ao q hv => ?_, fun v hv => absurd hv ((opQ_heap a2).1 v)⟩
    · subst hv
      obtain ⟨tm, c, t1, t2, t3, t4⟩ := opQ_read a2
      refine ⟨tm, localTm_mono a4 t1, fun l hl hhl hmay => ?_⟩
      have hread : readAt P tm hl o = rdQ P tm hl c := by
        unfold readAt; rw [t2]
        cases c <;> first | rfl | simp [isRd] at t3
      rw [hread]
      obtain ⟨q, hq⟩ := cPhs_mem hps k ids e h1 i h3
      obtain ⟨o'', q1, q2, q3, q4, q5⟩ := cDQ_spec hq
      rw [ho] at q1; simp at q1; subst q1
      rw [t2] at q3; simp at q3; subst q3
      have again : (∃ ls, (q, ls) ∈ chkPh P ops m N es phs.length k (stillB P ops ids) ids ∧ l ∈ ls) → rdQ P tm hl q.c = some v := by
        rintro ⟨ls, b1, b2⟩
        obtain ⟨tm', d1, d2⟩ := chkW_mem hw q ls (chkAll_mem (k0 := 0) h1 (by rwa [Nat.zero_add])) v (by rw [q2]; exact a3)
        rw [← q4, localTm_mono a4 t1] at d1
        simp at d1; subst d1
        exact d2 l b2 hl hhl
      have hlt : l < phs.length := Nat.lt_of_lt_of_le (List.getElem?_eq_some_iff.1 hhl).1 hlen
      by_cases hst : stillB P ops ids = true ∧ l = k
      · obtain ⟨hst, rfl⟩ := hst
        obtain ⟨hk', z1, z2⟩ := (drE_still hdr).2 l ids e h1 h2 (stillB_spec hst)
        rw [hhl] at z1; simp at z1; subst z1
        obtain ⟨o2, Fi2, r2, y1, y2, y3, y4⟩ := z2 i h3
        rw [ho] at y1; simp at y1; subst y1
        rw [a3] at y3; simp at y3; subst y3
        obtain ⟨tm2, c2', x1, x2, x3, x4⟩ := opQ_read y2
        rw [t2] at x2; simp at x2; subst x2
        have := localTm_mono y4 x1
        rw [localTm_mono a4 t1] at this
        simp at this; subst this
        exact x4
      · exact again (chkPh_mem h3 hq t3 l hlt hmay hst)
    · subst hv
      have := opQ_al a2
      exact alB_spec c7 k ids e q h1 (by omega) i h3
theorem finW_eq (F : T Rec) : ∀ (l : List Oper) (i : Nat) (tm : T AV), finalTm F l i tm = finW F (finFrom l i) tm
  | [], i, tm => rfl
  | o :: l, i, tm => by
    rw [finalTm_cons]
    unfold finFrom
    cases hd : o.dst with
    | none => simp only []; exact finW_eq F l (i + 1) tm
    | some d =>
      simp only [finW]
      cases hF : F.get i with
      | none => simp only []; exact finW_eq F l (i + 1) tm
      | some r => simp only []; exact finW_eq F l (i + 1) _
def WDr (P : Program) (call : CallE) (d : DR) (K : T AV → H → Prop) (tm : T AV) (h : H) : Prop :=
  drW P call tm 0 d.phs (fun F hs => chkW P tm F hs d.chk ∧ optW (lastH hs) fun h' => K (finW F d.fin tm) h') .e h
/-- calls that are no calls of yield -/
def Plain (call : CallE) : Prop := ∀ f args h, Nat.ble ykey f = true → call f args h = none
theorem plainCall_eq {call : CallE} (h : Plain call) : plainCall call = call := by
  funext f args hp
  unfold plainCall
  cases hb : Nat.ble ykey f with
  | true => simp only []; exact (h f args hp hb).symm
  | false => rfl
theorem WDr_sound {P : Program} (hm : P.follows .mixedOrders = true) {call : CallE} (hcall : CallOK true P call) (hpl : Plain call) {id : Nat} {ops : Array Oper} {N : Nat} {d : DR} (hc : cDR P N ops.toList = some d) {K : T AV → H → Prop} {tm : T AV} {h : H} (hw : WDr P call d K tm h) :
    ∃ tm' h', DoesR P (.region id ops true) N tm h .normal tm' h' ∧ K tm' h' := by
  unfold cDR cDR0 at hc
  split at hc
  · rename_i hreg
    split at hc
    · rename_i ps hps
      simp at hc; subst hc
      have hreg' := hreg
      simp only [regB, Bool.and_eq_true] at hreg'
      obtain ⟨⟨⟨⟨⟨⟨c1, c2⟩, c3⟩, c4⟩, c5⟩, c6⟩, c7⟩ := hreg'
      unfold WDr at hw
      obtain ⟨F, hs, k1, k2, k3⟩ := drW_sound hps (nodupB_spec c4) (fun i _ => T.get_e i) hw
      · obtain ⟨h', hlast, k3⟩ := optW_elim k3
        refine ⟨_, h', drawP_does hm hcall c1 c2 c3 (by rw [plainCall_eq hpl]; exact k1) (chkP_of hreg hps k1 k2) hlast, ?_⟩
        rw [finW_eq]
        exact k3
    · simp at hc
  · simp at hc
end
end Go.Proofs.YtldmhpdjlgoenaaGreatDoor.Eo

namespace Go.Proofs.YtldmhpdjlgoenaaGreatDoor.Eo
noncomputable section

inductive CC where
  | skip
  | ops (l : List SQ)
  | drw (d : DR)
  | seq (a b : CC)
  | cond (c : Opd) (a b : CC)
  | block (id : Nat) (a : CC)
  | loop (a : CC)
  | exit (id : Nat)
  | ret
  /-- operations that are not known (a panic): nothing is said of them -/
  | stuck
def cCC (P : Program) (N : Nat) : Code → Option CC
  | .skip => some .skip
  | .region _ ops false => match cSQs P N ops.toList ops.toList with
    | some l => some (.ops l)
    | none => some .stuck
  | .region _ ops true => match cDR P N ops.toList with
    | some d => some (.drw d)
    | none => some .stuck
  | .seq a b => match cCC P N a, cCC P N b with
    | some a, some b => some (.seq a b)
    | _, _ => none
  | .cond c a b => match cOpd c, cCC P N a, cCC P N b with
    | some c, some a, some b => some (.cond c a b)
    | _, _, _ => none
  | .block id a => (cCC P N a).map (.block id)
  | .loop a => (cCC P N a).map .loop
  | .exit id => some (.exit id)
  | .label _ => some .skip
  | .ret => some .ret
  | _ => none

abbrev Cont := Ex → T AV → H → Prop
def thenW (W : Cont → T AV → H → Prop) (Q : Cont) : Cont := fun ex tm h => match ex with
  | .normal => W Q tm h
  | .exit j => Q (.exit j) tm h
  | .goto l => Q (.goto l) tm h
  | .ret => Q .ret tm h
def inW (id : Nat) (Q : Cont) : Cont := fun ex tm h => match ex with
  | .normal => Q .normal tm h
  | .exit j => if j = id then Q .normal tm h else Q (.exit j) tm h
  | .goto l => Q (.goto l) tm h
  | .ret => Q .ret tm h
def loopW (W : Cont → T AV → H → Prop) : Nat → Cont → T AV → H → Prop
  | 0, _, _, _ => False
  | n + 1, Q, tm, h => W (thenW (loopW W n) Q) tm h
def both1 {α β : Type} (o : Option α) (f : α → Option β) : Option β := match o with
  | some x => f x
  | none => none
theorem both1_some {α β : Type} (x : α) (f : α → Option β) : both1 (some x) f = f x := rfl
def WC (P : Program) (call : CallE) : CC → Cont → T AV → H → Prop
  | .skip, Q, tm, h => Q .normal tm h
  | .ops l, Q, tm, h => WS P call l (fun tm h => Q .normal tm h) tm h
  | .drw d, Q, tm, h => WDr P call d (fun tm h => Q .normal tm h) tm h
  | .seq a b, Q, tm, h => WC P call a (thenW (WC P call b) Q) tm h
  | .cond c a b, Q, tm, h => optW (both1 (evo tm c) boolA) fun t => selW t (WC P call a Q tm h) (WC P call b Q tm h)
  | .block id a, Q, tm, h => WC P call a (inW id Q) tm h
  | .loop a, Q, tm, h => ∃ n, loopW (WC P call a) n Q tm h
  | .exit id, Q, tm, h => Q (.exit id) tm h
  | .ret, Q, tm, h => Q .ret tm h
  | .stuck, _, _, _ => False

/-- the code does something that the continuation allows -/
def Goes (P : Program) (c : Code) (N : Nat) (tm : T AV) (h : H) (Q : Cont) : Prop := ∃ ex tm' h', Does P c N tm h ex tm' h' ∧ Q ex tm' h'
theorem Goes.mono {P : Program} {c : Code} {N : Nat} {tm : T AV} {h : H} {Q Q' : Cont} (g : Goes P c N tm h Q) (hq : ∀ ex tm h, Q ex tm h → Q' ex tm h) : Goes P c N tm h Q' :=
  let ⟨ex, tm', h', k1, k2⟩ := g; ⟨ex, tm', h', k1, hq _ _ _ k2⟩
theorem seqD {P : Program} {x y : Code} {N : Nat} {tm tm1 tm2 : T AV} {h h1 h2 : H} {ex : Ex} (d1 : Does P x N tm h .normal tm1 h1) (d2 : Does P y N tm1 h1 ex tm2 h2) : Does P (.seq x y) N tm h ex tm2 h2 := by
  intro B ρ a w hs
  refine wp_seq (wp_post d1 hs fun ρ' a' w' k1 k2 => ?_)
  exact wp_post d2 k1 fun ρ'' a'' w'' j1 j2 => ⟨rfl, ρ'', j1, k2.trans j2⟩
theorem seqD' {P : Program} {x y : Code} {N : Nat} {tm tm1 : T AV} {h h1 : H} {ex : Ex} (hex : ex ≠ .normal) (d1 : Does P x N tm h ex tm1 h1) : Does P (.seq x y) N tm h ex tm1 h1 := by
  intro B ρ a w hs
  refine wp_seq (wp_post d1 hs fun ρ' a' w' k1 k2 => ?_)
  cases ex with
  | normal => exact absurd rfl hex
  | exit id => exact ⟨rfl, ρ', k1, k2⟩
  | goto l => exact ⟨rfl, ρ', k1, k2⟩
  | ret => exact ⟨rfl, ρ', k1, k2⟩
theorem blockD {P : Program} {x : Code} {id N : Nat} {tm tm1 : T AV} {h h1 : H} {ex : Ex} (d1 : Does P x N tm h ex tm1 h1) : Does P (.block id x) N tm h (match ex with | .exit j => if j = id then .normal else .exit j | e => e) tm1 h1 := by
  intro B ρ a w hs
  refine wp_block (wp_post d1 hs fun ρ' a' w' k1 k2 => ?_)
  cases ex with
  | normal => exact ⟨rfl, ρ', k1, k2⟩
  | exit j =>
    by_cases hj : j = id
    · subst hj
      simp only [Ex.out, Exit.inBlock, if_true]
      exact ⟨trivial, ρ', k1, k2⟩
    · simp only [Ex.out, Exit.inBlock, hj, if_false]
      exact ⟨trivial, ρ', k1, k2⟩
  | goto l => exact ⟨rfl, ρ', k1, k2⟩
  | ret => exact ⟨rfl, ρ', k1, k2⟩
/-- so many rounds of a loop -/
def RoundsD (P : Program) (c : Code) (N : Nat) : Nat → T AV → H → Ex → T AV → H → Prop
  | 0, _, _, _, _, _ => False
  | n + 1, tm, h, ex, tm', h' => (∃ tm1 h1, Does P c N tm h .normal tm1 h1 ∧ RoundsD P c N n tm1 h1 ex tm' h') ∨ (ex ≠ .normal ∧ Does P c N tm h ex tm' h')
theorem loopW_rounds {P : Program} {c : Code} {N : Nat} {W : Cont → T AV → H → Prop} (hW : ∀ Q tm h, W Q tm h → Goes P c N tm h Q) : ∀ (n : Nat) (Q : Cont) (tm : T AV) (h : H), loopW W n Q tm h → ∃ ex tm' h', RoundsD P c N n tm h ex tm' h' ∧ Q ex tm' h' ∧ ex ≠ .normal
  | 0, Q, tm, h, hl => hl.elim
  | n + 1, Q, tm, h, hl => by
    obtain ⟨ex, tm1, h1, d1, q1⟩ := hW _ _ _ hl
    cases ex with
    | normal =>
      obtain ⟨ex, tm2, h2, r, q, hne⟩ := loopW_rounds hW n Q tm1 h1 q1
      exact ⟨ex, tm2, h2, .inl ⟨tm1, h1, d1, r⟩, q, hne⟩
    | exit j => exact ⟨_, tm1, h1, .inr ⟨by simp, d1⟩, q1, by simp⟩
    | goto l => exact ⟨_, tm1, h1, .inr ⟨by simp, d1⟩, q1, by simp⟩
    | ret => exact ⟨_, tm1, h1, .inr ⟨by simp, d1⟩, q1, by simp⟩
theorem rounds_mono {P : Program} {c : Code} {Q Q' : Exit → Act → World → Prop} (hq : ∀ e a w, Q e a w → Q' e a w) : ∀ (m : Nat) (a : Act) (w : World), Code.rounds P c Q m a w → Code.rounds P c Q' m a w := by
  intro m
  induction m with
  | zero => intro a w hh; exact hh
  | succ m ih =>
    intro a w hh
    refine wp_mono hh fun e a w he => ?_
    cases e <;> first
      | exact ih _ _ he
      | exact hq _ _ _ he
theorem roundsD_rounds {P : Program} {body : Code} {N : Nat} : ∀ (n : Nat) {tm tm' : T AV} {h h' : H} {ex : Ex}, RoundsD P body N n tm h ex tm' h' → ∀ {B : Nat} {ρ : Rho} {a : Act} {w : World}, St B N ρ tm h a w →
    Code.rounds P body (fun e a' w' => e = ex.out ∧ ∃ ρ', St B N ρ' tm' h' a' w' ∧ Way ρ h w ρ' h' w') n a w
  | 0, tm, tm', h, h', ex, hr, _, _, _, _, _ => hr.elim
  | n + 1, tm, tm', h, h', ex, hr, B, ρ, a, w, hs => by
    rcases hr with ⟨tm1, h1, d1, r⟩ | ⟨hne, d1⟩
    · refine wp_post d1 hs fun ρ' a' w' k1 k2 => ?_
      have := roundsD_rounds n r k1
      simp only [Ex.out]
      refine rounds_mono (fun e a'' w'' hh => ?_) n _ _ this
      obtain ⟨rfl, ρ'', j1, j2⟩ := hh
      exact ⟨rfl, ρ'', j1, k2.trans j2⟩
    · refine wp_post d1 hs fun ρ' a' w' k1 k2 => ?_
      cases ex with
      | normal => exact absurd rfl hne
      | exit j => exact ⟨rfl, ρ', k1, k2⟩
      | goto l => exact ⟨rfl, ρ', k1, k2⟩
      | ret => exact ⟨rfl, ρ', k1, k2⟩
theorem loopD {P : Program} {c : Code} {N n : Nat} {tm tm' : T AV} {h h' : H} {ex : Ex} (hr : RoundsD P c N n tm h ex tm' h') : Does P (.loop c) N tm h ex tm' h' :=
  fun B ρ a w hs => wp_loop_rounds n (roundsD_rounds n hr hs)

theorem WC_sound {P : Program} (hm : P.follows .mixedOrders = true) {call : CallE} (hcall : CallOK true P call) (hpl : Plain call) {N : Nat} : ∀ (c : Code) {cc : CC}, cCC P N c = some cc → ∀ {Q : Cont} {tm : T AV} {h : H}, WC P call cc Q tm h → Goes P c N tm h Q := by
  intro c
  induction c with
  | skip =>
    intro cc hc Q tm h hw
    simp [cCC] at hc; subst hc
    exact ⟨.normal, tm, h, fun B ρ a w hs => wp_skip ⟨rfl, ρ, hs, Way.refl hs.hr hs.fresh⟩, hw⟩
  | region id ops d =>
    intro cc hc Q tm h hw
    cases d with
    | false =>
      simp only [cCC] at hc
      split at hc
      case h_2 => simp at hc; subst hc; exact hw.elim
      rename_i l hl
      simp at hc; subst hc
      obtain ⟨tm', h', k1, k2⟩ := WS_sound hl hw
      refine ⟨.normal, tm', h', fun B ρ a w hs => ?_, k2⟩
      refine (wpIn_wide (n := 0)).1 (wpIn_region (F := Fnc none) ?_)
      rw [List.range_eq_range']
      have := seqE_sound (r := none) (Q := fun e a' w' => e = Ex.normal.out ∧ ∃ ρ', St B N ρ' tm' h' a' w' ∧ Way ρ h w ρ' h' w') hcall (i := 0) (by simp) k1 hs (fun ρ' a' w' k1 k2 => ⟨rfl, ρ', k1, k2⟩)
      simpa using this
    | true =>
      simp only [cCC] at hc
      split at hc
      case h_2 => simp at hc; subst hc; exact hw.elim
      rename_i d hd
      simp at hc; subst hc
      obtain ⟨tm', h', k1, k2⟩ := WDr_sound (id := id) hm hcall hpl hd hw
      exact ⟨.normal, tm', h', k1.does, k2⟩
  | seq x y ihx ihy =>
    intro cc hc Q tm h hw
    simp only [cCC] at hc
    split at hc
    · rename_i a b ha hb
      simp at hc; subst hc
      obtain ⟨ex, tm1, h1, d1, q1⟩ := ihx ha hw
      cases ex with
      | normal =>
        obtain ⟨ex, tm2, h2, d2, q2⟩ := ihy hb q1
        exact ⟨ex, tm2, h2, seqD d1 d2, q2⟩
      | exit j => exact ⟨_, tm1, h1, seqD' (by simp) d1, q1⟩
      | goto l => exact ⟨_, tm1, h1, seqD' (by simp) d1, q1⟩
      | ret => exact ⟨_, tm1, h1, seqD' (by simp) d1, q1⟩
    · simp at hc
  | cond c x y ihx ihy =>
    intro cc hc Q tm h hw
    simp only [cCC] at hc
    split at hc
    · rename_i c' a b hc' ha hb
      simp at hc; subst hc
      unfold WC at hw
      obtain ⟨b', hb', hw⟩ := optW_elim hw
      have hv : evo tm c' = some (.bool b') := by
        cases hh : evo tm c' with
        | none => rw [hh] at hb'; simp [both1] at hb'
        | some v =>
          rw [hh] at hb'
          cases v <;> simp [both1, boolA] at hb'
          rw [hb']
      cases b' with
      | true =>
        obtain ⟨ex, tm1, h1, d1, q1⟩ := ihx ha hw
        refine ⟨ex, tm1, h1, fun B ρ a w hs => ?_, q1⟩
        have := evo_sound hs.tr hc' hv
        simp only [VR] at this
        exact wp_cond_true this (d1 B ρ a w hs)
      | false =>
        obtain ⟨ex, tm1, h1, d1, q1⟩ := ihy hb hw
        refine ⟨ex, tm1, h1, fun B ρ a w hs => ?_, q1⟩
        have := evo_sound hs.tr hc' hv
        simp only [VR] at this
        exact wp_cond_false this (d1 B ρ a w hs)
    · simp at hc
  | block id x ih =>
    intro cc hc Q tm h hw
    simp only [cCC, Option.map_eq_some_iff] at hc
    obtain ⟨a, ha, rfl⟩ := hc
    obtain ⟨ex, tm1, h1, d1, q1⟩ := ih ha hw
    refine ⟨_, tm1, h1, blockD d1, ?_⟩
    cases ex with
    | normal => exact q1
    | exit j =>
      simp only [inW] at q1
      simp only []
      split <;> rename_i hj
      · rw [if_pos hj] at q1; exact q1
      · rw [if_neg hj] at q1; exact q1
    | goto l => exact q1
    | ret => exact q1
  | loop x ih =>
    intro cc hc Q tm h hw
    simp only [cCC, Option.map_eq_some_iff] at hc
    obtain ⟨a, ha, rfl⟩ := hc
    obtain ⟨n, hn⟩ := hw
    obtain ⟨ex, tm1, h1, r, q, _⟩ := loopW_rounds (c := x) (N := N) (fun Q tm h hq => ih ha hq) n Q tm h hn
    exact ⟨ex, tm1, h1, loopD r, q⟩
  | exit id =>
    intro cc hc Q tm h hw
    simp [cCC] at hc; subst hc
    exact ⟨.exit id, tm, h, fun B ρ a w hs => wp_exit ⟨rfl, ρ, hs, Way.refl hs.hr hs.fresh⟩, hw⟩
  | label l =>
    intro cc hc Q tm h hw
    simp [cCC] at hc; subst hc
    exact ⟨.normal, tm, h, fun B ρ a w hs => wp_label ⟨rfl, ρ, hs, Way.refl hs.hr hs.fresh⟩, hw⟩
  | ret =>
    intro cc hc Q tm h hw
    simp [cCC] at hc; subst hc
    exact ⟨.ret, tm, h, fun B ρ a w hs => wp_ret ⟨rfl, ρ, hs, Way.refl hs.hr hs.fresh⟩, hw⟩
  | rangeFunc f ps x y ihx ihy => intro cc hc; simp [cCC] at hc
  | scope x ih => intro cc hc; simp [cCC] at hc
  | goto l => intro cc hc; simp [cCC] at hc
  | refuse why => intro cc hc; simp [cCC] at hc

/-! ### Functions -/
inductive RV where
  | tmp (t : Nat)
  | cell (a : Nat) (agg : Option Nat)
def cRV (P : Program) : ResultVar → Option RV
  | .tmp t => some (.tmp t)
  | .cell a t => (aggOf P t).map (.cell a)
def cRVs (P : Program) : List ResultVar → Option (List RV)
  | [] => some []
  | r :: l => match cRV P r, cRVs P l with
    | some x, some y => some (x :: y)
    | _, _ => none
def resW (tm : T AV) (g : Nat → Option AO) : List RV → Option (List AV)
  | [] => some []
  | r :: l => match (match r with
      | .tmp t => tm.get t
      | .cell a agg => match tm.get a with
        | some (.ptr p o) => ldA g agg p o
        | _ => none) with
    | some v => match resW tm g l with
      | some vs => some (v :: vs)
      | none => none
    | none => none
theorem resW_eq {P : Program} (tm : T AV) (g : Nat → Option AO) : ∀ {l : List ResultVar} {rs : List RV}, cRVs P l = some rs → resA P tm g l = resW tm g rs
  | [], rs, h => by simp [cRVs] at h; subst h; rfl
  | r :: l, rs, h => by
    unfold cRVs at h
    split at h
    · rename_i x y hx hy
      simp at h; subst h
      unfold resA resW
      rw [resW_eq tm g hy]
      cases r with
      | tmp t => simp [cRV] at hx; subst hx; rfl
      | cell a t =>
        simp only [cRV, Option.map_eq_some_iff] at hx
        obtain ⟨agg, h1, rfl⟩ := hx
        simp only [h1]
        cases tm.get a with
        | none => rfl
        | some v => cases v <;> rfl
    · simp at h
/-- a function, made ready -/
structure CF where
  n : Nat
  c : CC
  rs : List RV
def cCF (P : Program) (f : FuncId) (k : Nat) : Option CF := match P.funcs[f]? with
  | some fn => match fn.body, cRVs P fn.results.toList with
    | some c, some rs => (cCC P (Nat.add k (Nat.sub fn.ntmps k)) c).map fun cc => ⟨k, cc, rs⟩
    | _, _ => none
  | none => none
/-- what a call returns and leaves -/
structure RetC (P : Program) (f : FuncId) (args : List AV) (h : H) (v : AV) (h' : H) : Prop where
  has : hasE P f = true
  key : Nat.ble ykey f = false
  ret : ∀ (ρ : Rho) (w : World) (ARGS : List Value), VRs ρ args ARGS → HR ρ h.t.get w → Fresh ρ h.next → Calls P f ARGS.toArray w fun e w' => ∃ ρ' V, e = .returned V ∧ VR ρ' v V ∧ Way ρ h w ρ' h' w'
def endW (rs : List RV) (Post : AV → H → Prop) : Cont := fun ex tm h => match ex with
  | .exit _ => False
  | .goto _ => False
  | .normal => optW (resW tm h.t.get rs) fun vs => Post (packA vs) h
  | .ret => optW (resW tm h.t.get rs) fun vs => Post (packA vs) h
def WF (P : Program) (call : CallE) (cf : CF) (args : List AV) (h : H) (Post : AV → H → Prop) : Prop :=
  WC P call cf.c (endW cf.rs Post) (putList 0 args .e) h
theorem WF_sound {P : Program} (hm : P.follows .mixedOrders = true) {call : CallE} (hcall : CallOK true P call) (hpl : Plain call) {f : FuncId} (hhas : hasE P f = true) (hkey : Nat.ble ykey f = false) {k : Nat} {cf : CF} (hcf : cCF P f k = some cf) {args : List AV} (hk : args.length = k) {h : H} {Post : AV → H → Prop} (hw : WF P call cf args h Post) :
    ∃ v h', RetC P f args h v h' ∧ Post v h' := by
  obtain ⟨fn, c, hf, hname, hb⟩ := hasE_of hhas
  unfold cCF at hcf
  rw [hf] at hcf
  simp only [hb] at hcf
  split at hcf
  · rename_i c' rs hc' hrs
    simp at hc'; subst hc'
    simp only [Option.map_eq_some_iff] at hcf
    obtain ⟨cc, hcc, rfl⟩ := hcf
    subst hk
    obtain ⟨ex, tm, h2, d, q⟩ := WC_sound hm hcall hpl c hcc hw
    have key : ∃ vs, resA P tm h2.t.get fn.results.toList = some vs ∧ Post (packA vs) h2 := by
      have : optW (resW tm h2.t.get rs) fun vs => Post (packA vs) h2 := by
        cases ex with
        | exit j => exact q.elim
        | goto l => exact q.elim
        | normal => exact q
        | ret => exact q
      obtain ⟨vs, hvs, this⟩ := optW_elim this
      exact ⟨vs, by rw [resW_eq tm _ hrs]; exact hvs, this⟩
    obtain ⟨vs, hvs, hpost⟩ := key
    refine ⟨packA vs, h2, ⟨hhas, hkey, fun ρ w ARGS ha hr hfr => ?_⟩, hpost⟩
    refine callsIn_wide.1 (callsIn_of_wp_marks (n := 0) hf hb trivial ((wpIn_wide (n := 0)).2 ?_))
    have hl := ha.length
    have hs : St w.heap.size (Nat.add args.length (Nat.sub fn.ntmps args.length)) ρ (putList 0 args .e) h { tmps := ARGS.toArray ++ Array.replicate (fn.ntmps - ARGS.toArray.size) undef, defers := [] } w := by
      refine ⟨fun i u hi => ?_, hr, hfr, by simp [hl], trivial, Nat.le_refl _⟩
      rw [putList_get] at hi
      by_cases hh : 0 ≤ i ∧ i < 0 + args.length
      · rw [if_pos hh] at hi
        have hi' : args[i]? = some u := by simpa using hi
        obtain ⟨V, k1, k2⟩ := ha.get hi'
        have hlt : i < ARGS.length := (List.getElem?_eq_some_iff.1 k1).1
        refine ⟨by simp; omega, ?_⟩
        rw [Array.getD_eq_getD_getElem?, Array.getElem?_append_left (by simpa using hlt)]
        simpa [k1] using k2
      · rw [if_neg hh, T.get_e] at hi; simp at hi
    refine wp_post d hs fun ρ' a' w' k1 k2 => ?_
    have fin : LeavesInM Fence.wide 0 P fn a'.tmps (fun e w' => ∃ ρ' V, e = .returned V ∧ VR ρ' (packA vs) V ∧ Way ρ h w ρ' h2 w') a'.defers .returning w' := by
      refine leaves (ρ := ρ') (h := h2) (fun w'' hr'' hw'' => ?_) k1.defers k2
      obtain ⟨V, j1, j2⟩ := run_results k1.tr hr'' hvs
      exact ⟨V, j2, ρ', V, rfl, j1, hw''⟩
    cases ex with
    | exit j => exact q.elim
    | goto l => exact q.elim
    | normal => exact fin
    | ret => exact fin
  · simp at hcf

/-! ### Calls -/
/-- calls by what is known of them -/
def callS (P : Program) (S : FuncId → List AV → H → AV → H → Prop) : CallE := fun f args h =>
  haveI := Classical.propDecidable (∃ r : AV × H, RetC P f args h r.1 r.2 ∧ S f args h r.1 r.2)
  if hh : ∃ r : AV × H, RetC P f args h r.1 r.2 ∧ S f args h r.1 r.2 then some hh.choose else none
theorem callS_some {P : Program} {S : FuncId → List AV → H → AV → H → Prop} {f : FuncId} {args : List AV} {h : H} {v : AV} {h' : H} (e : callS P S f args h = some (v, h')) : RetC P f args h v h' ∧ S f args h v h' := by
  unfold callS at e
  split at e
  · rename_i hh
    have := hh.choose_spec
    simp only [Option.some.injEq] at e
    rw [e] at this
    exact this
  · simp at e
theorem callS_ok {P : Program} (S : FuncId → List AV → H → AV → H → Prop) : CallOK true P (callS P S) := by
  intro f args h v h' e ρ w ARGS ha hr hf
  obtain ⟨k, _⟩ := callS_some e
  obtain ⟨fn, c, h1, h2, h3⟩ := hasE_of k.has
  exact .inl ⟨k.key, .inr ⟨f, ARGS.toArray, run_callFunc_enter h1 h2 h3 _ _, k.ret ρ w ARGS ha hr hf⟩⟩
theorem callS_plain {P : Program} (S : FuncId → List AV → H → AV → H → Prop) : Plain (callS P S) := by
  intro f args h hb
  cases e : callS P S f args h with
  | none => rfl
  | some r =>
    obtain ⟨k, _⟩ := callS_some (v := r.1) (h' := r.2) e
    rw [k.key] at hb; simp at hb
theorem callS_get {P : Program} {S : FuncId → List AV → H → AV → H → Prop} {f : FuncId} {args : List AV} {h : H} (hh : ∃ v h', RetC P f args h v h' ∧ S f args h v h') : ∃ v h', callS P S f args h = some (v, h') ∧ S f args h v h' := by
  obtain ⟨v, h', k1, k2⟩ := hh
  have hx : ∃ r : AV × H, RetC P f args h r.1 r.2 ∧ S f args h r.1 r.2 := ⟨(v, h'), k1, k2⟩
  refine ⟨hx.choose.1, hx.choose.2, ?_, hx.choose_spec.2⟩
  unfold callS
  rw [dif_pos hx]
end
end Go.Proofs.YtldmhpdjlgoenaaGreatDoor.Eo
