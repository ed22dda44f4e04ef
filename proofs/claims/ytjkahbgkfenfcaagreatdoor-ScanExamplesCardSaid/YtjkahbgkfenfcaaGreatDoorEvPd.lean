/-
  An evaluator of Go code over relative heaps, part Pa: pieces: weaker heaps, states written out, rounds of a loop in several theorems.
  An evaluator of Go code over relative heaps, part Pb: a function whose loop is done in pieces.
  An evaluator of Go code over relative heaps, part Pc: a call that is done in pieces, within a closed function.
  An evaluator of Go code over relative heaps, part Pd: pieces of a loop, for the kernel.
-/
import Derived.Test.YtjkahbgkfenfcaaGreatDoorEvFa
set_option linter.unusedVariables false
set_option linter.unusedSimpArgs false
namespace Go.Proofs.YtjkahbgkfenfcaaGreatDoor.Ev
noncomputable section

/-! ### A stretch of a run that may forget -/
structure WayW (ρ : Rho) (h : H) (w : World) (ρ' : Rho) (h' : H) (w' : World) : Prop where
  nx : Nx ρ h.t.get w ρ' h'.t.get w'
  fresh : Fresh ρ' h'.next
  le : h.next ≤ h'.next
  free : ∀ a, a < h.next → ρ a = none → ρ' a = none
theorem Way.weak {ρ ρ' : Rho} {h h' : H} {w w' : World} (k : Way ρ h w ρ' h' w') : WayW ρ h w ρ' h' w' := ⟨k.nx, k.fresh, k.kp.1, fun a h1 h2 => (k.kp.2 a h1 h2).1⟩
theorem WayW.trans {ρ ρ' ρ'' : Rho} {h h' h'' : H} {w w' w'' : World} (k : WayW ρ h w ρ' h' w') (k' : WayW ρ' h' w' ρ'' h'' w'') : WayW ρ h w ρ'' h'' w'' :=
  ⟨k.nx.trans k'.nx, k'.fresh, Nat.le_trans k.le k'.le, fun a h1 h2 => k'.free a (Nat.lt_of_lt_of_le h1 k.le) (k.free a h1 h2)⟩
theorem WayW.refl {ρ : Rho} {h : H} {w : World} (hr : HR ρ h.t.get w) (hf : Fresh ρ h.next) : WayW ρ h w ρ h w := (Way.refl hr hf).weak

/-- o' says no more than o -/
def WkO (o o' : AO) : Prop := o.live = true ∧ (o'.mut = true → o.mut = true) ∧ ∀ ρ w l, OIn ρ w l o → OIn ρ w l o'
/-- h' says no more than h -/
structure Wk (h h' : H) : Prop where
  next : h'.next = h.next
  obj : ∀ a o', h'.t.get a = some o' → ∃ o, h.t.get a = some o ∧ WkO o o'
theorem Wk.rel {h h' : H} (k : Wk h h') {ρ : Rho} {w : World} (hr : HR ρ h.t.get w) : HR ρ h'.t.get w := by
  refine ⟨fun a o l h1 h2 h3 => ?_, fun a b o p l m h1 h2 h3 h4 h5 h6 h7 => ?_⟩
  · obtain ⟨o1, k1, k2, _, k4⟩ := k.obj a o h1
    obtain ⟨j1, j2⟩ := hr.obj a o1 l k1 k2 h3
    exact ⟨j1, k4 _ _ _ j2⟩
  · obtain ⟨o1, k1, k2, _⟩ := k.obj a o h1
    obtain ⟨p1, j1, j2, _⟩ := k.obj b p h3
    exact hr.inj a b o1 p1 l m k1 k2 j1 j2 h5 h6 h7
theorem WayW.wk {ρ ρ' : Rho} {h q q' : H} {w w' : World} (k : WayW ρ h w ρ' q w') (hk : Wk q q') : WayW ρ h w ρ' q' w' := by
  refine ⟨⟨hk.rel k.nx.rel, k.nx.le, k.nx.env, k.nx.size, k.nx.frame, fun a o l h1 h2 h3 h4 => ?_⟩, by rw [hk.next]; exact k.fresh, by rw [hk.next]; exact k.le, k.free⟩
  obtain ⟨o1, k1, _, k3, _⟩ := hk.obj a o h1
  exact k.nx.back a o1 l k1 (k3 h2) h3 h4
/-- t' says no more than t -/
def WkT (t t' : T AV) : Prop := ∀ i v, t'.get i = some v → t.get i = some v
theorem St.wk {B N : Nat} {ρ : Rho} {tm tm' : T AV} {h h' : H} {a : Act} {w : World} (hs : St B N ρ tm h a w) (ht : WkT tm tm') (hk : Wk h h') : St B N ρ tm' h' a w :=
  ⟨fun i v hi => hs.tr i v (ht i v hi), hk.rel hs.hr, by rw [hk.next]; exact hs.fresh, hs.size, hs.defers, hs.base⟩

/-! ### States written out -/
inductive LO where
  | row (l : List AV) (e : TypeId)
  | map (es : List (AV × AV × Nat)) (clock : Nat)
  | tab (l : List AV)
def LO.ao : LO → AO
  | .row l e => .row (putList 0 l .e) l.length e
  | .map es c => .map es c
  | .tab l => .tab (putList 0 l .e)
def ofLO : List (Nat × LO) → T AO
  | [] => .e
  | p :: l => (ofLO l).set p.1 p.2.ao
def ofLT : List (Nat × AV) → T AV
  | [] => .e
  | p :: l => (ofLT l).set p.1 p.2
theorem ofLO_get : ∀ {l : List (Nat × LO)} {a : Nat} {o : AO}, (ofLO l).get a = some o → ∃ x, (a, x) ∈ l ∧ o = x.ao
  | [], a, o, h => by simp [ofLO, T.get_e] at h
  | p :: l, a, o, h => by
    rw [ofLO, T.get_set] at h
    by_cases e : a = p.1
    · subst e
      rw [if_pos rfl] at h
      simp at h; subst h
      exact ⟨p.2, by simp, rfl⟩
    · rw [if_neg e] at h
      obtain ⟨x, h1, h2⟩ := ofLO_get h
      exact ⟨x, by simp [h1], h2⟩
theorem ofLT_get : ∀ {l : List (Nat × AV)} {a : Nat} {v : AV}, (ofLT l).get a = some v → (a, v) ∈ l
  | [], a, o, h => by simp [ofLT, T.get_e] at h
  | p :: l, a, v, h => by
    rw [ofLT, T.get_set] at h
    by_cases e : a = p.1
    · subst e
      rw [if_pos rfl] at h
      simp at h; subst h
      simp
    · rw [if_neg e] at h
      simp [ofLT_get h]
def okO (x : LO) (o : AO) : Bool := match x with
  | .row l e => rowIs l l.length e o
  | .map es c => match o with
    | .map es' c' => Nat.beq c c' && eqEs es es'
    | _ => false
  | .tab l => match o with
    | .tab c' => match getList c' 0 l.length with
      | some l' => eqAV.eqAVs (eqAV 4) l l'
      | none => false
    | _ => false
theorem okO_sound {x : LO} {o : AO} (h : okO x o = true) : WkO o x.ao := by
  cases x with
  | row l e =>
    obtain ⟨c', rfl, hc'⟩ := rowIs_eq h
    refine ⟨rfl, fun _ => rfl, fun ρ w l0 hi => ?_⟩
    obtain ⟨h1, cc, h2, h3, h4⟩ := hi
    refine ⟨h1, cc, h2, h3, fun i v hv => ?_⟩
    rw [putList_get] at hv
    by_cases hh : 0 ≤ i ∧ i < 0 + l.length
    · rw [if_pos hh] at hv
      have e3 := (getList_spec c' l.length 0 l hc').2 i (by omega)
      rw [Nat.zero_add] at e3
      exact h4 i v (by rw [e3]; simpa using hv)
    · rw [if_neg hh, T.get_e] at hv; simp at hv
  | map es c =>
    cases o with
    | map es' c' =>
      simp only [okO, Bool.and_eq_true] at h
      have h1 := Nat.eq_of_beq_eq_true h.1
      have h2 := eqEs_sound h.2
      subst h1 h2
      exact ⟨rfl, fun _ => rfl, fun ρ w l hi => hi⟩
    | _ => simp [okO] at h
  | tab l =>
    cases o with
    | tab c' =>
      simp only [okO] at h
      split at h
      · rename_i l' hl'
        have := eqAVs_sound (eqAV_sound 4) h
        subst this
        refine ⟨rfl, fun hm => by simp [LO.ao, AO.mut] at hm, fun ρ w l0 hi => ?_⟩
        obtain ⟨cc, e, f, h2, h4⟩ := hi
        refine ⟨cc, e, f, h2, fun i v hv => ?_⟩
        rw [putList_get] at hv
        by_cases hh : 0 ≤ i ∧ i < 0 + l.length
        · rw [if_pos hh] at hv
          have e3 := (getList_spec c' l.length 0 l hl').2 i (by omega)
          rw [Nat.zero_add] at e3
          exact h4 i v (by rw [e3]; simpa using hv)
        · rw [if_neg hh, T.get_e] at hv; simp at hv
      · simp at h
    | _ => simp [okO] at h
/-- a state written out -/
structure LS where
  next : Nat
  os : List (Nat × LO)
  ts : List (Nat × AV)
def LS.h (s : LS) : H := ⟨s.next, ofLO s.os⟩
def LS.tm (s : LS) : T AV := ofLT s.ts
def osB (os : List (Nat × LO)) (q : H) : Bool := os.all fun p => match q.t.get p.1 with
  | some o => okO p.2 o
  | none => false
def tsB (ts : List (Nat × AV)) (tm : T AV) : Bool := ts.all fun p => match tm.get p.1 with
  | some v => eqAV 4 p.2 v
  | none => false
def LS.fits (s : LS) (tm : T AV) (q : H) : Bool := Nat.beq s.next q.next && tsB s.ts tm && osB s.os q
theorem osB_sound {os : List (Nat × LO)} {q : H} {n : Nat} (hn : n = q.next) (h : osB os q = true) : Wk q ⟨n, ofLO os⟩ := by
  refine ⟨hn, fun a o' hg => ?_⟩
  obtain ⟨x, h1, rfl⟩ := ofLO_get hg
  have := List.all_eq_true.1 h _ h1
  simp only at this
  split at this
  · rename_i o ho
    exact ⟨o, ho, okO_sound this⟩
  · simp at this
theorem LS.fits_sound {s : LS} {tm : T AV} {q : H} (h : s.fits tm q = true) : WkT tm s.tm ∧ Wk q s.h := by
  simp only [LS.fits, Bool.and_eq_true] at h
  obtain ⟨⟨h1, h2⟩, h3⟩ := h
  refine ⟨fun i v hv => ?_, osB_sound (Nat.eq_of_beq_eq_true h1) h3⟩
  have hm := ofLT_get hv
  have := List.all_eq_true.1 h2 _ hm
  simp only at this
  split at this
  · rename_i u hu
    rw [hu, eqAV_sound _ _ _ this]
  · simp at this

/-! ### Rounds -/
def iterE (body : CodeE) (k : Nat) : T AV → H → Option (T AV × H) :=
  Nat.rec (motive := fun _ => T AV → H → Option (T AV × H)) (fun tm h => some (tm, h)) (fun _ ih tm h => match body tm h with
    | some (.normal, tm', h') => ih tm' h'
    | _ => none) k
/-- some rounds lead from here to there -/
def RoundsTo (P : Program) (c : Code) (N : Nat) (tm : T AV) (h : H) (tm' : T AV) (h' : H) : Prop :=
  ∃ k, ∀ n B ρ a w Q, St B N ρ tm h a w → (∀ ρ' a' w', St B N ρ' tm' h' a' w' → WayW ρ h w ρ' h' w' → Code.rounds P c Q n a' w') → Code.rounds P c Q (n + k) a w
theorem RoundsTo.trans {P : Program} {c : Code} {N : Nat} {tm tm' tm'' : T AV} {h h' h'' : H} (r : RoundsTo P c N tm h tm' h') (s : RoundsTo P c N tm' h' tm'' h'') : RoundsTo P c N tm h tm'' h'' := by
  obtain ⟨k, hk⟩ := r
  obtain ⟨m, hm⟩ := s
  refine ⟨m + k, fun n B ρ a w Q hs hq => ?_⟩
  rw [← Nat.add_assoc]
  exact hk (n + m) B ρ a w Q hs fun ρ' a' w' k1 k2 => hm n B ρ' a' w' Q k1 fun ρ'' a'' w'' j1 j2 => hq ρ'' a'' w'' j1 (k2.trans j2)
theorem RoundsTo.wk {P : Program} {c : Code} {N : Nat} {tm tm' tm'' : T AV} {h h' h'' : H} (r : RoundsTo P c N tm h tm' h') (ht : WkT tm' tm'') (hk : Wk h' h'') : RoundsTo P c N tm h tm'' h'' := by
  obtain ⟨k, hr⟩ := r
  exact ⟨k, fun n B ρ a w Q hs hq => hr n B ρ a w Q hs fun ρ' a' w' k1 k2 => hq ρ' a' w' (k1.wk ht hk) (k2.wk hk)⟩
theorem RoundsTo.from {P : Program} {c : Code} {N : Nat} {tm tm' tm0 : T AV} {h h' h0 : H} (r : RoundsTo P c N tm h tm' h') (ht : WkT tm0 tm) (hk : Wk h0 h) : ∃ k, ∀ n B ρ a w Q, St B N ρ tm0 h0 a w → (∀ ρ' a' w', St B N ρ' tm' h' a' w' → WayW ρ h w ρ' h' w' → Code.rounds P c Q n a' w') → Code.rounds P c Q (n + k) a w := by
  obtain ⟨k, hr⟩ := r
  exact ⟨k, fun n B ρ a w Q hs hq => hr n B ρ a w Q (hs.wk ht hk) hq⟩
theorem iterE_sound {P : Program} {c : Code} {N : Nat} {body : CodeE} (hb : ∀ tm h ex tm' h', body tm h = some (ex, tm', h') → Does P c N tm h ex tm' h') : ∀ k tm h tm' h', iterE body k tm h = some (tm', h') → RoundsTo P c N tm h tm' h'
  | 0, tm, h, tm', h', he => by
    simp only [iterE, Option.some.injEq, Prod.mk.injEq] at he
    obtain ⟨rfl, rfl⟩ := he
    exact ⟨0, fun n B ρ a w Q hs hq => hq ρ a w hs (WayW.refl hs.hr hs.fresh)⟩
  | k + 1, tm, h, tm', h', he => by
    change (match body tm h with
      | some (.normal, tm', h') => iterE body k tm' h'
      | _ => none) = _ at he
    split at he
    · rename_i tm2 h2 h1
      obtain ⟨m, hm⟩ := iterE_sound hb k tm2 h2 tm' h' he
      refine ⟨m + 1, fun n B ρ a w Q hs hq => ?_⟩
      show Code.rounds P c Q (n + m + 1) a w
      rw [Code.rounds]
      refine wp_post (hb _ _ _ _ _ h1) hs fun ρ' a' w' j1 j2 => ?_
      exact hm n B ρ' a' w' Q j1 fun ρ'' a'' w'' i1 i2 => hq ρ'' a'' w'' i1 (j2.weak.trans i2)
    · simp at he
end
end Go.Proofs.YtjkahbgkfenfcaaGreatDoor.Ev

namespace Go.Proofs.YtjkahbgkfenfcaaGreatDoor.Ev
noncomputable section

theorem WayW.base {ρ ρ' : Rho} {h h0 q : H} {w w' : World} (k : WayW ρ h0 w ρ' q w') (hk : Wk h h0) : WayW ρ h w ρ' q w' := by
  refine ⟨⟨k.nx.rel, k.nx.le, k.nx.env, k.nx.size, fun r hr hn => k.nx.frame r hr fun a o l h1 h2 h3 => ?_, fun a o l h1 h2 h3 h4 => ?_⟩, k.fresh, by have := k.le; rw [hk.next] at this; exact this, fun a ha => k.free a (by rw [hk.next]; exact ha)⟩
  · obtain ⟨o1, k1, _, k3, _⟩ := hk.obj a o h1
    exact hn a o1 l k1 (k3 h2) h3
  · obtain ⟨b, p, m, b1, b2, b3, b4⟩ := k.nx.back a o l h1 h2 h3 h4
    obtain ⟨o1, k1, _, k3, _⟩ := hk.obj b p b1
    exact ⟨b, o1, m, k1, k3 b2, b3, b4⟩
theorem RoundsTo.start {P : Program} {c : Code} {N : Nat} {tm tm' tm0 : T AV} {h h' h0 : H} (r : RoundsTo P c N tm0 h0 tm' h') (ht : WkT tm tm0) (hk : Wk h h0) : RoundsTo P c N tm h tm' h' := by
  obtain ⟨k, hr⟩ := r
  exact ⟨k, fun n B ρ a w Q hs hq => hr n B ρ a w Q (hs.wk ht hk) fun ρ' a' w' k1 k2 => hq ρ' a' w' k1 (k2.base hk)⟩

/-! ### Code with jumps at its loops -/
def DoesW (P : Program) (c : Code) (N : Nat) (tm : T AV) (h : H) (ex : Ex) (tm' : T AV) (h' : H) : Prop :=
  ∀ B ρ a w, St B N ρ tm h a w → c.wp P (fun e a' w' => e = ex.out ∧ ∃ ρ', St B N ρ' tm' h' a' w' ∧ WayW ρ h w ρ' h' w') a w
theorem Does.weak {P : Program} {c : Code} {N : Nat} {tm tm' : T AV} {h h' : H} {ex : Ex} (hd : Does P c N tm h ex tm' h') : DoesW P c N tm h ex tm' h' :=
  fun B ρ a w hs => wp_mono (hd B ρ a w hs) fun e a' w' ⟨h1, ρ', h2, h3⟩ => ⟨h1, ρ', h2, h3.weak⟩
theorem wp_postW {P : Program} {c : Code} {N : Nat} {tm tm' : T AV} {h h' : H} {ex : Ex} (hd : DoesW P c N tm h ex tm' h') {B : Nat} {ρ : Rho} {a : Act} {w : World} (hs : St B N ρ tm h a w) {Q : Exit → Act → World → Prop}
    (hQ : ∀ ρ' a' w', St B N ρ' tm' h' a' w' → WayW ρ h w ρ' h' w' → Q ex.out a' w') : c.wp P Q a w :=
  wp_mono (hd B ρ a w hs) fun e a' w' hh => by
    obtain ⟨rfl, ρ', k1, k2⟩ := hh
    exact hQ _ _ _ k1 k2
abbrev JumpE := T AV → H → Option (T AV × H)
def codeJ (P : Program) (sq : SeqT) (draw : DrawE) (call : CallE) (N fuel : Nat) (J : JumpE) (c : Code) : CodeE :=
  Code.rec (motive := fun _ => CodeE)
    (fun tm h => some (.normal, tm, h))
    (fun id ops d tm h => match d with
      | false => match sq call ops.toList N ops.toList tm h with
        | some (tm', h') => some (.normal, tm', h')
        | none => none
      | true => match draw call ops.toList N tm h with
        | some (tm', h') => some (.normal, tm', h')
        | none => none)
    (fun a b iha ihb tm h => match iha tm h with
      | some (.normal, tm', h') => ihb tm' h'
      | r => r)
    (fun c x y ihx ihy tm h => match cOpd c with
      | some c => match evo tm c with
        | some (.bool true) => ihx tm h
        | some (.bool false) => ihy tm h
        | _ => none
      | none => none)
    (fun id body ih tm h => match ih tm h with
      | some (.exit j, tm', h') => cond (Nat.beq j id) (some (.normal, tm', h')) (some (.exit j, tm', h'))
      | r => r)
    (fun body ih tm h => match J tm h with
      | some (tm', h') => loopE ih fuel tm' h'
      | none => none)
    (fun f ps x y ihx ihy tm h => none)
    (fun id tm h => some (.exit id, tm, h))
    (fun body ih tm h => none)
    (fun l tm h => some (.normal, tm, h))
    (fun l tm h => none)
    (fun tm h => some (.ret, tm, h))
    (fun why tm h => none)
    c
/-- what is so of all loops' bodies -/
def LoopsIn (Q : Code → Prop) (c : Code) : Prop :=
  Code.rec (motive := fun _ => Prop) True (fun _ _ _ => True) (fun _ _ iha ihb => iha ∧ ihb) (fun _ _ _ ihx ihy => ihx ∧ ihy) (fun _ _ ih => ih) (fun body ih => Q body ∧ ih)
    (fun _ _ _ _ _ _ => True) (fun _ => True) (fun _ _ => True) (fun _ => True) (fun _ => True) True (fun _ => True) c
theorem loopW_sound {P : Program} {c : Code} {N : Nat} {body : CodeE} (hb : ∀ tm h ex tm' h', body tm h = some (ex, tm', h') → DoesW P c N tm h ex tm' h') :
    ∀ n tm h ex tm' h', loopE body n tm h = some (ex, tm', h') → ∀ B ρ a w, St B N ρ tm h a w → Code.rounds P c (fun e a' w' => e = ex.out ∧ ∃ ρ', St B N ρ' tm' h' a' w' ∧ WayW ρ h w ρ' h' w') n a w
  | 0, tm, h, ex, tm', h', he => by simp [loopE] at he
  | n + 1, tm, h, ex, tm', h', he => by
    change (match body tm h with
      | some (.normal, tm', h') => loopE body n tm' h'
      | r => r) = _ at he
    intro B ρ a w hs
    have key : ∀ m a w Q Q', (∀ e a w, Q e a w → Q' e a w) → Code.rounds P c Q m a w → Code.rounds P c Q' m a w := by
      intro m
      induction m with
      | zero => intro a w Q Q' hq hh; exact hh
      | succ m ih =>
        intro a w Q Q' hq hh
        refine wp_mono hh fun e a w he => ?_
        cases e <;> first
          | exact ih _ _ _ _ hq he
          | exact hq _ _ _ he
    split at he
    · rename_i tm2 h2 h1
      rw [Code.rounds]
      refine wp_postW (hb _ _ _ _ _ h1) hs fun ρ' a' w' j1 j2 => ?_
      exact key n a' w' _ _ (fun e a w hh => by
        obtain ⟨e1, ρ'', m1, m2⟩ := hh
        exact ⟨e1, ρ'', m1, j2.trans m2⟩) (loopW_sound hb n tm2 h2 ex tm' h' he B ρ' a' w' j1)
    · rename_i r hr
      have hex : ex ≠ .normal := by
        rintro rfl
        exact hr _ _ (by rw [he])
      rw [Code.rounds]
      refine wp_postW (hb _ _ _ _ _ he) hs fun ρ' a' w' j1 j2 => ?_
      cases ex with
      | normal => exact absurd rfl hex
      | exit id => exact ⟨rfl, ρ', j1, j2⟩
      | goto l => exact ⟨rfl, ρ', j1, j2⟩
      | ret => exact ⟨rfl, ρ', j1, j2⟩
theorem codeJ_sound {P : Program} {draw : DrawE} (hdraw : DrawOK P draw) {call : CallE} (hcall : CallOK true P call) (N fuel : Nat) {J : JumpE} : ∀ (c : Code), LoopsIn (fun body => ∀ tm h tm' h', J tm h = some (tm', h') → RoundsTo P body N tm h tm' h') c →
    ∀ tm h ex tm' h', codeJ P (seqE P) draw call N fuel J c tm h = some (ex, tm', h') → DoesW P c N tm h ex tm' h' := by
  intro c
  induction c with
  | skip =>
    intro _ tm h ex tm' h' he B ρ a w hs
    simp only [codeJ, Option.some.injEq, Prod.mk.injEq] at he
    obtain ⟨rfl, rfl, rfl⟩ := he
    exact wp_skip ⟨rfl, ρ, hs, WayW.refl hs.hr hs.fresh⟩
  | region id ops d =>
    intro _ tm h ex tm' h' he
    simp only [codeJ] at he
    split at he
    · split at he
      · rename_i tm2 h2 h1
        simp only [Option.some.injEq, Prod.mk.injEq] at he
        obtain ⟨rfl, rfl, rfl⟩ := he
        refine Does.weak fun B ρ a w hs => ?_
        refine (wpIn_wide (n := 0)).1 (wpIn_region (F := Fnc none) ?_)
        rw [List.range_eq_range']
        have := seqE_sound (r := none) (Q := fun e a' w' => e = Ex.normal.out ∧ ∃ ρ', St B N ρ' tm2 h2 a' w' ∧ Way ρ h w ρ' h2 w') hcall (i := 0) (by simp) h1 hs (fun ρ' a' w' k1 k2 => ⟨rfl, ρ', k1, k2⟩)
        simpa using this
      · simp at he
    · split at he
      · rename_i tm2 h2 h1
        simp only [Option.some.injEq, Prod.mk.injEq] at he
        obtain ⟨rfl, rfl, rfl⟩ := he
        exact (hdraw call hcall id ops N tm h tm2 h2 h1).does.weak
      · simp at he
  | seq x y ihx ihy =>
    intro hl tm h ex tm' h' he B ρ a w hs
    obtain ⟨hl1, hl2⟩ := hl
    change (match codeJ P (seqE P) draw call N fuel J x tm h with
      | some (.normal, tm', h') => codeJ P (seqE P) draw call N fuel J y tm' h'
      | r => r) = _ at he
    split at he
    · rename_i tm2 h2 h1
      refine wp_seq (wp_postW (ihx hl1 _ _ _ _ _ h1) hs fun ρ' a' w' k1 k2 => ?_)
      refine wp_postW (ihy hl2 _ _ _ _ _ he) k1 fun ρ'' a'' w'' j1 j2 => ⟨rfl, ρ'', j1, k2.trans j2⟩
    · rename_i r hr
      have hex : ex ≠ .normal := by
        rintro rfl
        exact hr _ _ (by rw [he])
      refine wp_seq (wp_postW (ihx hl1 _ _ _ _ _ he) hs fun ρ' a' w' k1 k2 => ?_)
      cases ex with
      | normal => exact absurd rfl hex
      | exit id => exact ⟨rfl, ρ', k1, k2⟩
      | goto l => exact ⟨rfl, ρ', k1, k2⟩
      | ret => exact ⟨rfl, ρ', k1, k2⟩
  | cond c x y ihx ihy =>
    intro hl tm h ex tm' h' he B ρ a w hs
    obtain ⟨hl1, hl2⟩ := hl
    change (match cOpd c with
      | some c => match evo tm c with
        | some (.bool true) => codeJ P (seqE P) draw call N fuel J x tm h
        | some (.bool false) => codeJ P (seqE P) draw call N fuel J y tm h
        | _ => none
      | none => none) = _ at he
    split at he
    · rename_i c' hc
      split at he
      · rename_i hv
        have := evo_sound hs.tr hc hv
        simp only [VR] at this
        exact wp_cond_true this (ihx hl1 _ _ _ _ _ he B ρ a w hs)
      · rename_i hv
        have := evo_sound hs.tr hc hv
        simp only [VR] at this
        exact wp_cond_false this (ihy hl2 _ _ _ _ _ he B ρ a w hs)
      · simp at he
    · simp at he
  | block id body ih =>
    intro hl tm h ex tm' h' he B ρ a w hs
    have hl : LoopsIn _ body := hl
    change (match codeJ P (seqE P) draw call N fuel J body tm h with
      | some (Ex.exit j, tm', h') => cond (Nat.beq j id) (some (Ex.normal, tm', h')) (some (Ex.exit j, tm', h'))
      | r => r) = (_ : Option (Ex × T AV × H)) at he
    split at he
    · rename_i j tm2 h2 h1
      refine wp_block (wp_postW (ih hl _ _ _ _ _ h1) hs fun ρ' a' w' k1 k2 => ?_)
      cases hb : Nat.beq j id
      · rw [hb] at he
        simp only [cond_false, Option.some.injEq, Prod.mk.injEq] at he
        obtain ⟨rfl, rfl, rfl⟩ := he
        have hne : j ≠ id := fun e => by subst e; simp at hb
        simp only [Ex.out, Exit.inBlock, hne, if_false]
        exact ⟨trivial, ρ', k1, k2⟩
      · rw [hb] at he
        simp only [cond_true, Option.some.injEq, Prod.mk.injEq] at he
        obtain ⟨rfl, rfl, rfl⟩ := he
        have := Nat.eq_of_beq_eq_true hb
        subst this
        simp only [Ex.out, Exit.inBlock, if_true]
        exact ⟨trivial, ρ', k1, k2⟩
    · rename_i r hr
      refine wp_block (wp_postW (ih hl _ _ _ _ _ he) hs fun ρ' a' w' k1 k2 => ?_)
      cases ex with
      | normal => exact ⟨rfl, ρ', k1, k2⟩
      | exit j => exact absurd (by rw [he]) (hr j _ _)
      | goto l => exact ⟨rfl, ρ', k1, k2⟩
      | ret => exact ⟨rfl, ρ', k1, k2⟩
  | loop body ih =>
    intro hl tm h ex tm' h' he B ρ a w hs
    obtain ⟨hl1, hl2⟩ := hl
    change (match J tm h with
      | some (tm', h') => loopE (codeJ P (seqE P) draw call N fuel J body) fuel tm' h'
      | none => none) = (_ : Option (Ex × T AV × H)) at he
    split at he
    · rename_i tm2 h2 h1
      obtain ⟨k, hk⟩ := hl1 _ _ _ _ h1
      refine wp_loop_rounds (fuel + k) (hk fuel B ρ a w _ hs fun ρ' a' w' k1 k2 => ?_)
      have key : ∀ m a w Q Q', (∀ e a w, Q e a w → Q' e a w) → Code.rounds P body Q m a w → Code.rounds P body Q' m a w := by
        intro m
        induction m with
        | zero => intro a w Q Q' hq hh; exact hh
        | succ m ih =>
          intro a w Q Q' hq hh
          refine wp_mono hh fun e a w he => ?_
          cases e <;> first
            | exact ih _ _ _ _ hq he
            | exact hq _ _ _ he
      exact key fuel a' w' _ _ (fun e a w hh => by
        obtain ⟨e1, ρ'', m1, m2⟩ := hh
        exact ⟨e1, ρ'', m1, k2.trans m2⟩) (loopW_sound (ih hl2) fuel tm2 h2 ex tm' h' he B ρ' a' w' k1)
    · simp at he
  | rangeFunc f ps x y ihx ihy => intro _ tm h ex tm' h' he; simp [codeJ] at he
  | exit id =>
    intro _ tm h ex tm' h' he B ρ a w hs
    simp only [codeJ, Option.some.injEq, Prod.mk.injEq] at he
    obtain ⟨rfl, rfl, rfl⟩ := he
    exact wp_exit ⟨rfl, ρ, hs, WayW.refl hs.hr hs.fresh⟩
  | scope body ih => intro _ tm h ex tm' h' he; simp [codeJ] at he
  | label l =>
    intro _ tm h ex tm' h' he B ρ a w hs
    simp only [codeJ, Option.some.injEq, Prod.mk.injEq] at he
    obtain ⟨rfl, rfl, rfl⟩ := he
    exact wp_label ⟨rfl, ρ, hs, WayW.refl hs.hr hs.fresh⟩
  | goto l => intro _ tm h ex tm' h' he; simp [codeJ] at he
  | ret =>
    intro _ tm h ex tm' h' he B ρ a w hs
    simp only [codeJ, Option.some.injEq, Prod.mk.injEq] at he
    obtain ⟨rfl, rfl, rfl⟩ := he
    exact wp_ret ⟨rfl, ρ, hs, WayW.refl hs.hr hs.fresh⟩
  | refuse why => intro _ tm h ex tm' h' he; simp [codeJ] at he
end
end Go.Proofs.YtjkahbgkfenfcaaGreatDoor.Ev

namespace Go.Proofs.YtjkahbgkfenfcaaGreatDoor.Ev
noncomputable section

/-! ### What a piecewise call leaves -/
def keepQ : Option AO → AO
  | some o => cond o.mut o .dead
  | none => .dead
theorem keepQ_sound {o : Option AO} (h : (keepQ o).live = true) : o = some (keepQ o) ∧ (keepQ o).mut = true := by
  unfold keepQ at *
  split at h
  · rename_i o
    cases hm : o.mut with
    | true => simp [hm] at *
    | false => rw [hm] at h; simp [AO.live] at h
  · simp [AO.live] at h
def joinQ (q : H) (n : Nat) : Nat → T AO → T AO :=
  Nat.rec (motive := fun _ => Nat → T AO → T AO) (fun _ t => t) (fun _ ih i t => ih (Nat.succ i) (t.set i (keepQ (q.t.get i)))) n
theorem joinQ_get (q : H) : ∀ (n i : Nat) (t : T AO) (a : Nat), (joinQ q n i t).get a = if i ≤ a ∧ a < i + n then some (keepQ (q.t.get a)) else t.get a
  | 0, i, t, a => by
    show t.get a = _
    rw [if_neg (by omega)]
  | n + 1, i, t, a => by
    show (joinQ q n (i + 1) (t.set i (keepQ (q.t.get i)))).get a = _
    rw [joinQ_get q n (i + 1), T.get_set]
    by_cases h1 : i + 1 ≤ a ∧ a < i + 1 + n
    · rw [if_pos h1, if_pos (by omega)]
    · rw [if_neg h1]
      by_cases h2 : a = i
      · subst h2
        rw [if_pos rfl, if_pos (by omega)]
      · rw [if_neg h2, if_neg (by omega)]
theorem join_wayW {ρ ρ' : Rho} {h H0 q : H} {ks : List Nat} {w w' : World} (hr : HR ρ h.t.get w) (hf : Fresh ρ h.next) (hk : Wk h H0) (hks : ∀ a o, H0.t.get a = some o → a ∈ ks) (hst : stays h ks q = true) (hw0 : WayW ρ H0 w ρ' q w') :
    Way ρ h w ρ' ⟨q.next, joinQ q (Nat.sub q.next h.next) h.next h.t⟩ w' := by
  obtain ⟨J, hJ⟩ : ∃ J, J = joinQ q (Nat.sub q.next h.next) h.next h.t := ⟨_, rfl⟩
  rw [← hJ]
  have hw : WayW ρ h w ρ' q w' := hw0.base hk
  have hle : h.next ≤ q.next := hw.le
  have hget : ∀ a, J.get a = if h.next ≤ a ∧ a < q.next then some (keepQ (q.t.get a)) else h.t.get a := by
    intro a
    rw [hJ, joinQ_get]
    have : h.next + Nat.sub q.next h.next = q.next := by
      show h.next + (q.next - h.next) = q.next
      omega
    rw [this]
  have hnew : ∀ a o, h.next ≤ a ∧ a < q.next → J.get a = some o → o.live = true → o.mut = true ∧ q.t.get a = some o := by
    intro a o ha hg hlive
    rw [hget, if_pos ha] at hg
    simp only [Option.some.injEq] at hg
    rw [← hg] at hlive ⊢
    obtain ⟨k1, k2⟩ := keepQ_sound hlive
    exact ⟨k2, k1⟩
  have hold : ∀ a l, ¬ (h.next ≤ a ∧ a < q.next) → ρ' a = some l → ρ a = some l ∧ a < h.next := by
    intro a l ha hl
    have h1 : a < q.next := by
      rcases Nat.lt_or_ge a q.next with hlt | hge
      · exact hlt
      · have := hw.fresh a hge
        rw [hl] at this; simp at this
    have h2 : a < h.next := by omega
    refine ⟨?_, h2⟩
    cases hra : ρ a with
    | none =>
      have := hw.free a h2 hra
      rw [hl] at this; simp at this
    | some l0 =>
      have := hw.nx.le a l0 hra
      rw [hl] at this
      exact this.symm
  have holdget : ∀ a o, ¬ (h.next ≤ a ∧ a < q.next) → J.get a = some o → h.t.get a = some o := by
    intro a o ha hg
    rw [hget, if_neg ha] at hg
    exact hg
  have hins : ∀ a o l, h.t.get a = some o → o.mut = true → ρ a = some l → a ∈ ks → ∃ o', q.t.get a = some o' ∧ o'.live = true ∧ sameO o o' = true := by
    intro a o l hg hm hl ha
    have := List.all_eq_true.1 hst a ha
    rw [hg] at this
    simp only [hm, cond_true] at this
    cases hq2 : q.t.get a with
    | none => rw [hq2] at this; simp at this
    | some o' =>
      rw [hq2] at this
      refine ⟨o', rfl, ?_, this⟩
      cases o <;> cases o' <;> first
        | rfl
        | (simp [sameO, rowIs] at this; done)
        | (simp only [sameO, rowIs] at this; split at this <;> simp at this)
  have hobj : ∀ a o l, J.get a = some o → o.live = true → ρ' a = some l → l.blk < w'.heap.size ∧ OIn ρ' w' l o := by
    intro a o l hg hlive hl
    by_cases ha : h.next ≤ a ∧ a < q.next
    · obtain ⟨_, k1⟩ := hnew a o ha hg hlive
      exact hw.nx.rel.obj a o l k1 hlive hl
    · obtain ⟨hl0, hlt⟩ := hold a l ha hl
      have hg0 := holdget a o ha hg
      obtain ⟨j1, j2⟩ := hr.obj a o l hg0 hlive hl0
      by_cases hkk : a ∈ ks ∧ o.mut = true
      · obtain ⟨o', m1, m2, m3⟩ := hins a o l hg0 hkk.2 hl0 hkk.1
        obtain ⟨i1, i2⟩ := hw.nx.rel.obj a o' l m1 m2 hl
        exact ⟨i1, (sameO_sound m3 j2 i2).2⟩
      · refine ⟨Nat.lt_of_lt_of_le j1 hw.nx.size, OIn.mono hw.nx.le (OIn.congr (hw0.nx.frame l.blk j1 fun b p m p1 p2 p3 e => ?_) j2)⟩
        have q1 := hks b p p1
        obtain ⟨p', q2, q3, q4, _⟩ := hk.obj b p p1
        have hab := hr.inj a b o p' l m hg0 hlive q2 q3 hl0 p3 e.symm
        subst hab
        rw [hg0] at q2
        simp only [Option.some.injEq] at q2
        subst q2
        exact hkk ⟨q1, q4 p2⟩
  have mixed : ∀ a b o p l m, h.next ≤ a ∧ a < q.next → ¬ (h.next ≤ b ∧ b < q.next) → J.get a = some o → o.live = true → J.get b = some p → p.live = true → ρ' a = some l → ρ' b = some m → l.blk = m.blk → False := by
    intro a b o p l m ha hb hg hlive hgb hliveb hl hm e
    obtain ⟨k2, k1⟩ := hnew a o ha hg hlive
    obtain ⟨hm0, hblt⟩ := hold b m hb hm
    have hgb0 := holdget b p hb hgb
    have hmlt := (hr.obj b p m hgb0 hliveb hm0).1
    obtain ⟨c, x, y, c1, c2, c3, c4⟩ := hw0.nx.back a o l k1 k2 hl (by rw [e]; exact hmlt)
    have c5 := hks c x c1
    obtain ⟨x0, c6, _, c8, _⟩ := hk.obj c x c1
    obtain ⟨x', x1, x2, _⟩ := hins c x0 y c6 (c8 c2) c3 c5
    have hca := hw.nx.rel.inj c a x' o y l x1 x2 k1 (AO.live_of_mut k2) (hw.nx.le _ _ c3) hl c4
    subst hca
    have := hf c ha.1
    rw [c3] at this; simp at this
  refine ⟨⟨⟨hobj, ?_⟩, hw.nx.le, hw.nx.env, hw.nx.size, hw.nx.frame, ?_⟩, hw.fresh, ⟨hle, fun a ha hra => ⟨hw.free a ha hra, ?_⟩⟩⟩
  · intro a b o p l m h1 h2 h3 h4 h5 h6 h7
    by_cases ha : h.next ≤ a ∧ a < q.next
    · by_cases hb : h.next ≤ b ∧ b < q.next
      · obtain ⟨k2, k1⟩ := hnew a o ha h1 h2
        obtain ⟨j2, j1⟩ := hnew b p hb h3 h4
        exact hw.nx.rel.inj a b o p l m k1 h2 j1 h4 h5 h6 h7
      · exact (mixed a b o p l m ha hb h1 h2 h3 h4 h5 h6 h7).elim
    · by_cases hb : h.next ≤ b ∧ b < q.next
      · exact (mixed b a p o m l hb ha h3 h4 h1 h2 h6 h5 h7.symm).elim
      · exact hr.inj a b o p l m (holdget a o ha h1) h2 (holdget b p hb h3) h4 (hold a l ha h5).1 (hold b m hb h6).1 h7
  · intro a o l h1 h2 h3 h4
    by_cases ha : h.next ≤ a ∧ a < q.next
    · obtain ⟨k2, k1⟩ := hnew a o ha h1 (AO.live_of_mut h2)
      exact hw.nx.back a o l k1 k2 h3 h4
    · exact ⟨a, o, l, holdget a o ha h1, h2, (hold a l ha h3).1, rfl⟩
  · show J.get a = h.t.get a
    rw [hget, if_neg (by omega)]

/-! ### The call -/
def pieceE (P : Program) (sq : SeqT) (draw : DrawE) (call : CallE) (fuel : Nat) (J : JumpE) (s0 : LS) (args0 : List AV) (fn : Func) (c : Code) (args : List AV) (h : H) : Option (AV × H) :=
  match Nat.beq s0.next h.next && eqAV.eqAVs (eqAV 6) args0 args && osB s0.os h with
  | true => match codeJ P sq draw call (Nat.add args.length (Nat.sub fn.ntmps args.length)) fuel J c (putList 0 args .e) s0.h with
    | some (ex, tm, q) => match ex with
      | .exit _ => none
      | .goto _ => none
      | _ => match resA P tm q.t.get fn.results.toList with
        | some vs => match stays h (s0.os.map fun p => p.1) q with
          | true => some (packA vs, ⟨q.next, joinQ q (Nat.sub q.next h.next) h.next h.t⟩)
          | false => none
        | none => none
    | none => none
  | false => none
theorem pieceE_sound {P : Program} {draw : DrawE} (hdraw : DrawOK P draw) {call : CallE} (hcall : CallOK true P call) {fuel : Nat} {J : JumpE} {s0 : LS} {args0 : List AV} {f : FuncId} {fn : Func} {c : Code} (hf : P.funcs[f]? = some fn) (hb : fn.body = some c)
    (hJ : LoopsIn (fun body => ∀ tm h tm' h', J tm h = some (tm', h') → RoundsTo P body (Nat.add args0.length (Nat.sub fn.ntmps args0.length)) tm h tm' h') c) {args : List AV} {h h' : H} {v : AV}
    (he : pieceE P (seqE P) draw call fuel J s0 args0 fn c args h = some (v, h')) {ρ : Rho} {w : World} {ARGS : List Value} (ha : VRs ρ args ARGS) (hr : HR ρ h.t.get w) (hfr : Fresh ρ h.next) :
    Calls P f ARGS.toArray w fun e w' => ∃ ρ' V, e = .returned V ∧ VR ρ' v V ∧ Way ρ h w ρ' h' w' := by
  refine callsIn_wide.1 (callsIn_of_wp_marks (n := 0) hf hb trivial ((wpIn_wide (n := 0)).2 ?_))
  unfold pieceE at he
  split at he
  · rename_i hfit
    simp only [Bool.and_eq_true] at hfit
    obtain ⟨⟨f1, f2⟩, f3⟩ := hfit
    have f2 := eqAVs_sound (eqAV_sound 6) f2
    subst f2
    have hwk : Wk h s0.h := osB_sound (Nat.eq_of_beq_eq_true f1) f3
    have hks : ∀ a o, s0.h.t.get a = some o → a ∈ s0.os.map fun p => p.1 := by
      intro a o hg
      obtain ⟨x, h1, _⟩ := ofLO_get hg
      exact List.mem_map.2 ⟨_, h1, rfl⟩
    have hl := ha.length
    have hs : St w.heap.size (Nat.add args0.length (Nat.sub fn.ntmps args0.length)) ρ (putList 0 args0 .e) s0.h { tmps := ARGS.toArray ++ Array.replicate (fn.ntmps - ARGS.toArray.size) undef, defers := [] } w := by
      refine ⟨fun i u hi => ?_, hwk.rel hr, by rw [hwk.next]; exact hfr, by simp [hl], trivial, Nat.le_refl _⟩
      rw [putList_get] at hi
      by_cases hh : 0 ≤ i ∧ i < 0 + args0.length
      · rw [if_pos hh] at hi
        have hi' : args0[i]? = some u := by simpa using hi
        obtain ⟨V, k1, k2⟩ := ha.get hi'
        have hlt : i < ARGS.length := (List.getElem?_eq_some_iff.1 k1).1
        refine ⟨by simp; omega, ?_⟩
        rw [Array.getD_eq_getD_getElem?, Array.getElem?_append_left (by simpa using hlt)]
        simpa [k1] using k2
      · rw [if_neg hh, T.get_e] at hi; simp at hi
    split at he
    · rename_i ex tm q h1
      refine wp_postW (codeJ_sound hdraw hcall _ _ c hJ _ _ _ _ _ h1) hs fun ρ' a' w' k1 k2 => ?_
      have key : (match resA P tm q.t.get fn.results.toList with
        | some vs => match stays h (s0.os.map fun p => p.1) q with
          | true => some (packA vs, (⟨q.next, joinQ q (Nat.sub q.next h.next) h.next h.t⟩ : H))
          | false => none
        | none => none) = some (v, h') → LeavesInM Fence.wide 0 P fn a'.tmps (fun e w' => ∃ ρ' V, e = .returned V ∧ VR ρ' v V ∧ Way ρ h w ρ' h' w') a'.defers .returning w' := by
        intro he
        split at he
        · rename_i vs hvs
          split at he
          · rename_i hst
            simp only [Option.some.injEq, Prod.mk.injEq] at he
            obtain ⟨rfl, rfl⟩ := he
            have hj := fun w'' (hw'' : WayW ρ s0.h w ρ' q w'') => join_wayW hr hfr hwk hks hst hw''
            -- the deferred marks are shut one by one
            have go : ∀ (ds : List Deferred) (w1 : World), Clean w.heap.size w1 ds → WayW ρ s0.h w ρ' q w1 → LeavesInM Fence.wide 0 P fn a'.tmps (fun e w' => ∃ ρ' V, e = .returned V ∧ VR ρ' (packA vs) V ∧ Way ρ h w ρ' ⟨q.next, joinQ q (Nat.sub q.next h.next) h.next h.t⟩ w') ds .returning w1 := by
              intro ds
              induction ds with
              | nil =>
                intro w1 _ hw1
                obtain ⟨V, j1, j2⟩ := run_results k1.tr hw1.nx.rel hvs
                exact ⟨V, j2, ρ', V, rfl, j1, hj w1 hw1⟩
              | cons d ds ih =>
                intro w1 hc hw1
                obtain ⟨⟨D, h1, h2, h3, h4⟩, h5⟩ := hc
                refine ⟨by simp, .inl ⟨D, w1.putObj D (.deferred none), by rw [h1], run_takeDeferred h3, ?_⟩⟩
                refine ih _ (clean_shut h5 fun e he => by rw [← h1]; exact h4 e he) ?_
                refine ⟨⟨⟨fun a o l h1 h2 h3' => ?_, hw1.nx.rel.inj⟩, hw1.nx.le, ⟨hw1.nx.env.os, hw1.nx.env.tape, hw1.nx.env.output⟩, by simpa using hw1.nx.size, fun r hr hn => ?_, hw1.nx.back⟩, hw1.fresh, hw1.le, hw1.free⟩
                · obtain ⟨m1, m2⟩ := hw1.nx.rel.obj a o l h1 h2 h3'
                  exact ⟨by simpa using m1, OIn.congr (World.putObj_heap_other (hw1.nx.rel.not_def h3 a o l h1 h2 h3')) m2⟩
                · exact (World.putObj_heap_other (by omega)).trans (hw1.nx.frame r hr hn)
            exact go _ _ k1.defers k2
          · simp at he
        · simp at he
      cases ex with
      | exit id => simp at he
      | goto l => simp at he
      | normal => exact key he
      | ret => exact key he
    · simp at he
  · simp at he

/-- calls, one function of which is done in pieces -/
def withP (F : FuncId) (piece : List AV → H → Option (AV × H)) (call : CallE) : CallE := fun f args h => match Nat.beq f F with
  | true => piece args h
  | false => call f args h
theorem withP_ok {P : Program} {F : FuncId} {piece : List AV → H → Option (AV × H)} {call : CallE} (hcall : CallOK true P call) (hkey : Nat.ble ykey F = false) (hE : hasE P F = true)
    (hp : ∀ args h v h', piece args h = some (v, h') → ∀ (ρ : Rho) (w : World) (ARGS : List Value), VRs ρ args ARGS → HR ρ h.t.get w → Fresh ρ h.next → Calls P F ARGS.toArray w fun e w' => ∃ ρ' V, e = .returned V ∧ VR ρ' v V ∧ Way ρ h w ρ' h' w') : CallOK true P (withP F piece call) := by
  intro f args h v h' he ρ w ARGS ha hr hf
  unfold withP at he
  split at he
  · rename_i hb
    have := Nat.eq_of_beq_eq_true hb
    subst this
    obtain ⟨fn, c, h1, h2, h3⟩ := hasE_of hE
    exact .inl ⟨hkey, .inr ⟨f, ARGS.toArray, run_callFunc_enter h1 h2 h3 _ _, hp _ _ _ _ he ρ w ARGS ha hr hf⟩⟩
  · exact hcall f args h v h' he ρ w ARGS ha hr hf
end
end Go.Proofs.YtjkahbgkfenfcaaGreatDoor.Ev

namespace Go.Proofs.YtjkahbgkfenfcaaGreatDoor.Ev
noncomputable section

theorem seqF_all (P : Program) : seqF P = seqE P := by
  funext call ops N l
  exact seqF_eq P call ops N l
theorem callG_ok {P : Program} (hNG : noNG P = true) {draw : DrawE} (hdraw : DrawOK P draw) {X : FuncId → Option ATag} (hX : KnownX P X) {S : FuncId → H → Option Bool} (hS : KnownS P S) (fuel n : Nat) : CallOK true P (callG P (seqF P) draw X S fuel n) := by
  rw [seqF_all, callG_seqE hNG]
  exact callE_sound hdraw hX hS fuel n

/-- the bodies of all loops -/
def loopsL (c : Code) : List Code :=
  Code.rec (motive := fun _ => List Code) [] (fun _ _ _ => []) (fun _ _ iha ihb => iha ++ ihb) (fun _ _ _ ihx ihy => ihx ++ ihy) (fun _ _ ih => ih) (fun body ih => body :: ih)
    (fun _ _ _ _ _ _ => []) (fun _ => []) (fun _ _ => []) (fun _ => []) (fun _ => []) [] (fun _ => []) c
theorem loopsIn_of {Q : Code → Prop} : ∀ c : Code, (∀ b ∈ loopsL c, Q b) → LoopsIn Q c := by
  intro c
  induction c with
  | seq a b iha ihb => intro h; exact ⟨iha fun x hx => h x (List.mem_append_left _ hx), ihb fun x hx => h x (List.mem_append_right _ hx)⟩
  | cond _ a b iha ihb => intro h; exact ⟨iha fun x hx => h x (List.mem_append_left _ hx), ihb fun x hx => h x (List.mem_append_right _ hx)⟩
  | block _ a ih => intro h; exact ih h
  | loop a ih => intro h; exact ⟨h a (List.mem_cons_self ..), ih fun x hx => h x (List.mem_cons_of_mem _ hx)⟩
  | _ => intro _; trivial
/-- the code of a function -/
def codeOf (fn : Func) : Code := match fn.body with
  | some c => c
  | none => .skip
/-- the body of its first loop -/
def loop1 (c : Code) : Code := match loopsL c with
  | b :: _ => b
  | [] => .skip

/-- k rounds lead from one state that is written out to another -/
def roundsB (P : Program) (draw : DrawE) (call : CallE) (N fuel : Nat) (body : Code) (k : Nat) (s s' : LS) : Bool :=
  match iterE (codeG P (seqF P) draw call N fuel (fun _ _ _ => none) body) k s.tm s.h with
  | some (tm, q) => s'.fits tm q
  | none => false
theorem roundsB_sound {P : Program} {draw : DrawE} (hdraw : DrawOK P draw) {call : CallE} (hcall : CallOK true P call) {N fuel : Nat} {body : Code} {k : Nat} {s s' : LS} (h : roundsB P draw call N fuel body k s s' = true) : RoundsTo P body N s.tm s.h s'.tm s'.h := by
  unfold roundsB at h
  split at h
  · rename_i tm q he
    rw [seqF_all] at he
    obtain ⟨h1, h2⟩ := LS.fits_sound h
    exact (iterE_sound (fun tm h ex tm' h' hh => codeE_sound hdraw hcall N fuel (goE := fun _ _ _ => none) (by intros; contradiction) body tm h ex tm' h' hh) k _ _ _ _ he).wk h1 h2
  · simp at h
def jumpE (s s' : LS) : JumpE := fun tm h => match s.fits tm h with
  | true => some (s'.tm, s'.h)
  | false => none
theorem jumpE_sound {P : Program} {body : Code} {N : Nat} {s s' : LS} (r : RoundsTo P body N s.tm s.h s'.tm s'.h) : ∀ tm h tm' h', jumpE s s' tm h = some (tm', h') → RoundsTo P body N tm h tm' h' := by
  intro tm h tm' h' he
  unfold jumpE at he
  split at he
  · rename_i hfit
    simp only [Option.some.injEq, Prod.mk.injEq] at he
    obtain ⟨rfl, rfl⟩ := he
    obtain ⟨h1, h2⟩ := LS.fits_sound hfit
    exact r.start h1 h2
  · simp at he

/-- what the evaluator says of a closed function, with given calls -/
def saysP (P : Program) (draw : DrawE) (call : CallE) (fuel : Nat) (fn : Func) (h0 : H) : Option Bool :=
  match bodyG P (seqF P) draw call fuel fn (codeOf fn) [] h0 with
  | some (.bool x, _) => some x
  | _ => none
theorem saysP_closed {P : Program} {draw : DrawE} (hdraw : DrawOK P draw) {call : CallE} (hcall : CallOK true P call) {fuel : Nat} {f : FuncId} {fn : Func} (hf : P.funcs[f]? = some fn) (hb : fn.body = some (codeOf fn)) {b : Bool}
    {h0 : H} (hn : h0.next = glob) (hmut : ∀ a o, h0.t.get a = some o → o.mut = false) (he : saysP P draw call fuel fn h0 = some b) (w : World) (hr : HR rho0 h0.t.get w) :
    Calls P f #[] w fun e w' => e = .returned (.bool b) ∧ Env w w' ∧ w.heap.size ≤ w'.heap.size ∧ ∀ r, r < w.heap.size → w'.heap[r]? = w.heap[r]? := by
  unfold saysP at he
  split at he
  · rename_i x h' hc
    simp at he; subst he
    rw [seqF_all, bodyG_seqE] at hc
    refine Calls.mono (bodyE_sound hdraw hcall hf hb hc (ARGS := []) rfl hr (by rw [hn]; exact rho0_fresh)) fun e w' hh => ?_
    obtain ⟨ρ', V, rfl, k1, k2⟩ := hh
    simp only [VR] at k1; subst k1
    exact ⟨rfl, k2.nx.env, k2.nx.size, fun r hr => k2.nx.frame r hr fun a o l h1 h2 => by rw [hmut a o h1] at h2; simp at h2⟩
  · simp at he
/-- a call in pieces, for the kernel -/
def pieceF (P : Program) (draw : DrawE) (call : CallE) (fuel : Nat) (sA sB s0 : LS) (args0 : List AV) (fn : Func) : List AV → H → Option (AV × H) := pieceE P (seqF P) draw call fuel (jumpE sA sB) s0 args0 fn (codeOf fn)
theorem withP_okF {P : Program} {draw : DrawE} (hdraw : DrawOK P draw) {call : CallE} (hcall : CallOK true P call) {fuel : Nat} {sA sB s0 : LS} {args0 : List AV} {F : FuncId} {fn : Func} (hf : P.funcs[F]? = some fn) (hb : fn.body = some (codeOf fn)) (hE : hasE P F = true) (hkey : Nat.ble ykey F = false)
    (hl : loopsL (codeOf fn) = [loop1 (codeOf fn)]) (hr : RoundsTo P (loop1 (codeOf fn)) (Nat.add args0.length (Nat.sub fn.ntmps args0.length)) sA.tm sA.h sB.tm sB.h) : CallOK true P (withP F (pieceF P draw call fuel sA sB s0 args0 fn) call) := by
  refine withP_ok hcall hkey hE fun args h v h' he ρ w ARGS ha hrel hfr => ?_
  unfold pieceF at he
  rw [seqF_all] at he
  refine pieceE_sound hdraw hcall hf hb (loopsIn_of _ fun b hbm => ?_) he ha hrel hfr
  rw [hl] at hbm
  simp at hbm; subst hbm
  exact jumpE_sound hr
end
end Go.Proofs.YtjkahbgkfenfcaaGreatDoor.Ev
