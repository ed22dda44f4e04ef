/-
  An evaluator of Go code over relative heaps, part S: code, and calls.
-/
import Derived.Test.YtgolcgnnomgapaaGreatDoorEvQ
import Derived.LoopN
import Derived.ScopeJumps
set_option linter.unusedVariables false
set_option linter.unusedSimpArgs false
namespace Go.Proofs.YtgolcgnnomgapaaGreatDoor.Ev
noncomputable section

inductive Ex where
  | normal
  | exit (id : Nat)
  | goto (l : Nat)
  | ret
def Ex.out : Ex → Exit
  | .normal => .normal
  | .exit id => .exit id
  | .goto l => .goto l
  | .ret => .ret

abbrev DrawE := CallE → List Oper → Nat → T AV → H → Option (T AV × H)
/-- what code does -/
def Does (P : Program) (c : Code) (N : Nat) (tm : T AV) (h : H) (ex : Ex) (tm' : T AV) (h' : H) : Prop :=
  ∀ B ρ a w, St B N ρ tm h a w → c.wp P (fun e a' w' => e = ex.out ∧ ∃ ρ', St B N ρ' tm' h' a' w' ∧ Way ρ h w ρ' h' w') a w
/-- what code does, in any machine (within a round, or in none) -/
def DoesR (P : Program) (c : Code) (N : Nat) (tm : T AV) (h : H) (ex : Ex) (tm' : T AV) (h' : H) : Prop :=
  ∀ r B ρ a w, St B N ρ tm h a w → c.wpIn (Fnc r) 0 P (fun e a' w' => e = ex.out ∧ ∃ ρ', St B N ρ' tm' h' a' w' ∧ Way ρ h w ρ' h' w') a w
theorem DoesR.does {P : Program} {c : Code} {N : Nat} {tm tm' : T AV} {h h' : H} {ex : Ex} (hd : DoesR P c N tm h ex tm' h') : Does P c N tm h ex tm' h' :=
  fun B ρ a w hs => (wpIn_wide (n := 0)).1 (hd none B ρ a w hs)
def DrawOK (P : Program) (draw : DrawE) : Prop :=
  ∀ call, CallOK true P call → ∀ (id : Nat) (ops : Array Oper) N tm h tm' h', draw call ops.toList N tm h = some (tm', h') → DoesR P (.region id ops true) N tm h .normal tm' h'

abbrev CodeE := T AV → H → Option (Ex × T AV × H)
/-- the function is there and has a body -/
def hasE (P : Program) (f : FuncId) : Bool := match P.funcs[f]? with
  | some fn => (fn.name == "runtime.NumGoroutine") == false && fn.body.isSome
  | none => false
theorem hasE_of {P : Program} {f : FuncId} (h : hasE P f = true) : ∃ fn c, P.funcs[f]? = some fn ∧ (fn.name == "runtime.NumGoroutine") = false ∧ fn.body = some c := by
  unfold hasE at h
  split at h
  · rename_i fn hf
    rw [Bool.and_eq_true] at h
    obtain ⟨c, hc⟩ := Option.isSome_iff_exists.1 h.2
    exact ⟨fn, c, hf, by simpa using h.1, hc⟩
  · simp at h
theorem run_callFunc_enter {P : Program} {f : FuncId} {fn : Func} {c : Code} (hf : P.funcs[f]? = some fn) (hname : (fn.name == "runtime.NumGoroutine") = false) (hb : fn.body = some c) (args : Array Value) (w : World) :
    (callFunc f args).run P w = .ok (.enter f args) w := by
  have h1 : fn.name ≠ "runtime.NumGoroutine" := by simpa using hname
  simp [callFunc, hf, h1, hb]

/-! ### Rounds of a loop over a function -/
/-- the code of a round -/
def codeR (P : Program) (draw : DrawE) (call : CallE) (N : Nat) (c : Code) : CodeE :=
  Code.rec (motive := fun _ => CodeE)
    (fun tm h => some (.normal, tm, h))
    (fun id ops d tm h => match d with
      | false => match seqE P call ops.toList N ops.toList tm h with
        | some (tm', h') => some (.normal, tm', h')
        | none => none
      | true => match draw call ops.toList N tm h with
        | some (tm', h') => some (.normal, tm', h')
        | none => none)
    (fun a b iha ihb tm h => match iha tm h with
      | some (.normal, tm', h') => ihb tm' h'
      | r => r)
    (fun c x y ihx ihy tm h => match cOpd c with
      | some c => match evo tm c with
        | some (.bool true) => ihx tm h
        | some (.bool false) => ihy tm h
        | _ => none
      | none => none)
    (fun id body ih tm h => match ih tm h with
      | some (.exit j, tm', h') => cond (Nat.beq j id) (some (.normal, tm', h')) (some (.exit j, tm', h'))
      | r => r)
    (fun body ih tm h => none)
    (fun f ps x y ihx ihy tm h => none)
    (fun id tm h => some (.exit id, tm, h))
    (fun body ih tm h => none)
    (fun l tm h => some (.normal, tm, h))
    (fun l tm h => none)
    (fun tm h => some (.ret, tm, h))
    (fun why tm h => none)
    c
theorem wpIn_post {P : Program} {c : Code} {N : Nat} {tm tm' : T AV} {h h' : H} {ex : Ex} (hd : DoesR P c N tm h ex tm' h') {r : Option Nat} {B : Nat} {ρ : Rho} {a : Act} {w : World} (hs : St B N ρ tm h a w) {Q : Exit → Act → World → Prop}
    (hQ : ∀ ρ' a' w', St B N ρ' tm' h' a' w' → Way ρ h w ρ' h' w' → Q ex.out a' w') : c.wpIn (Fnc r) 0 P Q a w :=
  wpIn_mono (hd r B ρ a w hs) fun e a' w' hh => by
    obtain ⟨rfl, ρ', k1, k2⟩ := hh
    exact hQ _ _ _ k1 k2
theorem codeR_sound {P : Program} {draw : DrawE} (hdraw : DrawOK P draw) {call : CallE} (hcall : CallOK true P call) (N : Nat) : ∀ (c : Code) tm h ex tm' h', codeR P draw call N c tm h = some (ex, tm', h') → DoesR P c N tm h ex tm' h' := by
  intro c
  induction c with
  | skip =>
    intro tm h ex tm' h' he r B ρ a w hs
    simp only [codeR, Option.some.injEq, Prod.mk.injEq] at he
    obtain ⟨rfl, rfl, rfl⟩ := he
    exact wpIn_skip ⟨rfl, ρ, hs, Way.refl hs.hr hs.fresh⟩
  | region id ops d =>
    intro tm h ex tm' h' he
    simp only [codeR] at he
    split at he
    · split at he
      · rename_i tm2 h2 h1
        simp only [Option.some.injEq, Prod.mk.injEq] at he
        obtain ⟨rfl, rfl, rfl⟩ := he
        intro r B ρ a w hs
        refine wpIn_region ?_
        rw [List.range_eq_range']
        have := seqE_sound (r := r) (Q := fun e a' w' => e = Ex.normal.out ∧ ∃ ρ', St B N ρ' tm2 h2 a' w' ∧ Way ρ h w ρ' h2 w') hcall (i := 0) (by simp) h1 hs (fun ρ' a' w' k1 k2 => ⟨rfl, ρ', k1, k2⟩)
        simpa using this
      · simp at he
    · split at he
      · rename_i tm2 h2 h1
        simp only [Option.some.injEq, Prod.mk.injEq] at he
        obtain ⟨rfl, rfl, rfl⟩ := he
        exact hdraw call hcall id ops N tm h tm2 h2 h1
      · simp at he
  | seq x y ihx ihy =>
    intro tm h ex tm' h' he r B ρ a w hs
    change (match codeR P draw call N x tm h with
      | some (.normal, tm', h') => codeR P draw call N y tm' h'
      | r => r) = _ at he
    split at he
    · rename_i tm2 h2 h1
      refine wpIn_seq (wpIn_post (ihx _ _ _ _ _ h1) hs fun ρ' a' w' k1 k2 => ?_)
      refine wpIn_post (ihy _ _ _ _ _ he) k1 fun ρ'' a'' w'' j1 j2 => ⟨rfl, ρ'', j1, k2.trans j2⟩
    · rename_i r' hr
      have hex : ex ≠ .normal := by
        rintro rfl
        exact hr _ _ (by rw [he])
      refine wpIn_seq (wpIn_post (ihx _ _ _ _ _ he) hs fun ρ' a' w' k1 k2 => ?_)
      cases ex with
      | normal => exact absurd rfl hex
      | exit id => exact ⟨rfl, ρ', k1, k2⟩
      | goto l => exact ⟨rfl, ρ', k1, k2⟩
      | ret => exact ⟨rfl, ρ', k1, k2⟩
  | cond c x y ihx ihy =>
    intro tm h ex tm' h' he r B ρ a w hs
    change (match cOpd c with
      | some c => match evo tm c with
        | some (.bool true) => codeR P draw call N x tm h
        | some (.bool false) => codeR P draw call N y tm h
        | _ => none
      | none => none) = _ at he
    split at he
    · rename_i c' hc
      split at he
      · rename_i hv
        have := evo_sound hs.tr hc hv
        simp only [VR] at this
        exact wpIn_cond_true this (ihx _ _ _ _ _ he r B ρ a w hs)
      · rename_i hv
        have := evo_sound hs.tr hc hv
        simp only [VR] at this
        exact wpIn_cond_false this (ihy _ _ _ _ _ he r B ρ a w hs)
      · simp at he
    · simp at he
  | block id body ih =>
    intro tm h ex tm' h' he r B ρ a w hs
    change (match codeR P draw call N body tm h with
      | some (Ex.exit j, tm', h') => cond (Nat.beq j id) (some (Ex.normal, tm', h')) (some (Ex.exit j, tm', h'))
      | r => r) = (_ : Option (Ex × T AV × H)) at he
    split at he
    · rename_i j tm2 h2 h1
      refine wpIn_block (wpIn_post (ih _ _ _ _ _ h1) hs fun ρ' a' w' k1 k2 => ?_)
      cases hb : Nat.beq j id
      · rw [hb] at he
        simp only [cond_false, Option.some.injEq, Prod.mk.injEq] at he
        obtain ⟨rfl, rfl, rfl⟩ := he
        have hne : j ≠ id := fun e => by subst e; simp at hb
        simp only [Ex.out, Exit.inBlock, hne, if_false]
        exact ⟨trivial, ρ', k1, k2⟩
      · rw [hb] at he
        simp only [cond_true, Option.some.injEq, Prod.mk.injEq] at he
        obtain ⟨rfl, rfl, rfl⟩ := he
        have := Nat.eq_of_beq_eq_true hb
        subst this
        simp only [Ex.out, Exit.inBlock, if_true]
        exact ⟨trivial, ρ', k1, k2⟩
    · rename_i r' hr
      refine wpIn_block (wpIn_post (ih _ _ _ _ _ he) hs fun ρ' a' w' k1 k2 => ?_)
      cases ex with
      | normal => exact ⟨rfl, ρ', k1, k2⟩
      | exit j => exact absurd (by rw [he]) (hr j _ _)
      | goto l => exact ⟨rfl, ρ', k1, k2⟩
      | ret => exact ⟨rfl, ρ', k1, k2⟩
  | exit id =>
    intro tm h ex tm' h' he r B ρ a w hs
    simp only [codeR, Option.some.injEq, Prod.mk.injEq] at he
    obtain ⟨rfl, rfl, rfl⟩ := he
    exact wpIn_exit ⟨rfl, ρ, hs, Way.refl hs.hr hs.fresh⟩
  | label l =>
    intro tm h ex tm' h' he r B ρ a w hs
    simp only [codeR, Option.some.injEq, Prod.mk.injEq] at he
    obtain ⟨rfl, rfl, rfl⟩ := he
    exact wpIn_label ⟨rfl, ρ, hs, Way.refl hs.hr hs.fresh⟩
  | ret =>
    intro tm h ex tm' h' he r B ρ a w hs
    simp only [codeR, Option.some.injEq, Prod.mk.injEq] at he
    obtain ⟨rfl, rfl, rfl⟩ := he
    exact wpIn_ret ⟨rfl, ρ, hs, Way.refl hs.hr hs.fresh⟩
  | loop body ih => intro tm h ex tm' h' he; simp [codeR] at he
  | rangeFunc f ps x y ihx ihy => intro tm h ex tm' h' he; simp [codeR] at he
  | scope body ih => intro tm h ex tm' h' he; simp [codeR] at he
  | goto l => intro tm h ex tm' h' he; simp [codeR] at he
  | refuse why => intro tm h ex tm' h' he; simp [codeR] at he

/-! ### Loops over functions -/
/-- how such a loop ends -/
def rangeEnd (pend : Option Code) (tm : T AV) (h : H) : Option (Ex × T AV × H) := match pend with
  | none => some (.normal, tm, h)
  | some .ret => some (.ret, tm, h)
  | some (.exit id) => some (.exit id, tm, h)
  | some _ => none
def rangeE (P : Program) (call : CallE) (N : Nat) (ps : List Nat) (x y : Code) (fv : AV) (tm : T AV) (h : H) : Option (Ex × T AV × H) := match fv with
  | .fn fn first captured => match tgtA P (h.t.set h.next (.loop .ready none tm N ps x y)).get fn (first ++ [.yld h.next]) captured with
    | some (g, as) => match Nat.ble ykey g with
      | true => none
      | false => match hasE P g with
        | false => none
        | true => match call g as ⟨h.next + 1, h.t.set h.next (.loop .ready none tm N ps x y)⟩ with
          | some (_, h2) => match h2.t.get h.next with
            | some (.loop .ready pend _ _ _ _ _) => rangeEnd pend tm ⟨h2.next, h2.t.set h.next .dead⟩
            | some (.loop .done pend _ _ _ _ _) => rangeEnd pend tm ⟨h2.next, h2.t.set h.next .dead⟩
            | _ => none
          | none => none
    | none => none
  | _ => none
def loopE (body : CodeE) (n : Nat) : CodeE :=
  Nat.rec (motive := fun _ => CodeE) (fun _ _ => none) (fun _ ih tm h => match body tm h with
    | some (.normal, tm', h') => ih tm' h'
    | r => r) n
def codeE (P : Program) (draw : DrawE) (call : CallE) (N fuel : Nat) (goE : Code → CodeE) (c : Code) : CodeE :=
  Code.rec (motive := fun _ => CodeE)
    (fun tm h => some (.normal, tm, h))
    (fun id ops d tm h => match d with
      | false => match seqE P call ops.toList N ops.toList tm h with
        | some (tm', h') => some (.normal, tm', h')
        | none => none
      | true => match draw call ops.toList N tm h with
        | some (tm', h') => some (.normal, tm', h')
        | none => none)
    (fun a b iha ihb tm h => match iha tm h with
      | some (.normal, tm', h') => ihb tm' h'
      | r => r)
    (fun c x y ihx ihy tm h => match cOpd c with
      | some c => match evo tm c with
        | some (.bool true) => ihx tm h
        | some (.bool false) => ihy tm h
        | _ => none
      | none => none)
    (fun id body ih tm h => match ih tm h with
      | some (.exit j, tm', h') => cond (Nat.beq j id) (some (.normal, tm', h')) (some (.exit j, tm', h'))
      | r => r)
    (fun body ih tm h => loopE ih fuel tm h)
    (fun f ps x y ihx ihy tm h => match cOpd f with
      | some f => match evo tm f with
        | some fv => rangeE P call N ps.toList x y fv tm h
        | none => none
      | none => none)
    (fun id tm h => some (.exit id, tm, h))
    (fun body ih tm h => match ih tm h with
      | some (.goto l, tm', h') => match findLabel body l with
        | some rest => match goE rest tm' h' with
          | some (.goto _, _, _) => none
          | r => r
        | none => none
      | r => r)
    (fun l tm h => some (.normal, tm, h))
    (fun l tm h => some (.goto l, tm, h))
    (fun tm h => some (.ret, tm, h))
    (fun why tm h => none)
    c
def resA (P : Program) (tm : T AV) (g : Nat → Option AO) : List ResultVar → Option (List AV)
  | [] => some []
  | r :: l => match (match r with
      | .tmp t => tm.get t
      | .cell a t => match tm.get a, aggOf P t with
        | some (.ptr p o), some agg => ldA g agg p o
        | _, _ => none) with
    | some v => match resA P tm g l with
      | some vs => some (v :: vs)
      | none => none
    | none => none
def packA : List AV → AV
  | [v] => v
  | l => .tup l

theorem wp_post {P : Program} {c : Code} {N : Nat} {tm tm' : T AV} {h h' : H} {ex : Ex} (hd : Does P c N tm h ex tm' h') {B : Nat} {ρ : Rho} {a : Act} {w : World} (hs : St B N ρ tm h a w) {Q : Exit → Act → World → Prop}
    (hQ : ∀ ρ' a' w', St B N ρ' tm' h' a' w' → Way ρ h w ρ' h' w' → Q ex.out a' w') : c.wp P Q a w :=
  wp_mono (hd B ρ a w hs) fun e a' w' hh => by
    obtain ⟨rfl, ρ', k1, k2⟩ := hh
    exact hQ _ _ _ k1 k2

theorem Clean.lt {B : Nat} {w : World} : ∀ {ds : List Deferred}, Clean B w ds → ∀ e ∈ ds, ∃ D, e = { target := .collected D, args := #[] } ∧ B ≤ D ∧ D < w.heap.size
  | [], _, e, he => by simp at he
  | d :: ds, h, e, he => by
    obtain ⟨⟨D, h1, h2, h3, _⟩, h5⟩ := h
    rcases List.mem_cons.1 he with rfl | he
    · exact ⟨D, h1, h2, (Array.getElem?_eq_some_iff.1 h3).1⟩
    · exact Clean.lt h5 e he
/-- A new block that is no object. -/
theorem nx_more {ρ : Rho} {g : Nat → Option AO} {w : World} (h : HR ρ g w) (obj : Obj) : Nx ρ g w ρ g (w.alloc obj) := by
  have hold : ∀ r, r < w.heap.size → (w.alloc obj).heap[r]? = w.heap[r]? := fun r hr => by
    simp only [World.alloc, Array.getElem?_push]
    rw [if_neg (by omega)]
  exact ⟨⟨fun a o l h1 h2 h3 => by
    obtain ⟨k1, k2⟩ := h.obj a o l h1 h2 h3
    exact ⟨by simp; omega, OIn.congr (hold _ k1) k2⟩, h.inj⟩, Le.refl _, ⟨rfl, rfl, rfl⟩, by simp, fun r hr _ => hold r hr, fun a o l h1 h2 h3 _ => ⟨a, o, l, h1, h2, h3, rfl⟩⟩

theorem rangeE_sound {P : Program} {call : CallE} (hcall : CallOK true P call) {N : Nat} {f : Operand} {ps : Array Tmp} {x y : Code} {f' : Opd} (hf : cOpd f = some f') {tm tm' : T AV} {h h' : H} {fv : AV} (hv : evo tm f' = some fv) {ex : Ex} (he : rangeE P call N ps.toList x y fv tm h = some (ex, tm', h'))
    {B : Nat} {ρ : Rho} {a : Act} {w : World} (hs : St B N ρ tm h a w) : (Code.rangeFunc f ps x y).wp P (fun e a' w' => e = ex.out ∧ ∃ ρ', St B N ρ' tm' h' a' w' ∧ Way ρ h w ρ' h' w') a w := by
  have hfv := evo_sound hs.tr hf hv
  unfold rangeE at he
  split at he
  · rename_i fn first captured
    split at he
    · rename_i g as htgt
      split at he
      · simp at he
      · rename_i hkey
        split at he
        · simp at he
        · rename_i hhas
          split at he
          · rename_i vres h2 hc
            obtain ⟨fnd, cbody, hg1, hg2, hg3⟩ := hasE_of hhas
            simp only [VR] at hfv
            obtain ⟨FI, CA, hFI, hCA, hfeq⟩ := hfv
            refine (wpIn_wide (n := 0)).1 (wpIn_rangeFunc fun fnid _ => ?_)
            obtain ⟨rec, hrec⟩ : ∃ rec : Loop, rec = { state := .ready, pending := none, fn := fnid, tmps := a.tmps, params := ps, assign := x, body := y, defers := w.heap.size } := ⟨_, rfl⟩
            obtain ⟨w0, hw0⟩ : ∃ w0, w0 = w.alloc (.deferred (some [])) := ⟨_, rfl⟩
            obtain ⟨w1, hw1⟩ : ∃ w1, w1 = w0.alloc (.loop rec) := ⟨_, rfl⟩
            have hsz0 : w0.heap.size = w.heap.size + 1 := by rw [hw0]; simp
            have hρ : ρ h.next = none := hs.fresh _ (Nat.le_refl _)
            have nx0 : Nx ρ h.t.get w ρ h.t.get w0 := by rw [hw0]; exact nx_more hs.hr _
            have nx1 : Nx ρ h.t.get w0 (upd ρ h.next ⟨w0.heap.size, 0, 0⟩) (h.t.set h.next (.loop .ready none tm N ps.toList x y)).get w1 := by
              rw [hw1]
              refine nx_new nx0.rel hρ rfl (fun b => T.get_set _ _ _ _) ⟨a.tmps, fnid, w.heap.size, fun i v hi => ?_, hs.size, ?_⟩
              · obtain ⟨k1, k2⟩ := hs.tr i v hi
                exact ⟨k1, VR.mono (upd_le' hρ) _ _ k2⟩
              · show (w0.heap.push _)[w0.heap.size]? = _
                rw [hrec]; simp
            have way1 : Way ρ h w (upd ρ h.next ⟨w0.heap.size, 0, 0⟩) ⟨h.next + 1, h.t.set h.next (.loop .ready none tm N ps.toList x y)⟩ w1 :=
              Way.trans (h' := h) ⟨nx0, hs.fresh, Kp.refl _ _⟩ (way_new hs.fresh nx1)
            obtain ⟨ρ1, hρ1⟩ : ∃ ρ1, ρ1 = upd ρ h.next ⟨w0.heap.size, 0, 0⟩ := ⟨_, rfl⟩
            have hl1 : ρ1 h.next = some ⟨w0.heap.size, 0, 0⟩ := by rw [hρ1]; exact upd_same hρ
            rw [← hρ1] at way1
            have hle1 : Le ρ ρ1 := way1.nx.le
            obtain ⟨AS, hAS, hinv⟩ := tgtA_sound (P := P) way1.nx.rel htgt (VRs.append (VRs.mono hle1 _ _ hFI) (show VRs ρ1 [.yld h.next] [.func (.yield w0.heap.size) #[] #[]] from ⟨_, [], ⟨_, hl1, rfl⟩, rfl, rfl⟩)) (VRs.mono hle1 _ _ hCA)
            have hpout := hcall g as _ _ _ hc ρ1 w1 AS hAS way1.nx.rel way1.fresh
            have henter := run_callFunc_enter hg1 hg2 hg3 AS.toArray w1
            have hcalls : Calls P g AS.toArray w1 fun e w' => ∃ ρ' V, e = .returned V ∧ VR ρ' vres V ∧ Way ρ1 ⟨h.next + 1, h.t.set h.next (.loop .ready none tm N ps.toList x y)⟩ w1 ρ' h2 w' := by
              rcases hpout with ⟨_, (⟨ρ', w', V, hh | ⟨hh, _⟩, _⟩ | ⟨g', as', hh, hcc⟩)⟩ | ⟨_, hk, _⟩
              · rw [henter] at hh; simp at hh
              · rw [henter] at hh; simp at hh
              · rw [henter] at hh; simp at hh
                obtain ⟨rfl, rfl⟩ := hh
                exact hcc
              · rw [hkey] at hk; simp at hk
            refine ⟨w0.heap.size, [{ target := .collected w.heap.size, args := #[] }], w1, { target := .fn fn CA.toArray, args := (FI ++ [Value.func (Fn.yield w0.heap.size) #[] #[]]).toArray }, w1, g, AS.toArray, w1, ?_, ?_, fun _ _ => trivial, ?_, fun hh => by simp [Fence.wide] at hh, ?_⟩
            · rw [hw1, hrec, hsz0, hw0]; exact run_enterLoop_outer _ _ _ _ _
            · simp only [resolve, rangeCall, hfeq, Deferred.ofValue]
              simp [Act.eval]
            · rw [hinv, henter]
            · refine callsIn_wide.2 (Calls.mono hcalls fun e w3 hh => ?_)
              obtain ⟨ρ2, V, rfl, _, way2⟩ := hh
              have hl2 : ρ2 h.next = some ⟨w0.heap.size, 0, 0⟩ := way2.nx.le _ _ hl1
              have key : ∀ st pend tmL NL psL xL yL, h2.t.get h.next = some (.loop st pend tmL NL psL xL yL) → st ≠ .busy → rangeEnd pend tm ⟨h2.next, h2.t.set h.next .dead⟩ = some (ex, tm', h') →
                  rangePost Fence.wide 0 P w0.heap.size (fun e a' w' => e = ex.out ∧ ∃ ρ', St B N ρ' tm' h' a' w' ∧ Way ρ h w ρ' h' w') { a with defers := [{ target := .collected w.heap.size, args := #[] }] ++ a.defers } (.returned V) w3 := by
                intro st pend tmL NL psL xL yL hget hst hend
                obtain ⟨hb, tmps3, fn3, D3, htm3, hN3, hheap3⟩ := way2.nx.rel.obj _ _ _ hget rfl hl2
                obtain ⟨w4, hw4⟩ : ∃ w4, w4 = w3.putObj w0.heap.size (.loop { state := .exhausted, pending := pend, fn := fn3, tmps := tmps3, params := psL.toArray, assign := xL, body := yL, defers := D3 }) := ⟨_, rfl⟩
                have hrun : (Instr.endLoop w0.heap.size).run P w3 = .ok pend w4 := by
                  rw [hw4]; exact run_endLoop (r := { state := st, pending := pend, fn := fn3, tmps := tmps3, params := psL.toArray, assign := xL, body := yL, defers := D3 }) hheap3 hst
                have nxa : Nx ρ2 h2.t.get w3 ρ2 (h2.t.set h.next (.loop .exhausted pend tmL NL psL xL yL)).get w4 := by
                  rw [hw4]
                  refine nx_set way2.nx.rel hget rfl hl2 (fun b => T.get_set _ _ _ _) ⟨rfl, rfl, rfl⟩ (by simp) (fun r hr => World.putObj_heap_other hr) rfl ⟨tmps3, fn3, D3, htm3, hN3, ?_⟩
                  exact World.putObj_heap_same hb
                have nxb : Nx ρ2 (h2.t.set h.next (.loop .exhausted pend tmL NL psL xL yL)).get w4 ρ2 (h2.t.set h.next .dead).get w4 :=
                  Nx.kill nxa.rel (a := h.next) fun b => by
                    rw [T.get_set, T.get_set]
                    by_cases e : b = h.next <;> simp [e]
                have way3 : Way ρ2 h2 w3 ρ2 ⟨h2.next, h2.t.set h.next .dead⟩ w4 := way_set way2.fresh hl2 (nxa.trans nxb)
                have wayAll := way1.trans (way2.trans way3)
                have hD1 : w1.heap[w.heap.size]? = some (.deferred (some [])) := by
                  rw [hw1]
                  have e0 : (w0.alloc (.loop rec)).heap[w.heap.size]? = w0.heap[w.heap.size]? := by
                    simp only [World.alloc, Array.getElem?_push]
                    rw [if_neg (by rw [hsz0]; omega)]
                  rw [e0]
                  rw [hw0]
                  exact World.alloc_heap_new w _
                have hclean1 : Clean B w1 ({ target := .collected w.heap.size, args := #[] } :: a.defers) := by
                  refine ⟨⟨w.heap.size, rfl, hs.base, hD1, fun e he' ee => ?_⟩, hs.defers.nx hs.hr way1.nx⟩
                  obtain ⟨D, hD, _, hlt⟩ := hs.defers.lt e he'
                  rw [ee] at hD
                  simp at hD
                  omega
                have hst : St B N ρ2 tm ⟨h2.next, h2.t.set h.next .dead⟩ { a with defers := [{ target := .collected w.heap.size, args := #[] }] ++ a.defers } w4 :=
                  ⟨hs.tr.mono wayAll.nx.le, way3.nx.rel, way3.fresh, hs.size, hclean1.nx way1.nx.rel (way2.nx.trans way3.nx), Nat.le_trans hs.base wayAll.nx.size⟩
                refine ⟨pend, w4, hrun, ?_⟩
                cases pend with
                | none =>
                  simp [rangeEnd] at hend
                  obtain ⟨rfl, rfl, rfl⟩ := hend
                  exact ⟨rfl, ρ2, hst, wayAll⟩
                | some c =>
                  cases c with
                  | ret =>
                    simp [rangeEnd] at hend
                    obtain ⟨rfl, rfl, rfl⟩ := hend
                    exact wpIn_ret ⟨rfl, ρ2, hst, wayAll⟩
                  | exit id =>
                    simp [rangeEnd] at hend
                    obtain ⟨rfl, rfl, rfl⟩ := hend
                    exact wpIn_exit ⟨rfl, ρ2, hst, wayAll⟩
                  | _ => simp [rangeEnd] at hend
              split at he
              · rename_i hget
                exact key _ _ _ _ _ _ _ hget (by simp) he
              · rename_i hget
                exact key _ _ _ _ _ _ _ hget (by simp) he
              · simp at he
          · simp at he
    · simp at he
  · simp at he

theorem loopE_sound {P : Program} {c : Code} {N : Nat} {body : CodeE} (hb : ∀ tm h ex tm' h', body tm h = some (ex, tm', h') → Does P c N tm h ex tm' h') :
    ∀ n tm h ex tm' h', loopE body n tm h = some (ex, tm', h') → ex ≠ .normal ∧ ∀ B ρ a w, St B N ρ tm h a w → Code.rounds P c (fun e a' w' => e = ex.out ∧ ∃ ρ', St B N ρ' tm' h' a' w' ∧ Way ρ h w ρ' h' w') n a w
  | 0, tm, h, ex, tm', h', he => by simp [loopE] at he
  | n + 1, tm, h, ex, tm', h', he => by
    change (match body tm h with
      | some (.normal, tm', h') => loopE body n tm' h'
      | r => r) = _ at he
    split at he
    · rename_i tm2 h2 h1
      obtain ⟨k1, k2⟩ := loopE_sound hb n tm2 h2 ex tm' h' he
      refine ⟨k1, fun B ρ a w hs => ?_⟩
      rw [Code.rounds]
      refine wp_post (hb _ _ _ _ _ h1) hs fun ρ' a' w' j1 j2 => ?_
      have key : ∀ m a w Q Q', (∀ e a w, Q e a w → Q' e a w) → Code.rounds P c Q m a w → Code.rounds P c Q' m a w := by
        intro m
        induction m with
        | zero => intro a w Q Q' hq hh; exact hh
        | succ m ih =>
          intro a w Q Q' hq hh
          refine wp_mono hh fun e a w he => ?_
          cases e <;> first
            | exact ih _ _ _ _ hq he
            | exact hq _ _ _ he
      exact key n a' w' _ _ (fun e a w hh => by
        obtain ⟨e1, ρ'', m1, m2⟩ := hh
        exact ⟨e1, ρ'', m1, j2.trans m2⟩) (k2 B ρ' a' w' j1)
    · rename_i r hr
      have hex : ex ≠ .normal := by
        rintro rfl
        exact hr _ _ (by rw [he])
      refine ⟨hex, fun B ρ a w hs => ?_⟩
      rw [Code.rounds]
      refine wp_post (hb _ _ _ _ _ he) hs fun ρ' a' w' j1 j2 => ?_
      cases ex with
      | normal => exact absurd rfl hex
      | exit id => exact ⟨rfl, ρ', j1, j2⟩
      | goto l => exact ⟨rfl, ρ', j1, j2⟩
      | ret => exact ⟨rfl, ρ', j1, j2⟩

theorem codeE_sound {P : Program} {draw : DrawE} (hdraw : DrawOK P draw) {call : CallE} (hcall : CallOK true P call) (N fuel : Nat) {goE : Code → CodeE} (hgo : ∀ (c : Code) tm h ex tm' h', goE c tm h = some (ex, tm', h') → Does P c N tm h ex tm' h') : ∀ (c : Code) tm h ex tm' h', codeE P draw call N fuel goE c tm h = some (ex, tm', h') → Does P c N tm h ex tm' h' := by
  intro c
  induction c with
  | skip =>
    intro tm h ex tm' h' he B ρ a w hs
    simp only [codeE, Option.some.injEq, Prod.mk.injEq] at he
    obtain ⟨rfl, rfl, rfl⟩ := he
    exact wp_skip ⟨rfl, ρ, hs, Way.refl hs.hr hs.fresh⟩
  | region id ops d =>
    intro tm h ex tm' h' he
    simp only [codeE] at he
    split at he
    · split at he
      · rename_i tm2 h2 h1
        simp only [Option.some.injEq, Prod.mk.injEq] at he
        obtain ⟨rfl, rfl, rfl⟩ := he
        intro B ρ a w hs
        refine (wpIn_wide (n := 0)).1 (wpIn_region (F := Fnc none) ?_)
        rw [List.range_eq_range']
        have := seqE_sound (r := none) (Q := fun e a' w' => e = Ex.normal.out ∧ ∃ ρ', St B N ρ' tm2 h2 a' w' ∧ Way ρ h w ρ' h2 w') hcall (i := 0) (by simp) h1 hs (fun ρ' a' w' k1 k2 => ⟨rfl, ρ', k1, k2⟩)
        simpa using this
      · simp at he
    · split at he
      · rename_i tm2 h2 h1
        simp only [Option.some.injEq, Prod.mk.injEq] at he
        obtain ⟨rfl, rfl, rfl⟩ := he
        exact (hdraw call hcall id ops N tm h tm2 h2 h1).does
      · simp at he
  | seq x y ihx ihy =>
    intro tm h ex tm' h' he B ρ a w hs
    change (match codeE P draw call N fuel goE x tm h with
      | some (.normal, tm', h') => codeE P draw call N fuel goE y tm' h'
      | r => r) = _ at he
    split at he
    · rename_i tm2 h2 h1
      refine wp_seq (wp_post (ihx _ _ _ _ _ h1) hs fun ρ' a' w' k1 k2 => ?_)
      refine wp_post (ihy _ _ _ _ _ he) k1 fun ρ'' a'' w'' j1 j2 => ⟨rfl, ρ'', j1, k2.trans j2⟩
    · rename_i r hr
      have hex : ex ≠ .normal := by
        rintro rfl
        exact hr _ _ (by rw [he])
      refine wp_seq (wp_post (ihx _ _ _ _ _ he) hs fun ρ' a' w' k1 k2 => ?_)
      cases ex with
      | normal => exact absurd rfl hex
      | exit id => exact ⟨rfl, ρ', k1, k2⟩
      | goto l => exact ⟨rfl, ρ', k1, k2⟩
      | ret => exact ⟨rfl, ρ', k1, k2⟩
  | cond c x y ihx ihy =>
    intro tm h ex tm' h' he B ρ a w hs
    change (match cOpd c with
      | some c => match evo tm c with
        | some (.bool true) => codeE P draw call N fuel goE x tm h
        | some (.bool false) => codeE P draw call N fuel goE y tm h
        | _ => none
      | none => none) = _ at he
    split at he
    · rename_i c' hc
      split at he
      · rename_i hv
        have := evo_sound hs.tr hc hv
        simp only [VR] at this
        exact wp_cond_true this (ihx _ _ _ _ _ he B ρ a w hs)
      · rename_i hv
        have := evo_sound hs.tr hc hv
        simp only [VR] at this
        exact wp_cond_false this (ihy _ _ _ _ _ he B ρ a w hs)
      · simp at he
    · simp at he
  | block id body ih =>
    intro tm h ex tm' h' he B ρ a w hs
    change (match codeE P draw call N fuel goE body tm h with
      | some (Ex.exit j, tm', h') => cond (Nat.beq j id) (some (Ex.normal, tm', h')) (some (Ex.exit j, tm', h'))
      | r => r) = (_ : Option (Ex × T AV × H)) at he
    split at he
    · rename_i j tm2 h2 h1
      refine wp_block (wp_post (ih _ _ _ _ _ h1) hs fun ρ' a' w' k1 k2 => ?_)
      cases hb : Nat.beq j id
      · rw [hb] at he
        simp only [cond_false, Option.some.injEq, Prod.mk.injEq] at he
        obtain ⟨rfl, rfl, rfl⟩ := he
        have hne : j ≠ id := fun e => by subst e; simp at hb
        simp only [Ex.out, Exit.inBlock, hne, if_false]
        exact ⟨trivial, ρ', k1, k2⟩
      · rw [hb] at he
        simp only [cond_true, Option.some.injEq, Prod.mk.injEq] at he
        obtain ⟨rfl, rfl, rfl⟩ := he
        have := Nat.eq_of_beq_eq_true hb
        subst this
        simp only [Ex.out, Exit.inBlock, if_true]
        exact ⟨trivial, ρ', k1, k2⟩
    · rename_i r hr
      refine wp_block (wp_post (ih _ _ _ _ _ he) hs fun ρ' a' w' k1 k2 => ?_)
      cases ex with
      | normal => exact ⟨rfl, ρ', k1, k2⟩
      | exit j => exact absurd (by rw [he]) (hr j _ _)
      | goto l => exact ⟨rfl, ρ', k1, k2⟩
      | ret => exact ⟨rfl, ρ', k1, k2⟩
  | loop body ih =>
    intro tm h ex tm' h' he B ρ a w hs
    exact wp_loop_rounds fuel ((loopE_sound ih fuel tm h ex tm' h' he).2 B ρ a w hs)
  | rangeFunc f ps x y ihx ihy =>
    intro tm h ex tm' h' he B ρ a w hs
    change (match cOpd f with
      | some f => match evo tm f with
        | some fv => rangeE P call N ps.toList x y fv tm h
        | none => none
      | none => none) = _ at he
    split at he
    · rename_i f' hf
      split at he
      · rename_i fv hv
        exact rangeE_sound hcall hf hv he hs
      · simp at he
    · simp at he
  | exit id =>
    intro tm h ex tm' h' he B ρ a w hs
    simp only [codeE, Option.some.injEq, Prod.mk.injEq] at he
    obtain ⟨rfl, rfl, rfl⟩ := he
    exact wp_exit ⟨rfl, ρ, hs, Way.refl hs.hr hs.fresh⟩
  | scope body ih =>
    intro tm h ex tm' h' he B ρ a w hs
    change (match codeE P draw call N fuel goE body tm h with
      | some (Ex.goto l, tm', h') => match findLabel body l with
        | some rest => match goE rest tm' h' with
          | some (Ex.goto _, _, _) => none
          | r => r
        | none => none
      | r => r) = (_ : Option (Ex × T AV × H)) at he
    split at he
    · rename_i l tm2 h2 h1
      split at he
      · rename_i rest hrest
        split at he
        · simp at he
        · rename_i r hr
          refine wp_scope_jumps l (fun a' w' => ∃ ρ', St B N ρ' tm2 h2 a' w' ∧ Way ρ h w ρ' h2 w') (fun _ _ => 0) hrest ?_ ?_
          · exact wp_post (ih _ _ _ _ _ h1) hs fun ρ' a' w' k1 k2 => ⟨rfl, ρ', k1, k2⟩
          · rintro a' w' ⟨ρ', k1, k2⟩
            refine wp_post (hgo _ _ _ _ _ _ he) k1 fun ρ'' a'' w'' j1 j2 => ?_
            cases ex with
            | normal => exact ⟨rfl, ρ'', j1, k2.trans j2⟩
            | exit id => exact ⟨rfl, ρ'', j1, k2.trans j2⟩
            | goto l' => exact absurd he (hr _ _ _)
            | ret => exact ⟨rfl, ρ'', j1, k2.trans j2⟩
      · simp at he
    · rename_i r hr
      refine wp_scope_straight (wp_post (ih _ _ _ _ _ he) hs fun ρ' a' w' k1 k2 => ?_)
      cases ex with
      | normal => exact ⟨rfl, ρ', k1, k2⟩
      | exit id => exact ⟨rfl, ρ', k1, k2⟩
      | goto l => exact absurd he (hr _ _ _)
      | ret => exact ⟨rfl, ρ', k1, k2⟩
  | label l =>
    intro tm h ex tm' h' he B ρ a w hs
    simp only [codeE, Option.some.injEq, Prod.mk.injEq] at he
    obtain ⟨rfl, rfl, rfl⟩ := he
    exact wp_label ⟨rfl, ρ, hs, Way.refl hs.hr hs.fresh⟩
  | goto l =>
    intro tm h ex tm' h' he B ρ a w hs
    simp only [codeE, Option.some.injEq, Prod.mk.injEq] at he
    obtain ⟨rfl, rfl, rfl⟩ := he
    exact wp_goto ⟨rfl, ρ, hs, Way.refl hs.hr hs.fresh⟩
  | ret =>
    intro tm h ex tm' h' he B ρ a w hs
    simp only [codeE, Option.some.injEq, Prod.mk.injEq] at he
    obtain ⟨rfl, rfl, rfl⟩ := he
    exact wp_ret ⟨rfl, ρ, hs, Way.refl hs.hr hs.fresh⟩
  | refuse why => intro tm h ex tm' h' he; simp [codeE] at he

def resOf (a : Act) : ResultVar → Sem Value
  | .tmp t => pure (a.tmps.getD t undef)
  | .cell x t => do loadVar t (← asAddr (a.tmps.getD x undef))
theorem resA_sound {P : Program} {ρ : Rho} {tm : T AV} {h : H} {a : Act} {w : World} (ht : TR ρ tm a.tmps) (hr : HR ρ h.t.get w) : ∀ {l : List ResultVar} {vs : List AV}, resA P tm h.t.get l = some vs →
    ∃ VS, VRs ρ vs VS ∧ (l.mapM (resOf a)).run P w = Result.ok VS w
  | [], vs, h => by simp [resA] at h; subst h; exact ⟨[], rfl, by simp⟩
  | r :: l, vs, hv => by
    unfold resA at hv
    split at hv
    · rename_i v h1
      split at hv
      · rename_i vs' h2
        simp at hv; subst hv
        obtain ⟨VS, k1, k2⟩ := resA_sound ht hr h2
        cases r with
        | tmp t =>
          simp only [] at h1
          exact ⟨_, ⟨_, VS, (ht _ _ h1).2, k1, rfl⟩, by simp [List.mapM_cons, resOf, k2]⟩
        | cell x t =>
          simp only [] at h1
          split at h1
          · rename_i p o agg hp hagg
            have hp' := (ht _ _ hp).2
            simp only [VR] at hp'
            obtain ⟨lc, hlc, hp'⟩ := hp'
            obtain ⟨V, j1, j2⟩ := ldA_sound (P := P) hr hagg h1 hlc
            have hp'' : a.tmps[x]?.getD undef = .pointer (some ⟨lc.blk, lc.off + o, none⟩) := by simpa using hp'
            exact ⟨_, ⟨V, VS, j1, k1, rfl⟩, by simp [List.mapM_cons, resOf, k2, hp'', asAddr, j2]⟩
          · simp at h1
      · simp at hv
    · simp at hv
end
end Go.Proofs.YtgolcgnnomgapaaGreatDoor.Ev
