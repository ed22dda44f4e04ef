/-
  An evaluator of Go code over relative heaps, part S: code, and calls.
-/
import Derived.Test.YtnmlfhogolonoaaEvQ
import Derived.LoopN
import Derived.ScopeJumps
set_option linter.unusedVariables false
set_option linter.unusedSimpArgs false
namespace Go.Proofs.Ytnmlfhogolonoaa.Ev
noncomputable section

inductive Ex where
  | normal
  | exit (id : Nat)
  | goto (l : Nat)
  | ret
def Ex.out : Ex → Exit
  | .normal => .normal
  | .exit id => .exit id
  | .goto l => .goto l
  | .ret => .ret

abbrev DrawE := CallE → List Oper → Nat → T AV → H → Option (T AV × H)
/-- what code does -/
def Does (P : Program) (c : Code) (N : Nat) (tm : T AV) (h : H) (ex : Ex) (tm' : T AV) (h' : H) : Prop :=
  ∀ ρ a w, St N ρ tm h a w → c.wp P (fun e a' w' => e = ex.out ∧ ∃ ρ', St N ρ' tm' h' a' w' ∧ Way ρ h w ρ' h' w') a w
def DrawOK (P : Program) (draw : DrawE) : Prop :=
  ∀ call, CallOK P call → ∀ (id : Nat) (ops : Array Oper) N tm h tm' h', draw call ops.toList N tm h = some (tm', h') → Does P (.region id ops true) N tm h .normal tm' h'

abbrev CodeE := T AV → H → Option (Ex × T AV × H)
def loopE (body : CodeE) (n : Nat) : CodeE :=
  Nat.rec (motive := fun _ => CodeE) (fun _ _ => none) (fun _ ih tm h => match body tm h with
    | some (.normal, tm', h') => ih tm' h'
    | r => r) n
def codeE (P : Program) (draw : DrawE) (call : CallE) (N fuel : Nat) (goE : Code → CodeE) (c : Code) : CodeE :=
  Code.rec (motive := fun _ => CodeE)
    (fun tm h => some (.normal, tm, h))
    (fun id ops d tm h => match d with
      | false => match seqE P call ops.toList N ops.toList tm h with
        | some (tm', h') => some (.normal, tm', h')
        | none => none
      | true => match draw call ops.toList N tm h with
        | some (tm', h') => some (.normal, tm', h')
        | none => none)
    (fun a b iha ihb tm h => match iha tm h with
      | some (.normal, tm', h') => ihb tm' h'
      | r => r)
    (fun c x y ihx ihy tm h => match cOpd c with
      | some c => match evo tm c with
        | some (.bool true) => ihx tm h
        | some (.bool false) => ihy tm h
        | _ => none
      | none => none)
    (fun id body ih tm h => match ih tm h with
      | some (.exit j, tm', h') => cond (Nat.beq j id) (some (.normal, tm', h')) (some (.exit j, tm', h'))
      | r => r)
    (fun body ih tm h => loopE ih fuel tm h)
    (fun f ps x y ihx ihy tm h => none)
    (fun id tm h => some (.exit id, tm, h))
    (fun body ih tm h => match ih tm h with
      | some (.goto l, tm', h') => match findLabel body l with
        | some rest => match goE rest tm' h' with
          | some (.goto _, _, _) => none
          | r => r
        | none => none
      | r => r)
    (fun l tm h => some (.normal, tm, h))
    (fun l tm h => some (.goto l, tm, h))
    (fun tm h => some (.ret, tm, h))
    (fun why tm h => none)
    c
def resA (P : Program) (tm : T AV) (g : Nat → Option AO) : List ResultVar → Option (List AV)
  | [] => some []
  | r :: l => match (match r with
      | .tmp t => tm.get t
      | .cell a t => match tm.get a, aggOf P t with
        | some (.ptr p o), some agg => ldA g agg p o
        | _, _ => none) with
    | some v => match resA P tm g l with
      | some vs => some (v :: vs)
      | none => none
    | none => none
def packA : List AV → AV
  | [v] => v
  | l => .tup l

theorem wp_post {P : Program} {c : Code} {N : Nat} {tm tm' : T AV} {h h' : H} {ex : Ex} (hd : Does P c N tm h ex tm' h') {ρ : Rho} {a : Act} {w : World} (hs : St N ρ tm h a w) {Q : Exit → Act → World → Prop}
    (hQ : ∀ ρ' a' w', St N ρ' tm' h' a' w' → Way ρ h w ρ' h' w' → Q ex.out a' w') : c.wp P Q a w :=
  wp_mono (hd ρ a w hs) fun e a' w' hh => by
    obtain ⟨rfl, ρ', k1, k2⟩ := hh
    exact hQ _ _ _ k1 k2

theorem loopE_sound {P : Program} {c : Code} {N : Nat} {body : CodeE} (hb : ∀ tm h ex tm' h', body tm h = some (ex, tm', h') → Does P c N tm h ex tm' h') :
    ∀ n tm h ex tm' h', loopE body n tm h = some (ex, tm', h') → ex ≠ .normal ∧ ∀ ρ a w, St N ρ tm h a w → Code.rounds P c (fun e a' w' => e = ex.out ∧ ∃ ρ', St N ρ' tm' h' a' w' ∧ Way ρ h w ρ' h' w') n a w
  | 0, tm, h, ex, tm', h', he => by simp [loopE] at he
  | n + 1, tm, h, ex, tm', h', he => by
    change (match body tm h with
      | some (.normal, tm', h') => loopE body n tm' h'
      | r => r) = _ at he
    split at he
    · rename_i tm2 h2 h1
      obtain ⟨k1, k2⟩ := loopE_sound hb n tm2 h2 ex tm' h' he
      refine ⟨k1, fun ρ a w hs => ?_⟩
      rw [Code.rounds]
      refine wp_post (hb _ _ _ _ _ h1) hs fun ρ' a' w' j1 j2 => ?_
      have key : ∀ m a w Q Q', (∀ e a w, Q e a w → Q' e a w) → Code.rounds P c Q m a w → Code.rounds P c Q' m a w := by
        intro m
        induction m with
        | zero => intro a w Q Q' hq hh; exact hh
        | succ m ih =>
          intro a w Q Q' hq hh
          refine wp_mono hh fun e a w he => ?_
          cases e <;> first
            | exact ih _ _ _ _ hq he
            | exact hq _ _ _ he
      exact key n a' w' _ _ (fun e a w hh => by
        obtain ⟨e1, ρ'', m1, m2⟩ := hh
        exact ⟨e1, ρ'', m1, j2.trans m2⟩) (k2 ρ' a' w' j1)
    · rename_i r hr
      have hex : ex ≠ .normal := by
        rintro rfl
        exact hr _ _ (by rw [he])
      refine ⟨hex, fun ρ a w hs => ?_⟩
      rw [Code.rounds]
      refine wp_post (hb _ _ _ _ _ he) hs fun ρ' a' w' j1 j2 => ?_
      cases ex with
      | normal => exact absurd rfl hex
      | exit id => exact ⟨rfl, ρ', j1, j2⟩
      | goto l => exact ⟨rfl, ρ', j1, j2⟩
      | ret => exact ⟨rfl, ρ', j1, j2⟩

theorem codeE_sound {P : Program} {draw : DrawE} (hdraw : DrawOK P draw) {call : CallE} (hcall : CallOK P call) (N fuel : Nat) {goE : Code → CodeE} (hgo : ∀ (c : Code) tm h ex tm' h', goE c tm h = some (ex, tm', h') → Does P c N tm h ex tm' h') : ∀ (c : Code) tm h ex tm' h', codeE P draw call N fuel goE c tm h = some (ex, tm', h') → Does P c N tm h ex tm' h' := by
  intro c
  induction c with
  | skip =>
    intro tm h ex tm' h' he ρ a w hs
    simp only [codeE, Option.some.injEq, Prod.mk.injEq] at he
    obtain ⟨rfl, rfl, rfl⟩ := he
    exact wp_skip ⟨rfl, ρ, hs, Way.refl hs.hr hs.fresh⟩
  | region id ops d =>
    intro tm h ex tm' h' he
    simp only [codeE] at he
    split at he
    · split at he
      · rename_i tm2 h2 h1
        simp only [Option.some.injEq, Prod.mk.injEq] at he
        obtain ⟨rfl, rfl, rfl⟩ := he
        intro ρ a w hs
        refine wp_region ?_
        rw [List.range_eq_range']
        have := seqE_sound (Q := fun e a' w' => e = Ex.normal.out ∧ ∃ ρ', St N ρ' tm2 h2 a' w' ∧ Way ρ h w ρ' h2 w') hcall (i := 0) (by simp) h1 hs (fun ρ' a' w' k1 k2 => ⟨rfl, ρ', k1, k2⟩)
        simpa using this
      · simp at he
    · split at he
      · rename_i tm2 h2 h1
        simp only [Option.some.injEq, Prod.mk.injEq] at he
        obtain ⟨rfl, rfl, rfl⟩ := he
        exact hdraw call hcall id ops N tm h tm2 h2 h1
      · simp at he
  | seq x y ihx ihy =>
    intro tm h ex tm' h' he ρ a w hs
    change (match codeE P draw call N fuel goE x tm h with
      | some (.normal, tm', h') => codeE P draw call N fuel goE y tm' h'
      | r => r) = _ at he
    split at he
    · rename_i tm2 h2 h1
      refine wp_seq (wp_post (ihx _ _ _ _ _ h1) hs fun ρ' a' w' k1 k2 => ?_)
      refine wp_post (ihy _ _ _ _ _ he) k1 fun ρ'' a'' w'' j1 j2 => ⟨rfl, ρ'', j1, k2.trans j2⟩
    · rename_i r hr
      have hex : ex ≠ .normal := by
        rintro rfl
        exact hr _ _ (by rw [he])
      refine wp_seq (wp_post (ihx _ _ _ _ _ he) hs fun ρ' a' w' k1 k2 => ?_)
      cases ex with
      | normal => exact absurd rfl hex
      | exit id => exact ⟨rfl, ρ', k1, k2⟩
      | goto l => exact ⟨rfl, ρ', k1, k2⟩
      | ret => exact ⟨rfl, ρ', k1, k2⟩
  | cond c x y ihx ihy =>
    intro tm h ex tm' h' he ρ a w hs
    change (match cOpd c with
      | some c => match evo tm c with
        | some (.bool true) => codeE P draw call N fuel goE x tm h
        | some (.bool false) => codeE P draw call N fuel goE y tm h
        | _ => none
      | none => none) = _ at he
    split at he
    · rename_i c' hc
      split at he
      · rename_i hv
        have := evo_sound hs.tr hc hv
        simp only [VR] at this
        exact wp_cond_true this (ihx _ _ _ _ _ he ρ a w hs)
      · rename_i hv
        have := evo_sound hs.tr hc hv
        simp only [VR] at this
        exact wp_cond_false this (ihy _ _ _ _ _ he ρ a w hs)
      · simp at he
    · simp at he
  | block id body ih =>
    intro tm h ex tm' h' he ρ a w hs
    change (match codeE P draw call N fuel goE body tm h with
      | some (Ex.exit j, tm', h') => cond (Nat.beq j id) (some (Ex.normal, tm', h')) (some (Ex.exit j, tm', h'))
      | r => r) = (_ : Option (Ex × T AV × H)) at he
    split at he
    · rename_i j tm2 h2 h1
      refine wp_block (wp_post (ih _ _ _ _ _ h1) hs fun ρ' a' w' k1 k2 => ?_)
      cases hb : Nat.beq j id
      · rw [hb] at he
        simp only [cond_false, Option.some.injEq, Prod.mk.injEq] at he
        obtain ⟨rfl, rfl, rfl⟩ := he
        have hne : j ≠ id := fun e => by subst e; simp at hb
        simp only [Ex.out, Exit.inBlock, hne, if_false]
        exact ⟨trivial, ρ', k1, k2⟩
      · rw [hb] at he
        simp only [cond_true, Option.some.injEq, Prod.mk.injEq] at he
        obtain ⟨rfl, rfl, rfl⟩ := he
        have := Nat.eq_of_beq_eq_true hb
        subst this
        simp only [Ex.out, Exit.inBlock, if_true]
        exact ⟨trivial, ρ', k1, k2⟩
    · rename_i r hr
      refine wp_block (wp_post (ih _ _ _ _ _ he) hs fun ρ' a' w' k1 k2 => ?_)
      cases ex with
      | normal => exact ⟨rfl, ρ', k1, k2⟩
      | exit j => exact absurd (by rw [he]) (hr j _ _)
      | goto l => exact ⟨rfl, ρ', k1, k2⟩
      | ret => exact ⟨rfl, ρ', k1, k2⟩
  | loop body ih =>
    intro tm h ex tm' h' he ρ a w hs
    exact wp_loop_rounds fuel ((loopE_sound ih fuel tm h ex tm' h' he).2 ρ a w hs)
  | rangeFunc f ps x y ihx ihy => intro tm h ex tm' h' he; simp [codeE] at he
  | exit id =>
    intro tm h ex tm' h' he ρ a w hs
    simp only [codeE, Option.some.injEq, Prod.mk.injEq] at he
    obtain ⟨rfl, rfl, rfl⟩ := he
    exact wp_exit ⟨rfl, ρ, hs, Way.refl hs.hr hs.fresh⟩
  | scope body ih =>
    intro tm h ex tm' h' he ρ a w hs
    change (match codeE P draw call N fuel goE body tm h with
      | some (Ex.goto l, tm', h') => match findLabel body l with
        | some rest => match goE rest tm' h' with
          | some (Ex.goto _, _, _) => none
          | r => r
        | none => none
      | r => r) = (_ : Option (Ex × T AV × H)) at he
    split at he
    · rename_i l tm2 h2 h1
      split at he
      · rename_i rest hrest
        split at he
        · simp at he
        · rename_i r hr
          refine wp_scope_jumps l (fun a' w' => ∃ ρ', St N ρ' tm2 h2 a' w' ∧ Way ρ h w ρ' h2 w') (fun _ _ => 0) hrest ?_ ?_
          · exact wp_post (ih _ _ _ _ _ h1) hs fun ρ' a' w' k1 k2 => ⟨rfl, ρ', k1, k2⟩
          · rintro a' w' ⟨ρ', k1, k2⟩
            refine wp_post (hgo _ _ _ _ _ _ he) k1 fun ρ'' a'' w'' j1 j2 => ?_
            cases ex with
            | normal => exact ⟨rfl, ρ'', j1, k2.trans j2⟩
            | exit id => exact ⟨rfl, ρ'', j1, k2.trans j2⟩
            | goto l' => exact absurd he (hr _ _ _)
            | ret => exact ⟨rfl, ρ'', j1, k2.trans j2⟩
      · simp at he
    · rename_i r hr
      refine wp_scope_straight (wp_post (ih _ _ _ _ _ he) hs fun ρ' a' w' k1 k2 => ?_)
      cases ex with
      | normal => exact ⟨rfl, ρ', k1, k2⟩
      | exit id => exact ⟨rfl, ρ', k1, k2⟩
      | goto l => exact absurd he (hr _ _ _)
      | ret => exact ⟨rfl, ρ', k1, k2⟩
  | label l =>
    intro tm h ex tm' h' he ρ a w hs
    simp only [codeE, Option.some.injEq, Prod.mk.injEq] at he
    obtain ⟨rfl, rfl, rfl⟩ := he
    exact wp_label ⟨rfl, ρ, hs, Way.refl hs.hr hs.fresh⟩
  | goto l =>
    intro tm h ex tm' h' he ρ a w hs
    simp only [codeE, Option.some.injEq, Prod.mk.injEq] at he
    obtain ⟨rfl, rfl, rfl⟩ := he
    exact wp_goto ⟨rfl, ρ, hs, Way.refl hs.hr hs.fresh⟩
  | ret =>
    intro tm h ex tm' h' he ρ a w hs
    simp only [codeE, Option.some.injEq, Prod.mk.injEq] at he
    obtain ⟨rfl, rfl, rfl⟩ := he
    exact wp_ret ⟨rfl, ρ, hs, Way.refl hs.hr hs.fresh⟩
  | refuse why => intro tm h ex tm' h' he; simp [codeE] at he

def resOf (a : Act) : ResultVar → Sem Value
  | .tmp t => pure (a.tmps.getD t undef)
  | .cell x t => do loadVar t (← asAddr (a.tmps.getD x undef))
theorem resA_sound {P : Program} {N : Nat} {ρ : Rho} {tm : T AV} {h : H} {a : Act} {w : World} (hs : St N ρ tm h a w) : ∀ {l : List ResultVar} {vs : List AV}, resA P tm h.t.get l = some vs →
    ∃ VS, VRs ρ vs VS ∧ (l.mapM (resOf a)).run P w = Result.ok VS w
  | [], vs, h => by simp [resA] at h; subst h; exact ⟨[], rfl, by simp⟩
  | r :: l, vs, hv => by
    unfold resA at hv
    split at hv
    · rename_i v h1
      split at hv
      · rename_i vs' h2
        simp at hv; subst hv
        obtain ⟨VS, k1, k2⟩ := resA_sound hs h2
        cases r with
        | tmp t =>
          simp only [] at h1
          exact ⟨_, ⟨_, VS, (hs.tr _ _ h1).2, k1, rfl⟩, by simp [List.mapM_cons, resOf, k2]⟩
        | cell x t =>
          simp only [] at h1
          split at h1
          · rename_i p o agg hp hagg
            have hp' := (hs.tr _ _ hp).2
            simp only [VR] at hp'
            obtain ⟨lc, hlc, hp'⟩ := hp'
            obtain ⟨V, j1, j2⟩ := ldA_sound (P := P) hs.hr hagg h1 hlc
            have hp'' : a.tmps[x]?.getD undef = .pointer (some ⟨lc.blk, lc.off + o, none⟩) := by simpa using hp'
            exact ⟨_, ⟨V, VS, j1, k1, rfl⟩, by simp [List.mapM_cons, resOf, k2, hp'', asAddr, j2]⟩
          · simp at h1
      · simp at hv
    · simp at hv
end
end Go.Proofs.Ytnmlfhogolonoaa.Ev
