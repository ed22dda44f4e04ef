/-
  An evaluator of Go code over relative heaps, part Sf: code that walks through a map of several entries, in every order.
-/
import Derived.Test.YtgolcgnnomgapaaGreatDoorEvSe
set_option linter.unusedVariables false
set_option linter.unusedSimpArgs false
namespace Go.Proofs.YtgolcgnnomgapaaGreatDoor.Ev
noncomputable section

def bindL {α β : Type} (f : α → Option (List β)) : List α → Option (List β)
  | [] => some []
  | a :: l => match f a with
    | some bs => match bindL f l with
      | some cs => some (bs ++ cs)
      | none => none
    | none => none
theorem bindL_mem {α β : Type} {f : α → Option (List β)} : ∀ {l : List α} {r : List β}, bindL f l = some r → ∀ a ∈ l, ∃ bs, f a = some bs ∧ ∀ b ∈ bs, b ∈ r
  | [], r, h, a, ha => by simp at ha
  | x :: l, r, h, a, ha => by
    unfold bindL at h
    split at h
    · rename_i bs hb
      split at h
      · rename_i cs hc
        simp at h; subst h
        rcases List.mem_cons.1 ha with rfl | ha
        · exact ⟨bs, hb, fun b hb => by simp [hb]⟩
        · obtain ⟨ds, h1, h2⟩ := bindL_mem hc a ha
          exact ⟨ds, h1, fun b hb => by simp [h2 b hb]⟩
      · simp at h
    · simp at h

/-- a step of a walk -/
def nextOf (o : Oper) : Option Opd := match o.guard with
  | none => match o.op with
    | .next x false => cOpd x
    | _ => none
  | some _ => none
def putL (N : Nat) (tm : T AV) (dst : Option Nat) (rs : List (AV × H)) : Option (List (T AV × H)) :=
  bindL (fun r => match putT N tm dst r.1 with
    | some tm' => some [(tm', r.2)]
    | none => none) rs
def oneL {α : Type} : Option α → Option (List α)
  | some x => some [x]
  | none => none
def stepL (P : Program) (call : CallE) (ops : List Oper) (N : Nat) (tm : T AV) (h : H) (o : Oper) : Option (List (T AV × H)) := match nextOf o with
  | some x => match nextM tm h x with
    | some rs => putL N tm o.dst rs
    | none => oneL (stepE P call ops N tm h o)
  | none => oneL (stepE P call ops N tm h o)
def seqL (P : Program) (call : CallE) (ops : List Oper) (N : Nat) : List Oper → T AV → H → Option (List (T AV × H))
  | [], tm, h => some [(tm, h)]
  | o :: l, tm, h => match stepL P call ops N tm h o with
    | some rs => bindL (fun r => seqL P call ops N l r.1 r.2) rs
    | none => none
theorem nextOf_eq {o : Oper} {x' : Opd} (h : nextOf o = some x') : o.guard = none ∧ ∃ x, o.op = .next x false ∧ cOpd x = some x' := by
  unfold nextOf at h
  split at h
  · rename_i hg
    split at h
    · rename_i x ho
      exact ⟨hg, x, ho, h⟩
    · simp at h
  · simp at h
theorem stepL_sound {r : Option Nat} {P : Program} {call : CallE} (hcall : CallOK true P call) {ops : Array Oper} {B N : Nat} {tm : T AV} {h : H} {rs : List (T AV × H)} {o : Oper} (he : stepL P call ops.toList N tm h o = some rs) {ρ : Rho} {a : Act} {w : World} (hs : St B N ρ tm h a w)
    {i : Nat} (hi : ops[i]? = some o) {Q : Exit → Act → World → Prop} {K : Act → World → Prop} (hK : ∀ r ∈ rs, ∀ ρ' a' w', St B N ρ' r.1 r.2 a' w' → Way ρ h w ρ' r.2 w' → K a' w') : wpOpIn (Fnc r) 0 P ops Q i K a w := by
  have one : oneL (stepE P call ops.toList N tm h o) = some rs → wpOpIn (Fnc r) 0 P ops Q i K a w := by
    intro he
    cases hst : stepE P call ops.toList N tm h o with
    | none => rw [hst] at he; simp [oneL] at he
    | some p =>
      obtain ⟨tm', h'⟩ := p
      rw [hst] at he
      simp [oneL] at he; subst he
      exact stepE_sound hcall hst hs hi fun ρ' a' w' k1 k2 => hK (tm', h') (by simp) ρ' a' w' k1 k2
  unfold stepL at he
  split at he
  · rename_i x' hx
    split at he
    · rename_i ns hn
      obtain ⟨hg, x, ho, hc⟩ := nextOf_eq hx
      obtain ⟨q, hq, hout⟩ := nextM_sound (P := P) (w := w) ho hc hn hs.tr hs.hr hs.fresh
      obtain ⟨bs, hb, hbs⟩ := bindL_mem he q hq
      unfold wpOpIn
      simp only [hi]
      have hw : wantA ops.toList tm o = some true := by unfold wantA; rw [hg]
      rw [wantA_sound hw hs.tr, if_pos rfl]
      split at hb
      · rename_i tm2 hp
        simp at hb; subst hb
        refine (XOut.e (y := true) hout).wpIn (by rw [ho]; simp) fun ρ' w' V k1 k2 => ?_
        obtain ⟨j1, j2, j3⟩ := putT_sound hp hs.size (hs.tr.mono k2.nx.le) k1
        exact hK (tm2, q.2) (hbs _ (by simp)) ρ' _ w' ⟨j1, k2.nx.rel, k2.fresh, j2, by rw [j3]; exact hs.defers.nx hs.hr k2.nx, Nat.le_trans hs.base k2.nx.size⟩ k2
      · simp at hb
    · exact one he
  · exact one he
theorem seqL_sound {r : Option Nat} {P : Program} {call : CallE} (hcall : CallOK true P call) {ops : Array Oper} {B N : Nat} {Q : Exit → Act → World → Prop} : ∀ {l : List Oper} {i : Nat} {tm : T AV} {h : H} {rs : List (T AV × H)}, ops.toList.drop i = l → seqL P call ops.toList N l tm h = some rs →
    ∀ {ρ : Rho} {a : Act} {w : World}, St B N ρ tm h a w → (∀ r ∈ rs, ∀ ρ' a' w', St B N ρ' r.1 r.2 a' w' → Way ρ h w ρ' r.2 w' → Q .normal a' w') → wpOpsIn (Fnc r) 0 P ops Q (List.range' i l.length) a w
  | [], i, tm, h, rs, hl, he, ρ, a, w, hs, hQ => by
    simp [seqL] at he; subst he
    exact hQ (tm, h) (by simp) ρ a w hs (Way.refl hs.hr hs.fresh)
  | o :: l, i, tm, h, rs, hl, he, ρ, a, w, hs, hQ => by
    unfold seqL at he
    split at he
    · rename_i qs h1
      have hi : ops[i]? = some o := by
        have : (ops.toList.drop i)[0]? = some o := by rw [hl]; rfl
        simpa using this
      have hl' : ops.toList.drop (i + 1) = l := by
        rw [← List.drop_drop, hl]; rfl
      simp only [List.length_cons, List.range'_succ, wpOpsIn_cons]
      refine stepL_sound hcall h1 hs hi fun q hq ρ' a' w' k1 k2 => ?_
      obtain ⟨bs, hb, hbs⟩ := bindL_mem he q hq
      exact seqL_sound hcall hl' hb k1 fun r hr ρ'' a'' w'' j1 j2 => hQ r (hbs r hr) _ _ _ j1 (k2.trans j2)
    · simp at he

/-! ### Code -/
abbrev CodeL := T AV → H → Option (List (Ex × T AV × H))
def loopL (body : CodeL) (n : Nat) : CodeL :=
  Nat.rec (motive := fun _ => CodeL) (fun _ _ => none) (fun _ ih tm h => match body tm h with
    | some rs => bindL (fun r : Ex × T AV × H => match r.1 with
      | .normal => ih r.2.1 r.2.2
      | _ => some [r]) rs
    | none => none) n
def codeL (P : Program) (draw : DrawE) (call : CallE) (N fuel : Nat) (c : Code) : CodeL :=
  Code.rec (motive := fun _ => CodeL)
    (fun tm h => some [(.normal, tm, h)])
    (fun id ops d tm h => match d with
      | false => match seqL P call ops.toList N ops.toList tm h with
        | some rs => some (rs.map fun r => (.normal, r.1, r.2))
        | none => none
      | true => match draw call ops.toList N tm h with
        | some (tm', h') => some [(.normal, tm', h')]
        | none => none)
    (fun a b iha ihb tm h => match iha tm h with
      | some rs => bindL (fun r : Ex × T AV × H => match r.1 with
        | .normal => ihb r.2.1 r.2.2
        | _ => some [r]) rs
      | none => none)
    (fun c x y ihx ihy tm h => match cOpd c with
      | some c => match evo tm c with
        | some (.bool true) => ihx tm h
        | some (.bool false) => ihy tm h
        | _ => none
      | none => none)
    (fun id body ih tm h => match ih tm h with
      | some rs => some (rs.map fun r => match r.1 with
        | .exit j => cond (Nat.beq j id) (.normal, r.2) r
        | _ => r)
      | none => none)
    (fun body ih tm h => loopL ih fuel tm h)
    (fun f ps x y ihx ihy tm h => none)
    (fun id tm h => some [(.exit id, tm, h)])
    (fun body ih tm h => none)
    (fun l tm h => some [(.normal, tm, h)])
    (fun l tm h => none)
    (fun tm h => some [(.ret, tm, h)])
    (fun why tm h => none)
    c
/-- what code does, in one of several ways -/
def DoesL (P : Program) (c : Code) (N : Nat) (tm : T AV) (h : H) (rs : List (Ex × T AV × H)) : Prop :=
  ∀ B ρ a w, St B N ρ tm h a w → c.wp P (fun e a' w' => ∃ r ∈ rs, e = r.1.out ∧ ∃ ρ', St B N ρ' r.2.1 r.2.2 a' w' ∧ Way ρ h w ρ' r.2.2 w') a w
theorem wp_postL {P : Program} {c : Code} {N : Nat} {tm : T AV} {h : H} {rs : List (Ex × T AV × H)} (hd : DoesL P c N tm h rs) {B : Nat} {ρ : Rho} {a : Act} {w : World} (hs : St B N ρ tm h a w) {Q : Exit → Act → World → Prop}
    (hQ : ∀ r ∈ rs, ∀ ρ' a' w', St B N ρ' r.2.1 r.2.2 a' w' → Way ρ h w ρ' r.2.2 w' → Q r.1.out a' w') : c.wp P Q a w :=
  wp_mono (hd B ρ a w hs) fun e a' w' hh => by
    obtain ⟨r, hr, rfl, ρ', k1, k2⟩ := hh
    exact hQ _ hr _ _ _ k1 k2
theorem loopL_sound {P : Program} {c : Code} {N : Nat} {body : CodeL} (hb : ∀ tm h rs, body tm h = some rs → DoesL P c N tm h rs) :
    ∀ n tm h rs, loopL body n tm h = some rs → ∀ B ρ a w, St B N ρ tm h a w → Code.rounds P c (fun e a' w' => ∃ r ∈ rs, e = r.1.out ∧ ∃ ρ', St B N ρ' r.2.1 r.2.2 a' w' ∧ Way ρ h w ρ' r.2.2 w') n a w
  | 0, tm, h, rs, he => by simp [loopL] at he
  | n + 1, tm, h, rs, he => by
    change (match body tm h with
      | some rs => bindL (fun r : Ex × T AV × H => match r.1 with
        | .normal => loopL body n r.2.1 r.2.2
        | _ => some [r]) rs
      | none => none) = _ at he
    intro B ρ a w hs
    split at he
    · rename_i qs h1
      rw [Code.rounds]
      refine wp_postL (hb _ _ _ h1) hs fun q hq ρ' a' w' j1 j2 => ?_
      obtain ⟨bs, hbs, hmem⟩ := bindL_mem he q hq
      obtain ⟨ex, tm2, h2⟩ := q
      have key : ∀ m a w Q Q', (∀ e a w, Q e a w → Q' e a w) → Code.rounds P c Q m a w → Code.rounds P c Q' m a w := by
        intro m
        induction m with
        | zero => intro a w Q Q' hq hh; exact hh
        | succ m ih =>
          intro a w Q Q' hq hh
          refine wp_mono hh fun e a w he => ?_
          cases e <;> first
            | exact ih _ _ _ _ hq he
            | exact hq _ _ _ he
      cases ex with
      | normal =>
        exact key n a' w' _ _ (fun e a w hh => by
          obtain ⟨r, hr, e1, ρ'', m1, m2⟩ := hh
          exact ⟨r, hmem r hr, e1, ρ'', m1, j2.trans m2⟩) (loopL_sound hb n tm2 h2 bs hbs B ρ' a' w' j1)
      | exit id => simp at hbs; subst hbs; exact ⟨_, hmem _ (by simp), rfl, ρ', j1, j2⟩
      | goto l => simp at hbs; subst hbs; exact ⟨_, hmem _ (by simp), rfl, ρ', j1, j2⟩
      | ret => simp at hbs; subst hbs; exact ⟨_, hmem _ (by simp), rfl, ρ', j1, j2⟩
    · simp at he
theorem codeL_sound {P : Program} {draw : DrawE} (hdraw : DrawOK P draw) {call : CallE} (hcall : CallOK true P call) (N fuel : Nat) : ∀ (c : Code) tm h rs, codeL P draw call N fuel c tm h = some rs → DoesL P c N tm h rs := by
  intro c
  induction c with
  | skip =>
    intro tm h rs he B ρ a w hs
    simp only [codeL, Option.some.injEq] at he
    subst he
    exact wp_skip ⟨(Ex.normal, tm, h), by simp, rfl, ρ, hs, Way.refl hs.hr hs.fresh⟩
  | region id ops d =>
    intro tm h rs he
    simp only [codeL] at he
    split at he
    · split at he
      · rename_i qs h1
        simp only [Option.some.injEq] at he
        subst he
        intro B ρ a w hs
        refine (wpIn_wide (n := 0)).1 (wpIn_region (F := Fnc none) ?_)
        rw [List.range_eq_range']
        have := seqL_sound (r := none) (Q := fun e a' w' => ∃ r ∈ qs.map (fun r => (Ex.normal, r.1, r.2)), e = r.1.out ∧ ∃ ρ', St B N ρ' r.2.1 r.2.2 a' w' ∧ Way ρ h w ρ' r.2.2 w') hcall (i := 0) (by simp) h1 hs (fun q hq ρ' a' w' k1 k2 => ⟨(Ex.normal, q.1, q.2), List.mem_map.2 ⟨q, hq, rfl⟩, rfl, ρ', k1, k2⟩)
        simpa using this
      · simp at he
    · split at he
      · rename_i tm2 h2 h1
        simp only [Option.some.injEq] at he
        subst he
        intro B ρ a w hs
        exact wp_post (hdraw call hcall id ops N tm h tm2 h2 h1).does hs fun ρ' a' w' k1 k2 => ⟨(Ex.normal, tm2, h2), by simp, rfl, ρ', k1, k2⟩
      · simp at he
  | seq x y ihx ihy =>
    intro tm h rs he B ρ a w hs
    change (match codeL P draw call N fuel x tm h with
      | some rs => bindL (fun r : Ex × T AV × H => match r.1 with
        | .normal => codeL P draw call N fuel y r.2.1 r.2.2
        | _ => some [r]) rs
      | none => none) = _ at he
    split at he
    · rename_i qs h1
      refine wp_seq (wp_postL (ihx _ _ _ h1) hs fun q hq ρ' a' w' k1 k2 => ?_)
      obtain ⟨bs, hbs, hmem⟩ := bindL_mem he q hq
      obtain ⟨ex, tm2, h2⟩ := q
      cases ex with
      | normal => exact wp_postL (ihy _ _ _ hbs) k1 fun r hr ρ'' a'' w'' j1 j2 => ⟨r, hmem r hr, rfl, ρ'', j1, k2.trans j2⟩
      | exit id => simp at hbs; subst hbs; exact ⟨_, hmem _ (by simp), rfl, ρ', k1, k2⟩
      | goto l => simp at hbs; subst hbs; exact ⟨_, hmem _ (by simp), rfl, ρ', k1, k2⟩
      | ret => simp at hbs; subst hbs; exact ⟨_, hmem _ (by simp), rfl, ρ', k1, k2⟩
    · simp at he
  | cond c x y ihx ihy =>
    intro tm h rs he B ρ a w hs
    change (match cOpd c with
      | some c => match evo tm c with
        | some (.bool true) => codeL P draw call N fuel x tm h
        | some (.bool false) => codeL P draw call N fuel y tm h
        | _ => none
      | none => none) = _ at he
    split at he
    · rename_i c' hc
      split at he
      · rename_i hv
        have := evo_sound hs.tr hc hv
        simp only [VR] at this
        exact wp_cond_true this (ihx _ _ _ he B ρ a w hs)
      · rename_i hv
        have := evo_sound hs.tr hc hv
        simp only [VR] at this
        exact wp_cond_false this (ihy _ _ _ he B ρ a w hs)
      · simp at he
    · simp at he
  | block id body ih =>
    intro tm h rs he B ρ a w hs
    change (match codeL P draw call N fuel body tm h with
      | some rs => some (rs.map fun r => match r.1 with
        | .exit j => cond (Nat.beq j id) (Ex.normal, r.2) r
        | _ => r)
      | none => none) = (_ : Option (List (Ex × T AV × H))) at he
    split at he
    · rename_i qs h1
      simp only [Option.some.injEq] at he
      subst he
      refine wp_block (wp_postL (ih _ _ _ h1) hs fun q hq ρ' a' w' k1 k2 => ?_)
      have hm := List.mem_map_of_mem (f := fun r : Ex × T AV × H => match r.1 with
        | .exit j => cond (Nat.beq j id) (Ex.normal, r.2) r
        | _ => r) hq
      obtain ⟨ex, tm2, h2⟩ := q
      cases ex with
      | normal => exact ⟨_, hm, rfl, ρ', k1, k2⟩
      | goto l => exact ⟨_, hm, rfl, ρ', k1, k2⟩
      | ret => exact ⟨_, hm, rfl, ρ', k1, k2⟩
      | exit j =>
        cases hb : Nat.beq j id
        · have hne : j ≠ id := fun e => by subst e; simp at hb
          simp only [hb, cond_false] at hm
          simp only [Ex.out, Exit.inBlock, hne, if_false]
          exact ⟨_, hm, rfl, ρ', k1, k2⟩
        · have := Nat.eq_of_beq_eq_true hb
          subst this
          simp only [hb, cond_true] at hm
          simp only [Ex.out, Exit.inBlock, if_true]
          exact ⟨_, hm, rfl, ρ', k1, k2⟩
    · simp at he
  | loop body ih =>
    intro tm h rs he B ρ a w hs
    exact wp_loop_rounds fuel (loopL_sound ih fuel tm h rs he B ρ a w hs)
  | rangeFunc f ps x y ihx ihy => intro tm h rs he; simp [codeL] at he
  | exit id =>
    intro tm h rs he B ρ a w hs
    simp only [codeL, Option.some.injEq] at he
    subst he
    exact wp_exit ⟨(Ex.exit id, tm, h), by simp, rfl, ρ, hs, Way.refl hs.hr hs.fresh⟩
  | scope body ih => intro tm h rs he; simp [codeL] at he
  | label l =>
    intro tm h rs he B ρ a w hs
    simp only [codeL, Option.some.injEq] at he
    subst he
    exact wp_label ⟨(Ex.normal, tm, h), by simp, rfl, ρ, hs, Way.refl hs.hr hs.fresh⟩
  | goto l => intro tm h rs he; simp [codeL] at he
  | ret =>
    intro tm h rs he B ρ a w hs
    simp only [codeL, Option.some.injEq] at he
    subst he
    exact wp_ret ⟨(Ex.ret, tm, h), by simp, rfl, ρ, hs, Way.refl hs.hr hs.fresh⟩
  | refuse why => intro tm h rs he; simp [codeL] at he
end
end Go.Proofs.YtgolcgnnomgapaaGreatDoor.Ev
