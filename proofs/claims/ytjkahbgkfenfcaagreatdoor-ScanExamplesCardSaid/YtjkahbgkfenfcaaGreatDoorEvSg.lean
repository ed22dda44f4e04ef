/-
  An evaluator of Go code over relative heaps, part Se: functions that walk through a map of several entries, in every order.
  An evaluator of Go code over relative heaps, part Sf: code that walks through a map of several entries, in every order.
  An evaluator of Go code over relative heaps, part Sg: a part of a heap, and how the ways of a walk come together again.
-/
import Derived.Test.YtjkahbgkfenfcaaGreatDoorEvS
import Derived.Test.YtjkahbgkfenfcaaGreatDoorEvY
set_option linter.unusedVariables false
set_option linter.unusedSimpArgs false
namespace Go.Proofs.YtjkahbgkfenfcaaGreatDoor.Ev
noncomputable section

/-! ### One step of a walk, in every way -/
def oldAll (since : Nat) (l : List (AV × AV × Nat)) : Bool := l.all fun e => Nat.ble (Nat.succ e.2.2) since
def nextM (tm : T AV) (h : H) (x : Opd) : Option (List (AV × H)) := match evo tm x with
  | some (.ptr p 0) => match h.t.get p with
    | some (.iter (some a) since seen last) => match h.t.get a with
      | some (.map es clock) => match !seen.isEmpty && !es.isEmpty && es.all (fun e => Nat.ble last e.2.2) with
        | true => none
        | false => match leftA es seen with
          | e1 :: e2 :: l => match oldAll since (e1 :: e2 :: l) with
            | true => some ((e1 :: e2 :: l).map fun e => (.tup [.bool true, e.1, e.2.1], ⟨h.next, h.t.set p (.iter (some a) since (seen ++ [e.2.2]) clock)⟩))
            | false => none
          | _ => none
      | _ => none
    | _ => none
  | _ => none
theorem ERs.at {ρ : Rho} : ∀ {es : List (AV × AV × Nat)} {ES : List MapEntry}, ERs ρ es ES → ES.length = es.length ∧ ∀ (i : Nat) (E : MapEntry), ES[i]? = some E → ∃ e, e ∈ es ∧ VR ρ e.1 E.key ∧ VR ρ e.2.1 E.val ∧ E.born = e.2.2
  | [], ES, h => by simp only [ERs] at h; subst h; simp
  | e :: es, ES, h => by
    obtain ⟨E, M, h1, h2, h3, h4, rfl⟩ := h
    obtain ⟨k1, k2⟩ := ERs.at h4
    refine ⟨by simp [k1], fun i E' hi => ?_⟩
    cases i with
    | zero => simp at hi; subst hi; exact ⟨e, by simp, h1, h2, h3⟩
    | succ i =>
      obtain ⟨e', j1, j2⟩ := k2 i E' (by simpa using hi)
      exact ⟨e', by simp [j1], j2⟩
theorem old_sound {ρ : Rho} {since : Nat} {es : List (AV × AV × Nat)} {ES : List MapEntry} (h : ERs ρ es ES) (ho : oldAll since es = true) : ∀ E ∈ ES, E.born < since := by
  intro E hE
  obtain ⟨i, hi⟩ := List.getElem?_of_mem hE
  obtain ⟨e, h1, _, _, h4⟩ := (ERs.at h).2 i E hi
  have := List.all_eq_true.1 ho e h1
  rw [h4]
  exact Nat.le_of_ble_eq_true this
theorem nextM_sound {P : Program} {o : Oper} {x : Operand} {x' : Opd} {tm : T AV} {h : H} {rs : List (AV × H)} {ρ : Rho} {a : Act} {w : World} (ho : o.op = .next x false) (hx : cOpd x = some x') (he : nextM tm h x' = some rs) (ht : TR ρ tm a.tmps) (hr : HR ρ h.t.get w) (hf : Fresh ρ h.next) :
    ∃ r ∈ rs, EOut P (execOp a.eval o) ρ h w r.1 r.2 := by
  obtain ⟨dst, op, type, pos, after, guard⟩ := o
  simp only at ho; subst ho
  unfold nextM at he
  split at he
  · rename_i p hv
    have hM := evo_sound ht hx hv
    simp only [VR] at hM
    obtain ⟨l, hl, hM⟩ := hM
    split at he
    · rename_i q since seen last hg
      obtain ⟨_, h0, M, h1, k, hk, rfl⟩ := hr.obj p _ l hg rfl hl
      split at he
      · rename_i es clock hg2
        obtain ⟨_, ES, h3, h4⟩ := hr.obj q _ k hg2 rfl hk
        split at he
        · simp at he
        · rename_i hcond
          have hE := empty_sound h3
          have hA := all_sound last h3
          have hcond' : (!(seen.toArray).isEmpty && !(ES.toArray).isEmpty && (ES.toArray).all fun e => decide (e.born ≥ last)) = false := by
            rw [← hcond]; simp [← hE, ← hA]
          have hL := leftA_sound seen h3
          split at he
          · rename_i e1 e2 l' hl2
            rw [hl2] at hL
            split at he
            · rename_i hold
              simp only [Option.some.injEq] at he
              generalize hes : e1 :: e2 :: l' = L at *
              obtain ⟨LS, hLS⟩ : ∃ LS, LS = ES.filter fun e => !seen.toArray.contains e.born := ⟨_, rfl⟩
              rw [← hLS] at hL
              have hL' : (ES.toArray.filter fun e => !seen.toArray.contains e.born) = LS.toArray := by
                rw [hLS]; simp
              obtain ⟨hlen, hat⟩ := ERs.at hL
              have hb := old_sound hL hold
              have hlen2 : 2 ≤ LS.length := by rw [hlen, ← hes]; simp
              have f1 : LS.toArray.filter (fun e => decide (e.born < since)) = LS.toArray := by
                rw [Array.filter_eq_self]
                intro E hE; simpa using hb E (by simpa using hE)
              have f2 : LS.toArray.filter (fun e => decide (e.born ≥ since)) = #[] := by
                rw [Array.filter_eq_empty_iff]
                intro E hE
                have := hb E (by simpa using hE)
                simp; omega
              have hne : LS.toArray.isEmpty = false := by
                cases LS with
                | nil => simp at hlen2
                | cons x y => rfl
              obtain ⟨n, hn⟩ : ∃ n, n = LS.length := ⟨_, rfl⟩
              obtain ⟨i, hi⟩ : ∃ i, i = w.tape w.drawn (.mapNext n) % n := ⟨_, rfl⟩
              have hin : i < n := by rw [hi]; exact Nat.mod_lt _ (by omega)
              obtain ⟨E, hEi⟩ : ∃ E, LS[i]? = some E := ⟨LS[i]'(by omega), by simp⟩
              obtain ⟨e, g1, g2, g3, g4⟩ := hat i E hEi
              refine ⟨(.tup [.bool true, e.1, e.2.1], ⟨h.next, h.t.set p (.iter (some q) since (seen ++ [e.2.2]) clock)⟩), ?_, ?_⟩
              · rw [← he]; exact List.mem_map.2 ⟨e, g1, rfl⟩
              · obtain ⟨w1, hw1⟩ : ∃ w1 : World, w1 = { w with drawn := w.drawn + 1 } := ⟨_, rfl⟩
                have way1 : Way ρ h w ρ h w1 := Way.drew hr hf (by rw [hw1]) (by rw [hw1]; exact ⟨rfl, rfl, rfl⟩)
                have hlt : l.blk < w.heap.size := (hr.obj p _ l hg rfl hl).1
                have h1' : w1.heap[l.blk]? = some (.mapIter (some k.blk) since seen.toArray last) := by rw [hw1]; exact h1
                refine ⟨ρ, { w1 with heap := w1.heap.setIfInBounds l.blk (.mapIter (some k.blk) since (seen ++ [e.2.2]).toArray clock) }, .tuple #[.bool true, E.key, E.val], .inl ?_, ?_, ?_⟩
                · simp only [execOp, Instr.next, Sem.run_bind, hM, h0, Nat.add_zero, run_iter h1, Result.andThen_ok, run_map h4, hcond', Bool.false_eq_true, if_false, hL', f1, f2, hne]
                  have hc : (choose (.mapNext ((#[] : Array (Option MapEntry)) ++ (LS.toArray ++ #[]).map some).size)).run P w = .ok i w1 := by
                    have : ((#[] : Array (Option MapEntry)) ++ (LS.toArray ++ #[]).map some).size = n := by simp [hn]
                    rw [this]
                    have hnf : (Question.mapNext n).forced = false := by simp [Question.forced]; omega
                    simp [choose, Sem.run, hnf, Question.cut, hi, hw1]
                  rw [hc]
                  simp only [Result.andThen_ok]
                  have hcand : ((#[] : Array (Option MapEntry)) ++ (LS.toArray ++ #[]).map some)[i]? = some (some E) := by
                    simp [hEi]
                  rw [hcand]
                  simp [setObj, Sem.run, h1', g4]
                · exact ⟨[.bool true, E.key, E.val], ⟨.bool true, [E.key, E.val], rfl, ⟨E.key, [E.val], g2, ⟨E.val, [], g3, rfl, rfl⟩, rfl⟩, rfl⟩, rfl⟩
                · exact way1.trans (way_set hf hl (nx_set way1.nx.rel hg rfl hl (fun b => T.get_set _ _ _ _) ⟨rfl, rfl, rfl⟩ (by simp) (fun r hne => by simp only [Array.getElem?_setIfInBounds_ne (Ne.symm hne)]) rfl ⟨h0, some k.blk, by
                    have hlt1 : l.blk < w1.heap.size := by rw [hw1]; exact hlt
                    simp [hlt1], k, hk, rfl⟩))
            · simp at he
          · simp at he
      · simp at he
    · simp at he
  · simp at he
end
end Go.Proofs.YtjkahbgkfenfcaaGreatDoor.Ev

namespace Go.Proofs.YtjkahbgkfenfcaaGreatDoor.Ev
noncomputable section

def bindL {α β : Type} (f : α → Option (List β)) : List α → Option (List β)
  | [] => some []
  | a :: l => match f a with
    | some bs => match bindL f l with
      | some cs => some (bs ++ cs)
      | none => none
    | none => none
theorem bindL_mem {α β : Type} {f : α → Option (List β)} : ∀ {l : List α} {r : List β}, bindL f l = some r → ∀ a ∈ l, ∃ bs, f a = some bs ∧ ∀ b ∈ bs, b ∈ r
  | [], r, h, a, ha => by simp at ha
  | x :: l, r, h, a, ha => by
    unfold bindL at h
    split at h
    · rename_i bs hb
      split at h
      · rename_i cs hc
        simp at h; subst h
        rcases List.mem_cons.1 ha with rfl | ha
        · exact ⟨bs, hb, fun b hb => by simp [hb]⟩
        · obtain ⟨ds, h1, h2⟩ := bindL_mem hc a ha
          exact ⟨ds, h1, fun b hb => by simp [h2 b hb]⟩
      · simp at h
    · simp at h

/-- a step of a walk -/
def nextOf (o : Oper) : Option Opd := match o.guard with
  | none => match o.op with
    | .next x false => cOpd x
    | _ => none
  | some _ => none
def putL (N : Nat) (tm : T AV) (dst : Option Nat) (rs : List (AV × H)) : Option (List (T AV × H)) :=
  bindL (fun r => match putT N tm dst r.1 with
    | some tm' => some [(tm', r.2)]
    | none => none) rs
def oneL {α : Type} : Option α → Option (List α)
  | some x => some [x]
  | none => none
def stepL (P : Program) (call : CallE) (ops : List Oper) (N : Nat) (tm : T AV) (h : H) (o : Oper) : Option (List (T AV × H)) := match nextOf o with
  | some x => match nextM tm h x with
    | some rs => putL N tm o.dst rs
    | none => oneL (stepE P call ops N tm h o)
  | none => oneL (stepE P call ops N tm h o)
def seqL (P : Program) (call : CallE) (ops : List Oper) (N : Nat) : List Oper → T AV → H → Option (List (T AV × H))
  | [], tm, h => some [(tm, h)]
  | o :: l, tm, h => match stepL P call ops N tm h o with
    | some rs => bindL (fun r => seqL P call ops N l r.1 r.2) rs
    | none => none
theorem nextOf_eq {o : Oper} {x' : Opd} (h : nextOf o = some x') : o.guard = none ∧ ∃ x, o.op = .next x false ∧ cOpd x = some x' := by
  unfold nextOf at h
  split at h
  · rename_i hg
    split at h
    · rename_i x ho
      exact ⟨hg, x, ho, h⟩
    · simp at h
  · simp at h
theorem stepL_sound {r : Option Nat} {P : Program} {call : CallE} (hcall : CallOK true P call) {ops : Array Oper} {B N : Nat} {tm : T AV} {h : H} {rs : List (T AV × H)} {o : Oper} (he : stepL P call ops.toList N tm h o = some rs) {ρ : Rho} {a : Act} {w : World} (hs : St B N ρ tm h a w)
    {i : Nat} (hi : ops[i]? = some o) {Q : Exit → Act → World → Prop} {K : Act → World → Prop} (hK : ∀ r ∈ rs, ∀ ρ' a' w', St B N ρ' r.1 r.2 a' w' → Way ρ h w ρ' r.2 w' → K a' w') : wpOpIn (Fnc r) 0 P ops Q i K a w := by
  have one : oneL (stepE P call ops.toList N tm h o) = some rs → wpOpIn (Fnc r) 0 P ops Q i K a w := by
    intro he
    cases hst : stepE P call ops.toList N tm h o with
    | none => rw [hst] at he; simp [oneL] at he
    | some p =>
      obtain ⟨tm', h'⟩ := p
      rw [hst] at he
      simp [oneL] at he; subst he
      exact stepE_sound hcall hst hs hi fun ρ' a' w' k1 k2 => hK (tm', h') (by simp) ρ' a' w' k1 k2
  unfold stepL at he
  split at he
  · rename_i x' hx
    split at he
    · rename_i ns hn
      obtain ⟨hg, x, ho, hc⟩ := nextOf_eq hx
      obtain ⟨q, hq, hout⟩ := nextM_sound (P := P) (w := w) ho hc hn hs.tr hs.hr hs.fresh
      obtain ⟨bs, hb, hbs⟩ := bindL_mem he q hq
      unfold wpOpIn
      simp only [hi]
      have hw : wantA ops.toList tm o = some true := by unfold wantA; rw [hg]
      rw [wantA_sound hw hs.tr, if_pos rfl]
      split at hb
      · rename_i tm2 hp
        simp at hb; subst hb
        refine (XOut.e (y := true) hout).wpIn (by rw [ho]; simp) fun ρ' w' V k1 k2 => ?_
        obtain ⟨j1, j2, j3⟩ := putT_sound hp hs.size (hs.tr.mono k2.nx.le) k1
        exact hK (tm2, q.2) (hbs _ (by simp)) ρ' _ w' ⟨j1, k2.nx.rel, k2.fresh, j2, by rw [j3]; exact hs.defers.nx hs.hr k2.nx, Nat.le_trans hs.base k2.nx.size⟩ k2
      · simp at hb
    · exact one he
  · exact one he
theorem seqL_sound {r : Option Nat} {P : Program} {call : CallE} (hcall : CallOK true P call) {ops : Array Oper} {B N : Nat} {Q : Exit → Act → World → Prop} : ∀ {l : List Oper} {i : Nat} {tm : T AV} {h : H} {rs : List (T AV × H)}, ops.toList.drop i = l → seqL P call ops.toList N l tm h = some rs →
    ∀ {ρ : Rho} {a : Act} {w : World}, St B N ρ tm h a w → (∀ r ∈ rs, ∀ ρ' a' w', St B N ρ' r.1 r.2 a' w' → Way ρ h w ρ' r.2 w' → Q .normal a' w') → wpOpsIn (Fnc r) 0 P ops Q (List.range' i l.length) a w
  | [], i, tm, h, rs, hl, he, ρ, a, w, hs, hQ => by
    simp [seqL] at he; subst he
    exact hQ (tm, h) (by simp) ρ a w hs (Way.refl hs.hr hs.fresh)
  | o :: l, i, tm, h, rs, hl, he, ρ, a, w, hs, hQ => by
    unfold seqL at he
    split at he
    · rename_i qs h1
      have hi : ops[i]? = some o := by
        have : (ops.toList.drop i)[0]? = some o := by rw [hl]; rfl
        simpa using this
      have hl' : ops.toList.drop (i + 1) = l := by
        rw [← List.drop_drop, hl]; rfl
      simp only [List.length_cons, List.range'_succ, wpOpsIn_cons]
      refine stepL_sound hcall h1 hs hi fun q hq ρ' a' w' k1 k2 => ?_
      obtain ⟨bs, hb, hbs⟩ := bindL_mem he q hq
      exact seqL_sound hcall hl' hb k1 fun r hr ρ'' a'' w'' j1 j2 => hQ r (hbs r hr) _ _ _ j1 (k2.trans j2)
    · simp at he

/-! ### Code -/
abbrev CodeL := T AV → H → Option (List (Ex × T AV × H))
def loopL (body : CodeL) (n : Nat) : CodeL :=
  Nat.rec (motive := fun _ => CodeL) (fun _ _ => none) (fun _ ih tm h => match body tm h with
    | some rs => bindL (fun r : Ex × T AV × H => match r.1 with
      | .normal => ih r.2.1 r.2.2
      | _ => some [r]) rs
    | none => none) n
def codeL (P : Program) (draw : DrawE) (call : CallE) (N fuel : Nat) (c : Code) : CodeL :=
  Code.rec (motive := fun _ => CodeL)
    (fun tm h => some [(.normal, tm, h)])
    (fun id ops d tm h => match d with
      | false => match seqL P call ops.toList N ops.toList tm h with
        | some rs => some (rs.map fun r => (.normal, r.1, r.2))
        | none => none
      | true => match draw call ops.toList N tm h with
        | some (tm', h') => some [(.normal, tm', h')]
        | none => none)
    (fun a b iha ihb tm h => match iha tm h with
      | some rs => bindL (fun r : Ex × T AV × H => match r.1 with
        | .normal => ihb r.2.1 r.2.2
        | _ => some [r]) rs
      | none => none)
    (fun c x y ihx ihy tm h => match cOpd c with
      | some c => match evo tm c with
        | some (.bool true) => ihx tm h
        | some (.bool false) => ihy tm h
        | _ => none
      | none => none)
    (fun id body ih tm h => match ih tm h with
      | some rs => some (rs.map fun r => match r.1 with
        | .exit j => cond (Nat.beq j id) (.normal, r.2) r
        | _ => r)
      | none => none)
    (fun body ih tm h => loopL ih fuel tm h)
    (fun f ps x y ihx ihy tm h => none)
    (fun id tm h => some [(.exit id, tm, h)])
    (fun body ih tm h => none)
    (fun l tm h => some [(.normal, tm, h)])
    (fun l tm h => none)
    (fun tm h => some [(.ret, tm, h)])
    (fun why tm h => none)
    c
/-- what code does, in one of several ways -/
def DoesL (P : Program) (c : Code) (N : Nat) (tm : T AV) (h : H) (rs : List (Ex × T AV × H)) : Prop :=
  ∀ B ρ a w, St B N ρ tm h a w → c.wp P (fun e a' w' => ∃ r ∈ rs, e = r.1.out ∧ ∃ ρ', St B N ρ' r.2.1 r.2.2 a' w' ∧ Way ρ h w ρ' r.2.2 w') a w
theorem wp_postL {P : Program} {c : Code} {N : Nat} {tm : T AV} {h : H} {rs : List (Ex × T AV × H)} (hd : DoesL P c N tm h rs) {B : Nat} {ρ : Rho} {a : Act} {w : World} (hs : St B N ρ tm h a w) {Q : Exit → Act → World → Prop}
    (hQ : ∀ r ∈ rs, ∀ ρ' a' w', St B N ρ' r.2.1 r.2.2 a' w' → Way ρ h w ρ' r.2.2 w' → Q r.1.out a' w') : c.wp P Q a w :=
  wp_mono (hd B ρ a w hs) fun e a' w' hh => by
    obtain ⟨r, hr, rfl, ρ', k1, k2⟩ := hh
    exact hQ _ hr _ _ _ k1 k2
theorem loopL_sound {P : Program} {c : Code} {N : Nat} {body : CodeL} (hb : ∀ tm h rs, body tm h = some rs → DoesL P c N tm h rs) :
    ∀ n tm h rs, loopL body n tm h = some rs → ∀ B ρ a w, St B N ρ tm h a w → Code.rounds P c (fun e a' w' => ∃ r ∈ rs, e = r.1.out ∧ ∃ ρ', St B N ρ' r.2.1 r.2.2 a' w' ∧ Way ρ h w ρ' r.2.2 w') n a w
  | 0, tm, h, rs, he => by simp [loopL] at he
  | n + 1, tm, h, rs, he => by
    change (match body tm h with
      | some rs => bindL (fun r : Ex × T AV × H => match r.1 with
        | .normal => loopL body n r.2.1 r.2.2
        | _ => some [r]) rs
      | none => none) = _ at he
    intro B ρ a w hs
    split at he
    · rename_i qs h1
      rw [Code.rounds]
      refine wp_postL (hb _ _ _ h1) hs fun q hq ρ' a' w' j1 j2 => ?_
      obtain ⟨bs, hbs, hmem⟩ := bindL_mem he q hq
      obtain ⟨ex, tm2, h2⟩ := q
      have key : ∀ m a w Q Q', (∀ e a w, Q e a w → Q' e a w) → Code.rounds P c Q m a w → Code.rounds P c Q' m a w := by
        intro m
        induction m with
        | zero => intro a w Q Q' hq hh; exact hh
        | succ m ih =>
          intro a w Q Q' hq hh
          refine wp_mono hh fun e a w he => ?_
          cases e <;> first
            | exact ih _ _ _ _ hq he
            | exact hq _ _ _ he
      cases ex with
      | normal =>
        exact key n a' w' _ _ (fun e a w hh => by
          obtain ⟨r, hr, e1, ρ'', m1, m2⟩ := hh
          exact ⟨r, hmem r hr, e1, ρ'', m1, j2.trans m2⟩) (loopL_sound hb n tm2 h2 bs hbs B ρ' a' w' j1)
      | exit id => simp at hbs; subst hbs; exact ⟨_, hmem _ (by simp), rfl, ρ', j1, j2⟩
      | goto l => simp at hbs; subst hbs; exact ⟨_, hmem _ (by simp), rfl, ρ', j1, j2⟩
      | ret => simp at hbs; subst hbs; exact ⟨_, hmem _ (by simp), rfl, ρ', j1, j2⟩
    · simp at he
theorem codeL_sound {P : Program} {draw : DrawE} (hdraw : DrawOK P draw) {call : CallE} (hcall : CallOK true P call) (N fuel : Nat) : ∀ (c : Code) tm h rs, codeL P draw call N fuel c tm h = some rs → DoesL P c N tm h rs := by
  intro c
  induction c with
  | skip =>
    intro tm h rs he B ρ a w hs
    simp only [codeL, Option.some.injEq] at he
    subst he
    exact wp_skip ⟨(Ex.normal, tm, h), by simp, rfl, ρ, hs, Way.refl hs.hr hs.fresh⟩
  | region id ops d =>
    intro tm h rs he
    simp only [codeL] at he
    split at he
    · split at he
      · rename_i qs h1
        simp only [Option.some.injEq] at he
        subst he
        intro B ρ a w hs
        refine (wpIn_wide (n := 0)).1 (wpIn_region (F := Fnc none) ?_)
        rw [List.range_eq_range']
        have := seqL_sound (r := none) (Q := fun e a' w' => ∃ r ∈ qs.map (fun r => (Ex.normal, r.1, r.2)), e = r.1.out ∧ ∃ ρ', St B N ρ' r.2.1 r.2.2 a' w' ∧ Way ρ h w ρ' r.2.2 w') hcall (i := 0) (by simp) h1 hs (fun q hq ρ' a' w' k1 k2 => ⟨(Ex.normal, q.1, q.2), List.mem_map.2 ⟨q, hq, rfl⟩, rfl, ρ', k1, k2⟩)
        simpa using this
      · simp at he
    · split at he
      · rename_i tm2 h2 h1
        simp only [Option.some.injEq] at he
        subst he
        intro B ρ a w hs
        exact wp_post (hdraw call hcall id ops N tm h tm2 h2 h1).does hs fun ρ' a' w' k1 k2 => ⟨(Ex.normal, tm2, h2), by simp, rfl, ρ', k1, k2⟩
      · simp at he
  | seq x y ihx ihy =>
    intro tm h rs he B ρ a w hs
    change (match codeL P draw call N fuel x tm h with
      | some rs => bindL (fun r : Ex × T AV × H => match r.1 with
        | .normal => codeL P draw call N fuel y r.2.1 r.2.2
        | _ => some [r]) rs
      | none => none) = _ at he
    split at he
    · rename_i qs h1
      refine wp_seq (wp_postL (ihx _ _ _ h1) hs fun q hq ρ' a' w' k1 k2 => ?_)
      obtain ⟨bs, hbs, hmem⟩ := bindL_mem he q hq
      obtain ⟨ex, tm2, h2⟩ := q
      cases ex with
      | normal => exact wp_postL (ihy _ _ _ hbs) k1 fun r hr ρ'' a'' w'' j1 j2 => ⟨r, hmem r hr, rfl, ρ'', j1, k2.trans j2⟩
      | exit id => simp at hbs; subst hbs; exact ⟨_, hmem _ (by simp), rfl, ρ', k1, k2⟩
      | goto l => simp at hbs; subst hbs; exact ⟨_, hmem _ (by simp), rfl, ρ', k1, k2⟩
      | ret => simp at hbs; subst hbs; exact ⟨_, hmem _ (by simp), rfl, ρ', k1, k2⟩
    · simp at he
  | cond c x y ihx ihy =>
    intro tm h rs he B ρ a w hs
    change (match cOpd c with
      | some c => match evo tm c with
        | some (.bool true) => codeL P draw call N fuel x tm h
        | some (.bool false) => codeL P draw call N fuel y tm h
        | _ => none
      | none => none) = _ at he
    split at he
    · rename_i c' hc
      split at he
      · rename_i hv
        have := evo_sound hs.tr hc hv
        simp only [VR] at this
        exact wp_cond_true this (ihx _ _ _ he B ρ a w hs)
      · rename_i hv
        have := evo_sound hs.tr hc hv
        simp only [VR] at this
        exact wp_cond_false this (ihy _ _ _ he B ρ a w hs)
      · simp at he
    · simp at he
  | block id body ih =>
    intro tm h rs he B ρ a w hs
    change (match codeL P draw call N fuel body tm h with
      | some rs => some (rs.map fun r => match r.1 with
        | .exit j => cond (Nat.beq j id) (Ex.normal, r.2) r
        | _ => r)
      | none => none) = (_ : Option (List (Ex × T AV × H))) at he
    split at he
    · rename_i qs h1
      simp only [Option.some.injEq] at he
      subst he
      refine wp_block (wp_postL (ih _ _ _ h1) hs fun q hq ρ' a' w' k1 k2 => ?_)
      have hm := List.mem_map_of_mem (f := fun r : Ex × T AV × H => match r.1 with
        | .exit j => cond (Nat.beq j id) (Ex.normal, r.2) r
        | _ => r) hq
      obtain ⟨ex, tm2, h2⟩ := q
      cases ex with
      | normal => exact ⟨_, hm, rfl, ρ', k1, k2⟩
      | goto l => exact ⟨_, hm, rfl, ρ', k1, k2⟩
      | ret => exact ⟨_, hm, rfl, ρ', k1, k2⟩
      | exit j =>
        cases hb : Nat.beq j id
        · have hne : j ≠ id := fun e => by subst e; simp at hb
          simp only [hb, cond_false] at hm
          simp only [Ex.out, Exit.inBlock, hne, if_false]
          exact ⟨_, hm, rfl, ρ', k1, k2⟩
        · have := Nat.eq_of_beq_eq_true hb
          subst this
          simp only [hb, cond_true] at hm
          simp only [Ex.out, Exit.inBlock, if_true]
          exact ⟨_, hm, rfl, ρ', k1, k2⟩
    · simp at he
  | loop body ih =>
    intro tm h rs he B ρ a w hs
    exact wp_loop_rounds fuel (loopL_sound ih fuel tm h rs he B ρ a w hs)
  | rangeFunc f ps x y ihx ihy => intro tm h rs he; simp [codeL] at he
  | exit id =>
    intro tm h rs he B ρ a w hs
    simp only [codeL, Option.some.injEq] at he
    subst he
    exact wp_exit ⟨(Ex.exit id, tm, h), by simp, rfl, ρ, hs, Way.refl hs.hr hs.fresh⟩
  | scope body ih => intro tm h rs he; simp [codeL] at he
  | label l =>
    intro tm h rs he B ρ a w hs
    simp only [codeL, Option.some.injEq] at he
    subst he
    exact wp_label ⟨(Ex.normal, tm, h), by simp, rfl, ρ, hs, Way.refl hs.hr hs.fresh⟩
  | goto l => intro tm h rs he; simp [codeL] at he
  | ret =>
    intro tm h rs he B ρ a w hs
    simp only [codeL, Option.some.injEq] at he
    subst he
    exact wp_ret ⟨(Ex.ret, tm, h), by simp, rfl, ρ, hs, Way.refl hs.hr hs.fresh⟩
  | refuse why => intro tm h rs he; simp [codeL] at he
end
end Go.Proofs.YtjkahbgkfenfcaaGreatDoor.Ev

namespace Go.Proofs.YtjkahbgkfenfcaaGreatDoor.Ev
noncomputable section

/-! ### A part of a heap -/
def refA : AV → List Nat
  | .ptr a _ => [a]
  | .sl a _ _ _ _ => [a]
  | .map a => [a]
  | _ => []
def refO : AO → List Nat
  | .row cells len _ => match getList cells 0 len with
    | some l => l.flatMap refA
    | none => []
  | _ => []
def refsH (h : H) (ks : List Nat) : List Nat := ks.flatMap fun k => match h.t.get k with
  | some o => refO o
  | none => []
def keysH (h : H) (args : List AV) : List Nat := [0, 1, 2, 3, 4, 5, 6, 7] ++ args.flatMap refA ++ refsH h (args.flatMap refA)
def partH (h : H) : List Nat → T AO
  | [] => .e
  | k :: l => match h.t.get k with
    | some o => (partH h l).set k o
    | none => partH h l
theorem partH_get (h : H) : ∀ (ks : List Nat) (a : Nat), (partH h ks).get a = if a ∈ ks then h.t.get a else none
  | [], a => by simp [partH, T.get_e]
  | k :: l, a => by
    unfold partH
    split
    · rename_i o ho
      rw [T.get_set, partH_get h l a]
      by_cases e : a = k
      · subst e; simp [ho]
      · simp [e]
    · rename_i ho
      rw [partH_get h l a]
      by_cases e : a = k
      · subst e; simp [ho]
      · simp [e]
theorem partH_some {h : H} {ks : List Nat} {a : Nat} {o : AO} (hg : (partH h ks).get a = some o) : a ∈ ks ∧ h.t.get a = some o := by
  rw [partH_get] at hg
  by_cases e : a ∈ ks
  · rw [if_pos e] at hg; exact ⟨e, hg⟩
  · rw [if_neg e] at hg; simp at hg
theorem partH_rel {ρ : Rho} {h : H} {w : World} (hr : HR ρ h.t.get w) (ks : List Nat) : HR ρ (partH h ks).get w :=
  ⟨fun a o l h1 h2 h3 => hr.obj a o l (partH_some h1).2 h2 h3, fun a b o p l m h1 h2 h3 h4 => hr.inj a b o p l m (partH_some h1).2 h2 (partH_some h3).2 h4⟩

/-! ### What is the same -/
def rowIs (l : List AV) (len : Nat) (e : TypeId) : AO → Bool
  | .row c' len' e' => Nat.beq len len' && Nat.beq e e' && (match getList c' 0 len with
    | some l' => eqAV.eqAVs (eqAV 4) l l'
    | none => false)
  | _ => false
theorem rowIs_eq {l : List AV} {len : Nat} {e : TypeId} {o : AO} (h : rowIs l len e o = true) : ∃ c', o = .row c' len e ∧ getList c' 0 len = some l := by
  unfold rowIs at h
  split at h
  · rename_i c' len' e'
    simp only [Bool.and_eq_true] at h
    obtain ⟨⟨h1, h2⟩, h3⟩ := h
    have h1 := Nat.eq_of_beq_eq_true h1
    have h2 := Nat.eq_of_beq_eq_true h2
    subst h1 h2
    split at h3
    · rename_i l' hl'
      have := eqAVs_sound (eqAV_sound 4) h3
      subst this
      exact ⟨c', rfl, hl'⟩
    · simp at h3
  · simp at h
def eqEs : List (AV × AV × Nat) → List (AV × AV × Nat) → Bool
  | [], [] => true
  | x :: l, y :: m => eqAV 4 x.1 y.1 && eqAV 4 x.2.1 y.2.1 && Nat.beq x.2.2 y.2.2 && eqEs l m
  | _, _ => false
theorem eqEs_sound : ∀ {l m : List (AV × AV × Nat)}, eqEs l m = true → l = m
  | [], [], _ => rfl
  | x :: l, y :: m, h => by
    simp only [eqEs, Bool.and_eq_true] at h
    obtain ⟨⟨⟨h1, h2⟩, h3⟩, h4⟩ := h
    obtain ⟨x1, x2, x3⟩ := x
    obtain ⟨y1, y2, y3⟩ := y
    have e1 := eqAV_sound _ _ _ h1
    have e2 := eqAV_sound _ _ _ h2
    have e3 := Nat.eq_of_beq_eq_true h3
    simp only at e1 e2 e3
    rw [e1, e2, e3, eqEs_sound h4]
  | [], _ :: _, h => by simp [eqEs] at h
  | _ :: _, [], h => by simp [eqEs] at h
/-- an old object that stands as it stood -/
def sameO : AO → AO → Bool
  | .row c len e, o' => match getList c 0 len with
    | some l => rowIs l len e o'
    | none => false
  | .map es k, .map es' k' => Nat.beq k k' && eqEs es es'
  | _, _ => false
theorem sameO_sound {o o' : AO} (h : sameO o o' = true) {ρ ρ' : Rho} {w w' : World} {l l0 : Loc} (hin : OIn ρ w l0 o) (hi : OIn ρ' w' l o') : o'.mut = true ∧ OIn ρ' w' l o := by
  cases o with
  | row c len e =>
    simp only [sameO] at h
    split at h
    · rename_i vs hvs
      obtain ⟨c', rfl, hc'⟩ := rowIs_eq h
      refine ⟨rfl, ?_⟩
      obtain ⟨_, cc0, _, _, hb⟩ := hin
      obtain ⟨h1, cc, h2, h3, h4⟩ := hi
      refine ⟨h1, cc, h2, h3, fun i v hv => ?_⟩
      have hlt := (hb i v hv).1
      have e1 := (getList_spec c len 0 vs hvs).2 i hlt
      have e2 := (getList_spec c' len 0 vs hc').2 i hlt
      rw [Nat.zero_add] at e1 e2
      exact h4 i v (by rw [e2, ← e1, hv])
    · simp at h
  | map es k =>
    cases o' with
    | map es' k' =>
      simp only [sameO, Bool.and_eq_true] at h
      have h1 := Nat.eq_of_beq_eq_true h.1
      have h2 := eqEs_sound h.2
      subst h1 h2
      exact ⟨rfl, hi⟩
    | _ => simp [sameO] at h
  | _ => simp [sameO] at h
/-- a new object that is the same in every way -/
def keepO (o : Option AO) (os : List (Option AO)) : AO := match o with
  | some (.row c len e) => match getList c 0 len with
    | some l => cond (os.all fun x => match x with
      | some o' => rowIs l len e o'
      | none => false) (.row (putList 0 l .e) len e) .dead
    | none => .dead
  | _ => .dead
theorem keepO_sound {o : Option AO} {os : List (Option AO)} : keepO o os = .dead ∨ (keepO o os).mut = true ∧ ∀ x ∈ os, ∃ o', x = some o' ∧ o'.mut = true ∧ ∀ ρ w l, OIn ρ w l o' → OIn ρ w l (keepO o os) := by
  unfold keepO
  split
  · rename_i c len e
    split
    · rename_i vs hvs
      cases hall : os.all fun x => match x with
        | some o' => rowIs vs len e o'
        | none => false with
      | false => left; rfl
      | true =>
        right
        refine ⟨rfl, fun x hx => ?_⟩
        have := List.all_eq_true.1 hall x hx
        cases x with
        | none => simp at this
        | some o' =>
          obtain ⟨c', rfl, hc'⟩ := rowIs_eq this
          refine ⟨_, rfl, rfl, fun ρ w l hi => ?_⟩
          obtain ⟨h1, cc, h2, h3, h4⟩ := hi
          refine ⟨h1, cc, h2, h3, fun i v hv => ?_⟩
          obtain ⟨e1, e2⟩ := getList_spec c' len 0 vs hc'
          rw [putList_get] at hv
          by_cases hh : 0 ≤ i ∧ i < 0 + vs.length
          · rw [if_pos hh] at hv
            have hlt : i < len := by omega
            have e3 := e2 i hlt
            rw [Nat.zero_add] at e3
            exact h4 i v (by rw [e3]; simpa using hv)
          · rw [if_neg hh, T.get_e] at hv; simp at hv
    · left; rfl
  · left; rfl

/-! ### The ways come together -/
def joinT (h1 : H) (hs : List H) : Nat → Nat → T AO → T AO
  | 0, _, t => t
  | n + 1, i, t => joinT h1 hs n (i + 1) (t.set i (keepO (h1.t.get i) (hs.map fun h => h.t.get i)))
theorem joinT_get (h1 : H) (hs : List H) : ∀ (n i : Nat) (t : T AO) (a : Nat), (joinT h1 hs n i t).get a = if i ≤ a ∧ a < i + n then some (keepO (h1.t.get a) (hs.map fun h => h.t.get a)) else t.get a
  | 0, i, t, a => by simp [joinT]; omega
  | n + 1, i, t, a => by
    rw [joinT, joinT_get h1 hs n (i + 1), T.get_set]
    by_cases h1 : i + 1 ≤ a ∧ a < i + 1 + n
    · rw [if_pos h1, if_pos (by omega)]
    · rw [if_neg h1]
      by_cases h2 : a = i
      · subst h2
        rw [if_pos rfl, if_pos (by omega)]
      · rw [if_neg h2, if_neg (by omega)]
def stays (h : H) (ks : List Nat) (h' : H) : Bool := ks.all fun k => match h.t.get k with
  | some o => cond o.mut (match h'.t.get k with
    | some o' => sameO o o'
    | none => false) true
  | none => true
theorem join_way {ρ ρ' : Rho} {h h1 q : H} {hs : List H} {ks : List Nat} {w w' : World} (hr : HR ρ h.t.get w) (hf : Fresh ρ h.next) (hq : q ∈ hs) (hst : stays h ks q = true) (hw : Way ρ ⟨h.next, partH h ks⟩ w ρ' q w') :
    Way ρ h w ρ' ⟨q.next, joinT h1 hs (Nat.sub q.next h.next) h.next h.t⟩ w' := by
  obtain ⟨J, hJ⟩ : ∃ J, J = joinT h1 hs (Nat.sub q.next h.next) h.next h.t := ⟨_, rfl⟩
  rw [← hJ]
  have hle : h.next ≤ q.next := hw.kp.1
  have hget : ∀ a, J.get a = if h.next ≤ a ∧ a < q.next then some (keepO (h1.t.get a) (hs.map fun h => h.t.get a)) else h.t.get a := by
    intro a
    rw [hJ, joinT_get]
    have : h.next + Nat.sub q.next h.next = q.next := by
      show h.next + (q.next - h.next) = q.next
      omega
    rw [this]
  -- new objects
  have hnew : ∀ a o, h.next ≤ a ∧ a < q.next → J.get a = some o → o.live = true → o.mut = true ∧ ∃ o', q.t.get a = some o' ∧ o'.mut = true ∧ ∀ ρ w l, OIn ρ w l o' → OIn ρ w l o := by
    intro a o ha hg hlive
    rw [hget, if_pos ha] at hg
    simp only [Option.some.injEq] at hg
    rcases keepO_sound (o := h1.t.get a) (os := hs.map fun h => h.t.get a) with hd | ⟨hm, hx⟩
    · rw [hd] at hg; subst hg; simp [AO.live] at hlive
    · obtain ⟨o', k1, k2, k3⟩ := hx (q.t.get a) (List.mem_map.2 ⟨q, hq, rfl⟩)
      rw [hg] at hm k3
      exact ⟨hm, o', k1, k2, k3⟩
  -- old numbers
  have hold : ∀ a l, ¬ (h.next ≤ a ∧ a < q.next) → ρ' a = some l → ρ a = some l ∧ a < h.next := by
    intro a l ha hl
    have h1 : a < q.next := by
      rcases Nat.lt_or_ge a q.next with hlt | hge
      · exact hlt
      · have := hw.fresh a hge
        rw [hl] at this; simp at this
    have h2 : a < h.next := by omega
    refine ⟨?_, h2⟩
    cases hra : ρ a with
    | none =>
      have := (hw.kp.2 a h2 hra).1
      rw [hl] at this; simp at this
    | some l0 =>
      have := hw.nx.le a l0 hra
      rw [hl] at this
      exact this.symm
  have holdget : ∀ a o, ¬ (h.next ≤ a ∧ a < q.next) → J.get a = some o → h.t.get a = some o := by
    intro a o ha hg
    rw [hget, if_neg ha] at hg
    exact hg
  -- an old object stands in q or lies aside
  have hins : ∀ a o l, h.t.get a = some o → o.mut = true → ρ a = some l → a ∈ ks → ∃ o', q.t.get a = some o' ∧ o'.live = true ∧ sameO o o' = true := by
    intro a o l hg hm hl ha
    have := List.all_eq_true.1 hst a ha
    rw [hg] at this
    simp only [hm, cond_true] at this
    cases hq2 : q.t.get a with
    | none => rw [hq2] at this; simp at this
    | some o' =>
      rw [hq2] at this
      refine ⟨o', rfl, ?_, this⟩
      cases o <;> cases o' <;> first
        | rfl
        | (simp [sameO, rowIs] at this; done)
        | (simp only [sameO, rowIs] at this; split at this <;> simp at this)
  have hobj : ∀ a o l, J.get a = some o → o.live = true → ρ' a = some l → l.blk < w'.heap.size ∧ OIn ρ' w' l o := by
    intro a o l hg hlive hl
    by_cases ha : h.next ≤ a ∧ a < q.next
    · obtain ⟨_, o', k1, k2, k3⟩ := hnew a o ha hg hlive
      obtain ⟨j1, j2⟩ := hw.nx.rel.obj a o' l k1 (AO.live_of_mut k2) hl
      exact ⟨j1, k3 _ _ _ j2⟩
    · obtain ⟨hl0, hlt⟩ := hold a l ha hl
      have hg0 := holdget a o ha hg
      obtain ⟨j1, j2⟩ := hr.obj a o l hg0 hlive hl0
      by_cases hk : a ∈ ks ∧ o.mut = true
      · obtain ⟨o', m1, m2, m3⟩ := hins a o l hg0 hk.2 hl0 hk.1
        obtain ⟨i1, i2⟩ := hw.nx.rel.obj a o' l m1 m2 hl
        exact ⟨i1, (sameO_sound m3 j2 i2).2⟩
      · refine ⟨Nat.lt_of_lt_of_le j1 hw.nx.size, OIn.mono hw.nx.le (OIn.congr (hw.nx.frame l.blk j1 fun b p m p1 p2 p3 e => ?_) j2)⟩
        obtain ⟨q1, q2⟩ := partH_some (h := h) (ks := ks) p1
        have hab := hr.inj a b o p l m hg0 hlive q2 (AO.live_of_mut p2) hl0 p3 e.symm
        subst hab
        rw [hg0] at q2
        simp only [Option.some.injEq] at q2
        subst q2
        exact hk ⟨q1, p2⟩
  have mixed : ∀ a b o p l m, h.next ≤ a ∧ a < q.next → ¬ (h.next ≤ b ∧ b < q.next) → J.get a = some o → o.live = true → J.get b = some p → p.live = true → ρ' a = some l → ρ' b = some m → l.blk = m.blk → False := by
    intro a b o p l m ha hb hg hlive hgb hliveb hl hm e
    obtain ⟨_, o', k1, k2, _⟩ := hnew a o ha hg hlive
    obtain ⟨hm0, hblt⟩ := hold b m hb hm
    have hgb0 := holdget b p hb hgb
    have hmlt := (hr.obj b p m hgb0 hliveb hm0).1
    obtain ⟨c, x, y, c1, c2, c3, c4⟩ := hw.nx.back a o' l k1 k2 hl (by rw [e]; exact hmlt)
    obtain ⟨c5, c6⟩ := partH_some (h := h) (ks := ks) c1
    obtain ⟨x', x1, x2, _⟩ := hins c x y c6 c2 c3 c5
    have hca := hw.nx.rel.inj c a x' o' y l x1 x2 k1 (AO.live_of_mut k2) (hw.nx.le _ _ c3) hl c4
    subst hca
    have := hf c ha.1
    rw [c3] at this; simp at this
  refine ⟨⟨⟨hobj, ?_⟩, hw.nx.le, hw.nx.env, hw.nx.size, ?_, ?_⟩, hw.fresh, ⟨hle, fun a ha hra => ⟨(hw.kp.2 a ha hra).1, ?_⟩⟩⟩
  · intro a b o p l m h1 h2 h3 h4 h5 h6 h7
    by_cases ha : h.next ≤ a ∧ a < q.next
    · by_cases hb : h.next ≤ b ∧ b < q.next
      · obtain ⟨_, o', k1, k2, _⟩ := hnew a o ha h1 h2
        obtain ⟨_, p', j1, j2, _⟩ := hnew b p hb h3 h4
        exact hw.nx.rel.inj a b o' p' l m k1 (AO.live_of_mut k2) j1 (AO.live_of_mut j2) h5 h6 h7
      · exact (mixed a b o p l m ha hb h1 h2 h3 h4 h5 h6 h7).elim
    · by_cases hb : h.next ≤ b ∧ b < q.next
      · exact (mixed b a p o m l hb ha h3 h4 h1 h2 h6 h5 h7.symm).elim
      · exact hr.inj a b o p l m (holdget a o ha h1) h2 (holdget b p hb h3) h4 (hold a l ha h5).1 (hold b m hb h6).1 h7
  · intro r hlt hn
    exact hw.nx.frame r hlt fun a o l k1 k2 k3 => hn a o l (partH_some (h := h) (ks := ks) k1).2 k2 k3
  · intro a o l h1 h2 h3 h4
    by_cases ha : h.next ≤ a ∧ a < q.next
    · obtain ⟨_, o', k1, k2, _⟩ := hnew a o ha h1 (AO.live_of_mut h2)
      obtain ⟨b, p, m, b1, b2, b3, b4⟩ := hw.nx.back a o' l k1 k2 h3 h4
      exact ⟨b, p, m, (partH_some (h := h) (ks := ks) b1).2, b2, b3, b4⟩
    · exact ⟨a, o, l, holdget a o ha h1, h2, (hold a l ha h3).1, rfl⟩
  · show J.get a = h.t.get a
    rw [hget, if_neg (by omega)]
end
end Go.Proofs.YtjkahbgkfenfcaaGreatDoor.Ev
