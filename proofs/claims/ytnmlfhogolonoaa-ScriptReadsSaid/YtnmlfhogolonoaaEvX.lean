/-
  An evaluator of Go code over relative heaps, part X: what the evaluation of a region tells.
-/
import Derived.Test.YtnmlfhogolonoaaEvR
set_option linter.unusedVariables false
set_option linter.unusedSimpArgs false
namespace Go.Proofs.Ytnmlfhogolonoaa.Ev
noncomputable section

/-- more records -/
def Sub (F F' : T Rec) : Prop := ∀ i r, F.get i = some r → F'.get i = some r
theorem Sub.refl (F : T Rec) : Sub F F := fun _ _ h => h
theorem Sub.trans {F F' F'' : T Rec} (h : Sub F F') (h' : Sub F' F'') : Sub F F'' := fun i r e => h' i r (h i r e)
theorem Sub.set {F : T Rec} {i : Nat} {r : Rec} (h : F.get i = none) : Sub F (F.set i r) := fun j s e => by
  rw [T.get_set, if_neg]
  · exact e
  · rintro rfl; rw [h] at e; simp at e
theorem mkTm_mono {tm0 : T AV} {F F' : T Rec} (h : Sub F F') : ∀ {lk : List (Nat × Option Nat)} {tm : T AV}, mkTm tm0 F lk = some tm → mkTm tm0 F' lk = some tm
  | [], tm, e => e
  | (t, none) :: l, tm, e => by
    unfold mkTm at e ⊢
    split at e
    · rename_i tm' h1
      rw [mkTm_mono h h1]
      exact e
    · simp at e
  | (t, some j) :: l, tm, e => by
    unfold mkTm at e ⊢
    split at e
    · rename_i tm' h1
      rw [mkTm_mono h h1]
      simp only []
      split at e
      · rename_i r hr
        rw [h _ _ hr]
        exact e
      · simp at e
    · simp at e
theorem localTm_mono {ops : List Oper} {m : T Nat} {N : Nat} {tm0 : T AV} {F F' : T Rec} (h : Sub F F') {i : Nat} {o : Oper} {tm : T AV} (e : localTm ops m N tm0 F i o = some tm) : localTm ops m N tm0 F' i o = some tm := by
  unfold localTm at e ⊢
  split at e
  · split at e
    · rename_i hd lk hl
      exact mkTm_mono h e
    · simp at e
  · simp at e
theorem opQ_mono {P : Program} {ops : List Oper} {m : T Nat} {N : Nat} {tm0 : T AV} {ph : Nat} {F F' : T Rec} (h : Sub F F') {hp : H} {i : Nat} {o : Oper} {x : Rec × H} (e : opQ P ops m N tm0 ph F hp i o = some x) : opQ P ops m N tm0 ph F' hp i o = some x := by
  unfold opQ at e ⊢
  split at e
  · rename_i tm ht
    rw [localTm_mono h ht]
    exact e
  · simp at e
theorem opF_mono {P : Program} {call : CallE} {ops : List Oper} {m : T Nat} {N : Nat} {tm0 : T AV} {F F' : T Rec} (h : Sub F F') {hp : H} {i : Nat} {o : Oper} {x : AV × H} (e : opF P call ops m N tm0 F hp i o = some x) : opF P call ops m N tm0 F' hp i o = some x := by
  unfold opF at e ⊢
  split at e
  · rename_i tm ht
    rw [localTm_mono h ht]
    exact e
  · simp at e

/-- what an operation that is no effect does to the heap -/
theorem opQ_heap {P : Program} {ops : List Oper} {m : T Nat} {N : Nat} {tm0 : T AV} {ph : Nat} {F : T Rec} {h h' : H} {i : Nat} {o : Oper} {r : Rec} (e : opQ P ops m N tm0 ph F h i o = some (r, h')) :
    (∀ v, r ≠ .eff v) ∧ ((h' = h ∧ ∀ v a ao p, r ≠ .alloc v a ao p) ∨ ∃ v ao, r = .alloc v h.next ao ph ∧ h' = ⟨h.next + 1, h.t.set h.next ao⟩) := by
  unfold opQ at e
  split at e
  · split at e
    · simp at e; obtain ⟨rfl, rfl⟩ := e; simp
    · split at e
      all_goals first
        | (split at e
           · first
             | (simp at e; obtain ⟨rfl, rfl⟩ := e; simp; done)
             | (simp only [Option.some.injEq, Prod.mk.injEq] at e; obtain ⟨rfl, rfl⟩ := e
                exact ⟨by simp, .inr ⟨_, _, rfl, rfl⟩⟩)
           · simp at e)
        | (simp at e; done)
    · simp at e
  · simp at e

/-- what a phase tells; F: the records of the whole region -/
structure PhF (P : Program) (ops : List Oper) (m : T Nat) (N : Nat) (tm0 : T AV) (ph : Nat) (F : T Rec) (h h1 : H) : Prop where
  next : h.next ≤ h1.next
  old : ∀ b, b < h.next → h1.t.get b = h.t.get b
  at_ : ∀ i v a ao, F.get i = some (.alloc v a ao ph) → h.next ≤ a ∧ a < h1.next ∧ h1.t.get a = some ao

/-- an operation's record is what its evaluation gives -/
def QF (P : Program) (ops : List Oper) (m : T Nat) (N : Nat) (tm0 : T AV) (F : T Rec) (i : Nat) (r : Rec) : Prop :=
  ∃ o ph h h', ops[i]? = some o ∧ opQ P ops m N tm0 ph F h i o = some (r, h')

theorem phE_sound {P : Program} {ops : List Oper} {m : T Nat} {N : Nat} {tm0 : T AV} {ph : Nat} : ∀ {ids : List Nat} {F F1 : T Rec} {h h1 : H}, phE P ops m N tm0 ph ids F h = some (F1, h1) →
    Sub F F1 ∧ h.next ≤ h1.next ∧ (∀ b, b < h.next → h1.t.get b = h.t.get b) ∧
    (∀ i r, F1.get i = some r → F.get i = some r ∨ (QF P ops m N tm0 F1 i r ∧ ∀ v a ao p, r = .alloc v a ao p → p = ph ∧ h.next ≤ a ∧ a < h1.next ∧ h1.t.get a = some ao)) ∧
    (∀ i j v a ao p v' ao' p', F.get i = none → F1.get i = some (.alloc v a ao p) → F.get j = none → F1.get j = some (.alloc v' a ao' p') → i = j)
  | [], F, F1, h, h1, e => by
    simp [phE] at e; obtain ⟨rfl, rfl⟩ := e
    exact ⟨Sub.refl _, Nat.le_refl _, fun _ _ => rfl, fun i r hr => .inl hr, fun i j v a ao p v' ao' p' h1 h2 => by rw [h1] at h2; simp at h2⟩
  | i :: l, F, F1, h, h1, e => by
    unfold phE at e
    split at e
    · rename_i o ho hF
      split at e
      · rename_i r h2 hq
        obtain ⟨k1, k2, k3, k4, k5⟩ := phE_sound e
        have hsub : Sub F (F.set i r) := Sub.set hF
        obtain ⟨q1, q2⟩ := opQ_heap hq
        have hn : h.next ≤ h2.next := by
          rcases q2 with ⟨rfl, _⟩ | ⟨v, ao, _, rfl⟩
          · exact Nat.le_refl _
          · exact Nat.le_succ _
        have hold : ∀ b, b < h.next → h2.t.get b = h.t.get b := by
          intro b hb
          rcases q2 with ⟨rfl, _⟩ | ⟨v, ao, _, rfl⟩
          · rfl
          · show (h.t.set h.next ao).get b = _
            rw [T.get_set, if_neg (by omega)]
        have hi1 : F1.get i = some r := k1 i r (by rw [T.get_set, if_pos rfl])
        have hia : ∀ v a ao p, r = .alloc v a ao p → p = ph ∧ a = h.next ∧ h2.next = h.next + 1 ∧ h2.t.get a = some ao := by
          intro v a ao p hr
          rcases q2 with ⟨_, hne⟩ | ⟨v', ao', hr', rfl⟩
          · exact absurd hr (hne v a ao p)
          · rw [hr'] at hr; simp at hr
            obtain ⟨_, rfl, rfl, rfl⟩ := hr
            exact ⟨rfl, rfl, rfl, by show (h.t.set h.next ao').get h.next = _; rw [T.get_set, if_pos rfl]⟩
        refine ⟨hsub.trans k1, Nat.le_trans hn k2, fun b hb => by rw [k3 b (by omega), hold b hb], ?_, ?_⟩
        · intro j s hj
          rcases k4 j s hj with hh | ⟨hh1, hh2⟩
          · rw [T.get_set] at hh
            by_cases e : j = i
            · subst e
              rw [if_pos rfl] at hh; simp at hh; subst hh
              refine .inr ⟨⟨o, ph, h, h2, ho, opQ_mono (hsub.trans k1) hq⟩, fun v a ao p hr => ?_⟩
              obtain ⟨r1, rfl, r3, r4⟩ := hia v a ao p hr
              exact ⟨r1, Nat.le_refl _, by omega, by rw [k3 _ (by omega)]; exact r4⟩
            · rw [if_neg e] at hh; exact .inl hh
          · exact .inr ⟨hh1, fun v a ao p hr => by
              obtain ⟨r1, r2, r3, r4⟩ := hh2 v a ao p hr
              exact ⟨r1, by omega, r3, r4⟩⟩
        · have far : ∀ j v a ao p, j ≠ i → F.get j = none → F1.get j = some (.alloc v a ao p) → h2.next ≤ a := by
            intro j v a ao p hji hj hj1
            rcases k4 j _ hj1 with hh | ⟨_, hh⟩
            · rw [T.get_set, if_neg hji, hj] at hh; simp at hh
            · exact (hh v a ao p rfl).2.1
          have near : ∀ v a ao p, F1.get i = some (.alloc v a ao p) → a < h2.next := by
            intro v a ao p hh
            rw [hi1] at hh; simp at hh
            obtain ⟨_, rfl, r3, _⟩ := hia v a ao p hh
            omega
          intro j k v a ao p v' ao' p' hj hj1 hk hk1
          by_cases ej : j = i
          · by_cases ek : k = i
            · rw [ej, ek]
            · subst ej
              have := near _ _ _ _ hj1
              have := far k _ _ _ _ ek hk hk1
              omega
          · by_cases ek : k = i
            · subst ek
              have := near _ _ _ _ hk1
              have := far j _ _ _ _ ej hj hj1
              omega
            · exact k5 j k v a ao p v' ao' p' (by rw [T.get_set, if_neg ej]; exact hj) hj1 (by rw [T.get_set, if_neg ek]; exact hk) hk1
      · simp at e
    · simp at e

/-- what is made in this phase or later has a number that was free at its beginning -/
def LowP (F : T Rec) (ph : Nat) (h : H) : Prop := ∀ i v a ao p, F.get i = some (.alloc v a ao p) → ph ≤ p → h.next ≤ a
def CertP (P : Program) (call : CallE) (ops : List Oper) (m : T Nat) (N : Nat) (tm0 : T AV) (F : T Rec) : Nat → List (List Nat × Option Nat) → H → List H → Prop
  | _, [], _, _ => False
  | ph, (_, none) :: _, h, hs => LowP F ph h ∧ ∃ h1, hs = [h1] ∧ PhF P ops m N tm0 ph F h h1
  | ph, (_, some e) :: rest, h, hs => LowP F ph h ∧ ∃ h1 hs' v h2 o, hs = h1 :: hs' ∧ PhF P ops m N tm0 ph F h h1 ∧ ops[e]? = some o ∧ F.get e = some (.eff v) ∧ opF P call ops m N tm0 F h1 e o = some (v, h2) ∧ h1.next ≤ h2.next ∧
      CertP P call ops m N tm0 F (ph + 1) rest h2 hs'

theorem QF.mono {P : Program} {ops : List Oper} {m : T Nat} {N : Nat} {tm0 : T AV} {F F' : T Rec} (hs : Sub F F') {i : Nat} {r : Rec} (h : QF P ops m N tm0 F i r) : QF P ops m N tm0 F' i r := by
  obtain ⟨o, ph, h1, h2, k1, k2⟩ := h
  exact ⟨o, ph, h1, h2, k1, opQ_mono hs k2⟩

theorem drE_sound {P : Program} {call : CallE} {ops : List Oper} {m : T Nat} {N : Nat} {tm0 : T AV} : ∀ {l : List (List Nat × Option Nat)} {ph : Nat} {F0 F : T Rec} {h : H} {hs : List H}, drE P call ops m N tm0 ph l F0 h = some (F, hs) →
    (∀ i v a ao p, F0.get i = some (.alloc v a ao p) → p < ph) →
    Sub F0 F ∧ CertP P call ops m N tm0 F ph l h hs ∧
    (∀ i r, F.get i = some r → F0.get i = some r ∨ (∃ v, r = .eff v) ∨ QF P ops m N tm0 F i r) ∧
    (∀ i v a ao p, F.get i = some (.alloc v a ao p) → F0.get i = some (.alloc v a ao p) ∨ (ph ≤ p ∧ h.next ≤ a)) ∧
    (∀ i j v a ao p v' ao' p', F0.get i = none → F.get i = some (.alloc v a ao p) → F0.get j = none → F.get j = some (.alloc v' a ao' p') → i = j)
  | [], ph, F0, F, h, hs, e, _ => by simp [drE] at e
  | (ids, none) :: l, ph, F0, F, h, hs, e, htag => by
    unfold drE at e
    split at e
    · rename_i F1 h1 hp
      simp at e; obtain ⟨rfl, rfl⟩ := e
      obtain ⟨k1, k2, k3, k4, k5⟩ := phE_sound hp
      refine ⟨k1, ⟨fun i v a ao p hi hp => ?_, h1, rfl, ⟨k2, k3, fun i v a ao hi => ?_⟩⟩, fun i r hi => ?_, fun i v a ao p hi => ?_, k5⟩
      · rcases k4 i _ hi with hh | ⟨_, hh⟩
        · have := htag _ _ _ _ _ hh; omega
        · exact (hh v a ao p rfl).2.1
      · rcases k4 i _ hi with hh | ⟨_, hh⟩
        · exact absurd (htag _ _ _ _ _ hh) (Nat.lt_irrefl _)
        · exact (hh v a ao ph rfl).2
      · rcases k4 i _ hi with hh | ⟨hh, _⟩
        · exact .inl hh
        · exact .inr (.inr hh)
      · rcases k4 i _ hi with hh | ⟨_, hh⟩
        · exact .inl hh
        · obtain ⟨rfl, r2, _⟩ := hh v a ao p rfl
          exact .inr ⟨Nat.le_refl _, r2⟩
    · simp at e
  | (ids, some x) :: l, ph, F0, F, h, hs, e, htag => by
    unfold drE at e
    split at e
    · rename_i F1 h1 hp
      split at e
      · rename_i o ho hFx
        split at e
        · rename_i v h2 hv
          split at e
          · rename_i hle
            have hle := Nat.le_of_ble_eq_true hle
            split at e
            · rename_i F' hs' hd
              simp at e; obtain ⟨rfl, rfl⟩ := e
              obtain ⟨k1, k2, k3, k4, k5⟩ := phE_sound hp
              have hset : Sub F1 (F1.set x (.eff v)) := Sub.set hFx
              have htag' : ∀ i v' a ao p, (F1.set x (.eff v)).get i = some (.alloc v' a ao p) → p < ph + 1 := by
                intro i v' a ao p hi
                rw [T.get_set] at hi
                by_cases e : i = x
                · rw [if_pos e] at hi; simp at hi
                · rw [if_neg e] at hi
                  rcases k4 i _ hi with hh | ⟨_, hh⟩
                  · have := htag _ _ _ _ _ hh; omega
                  · have := (hh v' a ao p rfl).1; omega
              obtain ⟨j1, j2, j3, j4, j5⟩ := drE_sound hd htag'
              have hsub : Sub F1 F' := hset.trans j1
              -- where an allocation of the end was made
              have back : ∀ i v' a ao p, F'.get i = some (.alloc v' a ao p) → F1.get i = some (.alloc v' a ao p) ∨ (ph + 1 ≤ p ∧ h2.next ≤ a) := by
                intro i v' a ao p hi
                rcases j4 i _ _ _ _ hi with hh | hh
                · rw [T.get_set] at hh
                  by_cases e : i = x
                  · rw [if_pos e] at hh; simp at hh
                  · rw [if_neg e] at hh; exact .inl hh
                · exact .inr hh
              refine ⟨k1.trans hsub, ⟨fun i v' a ao p hi hp => ?_, h1, hs', v, h2, o, rfl, ⟨k2, k3, fun i v' a ao hi => ?_⟩, ho, j1 _ _ (by rw [T.get_set, if_pos rfl]), opF_mono hsub hv, hle, j2⟩, fun i r hi => ?_, fun i v' a ao p hi => ?_, ?_⟩
              · rcases back i _ _ _ _ hi with hh | hh
                · rcases k4 i _ hh with hh | ⟨_, hh⟩
                  · have := htag _ _ _ _ _ hh; omega
                  · exact (hh v' a ao p rfl).2.1
                · omega
              · rcases back i _ _ _ _ hi with hh | hh
                · rcases k4 i _ hh with hh | ⟨_, hh⟩
                  · exact absurd (htag _ _ _ _ _ hh) (Nat.lt_irrefl _)
                  · exact (hh v' a ao ph rfl).2
                · omega
              · rcases j3 i r hi with hh | hh | hh
                · rw [T.get_set] at hh
                  by_cases e : i = x
                  · rw [if_pos e] at hh; simp at hh; exact .inr (.inl ⟨v, hh.symm⟩)
                  · rw [if_neg e] at hh
                    rcases k4 i r hh with hh | ⟨hh, _⟩
                    · exact .inl hh
                    · exact .inr (.inr (hh.mono hsub))
                · exact .inr (.inl hh)
                · exact .inr (.inr hh)
              · rcases back i _ _ _ _ hi with hh | ⟨hh, hh2⟩
                · rcases k4 i _ hh with hh | ⟨_, hh⟩
                  · exact .inl hh
                  · obtain ⟨rfl, r2, _⟩ := hh v' a ao p rfl
                    exact .inr ⟨Nat.le_refl _, r2⟩
                · exact .inr ⟨by omega, by omega⟩
              · intro i j v1 a ao p v2 ao' p' hi0 hi hj0 hj
                have lo : ∀ i v' ao p, F0.get i = none → F1.get i = some (.alloc v' a ao p) → a < h1.next := by
                  intro i v' ao p h0 hh
                  rcases k4 i _ hh with hh | ⟨_, hh⟩
                  · rw [h0] at hh; simp at hh
                  · exact (hh v' a ao p rfl).2.2.1
                have none1 : ∀ i v' ao p, F'.get i = some (.alloc v' a ao p) → F1.get i = some (.alloc v' a ao p) ∨ (F1.set x (.eff v)).get i = none := by
                  intro i v' ao p hh
                  cases hg : (F1.set x (.eff v)).get i with
                  | none => exact .inr rfl
                  | some s =>
                    have := j1 _ _ hg
                    rw [hh] at this; simp at this; subst this
                    rw [T.get_set] at hg
                    by_cases e : i = x
                    · rw [if_pos e] at hg; simp at hg
                    · rw [if_neg e] at hg; exact .inl hg
                rcases back i _ _ _ _ hi with bi | ⟨_, bi⟩
                · rcases back j _ _ _ _ hj with bj | ⟨_, bj⟩
                  · exact k5 i j _ _ _ _ _ _ _ hi0 bi hj0 bj
                  · have := lo i _ _ _ hi0 bi; omega
                · rcases back j _ _ _ _ hj with bj | ⟨_, bj⟩
                  · have := lo j _ _ _ hj0 bj; omega
                  · have n1 : ∀ i v' ao p, F0.get i = none → F'.get i = some (.alloc v' a ao p) → (F1.set x (.eff v)).get i = none := by
                      intro i v' ao p h0 hh
                      rcases none1 i v' ao p hh with hh1 | hh1
                      · have := lo i _ _ _ h0 hh1; omega
                      · exact hh1
                    exact j5 i j _ _ _ _ _ _ _ (n1 i _ _ _ hi0 hi) hi (n1 j _ _ _ hj0 hj) hj
            · simp at e
          · simp at e
        · simp at e
      · simp at e
    · simp at e
end
end Go.Proofs.Ytnmlfhogolonoaa.Ev
