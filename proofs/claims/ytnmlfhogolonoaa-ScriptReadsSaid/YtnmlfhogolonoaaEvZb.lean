/-
  An evaluator of Go code over relative heaps, part Zb: one more operation of a region.
-/
import Derived.Test.YtnmlfhogolonoaaEvZa
set_option linter.unusedVariables false
set_option linter.unusedSimpArgs false
namespace Go.Proofs.Ytnmlfhogolonoaa.Ev
noncomputable section

theorem stepAny {P : Program} {call : CallE} (hcall : CallOK P call) {ops : Array Oper} {N : Nat} {es : List Nat} {F : T Rec} {h0 : H} {ρ0 : Rho} {w0 : World} {a0 : Act} {listed : Array Bool} {k : Nat} {hk : H} {ρ : Rho} {a : Act} {w : World} {tm0 : T AV} {hs : List H}
    (hok : edgesOk ops.toList 0 = true) (hch : chainOk (preds ops.toList) es = true) {n : Nat} (hdr : drE P call ops.toList (preds ops.toList) N tm0 0 (phasesOf (preds ops.toList) es n 0 es) .e h0 = some (F, hs))
    (hchk : chkOps P ops.toList (preds ops.toList) N es tm0 F hs ops.toList 0 = true) (ht0 : TR ρ0 tm0 a0.tmps) (hN0 : a0.tmps.size = N)
    (hI : Inv ops N es F h0 ρ0 w0 a0 listed k hk ρ a w) (hhk : hs[k]? = some hk) {i : Nat} {o : Oper} (hn : Next ops listed i o) {Q : Exit → Act → World → Prop} {K : Act → World → Prop}
    (hK : ∀ k' hk' ρ' a' w', hs[k']? = some hk' → Inv ops N es F h0 ρ0 w0 a0 (listed.setIfInBounds i true) k' hk' ρ' a' w' → K a' w') : wpOp P ops Q i K a w := by
  obtain ⟨r, hr, c1, c2, c3⟩ := chkOps_sound hchk i o (by simpa using hn.op)
  rw [Nat.zero_add] at hr c1 c2 c3
  obtain ⟨d1, d2, d3, d4, d5⟩ := drE_sound hdr (by intro i v a ao p h; simp [T.get_e] at h)
  obtain ⟨e1, e2, e3⟩ := certAt d2
  have before : ∀ (l e : Nat), es[l]? = some e → bef (preds ops.toList) i e = true → l < k := fun l e hl hb => (hI.effs l e hl).1 (hn.bef_on hI.down hok hb)
  rcases d3 i r hr with hh | ⟨v, rfl⟩ | ⟨o', ph, hh, hh', ho', hq⟩
  · simp [T.get_e] at hh
  · have hmem := c3 v rfl
    have : i ∈ es := by simpa using hmem
    obtain ⟨l, hl⟩ := List.getElem?_of_mem this
    have hnl : ¬ l < k := fun h => hn.new ((hI.effs l i hl).2 h)
    have hlk : l = k := by
      rcases Nat.lt_or_ge k l with h | h
      · obtain ⟨f, hf⟩ : ∃ f, es[k]? = some f := ⟨es[k]'(Nat.lt_trans h (List.getElem?_eq_some_iff.1 hl).1), by simp⟩
        have := before k f hf (chain_spec hch k l f i hf hl h)
        omega
      · omega
    subst hlk
    obtain ⟨hk1, v', h2, hk', o'', f1, f2, f3, f4, f5, f6, f7⟩ := e3 l i hl
    rw [hhk] at f1; simp at f1; subst f1
    have : o'' = o := by
      have := hn.op
      have f2' : ops[i]? = some o'' := by simpa using f2
      rw [f2'] at this; simpa using this
    subst this
    rw [hr] at f3; simp at f3; subst f3
    rw [Nat.zero_add] at f6 f7
    refine stepF hcall hI hok ht0 hN0 hn hl (fun l' hl' => ?_) hr f4 f6 f7 (fun ρ' a' w' hI' => hK _ _ _ _ _ f5 hI')
    rcases Nat.lt_trichotomy l' l with h | h | h
    · have := (bef_sound hok (chain_spec hch l' l i i hl' hl h)).1; omega
    · exact h
    · have := (bef_sound hok (chain_spec hch l l' i i hl hl' h)).1; omega
  · have : o' = o := by
      have := hn.op
      have f2' : ops[i]? = some o' := by simpa using ho'
      rw [f2'] at this; simpa using this
    subst this
    have hne := (opQ_heap hq).1
    have hes : ∀ l : Nat, es[l]? ≠ some i := by
      intro l hl
      obtain ⟨_, v', _, _, _, _, _, f3, _⟩ := e3 l i hl
      rw [hr] at f3; simp at f3
      exact hne v' f3
    refine stepQ hI hok ht0 hN0 hn hq hr hes (fun v hv tm htm => ?_) (fun v b ao p hv => ?_) (fun ρ' a' w' hI' => hK _ _ _ _ _ hhk hI')
    · obtain ⟨tm', g1, g2⟩ := c1 v hv
      rw [htm] at g1; simp at g1; subst g1
      refine chkRead_sound g2 k hk hhk ?_
      rw [Nat.zero_add]
      exact mayAt_ok (fun l e hl hlt => hn.not_bef hI.down hok ((hI.effs l e hl).2 hlt)) (fun l e hl hge => by
        cases hb : bef (preds ops.toList) i e with
        | false => rfl
        | true => have := before l e hl hb; omega)
    · subst hv
      refine ⟨?_, ?_, fun j v' ao' p' hj => ?_⟩
      · cases p with
        | zero => omega
        | succ q =>
          obtain ⟨e, he, hb⟩ := c2 _ _ _ _ rfl
          exact before q e he hb
      · rcases d4 i _ _ _ _ hr with hh | ⟨_, hh⟩
        · simp [T.get_e] at hh
        · exact hh
      · exact d5 j i _ _ _ _ _ _ _ (T.get_e _) hj (T.get_e _) hr
end
end Go.Proofs.Ytnmlfhogolonoaa.Ev
