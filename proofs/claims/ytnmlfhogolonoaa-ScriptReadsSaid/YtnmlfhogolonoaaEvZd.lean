/-
  An evaluator of Go code over relative heaps, part Zd: the evaluation of regions is sound.
-/
import Derived.Test.YtnmlfhogolonoaaEvZc
set_option linter.unusedVariables false
set_option linter.unusedSimpArgs false
namespace Go.Proofs.Ytnmlfhogolonoaa.Ev
noncomputable section

theorem drawE_ok {P : Program} (hm : P.follows .mixedOrders = true) : DrawOK P (drawE P) := by
  intro call hcall id ops N tm h tm' h' he ρ0 a0 w0 hs0
  unfold drawE at he
  split at he
  · rename_i hcond
    simp only [Bool.and_eq_true] at hcond
    obtain ⟨hok, hch⟩ := hcond
    split at he
    · rename_i F hs hdr
      split at he
      · rename_i hchk
        split at he
        · rename_i hl hlast
          simp at he; obtain ⟨rfl, rfl⟩ := he
          obtain ⟨d1, d2, d3, d4, d5⟩ := drE_sound hdr (by intro i v a ao p h; simp [T.get_e] at h)
          obtain ⟨e1, ⟨hk0, e2, e2', e2''⟩, e3⟩ := certAt d2
          have hF : ∀ i o, ops[i]? = some o → ∃ r, F.get i = some r := fun i o ho => by
            obtain ⟨r, hr, _⟩ := chkOps_sound hchk i o (by simpa using ho)
            rw [Nat.zero_add] at hr
            exact ⟨r, hr⟩
          have main : ∀ fuel listed k hk ρ a w, Inv ops N (effsFrom P ops.toList 0) F h ρ0 w0 a0 listed k hk ρ a w → hs[k]? = some hk → (List.range ops.size).countP (fun i => !listed.getD i false) ≤ fuel →
              wpAny P .any ops (fun e a' w' => e = Ex.normal.out ∧ ∃ ρ', St N ρ' (finalTm F ops.toList 0 tm) hl a' w' ∧ Way ρ0 h w0 ρ' hl w') fuel listed a w := by
            have done : ∀ listed k hk ρ a w, Inv ops N (effsFrom P ops.toList 0) F h ρ0 w0 a0 listed k hk ρ a w → hs[k]? = some hk → (∀ i, i < ops.size → On listed i) →
                Ex.normal.out = Ex.normal.out ∧ ∃ ρ', St N ρ' (finalTm F ops.toList 0 tm) hl a w ∧ Way ρ0 h w0 ρ' hl w := by
              intro listed k hk ρ a w hI hhk hall
              have hkl : k = (effsFrom P ops.toList 0).length := by
                rcases Nat.lt_or_ge k (effsFrom P ops.toList 0).length with hlt | hge
                · have hx : (effsFrom P ops.toList 0)[k]? = some ((effsFrom P ops.toList 0)[k]) := by simp [hlt]
                  obtain ⟨_, _, _, _, o, _, f2, _⟩ := e3 k _ hx
                  have := (hI.effs k _ hx).1 (hall _ (by have := (List.getElem?_eq_some_iff.1 f2).1; simpa using this))
                  omega
                · have := hI.kle; omega
              have : hl = hk := by
                have := lastH_at hlast e1
                rw [← hkl, hhk] at this
                simpa using this.symm
              subst this
              exact ⟨rfl, ρ, ⟨end_tr hI hs0.tr hs0.size hall hF, hI.nx.rel, hI.fresh, hI.tsize, hI.defers⟩, hI.nx, hI.fresh, hI.kp⟩
            intro fuel
            induction fuel with
            | zero =>
              intro listed k hk ρ a w hI hhk hc
              have hall : ∀ i, i < ops.size → On listed i := by
                intro i hi
                have h0 : (List.range ops.size).countP (fun i => !listed.getD i false) = 0 := by omega
                have := List.countP_eq_zero.1 h0 i (by simpa using hi)
                unfold On
                cases hh : listed.getD i false with
                | true => rfl
                | false => rw [hh] at this; simp at this
              refine ⟨?_, done _ _ _ _ _ _ hI hhk hall⟩
              cases hr : Region.ready .any ops listed with
              | nil => rfl
              | cons x xs =>
                have hx : x ∈ Region.ready .any ops listed := by rw [hr]; simp
                obtain ⟨q1, o, q2, _⟩ := mem_ready.1 hx
                have := hall x (Array.getElem?_eq_some_iff.1 q2).1
                unfold On at this
                have hlt : x < listed.size := by rw [hI.lsize]; exact (Array.getElem?_eq_some_iff.1 q2).1
                simp [hlt] at q1 this
                rw [q1] at this; simp at this
            | succ fuel ih =>
              intro listed k hk ρ a w hI hhk hc
              refine ⟨fun hr => done _ _ _ _ _ _ hI hhk (all_on hok hI.lsize hr), fun i hi => ?_⟩
              obtain ⟨q1, o, q2, q3⟩ := mem_ready.1 hi
              have hlt : i < listed.size := by rw [hI.lsize]; exact (Array.getElem?_eq_some_iff.1 q2).1
              have hno : listed.getD i false = false := by simp [hlt] at q1 ⊢; exact q1
              refine stepAny hcall hok hch hdr hchk hs0.tr hs0.size hI hhk ⟨q2, by unfold On; rw [hno]; simp, fun e he hb => q3 e (by simpa using he) hb⟩ fun k' hk' ρ' a' w' hhk' hI' => ih _ _ _ _ _ _ hI' hhk' ?_
              have := count_lt (l := List.range ops.size) (x := i) (p := fun i => !listed.getD i false) (q := fun j => !(listed.setIfInBounds i true).getD j false) (by simpa using (Array.getElem?_eq_some_iff.1 q2).1) (by simp only [hno, Bool.not_false]) (by
                have : On (listed.setIfInBounds i true) i := (on_set hlt).2 (.inr rfl)
                unfold On at this; rw [this]; rfl) (fun y hy => by
                cases hh : listed.getD y false with
                | false => rfl
                | true =>
                  have : On (listed.setIfInBounds i true) y := (on_set hlt).2 (.inl hh)
                  unfold On at this; rw [this] at hy; simp at hy)
              omega
          refine wp_region_any hm (main ops.size (Array.replicate ops.size false) 0 hk0 ρ0 a0 _ ?_ e2 (Nat.le_trans List.countP_le_length (by simp)))
          have hno : ∀ i, ¬ On (Array.replicate ops.size false) i := fun i => by
            unfold On
            rw [Array.getD_eq_getD_getElem?, Array.getElem?_replicate]
            split <;> simp
          have hd := Nx.drew (w' := { w0 with drawn := w0.drawn + 1 }) hs0.hr rfl ⟨rfl, rfl, rfl⟩
          refine ⟨by simp, fun i o _ hi => absurd hi (hno i), fun l e hl => ⟨fun hh => absurd hh (hno e), fun hh => by omega⟩, Nat.zero_le _, hd.ext hs0.fresh e2'.old, fun c hc => hs0.fresh c (Nat.le_trans e2'.next hc), ⟨e2'.next, fun c hc e => ⟨e, e2'.old c hc⟩⟩, fun i v b o p hi _ => ?_, fun t => .inr ⟨fun j o _ _ => hno j, rfl⟩, hs0.size, hs0.defers⟩
          refine ⟨hs0.fresh b (e2'' i v b o p hi (Nat.zero_le _)), fun hp => ?_⟩
          have : p = 0 := by omega
          subst this
          obtain ⟨q1, q2, q3⟩ := e2'.at_ i v b o hi
          exact ⟨q3, q2⟩
        · simp at he
      · simp at he
    · simp at he
  · simp at he
end
end Go.Proofs.Ytnmlfhogolonoaa.Ev
