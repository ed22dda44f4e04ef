/-
  An evaluator of Go code over relative heaps, part Zc: regions whose operations are not wholly ordered.
-/
import Derived.Test.YtnmlfhogolonoaaEvZb
set_option linter.unusedVariables false
set_option linter.unusedSimpArgs false
namespace Go.Proofs.Ytnmlfhogolonoaa.Ev
noncomputable section

theorem edgesOk_spec : ∀ {l : List Oper} {i0 : Nat}, edgesOk l i0 = true → ∀ j o, l[j]? = some o → ∀ e ∈ o.after.toList, Region.binds .any e = true → e.on < i0 + j
  | [], i0, _, j, o, h => by simp at h
  | x :: l, i0, hc, j, o, h => by
    unfold edgesOk at hc
    simp only [Bool.and_eq_true, List.all_eq_true] at hc
    cases j with
    | zero =>
      simp at h; subst h
      intro e he hb
      have := hc.1 e he
      rw [hb] at this
      simpa using this
    | succ j =>
      simp at h
      intro e he hb
      have := edgesOk_spec hc.2 j o h e he hb
      omega

theorem all_on {ops : Array Oper} {listed : Array Bool} (hok : edgesOk ops.toList 0 = true) (hsz : listed.size = ops.size) (hr : Region.ready .any ops listed = []) : ∀ i, i < ops.size → On listed i := by
  intro i
  induction i using Nat.strongRecOn with
  | _ i ih =>
    intro hi
    apply Classical.byContradiction
    intro hno
    have : i ∈ Region.ready .any ops listed := by
      rw [mem_ready]
      refine ⟨?_, ops[i], by simp [hi], fun e he hb => ?_⟩
      · have hl : i < listed.size := by omega
        unfold On at hno
        simp [hl] at hno ⊢
        exact hno
      · have hlt := edgesOk_spec hok i ops[i] (by simp [hi]) e (by simpa using he) hb
        exact ih e.on (by omega) (by omega)
    rw [hr] at this
    simp at this

theorem finalTm_get {F : T Rec} : ∀ {l : List Oper} {i0 : Nat} {tm : T AV} {t : Nat} {v : AV}, (finalTm F l i0 tm).get t = some v →
    (∃ j o r, l[j]? = some o ∧ o.dst = some t ∧ F.get (i0 + j) = some r ∧ v = r.val ∧ ∀ (j' : Nat) o', l[j']? = some o' → o'.dst = some t → (∃ r', F.get (i0 + j') = some r') → j' ≤ j) ∨
    (tm.get t = some v ∧ ∀ (j' : Nat) o', l[j']? = some o' → o'.dst = some t → F.get (i0 + j') = none)
  | [], i0, tm, t, v, h => .inr ⟨h, fun j' o' h' => by simp at h'⟩
  | x :: l, i0, tm, t, v, h => by
    unfold finalTm at h
    have shift : ∀ j, i0 + 1 + j = i0 + (j + 1) := fun j => by omega
    split at h
    · rename_i d r hd hr
      rcases finalTm_get h with ⟨j, o, r', k1, k2, k3, k4, k5⟩ | ⟨k1, k2⟩
      · refine .inl ⟨j + 1, o, r', by simpa using k1, k2, by rw [← shift]; exact k3, k4, fun j' o' h1 h2 h3 => ?_⟩
        cases j' with
        | zero => omega
        | succ j' =>
          rw [← shift] at h3
          have := k5 j' o' (by simpa using h1) h2 h3
          omega
      · rw [T.get_set] at k1
        by_cases e : t = d
        · subst e
          rw [if_pos rfl] at k1; simp at k1
          refine .inl ⟨0, x, r, rfl, hd, hr, k1.symm, fun j' o' h1 h2 h3 => ?_⟩
          cases j' with
          | zero => omega
          | succ j' =>
            obtain ⟨r', h3⟩ := h3
            rw [← shift] at h3
            rw [k2 j' o' (by simpa using h1) h2] at h3
            simp at h3
        · rw [if_neg e] at k1
          refine .inr ⟨k1, fun j' o' h1 h2 => ?_⟩
          cases j' with
          | zero =>
            simp at h1; subst h1
            rw [hd] at h2; simp at h2
            exact absurd h2.symm e
          | succ j' => rw [← shift]; exact k2 j' o' (by simpa using h1) h2
    · rename_i hne
      have h0 : x.dst = some t → F.get i0 = none := by
        intro hd
        cases hF : F.get i0 with
        | none => rfl
        | some r => exact absurd hF (hne t r hd)
      rcases finalTm_get h with ⟨j, o, r', k1, k2, k3, k4, k5⟩ | ⟨k1, k2⟩
      · refine .inl ⟨j + 1, o, r', by simpa using k1, k2, by rw [← shift]; exact k3, k4, fun j' o' h1 h2 h3 => ?_⟩
        cases j' with
        | zero => omega
        | succ j' =>
          rw [← shift] at h3
          have := k5 j' o' (by simpa using h1) h2 h3
          omega
      · refine .inr ⟨k1, fun j' o' h1 h2 => ?_⟩
        cases j' with
        | zero =>
          simp at h1; subst h1
          simpa using h0 h2
        | succ j' => rw [← shift]; exact k2 j' o' (by simpa using h1) h2

theorem count_lt {p q : Nat → Bool} : ∀ {l : List Nat} {x : Nat}, x ∈ l → p x = true → q x = false → (∀ y, q y = true → p y = true) → l.countP q < l.countP p
  | [], x, h, _, _, _ => by simp at h
  | y :: l, x, h, hp, hq, himp => by
    have hle : l.countP q ≤ l.countP p := List.countP_mono_left fun z _ hz => himp z hz
    rw [List.countP_cons, List.countP_cons]
    rcases List.mem_cons.1 h with rfl | h
    · rw [hp, hq]; simp; omega
    · have := count_lt h hp hq himp
      by_cases hy : q y = true
      · rw [hy, himp y hy]; simp; omega
      · simp only [Bool.not_eq_true] at hy
        rw [hy]; simp; split <;> omega
theorem end_tr {ops : Array Oper} {N : Nat} {es : List Nat} {F : T Rec} {h0 : H} {ρ0 : Rho} {w0 : World} {a0 : Act} {listed : Array Bool} {k : Nat} {hk : H} {ρ : Rho} {a : Act} {w : World} {tm0 : T AV}
    (hI : Inv ops N es F h0 ρ0 w0 a0 listed k hk ρ a w) (ht0 : TR ρ0 tm0 a0.tmps) (hN0 : a0.tmps.size = N) (hall : ∀ i, i < ops.size → On listed i) (hF : ∀ i o, ops[i]? = some o → ∃ r, F.get i = some r) : TR ρ (finalTm F ops.toList 0 tm0) a.tmps := by
  intro t v hv
  rcases finalTm_get hv with ⟨j, o, r, k1, k2, k3, k4, k5⟩ | ⟨k1, k2⟩
  · rw [Nat.zero_add] at k3
    have k1' : ops[j]? = some o := by simpa using k1
    have hj : On listed j := hall j (Array.getElem?_eq_some_iff.1 k1').1
    rcases hI.slots t with ⟨j', r', oj, s1, s2, s3, s4, s5, s6, s7⟩ | ⟨s1, _⟩
    · have a1 := s5 j o k1' k2 hj
      have a2 := k5 j' oj (by simpa using s1) s2 ⟨r', by rw [Nat.zero_add]; exact s4⟩
      have : j' = j := by omega
      subst this
      rw [k3] at s4; simp at s4; subst s4
      rw [k4]
      exact ⟨by rw [hI.tsize]; exact s6, s7⟩
    · exact absurd hj (s1 j o k1' k2)
  · rcases hI.slots t with ⟨j', r', oj, s1, s2, s3, s4, _⟩ | ⟨_, s2⟩
    · have := k2 j' oj (by simpa using s1) s2
      rw [Nat.zero_add, s4] at this; simp at this
    · obtain ⟨z1, z2⟩ := ht0 t v k1
      exact ⟨by rw [hI.tsize, ← hN0]; exact z1, by rw [s2]; exact VR.mono hI.nx.le _ _ z2⟩
end
end Go.Proofs.Ytnmlfhogolonoaa.Ev
