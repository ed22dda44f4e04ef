/-
  An evaluator of Go code over relative heaps, part Za: the whole region.
-/
import Derived.Test.YtnmlfhogolonoaaEvZ
set_option linter.unusedVariables false
set_option linter.unusedSimpArgs false
namespace Go.Proofs.Ytnmlfhogolonoaa.Ev
noncomputable section

theorem certAt {P : Program} {call : CallE} {ops : List Oper} {m : T Nat} {N n : Nat} {tm0 : T AV} {F : T Rec} {es : List Nat} : ∀ {es' : List Nat} {k0 : Nat} {h : H} {hs : List H}, CertP P call ops m N tm0 F k0 (phasesOf m es n k0 es') h hs →
    hs.length = es'.length + 1 ∧ (∃ hk, hs[0]? = some hk ∧ PhF P ops m N tm0 k0 F h hk ∧ LowP F k0 h) ∧
    ∀ l e, es'[l]? = some e → ∃ hk v h2 hk' o, hs[l]? = some hk ∧ ops[e]? = some o ∧ F.get e = some (.eff v) ∧ opF P call ops m N tm0 F hk e o = some (v, h2) ∧ hs[l + 1]? = some hk' ∧
      PhF P ops m N tm0 (k0 + l + 1) F h2 hk' ∧ LowP F (k0 + l + 1) h2
  | [], k0, h, hs, hc => by
    simp only [phasesOf, CertP] at hc
    obtain ⟨c0, h1, rfl, c2⟩ := hc
    exact ⟨rfl, ⟨h1, rfl, c2, c0⟩, fun l e he => by simp at he⟩
  | x :: es', k0, h, hs, hc => by
    simp only [phasesOf, CertP] at hc
    obtain ⟨c0, h1, hs', v, h2, o, rfl, c2, c3, c4, c5, c6, c7⟩ := hc
    obtain ⟨i1, ⟨hk', i2, i3, i4⟩, i5⟩ := certAt c7
    refine ⟨by simp [i1], ⟨h1, rfl, c2, c0⟩, fun l e he => ?_⟩
    cases l with
    | zero =>
      simp at he; subst he
      exact ⟨h1, v, h2, hk', o, rfl, c3, c4, c5, by simpa using i2, i3, i4⟩
    | succ l =>
      simp at he
      obtain ⟨hk, v', h3, hk2, o', j1, j2, j3, j4, j5, j6, j7⟩ := i5 l e he
      exact ⟨hk, v', h3, hk2, o', by simpa using j1, j2, j3, j4, by simpa using j5, by rw [show k0 + (l + 1) + 1 = k0 + 1 + l + 1 by omega]; exact j6, by rw [show k0 + (l + 1) + 1 = k0 + 1 + l + 1 by omega]; exact j7⟩
theorem lastH_at : ∀ {hs : List H} {h : H} {n : Nat}, lastH hs = some h → hs.length = n + 1 → hs[n]? = some h
  | [], h, n, e, hl => by simp [lastH] at e
  | [x], h, n, e, hl => by
    simp [lastH] at e; subst e
    simp at hl; subst hl; rfl
  | x :: y :: hs, h, n, e, hl => by
    cases n with
    | zero => simp at hl
    | succ n =>
      simp only [lastH] at e
      simpa using lastH_at (hs := y :: hs) e (by simpa using hl)

theorem chkRead_sound {P : Program} {m : T Nat} {es : List Nat} {tm : T AV} {o : Oper} {i : Nat} {v : AV} : ∀ {hs : List H} {k0 : Nat}, chkRead P m es tm o i v k0 hs = true → ∀ l h, hs[l]? = some h → mayAt m i es (k0 + l) = true → readAt P tm h o = some v
  | [], k0, _, l, h, hl, _ => by simp at hl
  | x :: hs, k0, hc, l, h, hl, hm => by
    simp only [chkRead, Bool.and_eq_true] at hc
    cases l with
    | zero =>
      simp at hl; subst hl
      rw [Nat.add_zero] at hm
      have h1 := hc.1
      rw [hm] at h1
      simp only [] at h1
      split at h1
      · rename_i u hu
        rw [hu, eqAV_sound 20 u v h1]
      · simp at h1
    | succ l =>
      simp at hl
      exact chkRead_sound hc.2 l h hl (by rw [show k0 + 1 + l = k0 + (l + 1) by omega]; exact hm)
theorem chkOps_sound {P : Program} {ops : List Oper} {m : T Nat} {N : Nat} {es : List Nat} {tm0 : T AV} {F : T Rec} {hs : List H} : ∀ {l : List Oper} {i0 : Nat}, chkOps P ops m N es tm0 F hs l i0 = true → ∀ j o, l[j]? = some o → ∃ r, F.get (i0 + j) = some r ∧
    (∀ v, r = .read v → ∃ tm, localTm ops m N tm0 F (i0 + j) o = some tm ∧ chkRead P m es tm o (i0 + j) v 0 hs = true) ∧
    (∀ v a ao q, r = .alloc v a ao (q + 1) → ∃ e, es[q]? = some e ∧ bef m (i0 + j) e = true) ∧
    (∀ v, r = .eff v → es.contains (i0 + j) = true)
  | [], i0, _, j, o, h => by simp at h
  | x :: l, i0, hc, j, o, h => by
    simp only [chkOps, Bool.and_eq_true] at hc
    cases j with
    | zero =>
      simp at h; subst h
      rw [Nat.add_zero]
      have h1 := hc.1
      split at h1
      · rename_i v hv
        refine ⟨_, hv, fun v' e => ?_, by simp, by simp⟩
        simp at e; subst e
        split at h1
        · rename_i tm htm; exact ⟨tm, htm, h1⟩
        · simp at h1
      · rename_i hv; exact ⟨_, hv, by simp, by simp, by simp⟩
      · rename_i v a ao q hv
        refine ⟨_, hv, by simp, fun v' a' ao' q' e => ?_, by simp⟩
        simp at e; obtain ⟨_, _, _, rfl⟩ := e
        split at h1
        · rename_i e' he; exact ⟨e', he, h1⟩
        · simp at h1
      · rename_i v hv; exact ⟨_, hv, by simp, by simp, fun _ _ => h1⟩
      · rename_i v hv; exact ⟨_, hv, by simp, by simp, by simp⟩
      · simp at h1
    | succ j =>
      simp at h
      have := chkOps_sound hc.2 j o h
      rw [show i0 + 1 + j = i0 + (j + 1) by omega] at this
      exact this

theorem mayAt_ok {m : T Nat} {i : Nat} : ∀ {es : List Nat} {k : Nat}, (∀ (l e : Nat), es[l]? = some e → l < k → bef m e i = false) → (∀ (l e : Nat), es[l]? = some e → k ≤ l → bef m i e = false) → mayAt m i es k = true
  | [], k, _, _ => by simp [mayAt]
  | e :: es, 0, h1, h2 => by
    simp only [mayAt, Bool.and_eq_true, Bool.not_eq_true']
    exact ⟨h2 0 e rfl (Nat.le_refl _), mayAt_ok (fun l e' he hl => by omega) (fun l e' he _ => h2 (l + 1) e' (by simpa using he) (by omega))⟩
  | e :: es, k + 1, h1, h2 => by
    simp only [mayAt, Bool.and_eq_true, Bool.not_eq_true']
    exact ⟨h1 0 e rfl (by omega), mayAt_ok (fun l e' he hl => h1 (l + 1) e' (by simpa using he) (by omega)) (fun l e' he hl => h2 (l + 1) e' (by simpa using he) (by omega))⟩
theorem chain_spec {m : T Nat} : ∀ {es : List Nat}, chainOk m es = true → ∀ (k l e f : Nat), es[k]? = some e → es[l]? = some f → k < l → bef m f e = true
  | [], _, k, l, e, f, h, _, _ => by simp at h
  | x :: es, hc, k, l, e, f, he, hf, hlt => by
    simp only [chainOk, Bool.and_eq_true, List.all_eq_true] at hc
    cases l with
    | zero => omega
    | succ l =>
      simp at hf
      cases k with
      | zero =>
        simp at he; subst he
        exact hc.1 f (List.mem_of_getElem? hf)
      | succ k =>
        simp at he
        exact chain_spec hc.2 k l e f he hf (by omega)
end
end Go.Proofs.Ytnmlfhogolonoaa.Ev
