/-
  An evaluator of Go code over relative heaps, part H: comparison and the rest of what reads no memory.
-/
import Derived.Test.YtnmlfhogolonoaaEvG
set_option linter.unusedVariables false
set_option linter.unusedSimpArgs false
namespace Go.Proofs.Ytnmlfhogolonoaa.Ev
noncomputable section

/-- two values, at least one of them nil, of one kind that has nil -/
def nq (d : TypeDesc) (X Y : Value) : Option Bool := match d, X, Y with
  | .pointer _, .pointer none, .pointer b => some b.isNone
  | .pointer _, .pointer (some _), .pointer none => some false
  | .slice _, .slice none _ _, .slice b _ _ => some b.isNone
  | .slice _, .slice (some _) _ _, .slice none _ _ => some false
  | .map _ _, .map none, .map b => some b.isNone
  | .map _ _, .map (some _), .map none => some false
  | .func _ _ _, .nilFunc, .nilFunc => some true
  | .func _ _ _, .nilFunc, .func _ _ _ => some false
  | .func _ _ _, .func _ _ _, .nilFunc => some false
  | .interface _, .nilIface, .nilIface => some true
  | .interface _, .nilIface, .iface _ _ => some false
  | .interface _, .iface _ _, .nilIface => some false
  | _, _, _ => none
theorem nq_equal {P : Program} {t : TypeId} {d : TypeDesc} (hu : P.underlying t = some d) {X Y : Value} {b : Bool} (h : nq d X Y = some b) (w : World) : (Op.equal t X Y).run P w = .ok b w := by
  have ten : Op.maxDepth = 9999 + 1 := rfl
  unfold nq at h
  split at h <;> first
    | (simp at h; done)
    | (simp at h; subst h; unfold Op.equal; rw [ten, Op.equalIn]; simp [Go.Proofs.Ytnmlfhogolonoaa.Ev.run_underlying hu])
theorem nq_bin {P : Program} {t : TypeId} {d : TypeDesc} (hu : P.underlying t = some d) {X Y : Value} {b : Bool} (h : nq d X Y = some b) (w : World) :
    (binOp .eql t X Y).run P w = .ok (.bool b) w ∧ (binOp .neq t X Y).run P w = .ok (.bool (!b)) w := by
  have he := nq_equal hu h w
  unfold nq at h
  split at h <;> first
    | (simp at h; done)
    | (refine ⟨?_, ?_⟩ <;> simp [binOp, he])
theorem nq_guard {P : Program} {t : TypeId} {d : TypeDesc} {X Y : Value} {b : Bool} (h : nq d X Y = some b) (ox oy : Operand) (hc : X = .nilIface → Y = .nilIface → (isC ox || isC oy) = true) (op : BinOp) (w : World) :
    (eqGuard op t ox oy X Y).run P w = .ok () w := by
  unfold nq at h
  split at h <;> first
    | (simp at h; done)
    | (cases op <;> simp [eqGuard]; done)
    | (have := hc rfl rfl
       cases op <;> simp [eqGuard]
       all_goals (cases ox <;> cases oy <;> simp [isC] at this ⊢))
theorem nilEq_nq {P : Program} {t : TypeId} {x y : AV} {cx cy b : Bool} (h : evBin.nilEq P t cx cy x y = some b) {ρ : Rho} {X Y : Value} (hx : VR ρ x X) (hy : VR ρ y Y) :
    ∃ d, P.underlying t = some d ∧ nq d X Y = some b ∧ (X = .nilIface → Y = .nilIface → (cx || cy) = true) := by
  have slv : ∀ {a o len es : Nat} {cap : Option Nat} {V : Value}, VR ρ (.sl a o len es cap) V → ∃ p n c, V = .slice (some p) n c := by
    intro a o len es cap V hv
    cases cap with
    | some c => simp only [VR] at hv; obtain ⟨l, _, _, rfl⟩ := hv; exact ⟨_, _, _, rfl⟩
    | none => simp only [VR] at hv; obtain ⟨l, _, _, _, rfl | ⟨_, x, rfl⟩⟩ := hv <;> exact ⟨_, _, _, rfl⟩
  unfold evBin.nilEq at h
  split at h
  · rename_i e hu
    refine ⟨_, hu, ?_⟩
    split at h <;> first
      | (simp at h; done)
      | (simp only [VR] at hx hy; simp at h; subst h
         first
           | (subst hx; subst hy; exact ⟨rfl, by simp⟩)
           | (subst hx; obtain ⟨m, _, rfl⟩ := hy; exact ⟨rfl, by simp⟩)
           | (subst hy; obtain ⟨m, _, rfl⟩ := hx; exact ⟨rfl, by simp⟩))
  · rename_i e hu
    refine ⟨_, hu, ?_⟩
    split at h
    · simp only [VR] at hx hy; simp at h; subst h hx hy; exact ⟨rfl, by simp⟩
    · simp only [VR] at hx; simp at h; subst h hx; obtain ⟨p, n, c, rfl⟩ := slv hy; exact ⟨rfl, by simp⟩
    · simp only [VR] at hy; simp at h; subst h hy; obtain ⟨p, n, c, rfl⟩ := slv hx; exact ⟨rfl, by simp⟩
    · simp at h
  · rename_i e hu
    refine ⟨_, hu, ?_⟩
    split at h <;> first
      | (simp at h; done)
      | (simp only [VR] at hx hy; simp at h; subst h
         first
           | (subst hx; subst hy; exact ⟨rfl, by simp⟩)
           | (subst hx; obtain ⟨m, _, rfl⟩ := hy; exact ⟨rfl, by simp⟩)
           | (subst hy; obtain ⟨m, _, rfl⟩ := hx; exact ⟨rfl, by simp⟩))
  · rename_i e hu
    refine ⟨_, hu, ?_⟩
    split at h <;> first
      | (simp at h; done)
      | (simp only [VR] at hx hy; simp at h; subst h
         first
           | (subst hx; subst hy; exact ⟨rfl, by simp⟩)
           | (subst hx; obtain ⟨F, C, _, _, rfl⟩ := hy; exact ⟨rfl, by simp⟩)
           | (subst hy; obtain ⟨F, C, _, _, rfl⟩ := hx; exact ⟨rfl, by simp⟩))
  · rename_i e hu
    refine ⟨_, hu, ?_⟩
    split at h
    · simp only [VR] at hx hy; subst hx hy
      cases hc : (cx || cy)
      · rw [hc] at h; simp at h
      · rw [hc] at h; simp at h; subst h; exact ⟨rfl, fun _ _ => rfl⟩
    · simp only [VR] at hx hy; simp at h; subst h hx; obtain ⟨U, _, rfl⟩ := hy; exact ⟨rfl, by simp⟩
    · simp only [VR] at hx hy; simp at h; subst h hy; obtain ⟨U, _, rfl⟩ := hx; exact ⟨rfl, by simp⟩
    · simp at h
  · simp at h

theorem evBin_sound {P : Program} {op : BinOp} {t : TypeId} {ox oy : Operand} {x y v : AV} (h : evBin P op t (isC ox) (isC oy) x y = some v) {ρ : Rho} {X Y : Value} (hx : VR ρ x X) (hy : VR ρ y Y) :
    ∃ V, VR ρ v V ∧ ∀ w, (do eqGuard op t ox oy X Y; binOp op t X Y : Sem Value).run P w = .ok V w := by
  unfold evBin at h
  split at h
  · rename_i k a k' b
    simp only [VR] at hx hy; subst hx hy
    have hg : ∀ w, (eqGuard op t ox oy (.int k a) (.int k' b)).run P w = .ok () w := fun w => by cases op <;> simp [eqGuard]
    split at h
    · rw [iLt_eq] at h
      by_cases hb : b < 0
      · simp [hb] at h
      · simp only [hb, decide_false, cond_false, Option.some.injEq] at h; subst h
        refine ⟨_, rfl, fun w => ?_⟩
        simp only [Sem.run_bind, hg, Result.andThen_ok, binOp, Op.shift, if_neg hb, fw_eq]
        rfl
    · rw [iLt_eq] at h
      by_cases hb : b < 0
      · simp [hb] at h
      · simp only [hb, decide_false, cond_false, Option.some.injEq] at h; subst h
        refine ⟨_, rfl, fun w => ?_⟩
        simp only [Sem.run_bind, hg, Result.andThen_ok, binOp, Op.shift, if_neg hb]
        rfl
    · by_cases hk : k = k'
      · subst hk
        simp at h
        obtain ⟨V, h1, _, h2⟩ := evInt_sound (P := P) h (ρ := ρ)
        exact ⟨V, h1, fun w => by simp [hg, h2]⟩
      · simp [hk] at h
  · rename_i a b
    simp only [VR] at hx hy; subst hx hy
    have hg : ∀ w, (eqGuard op t ox oy (.string a) (.string b)).run P w = .ok () w := fun w => by cases op <;> simp [eqGuard]
    split at h <;> first
      | (simp at h; done)
      | (simp only [Option.some.injEq] at h; subst h; refine ⟨_, rfl, fun w => ?_⟩; simp [eqGuard, binOp, Op.stringOp, strEq_toList]; done)
      | skip
    split at h
    · rename_i hle
      have hle := Nat.le_of_ble_eq_true hle
      simp only [Option.some.injEq] at h; subst h
      refine ⟨.string (a ++ b), ?_, fun w => ?_⟩
      · simp only [VR]
        congr 1
      · have e63 : IntKind.i64.max = 9223372036854775807 := by decide +kernel
        have hs : ∀ s : ByteArray, s.size = s.data.toList.length := fun s => by obtain ⟨⟨l⟩⟩ := s; rfl
        have hn : ¬ ((a.size + b.size : Nat) : Int) > IntKind.i64.max := by rw [e63, hs, hs]; omega
        simp only [Sem.run_bind, hg, Result.andThen_ok, binOp, Op.stringOp, if_neg hn, Sem.run_pure]
    · simp at h
  · rename_i a b
    simp only [VR] at hx hy; subst hx hy
    split at h
    · rename_i hu
      have hg : ∀ w, (eqGuard op t ox oy (.bool a) (.bool b)).run P w = .ok () w := fun w => by cases op <;> simp [eqGuard]
      have he : ∀ w, (Op.equal t (.bool a) (.bool b)).run P w = .ok (a == b) w := fun w => by
        have ten : Op.maxDepth = 9999 + 1 := rfl
        unfold Op.equal; rw [ten, Op.equalIn]; simp [Go.Proofs.Ytnmlfhogolonoaa.Ev.run_underlying hu]
      split at h <;> first
        | (simp at h; done)
        | (simp only [Option.some.injEq] at h; subst h; refine ⟨_, rfl, fun w => ?_⟩; simp [eqGuard, binOp, he])
    · simp at h
  · rename_i xs ys
    cases hq : P.eqGuardType P.depth t
    · rw [hq, cond_false] at h
      split at h
      · rename_i b hb
        have hx' := hx; have hy' := hy
        simp only [VR] at hx' hy'
        obtain ⟨XS, _, rfl⟩ := hx'
        obtain ⟨YS, _, rfl⟩ := hy'
        have he : ∀ w, (Op.equal t (.agg XS.toArray) (.agg YS.toArray)).run P w = .ok b w := fun w => eqA_sound 10000 t _ _ b hb ρ _ _ hx hy w
        have hg : ∀ w, (eqGuard op t ox oy (.agg XS.toArray) (.agg YS.toArray)).run P w = .ok () w := fun w => run_eqGuard_agg w op t ox oy _ _ hq
        split at h <;> first
          | (simp at h; done)
          | (simp only [Option.some.injEq] at h; subst h; refine ⟨_, rfl, fun w => ?_⟩; rw [Sem.run_bind, hg, Result.andThen_ok]; simp [binOp, he])
      · simp at h
    · rw [hq] at h; simp at h
  · split at h
    · rename_i b hb
      obtain ⟨d, hu, hn, hc⟩ := nilEq_nq hb hx hy
      have hg := fun w => nq_guard (P := P) (t := t) hn ox oy hc op w
      have hbn := fun w => nq_bin hu hn w
      split at h <;> first
        | (simp at h; done)
        | (simp only [Option.some.injEq] at h; subst h; refine ⟨_, rfl, fun w => ?_⟩; simp [hg, (hbn w).1, (hbn w).2])
    · simp at h
end
end Go.Proofs.Ytnmlfhogolonoaa.Ev
