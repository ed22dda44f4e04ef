/-
  For any word the law FieldWords returns true: a word is a state word or a descriptor exactly if it is the one with its parts. No condition.
-/
import Derived.Test.YtiopfakeajofdaaFieldKnown
import Derived.WalkKit
import Derived.ProofKit
import Derived.OpenShut
import Derived.ShutString
namespace Go.Proofs.Ytiopfakeajofdaa.fieldWords
open Go.ChangeShapes Go.WideShapes Go.ChangeAt Go.RowKit
open Go.ChangeMaps (open_string shut_string)
set_option linter.unusedVariables false      -- a walk need not use every 'w<i>' (that an integer argument fits its kind)

theorem own : ownKnob Try.prog.godebug = none := by kernel_rfl


/-! ### STEP 1: THE WALK: the Go text returns true. 'Grown w w'': the world has at most new blocks (Derived/RowKit3.lean). Part the cases AHEAD of 'go_enter' where a test parts the walk; take each callee by a contract of your own. -/
theorem walk (a0 : Int) (w0 : (Lit.int .u64 a0).wf = true) (w : World) :
    Calls Try.prog 8 #[.int .u64 a0] w fun e w' => e = .returned (.bool true) ∧ Grown w w' := by
  obtain ⟨b0, b0'⟩ := bounds_u64 w0
  clear w0
  have s1 := fun w => state26 (a0 % 8) (a0 % 65536 / 8) (a0 / 65536) w (by omega) (by omega) (by omega) (by omega) (by omega) (by omega)
  have c1 := fun w => check28 a0 w b0 b0'
  have d1 := fun w => desc18 (a0 / 2) (isOdd a0) w (by omega) (by omega)
  have g1 := fun w => comm22 a0 w b0 b0'
  have hd : descV (a0 / 2) (isOdd a0) = if 1099511627775 < a0 / 2 then 0 else a0 := by
    unfold descV isOdd
    split
    · rfl
    · by_cases h : a0 % 2 = 1
      · simp [h]; omega
      · simp [h]; omega
  have hw : ∀ b, vld (a0 % 8) (a0 % 65536 / 8) (a0 / 65536) = b → stV (a0 % 8) (a0 % 65536 / 8) (a0 / 65536) = if b then a0 else 0 := by
    intro b hb
    unfold stV
    rw [hb]
    cases b
    · rfl
    · simp only [if_true]; exact word_parts a0
  by_cases hg : 1099511627775 < a0 / 2
  all_goals
    rw [hd] at d1
    simp only [hg, if_true, if_false, descE] at d1
    cases hv : vld (a0 % 8) (a0 % 65536 / 8) (a0 / 65536)
    all_goals
      rw [hw _ hv] at s1
      simp only [stE, ckE, hv, if_true, if_false, Bool.false_eq_true] at s1 c1
      have S1 := Lib.hid s1
      have C1 := Lib.hid c1
      have D1 := Lib.hid d1
      have K1 := Lib.hid known38
      have hq : 1099511627775 < a0 / 2 ↔ 2199023255551 < a0 := by omega
      rw [hq] at hg
      clear s1 c1 d1 hv hd hw hq
      go_enter Try.func8, Try.ntmps8
      go_wp2_with (first | (go_at_call 30; refine (kind30 _ _ b0 b0').mono ?_; rintro e w' ⟨rfl, rfl⟩) | (go_at_call 32; refine (entry32 _ _ b0 b0').mono ?_; rintro e w' ⟨rfl, rfl⟩) | (go_at_call 34; refine (gen34 _ _ b0 b0').mono ?_; rintro e w' ⟨rfl, rfl⟩) | (go_at_call 26; refine (S1.out _).mono ?_; rintro e w' ⟨rfl, rfl⟩) | (go_at_call 28; refine (C1.out _).mono ?_; rintro e w' ⟨rfl, rfl⟩) | (go_at_call 20; refine (gen20 _ _ b0 b0').mono ?_; rintro e w' ⟨rfl, rfl⟩) | (go_at_call 22; refine (comm22 _ _ b0 b0').mono ?_; rintro e w' ⟨rfl, rfl⟩) | (go_at_call 18; refine (D1.out _).mono ?_; rintro e w' ⟨rfl, rfl⟩) | (go_at_call 38; refine (K1.out _).mono ?_; rintro e w' ⟨rfl, rfl⟩))
      go_ret
      exact ⟨rfl, Grown.refl _⟩

/-! ### THE ROW's STEP: WRITTEN OUT: LEAVE IT -/
set_option maxRecDepth 100000 in
theorem lifted (os : Os) (started : os.Started) (H : Type) (enc : TypeId × Value → H) :
    ReturnsInHanded {} Try.checked os 8 .any (Rows.fieldWordsSpec.pre6 enc Try.prog Try.f8 Rows.fieldWordsRow.domain false) (Rows.fieldWordsSpec.post enc Try.prog Try.f8 false true false false) := by
  refine returnsInHanded_of_change (C := Try.checked) own started (by kernel_rfl) Try.func8
    (ChangeSpec.witness6 (enc := enc) (C := Try.checked) false ⟨#[], #[.int .u64 0], []⟩ 8 (by kernel_rfl) (by kernel_rfl) (by kernel_rfl) (by kernel_rfl)) ?_
  intro W base args ds gs before hval0 hW hcnd _
  have hval : ∀ (j : Nat) t v, Try.f8.params[j]? = some t → args[j]? = some v → Value.okWide Try.prog W .any base t v := hval0
  have hW' := hW
  obtain ⟨p, q, hA0, hV, rfl, hfz, hnd⟩ := hW
  have hA : DataW.TrodAll enc Try.prog W 0 (fun _ => true) true Try.f8.params.toList args.toList ds p := hA0
  rw [Try.params8] at hA hval
  obtain ⟨v0, vs0, d0, ds0, p0, q0, hargs, rfl, rfl, h0, r0⟩ := trodAll_cons hA
  obtain ⟨rfl, rfl, rfl⟩ := trodAll_nil r0
  obtain rfl : args = #[v0] := by cases args; simp_all
  obtain ⟨rfl, rfl⟩ := trodVars_none hV
  obtain ⟨a0, rfl, rfl, rfl, w0⟩ := open_int Try.underlying22 (hval 0 22 v0 rfl rfl) h0
  clear hA0 hval0
  simp only [List.append_nil] at hW'
  refine (walk a0 w0 W).mono fun e W' ⟨he, hg⟩ => ?_
  subst he
  exact ⟨_, rfl, post_of_same (pa := []) (pv := []) hW' (fun _ _ _ => (trodAll_cons_mk (shut_bool Try.underlying4 _) trodAll_mk0)) (fun sp _ => (trodAll_cons_mk (shut_int Try.underlying22 w0) trodAll_mk0)) (fun _ _ => rfl) rfl
    (hg.frame _) hg.2.1 (ok_one (by kernel_rfl) rfl (okWide_bool_mk Try.underlying4 _))⟩

theorem over : Rows.fieldWordsRow.holds Try.pinned (OpenSpec.ofChange Rows.fieldWordsSpec) :=
  OpenClaim.holds_of_wide 8 Try.f8 rfl rfl rfl rfl rfl rfl rfl ⟨rfl, rfl, rfl, rfl, rfl⟩ rfl rfl rfl rfl rfl (by kernel_rfl) Try.func8 (by kernel_rfl)
    (of_decide_eq_true (by kernel_rfl)) (by unfold Func.isWrapper; first | (rw [if_pos (by decide +kernel)]; kernel_rfl) | (rw [if_neg (by decide +kernel)]; exact ⟨rfl, rfl⟩))
    (fun os started H enc _ => lifted os started H enc)

/-- ████ THE STATEMENT ████ -/
theorem proved : Rows.FieldWordsSaid :=
  over
#print axioms proved
end Go.Proofs.Ytiopfakeajofdaa.fieldWords
