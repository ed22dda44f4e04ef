/-
  The law FieldExamples, which has no arguments, returns true: the examples of the chapter hold. No condition.
-/
import Derived.Test.YtiopfakeajofdaaFieldKnown
import Derived.WalkKit
import Derived.ProofKit
import Derived.OpenShut
import Derived.ShutString
namespace Go.Proofs.Ytiopfakeajofdaa.fieldExamples
open Go.ChangeShapes Go.WideShapes Go.ChangeAt Go.RowKit
open Go.ChangeMaps (open_string shut_string)
set_option linter.unusedVariables false      -- a walk need not use every 'w<i>' (that an integer argument fits its kind)

theorem own : ownKnob Try.prog.godebug = none := by kernel_rfl


/-! ### STEP 1: THE WALK: the Go text returns true. 'Grown w w'': the world has at most new blocks (Derived/RowKit3.lean). Part the cases AHEAD of 'go_enter' where a test parts the walk; take each callee by a contract of your own. -/
set_option maxRecDepth 100000 in
set_option maxHeartbeats 1000000 in
theorem walk  (w : World) :
    Calls Try.prog 10 #[] w fun e w' => e = .returned (.bool true) ∧ Grown w w' := by
  have t1 := fun w => top12 3 2 w (by omega) (by omega) (by omega) (by omega)
  rw [show topV 3 2 = 196610 from by decide, show topE 3 2 = 0 from by decide] at t1
  have t2 := fun w => top12 1099511627776 0 w (by omega) (by omega) (by omega) (by omega)
  rw [show topV 1099511627776 0 = 0 from by decide, show topE 1099511627776 0 = 2 from by decide] at t2
  have t3 := fun w => top12 0 1025 w (by omega) (by omega) (by omega) (by omega)
  rw [show topV 0 1025 = 0 from by decide, show topE 0 1025 = 2 from by decide] at t3
  have s1 := fun w => state26 3 1 2 w (by omega) (by omega) (by omega) (by omega) (by omega) (by omega)
  rw [show stV 3 1 2 = 131083 from by decide, show stE 3 1 2 = 0 from by decide] at s1
  have s2 := fun w => state26 1 1 0 w (by omega) (by omega) (by omega) (by omega) (by omega) (by omega)
  rw [show stV 1 1 0 = 0 from by decide, show stE 1 1 0 = 2 from by decide] at s2
  have s3 := fun w => state26 4 16 0 w (by omega) (by omega) (by omega) (by omega) (by omega) (by omega)
  rw [show stV 4 16 0 = 0 from by decide, show stE 4 16 0 = 2 from by decide] at s3
  have s4 := fun w => state26 6 0 0 w (by omega) (by omega) (by omega) (by omega) (by omega) (by omega)
  rw [show stV 6 0 0 = 0 from by decide, show stE 6 0 0 = 2 from by decide] at s4
  have d1 := fun w => desc18 5 true w (by omega) (by omega)
  rw [show descV 5 true = 11 from by decide, show descE 5 = 0 from by decide] at d1
  have d2 := fun w => desc18 1099511627776 false w (by omega) (by omega)
  rw [show descV 1099511627776 false = 0 from by decide, show descE 1099511627776 = 2 from by decide] at d2
  have c1 := fun w => check28 1 w (by omega) (by omega)
  have c2 := fun w => check28 9 w (by omega) (by omega)
  have c3 := fun w => check28 131 w (by omega) (by omega)
  have c4 := fun w => check28 6 w (by omega) (by omega)
  rw [show ckE 1 = 0 from by decide] at c1
  rw [show ckE 9 = 4 from by decide] at c2
  rw [show ckE 131 = 4 from by decide] at c3
  rw [show ckE 6 = 4 from by decide] at c4
  have o1 := fun w => comm22 11 w (by omega) (by omega)
  rw [show isOdd 11 = true from by decide] at o1
  have T1 := Lib.hid t1
  have T2 := Lib.hid t2
  have T3 := Lib.hid t3
  have S1 := Lib.hid s1
  have S2 := Lib.hid s2
  have S3 := Lib.hid s3
  have S4 := Lib.hid s4
  have D1 := Lib.hid d1
  have D2 := Lib.hid d2
  have C1 := Lib.hid c1
  have C2 := Lib.hid c2
  have C3 := Lib.hid c3
  have C4 := Lib.hid c4
  have O1 := Lib.hid o1
  clear t1 t2 t3 s1 s2 s3 s4 d1 d2 c1 c2 c3 c4 o1
  go_enter Try.func10, Try.ntmps10
  go_wp2_with fail
  ((with_reducible refine (T1.out _).mono ?_); rintro e w' ⟨rfl, rfl⟩)
  go_wp2_with fail
  ((with_reducible refine (S1.out _).mono ?_); rintro e w' ⟨rfl, rfl⟩)
  go_wp2_with fail
  ((with_reducible refine (D1.out _).mono ?_); rintro e w' ⟨rfl, rfl⟩)
  go_wp2_with fail
  ((with_reducible refine (tag14 _ _ (by omega) (by omega)).mono ?_); rintro e w' ⟨rfl, rfl⟩)
  go_wp2_with fail
  ((with_reducible refine (tower16 _ _ (by omega) (by omega)).mono ?_); rintro e w' ⟨rfl, rfl⟩)
  go_wp2_with fail
  ((with_reducible refine (kind30 _ _ (by omega) (by omega)).mono ?_); rintro e w' ⟨rfl, rfl⟩)
  go_wp2_with fail
  ((with_reducible refine (entry32 _ _ (by omega) (by omega)).mono ?_); rintro e w' ⟨rfl, rfl⟩)
  go_wp2_with fail
  ((with_reducible refine (gen34 _ _ (by omega) (by omega)).mono ?_); rintro e w' ⟨rfl, rfl⟩)
  go_wp2_with fail
  ((with_reducible refine (gen20 _ _ (by omega) (by omega)).mono ?_); rintro e w' ⟨rfl, rfl⟩)
  go_wp2_with fail
  ((with_reducible refine (O1.out _).mono ?_); rintro e w' ⟨rfl, rfl⟩)
  go_wp2_with fail
  ((with_reducible refine (T2.out _).mono ?_); rintro e w' ⟨rfl, rfl⟩)
  go_wp2_with fail
  ((with_reducible refine (T3.out _).mono ?_); rintro e w' ⟨rfl, rfl⟩)
  go_wp2_with fail
  ((with_reducible refine (D2.out _).mono ?_); rintro e w' ⟨rfl, rfl⟩)
  go_wp2_with fail
  ((with_reducible refine (S2.out _).mono ?_); rintro e w' ⟨rfl, rfl⟩)
  go_wp2_with fail
  ((with_reducible refine (S3.out _).mono ?_); rintro e w' ⟨rfl, rfl⟩)
  go_wp2_with fail
  ((with_reducible refine (S4.out _).mono ?_); rintro e w' ⟨rfl, rfl⟩)
  go_wp2_with fail
  ((with_reducible refine (C1.out _).mono ?_); rintro e w' ⟨rfl, rfl⟩)
  go_wp2_with fail
  ((with_reducible refine (C2.out _).mono ?_); rintro e w' ⟨rfl, rfl⟩)
  go_wp2_with fail
  ((with_reducible refine (C3.out _).mono ?_); rintro e w' ⟨rfl, rfl⟩)
  go_wp2_with fail
  ((with_reducible refine (C4.out _).mono ?_); rintro e w' ⟨rfl, rfl⟩)
  go_wp2_with (go_at_call 39; refine (says39 _ _ _ _ _ (by omega) (by omega) (by omega) (by omega) (by decide) (by decide) (by decide)).mono ?_; rintro e w' ⟨rfl, rfl⟩)
  go_ret
  exact ⟨rfl, Grown.refl _⟩

/-! ### THE ROW's STEP: WRITTEN OUT: LEAVE IT -/
set_option maxRecDepth 100000 in
theorem lifted (os : Os) (started : os.Started) (H : Type) (enc : TypeId × Value → H) :
    ReturnsInHanded {} Try.checked os 10 .any (Rows.fieldExamplesSpec.pre6 enc Try.prog Try.f10 Rows.fieldExamplesRow.domain false) (Rows.fieldExamplesSpec.post enc Try.prog Try.f10 false true false false) := by
  refine returnsInHanded_of_change (C := Try.checked) own started (by kernel_rfl) Try.func10
    (ChangeSpec.witness6 (enc := enc) (C := Try.checked) false ⟨#[], #[], []⟩ 8 (by kernel_rfl) (by kernel_rfl) (by kernel_rfl) (by kernel_rfl)) ?_
  intro W base args ds gs before hval0 hW hcnd _
  have hval : ∀ (j : Nat) t v, Try.f10.params[j]? = some t → args[j]? = some v → Value.okWide Try.prog W .any base t v := hval0
  have hW' := hW
  obtain ⟨p, q, hA0, hV, rfl, hfz, hnd⟩ := hW
  have hA : DataW.TrodAll enc Try.prog W 0 (fun _ => true) true Try.f10.params.toList args.toList ds p := hA0
  rw [Try.params10] at hA hval
  obtain ⟨rfl, rfl, rfl⟩ := trodAll_none hA
  obtain ⟨rfl, rfl⟩ := trodVars_none hV
  clear hA0 hval0
  simp only [List.append_nil] at hW'
  refine (walk  W).mono fun e W' ⟨he, hg⟩ => ?_
  subst he
  exact ⟨_, rfl, post_of_same (pa := []) (pv := []) hW' (fun _ _ _ => (trodAll_cons_mk (shut_bool Try.underlying4 _) trodAll_mk0)) (fun sp _ => rfl) (fun _ _ => rfl) rfl
    (hg.frame _) hg.2.1 (ok_one (by kernel_rfl) rfl (okWide_bool_mk Try.underlying4 _))⟩

theorem over : Rows.fieldExamplesRow.holds Try.pinned (OpenSpec.ofChange Rows.fieldExamplesSpec) :=
  OpenClaim.holds_of_wide 10 Try.f10 rfl rfl rfl rfl rfl rfl rfl ⟨rfl, rfl, rfl, rfl, rfl⟩ rfl rfl rfl rfl rfl (by kernel_rfl) Try.func10 (by kernel_rfl)
    (of_decide_eq_true (by kernel_rfl)) (by unfold Func.isWrapper; first | (rw [if_pos (by decide +kernel)]; kernel_rfl) | (rw [if_neg (by decide +kernel)]; exact ⟨rfl, rfl⟩))
    (fun os started H enc _ => lifted os started H enc)

/-- ████ THE STATEMENT ████ -/
theorem proved : Rows.FieldExamplesSaid :=
  over
#print axioms proved
end Go.Proofs.Ytiopfakeajofdaa.fieldExamples
