/-
  For all arguments the law FieldStates returns true: State, Check, Kind, Entry and Gen of the program are those of the reference. No condition.
-/
import Derived.Test.YtiopfakeajofdaaFieldKnown
import Derived.WalkKit
import Derived.ProofKit
import Derived.OpenShut
import Derived.ShutString
import Derived.Lib.SmallJoins
import Derived.Deep.QuietTactic
import Derived.BigQuiet
set_option linter.unusedVariables false
set_option linter.unusedSimpArgs false
namespace Go.Proofs.Ytiopfakeajofdaa.fieldStates
open Go.ChangeShapes Go.WideShapes Go.ChangeAt Go.RowKit Go.Joins
open Go.ChangeMaps (open_string shut_string)

theorem own : ownKnob Try.prog.godebug = none := by kernel_rfl
theorem laidOut : laidOutB Try.prog = true := by kernel_rfl

theorem cells37 : Try.prog.cellsOf 37 = 2 := by kernel_rfl
/-- what a call answers, whatever the world; the world stays as it was -/
def Says (f : FuncId) (args : Array Value) (v : Value) : Prop := ∀ w, Calls Try.prog f args w fun e w' => e = .returned v ∧ w = w'
theorem Says.at {f : FuncId} {args : Array Value} {v : Value} (h : Hid (Says f args v)) (w : World) : Calls Try.prog f args w fun e w' => e = .returned v ∧ w = w' := h.out w
theorem Says.q {f : FuncId} {args : Array Value} {v : Value} (h : Hid (Says f args v)) {w : World} {n : Nat} :
    Calls Try.prog f args (w.drewN n) fun e w'' => e = .returned v ∧ ∃ m, w'' = w.drewN m :=
  (h.out _).mono fun _ _ ⟨he, hm⟩ => ⟨he, n, hm.symm⟩
theorem Says.qa {f : FuncId} {args : Array Value} {v : Value} (h : Hid (Says f args v)) {w : World} {a n : Nat} :
    Calls Try.prog f args (w.drewN (a + n)) fun e w'' => e = .returned v ∧ ∃ m, w'' = w.drewN (a + m) :=
  (h.out _).mono fun _ _ ⟨he, hm⟩ => ⟨he, n, hm.symm⟩
theorem walk {H : Type} (enc : TypeId × Value → H) (base : Nat) (W : World) (v0 : Value) (d0 : DataW H) (p0 : List MemPlace) (v1 : Value) (d1 : DataW H) (p1 : List MemPlace) (v2 : Value) (d2 : DataW H) (p2 : List MemPlace)
    (o0 : Value.okWide Try.prog W .any base 5 v0) (h0 : DataW.Trod enc Try.prog W 0 (fun _ => true) true 5 v0 d0 p0)
    (o1 : Value.okWide Try.prog W .any base 3 v1) (h1 : DataW.Trod enc Try.prog W 0 (fun _ => true) true 3 v1 d1 p1)
    (o2 : Value.okWide Try.prog W .any base 37 v2) (h2 : DataW.Trod enc Try.prog W 0 (fun _ => true) true 37 v2 d2 p2) :
    Calls Try.prog 6 #[v0, v1, v2] W fun e W' => e = .returned (.bool true) ∧ Below W.heap.size W W' := by
  obtain ⟨k, rfl, -, -, w0⟩ := open_int Try.underlying5 o0 h0
  obtain ⟨n, rfl, -, -, w1⟩ := open_int Try.underlying3 o1 h1
  obtain ⟨c0, c1, y0, y1, m, rfl, -, -, hy0, hy1⟩ := open_agg2 Try.underlying37 (by kernel_rfl) cells37 o2 h2
  obtain ⟨g, e0, -, wg⟩ := DataW.trod_int Try.underlying22 hy0
  obtain ⟨x, e1, -, wx⟩ := DataW.trod_int Try.underlying22 hy1
  simp at e0 e1
  subst e0 e1
  obtain ⟨b0, b0'⟩ := bounds_u8 w0
  obtain ⟨b1, b1'⟩ := bounds_i64 w1
  obtain ⟨b2, b2'⟩ := bounds_u64 wg
  obtain ⟨b3, b3'⟩ := bounds_u64 wx
  clear h0 h1 h2 o0 o1 o2 hy0 hy1 w0 w1 wg wx
  have S1 := Lib.hid (show Says 26 _ _ from fun w => state26 k n g w b0 b0' b1 b1' b2 b2')
  have S2 := Lib.hid (show Says 27 _ _ from fun w => state27 k n g w b0 b0' b1 b1' b2 b2')
  have C1 := Lib.hid (show Says 28 _ _ from fun w => check28 x w b3 b3')
  have C2 := Lib.hid (show Says 29 _ _ from fun w => check29 x w b3 b3')
  have K1 := Lib.hid (show Says 30 _ _ from fun w => kind30 x w b3 b3')
  have K2 := Lib.hid (show Says 31 _ _ from fun w => kind31 x w b3 b3')
  have E1 := Lib.hid (show Says 32 _ _ from fun w => entry32 x w b3 b3')
  have E2 := Lib.hid (show Says 33 _ _ from fun w => entry33 x w b3 b3')
  have G1 := Lib.hid (show Says 34 _ _ from fun w => gen34 x w b3 b3')
  have G2 := Lib.hid (show Says 35 _ _ from fun w => gen35 x w b3 b3')
  go_enter Try.func6, Try.ntmps6
  go_wp2_with (first | (go_at_call 26; refine (Says.at S1 _).mono ?_; rintro e w' ⟨rfl, rfl⟩) | (go_at_call 27; refine (Says.at S2 _).mono ?_; rintro e w' ⟨rfl, rfl⟩))
  go_quiet ((first | (go_at_call 28; first | exact Says.q C1 | exact Says.qa C1) | (go_at_call 29; first | exact Says.q C2 | exact Says.qa C2)))
  go_wp2
  go_quiet ((first | (go_at_call 30; first | exact Says.q K1 | exact Says.qa K1) | (go_at_call 31; first | exact Says.q K2 | exact Says.qa K2) | (go_at_call 32; first | exact Says.q E1 | exact Says.qa E1) | (go_at_call 33; first | exact Says.q E2 | exact Says.qa E2) | (go_at_call 34; first | exact Says.q G1 | exact Says.qa G1) | (go_at_call 35; first | exact Says.q G2 | exact Says.qa G2)))
  go_wp2
  go_ret
  exact ⟨rfl, below_drewN (below_drewN ((Below.refl _ _).alloc (Nat.le_refl _) _) _) _⟩

set_option maxRecDepth 100000 in
theorem lifted (os : Os) (started : os.Started) (H : Type) (enc : TypeId × Value → H) :
    ReturnsInHanded {} Try.checked os 6 .any (Rows.fieldStatesSpec.pre6 enc Try.prog Try.f6 Rows.fieldStatesRow.domain false) (Rows.fieldStatesSpec.post enc Try.prog Try.f6 false true false false) := by
  refine returnsInHanded_of_change (C := Try.checked) own started (by kernel_rfl) Try.func6
    (ChangeSpec.witness6 (enc := enc) (C := Try.checked) false ⟨#[], #[.int .u8 0, .int .i64 0, .agg #[.int .u64 0, .int .u64 0]], []⟩ 12 (by kernel_rfl) (by kernel_rfl) (by kernel_rfl) (by kernel_rfl)) ?_
  intro W base args ds gs before hval0 hW hcnd _
  have hval : ∀ (j : Nat) t v, Try.f6.params[j]? = some t → args[j]? = some v → Value.okWide Try.prog W .any base t v := hval0
  have hW' := hW
  obtain ⟨p, q, hA0, hV, rfl, hfz, hnd⟩ := hW
  have hA : DataW.TrodAll enc Try.prog W 0 (fun _ => true) true Try.f6.params.toList args.toList ds p := hA0
  rw [Try.params6] at hA hval
  obtain ⟨v0, vs0, d0, ds0, p0, q0, hargs, rfl, rfl, h0, r0⟩ := trodAll_cons hA
  obtain ⟨v1, vs1, d1, ds1, p1, q1, rfl, rfl, rfl, h1, r1⟩ := trodAll_cons r0
  obtain ⟨v2, vs2, d2, ds2, p2, q2, rfl, rfl, rfl, h2, r2⟩ := trodAll_cons r1
  obtain ⟨rfl, rfl, rfl⟩ := trodAll_nil r2
  obtain rfl : args = #[v0, v1, v2] := by cases args; simp_all
  obtain ⟨rfl, rfl⟩ := trodVars_none hV
  have lt0 : ∀ x ∈ p0, x.block < W.heap.size := by obtain ⟨m, hm⟩ := h0; exact DataW.trod_lt m _ _ _ hm
  have lt1 : ∀ x ∈ p1, x.block < W.heap.size := by obtain ⟨m, hm⟩ := h1; exact DataW.trod_lt m _ _ _ hm
  have lt2 : ∀ x ∈ p2, x.block < W.heap.size := by obtain ⟨m, hm⟩ := h2; exact DataW.trod_lt m _ _ _ hm
  have k := walk enc base W v0 d0 p0 v1 d1 p1 v2 d2 p2 (hval 0 5 v0 rfl rfl) h0 (hval 1 3 v1 rfl rfl) h1 (hval 2 37 v2 rfl rfl) h2
  clear hA0 hval0
  refine k.mono fun e W' ⟨he, bel⟩ => ?_
  subst he
  exact ⟨_, rfl, _, _, _, [], _, [], hW', trodAll_mk1 (shut_bool Try.underlying4 _), (trodAll_cons_mk (Below.trod laidOut (by kernel_rfl) (of_decide_eq_true (by kernel_rfl)) h0 bel lt0) (trodAll_cons_mk (Below.trod laidOut (by kernel_rfl) (of_decide_eq_true (by kernel_rfl)) h1 bel lt1) (trodAll_cons_mk (Below.trod laidOut (by kernel_rfl) (of_decide_eq_true (by kernel_rfl)) h2 bel lt2) trodAll_mk0))), rfl, bel.frame _, fun h => by cases h⟩

theorem over : Rows.fieldStatesRow.holds Try.pinned (OpenSpec.ofChange Rows.fieldStatesSpec) :=
  OpenClaim.holds_of_wide 6 Try.f6 rfl rfl rfl rfl rfl rfl rfl ⟨rfl, rfl, rfl, rfl, rfl⟩ rfl rfl rfl rfl rfl (by kernel_rfl) Try.func6 (by kernel_rfl)
    (of_decide_eq_true (by kernel_rfl)) (by unfold Func.isWrapper; first | (rw [if_pos (by decide +kernel)]; kernel_rfl) | (rw [if_neg (by decide +kernel)]; exact ⟨rfl, rfl⟩))
    (fun os started H enc _ => lifted os started H enc)

/-- THE STATEMENT -/
theorem proved : Rows.FieldStatesSaid := over
#print axioms proved
end Go.Proofs.Ytiopfakeajofdaa.fieldStates
