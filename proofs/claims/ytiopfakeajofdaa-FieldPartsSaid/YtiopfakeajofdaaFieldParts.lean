/-
  For all parts the law FieldParts returns true: a head, a state word and a descriptor are determined by their parts, and the parts by the word. No condition.
-/
import Derived.Test.YtiopfakeajofdaaFieldKnown
import Derived.WalkKit
import Derived.ProofKit
import Derived.OpenShut
import Derived.ShutString
import Derived.Lib.SmallJoins
import Derived.Deep.QuietTactic
import Derived.BigQuiet
set_option linter.unusedVariables false
set_option linter.unusedSimpArgs false
namespace Go.Proofs.Ytiopfakeajofdaa.fieldParts
open Go.ChangeShapes Go.WideShapes Go.ChangeAt Go.RowKit Go.Joins
open Go.ChangeMaps (open_string shut_string)

theorem own : ownKnob Try.prog.godebug = none := by kernel_rfl
theorem laidOut : laidOutB Try.prog = true := by kernel_rfl

theorem cells51 : Try.prog.cellsOf 51 = 4 := by kernel_rfl
/-- what a call answers, whatever the world; the world stays as it was -/
def Says (f : FuncId) (args : Array Value) (v : Value) : Prop := ∀ w, Calls Try.prog f args w fun e w' => e = .returned v ∧ w = w'
theorem Says.at {f : FuncId} {args : Array Value} {v : Value} (h : Hid (Says f args v)) (w : World) : Calls Try.prog f args w fun e w' => e = .returned v ∧ w = w' := h.out w
theorem Says.q {f : FuncId} {args : Array Value} {v : Value} (h : Hid (Says f args v)) {w : World} {n : Nat} :
    Calls Try.prog f args (w.drewN n) fun e w'' => e = .returned v ∧ ∃ m, w'' = w.drewN m :=
  (h.out _).mono fun _ _ ⟨he, hm⟩ => ⟨he, n, hm.symm⟩
theorem Says.qa {f : FuncId} {args : Array Value} {v : Value} (h : Hid (Says f args v)) {w : World} {a n : Nat} :
    Calls Try.prog f args (w.drewN (a + n)) fun e w'' => e = .returned v ∧ ∃ m, w'' = w.drewN (a + m) :=
  (h.out _).mono fun _ _ ⟨he, hm⟩ => ⟨he, n, hm.symm⟩
def TopCase (tag tower : Int) (V E : Int) : Prop := Says 12 #[.int .u64 tag, .int .i64 tower] (.tuple #[.int .u64 V, .int .i64 E]) ∧
  (E = 0 ∧ Says 14 #[.int .u64 V] (.int .u64 tag) ∧ Says 16 #[.int .u64 V] (.int .i64 tower) ∨ E = 2)
theorem top_case (tag tower : Int) (h0 : 0 ≤ tag) (h0' : tag ≤ 18446744073709551615) (h1 : -9223372036854775808 ≤ tower) (h2 : tower ≤ 9223372036854775807) : ∃ V E, TopCase tag tower V E := by
  refine ⟨topV tag tower, topE tag tower, fun w => top12 _ _ _ h0 h0' h1 h2, ?_⟩
  by_cases h : 1099511627775 < tag ∨ tower < 0 ∨ 1024 < tower
  · right; simp [topE, h]
  · left
    have e : topV tag tower = tower + 65536 * tag := by simp only [topV, h, if_false]
    refine ⟨by simp only [topE, h, if_false], fun w => ?_, fun w => ?_⟩
    · have := tag14 (topV tag tower) w (by omega) (by omega)
      rwa [show topV tag tower / 65536 = tag from by omega] at this
    · have := tower16 (topV tag tower) w (by omega) (by omega)
      rwa [show topV tag tower % 65536 = tower from by omega] at this
def StateCase (k n g : Int) (V E : Int) : Prop := Says 26 #[.int .u8 k, .int .i64 n, .int .u64 g] (.tuple #[.int .u64 V, .int .i64 E]) ∧
  (E = 0 ∧ Says 30 #[.int .u64 V] (.int .u8 k) ∧ Says 32 #[.int .u64 V] (.int .i64 n) ∧ Says 34 #[.int .u64 V] (.int .u64 g) ∧ Says 28 #[.int .u64 V] (.int .i64 0) ∨ E = 2)
theorem state_case (k n g : Int) (h0 : 0 ≤ k) (h0' : k ≤ 255) (h1 : -9223372036854775808 ≤ n) (h2 : n ≤ 9223372036854775807) (h3 : 0 ≤ g) (h4 : g ≤ 18446744073709551615) : ∃ V E, StateCase k n g V E := by
  refine ⟨stV k n g, stE k n g, fun w => state26 _ _ _ _ h0 h0' h1 h2 h3 h4, ?_⟩
  cases h : vld k n g
  · right; simp [stE, h]
  · left
    have e : stV k n g = k + 8 * n + 65536 * g := by simp [stV, h]
    have hp := (vld_iff k n g).1 h
    have e1 : stV k n g % 8 = k := by omega
    have e2 : stV k n g % 65536 / 8 = n := by omega
    have e3 : stV k n g / 65536 = g := by omega
    refine ⟨by simp [stE, h], fun w => ?_, fun w => ?_, fun w => ?_, fun w => ?_⟩
    · have := kind30 (stV k n g) w (by omega) (by omega)
      rwa [e1] at this
    · have := entry32 (stV k n g) w (by omega) (by omega)
      rwa [e2] at this
    · have := gen34 (stV k n g) w (by omega) (by omega)
      rwa [e3] at this
    · have := check28 (stV k n g) w (by omega) (by omega)
      rwa [show ckE (stV k n g) = 0 from by simp [ckE, e1, e2, e3, h]] at this
def DescCase (g : Int) (c : Bool) (V E : Int) : Prop := Says 18 #[.int .u64 g, .bool c] (.tuple #[.int .u64 V, .int .i64 E]) ∧
  (E = 0 ∧ Says 20 #[.int .u64 V] (.int .u64 g) ∧ Says 22 #[.int .u64 V] (.bool c) ∨ E = 2)
theorem desc_case (g : Int) (c : Bool) (h3 : 0 ≤ g) (h4 : g ≤ 18446744073709551615) : ∃ V E, DescCase g c V E := by
  refine ⟨descV g c, descE g, fun w => desc18 _ _ _ h3 h4, ?_⟩
  by_cases h : 1099511627775 < g
  · right; simp only [descE, h, if_true]
  · left
    have e : descV g c = if c then 2 * g + 1 else 2 * g := by simp only [descV, h, if_false]
    have e1 : 0 ≤ descV g c := by rw [e]; split <;> omega
    have e2 : descV g c ≤ 18446744073709551615 := by rw [e]; split <;> omega
    refine ⟨by simp only [descE, h, if_false], fun w => ?_, fun w => ?_⟩
    · have := gen20 (descV g c) w e1 e2
      rwa [show descV g c / 2 = g from by rw [e]; split <;> omega] at this
    · have := comm22 (descV g c) w e1 e2
      rwa [show isOdd (descV g c) = c from by rw [e]; unfold isOdd; cases c <;> simp <;> omega] at this
theorem known_says : Says 38 #[] (.bool true) := known38

set_option maxRecDepth 100000 in
set_option maxHeartbeats 4000000 in
theorem walk_core (k n tag tower g : Int) (c : Bool) (V E V2 E2 V3 E3 : Int) (t : TopCase tag tower V E) (s : StateCase k n g V2 E2) (d : DescCase g c V3 E3) (W : World) :
    Calls Try.prog 11 #[.int .u8 k, .int .i64 n, .agg #[.int .u64 tag, .int .i64 tower, .int .u64 g, .bool c]] W fun e W' => e = .returned (.bool true) ∧ Below W.heap.size W W' := by
  obtain ⟨t0, t1⟩ := t
  obtain ⟨s0, s1⟩ := s
  obtain ⟨d0, d1⟩ := d
  have K := Lib.hid known_says
  have T0 := Lib.hid t0
  have S0 := Lib.hid s0
  have D0 := Lib.hid d0
  clear t0 s0 d0
  have T : (∃ x : Hid (Says 14 #[.int .u64 V] (.int .u64 tag)) ∧ Hid (Says 16 #[.int .u64 V] (.int .i64 tower)), E = 0) ∨ E = 2 := by
    rcases t1 with ⟨a, b, c⟩ | a
    · exact .inl ⟨⟨Lib.hid b, Lib.hid c⟩, a⟩
    · exact .inr a
  have S : (∃ x : Hid (Says 30 #[.int .u64 V2] (.int .u8 k)) ∧ Hid (Says 32 #[.int .u64 V2] (.int .i64 n)) ∧ Hid (Says 34 #[.int .u64 V2] (.int .u64 g)) ∧ Hid (Says 28 #[.int .u64 V2] (.int .i64 0)), E2 = 0) ∨ E2 = 2 := by
    rcases s1 with ⟨a, b, c, d, e⟩ | a
    · exact .inl ⟨⟨Lib.hid b, Lib.hid c, Lib.hid d, Lib.hid e⟩, a⟩
    · exact .inr a
  have D : (∃ x : Hid (Says 20 #[.int .u64 V3] (.int .u64 g)) ∧ Hid (Says 22 #[.int .u64 V3] (.bool c)), E3 = 0) ∨ E3 = 2 := by
    rcases d1 with ⟨a, b, c⟩ | a
    · exact .inl ⟨⟨Lib.hid b, Lib.hid c⟩, a⟩
    · exact .inr a
  clear t1 s1 d1
  rcases T with ⟨⟨T1, T2⟩, rfl⟩ | rfl
  all_goals
    rcases S with ⟨⟨S1, S2, S3, S4⟩, rfl⟩ | rfl
    all_goals
      rcases D with ⟨⟨D1, D2⟩, rfl⟩ | rfl
  · go_enter Try.func11, Try.ntmps11
    go_wp2_with (first | (go_at_call 12; refine (Says.at T0 _).mono ?_; rintro e w' ⟨rfl, rfl⟩) | (go_at_call 26; refine (Says.at S0 _).mono ?_; rintro e w' ⟨rfl, rfl⟩) | (go_at_call 18; refine (Says.at D0 _).mono ?_; rintro e w' ⟨rfl, rfl⟩) | (go_at_call 38; refine (Says.at K _).mono ?_; rintro e w' ⟨rfl, rfl⟩))
    go_quiet ((first | (go_at_call 14; first | exact Says.q T1 | exact Says.qa T1) | (go_at_call 16; first | exact Says.q T2 | exact Says.qa T2)))
    go_wp2_with (first | (go_at_call 12; refine (Says.at T0 _).mono ?_; rintro e w' ⟨rfl, rfl⟩) | (go_at_call 26; refine (Says.at S0 _).mono ?_; rintro e w' ⟨rfl, rfl⟩) | (go_at_call 18; refine (Says.at D0 _).mono ?_; rintro e w' ⟨rfl, rfl⟩) | (go_at_call 38; refine (Says.at K _).mono ?_; rintro e w' ⟨rfl, rfl⟩))
    go_quiet ((first | (go_at_call 30; first | exact Says.q S1 | exact Says.qa S1) | (go_at_call 32; first | exact Says.q S2 | exact Says.qa S2) | (go_at_call 34; first | exact Says.q S3 | exact Says.qa S3) | (go_at_call 28; first | exact Says.q S4 | exact Says.qa S4)))
    go_wp2_with (first | (go_at_call 12; refine (Says.at T0 _).mono ?_; rintro e w' ⟨rfl, rfl⟩) | (go_at_call 26; refine (Says.at S0 _).mono ?_; rintro e w' ⟨rfl, rfl⟩) | (go_at_call 18; refine (Says.at D0 _).mono ?_; rintro e w' ⟨rfl, rfl⟩) | (go_at_call 38; refine (Says.at K _).mono ?_; rintro e w' ⟨rfl, rfl⟩))
    go_quiet ((first | (go_at_call 20; first | exact Says.q D1 | exact Says.qa D1) | (go_at_call 22; first | exact Says.q D2 | exact Says.qa D2)))
    go_wp2_with (first | (go_at_call 12; refine (Says.at T0 _).mono ?_; rintro e w' ⟨rfl, rfl⟩) | (go_at_call 26; refine (Says.at S0 _).mono ?_; rintro e w' ⟨rfl, rfl⟩) | (go_at_call 18; refine (Says.at D0 _).mono ?_; rintro e w' ⟨rfl, rfl⟩) | (go_at_call 38; refine (Says.at K _).mono ?_; rintro e w' ⟨rfl, rfl⟩))
    go_ret
    exact ⟨rfl, below_drewN ((Below.refl _ _).alloc (Nat.le_refl _) _) _⟩
  · go_enter Try.func11, Try.ntmps11
    go_wp2_with (first | (go_at_call 12; refine (Says.at T0 _).mono ?_; rintro e w' ⟨rfl, rfl⟩) | (go_at_call 26; refine (Says.at S0 _).mono ?_; rintro e w' ⟨rfl, rfl⟩) | (go_at_call 18; refine (Says.at D0 _).mono ?_; rintro e w' ⟨rfl, rfl⟩) | (go_at_call 38; refine (Says.at K _).mono ?_; rintro e w' ⟨rfl, rfl⟩))
    go_quiet ((first | (go_at_call 14; first | exact Says.q T1 | exact Says.qa T1) | (go_at_call 16; first | exact Says.q T2 | exact Says.qa T2)))
    go_wp2_with (first | (go_at_call 12; refine (Says.at T0 _).mono ?_; rintro e w' ⟨rfl, rfl⟩) | (go_at_call 26; refine (Says.at S0 _).mono ?_; rintro e w' ⟨rfl, rfl⟩) | (go_at_call 18; refine (Says.at D0 _).mono ?_; rintro e w' ⟨rfl, rfl⟩) | (go_at_call 38; refine (Says.at K _).mono ?_; rintro e w' ⟨rfl, rfl⟩))
    go_quiet ((first | (go_at_call 30; first | exact Says.q S1 | exact Says.qa S1) | (go_at_call 32; first | exact Says.q S2 | exact Says.qa S2) | (go_at_call 34; first | exact Says.q S3 | exact Says.qa S3) | (go_at_call 28; first | exact Says.q S4 | exact Says.qa S4)))
    go_wp2_with (first | (go_at_call 12; refine (Says.at T0 _).mono ?_; rintro e w' ⟨rfl, rfl⟩) | (go_at_call 26; refine (Says.at S0 _).mono ?_; rintro e w' ⟨rfl, rfl⟩) | (go_at_call 18; refine (Says.at D0 _).mono ?_; rintro e w' ⟨rfl, rfl⟩) | (go_at_call 38; refine (Says.at K _).mono ?_; rintro e w' ⟨rfl, rfl⟩))
    go_quiet (fail)
    go_wp2_with (first | (go_at_call 12; refine (Says.at T0 _).mono ?_; rintro e w' ⟨rfl, rfl⟩) | (go_at_call 26; refine (Says.at S0 _).mono ?_; rintro e w' ⟨rfl, rfl⟩) | (go_at_call 18; refine (Says.at D0 _).mono ?_; rintro e w' ⟨rfl, rfl⟩) | (go_at_call 38; refine (Says.at K _).mono ?_; rintro e w' ⟨rfl, rfl⟩))
    go_ret
    exact ⟨rfl, below_drewN ((Below.refl _ _).alloc (Nat.le_refl _) _) _⟩
  · go_enter Try.func11, Try.ntmps11
    go_wp2_with (first | (go_at_call 12; refine (Says.at T0 _).mono ?_; rintro e w' ⟨rfl, rfl⟩) | (go_at_call 26; refine (Says.at S0 _).mono ?_; rintro e w' ⟨rfl, rfl⟩) | (go_at_call 18; refine (Says.at D0 _).mono ?_; rintro e w' ⟨rfl, rfl⟩) | (go_at_call 38; refine (Says.at K _).mono ?_; rintro e w' ⟨rfl, rfl⟩))
    go_quiet ((first | (go_at_call 14; first | exact Says.q T1 | exact Says.qa T1) | (go_at_call 16; first | exact Says.q T2 | exact Says.qa T2)))
    go_wp2_with (first | (go_at_call 12; refine (Says.at T0 _).mono ?_; rintro e w' ⟨rfl, rfl⟩) | (go_at_call 26; refine (Says.at S0 _).mono ?_; rintro e w' ⟨rfl, rfl⟩) | (go_at_call 18; refine (Says.at D0 _).mono ?_; rintro e w' ⟨rfl, rfl⟩) | (go_at_call 38; refine (Says.at K _).mono ?_; rintro e w' ⟨rfl, rfl⟩))
    go_quiet (fail)
    go_wp2_with (first | (go_at_call 12; refine (Says.at T0 _).mono ?_; rintro e w' ⟨rfl, rfl⟩) | (go_at_call 26; refine (Says.at S0 _).mono ?_; rintro e w' ⟨rfl, rfl⟩) | (go_at_call 18; refine (Says.at D0 _).mono ?_; rintro e w' ⟨rfl, rfl⟩) | (go_at_call 38; refine (Says.at K _).mono ?_; rintro e w' ⟨rfl, rfl⟩))
    go_quiet ((first | (go_at_call 20; first | exact Says.q D1 | exact Says.qa D1) | (go_at_call 22; first | exact Says.q D2 | exact Says.qa D2)))
    go_wp2_with (first | (go_at_call 12; refine (Says.at T0 _).mono ?_; rintro e w' ⟨rfl, rfl⟩) | (go_at_call 26; refine (Says.at S0 _).mono ?_; rintro e w' ⟨rfl, rfl⟩) | (go_at_call 18; refine (Says.at D0 _).mono ?_; rintro e w' ⟨rfl, rfl⟩) | (go_at_call 38; refine (Says.at K _).mono ?_; rintro e w' ⟨rfl, rfl⟩))
    go_ret
    exact ⟨rfl, below_drewN ((Below.refl _ _).alloc (Nat.le_refl _) _) _⟩
  · go_enter Try.func11, Try.ntmps11
    go_wp2_with (first | (go_at_call 12; refine (Says.at T0 _).mono ?_; rintro e w' ⟨rfl, rfl⟩) | (go_at_call 26; refine (Says.at S0 _).mono ?_; rintro e w' ⟨rfl, rfl⟩) | (go_at_call 18; refine (Says.at D0 _).mono ?_; rintro e w' ⟨rfl, rfl⟩) | (go_at_call 38; refine (Says.at K _).mono ?_; rintro e w' ⟨rfl, rfl⟩))
    go_quiet ((first | (go_at_call 14; first | exact Says.q T1 | exact Says.qa T1) | (go_at_call 16; first | exact Says.q T2 | exact Says.qa T2)))
    go_wp2_with (first | (go_at_call 12; refine (Says.at T0 _).mono ?_; rintro e w' ⟨rfl, rfl⟩) | (go_at_call 26; refine (Says.at S0 _).mono ?_; rintro e w' ⟨rfl, rfl⟩) | (go_at_call 18; refine (Says.at D0 _).mono ?_; rintro e w' ⟨rfl, rfl⟩) | (go_at_call 38; refine (Says.at K _).mono ?_; rintro e w' ⟨rfl, rfl⟩))
    go_quiet (fail)
    go_wp2_with (first | (go_at_call 12; refine (Says.at T0 _).mono ?_; rintro e w' ⟨rfl, rfl⟩) | (go_at_call 26; refine (Says.at S0 _).mono ?_; rintro e w' ⟨rfl, rfl⟩) | (go_at_call 18; refine (Says.at D0 _).mono ?_; rintro e w' ⟨rfl, rfl⟩) | (go_at_call 38; refine (Says.at K _).mono ?_; rintro e w' ⟨rfl, rfl⟩))
    go_quiet (fail)
    go_wp2_with (first | (go_at_call 12; refine (Says.at T0 _).mono ?_; rintro e w' ⟨rfl, rfl⟩) | (go_at_call 26; refine (Says.at S0 _).mono ?_; rintro e w' ⟨rfl, rfl⟩) | (go_at_call 18; refine (Says.at D0 _).mono ?_; rintro e w' ⟨rfl, rfl⟩) | (go_at_call 38; refine (Says.at K _).mono ?_; rintro e w' ⟨rfl, rfl⟩))
    go_ret
    exact ⟨rfl, below_drewN ((Below.refl _ _).alloc (Nat.le_refl _) _) _⟩
  · go_enter Try.func11, Try.ntmps11
    go_wp2_with (first | (go_at_call 12; refine (Says.at T0 _).mono ?_; rintro e w' ⟨rfl, rfl⟩) | (go_at_call 26; refine (Says.at S0 _).mono ?_; rintro e w' ⟨rfl, rfl⟩) | (go_at_call 18; refine (Says.at D0 _).mono ?_; rintro e w' ⟨rfl, rfl⟩) | (go_at_call 38; refine (Says.at K _).mono ?_; rintro e w' ⟨rfl, rfl⟩))
    go_quiet (fail)
    go_wp2_with (first | (go_at_call 12; refine (Says.at T0 _).mono ?_; rintro e w' ⟨rfl, rfl⟩) | (go_at_call 26; refine (Says.at S0 _).mono ?_; rintro e w' ⟨rfl, rfl⟩) | (go_at_call 18; refine (Says.at D0 _).mono ?_; rintro e w' ⟨rfl, rfl⟩) | (go_at_call 38; refine (Says.at K _).mono ?_; rintro e w' ⟨rfl, rfl⟩))
    go_quiet ((first | (go_at_call 30; first | exact Says.q S1 | exact Says.qa S1) | (go_at_call 32; first | exact Says.q S2 | exact Says.qa S2) | (go_at_call 34; first | exact Says.q S3 | exact Says.qa S3) | (go_at_call 28; first | exact Says.q S4 | exact Says.qa S4)))
    go_wp2_with (first | (go_at_call 12; refine (Says.at T0 _).mono ?_; rintro e w' ⟨rfl, rfl⟩) | (go_at_call 26; refine (Says.at S0 _).mono ?_; rintro e w' ⟨rfl, rfl⟩) | (go_at_call 18; refine (Says.at D0 _).mono ?_; rintro e w' ⟨rfl, rfl⟩) | (go_at_call 38; refine (Says.at K _).mono ?_; rintro e w' ⟨rfl, rfl⟩))
    go_quiet ((first | (go_at_call 20; first | exact Says.q D1 | exact Says.qa D1) | (go_at_call 22; first | exact Says.q D2 | exact Says.qa D2)))
    go_wp2_with (first | (go_at_call 12; refine (Says.at T0 _).mono ?_; rintro e w' ⟨rfl, rfl⟩) | (go_at_call 26; refine (Says.at S0 _).mono ?_; rintro e w' ⟨rfl, rfl⟩) | (go_at_call 18; refine (Says.at D0 _).mono ?_; rintro e w' ⟨rfl, rfl⟩) | (go_at_call 38; refine (Says.at K _).mono ?_; rintro e w' ⟨rfl, rfl⟩))
    go_ret
    exact ⟨rfl, below_drewN ((Below.refl _ _).alloc (Nat.le_refl _) _) _⟩
  · go_enter Try.func11, Try.ntmps11
    go_wp2_with (first | (go_at_call 12; refine (Says.at T0 _).mono ?_; rintro e w' ⟨rfl, rfl⟩) | (go_at_call 26; refine (Says.at S0 _).mono ?_; rintro e w' ⟨rfl, rfl⟩) | (go_at_call 18; refine (Says.at D0 _).mono ?_; rintro e w' ⟨rfl, rfl⟩) | (go_at_call 38; refine (Says.at K _).mono ?_; rintro e w' ⟨rfl, rfl⟩))
    go_quiet (fail)
    go_wp2_with (first | (go_at_call 12; refine (Says.at T0 _).mono ?_; rintro e w' ⟨rfl, rfl⟩) | (go_at_call 26; refine (Says.at S0 _).mono ?_; rintro e w' ⟨rfl, rfl⟩) | (go_at_call 18; refine (Says.at D0 _).mono ?_; rintro e w' ⟨rfl, rfl⟩) | (go_at_call 38; refine (Says.at K _).mono ?_; rintro e w' ⟨rfl, rfl⟩))
    go_quiet ((first | (go_at_call 30; first | exact Says.q S1 | exact Says.qa S1) | (go_at_call 32; first | exact Says.q S2 | exact Says.qa S2) | (go_at_call 34; first | exact Says.q S3 | exact Says.qa S3) | (go_at_call 28; first | exact Says.q S4 | exact Says.qa S4)))
    go_wp2_with (first | (go_at_call 12; refine (Says.at T0 _).mono ?_; rintro e w' ⟨rfl, rfl⟩) | (go_at_call 26; refine (Says.at S0 _).mono ?_; rintro e w' ⟨rfl, rfl⟩) | (go_at_call 18; refine (Says.at D0 _).mono ?_; rintro e w' ⟨rfl, rfl⟩) | (go_at_call 38; refine (Says.at K _).mono ?_; rintro e w' ⟨rfl, rfl⟩))
    go_quiet (fail)
    go_wp2_with (first | (go_at_call 12; refine (Says.at T0 _).mono ?_; rintro e w' ⟨rfl, rfl⟩) | (go_at_call 26; refine (Says.at S0 _).mono ?_; rintro e w' ⟨rfl, rfl⟩) | (go_at_call 18; refine (Says.at D0 _).mono ?_; rintro e w' ⟨rfl, rfl⟩) | (go_at_call 38; refine (Says.at K _).mono ?_; rintro e w' ⟨rfl, rfl⟩))
    go_ret
    exact ⟨rfl, below_drewN ((Below.refl _ _).alloc (Nat.le_refl _) _) _⟩
  · go_enter Try.func11, Try.ntmps11
    go_wp2_with (first | (go_at_call 12; refine (Says.at T0 _).mono ?_; rintro e w' ⟨rfl, rfl⟩) | (go_at_call 26; refine (Says.at S0 _).mono ?_; rintro e w' ⟨rfl, rfl⟩) | (go_at_call 18; refine (Says.at D0 _).mono ?_; rintro e w' ⟨rfl, rfl⟩) | (go_at_call 38; refine (Says.at K _).mono ?_; rintro e w' ⟨rfl, rfl⟩))
    go_quiet (fail)
    go_wp2_with (first | (go_at_call 12; refine (Says.at T0 _).mono ?_; rintro e w' ⟨rfl, rfl⟩) | (go_at_call 26; refine (Says.at S0 _).mono ?_; rintro e w' ⟨rfl, rfl⟩) | (go_at_call 18; refine (Says.at D0 _).mono ?_; rintro e w' ⟨rfl, rfl⟩) | (go_at_call 38; refine (Says.at K _).mono ?_; rintro e w' ⟨rfl, rfl⟩))
    go_quiet (fail)
    go_wp2_with (first | (go_at_call 12; refine (Says.at T0 _).mono ?_; rintro e w' ⟨rfl, rfl⟩) | (go_at_call 26; refine (Says.at S0 _).mono ?_; rintro e w' ⟨rfl, rfl⟩) | (go_at_call 18; refine (Says.at D0 _).mono ?_; rintro e w' ⟨rfl, rfl⟩) | (go_at_call 38; refine (Says.at K _).mono ?_; rintro e w' ⟨rfl, rfl⟩))
    go_quiet ((first | (go_at_call 20; first | exact Says.q D1 | exact Says.qa D1) | (go_at_call 22; first | exact Says.q D2 | exact Says.qa D2)))
    go_wp2_with (first | (go_at_call 12; refine (Says.at T0 _).mono ?_; rintro e w' ⟨rfl, rfl⟩) | (go_at_call 26; refine (Says.at S0 _).mono ?_; rintro e w' ⟨rfl, rfl⟩) | (go_at_call 18; refine (Says.at D0 _).mono ?_; rintro e w' ⟨rfl, rfl⟩) | (go_at_call 38; refine (Says.at K _).mono ?_; rintro e w' ⟨rfl, rfl⟩))
    go_ret
    exact ⟨rfl, below_drewN ((Below.refl _ _).alloc (Nat.le_refl _) _) _⟩
  · go_enter Try.func11, Try.ntmps11
    go_wp2_with (first | (go_at_call 12; refine (Says.at T0 _).mono ?_; rintro e w' ⟨rfl, rfl⟩) | (go_at_call 26; refine (Says.at S0 _).mono ?_; rintro e w' ⟨rfl, rfl⟩) | (go_at_call 18; refine (Says.at D0 _).mono ?_; rintro e w' ⟨rfl, rfl⟩) | (go_at_call 38; refine (Says.at K _).mono ?_; rintro e w' ⟨rfl, rfl⟩))
    go_quiet (fail)
    go_wp2_with (first | (go_at_call 12; refine (Says.at T0 _).mono ?_; rintro e w' ⟨rfl, rfl⟩) | (go_at_call 26; refine (Says.at S0 _).mono ?_; rintro e w' ⟨rfl, rfl⟩) | (go_at_call 18; refine (Says.at D0 _).mono ?_; rintro e w' ⟨rfl, rfl⟩) | (go_at_call 38; refine (Says.at K _).mono ?_; rintro e w' ⟨rfl, rfl⟩))
    go_quiet (fail)
    go_wp2_with (first | (go_at_call 12; refine (Says.at T0 _).mono ?_; rintro e w' ⟨rfl, rfl⟩) | (go_at_call 26; refine (Says.at S0 _).mono ?_; rintro e w' ⟨rfl, rfl⟩) | (go_at_call 18; refine (Says.at D0 _).mono ?_; rintro e w' ⟨rfl, rfl⟩) | (go_at_call 38; refine (Says.at K _).mono ?_; rintro e w' ⟨rfl, rfl⟩))
    go_quiet (fail)
    go_wp2_with (first | (go_at_call 12; refine (Says.at T0 _).mono ?_; rintro e w' ⟨rfl, rfl⟩) | (go_at_call 26; refine (Says.at S0 _).mono ?_; rintro e w' ⟨rfl, rfl⟩) | (go_at_call 18; refine (Says.at D0 _).mono ?_; rintro e w' ⟨rfl, rfl⟩) | (go_at_call 38; refine (Says.at K _).mono ?_; rintro e w' ⟨rfl, rfl⟩))
    go_ret
    exact ⟨rfl, below_drewN ((Below.refl _ _).alloc (Nat.le_refl _) _) _⟩
theorem walk {H : Type} (enc : TypeId × Value → H) (base : Nat) (W : World) (v0 : Value) (d0 : DataW H) (p0 : List MemPlace) (v1 : Value) (d1 : DataW H) (p1 : List MemPlace) (v2 : Value) (d2 : DataW H) (p2 : List MemPlace)
    (o0 : Value.okWide Try.prog W .any base 5 v0) (h0 : DataW.Trod enc Try.prog W 0 (fun _ => true) true 5 v0 d0 p0)
    (o1 : Value.okWide Try.prog W .any base 3 v1) (h1 : DataW.Trod enc Try.prog W 0 (fun _ => true) true 3 v1 d1 p1)
    (o2 : Value.okWide Try.prog W .any base 51 v2) (h2 : DataW.Trod enc Try.prog W 0 (fun _ => true) true 51 v2 d2 p2) :
    Calls Try.prog 11 #[v0, v1, v2] W fun e W' => e = .returned (.bool true) ∧ Below W.heap.size W W' := by
  obtain ⟨k, rfl, -, -, w0⟩ := open_int Try.underlying5 o0 h0
  obtain ⟨n, rfl, -, -, w1⟩ := open_int Try.underlying3 o1 h1
  obtain ⟨c0, c1, c2, c3, y0, y1, y2, y3, m, rfl, -, -, hy0, hy1, hy2, hy3⟩ := open_agg4 Try.underlying51 (by kernel_rfl) cells51 o2 h2
  obtain ⟨tag, e0, -, wt⟩ := DataW.trod_int Try.underlying22 hy0
  obtain ⟨tower, e1, -, wo⟩ := DataW.trod_int Try.underlying3 hy1
  obtain ⟨g, e2, -, wg⟩ := DataW.trod_int Try.underlying22 hy2
  obtain ⟨c, e3, -⟩ := DataW.trod_bool Try.underlying4 hy3
  simp at e0 e1 e2 e3
  subst e0 e1 e2 e3
  obtain ⟨b0, b0'⟩ := bounds_u8 w0
  obtain ⟨b1, b1'⟩ := bounds_i64 w1
  obtain ⟨b2, b2'⟩ := bounds_u64 wt
  obtain ⟨b3, b3'⟩ := bounds_i64 wo
  obtain ⟨b4, b4'⟩ := bounds_u64 wg
  obtain ⟨V, E, t⟩ := top_case tag tower b2 b2' b3 b3'
  obtain ⟨V2, E2, s⟩ := state_case k n g b0 b0' b1 b1' b4 b4'
  obtain ⟨V3, E3, d⟩ := desc_case g c b4 b4'
  exact walk_core k n tag tower g c V E V2 E2 V3 E3 t s d W

set_option maxRecDepth 100000 in
theorem lifted (os : Os) (started : os.Started) (H : Type) (enc : TypeId × Value → H) :
    ReturnsInHanded {} Try.checked os 11 .any (Rows.fieldPartsSpec.pre6 enc Try.prog Try.f11 Rows.fieldPartsRow.domain false) (Rows.fieldPartsSpec.post enc Try.prog Try.f11 false true false false) := by
  refine returnsInHanded_of_change (C := Try.checked) own started (by kernel_rfl) Try.func11
    (ChangeSpec.witness6 (enc := enc) (C := Try.checked) false ⟨#[], #[.int .u8 0, .int .i64 0, .agg #[.int .u64 0, .int .i64 0, .int .u64 0, .bool false]], []⟩ 12 (by kernel_rfl) (by kernel_rfl) (by kernel_rfl) (by kernel_rfl)) ?_
  intro W base args ds gs before hval0 hW hcnd _
  have hval : ∀ (j : Nat) t v, Try.f11.params[j]? = some t → args[j]? = some v → Value.okWide Try.prog W .any base t v := hval0
  have hW' := hW
  obtain ⟨p, q, hA0, hV, rfl, hfz, hnd⟩ := hW
  have hA : DataW.TrodAll enc Try.prog W 0 (fun _ => true) true Try.f11.params.toList args.toList ds p := hA0
  rw [Try.params11] at hA hval
  obtain ⟨v0, vs0, d0, ds0, p0, q0, hargs, rfl, rfl, h0, r0⟩ := trodAll_cons hA
  obtain ⟨v1, vs1, d1, ds1, p1, q1, rfl, rfl, rfl, h1, r1⟩ := trodAll_cons r0
  obtain ⟨v2, vs2, d2, ds2, p2, q2, rfl, rfl, rfl, h2, r2⟩ := trodAll_cons r1
  obtain ⟨rfl, rfl, rfl⟩ := trodAll_nil r2
  obtain rfl : args = #[v0, v1, v2] := by cases args; simp_all
  obtain ⟨rfl, rfl⟩ := trodVars_none hV
  have lt0 : ∀ x ∈ p0, x.block < W.heap.size := by obtain ⟨m, hm⟩ := h0; exact DataW.trod_lt m _ _ _ hm
  have lt1 : ∀ x ∈ p1, x.block < W.heap.size := by obtain ⟨m, hm⟩ := h1; exact DataW.trod_lt m _ _ _ hm
  have lt2 : ∀ x ∈ p2, x.block < W.heap.size := by obtain ⟨m, hm⟩ := h2; exact DataW.trod_lt m _ _ _ hm
  have k := walk enc base W v0 d0 p0 v1 d1 p1 v2 d2 p2 (hval 0 5 v0 rfl rfl) h0 (hval 1 3 v1 rfl rfl) h1 (hval 2 51 v2 rfl rfl) h2
  clear hA0 hval0
  refine k.mono fun e W' ⟨he, bel⟩ => ?_
  subst he
  exact ⟨_, rfl, _, _, _, [], _, [], hW', trodAll_mk1 (shut_bool Try.underlying4 _), (trodAll_cons_mk (Below.trod laidOut (by kernel_rfl) (of_decide_eq_true (by kernel_rfl)) h0 bel lt0) (trodAll_cons_mk (Below.trod laidOut (by kernel_rfl) (of_decide_eq_true (by kernel_rfl)) h1 bel lt1) (trodAll_cons_mk (Below.trod laidOut (by kernel_rfl) (of_decide_eq_true (by kernel_rfl)) h2 bel lt2) trodAll_mk0))), rfl, bel.frame _, fun h => by cases h⟩

theorem over : Rows.fieldPartsRow.holds Try.pinned (OpenSpec.ofChange Rows.fieldPartsSpec) :=
  OpenClaim.holds_of_wide 11 Try.f11 rfl rfl rfl rfl rfl rfl rfl ⟨rfl, rfl, rfl, rfl, rfl⟩ rfl rfl rfl rfl rfl (by kernel_rfl) Try.func11 (by kernel_rfl)
    (of_decide_eq_true (by kernel_rfl)) (by unfold Func.isWrapper; first | (rw [if_pos (by decide +kernel)]; kernel_rfl) | (rw [if_neg (by decide +kernel)]; exact ⟨rfl, rfl⟩))
    (fun os started H enc _ => lifted os started H enc)

/-- THE STATEMENT -/
theorem proved : Rows.FieldPartsSaid := over
#print axioms proved
end Go.Proofs.Ytiopfakeajofdaa.fieldParts
