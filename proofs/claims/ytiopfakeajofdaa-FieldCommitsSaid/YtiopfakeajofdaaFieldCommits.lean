/-
  For any entry and generations the law FieldCommits returns true: what the commit of a descriptor changes is what the chapter says. No condition.
-/
import Derived.Test.YtiopfakeajofdaaFieldKnown
import Derived.WalkKit
import Derived.ProofKit
import Derived.OpenShut
import Derived.ShutString
import Derived.Lib.SmallJoins
import Derived.Deep.QuietTactic
import Derived.BigQuiet
set_option linter.unusedVariables false
set_option linter.unusedSimpArgs false
namespace Go.Proofs.Ytiopfakeajofdaa.fieldCommits
open Go.ChangeShapes Go.WideShapes Go.ChangeAt Go.RowKit Go.Joins
open Go.ChangeMaps (open_string shut_string)

theorem own : ownKnob Try.prog.godebug = none := by kernel_rfl
theorem laidOut : laidOutB Try.prog = true := by kernel_rfl

theorem cells47 : Try.prog.cellsOf 47 = 4 := by kernel_rfl
/-- what a call answers, whatever the world; the world stays as it was -/
def Says (f : FuncId) (args : Array Value) (v : Value) : Prop := ∀ w, Calls Try.prog f args w fun e w' => e = .returned v ∧ w = w'
theorem Says.at {f : FuncId} {args : Array Value} {v : Value} (h : Hid (Says f args v)) (w : World) : Calls Try.prog f args w fun e w' => e = .returned v ∧ w = w' := h.out w
theorem Says.q {f : FuncId} {args : Array Value} {v : Value} (h : Hid (Says f args v)) {w : World} {n : Nat} :
    Calls Try.prog f args (w.drewN n) fun e w'' => e = .returned v ∧ ∃ m, w'' = w.drewN m :=
  (h.out _).mono fun _ _ ⟨he, hm⟩ => ⟨he, n, hm.symm⟩
theorem Says.qa {f : FuncId} {args : Array Value} {v : Value} (h : Hid (Says f args v)) {w : World} {a n : Nat} :
    Calls Try.prog f args (w.drewN (a + n)) fun e w'' => e = .returned v ∧ ∃ m, w'' = w.drewN (a + m) :=
  (h.out _).mono fun _ _ ⟨he, hm⟩ => ⟨he, n, hm.symm⟩

theorem known_says : Says 38 #[] (.bool true) := known38
def pk (k : Int) (d : Bool) : Bool := k == 1 || k == 3 && d || k == 4 && !d || k == 5
def ak (k : Int) (d : Bool) : Bool := k == 5 && d
theorem state_ok (k n g : Int) (h0 : 0 ≤ k) (h0' : k ≤ 255) (h1 : -9223372036854775808 ≤ n) (h2 : n ≤ 9223372036854775807) (h3 : 0 ≤ g) (h4 : g ≤ 18446744073709551615) (hv : vld k n g = true) :
    Says 26 #[.int .u8 k, .int .i64 n, .int .u64 g] (.tuple #[.int .u64 (k + 8 * n + 65536 * g), .int .i64 0]) := fun w => by
  have := state26 k n g w h0 h0' h1 h2 h3 h4
  simpa only [stV, stE, hv, if_true] using this
theorem dec_ok (k n g D : Int) (h0 : 0 ≤ k) (hv : vld k n g = true) (hg : 0 ≤ g) (hD : 0 ≤ D) (hD' : D / 2 ≤ 1099511627775) (d : Bool) (hd : dcd (k + 8 * n + 65536 * g) D = d) :
    Says 36 #[.int .u64 (k + 8 * n + 65536 * g), .int .u64 D] (.tuple #[.bool (pk k d), .bool (ak k d), .int .i64 0]) := fun w => by
  have hp := (vld_iff k n g).1 hv
  have e1 : (k + 8 * n + 65536 * g) % 8 = k := by omega
  have e2 : (k + 8 * n + 65536 * g) % 65536 / 8 = n := by omega
  have e3 : (k + 8 * n + 65536 * g) / 65536 = g := by omega
  have hC : decC (k + 8 * n + 65536 * g) D = true := by simp only [decC, e1, e2, e3, hv, hD', decide_true, Bool.and_self]
  have := decide36 (k + 8 * n + 65536 * g) D w (by omega) (by omega) hD (by omega)
  simpa only [decP, decA, decE, hC, hd, e1, Bool.true_and, if_true, pk, ak] using this
theorem dcd_of (k n g x : Int) (c : Bool) (h0 : 0 ≤ k) (hv : vld k n g = true) (hg : 0 ≤ g) : dcd (k + 8 * n + 65536 * g) (if c then 2 * x + 1 else 2 * x) = (!(g == x) || c) := by
  have hp := (vld_iff k n g).1 hv
  have e3 : (k + 8 * n + 65536 * g) / 65536 = g := by omega
  have e4 : (if c then 2 * x + 1 else 2 * x) / 2 = x := by split <;> omega
  have e5 : ((if c then 2 * x + 1 else 2 * x) % 2 == 1) = c := by cases c <;> simp <;> omega
  rw [dcd, e3, e4, e5]
  congr 2
  exact Bool.eq_iff_iff.2 (by simp; exact eq_comm)
theorem desc_ok (g : Int) (c : Bool) (h3 : 0 ≤ g) (h4 : g ≤ 1099511627775) : Says 18 #[.int .u64 g, .bool c] (.tuple #[.int .u64 (if c then 2 * g + 1 else 2 * g), .int .i64 0]) := fun w => by
  have := desc18 g c w h3 (by omega)
  have h : ¬ 1099511627775 < g := by omega
  simpa only [descV, descE, h, if_false] using this
theorem desc_no (g : Int) (c : Bool) (h3 : 0 ≤ g) (h4 : g ≤ 18446744073709551615) (h : 1099511627775 < g) : Says 18 #[.int .u64 g, .bool c] (.tuple #[.int .u64 0, .int .i64 2]) := fun w => by
  have := desc18 g c w h3 (by omega)
  simpa only [descV, descE, h, if_true] using this

set_option maxRecDepth 100000 in
set_option maxHeartbeats 8000000 in
theorem core_gg (k n of gen later : Int) (c : Bool) (V A B C : Int) (x : Bool) (S0 : Hid (Says 26 #[.int .u8 k, .int .i64 n, .int .u64 of] (.tuple #[.int .u64 V, .int .i64 0])))
    (D1 : Hid (Says 18 #[.int .u64 gen, .bool false] (.tuple #[.int .u64 A, .int .i64 0]))) (D2 : Hid (Says 18 #[.int .u64 gen, .bool true] (.tuple #[.int .u64 B, .int .i64 0]))) (D3 : Hid (Says 18 #[.int .u64 later, .bool c] (.tuple #[.int .u64 C, .int .i64 0])))
    (hk : k = 0 ∨ k = 1 ∨ k = 2 ∨ k = 3 ∨ k = 4 ∨ k = 5)
    (P1 : Says 36 #[.int .u64 V, .int .u64 A] (.tuple #[.bool (pk k false), .bool (ak k false), .int .i64 0])) (P2 : Says 36 #[.int .u64 V, .int .u64 B] (.tuple #[.bool (pk k true), .bool (ak k true), .int .i64 0])) (P3 : Says 36 #[.int .u64 V, .int .u64 C] (.tuple #[.bool (pk k x), .bool (ak k x), .int .i64 0]))
    (hg : (of == gen) = true) (hg2 : (of != gen) = false) (hl2 : (of != later) = false) (W : World) :
    Calls Try.prog 9 #[.int .u8 k, .int .i64 n, .agg #[.int .u64 of, .int .u64 gen, .int .u64 later, .bool c]] W fun e W' => e = .returned (.bool true) ∧ Below W.heap.size W W' := by
  have K := Lib.hid known_says
  rcases hk with rfl | rfl | rfl | rfl | rfl | rfl
  all_goals
    simp [pk, ak] at P1 P2 P3
    have Q1 := Lib.hid P1
    have Q2 := Lib.hid P2
    have Q3 := Lib.hid P3
    clear P1 P2 P3
    go_enter Try.func9, Try.ntmps9
    go_wp2_with (first | (go_at_call 26; (with_reducible refine (Says.at S0 _).mono ?_); rintro e w' ⟨rfl, rfl⟩) | (go_at_call 18; first | ((with_reducible refine (Says.at D1 _).mono ?_); rintro e w' ⟨rfl, rfl⟩) | ((with_reducible refine (Says.at D2 _).mono ?_); rintro e w' ⟨rfl, rfl⟩) | ((with_reducible refine (Says.at D3 _).mono ?_); rintro e w' ⟨rfl, rfl⟩)) | (go_at_call 36; first | ((with_reducible refine (Says.at Q1 _).mono ?_); rintro e w' ⟨rfl, rfl⟩) | ((with_reducible refine (Says.at Q2 _).mono ?_); rintro e w' ⟨rfl, rfl⟩) | ((with_reducible refine (Says.at Q3 _).mono ?_); rintro e w' ⟨rfl, rfl⟩)) | (go_at_call 38; (with_reducible refine (Says.at K _).mono ?_); rintro e w' ⟨rfl, rfl⟩))
    go_ret
    exact ⟨rfl, (Below.refl _ _).alloc (Nat.le_refl _) _⟩

set_option maxRecDepth 100000 in
set_option maxHeartbeats 8000000 in
theorem core_gn (k n of gen later : Int) (c : Bool) (V A B C : Int) (x : Bool) (S0 : Hid (Says 26 #[.int .u8 k, .int .i64 n, .int .u64 of] (.tuple #[.int .u64 V, .int .i64 0])))
    (D1 : Hid (Says 18 #[.int .u64 gen, .bool false] (.tuple #[.int .u64 A, .int .i64 0]))) (D2 : Hid (Says 18 #[.int .u64 gen, .bool true] (.tuple #[.int .u64 B, .int .i64 0]))) (D3 : Hid (Says 18 #[.int .u64 later, .bool c] (.tuple #[.int .u64 C, .int .i64 0])))
    (hk : k = 0 ∨ k = 1 ∨ k = 2 ∨ k = 3 ∨ k = 4 ∨ k = 5)
    (P1 : Says 36 #[.int .u64 V, .int .u64 A] (.tuple #[.bool (pk k false), .bool (ak k false), .int .i64 0])) (P2 : Says 36 #[.int .u64 V, .int .u64 B] (.tuple #[.bool (pk k true), .bool (ak k true), .int .i64 0])) (P3 : Says 36 #[.int .u64 V, .int .u64 C] (.tuple #[.bool (pk k true), .bool (ak k true), .int .i64 0]))
    (hg : (of == gen) = true) (hg2 : (of != gen) = false) (hl2 : (of != later) = true) (W : World) :
    Calls Try.prog 9 #[.int .u8 k, .int .i64 n, .agg #[.int .u64 of, .int .u64 gen, .int .u64 later, .bool c]] W fun e W' => e = .returned (.bool true) ∧ Below W.heap.size W W' := by
  have K := Lib.hid known_says
  rcases hk with rfl | rfl | rfl | rfl | rfl | rfl
  all_goals
    simp [pk, ak] at P1 P2 P3
    have Q1 := Lib.hid P1
    have Q2 := Lib.hid P2
    have Q3 := Lib.hid P3
    clear P1 P2 P3
    go_enter Try.func9, Try.ntmps9
    go_wp2_with (first | (go_at_call 26; (with_reducible refine (Says.at S0 _).mono ?_); rintro e w' ⟨rfl, rfl⟩) | (go_at_call 18; first | ((with_reducible refine (Says.at D1 _).mono ?_); rintro e w' ⟨rfl, rfl⟩) | ((with_reducible refine (Says.at D2 _).mono ?_); rintro e w' ⟨rfl, rfl⟩) | ((with_reducible refine (Says.at D3 _).mono ?_); rintro e w' ⟨rfl, rfl⟩)) | (go_at_call 36; first | ((with_reducible refine (Says.at Q1 _).mono ?_); rintro e w' ⟨rfl, rfl⟩) | ((with_reducible refine (Says.at Q2 _).mono ?_); rintro e w' ⟨rfl, rfl⟩) | ((with_reducible refine (Says.at Q3 _).mono ?_); rintro e w' ⟨rfl, rfl⟩)) | (go_at_call 38; (with_reducible refine (Says.at K _).mono ?_); rintro e w' ⟨rfl, rfl⟩))
    go_ret
    exact ⟨rfl, (Below.refl _ _).alloc (Nat.le_refl _) _⟩

set_option maxRecDepth 100000 in
set_option maxHeartbeats 8000000 in
theorem core_ng (k n of gen later : Int) (c : Bool) (V A B C : Int) (x : Bool) (S0 : Hid (Says 26 #[.int .u8 k, .int .i64 n, .int .u64 of] (.tuple #[.int .u64 V, .int .i64 0])))
    (D1 : Hid (Says 18 #[.int .u64 gen, .bool false] (.tuple #[.int .u64 A, .int .i64 0]))) (D2 : Hid (Says 18 #[.int .u64 gen, .bool true] (.tuple #[.int .u64 B, .int .i64 0]))) (D3 : Hid (Says 18 #[.int .u64 later, .bool c] (.tuple #[.int .u64 C, .int .i64 0])))
    (hk : k = 0 ∨ k = 1 ∨ k = 2 ∨ k = 3 ∨ k = 4 ∨ k = 5)
    (P1 : Says 36 #[.int .u64 V, .int .u64 A] (.tuple #[.bool (pk k true), .bool (ak k true), .int .i64 0])) (P2 : Says 36 #[.int .u64 V, .int .u64 B] (.tuple #[.bool (pk k true), .bool (ak k true), .int .i64 0])) (P3 : Says 36 #[.int .u64 V, .int .u64 C] (.tuple #[.bool (pk k x), .bool (ak k x), .int .i64 0]))
    (hg : (of == gen) = false) (hg2 : (of != gen) = true) (hl2 : (of != later) = false) (W : World) :
    Calls Try.prog 9 #[.int .u8 k, .int .i64 n, .agg #[.int .u64 of, .int .u64 gen, .int .u64 later, .bool c]] W fun e W' => e = .returned (.bool true) ∧ Below W.heap.size W W' := by
  have K := Lib.hid known_says
  rcases hk with rfl | rfl | rfl | rfl | rfl | rfl
  all_goals
    simp [pk, ak] at P1 P2 P3
    have Q1 := Lib.hid P1
    have Q2 := Lib.hid P2
    have Q3 := Lib.hid P3
    clear P1 P2 P3
    go_enter Try.func9, Try.ntmps9
    go_wp2_with (first | (go_at_call 26; (with_reducible refine (Says.at S0 _).mono ?_); rintro e w' ⟨rfl, rfl⟩) | (go_at_call 18; first | ((with_reducible refine (Says.at D1 _).mono ?_); rintro e w' ⟨rfl, rfl⟩) | ((with_reducible refine (Says.at D2 _).mono ?_); rintro e w' ⟨rfl, rfl⟩) | ((with_reducible refine (Says.at D3 _).mono ?_); rintro e w' ⟨rfl, rfl⟩)) | (go_at_call 36; first | ((with_reducible refine (Says.at Q1 _).mono ?_); rintro e w' ⟨rfl, rfl⟩) | ((with_reducible refine (Says.at Q2 _).mono ?_); rintro e w' ⟨rfl, rfl⟩) | ((with_reducible refine (Says.at Q3 _).mono ?_); rintro e w' ⟨rfl, rfl⟩)) | (go_at_call 38; (with_reducible refine (Says.at K _).mono ?_); rintro e w' ⟨rfl, rfl⟩))
    go_ret
    exact ⟨rfl, (Below.refl _ _).alloc (Nat.le_refl _) _⟩

set_option maxRecDepth 100000 in
set_option maxHeartbeats 8000000 in
theorem core_nn (k n of gen later : Int) (c : Bool) (V A B C : Int) (x : Bool) (S0 : Hid (Says 26 #[.int .u8 k, .int .i64 n, .int .u64 of] (.tuple #[.int .u64 V, .int .i64 0])))
    (D1 : Hid (Says 18 #[.int .u64 gen, .bool false] (.tuple #[.int .u64 A, .int .i64 0]))) (D2 : Hid (Says 18 #[.int .u64 gen, .bool true] (.tuple #[.int .u64 B, .int .i64 0]))) (D3 : Hid (Says 18 #[.int .u64 later, .bool c] (.tuple #[.int .u64 C, .int .i64 0])))
    (hk : k = 0 ∨ k = 1 ∨ k = 2 ∨ k = 3 ∨ k = 4 ∨ k = 5)
    (P1 : Says 36 #[.int .u64 V, .int .u64 A] (.tuple #[.bool (pk k true), .bool (ak k true), .int .i64 0])) (P2 : Says 36 #[.int .u64 V, .int .u64 B] (.tuple #[.bool (pk k true), .bool (ak k true), .int .i64 0])) (P3 : Says 36 #[.int .u64 V, .int .u64 C] (.tuple #[.bool (pk k true), .bool (ak k true), .int .i64 0]))
    (hg : (of == gen) = false) (hg2 : (of != gen) = true) (hl2 : (of != later) = true) (W : World) :
    Calls Try.prog 9 #[.int .u8 k, .int .i64 n, .agg #[.int .u64 of, .int .u64 gen, .int .u64 later, .bool c]] W fun e W' => e = .returned (.bool true) ∧ Below W.heap.size W W' := by
  have K := Lib.hid known_says
  rcases hk with rfl | rfl | rfl | rfl | rfl | rfl
  all_goals
    simp [pk, ak] at P1 P2 P3
    have Q1 := Lib.hid P1
    have Q2 := Lib.hid P2
    have Q3 := Lib.hid P3
    clear P1 P2 P3
    go_enter Try.func9, Try.ntmps9
    go_wp2_with (first | (go_at_call 26; (with_reducible refine (Says.at S0 _).mono ?_); rintro e w' ⟨rfl, rfl⟩) | (go_at_call 18; first | ((with_reducible refine (Says.at D1 _).mono ?_); rintro e w' ⟨rfl, rfl⟩) | ((with_reducible refine (Says.at D2 _).mono ?_); rintro e w' ⟨rfl, rfl⟩) | ((with_reducible refine (Says.at D3 _).mono ?_); rintro e w' ⟨rfl, rfl⟩)) | (go_at_call 36; first | ((with_reducible refine (Says.at Q1 _).mono ?_); rintro e w' ⟨rfl, rfl⟩) | ((with_reducible refine (Says.at Q2 _).mono ?_); rintro e w' ⟨rfl, rfl⟩) | ((with_reducible refine (Says.at Q3 _).mono ?_); rintro e w' ⟨rfl, rfl⟩)) | (go_at_call 38; (with_reducible refine (Says.at K _).mono ?_); rintro e w' ⟨rfl, rfl⟩))
    go_ret
    exact ⟨rfl, (Below.refl _ _).alloc (Nat.le_refl _) _⟩

set_option maxRecDepth 100000 in
set_option maxHeartbeats 2000000 in
theorem e1 (k n of gen later : Int) (c : Bool) (V A B C X1 X2 : Int) (S0 : Hid (Says 26 #[.int .u8 k, .int .i64 n, .int .u64 of] (.tuple #[.int .u64 V, .int .i64 2])))
    (D1 : Hid (Says 18 #[.int .u64 gen, .bool false] (.tuple #[.int .u64 A, .int .i64 X1]))) (D2 : Hid (Says 18 #[.int .u64 gen, .bool true] (.tuple #[.int .u64 B, .int .i64 X1]))) (D3 : Hid (Says 18 #[.int .u64 later, .bool c] (.tuple #[.int .u64 C, .int .i64 X2]))) (W : World) :
    Calls Try.prog 9 #[.int .u8 k, .int .i64 n, .agg #[.int .u64 of, .int .u64 gen, .int .u64 later, .bool c]] W fun e W' => e = .returned (.bool true) ∧ Below W.heap.size W W' := by
  have K := Lib.hid known_says
  go_enter Try.func9, Try.ntmps9
  go_wp2_with (first | (go_at_call 26; (with_reducible refine (Says.at S0 _).mono ?_); rintro e w' ⟨rfl, rfl⟩) | (go_at_call 18; first | ((with_reducible refine (Says.at D1 _).mono ?_); rintro e w' ⟨rfl, rfl⟩) | ((with_reducible refine (Says.at D2 _).mono ?_); rintro e w' ⟨rfl, rfl⟩) | ((with_reducible refine (Says.at D3 _).mono ?_); rintro e w' ⟨rfl, rfl⟩)) | (go_at_call 38; (with_reducible refine (Says.at K _).mono ?_); rintro e w' ⟨rfl, rfl⟩))
  go_ret
  exact ⟨rfl, (Below.refl _ _).alloc (Nat.le_refl _) _⟩

set_option maxRecDepth 100000 in
set_option maxHeartbeats 2000000 in
theorem e2 (k n of gen later : Int) (c : Bool) (V A B C X1 X2 : Int) (S0 : Hid (Says 26 #[.int .u8 k, .int .i64 n, .int .u64 of] (.tuple #[.int .u64 V, .int .i64 0])))
    (D1 : Hid (Says 18 #[.int .u64 gen, .bool false] (.tuple #[.int .u64 A, .int .i64 2]))) (D2 : Hid (Says 18 #[.int .u64 gen, .bool true] (.tuple #[.int .u64 B, .int .i64 2]))) (D3 : Hid (Says 18 #[.int .u64 later, .bool c] (.tuple #[.int .u64 C, .int .i64 X2]))) (W : World) :
    Calls Try.prog 9 #[.int .u8 k, .int .i64 n, .agg #[.int .u64 of, .int .u64 gen, .int .u64 later, .bool c]] W fun e W' => e = .returned (.bool true) ∧ Below W.heap.size W W' := by
  have K := Lib.hid known_says
  go_enter Try.func9, Try.ntmps9
  go_wp2_with (first | (go_at_call 26; (with_reducible refine (Says.at S0 _).mono ?_); rintro e w' ⟨rfl, rfl⟩) | (go_at_call 18; first | ((with_reducible refine (Says.at D1 _).mono ?_); rintro e w' ⟨rfl, rfl⟩) | ((with_reducible refine (Says.at D2 _).mono ?_); rintro e w' ⟨rfl, rfl⟩) | ((with_reducible refine (Says.at D3 _).mono ?_); rintro e w' ⟨rfl, rfl⟩)) | (go_at_call 38; (with_reducible refine (Says.at K _).mono ?_); rintro e w' ⟨rfl, rfl⟩))
  go_ret
  exact ⟨rfl, (Below.refl _ _).alloc (Nat.le_refl _) _⟩

set_option maxRecDepth 100000 in
set_option maxHeartbeats 2000000 in
theorem e3 (k n of gen later : Int) (c : Bool) (V A B C X1 X2 : Int) (S0 : Hid (Says 26 #[.int .u8 k, .int .i64 n, .int .u64 of] (.tuple #[.int .u64 V, .int .i64 0])))
    (D1 : Hid (Says 18 #[.int .u64 gen, .bool false] (.tuple #[.int .u64 A, .int .i64 0]))) (D2 : Hid (Says 18 #[.int .u64 gen, .bool true] (.tuple #[.int .u64 B, .int .i64 0]))) (D3 : Hid (Says 18 #[.int .u64 later, .bool c] (.tuple #[.int .u64 C, .int .i64 2]))) (W : World) :
    Calls Try.prog 9 #[.int .u8 k, .int .i64 n, .agg #[.int .u64 of, .int .u64 gen, .int .u64 later, .bool c]] W fun e W' => e = .returned (.bool true) ∧ Below W.heap.size W W' := by
  have K := Lib.hid known_says
  go_enter Try.func9, Try.ntmps9
  go_wp2_with (first | (go_at_call 26; (with_reducible refine (Says.at S0 _).mono ?_); rintro e w' ⟨rfl, rfl⟩) | (go_at_call 18; first | ((with_reducible refine (Says.at D1 _).mono ?_); rintro e w' ⟨rfl, rfl⟩) | ((with_reducible refine (Says.at D2 _).mono ?_); rintro e w' ⟨rfl, rfl⟩) | ((with_reducible refine (Says.at D3 _).mono ?_); rintro e w' ⟨rfl, rfl⟩)) | (go_at_call 38; (with_reducible refine (Says.at K _).mono ?_); rintro e w' ⟨rfl, rfl⟩))
  go_ret
  exact ⟨rfl, (Below.refl _ _).alloc (Nat.le_refl _) _⟩

theorem walk {H : Type} (enc : TypeId × Value → H) (base : Nat) (W : World) (v0 : Value) (d0 : DataW H) (p0 : List MemPlace) (v1 : Value) (d1 : DataW H) (p1 : List MemPlace) (v2 : Value) (d2 : DataW H) (p2 : List MemPlace)
    (o0 : Value.okWide Try.prog W .any base 5 v0) (h0 : DataW.Trod enc Try.prog W 0 (fun _ => true) true 5 v0 d0 p0)
    (o1 : Value.okWide Try.prog W .any base 3 v1) (h1 : DataW.Trod enc Try.prog W 0 (fun _ => true) true 3 v1 d1 p1)
    (o2 : Value.okWide Try.prog W .any base 47 v2) (h2 : DataW.Trod enc Try.prog W 0 (fun _ => true) true 47 v2 d2 p2) :
    Calls Try.prog 9 #[v0, v1, v2] W fun e W' => e = .returned (.bool true) ∧ Below W.heap.size W W' := by
  obtain ⟨k, rfl, -, -, w0⟩ := open_int Try.underlying5 o0 h0
  obtain ⟨n, rfl, -, -, w1⟩ := open_int Try.underlying3 o1 h1
  obtain ⟨c0, c1, c2, c3, y0, y1, y2, y3, m, rfl, -, -, hy0, hy1, hy2, hy3⟩ := open_agg4 Try.underlying47 (by kernel_rfl) cells47 o2 h2
  obtain ⟨of, e0, -, wt⟩ := DataW.trod_int Try.underlying22 hy0
  obtain ⟨gen, e1, -, wo⟩ := DataW.trod_int Try.underlying22 hy1
  obtain ⟨later, e2, -, wg⟩ := DataW.trod_int Try.underlying22 hy2
  obtain ⟨c, e3, -⟩ := DataW.trod_bool Try.underlying4 hy3
  simp at e0 e1 e2 e3
  subst e0 e1 e2 e3
  obtain ⟨b0, b0'⟩ := bounds_u8 w0
  obtain ⟨b1, b1'⟩ := bounds_i64 w1
  obtain ⟨b2, b2'⟩ := bounds_u64 wt
  obtain ⟨b3, b3'⟩ := bounds_u64 wo
  obtain ⟨b4, b4'⟩ := bounds_u64 wg
  cases hv : vld k n of
  · have S0 : Says 26 #[.int .u8 k, .int .i64 n, .int .u64 of] (.tuple #[.int .u64 0, .int .i64 2]) := fun w => by
      have := state26 k n of w b0 b0' b1 b1' b2 b2'
      simpa only [stV, stE, hv, if_false, Bool.false_eq_true] using this
    have D : ∀ g c', 0 ≤ g → g ≤ 18446744073709551615 → Says 18 #[.int .u64 g, .bool c'] (.tuple #[.int .u64 (descV g c'), .int .i64 (descE g)]) := fun g c' h h' w => desc18 g c' w h h'
    exact e1 k n of gen later c 0 (descV gen false) (descV gen true) (descV later c) (descE gen) (descE later) (Lib.hid S0) (Lib.hid (D _ _ b3 b3')) (Lib.hid (D _ _ b3 b3')) (Lib.hid (D _ _ b4 b4')) W
  · have S0 := Lib.hid (state_ok k n of b0 b0' b1 b1' b2 b2' hv)
    by_cases hgen : 1099511627775 < gen
    · have D3 : Says 18 #[.int .u64 later, .bool c] (.tuple #[.int .u64 (descV later c), .int .i64 (descE later)]) := fun w => desc18 later c w b4 b4'
      exact e2 k n of gen later c _ 0 0 (descV later c) 0 (descE later) S0 (Lib.hid (desc_no _ _ b3 b3' hgen)) (Lib.hid (desc_no _ _ b3 b3' hgen)) (Lib.hid D3) W
    · have D1 := desc_ok gen false b3 (by omega)
      have D2 := desc_ok gen true b3 (by omega)
      by_cases hlat : 1099511627775 < later
      · exact e3 k n of gen later c _ _ _ 0 0 0 S0 (Lib.hid D1) (Lib.hid D2) (Lib.hid (desc_no _ _ b4 b4' hlat)) W
      · have D3 := desc_ok later c b4 (by omega)
        have hk : k = 0 ∨ k = 1 ∨ k = 2 ∨ k = 3 ∨ k = 4 ∨ k = 5 := by have := (vld_iff k n of).1 hv; omega
        have P1 := dec_ok k n of _ b0 hv b2 (by omega) (by omega) _ (dcd_of k n of gen false b0 hv b2)
        have P2 := dec_ok k n of _ b0 hv b2 (by omega) (by omega) _ (dcd_of k n of gen true b0 hv b2)
        have P3 := dec_ok k n of (if c then 2 * later + 1 else 2 * later) b0 hv b2 (by split <;> omega) (by split <;> omega) _ (dcd_of k n of later c b0 hv b2)
        rw [Bool.or_true] at P2
        rw [Bool.or_false] at P1
        by_cases hg : of = gen
        · have g1 : (of == gen) = true := beq_iff_eq.2 hg
          have g2 : (of != gen) = false := by rw [bne, g1]; rfl
          rw [g1] at P1
          by_cases hl : of = later
          · have l1 : (of == later) = true := beq_iff_eq.2 hl
            have l2 : (of != later) = false := by rw [bne, l1]; rfl
            exact core_gg k n of gen later c _ _ _ _ _ S0 (Lib.hid D1) (Lib.hid D2) (Lib.hid D3) hk P1 P2 P3 g1 g2 l2 W
          · have l1 : (of == later) = false := beq_eq_false_iff_ne.2 hl
            have l2 : (of != later) = true := by rw [bne, l1]; rfl
            rw [l1] at P3
            exact core_gn k n of gen later c _ _ _ _ true S0 (Lib.hid D1) (Lib.hid D2) (Lib.hid D3) hk P1 P2 P3 g1 g2 l2 W
        · have g1 : (of == gen) = false := beq_eq_false_iff_ne.2 hg
          have g2 : (of != gen) = true := by rw [bne, g1]; rfl
          rw [g1] at P1
          by_cases hl : of = later
          · have l1 : (of == later) = true := beq_iff_eq.2 hl
            have l2 : (of != later) = false := by rw [bne, l1]; rfl
            exact core_ng k n of gen later c _ _ _ _ _ S0 (Lib.hid D1) (Lib.hid D2) (Lib.hid D3) hk P1 P2 P3 g1 g2 l2 W
          · have l1 : (of == later) = false := beq_eq_false_iff_ne.2 hl
            have l2 : (of != later) = true := by rw [bne, l1]; rfl
            rw [l1] at P3
            exact core_nn k n of gen later c _ _ _ _ true S0 (Lib.hid D1) (Lib.hid D2) (Lib.hid D3) hk P1 P2 P3 g1 g2 l2 W

set_option maxRecDepth 100000 in
theorem lifted (os : Os) (started : os.Started) (H : Type) (enc : TypeId × Value → H) :
    ReturnsInHanded {} Try.checked os 9 .any (Rows.fieldCommitsSpec.pre6 enc Try.prog Try.f9 Rows.fieldCommitsRow.domain false) (Rows.fieldCommitsSpec.post enc Try.prog Try.f9 false true false false) := by
  refine returnsInHanded_of_change (C := Try.checked) own started (by kernel_rfl) Try.func9
    (ChangeSpec.witness6 (enc := enc) (C := Try.checked) false ⟨#[], #[.int .u8 0, .int .i64 0, .agg #[.int .u64 0, .int .u64 0, .int .u64 0, .bool false]], []⟩ 12 (by kernel_rfl) (by kernel_rfl) (by kernel_rfl) (by kernel_rfl)) ?_
  intro W base args ds gs before hval0 hW hcnd _
  have hval : ∀ (j : Nat) t v, Try.f9.params[j]? = some t → args[j]? = some v → Value.okWide Try.prog W .any base t v := hval0
  have hW' := hW
  obtain ⟨p, q, hA0, hV, rfl, hfz, hnd⟩ := hW
  have hA : DataW.TrodAll enc Try.prog W 0 (fun _ => true) true Try.f9.params.toList args.toList ds p := hA0
  rw [Try.params9] at hA hval
  obtain ⟨v0, vs0, d0, ds0, p0, q0, hargs, rfl, rfl, h0, r0⟩ := trodAll_cons hA
  obtain ⟨v1, vs1, d1, ds1, p1, q1, rfl, rfl, rfl, h1, r1⟩ := trodAll_cons r0
  obtain ⟨v2, vs2, d2, ds2, p2, q2, rfl, rfl, rfl, h2, r2⟩ := trodAll_cons r1
  obtain ⟨rfl, rfl, rfl⟩ := trodAll_nil r2
  obtain rfl : args = #[v0, v1, v2] := by cases args; simp_all
  obtain ⟨rfl, rfl⟩ := trodVars_none hV
  have lt0 : ∀ x ∈ p0, x.block < W.heap.size := by obtain ⟨m, hm⟩ := h0; exact DataW.trod_lt m _ _ _ hm
  have lt1 : ∀ x ∈ p1, x.block < W.heap.size := by obtain ⟨m, hm⟩ := h1; exact DataW.trod_lt m _ _ _ hm
  have lt2 : ∀ x ∈ p2, x.block < W.heap.size := by obtain ⟨m, hm⟩ := h2; exact DataW.trod_lt m _ _ _ hm
  have k := walk enc base W v0 d0 p0 v1 d1 p1 v2 d2 p2 (hval 0 5 v0 rfl rfl) h0 (hval 1 3 v1 rfl rfl) h1 (hval 2 47 v2 rfl rfl) h2
  clear hA0 hval0
  refine k.mono fun e W' ⟨he, bel⟩ => ?_
  subst he
  exact ⟨_, rfl, _, _, _, [], _, [], hW', trodAll_mk1 (shut_bool Try.underlying4 _), (trodAll_cons_mk (Below.trod laidOut (by kernel_rfl) (of_decide_eq_true (by kernel_rfl)) h0 bel lt0) (trodAll_cons_mk (Below.trod laidOut (by kernel_rfl) (of_decide_eq_true (by kernel_rfl)) h1 bel lt1) (trodAll_cons_mk (Below.trod laidOut (by kernel_rfl) (of_decide_eq_true (by kernel_rfl)) h2 bel lt2) trodAll_mk0))), rfl, bel.frame _, fun h => by cases h⟩

theorem over : Rows.fieldCommitsRow.holds Try.pinned (OpenSpec.ofChange Rows.fieldCommitsSpec) :=
  OpenClaim.holds_of_wide 9 Try.f9 rfl rfl rfl rfl rfl rfl rfl ⟨rfl, rfl, rfl, rfl, rfl⟩ rfl rfl rfl rfl rfl (by kernel_rfl) Try.func9 (by kernel_rfl)
    (of_decide_eq_true (by kernel_rfl)) (by unfold Func.isWrapper; first | (rw [if_pos (by decide +kernel)]; kernel_rfl) | (rw [if_neg (by decide +kernel)]; exact ⟨rfl, rfl⟩))
    (fun os started H enc _ => lifted os started H enc)

/-- THE STATEMENT -/
theorem proved : Rows.FieldCommitsSaid := over
#print axioms proved
end Go.Proofs.Ytiopfakeajofdaa.fieldCommits
