/-
  Every function's fact over the program, at a depth.
  The arguments of the law as open evaluation knows them: every block of the world is a table.
-/
import Derived.Test.YtldmhpdjlgoenaaGreatDoorBw12
import Derived.Test.YtldmhpdjlgoenaaGreatDoorEoOi
import Derived.Deep.Slices
import Derived.OpenShut
import Derived.SizedLaws
import Derived.Below
import Derived.KernelRfl
import Derived.Test.YtldmhpdjlgoenaaGreatDoorChecked
set_option linter.unusedVariables false
set_option linter.unusedSimpArgs false
namespace Go.Proofs.YtldmhpdjlgoenaaGreatDoor.BN
open Go.Proofs.YtldmhpdjlgoenaaGreatDoor.Eo
open Go.Proofs (Tryz.prog)
set_option maxRecDepth 100000
noncomputable section
instance pt : PT Tryz.prog := ⟨by kernel_rfl, by kernel_rfl, ⟨28, by kernel_rfl⟩, fun g G => by kernel_rfl, fun g G => by kernel_rfl, fun g G => by kernel_rfl, fun g L => by kernel_rfl, fun g L => by kernel_rfl⟩
def X (f : FuncId) : Option ATag := cond (Nat.beq f 101) (some .store) (cond (Nat.beq f 156) (some .load) (cond (Nat.beq f 157) (some .cas) none))
theorem X_ok : AtomX Tryz.prog X := by
  intro f tag ht
  unfold X at ht
  cases h1 : Nat.beq f 101 with
  | true =>
    have := Nat.eq_of_beq_eq_true h1
    subst this
    simp [h1] at ht
    subst ht
    exact ⟨by kernel_rfl, _, rfl, by kernel_rfl, by kernel_rfl, by kernel_rfl, by kernel_rfl⟩
  | false =>
    cases h2 : Nat.beq f 156 with
    | true =>
      have := Nat.eq_of_beq_eq_true h2
      subst this
      simp [h1, h2] at ht
      subst ht
      exact ⟨by kernel_rfl, _, rfl, by kernel_rfl, by kernel_rfl, by kernel_rfl, by kernel_rfl⟩
    | false =>
      cases h3 : Nat.beq f 157 with
      | true =>
        have := Nat.eq_of_beq_eq_true h3
        subst this
        simp [h1, h2, h3] at ht
        subst ht
        exact ⟨by kernel_rfl, _, rfl, by kernel_rfl, by kernel_rfl, by kernel_rfl, by kernel_rfl⟩
      | false => simp [h1, h2, h3] at ht
abbrev cX (n : Nat) : CallE := callX Tryz.prog (atomE X) n
theorem exX {n : Nat} {f : FuncId} {args : List AV} {h : H} {v : AV} {h0 : H} (e : ∃ v' h', cX n f args h = some (v', h') ∧ (v' = v ∧ h' = h0)) : cX n f args h = some (v, h0) := by
  obtain ⟨v', h', e, rfl, rfl⟩ := e
  exact e
theorem atomE_at {f : FuncId} {tag : ATag} (e : X f = some tag) (args : List AV) (h : H) : atomE X f args h = evA h tag args := by unfold atomE; rw [e]
theorem b101 : F101 (atomE X) := by
  intro h W i x cs m e hg hi hn
  rw [atomE_at (tag := .store) rfl]
  have hb : Nat.ble (i + 1) m = true := by simp; omega
  simp only [evA, putA, hg, hb, oneA, Bool.and_self, cond_true, putList_cons, putList_nil, rowSet _ _ _ hi]
theorem b156 : F156 (atomE X) := by
  intro h W i x hx
  obtain ⟨cs, m, e, hg, hi⟩ := hx
  rw [atomE_at (tag := .load) rfl]
  simp only [evA, wordA, hg, rowGet, hi]
theorem b157 : F157 (atomE X) := by
  intro h W i x y z cs m e hg hi hn
  rw [atomE_at (tag := .cas) rfl]
  have hb : Nat.ble (i + 1) m = true := by simp; omega
  have hl : i < cs.length := (List.getElem?_eq_some_iff.1 hi).1
  by_cases hxy : x = y
  · subst hxy
    simp [evA, wordA, putA, hg, hb, rowGet, hi, oneA, putList_cons, putList_nil, rowSet _ _ _ hl, iEq_eq]
  · simp [evA, wordA, putA, hg, hb, rowGet, hi, oneA, putList_cons, putList_nil, rowSet _ _ _ hl, iEq_eq, hxy, beq_false_of_ne hxy]
theorem f101 (n : Nat) : F101 (cX n) := fun h W i x cs m e hg hi hn => callX_base (b101 h W i x cs m e hg hi hn) n
theorem f156 (n : Nat) : F156 (cX n) := fun h W i x hx => callX_base (b156 h W i x hx) n
theorem f157 (n : Nat) : F157 (cX n) := fun h W i x y z cs m e hg hi hn => callX_base (b157 h W i x y z cs m e hg hi hn) n

theorem f102 (n : Nat) : F102 (cX (n + 1)) := by
  unfold F102
  intros
  first | refine callX_of rfl e102 (by kernel_rfl) c102_eq ?_ | refine exX (callX_of rfl e102 (by kernel_rfl) c102_eq ?_)
  apply w102 <;> try first | assumption
theorem f103 (n : Nat) : F103 (cX (n + 1)) := by
  unfold F103
  intros
  first | refine callX_of rfl e103 (by kernel_rfl) c103_eq ?_ | refine exX (callX_of rfl e103 (by kernel_rfl) c103_eq ?_)
  apply w103 <;> try first | assumption | exact f156 (n + 0)
theorem f26 (n : Nat) : F26 (cX (n + 1)) := by
  unfold F26
  intros
  first | refine callX_of rfl e26 (by kernel_rfl) c26_eq ?_ | refine exX (callX_of rfl e26 (by kernel_rfl) c26_eq ?_)
  apply w26' <;> try first | assumption
theorem f19 (n : Nat) : F19 (cX (n + 1)) := by
  unfold F19
  intros
  first | refine callX_of rfl e19 (by kernel_rfl) c19_eq ?_ | refine exX (callX_of rfl e19 (by kernel_rfl) c19_eq ?_)
  apply w19 <;> try first | assumption
theorem f62 (n : Nat) : F62 (cX (n + 1)) := by
  unfold F62
  intros
  first | refine callX_of rfl e62 (by kernel_rfl) c62_eq ?_ | refine exX (callX_of rfl e62 (by kernel_rfl) c62_eq ?_)
  apply w62 <;> try first | assumption
theorem f59 (n : Nat) : F59 (cX (n + 1)) := by
  unfold F59
  intros
  first | refine callX_of rfl e59 (by kernel_rfl) c59_eq ?_ | refine exX (callX_of rfl e59 (by kernel_rfl) c59_eq ?_)
  apply w59 <;> try first | assumption
theorem f67 (n : Nat) : F67 (cX (n + 1)) := by
  unfold F67
  intros
  first | refine callX_of rfl e67 (by kernel_rfl) c67_eq ?_ | refine exX (callX_of rfl e67 (by kernel_rfl) c67_eq ?_)
  apply w67 <;> try first | assumption
theorem f65 (n : Nat) : F65 (cX (n + 1)) := by
  unfold F65
  intros
  first | refine callX_of rfl e65 (by kernel_rfl) c65_eq ?_ | refine exX (callX_of rfl e65 (by kernel_rfl) c65_eq ?_)
  apply w65 <;> try first | assumption
theorem f61 (n : Nat) : F61 (cX (n + 1)) := by
  unfold F61
  intros
  first | refine callX_of rfl e61 (by kernel_rfl) c61_eq ?_ | refine exX (callX_of rfl e61 (by kernel_rfl) c61_eq ?_)
  apply w61' <;> try first | assumption
theorem f104 (n : Nat) : FW (cX (n + 1)) 104 64 1 := by
  unfold FW
  simp only [Int.one_mul]
  intros
  first | refine callX_of rfl e104 (by kernel_rfl) c104_eq ?_ | refine exX (callX_of rfl e104 (by kernel_rfl) c104_eq ?_)
  apply w104 <;> try first | assumption
theorem f105 (n : Nat) : FW (cX (n + 1)) 105 64 2 := by
  unfold FW
  intros
  first | refine callX_of rfl e105 (by kernel_rfl) c105_eq ?_ | refine exX (callX_of rfl e105 (by kernel_rfl) c105_eq ?_)
  apply w105 <;> try first | assumption
theorem f106 (n : Nat) : FW (cX (n + 1)) 106 16 4 := by
  unfold FW
  intros
  first | refine callX_of rfl e106 (by kernel_rfl) c106_eq ?_ | refine exX (callX_of rfl e106 (by kernel_rfl) c106_eq ?_)
  apply w106 <;> try first | assumption
theorem f114 (n : Nat) : F114 (cX (n + 1)) := by
  unfold F114
  intros
  first | refine callX_of rfl e114 (by kernel_rfl) c114_eq ?_ | refine exX (callX_of rfl e114 (by kernel_rfl) c114_eq ?_)
  apply w114 <;> try first | assumption
theorem f79 (n : Nat) : F79 (cX (n + 1)) := by
  unfold F79
  intros
  first | refine callX_of rfl e79 (by kernel_rfl) c79_eq ?_ | refine exX (callX_of rfl e79 (by kernel_rfl) c79_eq ?_)
  apply w79 <;> try first | assumption
theorem f41 (n : Nat) : F41 (cX (n + 1)) := by
  unfold F41
  intros
  first | refine callX_of rfl e41 (by kernel_rfl) c41_eq ?_ | refine exX (callX_of rfl e41 (by kernel_rfl) c41_eq ?_)
  apply w41 <;> try first | assumption
theorem f112 (n : Nat) : F112 (cX (n + 1)) := by
  unfold F112
  intros
  first | refine callX_of rfl e112 (by kernel_rfl) c112_eq ?_ | refine exX (callX_of rfl e112 (by kernel_rfl) c112_eq ?_)
  apply w112 <;> try first | assumption | exact f157 (n + 0)
theorem f113 (n : Nat) : F113 (cX (n + 1)) := by
  unfold F113
  intros
  first | refine callX_of rfl e113 (by kernel_rfl) c113_eq ?_ | refine exX (callX_of rfl e113 (by kernel_rfl) c113_eq ?_)
  apply w113 <;> try first | assumption
theorem f35 (n : Nat) : F35 (cX (n + 1)) := by
  unfold F35
  intros
  first | refine callX_of rfl e35 (by kernel_rfl) c35_eq ?_ | refine exX (callX_of rfl e35 (by kernel_rfl) c35_eq ?_)
  apply w35 <;> try first | assumption
theorem f410 (n : Nat) : F410 (cX (n + 1)) := by
  unfold F410
  intros
  first | refine callX_of rfl e410 (by kernel_rfl) c410_eq ?_ | refine exX (callX_of rfl e410 (by kernel_rfl) c410_eq ?_)
  apply w410 <;> try first | assumption
theorem f43 (n : Nat) : F43 (cX (n + 1)) := by
  unfold F43
  intros
  first | refine callX_of rfl e43 (by kernel_rfl) c43_eq ?_ | refine exX (callX_of rfl e43 (by kernel_rfl) c43_eq ?_)
  apply w43 <;> try first | assumption
theorem f13 (n : Nat) : F13 (cX (n + 1)) 13 := by
  unfold F13
  intros
  first | refine callX_of rfl e13 (by kernel_rfl) c13_eq ?_ | refine exX (callX_of rfl e13 (by kernel_rfl) c13_eq ?_)
  apply w13 <;> try first | assumption
theorem f88 (n : Nat) : F88 (cX (n + 1)) := by
  unfold F88
  intros
  first | refine callX_of rfl e88 (by kernel_rfl) c88_eq ?_ | refine exX (callX_of rfl e88 (by kernel_rfl) c88_eq ?_)
  apply w88 <;> try first | assumption
theorem f462 (n : Nat) : F462 (cX (n + 1)) := by
  unfold F462
  intros
  first | refine callX_of rfl e462 (by kernel_rfl) c462_eq ?_ | refine exX (callX_of rfl e462 (by kernel_rfl) c462_eq ?_)
  apply w462 <;> try first | assumption
theorem f74 (n : Nat) : F74 (cX (n + 1)) := by
  unfold F74
  intro g0 L c cv p hs wl h kd fi pe m nn hn; subst hn
  intros
  first | refine callX_of rfl e74 (by kernel_rfl) c74_eq ?_ | refine exX (callX_of rfl e74 (by kernel_rfl) c74_eq ?_)
  apply w74 <;> try first | assumption
theorem f29 (n : Nat) : F29 (cX (n + 1)) := by
  unfold F29
  intros
  first | refine callX_of rfl e29 (by kernel_rfl) c29_eq ?_ | refine exX (callX_of rfl e29 (by kernel_rfl) c29_eq ?_)
  apply w29 <;> try first | assumption
theorem f28 (n : Nat) : F28 (cX (n + 1)) := by
  unfold F28
  intros
  first | refine callX_of rfl e28 (by kernel_rfl) c28_eq ?_ | refine exX (callX_of rfl e28 (by kernel_rfl) c28_eq ?_)
  apply w28 <;> try first | assumption
theorem f30 (n : Nat) : F30 (cX (n + 1)) := by
  unfold F30
  intros
  first | refine callX_of rfl e30 (by kernel_rfl) c30_eq ?_ | refine exX (callX_of rfl e30 (by kernel_rfl) c30_eq ?_)
  apply w30 <;> try first | assumption
theorem f31 (n : Nat) : F31 (cX (n + 1)) := by
  unfold F31
  intros
  first | refine callX_of rfl e31 (by kernel_rfl) c31_eq ?_ | refine exX (callX_of rfl e31 (by kernel_rfl) c31_eq ?_)
  apply w31 <;> try first | assumption
theorem f109 (n : Nat) : FW (cX (n + 1)) 109 64 1 := by
  unfold FW
  intros
  first | refine callX_of rfl e109 (by kernel_rfl) c109_eq ?_ | refine exX (callX_of rfl e109 (by kernel_rfl) c109_eq ?_)
  apply w109 <;> try first | assumption
theorem f110 (n : Nat) : FW (cX (n + 1)) 110 64 2 := by
  unfold FW
  intros
  first | refine callX_of rfl e110 (by kernel_rfl) c110_eq ?_ | refine exX (callX_of rfl e110 (by kernel_rfl) c110_eq ?_)
  apply w110 <;> try first | assumption
theorem f108 (n : Nat) : FW (cX (n + 1)) 108 16 4 := by
  unfold FW
  intros
  first | refine callX_of rfl e108 (by kernel_rfl) c108_eq ?_ | refine exX (callX_of rfl e108 (by kernel_rfl) c108_eq ?_)
  apply w108 <;> try first | assumption
theorem f111 (n : Nat) : F111 (cX (n + 1)) := by
  unfold F111
  intros
  first | refine callX_of rfl e111 (by kernel_rfl) c111_eq ?_ | refine exX (callX_of rfl e111 (by kernel_rfl) c111_eq ?_)
  apply w111 <;> try first | assumption
theorem f36 (n : Nat) : F36 (cX (n + 1)) := by
  unfold F36
  intros
  first | refine callX_of rfl e36 (by kernel_rfl) c36_eq ?_ | refine exX (callX_of rfl e36 (by kernel_rfl) c36_eq ?_)
  apply w36 <;> try first | assumption
theorem f83 (n : Nat) : F83 (cX (n + 1)) := by
  unfold F83
  intros
  first | refine callX_of rfl e83 (by kernel_rfl) c83_eq ?_ | refine exX (callX_of rfl e83 (by kernel_rfl) c83_eq ?_)
  apply w83 <;> try first | assumption
theorem f10 (n : Nat) : F10 (cX (n + 1)) := by
  unfold F10
  intros
  first | refine callX_of rfl e10 (by kernel_rfl) c10_eq ?_ | refine exX (callX_of rfl e10 (by kernel_rfl) c10_eq ?_)
  apply w10 <;> try first | assumption
theorem f93 (n : Nat) : F93 (cX (n + 1)) := by
  unfold F93
  intros
  first | refine callX_of rfl e93 (by kernel_rfl) c93_eq ?_ | refine exX (callX_of rfl e93 (by kernel_rfl) c93_eq ?_)
  apply w93 <;> try first | assumption
theorem f47 (n : Nat) : F47 (cX (n + 1)) := by
  unfold F47
  intros
  first | refine callX_of rfl e47 (by kernel_rfl) c47_eq ?_ | refine exX (callX_of rfl e47 (by kernel_rfl) c47_eq ?_)
  apply w47 <;> try first | assumption
theorem f189 (n : Nat) : F189 (cX (n + 1)) := by
  unfold F189
  intros
  first | refine callX_of rfl e189 (by kernel_rfl) c189_eq ?_ | refine exX (callX_of rfl e189 (by kernel_rfl) c189_eq ?_)
  apply w189 <;> try first | assumption
theorem f139 (n : Nat) : F139 (cX (n + 1)) := by
  unfold F139
  intros
  first | refine callX_of rfl e139 (by kernel_rfl) c139_eq ?_ | refine exX (callX_of rfl e139 (by kernel_rfl) c139_eq ?_)
  apply w139 <;> try first | assumption
theorem f49 (n : Nat) : F49 (cX (n + 1)) := by
  unfold F49
  intros
  first | refine callX_of rfl e49 (by kernel_rfl) c49_eq ?_ | refine exX (callX_of rfl e49 (by kernel_rfl) c49_eq ?_)
  apply w49 <;> try first | assumption
theorem f12 (n : Nat) : F12 (cX (n + 1)) := by
  unfold F12
  intros
  first | refine callX_of rfl e12 (by kernel_rfl) c12_eq ?_ | refine exX (callX_of rfl e12 (by kernel_rfl) c12_eq ?_)
  apply w12 <;> try first | assumption
theorem f4 (n : Nat) : F4 (cX (n + 1)) := by
  unfold F4
  intros
  first | refine callX_of rfl e4 (by kernel_rfl) c4_eq ?_ | refine exX (callX_of rfl e4 (by kernel_rfl) c4_eq ?_)
  apply w4 <;> try first | assumption
theorem f66 (n : Nat) : FPeek (cX (n + 2)) := by
  unfold FPeek
  intros
  first | refine callX_of rfl e66 (by kernel_rfl) c66_eq ?_ | refine exX (callX_of rfl e66 (by kernel_rfl) c66_eq ?_)
  apply w66 <;> try first | assumption | exact f102 (n + 0) | exact f103 (n + 0)
theorem f21 (n : Nat) : F21 (cX (n + 2)) := by
  unfold F21
  intros
  first | refine callX_of rfl e21 (by kernel_rfl) c21_eq ?_ | refine exX (callX_of rfl e21 (by kernel_rfl) c21_eq ?_)
  apply w21 <;> try first | assumption
  · intros
    first | refine callX_of rfl e64 (by kernel_rfl) c64_eq ?_ | refine exX (callX_of rfl e64 (by kernel_rfl) c64_eq ?_)
    apply w64 <;> try first | assumption | exact f101 (n + 0)
  · intros
    first | refine callX_of rfl e63 (by kernel_rfl) c63_eq ?_ | refine exX (callX_of rfl e63 (by kernel_rfl) c63_eq ?_)
    apply w63 <;> try first | assumption
theorem f68 (n : Nat) : F68 (cX (n + 2)) := by
  unfold F68
  intros
  first | refine callX_of rfl e68 (by kernel_rfl) c68_eq ?_ | refine exX (callX_of rfl e68 (by kernel_rfl) c68_eq ?_)
  apply w68 <;> try first | assumption | exact f103 (n + 0)
theorem f5 (n : Nat) : F5 (cX (n + 2)) := by
  unfold F5
  intros
  first | refine callX_of rfl e5 (by kernel_rfl) c5_eq ?_ | refine exX (callX_of rfl e5 (by kernel_rfl) c5_eq ?_)
  apply w5 <;> try first | assumption | exact f19 (n + 0)
theorem f84 (n : Nat) : F84 (cX (n + 2)) := by
  unfold F84
  intros
  first | refine callX_of rfl e84 (by kernel_rfl) c84_eq ?_ | refine exX (callX_of rfl e84 (by kernel_rfl) c84_eq ?_)
  apply w84 <;> try first | assumption | exact f59 (n + 0)
theorem f22 (n : Nat) : F22 (cX (n + 2)) := by
  unfold F22
  intros
  first | refine callX_of rfl e22 (by kernel_rfl) c22_eq ?_ | refine exX (callX_of rfl e22 (by kernel_rfl) c22_eq ?_)
  apply w22 <;> try first | assumption | exact f65 (n + 0)
theorem f81 (n : Nat) : F81 (cX (n + 2)) := by
  unfold F81
  intros
  first | refine callX_of rfl e81 (by kernel_rfl) c81_eq ?_ | refine exX (callX_of rfl e81 (by kernel_rfl) c81_eq ?_)
  apply w81 <;> try first | assumption | exact f114 (n + 0) | exact f26 (n + 0)
theorem f80 (n : Nat) : F80 (cX (n + 2)) := by
  unfold F80
  intros
  first | refine callX_of rfl e80 (by kernel_rfl) c80_eq ?_ | refine exX (callX_of rfl e80 (by kernel_rfl) c80_eq ?_)
  apply w80 <;> try first | assumption | exact f102 (n + 0) | exact f103 (n + 0) | exact f112 (n + 0) | exact f113 (n + 0)
theorem f40 (n : Nat) : F40 (cX (n + 2)) := by
  unfold F40
  intros
  first | refine callX_of rfl e40 (by kernel_rfl) c40_eq ?_ | refine exX (callX_of rfl e40 (by kernel_rfl) c40_eq ?_)
  apply w40 <;> try first | assumption
  · intros
    first | refine callX_of rfl e85 (by kernel_rfl) c85_eq ?_ | refine exX (callX_of rfl e85 (by kernel_rfl) c85_eq ?_)
    apply w85 <;> try first | assumption
theorem f86 (n : Nat) : F86 (cX (n + 2)) := by
  unfold F86
  intros
  first | refine callX_of rfl e86 (by kernel_rfl) c86_eq ?_ | refine exX (callX_of rfl e86 (by kernel_rfl) c86_eq ?_)
  apply w86 <;> try first | assumption | exact f43 (n + 0)
theorem f87 (n : Nat) : F87 (cX (n + 2)) := by
  unfold F87
  intros
  first | refine callX_of rfl e87 (by kernel_rfl) c87_eq ?_ | refine exX (callX_of rfl e87 (by kernel_rfl) c87_eq ?_)
  apply w87 <;> try first | assumption | exact f43 (n + 0)
theorem f463 (n : Nat) : F463 (cX (n + 2)) := by
  unfold F463
  intros
  first | refine callX_of rfl e463 (by kernel_rfl) c463_eq ?_ | refine exX (callX_of rfl e463 (by kernel_rfl) c463_eq ?_)
  apply w463 <;> try first | assumption | exact f462 (n + 0)
theorem f73 (n : Nat) : F73 (cX (n + 2)) := by
  unfold F73
  intros
  first | refine callX_of rfl e73 (by kernel_rfl) c73_eq ?_ | refine exX (callX_of rfl e73 (by kernel_rfl) c73_eq ?_)
  apply w73 <;> try first | assumption | exact f19 (n + 0)
theorem f82 (n : Nat) : F82 (cX (n + 2)) := by
  unfold F82
  intros
  first | refine callX_of rfl e82 (by kernel_rfl) c82_eq ?_ | refine exX (callX_of rfl e82 (by kernel_rfl) c82_eq ?_)
  apply w82 <;> try first | assumption | exact f36 (n + 0)
theorem f9 (n : Nat) : F9 (cX (n + 2)) := by
  unfold F9
  intros
  first | refine callX_of rfl e9 (by kernel_rfl) c9_eq ?_ | refine exX (callX_of rfl e9 (by kernel_rfl) c9_eq ?_)
  apply w9 <;> try first | assumption | exact f36 (n + 0)
theorem f14 (n : Nat) : F13 (cX (n + 2)) 14 := by
  unfold F13
  intros
  first | refine callX_of rfl e14 (by kernel_rfl) c14_eq ?_ | refine exX (callX_of rfl e14 (by kernel_rfl) c14_eq ?_)
  apply w14 <;> try first | assumption | exact f36 (n + 0)
theorem f94 (n : Nat) : F94 (cX (n + 2)) := by
  unfold F94
  intros
  first | refine callX_of rfl e94 (by kernel_rfl) c94_eq ?_ | refine exX (callX_of rfl e94 (by kernel_rfl) c94_eq ?_)
  apply w94 <;> try first | assumption
  · intros
    first | refine callX_of rfl e135 (by kernel_rfl) c135_eq ?_ | refine exX (callX_of rfl e135 (by kernel_rfl) c135_eq ?_)
    apply w135 <;> try first | assumption
  · intros
    first | refine callX_of rfl e136 (by kernel_rfl) c136_eq ?_ | refine exX (callX_of rfl e136 (by kernel_rfl) c136_eq ?_)
    apply w136 <;> try first | assumption
  · intros
    first | refine callX_of rfl e137 (by kernel_rfl) c137_eq ?_ | refine exX (callX_of rfl e137 (by kernel_rfl) c137_eq ?_)
    apply w137 <;> try first | assumption
theorem f138 (n : Nat) : F138 (cX (n + 2)) := by
  unfold F138
  intros
  first | refine callX_of rfl e138 (by kernel_rfl) c138_eq ?_ | refine exX (callX_of rfl e138 (by kernel_rfl) c138_eq ?_)
  apply w138 <;> try first | assumption | exact f36 (n + 0) | exact f189 (n + 0)
theorem f18 (n : Nat) : F18 (cX (n + 2)) := by
  refine ⟨fun h => ?_, fun h D hD => ?_⟩
  · first | refine callX_of rfl e18 (by kernel_rfl) c18_eq ?_ | refine exX (callX_of rfl e18 (by kernel_rfl) c18_eq ?_)
    exact w18_0 Tryz.prog
  · first | refine callX_of rfl e18 (by kernel_rfl) c18_eq ?_ | refine exX (callX_of rfl e18 (by kernel_rfl) c18_eq ?_)
    exact w18 Tryz.prog (f49 _) hD
theorem f58 (n : Nat) : F58 (cX (n + 3)) := by
  unfold F58
  intros
  first | refine callX_of rfl e58 (by kernel_rfl) c58_eq ?_ | refine exX (callX_of rfl e58 (by kernel_rfl) c58_eq ?_)
  apply w58 <;> try first | assumption
  · intros
    first | refine callX_of rfl e98 (by kernel_rfl) c98_eq ?_ | refine exX (callX_of rfl e98 (by kernel_rfl) c98_eq ?_)
    apply w98 <;> try first | assumption
  · intros
    first | refine callX_of rfl e99 (by kernel_rfl) c99_eq ?_ | refine exX (callX_of rfl e99 (by kernel_rfl) c99_eq ?_)
    apply w99 <;> try first | assumption
    · intros
      first | refine callX_of rfl e155 (by kernel_rfl) c155_eq ?_ | refine exX (callX_of rfl e155 (by kernel_rfl) c155_eq ?_)
      apply w155 <;> try first | assumption
theorem f60 (n : Nat) : F60 (cX (n + 3)) := by
  unfold F60
  intros
  first | refine callX_of rfl e60 (by kernel_rfl) c60_eq ?_ | refine exX (callX_of rfl e60 (by kernel_rfl) c60_eq ?_)
  apply w60 <;> try first | assumption
  · intros
    first | refine callX_of rfl e99 (by kernel_rfl) c99_eq ?_ | refine exX (callX_of rfl e99 (by kernel_rfl) c99_eq ?_)
    apply w99 <;> try first | assumption
    · intros
      first | refine callX_of rfl e155 (by kernel_rfl) c155_eq ?_ | refine exX (callX_of rfl e155 (by kernel_rfl) c155_eq ?_)
      apply w155 <;> try first | assumption
  · intros
    first | refine callX_of rfl e100 (by kernel_rfl) c100_eq ?_ | refine exX (callX_of rfl e100 (by kernel_rfl) c100_eq ?_)
    apply w100 <;> try first | assumption
theorem f23 (n : Nat) : F23 (cX (n + 3)) := by
  unfold F23
  intros
  first | refine callX_of rfl e23 (by kernel_rfl) c23_eq ?_ | refine exX (callX_of rfl e23 (by kernel_rfl) c23_eq ?_)
  apply w23 <;> try first | assumption | exact f26 (n + 1) | exact f66 (n + 0) | exact f67 (n + 1)
theorem f24 (n : Nat) : F24 (cX (n + 3)) := by
  unfold F24
  intros
  first | refine callX_of rfl e24 (by kernel_rfl) c24_eq ?_ | refine exX (callX_of rfl e24 (by kernel_rfl) c24_eq ?_)
  apply w24 <;> try first | assumption | exact f26 (n + 1) | exact f68 (n + 0)
theorem f38 (n : Nat) : F38 (cX (n + 3)) := by
  unfold F38
  intros
  first | refine callX_of rfl e38 (by kernel_rfl) c38_eq ?_ | refine exX (callX_of rfl e38 (by kernel_rfl) c38_eq ?_)
  apply w38 <;> try first | assumption | exact f84 (n + 0)
theorem f34 (n : Nat) : F34 (cX (n + 3)) := by
  unfold F34
  intros
  first | refine callX_of rfl e34 (by kernel_rfl) c34_eq ?_ | refine exX (callX_of rfl e34 (by kernel_rfl) c34_eq ?_)
  apply w34 <;> try first | assumption | exact f79 (n + 1) | exact f81 (n + 0) | exact f80 (n + 0)
theorem f42 (n : Nat) : F42 (cX (n + 3)) := by
  unfold F42
  intros
  first | refine callX_of rfl e42 (by kernel_rfl) c42_eq ?_ | refine exX (callX_of rfl e42 (by kernel_rfl) c42_eq ?_)
  apply w42 <;> try first | assumption
  · intros
    unfold FNil
    first | refine callX_of rfl e406 (by kernel_rfl) c406_eq ?_ | refine exX (callX_of rfl e406 (by kernel_rfl) c406_eq ?_)
    apply w406 <;> try first | assumption | exact f410 (n + 0)
  · intros
    unfold FNil
    first | refine callX_of rfl e422 (by kernel_rfl) c422_eq ?_ | refine exX (callX_of rfl e422 (by kernel_rfl) c422_eq ?_)
    apply w422 <;> try first | assumption
  · intros
    unfold FNil
    first | refine callX_of rfl e433 (by kernel_rfl) c433_eq ?_ | refine exX (callX_of rfl e433 (by kernel_rfl) c433_eq ?_)
    apply w433 <;> try first | assumption
theorem f44 (n : Nat) : F44 (cX (n + 3)) := by
  unfold F44
  intros
  first | refine callX_of rfl e44 (by kernel_rfl) c44_eq ?_ | refine exX (callX_of rfl e44 (by kernel_rfl) c44_eq ?_)
  apply w44 <;> try first | assumption | exact f86 (n + 0)
theorem f17 (n : Nat) : F17 (cX (n + 3)) := by
  refine ⟨fun h => ?_, fun h D hD => ?_⟩
  · first | refine callX_of rfl e17 (by kernel_rfl) c17_eq ?_ | refine exX (callX_of rfl e17 (by kernel_rfl) c17_eq ?_)
    exact w17_0 Tryz.prog
  · first | refine callX_of rfl e17 (by kernel_rfl) c17_eq ?_ | refine exX (callX_of rfl e17 (by kernel_rfl) c17_eq ?_)
    exact w17 Tryz.prog (f463 _) hD
theorem f27 (n : Nat) : F27 (cX (n + 3)) := by
  unfold F27
  intros
  first | refine callX_of rfl e27 (by kernel_rfl) c27_eq ?_ | refine exX (callX_of rfl e27 (by kernel_rfl) c27_eq ?_)
  apply w27 <;> try first | assumption | exact f5 (n + 0) | exact f73 (n + 0) | exact f74 (n + 1)
theorem f32 (n : Nat) : F32 (cX (n + 3)) := by
  unfold F32
  intros
  first | refine callX_of rfl e32 (by kernel_rfl) c32_eq ?_ | refine exX (callX_of rfl e32 (by kernel_rfl) c32_eq ?_)
  apply w32 <;> try first | assumption
  · intros
    first | refine callX_of rfl e75 (by kernel_rfl) c75_eq ?_ | refine exX (callX_of rfl e75 (by kernel_rfl) c75_eq ?_)
    apply w75 <;> try first | assumption | exact f109 (n + 0) | exact f110 (n + 0) | exact f108 (n + 0)
  · intros
    first | refine callX_of rfl e76 (by kernel_rfl) c76_eq ?_ | refine exX (callX_of rfl e76 (by kernel_rfl) c76_eq ?_)
    apply w76 <;> try first | assumption | exact f109 (n + 0) | exact f111 (n + 0)
  · intros
    first | refine callX_of rfl e77 (by kernel_rfl) c77_eq ?_ | refine exX (callX_of rfl e77 (by kernel_rfl) c77_eq ?_)
    apply w77 <;> try first | assumption | exact f110 (n + 0) | exact f111 (n + 0)
  · intros
    first | refine callX_of rfl e78 (by kernel_rfl) c78_eq ?_ | refine exX (callX_of rfl e78 (by kernel_rfl) c78_eq ?_)
    apply w78 <;> try first | assumption | exact f108 (n + 0) | exact f111 (n + 0)
theorem f37 (n : Nat) : F37 (cX (n + 3)) := by
  unfold F37
  intros
  first | refine callX_of rfl e37 (by kernel_rfl) c37_eq ?_ | refine exX (callX_of rfl e37 (by kernel_rfl) c37_eq ?_)
  apply w37 <;> try first | assumption | exact f82 (n + 0) | exact f83 (n + 1)
theorem f46 (n : Nat) : F46 (cX (n + 3)) := by
  unfold F46
  intros
  first | refine callX_of rfl e46 (by kernel_rfl) c46_eq ?_ | refine exX (callX_of rfl e46 (by kernel_rfl) c46_eq ?_)
  apply w46 <;> try first | assumption | exact f36 (n + 1) | exact f93 (n + 1) | exact f94 (n + 0)
theorem f95 (n : Nat) : F95 (cX (n + 3)) := by
  unfold F95
  intros
  first | refine callX_of rfl e95 (by kernel_rfl) c95_eq ?_ | refine exX (callX_of rfl e95 (by kernel_rfl) c95_eq ?_)
  apply w95 <;> try first | assumption | exact f139 (n + 1) | exact f138 (n + 0)
theorem f20 (n : Nat) : F20 (cX (n + 4)) := by
  unfold F20
  intros
  first | refine callX_of rfl e20 (by kernel_rfl) c20_eq ?_ | refine exX (callX_of rfl e20 (by kernel_rfl) c20_eq ?_)
  apply w20 <;> try first | assumption | exact f58 (n + 0) | exact f59 (n + 2) | exact f60 (n + 0) | exact f62 (n + 2) | exact f61 (n + 2)
theorem f25 (n : Nat) : F25 (cX (n + 4)) := by
  unfold F25
  intros
  first | refine callX_of rfl e25 (by kernel_rfl) c25_eq ?_ | refine exX (callX_of rfl e25 (by kernel_rfl) c25_eq ?_)
  apply w25 <;> try first | assumption
  · intros
    first | refine callX_of rfl e69 (by kernel_rfl) c69_eq ?_ | refine exX (callX_of rfl e69 (by kernel_rfl) c69_eq ?_)
    apply w69 <;> try first | assumption | exact f104 (n + 1) | exact f105 (n + 1) | exact f106 (n + 1)
  · intros
    first | refine callX_of rfl e70 (by kernel_rfl) c70_eq ?_ | refine exX (callX_of rfl e70 (by kernel_rfl) c70_eq ?_)
    apply w70 <;> try first | assumption | exact f104 (n + 1) | exact f66 (n + 0)
  · intros
    first | refine callX_of rfl e71 (by kernel_rfl) c71_eq ?_ | refine exX (callX_of rfl e71 (by kernel_rfl) c71_eq ?_)
    apply w71 <;> try first | assumption | exact f105 (n + 1) | exact f66 (n + 0)
  · intros
    first | refine callX_of rfl e72 (by kernel_rfl) c72_eq ?_ | refine exX (callX_of rfl e72 (by kernel_rfl) c72_eq ?_)
    apply w72 <;> try first | assumption | exact f106 (n + 1) | exact f66 (n + 0)
theorem f33 (n : Nat) : F33 (cX (n + 4)) := by
  unfold F33
  intros
  first | refine callX_of rfl e33 (by kernel_rfl) c33_eq ?_ | refine exX (callX_of rfl e33 (by kernel_rfl) c33_eq ?_)
  apply w33 <;> try first | assumption | exact f38 (n + 0)
theorem f39 (n : Nat) : F39 (cX (n + 4)) := by
  unfold F39
  intros
  first | refine callX_of rfl e39 (by kernel_rfl) c39_eq ?_ | refine exX (callX_of rfl e39 (by kernel_rfl) c39_eq ?_)
  apply w39 <;> try first | assumption | exact f38 (n + 0) | exact f79 (n + 2) | exact f81 (n + 1) | exact f66 (n + 1)
theorem f45 (n : Nat) : F45 (cX (n + 4)) := by
  unfold F45
  intros
  first | refine callX_of rfl e45 (by kernel_rfl) c45_eq ?_ | refine exX (callX_of rfl e45 (by kernel_rfl) c45_eq ?_)
  apply w45 <;> try first | assumption | exact f38 (n + 0) | exact f87 (n + 1) | exact f88 (n + 2)
theorem f7 (n : Nat) : F7 (cX (n + 4)) := by
  unfold F7
  intros
  first | refine callX_of rfl e7 (by kernel_rfl) c7_eq ?_ | refine exX (callX_of rfl e7 (by kernel_rfl) c7_eq ?_)
  apply w7 <;> try first | assumption | exact f27 (n + 0) | exact f29 (n + 2) | exact f28 (n + 2) | exact f30 (n + 2) | exact f31 (n + 2) | exact f32 (n + 0)
theorem f11 (n : Nat) : F11 (cX (n + 4)) := by
  unfold F11
  intros
  first | refine callX_of rfl e11 (by kernel_rfl) c11_eq ?_ | refine exX (callX_of rfl e11 (by kernel_rfl) c11_eq ?_)
  apply w11 <;> try first | assumption | exact f10 (n + 2) | exact f37 (n + 0)
theorem f48 (n : Nat) : F48 (cX (n + 4)) := by
  unfold F48
  intros
  first | refine callX_of rfl e48 (by kernel_rfl) c48_eq ?_ | refine exX (callX_of rfl e48 (by kernel_rfl) c48_eq ?_)
  apply w48 <;> try first | assumption | exact f95 (n + 0)
theorem f6 (n : Nat) : F6 (cX (n + 5)) := by
  unfold F6
  intros
  first | refine callX_of rfl e6 (by kernel_rfl) c6_eq ?_ | refine exX (callX_of rfl e6 (by kernel_rfl) c6_eq ?_)
  apply w6 <;> try first | assumption | exact f20 (n + 0) | exact f22 (n + 2) | exact f21 (n + 2) | exact f23 (n + 1) | exact f24 (n + 1) | exact f26 (n + 3) | exact f25 (n + 0)
theorem f8 (n : Nat) : F8 (cX (n + 5)) := by
  unfold F8
  intros
  first | refine callX_of rfl e8 (by kernel_rfl) c8_eq ?_ | refine exX (callX_of rfl e8 (by kernel_rfl) c8_eq ?_)
  apply w8 <;> try first | assumption | exact f33 (n + 0) | exact f34 (n + 1) | exact f35 (n + 3)
theorem f15 (n : Nat) : F15 (cX (n + 5)) := by
  unfold F15
  intros
  first | refine callX_of rfl e15 (by kernel_rfl) c15_eq ?_ | refine exX (callX_of rfl e15 (by kernel_rfl) c15_eq ?_)
  apply w15 <;> try first | assumption | exact f38 (n + 1) | exact f39 (n + 0) | exact f41 (n + 3) | exact f42 (n + 1) | exact f40 (n + 2) | exact f43 (n + 3) | exact f44 (n + 1) | exact f45 (n + 0)
theorem f16 (n : Nat) : F16 (cX (n + 5)) := by
  unfold F16
  intros
  first | refine callX_of rfl e16 (by kernel_rfl) c16_eq ?_ | refine exX (callX_of rfl e16 (by kernel_rfl) c16_eq ?_)
  apply w16 <;> try first | assumption | exact f46 (n + 1) | exact f47 (n + 3) | exact f48 (n + 0)
end
end Go.Proofs.YtldmhpdjlgoenaaGreatDoor.BN

namespace Go.Proofs.YtldmhpdjlgoenaaGreatDoor.BN
open Go.Proofs.YtldmhpdjlgoenaaGreatDoor.Eo Go.RowKit Go.ChangeShapes Go.WideShapes Go.Deep
open Go.Proofs (Tryz.prog Tryz.checked Tryz.underlying27 Tryz.underlying24 Tryz.underlying25 Tryz.underlying30 Tryz.underlying32 Tryz.underlying28 Tryz.underlying22 Tryz.underlying4 Tryz.underlying3 Tryz.underlying5)
set_option maxRecDepth 100000
theorem cells3 : Tryz.prog.cellsOf 3 = 1 := by kernel_rfl
theorem cells5 : Tryz.prog.cellsOf 5 = 1 := by kernel_rfl
theorem cells22 : Tryz.prog.cellsOf 22 = 1 := by kernel_rfl
theorem cells24 : Tryz.prog.cellsOf 24 = 3 := by kernel_rfl
theorem cells25 : Tryz.prog.cellsOf 25 = 6 := by kernel_rfl
theorem cells27 : Tryz.prog.cellsOf 27 = 16 := by kernel_rfl
theorem cells28 : Tryz.prog.cellsOf 28 = 1 := by kernel_rfl
theorem cells30 : Tryz.prog.cellsOf 30 = 7 := by kernel_rfl
theorem cells32 : Tryz.prog.cellsOf 32 = 9 := by kernel_rfl
theorem bytes28 : Tryz.prog.bytesOf 28 = 8 := by kernel_rfl
noncomputable section
/-- a slice of the world, with es cells an element -/
def impS (n es : Nat) : Option Addr → Nat → Nat → Option AV
  | none, len, c => if len = 0 ∧ c = 0 then some .nils else none
  | some a, len, c => if len = 0 ∧ c = 0 then some (.sl 0 0 0 es none) else if a.spot = none ∧ a.block < n ∧ len ≤ c then some (.sl (glob + a.block) a.off len es (some c)) else none
def impV (n : Nat) : Value → Option AV
  | .int k x => some (.int k x)
  | _ => none
def impC (n : Nat) : List Value → Nat → T AV
  | [], _ => T.e
  | V :: l, i => match impV n V with
    | some v => (impC n l (i + 1)).set i v
    | none => impC n l (i + 1)
theorem impC_get (n : Nat) : ∀ (l : List Value) (i j : Nat), (impC n l i).get j = if i ≤ j then (l[j - i]?).bind (impV n) else none
  | [], i, j => by rw [impC, T.get_e]; simp
  | V :: l, i, j => by
    have ih := impC_get n l (i + 1) j
    rw [impC]
    by_cases hj : j = i
    · subst hj
      rw [if_pos (Nat.le_refl _), Nat.sub_self]
      simp only [List.getElem?_cons_zero, Option.bind_some]
      cases hv : impV n V with
      | none => simp only []; rw [ih, if_neg (by omega)]
      | some v => simp only []; rw [T.get_set, if_pos rfl]
    · have key : (impC n l (i + 1)).get j = if i ≤ j then ((V :: l)[j - i]?).bind (impV n) else none := by
        rw [ih]
        by_cases h : i ≤ j
        · rw [if_pos h, if_pos (by omega), show j - i = (j - (i + 1)) + 1 by omega, List.getElem?_cons_succ]
        · rw [if_neg h, if_neg (by omega)]
      cases hv : impV n V with
      | none => exact key
      | some v => simp only []; rw [T.get_set, if_neg hj]; exact key
def impO (n : Nat) : Obj → Option AO
  | .cells c _ _ => some (.tab (impC n c.toList 0))
  | _ => none
def impT (n : Nat) : List Obj → Nat → T AO
  | [], _ => T.e
  | o :: l, i => match impO n o with
    | some x => (impT n l (i + 1)).set (glob + i) x
    | none => impT n l (i + 1)
theorem impT_get (n : Nat) : ∀ (l : List Obj) (i j : Nat), (impT n l i).get j = if glob + i ≤ j then (l[j - glob - i]?).bind (impO n) else none
  | [], i, j => by rw [impT, T.get_e]; simp
  | V :: l, i, j => by
    have ih := impT_get n l (i + 1) j
    rw [impT]
    by_cases hj : j = glob + i
    · subst hj
      rw [if_pos (Nat.le_refl _), show glob + i - glob - i = 0 by omega]
      simp only [List.getElem?_cons_zero, Option.bind_some]
      cases hv : impO n V with
      | none => simp only []; rw [ih, if_neg (by omega)]
      | some v => simp only []; rw [T.get_set, if_pos rfl]
    · have key : (impT n l (i + 1)).get j = if glob + i ≤ j then ((V :: l)[j - glob - i]?).bind (impO n) else none := by
        rw [ih]
        by_cases h : glob + i ≤ j
        · rw [if_pos h, if_pos (by omega), show j - glob - i = (j - glob - (i + 1)) + 1 by omega, List.getElem?_cons_succ]
        · rw [if_neg h, if_neg (by omega)]
      cases hv : impO n V with
      | none => exact key
      | some v => simp only []; rw [T.get_set, if_neg hj]; exact key
/-- the world's blocks have the numbers behind the global variables -/
def rhoW (n : Nat) : Rho := ⟨fun a => if a < glob then some ⟨a, 0, 0⟩ else if a < glob + n then some ⟨a - glob, 0, 0⟩ else none, fun g hg => ⟨0, if_pos hg⟩⟩
theorem rhoW_at {n b : Nat} (h : b < n) : rhoW n (glob + b) = some ⟨b, 0, 0⟩ := by
  show (if glob + b < glob then _ else if glob + b < glob + n then some (⟨glob + b - glob, 0, 0⟩ : Go.Proofs.YtldmhpdjlgoenaaGreatDoor.Eo.Loc) else none) = _
  rw [if_neg (by omega), if_pos (by omega), Nat.add_sub_cancel_left]
theorem rhoW_0 (n : Nat) : rhoW n 0 = some ⟨0, 0, 0⟩ := by
  show (if 0 < glob then some (⟨0, 0, 0⟩ : Go.Proofs.YtldmhpdjlgoenaaGreatDoor.Eo.Loc) else if 0 < glob + n then some ⟨0 - glob, 0, 0⟩ else none) = _
  rw [if_pos (by decide)]
def hW (W : World) : H := ⟨glob + W.heap.size, impT W.heap.size W.heap.toList 0⟩
theorem hW_get (W : World) {j : Nat} {o : AO} (h : (hW W).t.get j = some o) : glob ≤ j ∧ j - glob < W.heap.size ∧ ∃ c e f, W.heap[j - glob]? = some (.cells c e f) ∧ o = .tab (impC W.heap.size c.toList 0) := by
  have e := impT_get W.heap.size W.heap.toList 0 j
  rw [show (hW W).t = impT W.heap.size W.heap.toList 0 from rfl, e] at h
  by_cases hj : glob + 0 ≤ j
  · rw [if_pos hj] at h
    rw [show j - glob - 0 = j - glob by omega, Array.getElem?_toList] at h
    cases hb : W.heap[j - glob]? with
    | none => rw [hb] at h; cases h
    | some b =>
      rw [hb] at h
      have hlt := (Array.getElem?_eq_some_iff.1 hb).1
      simp only [Option.bind_some] at h
      cases b with
      | cells c e f =>
        simp only [impO, Option.some.injEq] at h
        exact ⟨by omega, hlt, c, e, f, rfl, h.symm⟩
      | _ => simp [impO] at h
  · rw [if_neg hj] at h
    cases h
theorem hW_tab (W : World) {b : Nat} {c : Array Value} {e : TypeId} {f : Nat × Nat} (h : W.heap[b]? = some (.cells c e f)) : (hW W).t.get (glob + b) = some (.tab (impC W.heap.size c.toList 0)) := by
  have e := impT_get W.heap.size W.heap.toList 0 (glob + b)
  rw [show (hW W).t = impT W.heap.size W.heap.toList 0 from rfl, e, if_pos (by omega), show glob + b - glob - 0 = b by omega, Array.getElem?_toList, h]
  rfl
theorem impS_VR {W : World} {es : Nat} (hes : 0 < es) {p : Option Addr} {len c : Nat} {v : AV} (h : impS W.heap.size es p len c = some v) : VR (rhoW W.heap.size) v (.slice p len c) := by
  unfold impS at h
  split at h
  · split at h
    · rename_i hh
      simp only [Option.some.injEq] at h
      subst h
      obtain ⟨rfl, rfl⟩ := hh
      rfl
    · cases h
  · rename_i a
    split at h
    · rename_i hh
      simp only [Option.some.injEq] at h
      subst h
      obtain ⟨rfl, rfl⟩ := hh
      exact ⟨_, rhoW_0 _, hes, by simp, .inr ⟨rfl, a, rfl⟩⟩
    · split at h
      · rename_i hh
        simp only [Option.some.injEq] at h
        subst h
        obtain ⟨h1, h2, h3⟩ := hh
        refine ⟨_, rhoW_at h2, h3, ?_⟩
        obtain ⟨b, o, s⟩ := a
        simp only at h1
        subst h1
        simp
      · cases h
theorem impV_VR {W : World} {V : Value} {v : AV} (h : impV W.heap.size V = some v) : VR (rhoW W.heap.size) v V ∧ one V = true := by
  cases V with
  | int k x => simp only [impV, Option.some.injEq] at h; subst h; exact ⟨rfl, rfl⟩
  | _ => simp [impV] at h
theorem hW_mut (W : World) : ∀ a o, (hW W).t.get a = some o → o.mut = false := fun a o h => by
  obtain ⟨_, _, c, e, f, _, rfl⟩ := hW_get W h
  rfl
theorem hW_hr (W : World) : HR (rhoW W.heap.size) (hW W).t.get W := by
  constructor
  · intro a o l h _ hl
    obtain ⟨h1, h2, c, e, f, h3, rfl⟩ := hW_get W h
    have e1 : a = glob + (a - glob) := by omega
    rw [e1, rhoW_at h2] at hl
    simp only [Option.some.injEq] at hl
    subst hl
    refine ⟨h2, c, e, f, h3, fun i v hv => ?_⟩
    rw [impC_get, if_pos (Nat.zero_le _), Nat.sub_zero, Array.getElem?_toList] at hv
    cases hc : c[i]? with
    | none => rw [hc] at hv; cases hv
    | some V =>
      rw [hc] at hv
      obtain ⟨k1, k2⟩ := impV_VR hv
      exact ⟨V, k1, k2, by rw [Nat.zero_add]; exact hc⟩
  · intro a b o p l m h1 _ h2 _ hl hm hb
    obtain ⟨a1, a2, _⟩ := hW_get W h1
    obtain ⟨b1, b2, _⟩ := hW_get W h2
    have e1 : a = glob + (a - glob) := by omega
    have e2 : b = glob + (b - glob) := by omega
    rw [e1, rhoW_at a2] at hl
    rw [e2, rhoW_at b2] at hm
    simp only [Option.some.injEq] at hl hm
    subst hl; subst hm
    simp only at hb
    omega
theorem hW_fresh (W : World) : Fresh (rhoW W.heap.size) (hW W).next := fun a ha => by
  have h : glob + W.heap.size ≤ a := ha
  show (if a < glob then _ else if a < glob + W.heap.size then _ else none) = _
  rw [if_neg (by omega), if_neg (by omega)]
theorem calls_from {f : FuncId} {cf : CF} {k : Nat} {call : CallE} (hcall : CallOK true Tryz.prog call) (hpl : Plain call) {W : World} {args : List AV} {ARGS : List Value} (ha : VRs (rhoW W.heap.size) args ARGS) (hk : args.length = k) (h1 : hasE Tryz.prog f = true) (h2 : Nat.ble ykey f = false) (h3 : cCF Tryz.prog f k = some cf)
    (hw : WF Tryz.prog call cf args (hW W) fun v h' => v = .bool true) : Calls Tryz.prog f ARGS.toArray W fun e W' => e = .returned (.bool true) ∧ Below W.heap.size W W' := by
  obtain ⟨v, h', r, rfl⟩ := WF_sound Tryz.checked.mixed hcall hpl h1 h2 h3 hk hw
  refine (r.ret (rhoW W.heap.size) W ARGS ha (hW_hr W) (hW_fresh W)).mono fun e w' hh => ?_
  obtain ⟨ρ', V, rfl, hv, way⟩ := hh
  simp only [VR] at hv
  subst hv
  exact ⟨rfl, way.nx.env.os, way.nx.env.tape, way.nx.env.output, way.nx.size, fun r hr => way.nx.frame r hr fun a o l q1 q2 => by rw [hW_mut W a o q1] at q2; cases q2⟩
/-- what lies at an address -/
theorem cell_tab {W : World} {b o : Nat} {V : Value} {v : AV} (h : W.cell? ⟨b, o, none⟩ = some V) (hv : impV W.heap.size V = some v) : b < W.heap.size ∧ ldA (hW W).t.get none (glob + b) o = some v := by
  unfold World.cell? at h
  split at h
  · rename_i c e f hb
    have hb' : W.heap[b]? = some (.cells c e f) := hb
    have ho : c[o]? = some V := by simpa using h
    refine ⟨(Array.getElem?_eq_some_iff.1 hb').1, ?_⟩
    rw [rLdA, hW_tab W hb']
    show ldO none o (.tab (impC W.heap.size c.toList 0)) = _
    rw [rLdOt, impC_get, if_pos (Nat.zero_le _), Nat.sub_zero, Array.getElem?_toList, ho]
    exact hv
  · cases h
/-- an address at which a cell lies is plain -/
theorem plain_of_cell {w : World} {a : Addr} {v : Value} (h : w.cell? a = some v) : a = ⟨a.block, a.off, none⟩ := by
  obtain ⟨b, o, s⟩ := a
  cases s with
  | none => rfl
  | some s =>
    unfold World.cell? at h
    split at h
    · simp at h
    · cases h
theorem add_plain (b o i : Nat) : (⟨b, o, none⟩ : Addr).add i = ⟨b, o + i, none⟩ := by
  unfold Addr.add; split
  · rename_i h0; simp [h0]
  · simp
theorem wf_u64 {y : Int} (h : (Lit.int .u64 y).wf = true) : inU y := by
  simp [Lit.wf, IntKind.min, IntKind.max, IntKind.signed, IntKind.bits] at h
  exact ⟨h.1, by omega⟩
theorem wf_u8 {y : Int} (h : (Lit.int .u8 y).wf = true) : 0 ≤ y ∧ y < 256 := by
  simp [Lit.wf, IntKind.min, IntKind.max, IntKind.signed, IntKind.bits] at h
  exact ⟨h.1, by omega⟩
theorem wf_i64 {y : Int} (h : (Lit.int .i64 y).wf = true) : -9223372036854775808 ≤ y ∧ y ≤ 9223372036854775807 := by
  simp [Lit.wf, IntKind.min, IntKind.max, IntKind.signed, IntKind.bits] at h
  exact ⟨by omega, by omega⟩
section
variable {H : Type} {enc : TypeId × Value → H} {W : World}
theorem openInts {t e : TypeId} {k : IntKind} {fuel : Nat} {cs : List Value} {x : DataW H × List MemPlace} (ht : Tryz.prog.underlying t = some (.slice e)) (he : Tryz.prog.underlying e = some (.int k)) (hc : Tryz.prog.cellsOf e = 1) (hby : Tryz.prog.bytesOf e = 8)
    (h : DataW.trod enc Tryz.prog W 0 (fun _ => true) true fuel t cs = some x) (hz : ∀ n ∈ x.1.weights Tryz.prog t, n ≤ reachBytes) : ∃ (v : Value) (l : List Int) (av : AV), cs = [v] ∧ VR (rhoW W.heap.size) av v ∧ RdL none 1 (hW W) av (l.map fun x : Int => AV.int k x) ∧ (∀ a, own av = some a → a < (hW W).next) ∧ (∀ y ∈ l, (Lit.int k y).wf = true) ∧ l.length * 8 ≤ 140737488351232 := by
  rcases open_ints ht he hc h with ⟨rfl, -⟩ | ⟨a, len, cap, zs, rfl, -, hl, hm, hn, hx, hcell, hwf⟩
  · exact ⟨_, [], .nils, rfl, rfl, .inl ⟨rfl, rfl⟩, fun a ha => by simp [own] at ha, fun y hy => (by cases hy), by decide⟩
  · simp only [if_true] at hn
    by_cases h0 : len = 0 ∧ cap = 0
    · obtain ⟨rfl, rfl⟩ := h0
      exact ⟨_, [], .sl 0 0 0 1 none, rfl, impS_VR (W := W) (by decide) rfl, .inr ⟨0, 0, none, rfl, Nat.zero_le _, fun i x hi => by simp at hi⟩, fun b hb => by simp only [own, Option.some.injEq] at hb; subst hb; show 0 < glob + _; unfold glob; omega, fun y hy => (by cases hy), by decide⟩
    · have hpos : 0 < zs.length := by omega
      have hpl := plain_of_cell (hcell 0 hpos)
      have hpl : a = ⟨a.block, a.off, none⟩ := by simpa [Addr.add] using hpl
      have hlen : (zs.take len).length = len := by rw [List.length_take]; omega
      have hat : ∀ i y, zs[i]? = some y → a.block < W.heap.size ∧ ldA (hW W).t.get none (glob + a.block) (a.off + i * 1) = some (.int k y) := fun i y hi => by
        have hc := hcell i (List.getElem?_eq_some_iff.1 hi).1
        have e1 : zs.getD i 0 = y := by simp [List.getD, hi]
        rw [e1, hpl, add_plain] at hc
        rw [Nat.mul_one]
        exact cell_tab hc rfl
      have hblk := (hat 0 zs[0] (List.getElem?_eq_getElem hpos)).1
      have hb : len * 8 ≤ 140737488351232 := by
        have := hz ((((lits (H := H) k (zs.take len)).length + (lits (H := H) k (zs.drop len)).length)) * Tryz.prog.bytesOf e) (by rw [hx]; simp [DataW.weights, ht])
        rw [hby] at this
        simp only [lits, List.length_map, List.length_take, List.length_drop] at this
        unfold reachBytes at this
        omega
      have hsp : a.spot = none := by rw [hpl]
      refine ⟨_, zs.take len, .sl (glob + a.block) a.off len 1 (some cap), rfl, impS_VR (W := W) (es := 1) Nat.one_pos ?_, .inr ⟨glob + a.block, a.off, some cap, by rw [List.length_map, hlen], by rw [List.length_map, hlen]; omega, fun i x hi => ?_⟩, fun b hb => ?_, fun y hy => hwf y (List.mem_of_mem_take hy), by rw [hlen]; exact hb⟩
      · unfold impS
        simp only []
        rw [if_neg h0, if_pos ⟨hsp, hblk, hl⟩]
      · rw [List.getElem?_map, Option.map_eq_some_iff] at hi
        obtain ⟨y, hy, rfl⟩ := hi
        rw [List.getElem?_take] at hy
        split at hy
        · exact (hat i y hy).2
        · cases hy
      · simp only [own, Option.some.injEq] at hb
        subst hb
        show glob + a.block < glob + W.heap.size
        omega
theorem openOp {fuel : Nat} {cs : List Value} {x : DataW H × List MemPlace} (h : DataW.trod enc Tryz.prog W 0 (fun _ => true) true fuel 30 cs = some x) :
    ∃ y : OpT, OpU y ∧ cs = [.int .u8 y.kd, .int .u64 y.key, .int .u64 y.hi, .int .u64 y.va, .int .u64 y.ol, .int .u64 y.bY, .int .u64 y.dr] := by
  obtain ⟨xs, n, -, hx, hl, hlen, hfi⟩ := DataW.trod_struct Tryz.underlying30 h
  have hsz : cs.length = 7 := hl.trans cells30
  match cs, hsz with
  | [c0, c1, c2, c3, c4, c5, c6], _ =>
    have t0 := hfi 0 _ rfl
    have t1 := hfi 1 _ rfl
    have t2 := hfi 2 _ rfl
    have t3 := hfi 3 _ rfl
    have t4 := hfi 4 _ rfl
    have t5 := hfi 5 _ rfl
    have t6 := hfi 6 _ rfl
    match xs, hlen with
    | [y0, y1, y2, y3, y4, y5, y6], _ =>
      simp [cells28, cells5] at t0 t1 t2 t3 t4 t5 t6
      obtain ⟨k, e0, -, w0⟩ := DataW.trod_int Tryz.underlying5 t0
      obtain ⟨a, e1, -, w1⟩ := DataW.trod_int Tryz.underlying28 t1
      obtain ⟨b, e2, -, w2⟩ := DataW.trod_int Tryz.underlying28 t2
      obtain ⟨v, e3, -, w3⟩ := DataW.trod_int Tryz.underlying28 t3
      obtain ⟨o, e4, -, w4⟩ := DataW.trod_int Tryz.underlying28 t4
      obtain ⟨y, e5, -, w5⟩ := DataW.trod_int Tryz.underlying28 t5
      obtain ⟨d, e6, -, w6⟩ := DataW.trod_int Tryz.underlying28 t6
      simp at e0 e1 e2 e3 e4 e5 e6
      subst e0 e1 e2 e3 e4 e5 e6
      exact ⟨⟨k, a, b, v, o, y, d⟩, ⟨wf_u64 w1, wf_u64 w2, wf_u64 w5⟩, rfl⟩
theorem openDomain {fuel : Nat} {cs : List Value} {x : DataW H × List MemPlace} (h : DataW.trod enc Tryz.prog W 0 (fun _ => true) true fuel 24 cs = some x) (hz : ∀ n ∈ x.1.weights Tryz.prog 24, n ≤ reachBytes) :
    ∃ (dk dn : Int) (cv : Value) (l : List Int) (av : AV), cs = [.int .u8 dk, .int .i64 dn, cv] ∧ VR (rhoW W.heap.size) av cv ∧ RdL none 1 (hW W) av (l.map fun x : Int => AV.int .u64 x) ∧ (∀ a, own av = some a → a < (hW W).next) ∧ (∀ y ∈ l, inU y) ∧ l.length * 8 ≤ 140737488351232 := by
  obtain ⟨xs, n, -, hx, hl, hlen, hfi⟩ := DataW.trod_struct Tryz.underlying24 h
  have hsz : cs.length = 3 := hl.trans cells24
  match cs, hsz with
  | [c0, c1, c2], _ =>
    have t0 := hfi 0 _ rfl
    have t1 := hfi 1 _ rfl
    have t2 := hfi 2 _ rfl
    match xs, hlen with
    | [y0, y1, y2], _ =>
      simp [cells3, cells5, cells22] at t0 t1 t2
      obtain ⟨k, e0, -, w0⟩ := DataW.trod_int Tryz.underlying5 t0
      obtain ⟨a, e1, -, w1⟩ := DataW.trod_int Tryz.underlying3 t1
      obtain ⟨v, l, av, e2, h1, h2, h3, h4, h5⟩ := openInts Tryz.underlying22 Tryz.underlying28 cells28 bytes28 t2 (fun n hn => hz n (by
        rw [hx]
        simp only [DataW.weights, Tryz.underlying24, List.map_cons, List.map_nil, DataW.weightsEach, List.mem_append]
        exact .inr (.inr (.inl hn))))
      simp at e0 e1 e2
      subst e0 e1 e2
      exact ⟨k, a, _, l, av, rfl, h1, h2, h3, fun y hy => wf_u64 (h4 y hy), h5⟩
theorem openConfig {fuel : Nat} {cs : List Value} {x : DataW H × List MemPlace} (h : DataW.trod enc Tryz.prog W 0 (fun _ => true) true fuel 27 cs = some x) (hz : ∀ n ∈ x.1.weights Tryz.prog 27, n ≤ reachBytes) :
    ∃ (th sl en bu dk dn t0 t1 t2 t3 t4 t5 lo tr ba : Int) (cv : Value) (l : List Int) (av : AV), cs = [.int .i64 th, .int .i64 sl, .int .u8 en, .int .i64 bu, .int .u8 dk, .int .i64 dn, cv, .int .i64 t0, .int .i64 t1, .int .i64 t2, .int .i64 t3, .int .i64 t4, .int .i64 t5, .int .i64 lo, .int .i64 tr, .int .i64 ba] ∧ VR (rhoW W.heap.size) av cv ∧ RdL none 1 (hW W) av (l.map fun x : Int => AV.int .u64 x) ∧ (∀ a, own av = some a → a < (hW W).next) ∧ (∀ y ∈ l, inU y) ∧ l.length * 8 ≤ 140737488351232 := by
  obtain ⟨xs, n, -, hx, hl, hlen, hfi⟩ := DataW.trod_struct Tryz.underlying27 h
  have hsz : cs.length = 16 := hl.trans cells27
  match cs, hsz with
  | [c0, c1, c2, c3, c4, c5, c6, c7, c8, c9, c10, c11, c12, c13, c14, c15], _ =>
    have s0 := hfi 0 _ rfl
    have s1 := hfi 1 _ rfl
    have s2 := hfi 2 _ rfl
    have s3 := hfi 3 _ rfl
    have s4 := hfi 4 _ rfl
    have s5 := hfi 5 _ rfl
    have s6 := hfi 6 _ rfl
    have s7 := hfi 7 _ rfl
    have s8 := hfi 8 _ rfl
    match xs, hlen with
    | [y0, y1, y2, y3, y4, y5, y6, y7, y8], _ =>
      simp [cells3, cells5, cells24, cells25] at s0 s1 s2 s3 s4 s5 s6 s7 s8
      obtain ⟨th, e0, -, -⟩ := DataW.trod_int Tryz.underlying3 s0
      obtain ⟨sl, e1, -, -⟩ := DataW.trod_int Tryz.underlying3 s1
      obtain ⟨en, e2, -, -⟩ := DataW.trod_int Tryz.underlying5 s2
      obtain ⟨bu, e3, -, -⟩ := DataW.trod_int Tryz.underlying3 s3
      obtain ⟨dk, dn, cv, l, av, e4, hv⟩ := openDomain s4 (fun n hn => hz n (by
        rw [hx]
        simp only [DataW.weights, Tryz.underlying27, List.map_cons, List.map_nil, DataW.weightsEach, List.mem_append]
        exact .inr (.inr (.inr (.inr (.inl hn))))))
      obtain ⟨zs, m, -, -, hal, hzl, hze⟩ := DataW.trod_array Tryz.underlying25 s5
      obtain ⟨lo, e6, -, -⟩ := DataW.trod_int Tryz.underlying3 s6
      obtain ⟨tr, e7, -, -⟩ := DataW.trod_int Tryz.underlying3 s7
      obtain ⟨ba, e8, -, -⟩ := DataW.trod_int Tryz.underlying3 s8
      rw [cells3] at hze
      match zs, hzl with
      | [z0, z1, z2, z3, z4, z5], _ =>
        have u0 := hze 0 (by omega)
        have u1 := hze 1 (by omega)
        have u2 := hze 2 (by omega)
        have u3 := hze 3 (by omega)
        have u4 := hze 4 (by omega)
        have u5 := hze 5 (by omega)
        simp at u0 u1 u2 u3 u4 u5
        obtain ⟨t0, f0, -, -⟩ := DataW.trod_int Tryz.underlying3 u0
        obtain ⟨t1, f1, -, -⟩ := DataW.trod_int Tryz.underlying3 u1
        obtain ⟨t2, f2, -, -⟩ := DataW.trod_int Tryz.underlying3 u2
        obtain ⟨t3, f3, -, -⟩ := DataW.trod_int Tryz.underlying3 u3
        obtain ⟨t4, f4, -, -⟩ := DataW.trod_int Tryz.underlying3 u4
        obtain ⟨t5, f5, -, -⟩ := DataW.trod_int Tryz.underlying3 u5
        simp at e0 e1 e2 e3 e4 e6 e7 e8 f0 f1 f2 f3 f4 f5
        obtain ⟨e4, e4', e4''⟩ := e4
        subst e0 e1 e2 e3 e4 e4' e4'' e6 e7 e8 f0 f1 f2 f3 f4 f5
        exact ⟨th, sl, en, bu, dk, dn, t0, t1, t2, t3, t4, t5, lo, tr, ba, _, l, av, rfl, hv⟩
theorem openArgs {base : Nat} {v0 : Value} {d0 : DataW H} {p0 : List MemPlace} (o0 : Value.okWide Tryz.prog W .any base 32 v0) (h0 : DataW.Trod enc Tryz.prog W 0 (fun _ => true) true 32 v0 d0 p0) :
    ∃ (th sl : Int) (o : OpT), OpU o ∧ -9223372036854775808 ≤ th ∧ th ≤ 9223372036854775807 ∧ ∀ ρ, VR ρ (.agg (argC th sl o)) v0 := by
  obtain ⟨cs, rfl, hsz⟩ := okWide_struct Tryz.underlying32 o0
  obtain ⟨fuel, hf⟩ := h0
  obtain ⟨xs, n, -, hx, hl, hlen, hfi⟩ := DataW.trod_struct Tryz.underlying32 hf
  have hsz : cs.size = 9 := hsz.trans cells32
  obtain ⟨c0, c1, c2, c3, c4, c5, c6, c7, c8, rfl⟩ : ∃ c0 c1 c2 c3 c4 c5 c6 c7 c8, cs = #[c0, c1, c2, c3, c4, c5, c6, c7, c8] := by
    obtain ⟨l⟩ := cs
    match l, hsz with
    | [c0, c1, c2, c3, c4, c5, c6, c7, c8], _ => exact ⟨c0, c1, c2, c3, c4, c5, c6, c7, c8, rfl⟩
  have s0 := hfi 0 _ rfl
  have s1 := hfi 1 _ rfl
  have s2 := hfi 2 _ rfl
  match xs, hlen with
  | [y0, y1, y2], _ =>
    simp [Value.cells, cells3, cells30] at s0 s1 s2
    obtain ⟨th, e0, -, w0⟩ := DataW.trod_int Tryz.underlying3 s0
    obtain ⟨sl, e1, -, -⟩ := DataW.trod_int Tryz.underlying3 s1
    obtain ⟨o, ho, e2⟩ := openOp s2
    simp at e0 e1 e2
    obtain ⟨q0, q1, q2, q3, q4, q5, q6⟩ := e2
    subst e0 e1 q0 q1 q2 q3 q4 q5 q6
    refine ⟨th, sl, o, ho, (wf_i64 w0).1, (wf_i64 w0).2, fun ρ => ⟨_, ?_, rfl⟩⟩
    unfold argC opC
    simp only [VRs, VR]
    exact ⟨_, _, rfl, ⟨_, _, rfl, ⟨_, _, rfl, ⟨_, _, rfl, ⟨_, _, rfl, ⟨_, _, rfl, ⟨_, _, rfl, ⟨_, _, rfl, ⟨_, _, rfl, rfl, rfl⟩, rfl⟩, rfl⟩, rfl⟩, rfl⟩, rfl⟩, rfl⟩, rfl⟩, rfl⟩
theorem openCfg {base : Nat} {v0 : Value} {d0 : DataW H} {p0 : List MemPlace} (o0 : Value.okWide Tryz.prog W .any base 27 v0) (h0 : DataW.Trod enc Tryz.prog W 0 (fun _ => true) true 27 v0 d0 p0) (hz : ∀ n ∈ d0.weights Tryz.prog 27, n ≤ reachBytes) :
    ∃ (c : CfgT) (av : AV), VR (rhoW W.heap.size) (.agg (cfgC c av)) v0 ∧ RdL none 1 (hW W) av (uL c.cuts) ∧ (∀ a, own av = some a → a < (hW W).next) ∧ ∀ y ∈ c.cuts, inU y := by
  obtain ⟨cs, rfl, hsz⟩ := okWide_struct Tryz.underlying27 o0
  obtain ⟨fuel, hf⟩ := h0
  obtain ⟨th, sl, en, bu, dk, dn, t0, t1, t2, t3, t4, t5, lo, tr, ba, cv, l, ac, e0, h1, h2, h3, h4, z1⟩ := openConfig hf hz
  refine ⟨⟨th, sl, en, bu, dk, dn, l, t0, t1, t2, t3, t4, t5, lo, tr, ba⟩, ac, ⟨cs.toList, ?_, ?_⟩, h2, h3, h4⟩
  · have e0' : cs.toList = _ := e0
    rw [e0']
    unfold cfgC
    simp only [VRs, VR]
    exact ⟨_, _, rfl, ⟨_, _, rfl, ⟨_, _, rfl, ⟨_, _, rfl, ⟨_, _, rfl, ⟨_, _, rfl, ⟨_, _, h1, ⟨_, _, rfl, ⟨_, _, rfl, ⟨_, _, rfl, ⟨_, _, rfl, ⟨_, _, rfl, ⟨_, _, rfl, ⟨_, _, rfl, ⟨_, _, rfl, ⟨_, _, rfl, rfl, rfl⟩, rfl⟩, rfl⟩, rfl⟩, rfl⟩, rfl⟩, rfl⟩, rfl⟩, rfl⟩, rfl⟩, rfl⟩, rfl⟩, rfl⟩, rfl⟩, rfl⟩, rfl⟩
  · rfl
end
end
noncomputable section
theorem u4 : Tryz.prog.underlying 4 = some .bool := Tryz.underlying4
theorem cX_ok (n : Nat) : CallOK true Tryz.prog (cX n) := callX_ok Tryz.checked.mixed (atom_plain X_ok) (atom_ok X_ok) n
theorem cX_plain (n : Nat) : Plain (cX n) := callX_plain (atom_plain X_ok) n
/-- THE LAW, IN PLAIN WORDS: whatever the configuration and the operation, it returns true. -/
theorem law3 {c : CfgT} {av : AV} {th sl : Int} {o : OpT} {W : World} {V1 V2 : Value} (h1 : VR (rhoW W.heap.size) (.agg (cfgC c av)) V1) (h2 : RdL none 1 (hW W) av (uL c.cuts)) (h3 : ∀ a, own av = some a → a < (hW W).next) (h4 : ∀ y ∈ c.cuts, inU y) (ho : OpU o) (t0 : -9223372036854775808 ≤ th) (t1 : th ≤ 9223372036854775807) (h5 : VR (rhoW W.heap.size) (.agg (argC th sl o)) V2) :
    Calls Tryz.prog 3 #[V1, V2] W fun e W' => e = .returned (.bool true) ∧ Below W.heap.size W W' :=
  calls_from (cX_ok 5) (cX_plain 5) (f := 3) (k := 2) (args := [.agg (cfgC c av), .agg (argC th sl o)]) (ARGS := [V1, V2]) ⟨_, _, h1, ⟨_, _, h5, rfl, rfl⟩, rfl⟩ rfl e3 (by kernel_rfl) c3_eq
    (w3 Tryz.prog u4 (f4 4) (f5 3) (f6 0) (f7 1) (f8 0) (f9 3) (f10 4) (f11 1) (f12 4) (f13 4) (f14 3) (f15 0) (f16 0) (f17 2) (f18 3) h2 h3 h4 t0 t1 ho)
end
end Go.Proofs.YtldmhpdjlgoenaaGreatDoor.BN
