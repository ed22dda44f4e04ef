/-
  What is laid in the table of package math/bits: the integers that the evaluator takes there. No condition.
-/
import Derived.Test.YtjkahbgkfenfcaaGreatDoorScanKnown
import Derived.Test.YtjkahbgkfenfcaaGreatDoorRows
import Derived.ProofKit
import Derived.LaidMore
import Derived.OpenShut
set_option linter.unusedVariables false
namespace Go.Proofs.YtjkahbgkfenfcaaGreatDoor.scanExamples
open Go.ChangeShapes Go.WideShapes Go.ChangeAt Go.RowKit
theorem gTab : Tryz.prog.globalNamed "math/bits.deBruijn64tab" = some 0 := by kernel_rfl
theorem tTab : (Tryz.prog.globals[0]?).map (·.type) = some 488 := by kernel_rfl
/-- the type of the table's elements -/
theorem uTab : ∃ e, Tryz.prog.underlying 488 = some (.array 64 e) ∧ Tryz.prog.underlying e = some (.int .u8) ∧ Tryz.prog.cellsOf e = 1 :=
  ⟨5, by kernel_rfl, by kernel_rfl, by kernel_rfl⟩
/-- what is laid -/
noncomputable def laid : List (String × DataW Unit) := [("math/bits.deBruijn64tab", Rows.laid_math_bits_deBruijn64tab)]
theorem laid_fst : (Rows.laid_math_bits_deBruijn64tab : DataW Unit) = .agg (tab.map fun n => .lit (.int .u8 n)) := by kernel_rfl
theorem of_laid {W : World} (h : laidMetH Tryz.prog laid W) : Ev.TabW 0 .u8 tab W := by
  rw [MakeChecks.laidMetH_plain _ _ _ (by kernel_rfl)] at h
  obtain ⟨ps, ⟨g, t, cs, f, p, q, hg, ht, hv, hd, _⟩, _⟩ := h
  obtain rfl := Option.some.inj (gTab.symm.trans hg)
  obtain rfl := Option.some.inj (tTab.symm.trans ht)
  obtain ⟨e, u1, u2, u3⟩ := uTab
  obtain ⟨xs, m, rfl, hx, hlen, hn, hel⟩ := DataW.trod_array u1 hd
  simp only [World.var?, hg, Option.bind_some] at hv
  split at hv
  · rename_i c t' f' hh
    simp at hv; subst hv
    refine ⟨c, t', f', hh, fun i n hi => ?_⟩
    have hlt : i < 64 := by
      have := (List.getElem?_eq_some_iff.1 hi).1
      simpa [tab] using this
    have hx1 : xs.map (·.1) = tab.map fun n => .lit (.int .u8 n) := by
      have := congrArg Prod.fst hx
      rw [laid_fst] at this
      simpa using this.symm
    have hxi : (xs.map (·.1))[i]? = some (.lit (.int .u8 n)) := by rw [hx1]; simp [hi]
    rw [List.getElem?_map, Option.map_eq_some_iff] at hxi
    obtain ⟨x, hxx, hxl⟩ := hxi
    have hd' := hel i hlt
    rw [hxx, u3] at hd'
    obtain ⟨k, e1, e2, _⟩ := DataW.trod_int u2 hd'
    rw [e2] at hxl
    simp at hxl
    subst hxl
    have : (c.toList.drop (i * 1))[0]? = some (.int .u8 k) := by
      have := congrArg (fun l => l[0]?) e1
      simpa [List.getElem?_take] using this
    simpa using this
  · simp at hv
end Go.Proofs.YtjkahbgkfenfcaaGreatDoor.scanExamples
