/-
  The law ConsoleLines: its row and its card.
-/
import Derived.Test.YtiokmoepojdfmaaDoorClT
import Derived.Test.YtiokmoepojdfmaaDoorRows
import Derived.Test.YtiokmoepojdfmaaDoorCards
import Derived.Test.YtiokmoepojdfmaaDoorTie
import Derived.WalkKit
import Derived.ProofKit
import Derived.LaidMore
import Derived.OpenShut
import Derived.ShutString
import Derived.Stop.Joined
import Derived.SevenTiedAt
import Derived.Lib.SmallJoins
import Derived.KernelRfl
set_option linter.unusedVariables false
set_option linter.unusedSimpArgs false
namespace Go.Proofs.YtiokmoepojdfmaaDoor.consoleLines
open Go.ChangeShapes Go.WideShapes Go.ChangeAt Go.RowKit Go.Joins
theorem own : ownKnob Tryd.prog.godebug = none := by kernel_rfl
theorem laidOut : laidOutB Tryd.prog = true := by kernel_rfl
/-- what is laid -/
noncomputable def laid : List (String × DataW Unit) := Rows.consoleLinesRow.laid
theorem gTab : Tryd.prog.globalNamed "internal/strconv.uint64pow10" = some 0 := by kernel_rfl
theorem tTab : (Tryd.prog.globals[0]?).map (·.type) = some 79 := by kernel_rfl
theorem uTab : Tryd.prog.underlying 79 = some (.array 20 22) ∧ Tryd.prog.cellsOf 22 = 1 := ⟨by kernel_rfl, by kernel_rfl⟩
theorem laid_fst : (Rows.laid_internal_strconv_uint64pow10 : DataW Unit) = .agg ((List.range 20).map fun i => .lit (.int .u64 ((10 ^ i : Nat) : Int))) := by kernel_rfl
theorem of_laid {W : World} (h : laidMetH Tryd.prog laid W) : TabW W := by
  rw [MakeChecks.laidMetH_plain _ _ _ (by kernel_rfl)] at h
  obtain ⟨ps, ⟨_, _, _, _, _, _, -, -, -, -, ⟨_, _, _, _, _, _, -, -, -, -, ⟨g, t, cs, f, p, q, hg, ht, hv, hd, _⟩, _⟩, _⟩, -⟩ := h
  obtain rfl := Option.some.inj (gTab.symm.trans hg)
  obtain rfl := Option.some.inj (tTab.symm.trans ht)
  obtain ⟨u1, u2⟩ := uTab
  obtain ⟨xs, m, rfl, hx, hlen, hn, hel⟩ := DataW.trod_array u1 hd
  simp only [World.var?, hg, Option.bind_some] at hv
  split at hv
  · rename_i c t' f' hh
    simp at hv; subst hv
    refine ⟨c, t', f', hh, fun i hi => ?_⟩
    have hx1 : xs.map (·.1) = (List.range 20).map fun i => .lit (.int .u64 ((10 ^ i : Nat) : Int)) := by
      have := congrArg Prod.fst hx
      rw [laid_fst] at this
      simpa using this.symm
    have hxi : (xs.map (·.1))[i]? = some (.lit (.int .u64 ((10 ^ i : Nat) : Int))) := by rw [hx1, List.getElem?_map, List.getElem?_range hi]; rfl
    rw [List.getElem?_map, Option.map_eq_some_iff] at hxi
    obtain ⟨x, hxx, hxl⟩ := hxi
    have hd' := hel i hi
    rw [hxx, u2] at hd'
    obtain ⟨k, e1, e2, _⟩ := DataW.trod_int Tryd.underlying22 hd'
    rw [e2] at hxl
    simp only [DataW.lit.injEq, Lit.int.injEq, true_and] at hxl
    subst hxl
    have : (c.toList.drop (i * 1))[0]? = some (.int .u64 ((10 ^ i : Nat) : Int)) := by
      have := congrArg (fun l => l[0]?) e1
      simpa [List.getElem?_take] using this
    simpa using this
  · simp at hv
/-- The door's own heap meets the condition: three closed facts. -/
theorem door_met (os : Os) (args : Array Value) : laidMetH Tryd.prog laid ((World.doorLaid Tryd.prog 4000 os).forCall (fun _ _ => 0) ⟨#[], args, []⟩).memory :=
  laidMetH_of_parts3 (fuel := 8) (laidMet_of_run' 8 (by kernel_rfl) (by kernel_rfl)) (by kernel_rfl) (by kernel_rfl)
set_option maxRecDepth 100000 in
theorem lifted (os : Os) (started : os.Started) (H : Type) (enc : TypeId × Value → H) :
    ReturnsInHanded {} Tryd.checked os 3 .any (fun w args => (Rows.consoleLinesSpec.pre enc Tryd.prog Tryd.f3 [] false w args ∧ laidMetH Tryd.prog laid w) ∧ sizedMet enc Tryd.prog Tryd.f3 (OpenSpec.ofChange Rows.consoleLinesSpec) false w args)
      (Rows.consoleLinesSpec.post enc Tryd.prog Tryd.f3 false true false false) := by
  refine returnsInHanded_of_change_and (C := Tryd.checked) (X := fun w _ => laidMetH Tryd.prog laid w) (fun _ _ _ hh h => h.of_heap hh) own started (by kernel_rfl) Tryd.func3
    (ChangeSpec.witness_shaped (enc := enc) (C := Tryd.checked) (os := os) (X := fun w _ => laidMetH Tryd.prog laid w) false (World.doorLaid Tryd.prog 4000 os) #[.agg #[.int .i64 0, .int .i64 0, .int .u8 0, .int .u64 0, .int .u64 0, .int .u64 0, .int .u64 0, .int .u64 0, .int .u64 0, .int .i64 0, .int .i64 0, .int .i64 0, .int .i64 0, .int .i64 0, .bool false, .int .u64 0, .int .u64 0, .int .i64 0]] 8 rfl (World.shaped_of_RefB (by kernel_rfl) (by kernel_rfl)) (by kernel_rfl) (by kernel_rfl) (by kernel_rfl) (door_met os _)) ?_
  intro W base args ds gs before hval0 hW _ _ hL _
  have hval : ∀ (j : Nat) t v, Tryd.f3.params[j]? = some t → args[j]? = some v → Value.okWide Tryd.prog W .any base t v := hval0
  have hW' := hW
  obtain ⟨p, q, hA0, hV, rfl, hfz, hnd⟩ := hW
  have hA : DataW.TrodAll enc Tryd.prog W 0 (fun _ => true) true Tryd.f3.params.toList args.toList ds p := hA0
  rw [Tryd.params3] at hA hval
  obtain ⟨v0, vs0, d0, ds0, p0, q0, hargs, rfl, rfl, h0, r0⟩ := trodAll_cons hA
  obtain ⟨rfl, rfl, rfl⟩ := trodAll_nil r0
  obtain rfl : args = #[v0] := by cases args; simp_all
  obtain ⟨rfl, rfl⟩ := trodVars_none hV
  have lt0 : ∀ x ∈ p0, x.block < W.heap.size := by obtain ⟨m, hm⟩ := h0; exact DataW.trod_lt m _ _ _ hm
  obtain ⟨c, hc, hv⟩ := openCall (hval 0 29 v0 rfl rfl) h0
  have k := law3 hc hv (of_laid hL)
  clear hA0 hval0
  refine k.mono fun e W' ⟨he, bel⟩ => ?_
  subst he
  exact ⟨_, rfl, _, _, _, [], _, [], hW', trodAll_mk1 (shut_bool Tryd.underlying4 _), (trodAll_cons_mk (Below.trod laidOut (by kernel_rfl) (of_decide_eq_true (by kernel_rfl)) h0 bel lt0) trodAll_mk0), rfl, bel.frame _, fun h => by cases h⟩
theorem over : Rows.ConsoleLinesSaid :=
  OpenClaim.holds_of_wide 3 Tryd.f3 rfl rfl rfl rfl rfl rfl rfl ⟨rfl, rfl, rfl, rfl, rfl⟩ rfl rfl rfl rfl rfl (by kernel_rfl) Tryd.func3 (by kernel_rfl)
    (of_decide_eq_true (by kernel_rfl)) (by unfold Func.isWrapper; first | (rw [if_pos (by decide +kernel)]; kernel_rfl) | (rw [if_neg (by decide +kernel)]; exact ⟨rfl, rfl⟩))
    (fun os started H enc _ => lifted os started H enc)
theorem cMain : Tryd.pinned.checked.prog.mainIs = some (true, "7028ef6c2c1a8d7d5b18b6356f72d73146bbed5e3fc9390ef2818d1a05280e48".toList) := by kernel_rfl
theorem cLooks : false = Tryd.pinned.checked.prog.looks [] := by kernel_rfl
theorem cText : Rows.consoleLinesRow.wfByText (OpenSpec.ofChange Rows.consoleLinesSpec) = true := by kernel_rfl
theorem cGoes : false = Rows.consoleLinesRow.goesBy Tryd.pinned.checked.prog := by kernel_rfl
theorem wants : Tryd.pinned.checked.prog.wantsStandIn 29 = false := by kernel_rfl
/-- THE STATEMENT -/
theorem proved : Rows.ConsoleLinesCardSaid :=
  Claim7.holds_tied_plain_at .later [] [.data, .data, .data] true (true, "7028ef6c2c1a8d7d5b18b6356f72d73146bbed5e3fc9390ef2818d1a05280e48") false
    over (fun _ h => by cases h) cText (fun _ h => by cases h) consoleLines_row_tie rfl ⟨rfl, rfl⟩ cMain rfl
    (fun f fn hf hfn => by
      obtain rfl : f = 3 := Option.some.inj ((show Tryd.prog.funcNamed "leapfrog/leapfroglaw45.ConsoleLines" = some 3 by kernel_rfl).symm.trans hf) |>.symm
      obtain rfl : fn = Tryd.f3 := (Option.some.inj (Tryd.func3.symm.trans hfn)).symm
      exact ⟨cLooks, fun j t ht => by
        rw [Tryd.params3] at ht
        match j, ht with
        | 0, ht =>
          obtain rfl : t = 29 := (Option.some.inj ht).symm
          exact wants
        | j + 1, ht => cases ht⟩)
    cGoes
#print axioms proved
end Go.Proofs.YtiokmoepojdfmaaDoor.consoleLines
