/-
  The law ScriptBack: plainly.
-/
import Derived.Test.YtnmlfhogolonoaaSoRm
set_option linter.unusedVariables false
set_option linter.unusedSimpArgs false
namespace Go.Proofs.Ytnmlfhogolonoaa
open Go.Proofs.Ytnmlfhogolonoaa.Eo
open Nat renaming reduceAdd → zA, reduceMul → zM, reduceLT → zL, reduceEqDiff → zE, reduceLeDiff → zD
open Int renaming reduceAdd → yA, reduceLE → yE, reduceLT → yL, reduceEq → yQ, reduceToNat → yT
noncomputable section
theorem acc_enc {c : CfgT} {ps : List (List OpT)} {ks : List Int} {s : ByteArray} (hop : ∀ p ∈ ps, ∀ x ∈ p, opR x) (hcu : ∀ x ∈ c.cuts, inU x) (h : resS c ps ks = (s, 0)) : Acc s (anyD (s, false)) ∧ (anyD (s, false)).c = c ∧ (anyD (s, false)).ps = ps ∧ (anyD (s, false)).ks = ks ∧ s = strOf (encS c ps ks) ∧ s.size ≤ 65536 ∧ InS c ps ks := by
  obtain ⟨hc, he⟩ := resS_ok h
  obtain ⟨hs, hl⟩ := encZ_ok he
  have ins : InS c ps ks := ⟨hc, hop, hcu⟩
  have hz := anyD_put ins
  have e : stI (encS c ps ks) = (s, false) := by unfold stI; rw [← hs]
  rw [e] at hz
  have hsz : s.size ≤ 65536 := by rw [hs, strOf_len]; exact hl
  rw [hz]
  refine ⟨⟨rfl, ?_, hc, he⟩, rfl, rfl, rfl, hs, hsz, ins⟩
  show (strOf []).size = 0
  rw [strOf_len]
  rfl
theorem subS_list (s : ByteArray) (n : Nat) : (subS s 0 n).data.toList = s.data.toList.take n := by
  unfold subS
  rw [List.drop_zero, Nat.sub_zero]
theorem subS_all {s : ByteArray} {n : Nat} (h : s.size ≤ n) : subS s 0 n = s := by
  refine ByteArray.ext (Array.ext' ?_)
  rw [subS_list, List.take_of_length_le]
  rw [Array.length_toList]
  exact h
theorem strOf_pre {l m : List Int} (hl : l.length ≤ m.length) (h : subS (strOf l) 0 l.length = subS (strOf m) 0 l.length) : ∃ t, strOf m = strOf (l ++ t) := by
  refine ⟨m.drop l.length, ByteArray.ext (Array.ext' ?_)⟩
  have h2 := congrArg (fun s : ByteArray => s.data.toList) h
  rw [subS_list, subS_list, strOf_list, strOf_list, ← List.map_take, ← List.map_take, List.take_length] at h2
  rw [strOf_list, strOf_list, List.map_append, h2, ← List.map_append, List.take_append_drop]
theorem pre_one {c c' : CfgT} {ps ps' : List (List OpT)} {ks ks' : List Int} (hs : InS c ps ks) (hs' : InS c' ps' ks') (hl : (encS c ps ks).length ≤ (encS c' ps' ks').length) (h : subS (strOf (encS c ps ks)) 0 (encS c ps ks).length = subS (strOf (encS c' ps' ks')) 0 (encS c ps ks).length) : c = c' ∧ ps = ps' ∧ ks = ks' := by
  obtain ⟨t, e⟩ := strOf_pre hl h
  have h1 := anyD_putl hs t
  have h2 := anyD_put hs'
  have e2 : stI (encS c' ps' ks') = stI (encS c ps ks ++ t) := by unfold stI; rw [e]
  rw [e2, h1] at h2
  exact ⟨congrArg AnyT.c h2, congrArg AnyT.ps h2, congrArg AnyT.ks h2⟩
/-- neither begins with the other, but where they are alike -/
theorem pre_iff {c c' : CfgT} {ps ps' : List (List OpT)} {ks ks' : List Int} {s s' : ByteArray} (hs : InS c ps ks) (hs' : InS c' ps' ks') (e : s = strOf (encS c ps ks)) (e' : s' = strOf (encS c' ps' ks')) : (subS s 0 (min s.size s'.size) = subS s' 0 (min s.size s'.size) ↔ (c = c' ∧ ps = ps' ∧ ks = ks')) ∧ (s = s' ↔ (c = c' ∧ ps = ps' ∧ ks = ks')) := by
  have l1 : s.size = (encS c ps ks).length := by rw [e, strOf_len]
  have l2 : s'.size = (encS c' ps' ks').length := by rw [e', strOf_len]
  have key : subS s 0 (min s.size s'.size) = subS s' 0 (min s.size s'.size) → (c = c' ∧ ps = ps' ∧ ks = ks') := fun h => by
    rcases Nat.le_total s.size s'.size with hl | hl
    · rw [Nat.min_eq_left hl, l1, e, e'] at h
      exact pre_one hs hs' (by omega) h
    · rw [Nat.min_eq_right hl, l2, e, e'] at h
      obtain ⟨h1, h2, h3⟩ := pre_one hs' hs (by omega) h.symm
      exact ⟨h1.symm, h2.symm, h3.symm⟩
  have back : (c = c' ∧ ps = ps' ∧ ks = ks') → s = s' := by
    rintro ⟨rfl, rfl, rfl⟩
    rw [e, e']
  exact ⟨⟨key, fun h => by rw [back h]⟩, ⟨fun h => key (by rw [h]), back⟩⟩
theorem resS_le (c : CfgT) (ps : List (List OpT)) (ks : List Int) : (resS c ps ks).1.size ≤ 65536 := by
  unfold resS
  split
  · unfold encZ
    split
    · exact Nat.zero_le _
    · show (strOf _).size ≤ 65536
      rw [strOf_len]
      omega
  · exact Nat.zero_le _
end
end Go.Proofs.Ytnmlfhogolonoaa
