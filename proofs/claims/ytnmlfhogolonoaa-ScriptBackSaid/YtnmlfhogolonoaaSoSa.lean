/-
  A script that came in as an argument: what open evaluation knows of it. Every block of the world is a table.
-/
import Derived.Test.YtnmlfhogolonoaaSoHa
import Derived.Deep.Slices
import Derived.OpenShut
import Derived.SizedLaws
import Derived.KernelRfl
set_option linter.unusedVariables false
set_option linter.unusedSimpArgs false
namespace Go.Proofs.Ytnmlfhogolonoaa
open Go.Proofs.Ytnmlfhogolonoaa.Eo Go.RowKit Go.ChangeShapes Go.WideShapes Go.Deep
open Nat renaming reduceAdd → zA, reduceMul → zM, reduceLT → zL, reduceEqDiff → zE, reduceLeDiff → zD
open Int renaming reduceAdd → yA, reduceLE → yE, reduceLT → yL, reduceEq → yQ, reduceToNat → yT
noncomputable section
/-- a slice of the world, with es cells an element -/
def impS (n es : Nat) : Option Addr → Nat → Nat → Option AV
  | none, len, c => if len = 0 ∧ c = 0 then some .nils else none
  | some a, len, c => if len = 0 ∧ c = 0 then some (.sl 0 0 0 es none) else if a.spot = none ∧ a.block < n ∧ len ≤ c then some (.sl (glob + a.block) a.off len es (some c)) else none
def impV (n : Nat) : Value → Option AV
  | .int k x => some (.int k x)
  | .slice p len c => impS n 7 p len c
  | _ => none
def impC (n : Nat) : List Value → Nat → T AV
  | [], _ => T.e
  | V :: l, i => match impV n V with
    | some v => (impC n l (i + 1)).set i v
    | none => impC n l (i + 1)
theorem impC_get (n : Nat) : ∀ (l : List Value) (i j : Nat), (impC n l i).get j = if i ≤ j then (l[j - i]?).bind (impV n) else none
  | [], i, j => by rw [impC, T.get_e]; simp
  | V :: l, i, j => by
    have ih := impC_get n l (i + 1) j
    rw [impC]
    by_cases hj : j = i
    · subst hj
      rw [if_pos (Nat.le_refl _), Nat.sub_self]
      simp only [List.getElem?_cons_zero, Option.bind_some]
      cases hv : impV n V with
      | none => simp only []; rw [ih, if_neg (by omega)]
      | some v => simp only []; rw [T.get_set, if_pos rfl]
    · have key : (impC n l (i + 1)).get j = if i ≤ j then ((V :: l)[j - i]?).bind (impV n) else none := by
        rw [ih]
        by_cases h : i ≤ j
        · rw [if_pos h, if_pos (by omega), show j - i = (j - (i + 1)) + 1 by omega, List.getElem?_cons_succ]
        · rw [if_neg h, if_neg (by omega)]
      cases hv : impV n V with
      | none => exact key
      | some v => simp only []; rw [T.get_set, if_neg hj]; exact key
def impO (n : Nat) : Obj → Option AO
  | .cells c _ _ => some (.tab (impC n c.toList 0))
  | _ => none
def impT (n : Nat) : List Obj → Nat → T AO
  | [], _ => T.e
  | o :: l, i => match impO n o with
    | some x => (impT n l (i + 1)).set (glob + i) x
    | none => impT n l (i + 1)
theorem impT_get (n : Nat) : ∀ (l : List Obj) (i j : Nat), (impT n l i).get j = if glob + i ≤ j then (l[j - glob - i]?).bind (impO n) else none
  | [], i, j => by rw [impT, T.get_e]; simp
  | V :: l, i, j => by
    have ih := impT_get n l (i + 1) j
    rw [impT]
    by_cases hj : j = glob + i
    · subst hj
      rw [if_pos (Nat.le_refl _), show glob + i - glob - i = 0 by omega]
      simp only [List.getElem?_cons_zero, Option.bind_some]
      cases hv : impO n V with
      | none => simp only []; rw [ih, if_neg (by omega)]
      | some v => simp only []; rw [T.get_set, if_pos rfl]
    · have key : (impT n l (i + 1)).get j = if glob + i ≤ j then ((V :: l)[j - glob - i]?).bind (impO n) else none := by
        rw [ih]
        by_cases h : glob + i ≤ j
        · rw [if_pos h, if_pos (by omega), show j - glob - i = (j - glob - (i + 1)) + 1 by omega, List.getElem?_cons_succ]
        · rw [if_neg h, if_neg (by omega)]
      cases hv : impO n V with
      | none => exact key
      | some v => simp only []; rw [T.get_set, if_neg hj]; exact key
/-- the world's blocks have the numbers behind the global variables -/
def rhoW (n : Nat) : Rho := ⟨fun a => if a < glob then some ⟨a, 0, 0⟩ else if a < glob + n then some ⟨a - glob, 0, 0⟩ else none, fun g hg => ⟨0, if_pos hg⟩⟩
theorem rhoW_at {n b : Nat} (h : b < n) : rhoW n (glob + b) = some ⟨b, 0, 0⟩ := by
  show (if glob + b < glob then _ else if glob + b < glob + n then some (⟨glob + b - glob, 0, 0⟩ : Go.Proofs.Ytnmlfhogolonoaa.Eo.Loc) else none) = _
  rw [if_neg (by omega), if_pos (by omega), Nat.add_sub_cancel_left]
theorem rhoW_0 (n : Nat) : rhoW n 0 = some ⟨0, 0, 0⟩ := by
  show (if 0 < glob then some (⟨0, 0, 0⟩ : Go.Proofs.Ytnmlfhogolonoaa.Eo.Loc) else if 0 < glob + n then some ⟨0 - glob, 0, 0⟩ else none) = _
  rw [if_pos (by decide)]
def hW (W : World) : H := ⟨glob + W.heap.size, impT W.heap.size W.heap.toList 0⟩
theorem hW_get (W : World) {j : Nat} {o : AO} (h : (hW W).t.get j = some o) : glob ≤ j ∧ j - glob < W.heap.size ∧ ∃ c e f, W.heap[j - glob]? = some (.cells c e f) ∧ o = .tab (impC W.heap.size c.toList 0) := by
  have e := impT_get W.heap.size W.heap.toList 0 j
  rw [show (hW W).t = impT W.heap.size W.heap.toList 0 from rfl, e] at h
  by_cases hj : glob + 0 ≤ j
  · rw [if_pos hj] at h
    rw [show j - glob - 0 = j - glob by omega, Array.getElem?_toList] at h
    cases hb : W.heap[j - glob]? with
    | none => rw [hb] at h; cases h
    | some b =>
      rw [hb] at h
      have hlt := (Array.getElem?_eq_some_iff.1 hb).1
      simp only [Option.bind_some] at h
      cases b with
      | cells c e f =>
        simp only [impO, Option.some.injEq] at h
        exact ⟨by omega, hlt, c, e, f, rfl, h.symm⟩
      | _ => simp [impO] at h
  · rw [if_neg hj] at h
    cases h
theorem hW_tab (W : World) {b : Nat} {c : Array Value} {e : TypeId} {f : Nat × Nat} (h : W.heap[b]? = some (.cells c e f)) : (hW W).t.get (glob + b) = some (.tab (impC W.heap.size c.toList 0)) := by
  have e := impT_get W.heap.size W.heap.toList 0 (glob + b)
  rw [show (hW W).t = impT W.heap.size W.heap.toList 0 from rfl, e, if_pos (by omega), show glob + b - glob - 0 = b by omega, Array.getElem?_toList, h]
  rfl
theorem impS_VR {W : World} {es : Nat} (hes : 0 < es) {p : Option Addr} {len c : Nat} {v : AV} (h : impS W.heap.size es p len c = some v) : VR (rhoW W.heap.size) v (.slice p len c) := by
  unfold impS at h
  split at h
  · split at h
    · rename_i hh
      simp only [Option.some.injEq] at h
      subst h
      obtain ⟨rfl, rfl⟩ := hh
      rfl
    · cases h
  · rename_i a
    split at h
    · rename_i hh
      simp only [Option.some.injEq] at h
      subst h
      obtain ⟨rfl, rfl⟩ := hh
      exact ⟨_, rhoW_0 _, hes, by simp, .inr ⟨rfl, a, rfl⟩⟩
    · split at h
      · rename_i hh
        simp only [Option.some.injEq] at h
        subst h
        obtain ⟨h1, h2, h3⟩ := hh
        refine ⟨_, rhoW_at h2, h3, ?_⟩
        obtain ⟨b, o, s⟩ := a
        simp only at h1
        subst h1
        simp
      · cases h
theorem impV_VR {W : World} {V : Value} {v : AV} (h : impV W.heap.size V = some v) : VR (rhoW W.heap.size) v V ∧ one V = true := by
  cases V with
  | int k x => simp only [impV, Option.some.injEq] at h; subst h; exact ⟨rfl, rfl⟩
  | slice p len c => exact ⟨impS_VR (by decide) h, rfl⟩
  | _ => simp [impV] at h
theorem hW_mut (W : World) : ∀ a o, (hW W).t.get a = some o → o.mut = false := fun a o h => by
  obtain ⟨_, _, c, e, f, _, rfl⟩ := hW_get W h
  rfl
theorem hW_hr (W : World) : HR (rhoW W.heap.size) (hW W).t.get W := by
  constructor
  · intro a o l h _ hl
    obtain ⟨h1, h2, c, e, f, h3, rfl⟩ := hW_get W h
    have e1 : a = glob + (a - glob) := by omega
    rw [e1, rhoW_at h2] at hl
    simp only [Option.some.injEq] at hl
    subst hl
    refine ⟨h2, c, e, f, h3, fun i v hv => ?_⟩
    rw [impC_get, if_pos (Nat.zero_le _), Nat.sub_zero, Array.getElem?_toList] at hv
    cases hc : c[i]? with
    | none => rw [hc] at hv; cases hv
    | some V =>
      rw [hc] at hv
      obtain ⟨k1, k2⟩ := impV_VR hv
      exact ⟨V, k1, k2, by rw [Nat.zero_add]; exact hc⟩
  · intro a b o p l m h1 _ h2 _ hl hm hb
    obtain ⟨a1, a2, _⟩ := hW_get W h1
    obtain ⟨b1, b2, _⟩ := hW_get W h2
    have e1 : a = glob + (a - glob) := by omega
    have e2 : b = glob + (b - glob) := by omega
    rw [e1, rhoW_at a2] at hl
    rw [e2, rhoW_at b2] at hm
    simp only [Option.some.injEq] at hl hm
    subst hl; subst hm
    simp only at hb
    omega
theorem hW_fresh (W : World) : Fresh (rhoW W.heap.size) (hW W).next := fun a ha => by
  have h : glob + W.heap.size ≤ a := ha
  show (if a < glob then _ else if a < glob + W.heap.size then _ else none) = _
  rw [if_neg (by omega), if_neg (by omega)]
theorem calls_from {f : FuncId} {cf : CF} {k : Nat} {call : CallE} (hcall : CallOK true Try.prog call) (hpl : Plain call) {W : World} {args : List AV} {ARGS : List Value} (ha : VRs (rhoW W.heap.size) args ARGS) (hk : args.length = k) (h1 : hasE Try.prog f = true) (h2 : Nat.ble ykey f = false) (h3 : cCF Try.prog f k = some cf)
    (hw : WF Try.prog call cf args (hW W) fun v h' => v = .bool true) : Calls Try.prog f ARGS.toArray W fun e W' => e = .returned (.bool true) ∧ Below W.heap.size W W' := by
  obtain ⟨v, h', r, rfl⟩ := WF_sound Try.checked.mixed hcall hpl h1 h2 h3 hk hw
  refine (r.ret (rhoW W.heap.size) W ARGS ha (hW_hr W) (hW_fresh W)).mono fun e w' hh => ?_
  obtain ⟨ρ', V, rfl, hv, way⟩ := hh
  simp only [VR] at hv
  subst hv
  exact ⟨rfl, way.nx.env.os, way.nx.env.tape, way.nx.env.output, way.nx.size, fun r hr => way.nx.frame r hr fun a o l q1 q2 => by rw [hW_mut W a o q1] at q2; cases q2⟩
/-- what lies at an address -/
theorem cell_tab {W : World} {b o : Nat} {V : Value} {v : AV} (h : W.cell? ⟨b, o, none⟩ = some V) (hv : impV W.heap.size V = some v) : b < W.heap.size ∧ ldA (hW W).t.get none (glob + b) o = some v := by
  unfold World.cell? at h
  split at h
  · rename_i c e f hb
    have hb' : W.heap[b]? = some (.cells c e f) := hb
    have ho : c[o]? = some V := by simpa using h
    refine ⟨(Array.getElem?_eq_some_iff.1 hb').1, ?_⟩
    rw [rLdA, hW_tab W hb']
    show ldO none o (.tab (impC W.heap.size c.toList 0)) = _
    rw [rLdOt, impC_get, if_pos (Nat.zero_le _), Nat.sub_zero, Array.getElem?_toList, ho]
    exact hv
  · cases h
end
end Go.Proofs.Ytnmlfhogolonoaa
