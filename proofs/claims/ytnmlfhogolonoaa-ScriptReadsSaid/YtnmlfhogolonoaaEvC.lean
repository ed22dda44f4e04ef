/-
  An evaluator of Go code over relative heaps, part C: operations that read no memory.
-/
import Derived.Test.YtnmlfhogolonoaaEvB
import Derived.Laws.Sem
set_option linter.unusedVariables false
set_option linter.unusedSimpArgs false
namespace Go.Proofs.Ytnmlfhogolonoaa.Ev
noncomputable section

/-! ### Operands -/
def cv1 : Value → Option AV
  | .bool b => some (.bool b)
  | .int k n => some (.int k n)
  | .string s => some (.str s)
  | .pointer none => some .nilp
  | .slice none 0 0 => some .nils
  | .map none => some .nilm
  | .nilFunc => some .nilf
  | .nilIface => some .nili
  | _ => none
def cvs : List Value → Option (List AV)
  | [] => some []
  | V :: L => match cv1 V with
    | some v => match cvs L with
      | some l => some (v :: l)
      | none => none
    | none => none
def cv : Value → Option AV
  | .agg cs => (cvs cs.toList).map .agg
  | V => cv1 V
theorem cv1_sound {ρ : Rho} {V : Value} {v : AV} (h : cv1 V = some v) : VR ρ v V ∧ one V = true := by
  unfold cv1 at h
  split at h <;> first
    | (simp at h; subst h; exact ⟨by simp [VR], rfl⟩)
    | simp at h
theorem cvs_sound {ρ : Rho} : ∀ {L : List Value} {l : List AV}, cvs L = some l → VRs ρ l L ∧ ∀ V ∈ L, one V = true
  | [], l, h => by simp [cvs] at h; subst h; exact ⟨rfl, by simp⟩
  | V :: L, l, h => by
    unfold cvs at h
    split at h
    · rename_i v hv
      split at h
      · rename_i m hm
        simp at h; subst h
        obtain ⟨k1, k2⟩ := cv1_sound (ρ := ρ) hv
        obtain ⟨j1, j2⟩ := cvs_sound (ρ := ρ) hm
        exact ⟨⟨V, L, k1, j1, rfl⟩, by simpa using ⟨k2, j2⟩⟩
      · simp at h
    · simp at h
theorem cv_sound {ρ : Rho} {V : Value} {v : AV} (h : cv V = some v) : VR ρ v V := by
  unfold cv at h
  split at h
  · rename_i cs
    simp only [Option.map_eq_some_iff] at h
    obtain ⟨l, h1, rfl⟩ := h
    exact ⟨cs.toList, (cvs_sound h1).1, by simp⟩
  · exact (cv1_sound h).1

inductive Opd where
  | t (n : Nat)
  | c (v : AV)
def cOpd : Operand → Option Opd
  | .tmp t => some (.t t)
  | .const v => (cv v).map .c
  | .func f => some (.c (.fn (.func f) [] []))
  | .global _ => none
def cOpds : List Operand → Option (List Opd)
  | [] => some []
  | x :: l => match cOpd x with
    | some y => match cOpds l with
      | some m => some (y :: m)
      | none => none
    | none => none
def evo (tm : T AV) : Opd → Option AV
  | .t n => tm.get n
  | .c v => some v
def evos (tm : T AV) : List Opd → Option (List AV)
  | [] => some []
  | x :: l => match evo tm x with
    | some v => match evos tm l with
      | some m => some (v :: m)
      | none => none
    | none => none

/-- how temporaries stand to real ones -/
def TR (ρ : Rho) (tm : T AV) (tmps : Array Value) : Prop := ∀ i v, tm.get i = some v → i < tmps.size ∧ VR ρ v (tmps.getD i undef)
theorem TR.mono {ρ ρ' : Rho} (h : Le ρ ρ') {tm : T AV} {tmps : Array Value} (ht : TR ρ tm tmps) : TR ρ' tm tmps :=
  fun i v hi => ⟨(ht i v hi).1, VR.mono h _ _ (ht i v hi).2⟩
theorem TR.set {ρ : Rho} {tm : T AV} {tmps : Array Value} (ht : TR ρ tm tmps) {d : Nat} {v : AV} {V : Value} (hd : d < tmps.size) (hv : VR ρ v V) :
    TR ρ (tm.set d v) (tmps.setIfInBounds d V) := by
  intro i u hi
  rw [T.get_set] at hi
  by_cases e : i = d
  · subst e
    simp at hi; subst hi
    refine ⟨by simpa using hd, ?_⟩
    simpa [Array.getD_eq_getD_getElem?, hd] using hv
  · rw [if_neg e] at hi
    obtain ⟨h1, h2⟩ := ht i u hi
    refine ⟨by simpa using h1, ?_⟩
    have : (tmps.setIfInBounds d V).getD i undef = tmps.getD i undef := by
      simp only [Array.getD_eq_getD_getElem?, Array.getElem?_setIfInBounds_ne (Ne.symm e)]
    rw [this]; exact h2
theorem evo_sound {ρ : Rho} {tm : T AV} {a : Act} (ht : TR ρ tm a.tmps) {x : Operand} {y : Opd} {v : AV} (hc : cOpd x = some y) (hv : evo tm y = some v) : VR ρ v (a.eval x) := by
  cases x with
  | tmp t => simp [cOpd] at hc; subst hc; exact (ht t v hv).2
  | const V =>
    simp only [cOpd, Option.map_eq_some_iff] at hc
    obtain ⟨u, h1, rfl⟩ := hc
    simp [evo] at hv; subst hv
    exact cv_sound h1
  | global g => simp [cOpd] at hc
  | func f =>
    simp [cOpd] at hc; subst hc
    simp [evo] at hv; subst hv
    exact ⟨[], [], rfl, rfl, rfl⟩
theorem evos_sound {ρ : Rho} {tm : T AV} {a : Act} (ht : TR ρ tm a.tmps) : ∀ {xs : List Operand} {ys : List Opd} {vs : List AV}, cOpds xs = some ys → evos tm ys = some vs → VRs ρ vs (xs.map a.eval)
  | [], ys, vs, hc, hv => by simp [cOpds] at hc; subst hc; simp [evos] at hv; subst hv; rfl
  | x :: xs, ys, vs, hc, hv => by
    unfold cOpds at hc
    split at hc
    · rename_i y hy
      split at hc
      · rename_i m hm
        simp at hc; subst hc
        unfold evos at hv
        split at hv
        · rename_i v h1
          split at hv
          · rename_i vs' h2
            simp at hv; subst hv
            exact ⟨_, _, evo_sound ht hy h1, evos_sound ht hm h2, rfl⟩
          · simp at hv
        · simp at hv
      · simp at hc
    · simp at hc

/-! ### What the tables say -/
def sz (P : Program) (t : TypeId) : Option Nat := (P.info? t).map (·.size)
def zcells (P : Program) (t : TypeId) : Option (List AV) :=
  match P.info? t with
  | some i => match i.zero with
    | some z => cvs z.cells.toList
    | none => none
  | none => none
/-- none: one cell; some n: a struct or an array of n cells -/
def aggOf (P : Program) (t : TypeId) : Option (Option Nat) :=
  match P.underlying t, sz P t with
  | some (.struct _), some n => some (some n)
  | some (.array _ _), some n => some (some n)
  | some _, some _ => some none
  | _, _ => none
theorem run_typeInfo {P : Program} {t : TypeId} {i : TypeInfo} (h : P.info? t = some i) (w : World) : (typeInfo t).run P w = .ok i w := by
  simp [typeInfo, h]
theorem run_underlying {P : Program} {t : TypeId} {d : TypeDesc} (h : P.underlying t = some d) (w : World) : (underlying t).run P w = .ok d w := by
  simp [underlying, h]
theorem run_sizeOf {P : Program} {t : TypeId} {n : Nat} (h : sz P t = some n) (w : World) : (sizeOf t).run P w = .ok n w := by
  simp only [sz, Option.map_eq_some_iff] at h
  obtain ⟨i, h1, rfl⟩ := h
  simp [sizeOf, run_typeInfo h1]
theorem run_zeroValue {P : Program} {t : TypeId} {l : List AV} (h : zcells P t = some l) (ρ : Rho) (w : World) : ∃ z : Value, (zeroValue t).run P w = .ok z w ∧ VRs ρ l z.cells.toList ∧ ∀ V ∈ z.cells.toList, one V = true := by
  unfold zcells at h
  split at h
  · rename_i i hi
    split at h
    · rename_i z hz
      obtain ⟨h1, h2⟩ := cvs_sound (ρ := ρ) h
      exact ⟨z, by simp [zeroValue, run_typeInfo hi, hz], h1, h2⟩
    · simp at h
  · simp at h
theorem run_isAgg {P : Program} {t : TypeId} {g : Option Nat} (h : aggOf P t = some g) (w : World) : (isAgg t).run P w = .ok g.isSome w := by
  unfold aggOf at h
  split at h <;> first
    | (rename_i h1 h2; simp at h; subst h; simp [isAgg, run_underlying h1]; done)
    | (rename_i d h1 h2 h3 h4; simp at h; subst h; simp only [isAgg, Sem.run_bind, run_underlying h3, Result.andThen_ok]; split <;> simp_all)
    | simp at h
theorem aggOf_size {P : Program} {t : TypeId} {n : Nat} (h : aggOf P t = some (some n)) : sz P t = some n := by
  unfold aggOf at h
  split at h <;> simp_all
end
end Go.Proofs.Ytnmlfhogolonoaa.Ev
