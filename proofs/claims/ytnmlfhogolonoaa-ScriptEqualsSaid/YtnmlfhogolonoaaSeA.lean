/-
  What it means that a value reads as a list (of integers, of operations, of programs) in a world, and that it goes on doing so where old memory is as it was. No program in sight but for its name.
-/
import Derived.Test.YtnmlfhogolonoaaProg
import Derived.WalkKit
import Derived.WalkSpells
import Derived.WalkLawsBesides
import Derived.Below
import Derived.Deep.QuietTactic
import Derived.BigQuiet
import Derived.Lib.Hide
set_option linter.unusedVariables false
set_option linter.unusedSimpArgs false
namespace Go.Proofs.Ytnmlfhogolonoaa
open Go.RowKit

theorem ret_bool {a b : Bool} (h : a = b) : Ending.returned (.bool a) = .returned (.bool b) := by rw [h]

/-- an operation's seven numbers -/
abbrev OpT := Int × Int × Int × Int × Int × Int × Int
instance decOp : DecidableEq OpT := fun a b =>
  if h : a.1 = b.1 ∧ a.2.1 = b.2.1 ∧ a.2.2.1 = b.2.2.1 ∧ a.2.2.2.1 = b.2.2.2.1 ∧ a.2.2.2.2.1 = b.2.2.2.2.1 ∧ a.2.2.2.2.2.1 = b.2.2.2.2.2.1 ∧ a.2.2.2.2.2.2 = b.2.2.2.2.2.2 then
    .isTrue (by obtain ⟨x0, x1, x2, x3, x4, x5, x6⟩ := a; obtain ⟨y0, y1, y2, y3, y4, y5, y6⟩ := b; simp only at h; obtain ⟨rfl, rfl, rfl, rfl, rfl, rfl, rfl⟩ := h; rfl)
  else .isFalse (by intro e; subst e; simp at h)
instance decOps : DecidableEq (List OpT) := instDecidableEqList
instance decProgs : DecidableEq (List (List OpT)) := instDecidableEqList
/-- all that was there to be read is there still -/
def Ext (w w' : World) : Prop := ∀ a v, w.cell? a = some v → w'.cell? a = some v
theorem Ext.refl (w : World) : Ext w w := fun _ _ h => h
theorem Ext.trans {a b c : World} (h : Ext a b) (k : Ext b c) : Ext a c := fun x v e => k x v (h x v e)
theorem blockLt {w : World} {a : Addr} {v : Value} (h : w.cell? a = some v) : a.block < w.heap.size := by
  unfold World.cell? at h
  split at h
  · rename_i e
    exact (Array.getElem?_eq_some_iff.1 e).1
  · cases h
theorem Ext.below {w w' : World} (h : Below w.heap.size w w') : Ext w w' := fun _ _ e => by rw [h.cell (blockLt e)]; exact e
theorem heap_drewN (w : World) (m : Nat) : (w.drewN m).heap = w.heap := by simp [go_sem]
theorem Ext.drewN (w : World) (m : Nat) : Ext w (w.drewN m) := fun a v e => by simpa [go_sem] using e

def IntR (k : IntKind) (w : World) (b o : Nat) (n : Int) : Prop := w.cell? ⟨b, o, none⟩ = some (.int k n) ∧ (Lit.int k n).wf = true
def OpR (w : World) (b o : Nat) (x : OpT) : Prop :=
  (w.cell? ⟨b, o, none⟩ = some (.int .u8 x.1) ∧ w.cell? ⟨b, o + 1, none⟩ = some (.int .u64 x.2.1) ∧ w.cell? ⟨b, o + 2, none⟩ = some (.int .u64 x.2.2.1) ∧ w.cell? ⟨b, o + 3, none⟩ = some (.int .u64 x.2.2.2.1) ∧
    w.cell? ⟨b, o + 4, none⟩ = some (.int .u64 x.2.2.2.2.1) ∧ w.cell? ⟨b, o + 5, none⟩ = some (.int .u64 x.2.2.2.2.2.1) ∧ w.cell? ⟨b, o + 6, none⟩ = some (.int .u64 x.2.2.2.2.2.2)) ∧
  (Lit.int .u8 x.1).wf = true ∧ (Lit.int .u64 x.2.1).wf = true ∧ (Lit.int .u64 x.2.2.1).wf = true ∧ (Lit.int .u64 x.2.2.2.1).wf = true ∧ (Lit.int .u64 x.2.2.2.2.1).wf = true ∧ (Lit.int .u64 x.2.2.2.2.2.1).wf = true ∧ (Lit.int .u64 x.2.2.2.2.2.2).wf = true
/-- a slice whose elements, of s cells and B bytes each, read as the list's -/
def Sl {α : Type} (R : World → Nat → Nat → α → Prop) (s B : Nat) (w : World) (v : Value) (l : List α) : Prop :=
  ∃ p c, v = .slice p l.length c ∧ l.length ≤ c ∧ (c ≤ maxLen ∧ l.length * B ≤ 140737488351232) ∧ (l ≠ [] → ∃ b o, p = some ⟨b, o, none⟩ ∧ ∀ i x, l[i]? = some x → R w b (o + i * s) x)
def ProgR (w : World) (b o : Nat) (x : List OpT) : Prop := ∃ v, w.cell? ⟨b, o, none⟩ = some v ∧ Sl OpR 7 56 w v x

theorem IntR.ext {k : IntKind} {w w' : World} (h : Ext w w') {b o : Nat} {n : Int} (r : IntR k w b o n) : IntR k w' b o n := ⟨h _ _ r.1, r.2⟩
theorem OpR.ext {w w' : World} (h : Ext w w') {b o : Nat} {n : OpT} (r : OpR w b o n) : OpR w' b o n :=
  ⟨⟨h _ _ r.1.1, h _ _ r.1.2.1, h _ _ r.1.2.2.1, h _ _ r.1.2.2.2.1, h _ _ r.1.2.2.2.2.1, h _ _ r.1.2.2.2.2.2.1, h _ _ r.1.2.2.2.2.2.2⟩, r.2⟩
theorem Sl.ext {α : Type} {R : World → Nat → Nat → α → Prop} {s B : Nat} {w w' : World} (hR : ∀ b o x, R w b o x → R w' b o x) {v : Value} {l : List α} (h : Sl R s B w v l) : Sl R s B w' v l := by
  obtain ⟨p, c, e, h1, h2, h3⟩ := h
  exact ⟨p, c, e, h1, h2, fun hl => let ⟨b, o, e, hx⟩ := h3 hl; ⟨b, o, e, fun i x hi => hR _ _ _ (hx i x hi)⟩⟩
theorem ProgR.ext {w w' : World} (h : Ext w w') {b o : Nat} {n : List OpT} (r : ProgR w b o n) : ProgR w' b o n :=
  let ⟨v, e, s⟩ := r; ⟨v, h _ _ e, s.ext fun _ _ _ => OpR.ext h⟩
abbrev Ints (w : World) (v : Value) (l : List Int) : Prop := Sl (IntR .i64) 1 8 w v l
abbrev Uints (w : World) (v : Value) (l : List Int) : Prop := Sl (IntR .u64) 1 8 w v l
abbrev OpsR (w : World) (v : Value) (l : List OpT) : Prop := Sl OpR 7 56 w v l
abbrev Progs (w : World) (v : Value) (l : List (List OpT)) : Prop := Sl ProgR 1 24 w v l
end Go.Proofs.Ytnmlfhogolonoaa
