/-
  An evaluator of Go code over relative heaps, part P: atomic operations, calls, all operations.
-/
import Derived.Test.YtnmlfhogolonoaaEvO
set_option linter.unusedVariables false
set_option linter.unusedSimpArgs false
namespace Go.Proofs.Ytnmlfhogolonoaa.Ev
noncomputable section

/-! ### Atomic operations on words of 64 bits -/
inductive ATag where
  | load | store | swap | cas | add
def ATag.fn : ATag → Array Value → Sem Value
  | .load => Extern.Atomic.loadT (.int .u64)
  | .store => Extern.Atomic.storeT
  | .swap => Extern.Atomic.swapT (.int .u64)
  | .cas => Extern.Atomic.casT (.int .u64)
  | .add => Extern.Atomic.update (Op.intArith .add) .u64 true
/-- the word at a place -/
def wordA (h : H) (p o : Nat) : Option Int := match h.t.get p with
  | some (.row cells len e) => match cells.get o with
    | some (.int .u64 n) => some n
    | _ => none
  | _ => none
def putA (h : H) (p o : Nat) (v : AV) : Option H := match h.t.get p with
  | some (.row cells len e) => cond (Nat.ble (o + 1) len && oneA v) (some ⟨h.next, h.t.set p (.row (putList o [v] cells) len e)⟩) none
  | _ => none
def isWord : AV → Bool
  | .int .u64 _ => true
  | _ => false
def evA (h : H) : ATag → List AV → Option (AV × H)
  | .load, [.ptr p o] => match wordA h p o with
    | some n => some (.int .u64 n, h)
    | none => none
  | .store, [.ptr p o, v] => match putA h p o v with
    | some h' => some (.tup [], h')
    | none => none
  | .swap, [.ptr p o, v] => match wordA h p o, putA h p o v with
    | some n, some h' => some (.int .u64 n, h')
    | _, _ => none
  | .cas, [.ptr p o, .int k x, .int k' y] => match wordA h p o with
    | some n => match iEq n x with
      | true => match putA h p o (.int k' y) with
        | some h' => some (.bool true, h')
        | none => none
      | false => some (.bool false, h)
    | none => none
  | .add, [.ptr p o, .int .u64 x] => match wordA h p o with
    | some n => match putA h p o (.int .u64 (fw .u64 (n + x))) with
      | some h' => some (.int .u64 (fw .u64 (n + x)), h')
      | none => none
    | none => none
  | _, _ => none

/-- what a computation of a value comes to -/
def VOut (P : Program) (s : Sem Value) (ρ : Rho) (h : H) (w : World) (v : AV) (h' : H) : Prop :=
  ∃ ρ' w' V, s.run P w = .ok V w' ∧ VR ρ' v V ∧ Way ρ h w ρ' h' w'

theorem loadT_eq (t : Extern.Atomic.T) (x : Value) : Extern.Atomic.loadT t #[x] = (do Extern.Atomic.read t (← asAddr x)) := rfl
theorem storeT_eq (x y : Value) : Extern.Atomic.storeT #[x, y] = (do store (← asAddr x) y .atomic; pure Extern.Atomic.none_) := rfl
theorem swapT_eq (t : Extern.Atomic.T) (x y : Value) : Extern.Atomic.swapT t #[x, y] = (do
    let a ← asAddr x
    let old ← Extern.Atomic.read t a
    store a y .atomic
    pure old) := rfl
theorem update_eq (op : IntKind → Int → Int → Sem Value) (k : IntKind) (b : Bool) (x y : Value) : Extern.Atomic.update op k b #[x, y] = (do
    let a ← asAddr x
    let old ← Extern.Atomic.read (.int k) a
    let new ← op k (← asInt old) (← asInt y)
    store a new .atomic
    pure (if b then new else old)) := rfl
theorem casT_eq (x y : Int) (k k' : IntKind) (p : Value) : Extern.Atomic.casT (.int .u64) #[p, .int k x, .int k' y] = (do
    let a ← asAddr p
    if ← Extern.Atomic.touchesFrozen a then unsupported (.unsafePointer "a write to bytes that a string shares")
    let eq ← match (Extern.Atomic.T.int .u64), ← Extern.Atomic.read (.int .u64) a, (Value.int k x) with
      | _, .int _ x, .int _ y => pure (x == y)
      | .ptr, .pointer x, .pointer y => samePointer x y
      | .int _, .pointer (some _), .int _ 0 | .int _, .int _ 0, .pointer (some _) => pure false
      | .int _, .pointer (some _), _ | .int _, _, .pointer (some _) => unsupported .addressObserved
      | _, _, _ => stuck "atomic.CompareAndSwap: old is no T"
    if eq then store a (.int k' y) .atomic
    pure (.bool eq)) := rfl
theorem wordA_sound {P : Program} {ρ : Rho} {h : H} {w : World} (hr : HR ρ h.t.get w) {p o : Nat} {n : Int} (hw : wordA h p o = some n) {l : Loc} (hl : ρ p = some l) :
    w.cell? ⟨l.blk, l.off + o, none⟩ = some (.int .u64 n) ∧ w.frozen? ⟨l.blk, l.off + o, none⟩ = false ∧ (w.shape? l.blk).isSome = true := by
  unfold wordA at hw
  split at hw
  · rename_i cells len e hg
    split at hw
    · rename_i m hm
      simp at hw; subst hw
      obtain ⟨V, k1, k2, k3⟩ := cell_of hr hg hl hm
      simp only [VR] at k1; subst k1
      obtain ⟨_, _, c, hc, _⟩ := hr.row hg hl
      exact ⟨k3, by simp [World.frozen?, hc], by simp [World.shape?, hc]⟩
    · simp at hw
  · simp at hw
theorem store_atomic {P : Program} {w : World} {a : Addr} {V u : Value} (h : w.cell? a = some u) : (store a V .atomic).run P w = (store a V .plain).run P w := by
  cases V <;> simp [store, Sem.run, h]
theorem putA_sound {P : Program} {ρ : Rho} {h h' : H} {w : World} (hr : HR ρ h.t.get w) (hf : Fresh ρ h.next) {p o : Nat} {v : AV} {V : Value} (hp : putA h p o v = some h') {l : Loc} (hl : ρ p = some l) (hv : VR ρ v V) :
    ∃ w', (store ⟨l.blk, l.off + o, none⟩ V .atomic).run P w = .ok () w' ∧ Way ρ h w ρ h' w' := by
  unfold putA at hp
  split at hp
  · rename_i cells len e hg
    cases hk : (Nat.ble (o + 1) len && oneA v)
    · rw [hk] at hp; simp at hp
    · rw [hk, cond_true] at hp
      simp only [Bool.and_eq_true] at hk
      have k1 := Nat.le_of_ble_eq_true hk.1
      simp at hp; subst hp
      have hV : VRs ρ [v] [V] := ⟨V, [], hv, rfl, rfl⟩
      have h1 : ∀ U ∈ [V], one U = true := all_one hV (by simp [hk.2])
      obtain ⟨w', j1, j2⟩ := nx_write hr hg hl hV h1 (o := o) (by simpa using k1) P
      refine ⟨w', ?_, way_set hf hl j2⟩
      obtain ⟨_, hlen, c, hc, hroom, _⟩ := hr.row hg hl
      have hcell : ∃ u, w.cell? ⟨l.blk, l.off + o, none⟩ = some u := by
        have hlt : l.off + o < c.size := by omega
        exact ⟨c[l.off + o], by simp [World.cell?, hc, hlt]⟩
      obtain ⟨u, hu⟩ := hcell
      rw [store_atomic hu]
      simpa [storeCells, addr_add] using j1
  · simp at hp

theorem evA_sound {P : Program} {ρ : Rho} {h h' : H} {w : World} (hr : HR ρ h.t.get w) (hf : Fresh ρ h.next) {tag : ATag} {args : List AV} {v : AV} (he : evA h tag args = some (v, h')) {ARGS : List Value} (ha : VRs ρ args ARGS) :
    VOut P (tag.fn ARGS.toArray) ρ h w v h' := by
  unfold evA at he
  split at he
  · rename_i p o
    split at he
    · rename_i n hn
      simp at he; obtain ⟨rfl, rfl⟩ := he
      simp only [VRs, VR] at ha
      obtain ⟨V, M, ⟨l, hl, rfl⟩, rfl, rfl⟩ := ha
      obtain ⟨k1, _⟩ := wordA_sound (P := P) hr hn hl
      exact ⟨ρ, w, _, by simp [ATag.fn, loadT_eq, Extern.Atomic.read, asAddr, k1], rfl, Way.refl hr hf⟩
    · simp at he
  · rename_i p o v'
    split at he
    · rename_i h2 hp
      simp at he; obtain ⟨rfl, rfl⟩ := he
      simp only [VRs, VR] at ha
      obtain ⟨V, M, ⟨l, hl, rfl⟩, ⟨U, M', hU, rfl, rfl⟩, rfl⟩ := ha
      obtain ⟨w', j1, j2⟩ := putA_sound (P := P) hr hf hp hl hU
      exact ⟨ρ, w', _, by simp [ATag.fn, storeT_eq, Extern.Atomic.none_, asAddr, j1], ⟨[], rfl, rfl⟩, j2⟩
    · simp at he
  · rename_i p o v'
    split at he
    · rename_i n h2 hn hp
      simp at he; obtain ⟨rfl, rfl⟩ := he
      simp only [VRs, VR] at ha
      obtain ⟨V, M, ⟨l, hl, rfl⟩, ⟨U, M', hU, rfl, rfl⟩, rfl⟩ := ha
      obtain ⟨k1, _⟩ := wordA_sound (P := P) hr hn hl
      obtain ⟨w', j1, j2⟩ := putA_sound (P := P) hr hf hp hl hU
      exact ⟨ρ, w', _, by simp [ATag.fn, swapT_eq, Extern.Atomic.read, asAddr, k1, j1], rfl, j2⟩
    · simp at he
  · rename_i p o k x k' y
    split at he
    · rename_i n hn
      simp only [VRs, VR] at ha
      obtain ⟨V, M, ⟨l, hl, rfl⟩, ⟨U, M', rfl, ⟨U', M'', rfl, rfl, rfl⟩, rfl⟩, rfl⟩ := ha
      obtain ⟨k1, k2, hsh⟩ := wordA_sound (P := P) hr hn hl
      split at he
      · rename_i hq
        rw [iEq_eq] at hq
        have hq' : n = x := by simpa using hq
        subst hq'
        split at he
        · rename_i h2 hp
          simp at he; obtain ⟨rfl, rfl⟩ := he
          obtain ⟨w', j1, j2⟩ := putA_sound (P := P) hr hf hp hl (V := .int k' y) rfl
          exact ⟨ρ, w', _, by simp [ATag.fn, casT_eq, Extern.Atomic.touchesFrozen, Extern.Atomic.read, asAddr, viewAt, hsh, k1, k2, j1], rfl, j2⟩
        · simp at he
      · rename_i hq
        rw [iEq_eq] at hq
        have hq' : ¬ n = x := by simpa using hq
        simp at he; obtain ⟨rfl, rfl⟩ := he
        exact ⟨ρ, w, _, by simp [ATag.fn, casT_eq, Extern.Atomic.touchesFrozen, Extern.Atomic.read, asAddr, viewAt, hsh, k1, k2, hq'], rfl, Way.refl hr hf⟩
    · simp at he
  · rename_i p o x
    split at he
    · rename_i n hn
      simp only [VRs, VR] at ha
      obtain ⟨V, M, ⟨l, hl, rfl⟩, ⟨U, M', rfl, rfl, rfl⟩, rfl⟩ := ha
      obtain ⟨k1, k2⟩ := wordA_sound (P := P) hr hn hl
      split at he
      · rename_i h2 hp
        simp at he; obtain ⟨rfl, rfl⟩ := he
        obtain ⟨w', j1, j2⟩ := putA_sound (P := P) hr hf hp hl (V := .int .u64 (fw .u64 (n + x))) rfl
        refine ⟨ρ, w', _, ?_, rfl, j2⟩
        rw [fw_eq] at j1 ⊢
        simp [ATag.fn, update_eq, Extern.Atomic.read, asAddr, k1, asInt, asIntOf, Op.intArith, j1]
      · simp at he
    · simp at he
  · simp at he
end
end Go.Proofs.Ytnmlfhogolonoaa.Ev
