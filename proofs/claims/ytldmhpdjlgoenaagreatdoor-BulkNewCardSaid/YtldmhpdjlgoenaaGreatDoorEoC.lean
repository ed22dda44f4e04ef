/-
  An evaluator of Go code over relative heaps, part A: tries, values, heaps, and how they stand to the model's worlds.
  An evaluator of Go code over relative heaps, part B: reading, writing and making objects.
  An evaluator of Go code over relative heaps, part C: operations that read no memory.
-/
import Derived.Calls
import Derived.Orders
import Derived.LoopN
import Derived.Below
import Derived.Laws.Cells
import Derived.Laws.CopyRow
import Derived.Laws.World
import Derived.Laws.Sem
set_option linter.unusedVariables false
set_option linter.unusedSimpArgs false
namespace Go.Proofs.YtldmhpdjlgoenaaGreatDoor.Eo

/-! ### Tries -/
inductive OT (α : Type) where
  | e
  | n (l : OT α) (v : Option α) (r : OT α)

noncomputable def OT.get {α : Type} (t : OT α) : Nat → Option α :=
  OT.rec (motive := fun _ => Nat → Option α) (fun _ => none)
    (fun _ v _ gl gr i => Bool.rec (Bool.rec (gr (Nat.shiftRight (Nat.pred i) 1)) (gl (Nat.shiftRight i 1)) (Nat.beq (Nat.land i 1) 1)) v (Nat.beq i 0)) t
noncomputable def OT.single {α : Type} (f : Nat) : Nat → α → OT α :=
  Nat.rec (motive := fun _ => Nat → α → OT α) (fun _ _ => .e)
    (fun _ ih i x => Bool.rec (Bool.rec (.n .e none (ih (Nat.shiftRight (Nat.pred i) 1) x)) (.n (ih (Nat.shiftRight i 1) x) none .e) (Nat.beq (Nat.land i 1) 1)) (.n .e (some x) .e) (Nat.beq i 0)) f
noncomputable def OT.set {α : Type} (t : OT α) : Nat → α → OT α :=
  OT.rec (motive := fun _ => Nat → α → OT α) (fun i x => OT.single (Nat.succ i) i x)
    (fun l v r sl sr i x => Bool.rec (Bool.rec (.n l v (sr (Nat.shiftRight (Nat.pred i) 1) x)) (.n (sl (Nat.shiftRight i 1) x) v r) (Nat.beq (Nat.land i 1) 1)) (.n l (some x) r) (Nat.beq i 0)) t

theorem OT.get_e {α : Type} (i : Nat) : (OT.e : OT α).get i = none := rfl
theorem odd_iff (i : Nat) : Nat.beq (Nat.land i 1) 1 = decide (i % 2 = 1) := by
  have h : Nat.land i 1 = i % 2 := Nat.and_one_is_mod i
  rw [h]
  by_cases hi : i % 2 = 1
  · simp [hi]
  · have h2 : i % 2 = 0 := by omega
    rw [h2]; rfl
theorem shr1 (i : Nat) : Nat.shiftRight i 1 = i / 2 := by
  show i >>> 1 = i / 2
  rw [Nat.shiftRight_succ, Nat.shiftRight_zero]
theorem OT.get_n {α : Type} (l r : OT α) (v : Option α) (i : Nat) :
    (OT.n l v r).get i = if i = 0 then v else if i % 2 = 1 then l.get (i / 2) else r.get ((i - 1) / 2) := by
  show (Bool.rec (Bool.rec (r.get (Nat.shiftRight (Nat.pred i) 1)) (l.get (Nat.shiftRight i 1)) (Nat.beq (Nat.land i 1) 1)) v (Nat.beq i 0) : Option α) = _
  rw [odd_iff, shr1, shr1, Nat.pred_eq_sub_one]
  by_cases h0 : i = 0
  · subst h0; rfl
  · have : Nat.beq i 0 = false := by
      cases i with
      | zero => exact absurd rfl h0
      | succ n => rfl
    rw [this, if_neg h0]
    by_cases h1 : i % 2 = 1 <;> simp [h1]
theorem OT.single_succ {α : Type} (f i : Nat) (x : α) :
    OT.single (f + 1) i x = if i = 0 then .n .e (some x) .e else if i % 2 = 1 then .n (OT.single f (i / 2) x) none .e else .n .e none (OT.single f ((i - 1) / 2) x) := by
  show (Bool.rec (Bool.rec (.n .e none (OT.single f (Nat.shiftRight (Nat.pred i) 1) x)) (.n (OT.single f (Nat.shiftRight i 1) x) none .e) (Nat.beq (Nat.land i 1) 1)) (.n .e (some x) .e) (Nat.beq i 0) : OT α) = _
  rw [odd_iff, shr1, shr1, Nat.pred_eq_sub_one]
  by_cases h0 : i = 0
  · subst h0; rfl
  · have : Nat.beq i 0 = false := by
      cases i with
      | zero => exact absurd rfl h0
      | succ n => rfl
    rw [this, if_neg h0]
    by_cases h1 : i % 2 = 1 <;> simp [h1]
theorem OT.set_n {α : Type} (l r : OT α) (v : Option α) (i : Nat) (x : α) :
    (OT.n l v r).set i x = if i = 0 then .n l (some x) r else if i % 2 = 1 then .n (l.set (i / 2) x) v r else .n l v (r.set ((i - 1) / 2) x) := by
  show (Bool.rec (Bool.rec (.n l v (r.set (Nat.shiftRight (Nat.pred i) 1) x)) (.n (l.set (Nat.shiftRight i 1) x) v r) (Nat.beq (Nat.land i 1) 1)) (.n l (some x) r) (Nat.beq i 0) : OT α) = _
  rw [odd_iff, shr1, shr1, Nat.pred_eq_sub_one]
  by_cases h0 : i = 0
  · subst h0; rfl
  · have : Nat.beq i 0 = false := by
      cases i with
      | zero => exact absurd rfl h0
      | succ n => rfl
    rw [this, if_neg h0]
    by_cases h1 : i % 2 = 1 <;> simp [h1]
theorem OT.get_single {α : Type} (x : α) : ∀ (f i j : Nat), i < f → (OT.single f i x).get j = if j = i then some x else none := by
  intro f
  induction f with
  | zero => intro i j h; omega
  | succ f ih =>
    intro i j h
    rw [OT.single_succ]
    by_cases h0 : i = 0
    · subst h0
      simp only [if_true, OT.get_n, OT.get_e]
      by_cases hj : j = 0 <;> simp [hj]
    · rw [if_neg h0]
      by_cases h1 : i % 2 = 1
      · rw [if_pos h1, OT.get_n]
        by_cases hj : j = 0
        · subst hj
          simp; omega
        · rw [if_neg hj]
          by_cases hj1 : j % 2 = 1
          · rw [if_pos hj1, ih _ _ (by omega)]
            by_cases e : j = i
            · subst e; simp
            · rw [if_neg e, if_neg (by omega)]
          · rw [if_neg hj1, OT.get_e, if_neg (by omega)]
      · rw [if_neg h1, OT.get_n]
        by_cases hj : j = 0
        · subst hj
          simp; omega
        · rw [if_neg hj]
          by_cases hj1 : j % 2 = 1
          · rw [if_pos hj1, OT.get_e, if_neg (by omega)]
          · rw [if_neg hj1, ih _ _ (by omega)]
            by_cases e : j = i
            · subst e; simp
            · rw [if_neg e, if_neg (by omega)]
theorem OT.get_set {α : Type} (x : α) (t : OT α) : ∀ (i j : Nat), (t.set i x).get j = if j = i then some x else t.get j := by
  induction t with
  | e =>
    intro i j
    show (OT.single (Nat.succ i) i x).get j = _
    rw [OT.get_single x _ _ _ (Nat.lt_succ_self i), OT.get_e]
  | n l v r ihl ihr =>
    intro i j
    rw [OT.set_n]
    by_cases h0 : i = 0
    · subst h0
      simp only [if_true, OT.get_n]
      by_cases hj : j = 0 <;> simp [hj]
    · rw [if_neg h0]
      by_cases h1 : i % 2 = 1
      · rw [if_pos h1, OT.get_n, OT.get_n]
        by_cases hj : j = 0
        · subst hj
          simp; omega
        · rw [if_neg hj, if_neg hj]
          by_cases hj1 : j % 2 = 1
          · rw [if_pos hj1, if_pos hj1, ihl]
            by_cases e : j = i
            · subst e; simp
            · rw [if_neg e, if_neg (by omega)]
          · rw [if_neg hj1, if_neg hj1]
            have e : ¬ j = i := by omega
            rw [if_neg e]
      · rw [if_neg h1, OT.get_n, OT.get_n]
        by_cases hj : j = 0
        · subst hj
          simp; omega
        · rw [if_neg hj, if_neg hj]
          by_cases hj1 : j % 2 = 1
          · rw [if_pos hj1, if_pos hj1]
            have e : ¬ j = i := by omega
            rw [if_neg e]
          · rw [if_neg hj1, if_neg hj1, ihr]
            by_cases e : j = i
            · subst e; simp
            · rw [if_neg e, if_neg (by omega)]


/-! ### Maps -/
structure T (α : Type) where
  g : Nat → Option α
structure TS (α : Type) where
  e : T α
  get : T α → Nat → Option α
  set : T α → Nat → α → T α
  get_e : ∀ i, get e i = none
  get_set : ∀ x t i j, get (set t i x) j = if j = i then some x else get t j
  ext : ∀ t t', (∀ i, get t i = get t' i) → t = t'
theorem TS.some (α : Type) : Nonempty (TS α) := ⟨⟨⟨fun _ => none⟩, fun t i => t.g i, fun t i x => ⟨fun j => if j = i then .some x else t.g j⟩, fun _ => rfl, fun _ _ _ _ => rfl, fun t t' h => by cases t; cases t'; congr; exact funext h⟩⟩
/-- by choice: nothing is known but the laws -/
noncomputable def TS.any (α : Type) : TS α := Classical.choice (TS.some α)
noncomputable def T.e {α : Type} : T α := (TS.any α).e
noncomputable def T.get {α : Type} (t : T α) (i : Nat) : Option α := (TS.any α).get t i
noncomputable def T.set {α : Type} (t : T α) (i : Nat) (x : α) : T α := (TS.any α).set t i x
theorem T.get_e {α : Type} (i : Nat) : (T.e : T α).get i = none := (TS.any α).get_e i
theorem T.get_set {α : Type} (x : α) (t : T α) (i j : Nat) : (t.set i x).get j = if j = i then some x else t.get j := (TS.any α).get_set x t i j
theorem T.ext {α : Type} {t t' : T α} (h : ∀ i, t.get i = t'.get i) : t = t' := (TS.any α).ext t t' h
theorem ble_eq (i n : Nat) : Nat.ble i n = decide (i ≤ n) := by
  by_cases h : i ≤ n
  · simp [h, Nat.ble_eq_true_of_le h]
  · cases hb : Nat.ble i n with
    | true => exact absurd (Nat.le_of_ble_eq_true hb) h
    | false => simp [h]

/-! ### Values -/
/-- A value, its blocks named by relative numbers. A slice whose capacity is not known reaches to the end of its block. -/
inductive AV where
  | bool (b : Bool)
  | int (k : IntKind) (n : Int)
  | str (s : ByteArray)
  | ptr (a o : Nat)
  | nilp
  | sl (a o len es : Nat) (cap : Option Nat)
  | nils
  | map (a : Nat)
  | nilm
  | fn (f : Fn) (first captured : List AV)
  /-- the yield of a loop over a function -/
  | yld (a : Nat)
  | nilf
  | ifc (t : TypeId) (v : AV)
  | nili
  | agg (l : List AV)
  | tup (l : List AV)

/-- Where a block lies: its real number, the place at which it begins, and how many cells there are from there on. -/
structure Loc where
  blk : Nat
  off : Nat
  room : Nat

/-- how many global variables have numbers of their own -/
def glob : Nat := 8
/-- where the objects lie; the first numbers are the global variables -/
structure Rho where
  fn : Nat → Option Loc
  own : ∀ g, g < glob → ∃ r, fn g = some ⟨g, 0, r⟩
instance : CoeFun Rho fun _ => Nat → Option Loc := ⟨Rho.fn⟩

mutual
/-- how a value stands to a real one -/
def VR (ρ : Rho) : AV → Value → Prop
  | .bool b, V => V = .bool b
  | .int k n, V => V = .int k n
  | .str s, V => V = .string s
  | .ptr a o, V => ∃ l, ρ a = some l ∧ V = .pointer (some ⟨l.blk, l.off + o, none⟩)
  | .nilp, V => V = .pointer none
  | .sl a o len es (some c), V => ∃ l, ρ a = some l ∧ len ≤ c ∧ V = .slice (some ⟨l.blk, l.off + o, none⟩) len c
  | .sl a o len es none, V => ∃ l, ρ a = some l ∧ 0 < es ∧ o + len * es ≤ l.room ∧
      (V = .slice (some ⟨l.blk, l.off + o, none⟩) len ((l.room - o) / es) ∨ len = 0 ∧ ∃ x, V = .slice (some x) 0 0)
  | .nils, V => V = .slice none 0 0
  | .map a, V => ∃ l, ρ a = some l ∧ V = .map (some l.blk)
  | .nilm, V => V = .map none
  | .fn f first captured, V => ∃ F C, VRs ρ first F ∧ VRs ρ captured C ∧ V = .func f F.toArray C.toArray
  | .yld a, V => ∃ l, ρ a = some l ∧ V = .func (.yield l.blk) #[] #[]
  | .nilf, V => V = .nilFunc
  | .ifc t v, V => ∃ U, VR ρ v U ∧ V = .iface t U
  | .nili, V => V = .nilIface
  | .agg l, V => ∃ L, VRs ρ l L ∧ V = .agg L.toArray
  | .tup l, V => ∃ L, VRs ρ l L ∧ V = .tuple L.toArray
def VRs (ρ : Rho) : List AV → List Value → Prop
  | [], L => L = []
  | v :: l, L => ∃ V M, VR ρ v V ∧ VRs ρ l M ∧ L = V :: M
end

def Le (ρ ρ' : Rho) : Prop := ∀ a l, ρ a = some l → ρ' a = some l
theorem Le.refl (ρ : Rho) : Le ρ ρ := fun _ _ h => h
theorem Le.trans {ρ ρ' ρ'' : Rho} (h : Le ρ ρ') (h' : Le ρ' ρ'') : Le ρ ρ'' := fun a l e => h' a l (h a l e)

mutual
theorem VR.mono {ρ ρ' : Rho} (h : Le ρ ρ') : ∀ (v : AV) (V : Value), VR ρ v V → VR ρ' v V
  | .bool b, V, hv => by simpa [VR] using hv
  | .int k n, V, hv => by simpa [VR] using hv
  | .str s, V, hv => by simpa [VR] using hv
  | .ptr a o, V, hv => by simp only [VR] at *; obtain ⟨l, h1, h2⟩ := hv; exact ⟨l, h _ _ h1, h2⟩
  | .nilp, V, hv => by simpa [VR] using hv
  | .sl a o len es (some c), V, hv => by simp only [VR] at *; obtain ⟨l, h1, h2⟩ := hv; exact ⟨l, h _ _ h1, h2⟩
  | .sl a o len es none, V, hv => by simp only [VR] at *; obtain ⟨l, h1, h2⟩ := hv; exact ⟨l, h _ _ h1, h2⟩
  | .nils, V, hv => by simpa [VR] using hv
  | .map a, V, hv => by simp only [VR] at *; obtain ⟨l, h1, h2⟩ := hv; exact ⟨l, h _ _ h1, h2⟩
  | .nilm, V, hv => by simpa [VR] using hv
  | .fn f first captured, V, hv => by
    simp only [VR] at *
    obtain ⟨F, C, h1, h2, h3⟩ := hv
    exact ⟨F, C, VRs.mono h _ _ h1, VRs.mono h _ _ h2, h3⟩
  | .yld a, V, hv => by simp only [VR] at *; obtain ⟨l, h1, h2⟩ := hv; exact ⟨l, h _ _ h1, h2⟩
  | .nilf, V, hv => by simpa [VR] using hv
  | .ifc t v, V, hv => by simp only [VR] at *; obtain ⟨U, h1, h2⟩ := hv; exact ⟨U, VR.mono h _ _ h1, h2⟩
  | .nili, V, hv => by simpa [VR] using hv
  | .agg l, V, hv => by simp only [VR] at *; obtain ⟨L, h1, h2⟩ := hv; exact ⟨L, VRs.mono h _ _ h1, h2⟩
  | .tup l, V, hv => by simp only [VR] at *; obtain ⟨L, h1, h2⟩ := hv; exact ⟨L, VRs.mono h _ _ h1, h2⟩
theorem VRs.mono {ρ ρ' : Rho} (h : Le ρ ρ') : ∀ (l : List AV) (L : List Value), VRs ρ l L → VRs ρ' l L
  | [], L, hl => by simpa [VRs] using hl
  | v :: l, L, hl => by
    simp only [VRs] at *
    obtain ⟨V, M, h1, h2, h3⟩ := hl
    exact ⟨V, M, VR.mono h _ _ h1, VRs.mono h _ _ h2, h3⟩
end

theorem VRs.length {ρ : Rho} : ∀ {l : List AV} {L : List Value}, VRs ρ l L → L.length = l.length
  | [], L, h => by simp only [VRs] at h; simp [h]
  | v :: l, L, h => by
    simp only [VRs] at h
    obtain ⟨V, M, _, h2, rfl⟩ := h
    simp [VRs.length h2]
theorem VRs.get {ρ : Rho} : ∀ {l : List AV} {L : List Value}, VRs ρ l L → ∀ {i : Nat} {v : AV}, l[i]? = some v → ∃ V, L[i]? = some V ∧ VR ρ v V
  | [], L, _, i, v, hi => by simp at hi
  | v :: l, L, h, 0, u, hi => by
    simp only [VRs] at h
    obtain ⟨V, M, h1, h2, rfl⟩ := h
    simp at hi; subst hi
    exact ⟨V, by simp, h1⟩
  | v :: l, L, h, i + 1, u, hi => by
    simp only [VRs] at h
    obtain ⟨V, M, h1, h2, rfl⟩ := h
    simp at hi
    obtain ⟨U, e, r⟩ := VRs.get h2 hi
    exact ⟨U, by simpa using e, r⟩
theorem VRs.append {ρ : Rho} : ∀ {l m : List AV} {L M : List Value}, VRs ρ l L → VRs ρ m M → VRs ρ (l ++ m) (L ++ M)
  | [], m, L, M, h, h' => by simp only [VRs] at h; subst h; simpa using h'
  | v :: l, m, L, M, h, h' => by
    simp only [VRs] at h
    obtain ⟨V, N, h1, h2, rfl⟩ := h
    exact ⟨V, N ++ M, h1, VRs.append h2 h', rfl⟩
theorem VRs.take {ρ : Rho} : ∀ {l : List AV} {L : List Value} (n : Nat), VRs ρ l L → VRs ρ (l.take n) (L.take n)
  | [], L, n, h => by simp only [VRs] at h; subst h; simp [VRs]
  | v :: l, L, 0, h => by simp [VRs]
  | v :: l, L, n + 1, h => by
    simp only [VRs] at h
    obtain ⟨V, N, h1, h2, rfl⟩ := h
    exact ⟨V, N.take n, h1, VRs.take n h2, rfl⟩
theorem VRs.drop {ρ : Rho} : ∀ {l : List AV} {L : List Value} (n : Nat), VRs ρ l L → VRs ρ (l.drop n) (L.drop n)
  | [], L, n, h => by simp only [VRs] at h; subst h; simp [VRs]
  | v :: l, L, 0, h => by simpa using h
  | v :: l, L, n + 1, h => by
    simp only [VRs] at h
    obtain ⟨V, N, h1, h2, rfl⟩ := h
    simpa using VRs.drop n h2
theorem VRs.set {ρ : Rho} : ∀ {l : List AV} {L : List Value} (i : Nat) {v : AV} {V : Value}, VRs ρ l L → VR ρ v V → VRs ρ (l.set i v) (L.set i V)
  | [], L, i, v, V, h, _ => by simp only [VRs] at h; subst h; simp [VRs]
  | u :: l, L, 0, v, V, h, hv => by
    simp only [VRs] at h
    obtain ⟨U, N, h1, h2, rfl⟩ := h
    exact ⟨V, N, hv, h2, rfl⟩
  | u :: l, L, i + 1, v, V, h, hv => by
    simp only [VRs] at h
    obtain ⟨U, N, h1, h2, rfl⟩ := h
    exact ⟨U, N.set i V, h1, VRs.set i h2 hv, rfl⟩
theorem VRs.of_get {ρ : Rho} : ∀ {l : List AV} {L : List Value}, L.length = l.length → (∀ (i : Nat) (v : AV) (V : Value), l[i]? = some v → L[i]? = some V → VR ρ v V) → VRs ρ l L
  | [], [], _, _ => by simp [VRs]
  | [], _ :: _, h, _ => by simp at h
  | _ :: _, [], h, _ => by simp at h
  | v :: l, V :: L, h, hg => ⟨V, L, hg 0 v V rfl rfl, VRs.of_get (by simpa using h) (fun i u U hu hU => hg (i + 1) u U (by simpa using hu) (by simpa using hU)), rfl⟩

/-! ### Heaps -/
inductive AO where
  /-- a row: its cells (some are known), how many there surely are, the type of its elements -/
  | row (cells : T AV) (len : Nat) (elem : TypeId)
  | map (es : List (AV × AV × Nat)) (clock : Nat)
  /-- a walk through a map -/
  | iter (m : Option Nat) (since : Nat) (seen : List Nat) (last : Nat)
  /-- the record of a loop over a function: its state, the jump that is pending, the temporaries at its beginning -/
  | loop (st : LoopState) (pend : Option Code) (tm : T AV) (N : Nat) (ps : List Nat) (assign body : Code)
  /-- a table that is never written -/
  | tab (cells : T AV)
  | dead

structure H where
  next : Nat
  t : T AO

def AO.live : AO → Bool
  | .dead => false
  | _ => true
/-- may it be changed? -/
def AO.mut : AO → Bool
  | .dead => false
  | .tab _ => false
  | _ => true
theorem AO.live_of_mut {o : AO} (h : o.mut = true) : o.live = true := by cases o <;> first | rfl | simp [AO.mut] at h

def ERs (ρ : Rho) : List (AV × AV × Nat) → List MapEntry → Prop
  | [], L => L = []
  | e :: l, L => ∃ E M, VR ρ e.1 E.key ∧ VR ρ e.2.1 E.val ∧ E.born = e.2.2 ∧ ERs ρ l M ∧ L = E :: M
theorem ERs.mono {ρ ρ' : Rho} (h : Le ρ ρ') : ∀ (l : List (AV × AV × Nat)) (L : List MapEntry), ERs ρ l L → ERs ρ' l L
  | [], L, hl => hl
  | e :: l, L, hl => by
    obtain ⟨E, M, h1, h2, h3, h4, h5⟩ := hl
    exact ⟨E, M, VR.mono h _ _ h1, VR.mono h _ _ h2, h3, ERs.mono h _ _ h4, h5⟩

/-- a value of one cell -/
def one : Value → Bool
  | .agg _ | .tuple _ => false
  | _ => true

/-- an object as it lies in the world -/
def OIn (ρ : Rho) (w : World) (l : Loc) : AO → Prop
  | .row cells len e => len ≤ l.room ∧ ∃ c, w.heap[l.blk]? = some (.cells c e (0, 0)) ∧ l.off + l.room = c.size ∧
      ∀ i v, cells.get i = some v → i < len ∧ ∃ V, VR ρ v V ∧ one V = true ∧ c[l.off + i]? = some V
  | .map es clock => ∃ ES, ERs ρ es ES ∧ w.heap[l.blk]? = some (.map ES.toArray clock)
  | .iter m since seen last => l.off = 0 ∧ ∃ M, w.heap[l.blk]? = some (.mapIter M since seen.toArray last) ∧ match m with
    | none => M = none
    | some a => ∃ k, ρ a = some k ∧ M = some k.blk
  | .loop st pend tm N ps assign body => ∃ tmps fn D, (∀ i v, tm.get i = some v → i < tmps.size ∧ VR ρ v (tmps.getD i (Value.tuple #[]))) ∧ tmps.size = N ∧
      w.heap[l.blk]? = some (.loop { state := st, pending := pend, fn, tmps, params := ps.toArray, assign, body, defers := D })
  | .tab cells => ∃ c e f, w.heap[l.blk]? = some (.cells c e f) ∧ ∀ i v, cells.get i = some v → ∃ V, VR ρ v V ∧ one V = true ∧ c[l.off + i]? = some V
  | .dead => True
theorem OIn.mono {ρ ρ' : Rho} (h : Le ρ ρ') {w : World} {l : Loc} : ∀ {o : AO}, OIn ρ w l o → OIn ρ' w l o
  | .row cells len e, hi => by
    obtain ⟨h0, c, h1, h2, h3⟩ := hi
    exact ⟨h0, c, h1, h2, fun i v hg => by obtain ⟨a, V, b, d, e⟩ := h3 i v hg; exact ⟨a, V, VR.mono h _ _ b, d, e⟩⟩
  | .map es clock, hi => by
    obtain ⟨ES, h1, h2⟩ := hi
    exact ⟨ES, ERs.mono h _ _ h1, h2⟩
  | .iter m since seen last, hi => by
    obtain ⟨h0, M, h1, h2⟩ := hi
    refine ⟨h0, M, h1, ?_⟩
    cases m with
    | none => exact h2
    | some a => obtain ⟨k, h3, h4⟩ := h2; exact ⟨k, h _ _ h3, h4⟩
  | .loop st pend tm N ps assign body, hi => by
    obtain ⟨tmps, fn, D, h1, h2, h3⟩ := hi
    exact ⟨tmps, fn, D, fun i v hg => ⟨(h1 i v hg).1, VR.mono h _ _ (h1 i v hg).2⟩, h2, h3⟩
  | .tab cells, hi => by
    obtain ⟨c, e, f, h1, h2⟩ := hi
    exact ⟨c, e, f, h1, fun i v hg => by obtain ⟨V, b, d, e⟩ := h2 i v hg; exact ⟨V, VR.mono h _ _ b, d, e⟩⟩
  | .dead, _ => trivial
theorem OIn.congr {ρ : Rho} {w w' : World} {l : Loc} (h : w'.heap[l.blk]? = w.heap[l.blk]?) : ∀ {o : AO}, OIn ρ w l o → OIn ρ w' l o
  | .row cells len e, hi => by
    obtain ⟨h0, c, h1, h2, h3⟩ := hi
    exact ⟨h0, c, h.trans h1, h2, h3⟩
  | .map es clock, hi => by
    obtain ⟨ES, h1, h2⟩ := hi
    exact ⟨ES, h1, h.trans h2⟩
  | .iter m since seen last, hi => by
    obtain ⟨h0, M, h1, h2⟩ := hi
    exact ⟨h0, M, h.trans h1, h2⟩
  | .loop st pend tm N ps assign body, hi => by
    obtain ⟨tmps, fn, D, h1, h2, h3⟩ := hi
    exact ⟨tmps, fn, D, h1, h2, h.trans h3⟩
  | .tab cells, hi => by
    obtain ⟨c, e, f, h1, h2⟩ := hi
    exact ⟨c, e, f, h.trans h1, h2⟩
  | .dead, _ => trivial

/-- a heap as it lies in the world -/
structure HR (ρ : Rho) (g : Nat → Option AO) (w : World) : Prop where
  obj : ∀ a o l, g a = some o → o.live = true → ρ a = some l → l.blk < w.heap.size ∧ OIn ρ w l o
  inj : ∀ a b o p l m, g a = some o → o.live = true → g b = some p → p.live = true → ρ a = some l → ρ b = some m → l.blk = m.blk → a = b

def Fresh (ρ : Rho) (n : Nat) : Prop := ∀ a, n ≤ a → ρ a = none

/-- what is the same in two worlds beside the heap -/
structure Env (w w' : World) : Prop where
  os : w'.os = w.os
  tape : w'.tape = w.tape
  output : w'.output = w.output
theorem Env.refl (w : World) : Env w w := ⟨rfl, rfl, rfl⟩
theorem Env.trans {w w' w'' : World} (h : Env w w') (h' : Env w' w'') : Env w w'' := ⟨h'.os.trans h.os, h'.tape.trans h.tape, h'.output.trans h.output⟩

/-- A stretch of a run: from (ρ, g, w) to (ρ', g', w'). -/
structure Nx (ρ : Rho) (g : Nat → Option AO) (w : World) (ρ' : Rho) (g' : Nat → Option AO) (w' : World) : Prop where
  rel : HR ρ' g' w'
  le : Le ρ ρ'
  env : Env w w'
  size : w.heap.size ≤ w'.heap.size
  frame : ∀ r, r < w.heap.size → (∀ a o l, g a = some o → o.mut = true → ρ a = some l → l.blk ≠ r) → w'.heap[r]? = w.heap[r]?
  back : ∀ a o l, g' a = some o → o.mut = true → ρ' a = some l → l.blk < w.heap.size → ∃ b p m, g b = some p ∧ p.mut = true ∧ ρ b = some m ∧ m.blk = l.blk
theorem Nx.refl {ρ : Rho} {g : Nat → Option AO} {w : World} (h : HR ρ g w) : Nx ρ g w ρ g w :=
  ⟨h, Le.refl _, Env.refl _, Nat.le_refl _, fun _ _ _ => rfl, fun a o l h1 h2 h3 _ => ⟨a, o, l, h1, h2, h3, rfl⟩⟩
theorem Nx.trans {ρ ρ' ρ'' : Rho} {g g' g'' : Nat → Option AO} {w w' w'' : World} (h : Nx ρ g w ρ' g' w') (h' : Nx ρ' g' w' ρ'' g'' w'') : Nx ρ g w ρ'' g'' w'' where
  rel := h'.rel
  le := h.le.trans h'.le
  env := h.env.trans h'.env
  size := Nat.le_trans h.size h'.size
  frame := fun r hr hn => by
    rw [h'.frame r (Nat.lt_of_lt_of_le hr h.size) ?_, h.frame r hr hn]
    intro a o l h1 h2 h3 h4
    obtain ⟨b, p, m, k1, k2, k3, k4⟩ := h.back a o l h1 h2 h3 (h4 ▸ hr)
    exact hn b p m k1 k2 k3 (k4.trans h4)
  back := fun a o l h1 h2 h3 h4 => by
    obtain ⟨b, p, m, k1, k2, k3, k4⟩ := h'.back a o l h1 h2 h3 (Nat.lt_of_lt_of_le h4 h.size)
    obtain ⟨c, q, n, j1, j2, j3, j4⟩ := h.back b p m k1 k2 k3 (k4 ▸ h4)
    exact ⟨c, q, n, j1, j2, j3, j4.trans k4⟩
/-- A world that differs from another in its draws alone. -/
theorem HR.drew {ρ : Rho} {g : Nat → Option AO} {w w' : World} (h : HR ρ g w) (hh : w'.heap = w.heap) : HR ρ g w' where
  obj := fun a o l h1 h2 h3 => by
    obtain ⟨k2, k3⟩ := h.obj a o l h1 h2 h3
    exact ⟨by rw [hh]; exact k2, OIn.congr (by rw [hh]) k3⟩
  inj := h.inj
theorem Nx.drew {ρ : Rho} {g : Nat → Option AO} {w w' : World} (h : HR ρ g w) (hh : w'.heap = w.heap) (he : Env w w') : Nx ρ g w ρ g w' :=
  ⟨h.drew hh, Le.refl _, he, by rw [hh]; exact Nat.le_refl _, fun _ _ _ => by rw [hh], fun a o l h1 h2 h3 _ => ⟨a, o, l, h1, h2, h3, rfl⟩⟩

/-- What is untouched: the objects made before that do not lie in the world. -/
def Kp (ρ : Rho) (h : H) (ρ' : Rho) (h' : H) : Prop := h.next ≤ h'.next ∧ ∀ a, a < h.next → ρ a = none → ρ' a = none ∧ h'.t.get a = h.t.get a
theorem Kp.refl (ρ : Rho) (h : H) : Kp ρ h ρ h := ⟨Nat.le_refl _, fun _ _ e => ⟨e, rfl⟩⟩
theorem Kp.trans {ρ ρ' ρ'' : Rho} {h h' h'' : H} (k : Kp ρ h ρ' h') (k' : Kp ρ' h' ρ'' h'') : Kp ρ h ρ'' h'' :=
  ⟨Nat.le_trans k.1 k'.1, fun a ha e => by
    obtain ⟨e1, e2⟩ := k.2 a ha e
    obtain ⟨e3, e4⟩ := k'.2 a (Nat.lt_of_lt_of_le ha k.1) e1
    exact ⟨e3, e4.trans e2⟩⟩

/-- A stretch of a run, with the numbers that are still free. -/
structure Way (ρ : Rho) (h : H) (w : World) (ρ' : Rho) (h' : H) (w' : World) : Prop where
  nx : Nx ρ h.t.get w ρ' h'.t.get w'
  fresh : Fresh ρ' h'.next
  kp : Kp ρ h ρ' h'
theorem Way.refl {ρ : Rho} {h : H} {w : World} (hr : HR ρ h.t.get w) (hf : Fresh ρ h.next) : Way ρ h w ρ h w := ⟨Nx.refl hr, hf, Kp.refl _ _⟩
theorem Way.trans {ρ ρ' ρ'' : Rho} {h h' h'' : H} {w w' w'' : World} (k : Way ρ h w ρ' h' w') (k' : Way ρ' h' w' ρ'' h'' w'') : Way ρ h w ρ'' h'' w'' :=
  ⟨k.nx.trans k'.nx, k'.fresh, k.kp.trans k'.kp⟩
theorem Way.drew {ρ : Rho} {h : H} {w w' : World} (hr : HR ρ h.t.get w) (hf : Fresh ρ h.next) (hh : w'.heap = w.heap) (he : Env w w') : Way ρ h w ρ h w' := ⟨Nx.drew hr hh he, hf, Kp.refl _ _⟩
end Go.Proofs.YtldmhpdjlgoenaaGreatDoor.Eo

namespace Go.Proofs.YtldmhpdjlgoenaaGreatDoor.Eo
noncomputable section

/-! ### Rows of cells -/
def putList (k : Nat) (l : List AV) (t : T AV) : T AV := List.rec (motive := fun _ => Nat → T AV → T AV) (fun _ t => t) (fun v _ ih k t => ih (Nat.succ k) (t.set k v)) l k t
theorem putList_nil (k : Nat) (t : T AV) : putList k [] t = t := rfl
theorem putList_cons (k : Nat) (v : AV) (l : List AV) (t : T AV) : putList k (v :: l) t = putList (k + 1) l (t.set k v) := rfl
theorem putList_get : ∀ (l : List AV) (k : Nat) (t : T AV) (i : Nat), (putList k l t).get i = if k ≤ i ∧ i < k + l.length then l[i - k]? else t.get i
  | [], k, t, i => by simp [putList_nil]; omega
  | v :: l, k, t, i => by
    rw [putList_cons, putList_get l (k + 1), T.get_set]
    by_cases h1 : k + 1 ≤ i ∧ i < k + 1 + l.length
    · rw [if_pos h1, if_pos (by simp; omega), show i - k = (i - (k + 1)) + 1 by omega]
      simp
    · rw [if_neg h1]
      by_cases h2 : i = k
      · subst h2; simp
      · rw [if_neg h2, if_neg (by simp; omega)]
def getList (t : T AV) (o n : Nat) : Option (List AV) :=
  Nat.rec (motive := fun _ => Nat → Option (List AV)) (fun _ => some []) (fun _ ih o => Option.rec none (fun v => Option.rec none (fun l => some (v :: l)) (ih (Nat.succ o))) (t.get o)) n o
theorem getList_zero (t : T AV) (o : Nat) : getList t o 0 = some [] := rfl
theorem getList_succ (t : T AV) (o n : Nat) : getList t o (n + 1) = match t.get o with
    | some v => match getList t (o + 1) n with
      | some l => some (v :: l)
      | none => none
    | none => none := by
  show (Option.rec none (fun v => Option.rec none (fun l => some (v :: l)) (getList t (o + 1) n)) (t.get o) : Option (List AV)) = _
  cases t.get o with
  | none => rfl
  | some v => cases getList t (o + 1) n <;> rfl
theorem getList_spec (t : T AV) : ∀ (n o : Nat) (l : List AV), getList t o n = some l → l.length = n ∧ ∀ i, i < n → t.get (o + i) = l[i]?
  | 0, o, l, h => by simp [getList_zero] at h; subst h; simp
  | n + 1, o, l, h => by
    rw [getList_succ] at h
    split at h
    · rename_i v hv
      split at h
      · rename_i m hm
        simp at h; subst h
        obtain ⟨h1, h2⟩ := getList_spec t n (o + 1) m hm
        refine ⟨by simp [h1], fun i hi => ?_⟩
        cases i with
        | zero => simpa using hv
        | succ i => have := h2 i (by omega); simpa [show o + (i + 1) = o + 1 + i by omega] using this
      · simp at h
    · simp at h

theorem addr_add (b o i : Nat) : (⟨b, o, none⟩ : Addr).add i = ⟨b, o + i, none⟩ := by
  unfold Addr.add
  split
  · rename_i h; subst h; rfl
  · rfl

theorem HR.row {ρ : Rho} {g : Nat → Option AO} {w : World} (h : HR ρ g w) {a : Nat} {l : Loc} {cells : T AV} {len : Nat} {e : TypeId} (hg : g a = some (.row cells len e)) (hl : ρ a = some l) :
    l.blk < w.heap.size ∧ OIn ρ w l (.row cells len e) := by
  exact h.obj a _ l hg rfl hl
theorem cell_of {ρ : Rho} {g : Nat → Option AO} {w : World} (h : HR ρ g w) {a : Nat} {l : Loc} {cells : T AV} {len : Nat} {e : TypeId} (hg : g a = some (.row cells len e)) (hl : ρ a = some l)
    {i : Nat} {v : AV} (hv : cells.get i = some v) : ∃ V, VR ρ v V ∧ one V = true ∧ w.cell? ⟨l.blk, l.off + i, none⟩ = some V := by
  obtain ⟨_, _, c, hc, _, hi⟩ := h.row hg hl
  obtain ⟨_, V, h1, h2, h3⟩ := hi i v hv
  exact ⟨V, h1, h2, by simp [World.cell?, hc, h3]⟩
theorem cells_of {ρ : Rho} {g : Nat → Option AO} {w : World} (h : HR ρ g w) {a : Nat} {l : Loc} {cells : T AV} {len : Nat} {e : TypeId} (hg : g a = some (.row cells len e)) (hl : ρ a = some l) :
    ∀ {n o : Nat} {vs : List AV}, getList cells o n = some vs → ∃ Vs, VRs ρ vs Vs ∧ Vs.length = n ∧ (∀ V ∈ Vs, one V = true) ∧ ∀ i V, Vs[i]? = some V → w.cell? ⟨l.blk, l.off + o + i, none⟩ = some V
  | 0, o, vs, hv => by simp [getList_zero] at hv; subst hv; exact ⟨[], rfl, rfl, by simp, by simp⟩
  | n + 1, o, vs, hv => by
    rw [getList_succ] at hv
    split at hv
    · rename_i v h1
      split at hv
      · rename_i m h2
        simp at hv; subst hv
        obtain ⟨V, k1, k2, k3⟩ := cell_of h hg hl h1
        obtain ⟨Vs, j1, j2, j3, j4⟩ := cells_of h hg hl h2
        refine ⟨V :: Vs, ⟨V, Vs, k1, j1, rfl⟩, by simp [j2], by simpa using ⟨k2, j3⟩, fun i U hU => ?_⟩
        cases i with
        | zero => simp at hU; subst hU; exact k3
        | succ i => simp at hU; have := j4 i U hU; rwa [show l.off + o + (i + 1) = l.off + (o + 1) + i by omega]
      · simp at hv
    · simp at hv

theorem cell_of_tab {ρ : Rho} {g : Nat → Option AO} {w : World} (h : HR ρ g w) {a : Nat} {l : Loc} {cells : T AV} (hg : g a = some (.tab cells)) (hl : ρ a = some l)
    {i : Nat} {v : AV} (hv : cells.get i = some v) : ∃ V, VR ρ v V ∧ one V = true ∧ w.cell? ⟨l.blk, l.off + i, none⟩ = some V := by
  obtain ⟨_, c, e, f, h1, h2⟩ := h.obj a _ _ hg rfl hl
  obtain ⟨V, k1, k2, k3⟩ := h2 i v hv
  exact ⟨V, k1, k2, by simp [World.cell?, h1, k3]⟩
theorem cells_of_tab {ρ : Rho} {g : Nat → Option AO} {w : World} (h : HR ρ g w) {a : Nat} {l : Loc} {cells : T AV} (hg : g a = some (.tab cells)) (hl : ρ a = some l) :
    ∀ {n o : Nat} {vs : List AV}, getList cells o n = some vs → ∃ Vs, VRs ρ vs Vs ∧ Vs.length = n ∧ (∀ V ∈ Vs, one V = true) ∧ ∀ i V, Vs[i]? = some V → w.cell? ⟨l.blk, l.off + o + i, none⟩ = some V
  | 0, o, vs, hv => by simp [getList_zero] at hv; subst hv; exact ⟨[], rfl, rfl, by simp, by simp⟩
  | n + 1, o, vs, hv => by
    rw [getList_succ] at hv
    split at hv
    · rename_i v h1
      split at hv
      · rename_i m h2
        simp at hv; subst hv
        obtain ⟨V, k1, k2, k3⟩ := cell_of_tab h hg hl h1
        obtain ⟨Vs, j1, j2, j3, j4⟩ := cells_of_tab h hg hl h2
        refine ⟨V :: Vs, ⟨V, Vs, k1, j1, rfl⟩, by simp [j2], by simpa using ⟨k2, j3⟩, fun i U hU => ?_⟩
        cases i with
        | zero => simp at hU; subst hU; exact k3
        | succ i => simp at hU; have := j4 i U hU; rwa [show l.off + o + (i + 1) = l.off + (o + 1) + i by omega]
      · simp at hv
    · simp at hv

theorem load_cell {P : Program} {w : World} {a : Addr} {V : Value} (h : w.cell? a = some V) (m : Mode) : (load a m).run P w = .ok V w := by
  rw [run_load, h]
theorem load_list {P : Program} {w : World} {a : Addr} {Vs : List Value} {n : Nat} (hn : Vs.length = n) (hs : a.spot = none) (h : ∀ (i : Nat) (V : Value), Vs[i]? = some V → w.cell? ⟨a.block, a.off + i, none⟩ = some V) :
    (loadCells a n).run P w = .ok Vs.toArray w := by
  subst hn
  refine run_loadCells_list w a Vs fun j v hj => ?_
  obtain ⟨b, o, s⟩ := a
  simp at hs; subst hs
  rw [addr_add]
  exact h j v hj

theorem World.setRow_size (w : World) (g : Nat) (c : Array Value) : (w.setRow g c).heap.size = w.heap.size := by
  unfold World.setRow; simp
theorem World.setRow_env (w : World) (g : Nat) (c : Array Value) : Env w (w.setRow g c) := ⟨rfl, rfl, rfl⟩
theorem World.setRow_at (w : World) (g : Nat) (c : Array Value) {cur : Array Value} {t : TypeId} {f : Nat × Nat} (h : w.heap[g]? = some (.cells cur t f)) : (w.setRow g c).heap[g]? = some (.cells c t f) := by
  exact setRow_heap w g cur _ t _ h
theorem World.setRow_other (w : World) (g : Nat) (c : Array Value) {r : Nat} (h : r ≠ g) : (w.setRow g c).heap[r]? = w.heap[r]? := by
  unfold World.setRow
  rw [Array.getElem?_modify]
  simp [Ne.symm h]

theorem one_oneCell' {V : Value} : one V = true → V.oneCell' = true := by
  cases V <;> simp [one, Value.oneCell']

/-- One object is changed in place. -/
theorem nx_set {ρ : Rho} {g g' : Nat → Option AO} {w w' : World} (h : HR ρ g w) {a : Nat} {l : Loc} {o o' : AO} (hg : g a = some o) (hmu : o.mut = true) (hl : ρ a = some l)
    (hg' : ∀ b, g' b = if b = a then some o' else g b) (henv : Env w w') (hsz : w'.heap.size = w.heap.size) (hot : ∀ r, r ≠ l.blk → w'.heap[r]? = w.heap[r]?) (ho' : o'.live = true) (hin : OIn ρ w' l o') : Nx ρ g w ρ g' w' := by
  have ho := AO.live_of_mut hmu
  have hblk : l.blk < w.heap.size := (h.obj a o l hg ho hl).1
  refine ⟨⟨?_, ?_⟩, Le.refl _, henv, by omega, ?_, ?_⟩
  · intro b p m hb hp h1
    rw [hg'] at hb
    by_cases e : b = a
    · subst e
      simp at hb; subst hb
      rw [hl] at h1; simp at h1; subst h1
      exact ⟨by omega, hin⟩
    · rw [if_neg e] at hb
      obtain ⟨h2, h3⟩ := h.obj b p m hb hp h1
      refine ⟨by omega, OIn.congr (hot _ fun hh => e (h.inj b a p o m l hb hp hg ho h1 hl hh)) h3⟩
  · intro b c p q m n hb hp hc hq hm hn hmn
    rw [hg'] at hb hc
    have hb' : ∃ p, g b = some p ∧ p.live = true := by
      by_cases e : b = a
      · subst e; exact ⟨o, hg, ho⟩
      · rw [if_neg e] at hb; exact ⟨p, hb, hp⟩
    have hc' : ∃ p, g c = some p ∧ p.live = true := by
      by_cases e : c = a
      · subst e; exact ⟨o, hg, ho⟩
      · rw [if_neg e] at hc; exact ⟨q, hc, hq⟩
    obtain ⟨p', hb1, hb2⟩ := hb'
    obtain ⟨q', hc1, hc2⟩ := hc'
    exact h.inj b c p' q' m n hb1 hb2 hc1 hc2 hm hn hmn
  · intro r hr hn
    exact hot r fun e => hn a o l hg hmu hl e.symm
  · intro b p m hb hp hm' _
    rw [hg'] at hb
    by_cases e : b = a
    · subst e
      rw [hl] at hm'; simp at hm'; subst hm'
      exact ⟨b, o, l, hg, hmu, hl, rfl⟩
    · rw [if_neg e] at hb
      exact ⟨b, p, m, hb, hp, hm', rfl⟩

theorem glob_le {ρ : Rho} {a : Nat} (h : ρ a = none) : glob ≤ a := by
  rcases Nat.lt_or_ge a glob with hh | hh
  · obtain ⟨r, e⟩ := ρ.own a hh
    rw [h] at e; simp at e
  · exact hh
def upd (ρ : Rho) (a : Nat) (l : Loc) : Rho := ⟨fun b => if b = a ∧ glob ≤ a then some l else ρ b, fun g hg => by
  obtain ⟨r, e⟩ := ρ.own g hg
  exact ⟨r, by rw [if_neg (by omega)]; exact e⟩⟩
theorem upd_at {ρ : Rho} {a b : Nat} {l : Loc} : upd ρ a l b = if b = a ∧ glob ≤ a then some l else ρ b := rfl
theorem upd_le' {ρ : Rho} {a : Nat} {l : Loc} (h : ρ a = none) : Le ρ (upd ρ a l) := fun b m hb => by
  rw [upd_at]
  by_cases e : b = a
  · subst e; rw [h] at hb; simp at hb
  · rw [if_neg (by simp [e])]; exact hb
theorem upd_le {ρ : Rho} {a : Nat} {l : Loc} {n : Nat} (h : Fresh ρ n) (ha : n ≤ a) : Le ρ (upd ρ a l) := upd_le' (h a ha)
theorem upd_other {ρ : Rho} {a b : Nat} {l : Loc} (h : b ≠ a) : upd ρ a l b = ρ b := by simp [upd_at, h]
theorem upd_same {ρ : Rho} {a : Nat} {l : Loc} (h : ρ a = none) : upd ρ a l a = some l := by simp [upd_at, glob_le h]
theorem upd_fresh {ρ : Rho} {a : Nat} {l : Loc} (h : Fresh ρ a) : Fresh (upd ρ a l) (a + 1) := fun b hb => by
  rw [upd_at, if_neg (by omega)]; exact h b (by omega)

/-- A new object. -/
theorem nx_new {ρ : Rho} {g g' : Nat → Option AO} {w : World} (h : HR ρ g w) {a : Nat} {l : Loc} {o : AO} {obj : Obj} (hf : ρ a = none) (hl : l.blk = w.heap.size)
    (hg' : ∀ b, g' b = if b = a then some o else g b) (hin : OIn (upd ρ a l) (w.alloc obj) l o) : Nx ρ g w (upd ρ a l) g' (w.alloc obj) := by
  have hle : Le ρ (upd ρ a l) := upd_le' hf
  have hold : ∀ r, r < w.heap.size → (w.alloc obj).heap[r]? = w.heap[r]? := fun r hr => by
    simp only [World.alloc, Array.getElem?_push]
    rw [if_neg (by omega)]
  refine ⟨⟨?_, ?_⟩, hle, ⟨rfl, rfl, rfl⟩, by simp, fun r hr _ => hold r hr, ?_⟩
  · intro b p m hb hp hm
    rw [hg'] at hb
    by_cases e : b = a
    · subst e
      simp at hb; subst hb
      rw [upd_same hf] at hm; simp at hm; subst hm
      exact ⟨by simp; omega, hin⟩
    · rw [if_neg e] at hb
      rw [upd_other e] at hm
      obtain ⟨h2, h3⟩ := h.obj b p m hb hp hm
      exact ⟨by simp; omega, OIn.mono hle (OIn.congr (hold _ h2) h3)⟩
  · intro b c p q m n hb hp hc hq hm hn hmn
    rw [hg'] at hb hc
    by_cases e : b = a
    · by_cases e' : c = a
      · rw [e, e']
      · rw [if_neg e'] at hc
        rw [upd_other e'] at hn
        have := (h.obj c q n hc hq hn).1
        rw [e, upd_same hf] at hm; simp at hm; subst hm
        omega
    · rw [if_neg e] at hb
      rw [upd_other e] at hm
      have k := (h.obj b p m hb hp hm).1
      by_cases e' : c = a
      · rw [e', upd_same hf] at hn; simp at hn; subst hn
        omega
      · rw [if_neg e'] at hc
        rw [upd_other e'] at hn
        exact h.inj b c p q m n hb hp hc hq hm hn hmn
  · intro b p m hb hp hm hlt
    rw [hg'] at hb
    by_cases e : b = a
    · subst e
      rw [upd_same hf] at hm; simp at hm; subst hm
      omega
    · rw [if_neg e] at hb
      rw [upd_other e] at hm
      exact ⟨b, p, m, hb, hp, hm, rfl⟩

/-- A row of cells that are all known. -/
theorem nx_row {ρ : Rho} {h : H} {w : World} (hr : HR ρ h.t.get w) (hf : Fresh ρ h.next) {vs : List AV} {Vs : List Value} (hv : VRs ρ vs Vs) (h1 : ∀ V ∈ Vs, one V = true) (e : TypeId) :
    Nx ρ h.t.get w (upd ρ h.next ⟨w.heap.size, 0, Vs.length⟩) (h.t.set h.next (.row (putList 0 vs .e) vs.length e)).get (w.alloc (.cells Vs.toArray e)) ∧ Fresh (upd ρ h.next ⟨w.heap.size, 0, Vs.length⟩) (h.next + 1) := by
  refine ⟨nx_new hr (hf _ (Nat.le_refl _)) rfl (fun b => T.get_set _ _ _ _) ?_, upd_fresh hf⟩
  refine ⟨by simp [hv.length], Vs.toArray, by show (w.heap.push _)[w.heap.size]? = _; simp, by simp, fun i v hg => ?_⟩
  rw [putList_get] at hg
  have hi : i < vs.length := by
    by_cases hh : 0 ≤ i ∧ i < 0 + vs.length
    · omega
    · rw [if_neg hh, T.get_e] at hg; simp at hg
  rw [if_pos (by omega)] at hg
  simp at hg
  refine ⟨hi, ?_⟩
  have hg2 : vs[i]? = some v := by simpa using hg
  obtain ⟨V, k1, k2⟩ := hv.get hg2
  exact ⟨V, VR.mono (upd_le hf (Nat.le_refl _)) _ _ k2, h1 V (List.mem_of_getElem? k1), by simpa using k1⟩

/-- A stretch of a row is written. -/
theorem nx_write {ρ : Rho} {h : H} {w : World} (hr : HR ρ h.t.get w) {a : Nat} {l : Loc} {cells : T AV} {len : Nat} {e : TypeId} (hg : h.t.get a = some (.row cells len e)) (hl : ρ a = some l)
    {vs : List AV} {Vs : List Value} (hv : VRs ρ vs Vs) (h1 : ∀ V ∈ Vs, one V = true) {o : Nat} (ho : o + vs.length ≤ len) (P : Program) :
    ∃ w', (storeCells ⟨l.blk, l.off + o, none⟩ Vs).run P w = .ok () w' ∧ Nx ρ h.t.get w ρ (h.t.set a (.row (putList o vs cells) len e)).get w' := by
  obtain ⟨hb, hlen, c, hc, hroom, hi⟩ := hr.row hg hl
  have hL : Vs.length = vs.length := hv.length
  have hrun := run_storeCells_at (P := P) l.blk (l.off + o) e Vs 0 c w hc (by omega) (fun V hV => one_oneCell' (h1 V hV))
  rw [Nat.add_zero] at hrun
  refine ⟨_, hrun, nx_set hr hg rfl hl (fun b => T.get_set _ _ _ _) (World.setRow_env _ _ _) (World.setRow_size _ _ _) (fun r hne => World.setRow_other _ _ _ hne) rfl ?_⟩
  refine ⟨hlen, _, World.setRow_at _ _ _ hc, ?_, fun i v hgi => ?_⟩
  · have hcl : c.toList.length = c.size := by simp
    simp only [List.size_toArray, List.length_append, List.length_take, List.length_drop, hcl]
    omega
  · rw [putList_get] at hgi
    have hcl : c.toList.length = c.size := by simp
    by_cases hh : o ≤ i ∧ i < o + vs.length
    · rw [if_pos hh] at hgi
      have hg2 : vs[i - o]? = some v := hgi
      obtain ⟨V, k1, k2⟩ := hv.get hg2
      refine ⟨by omega, V, k2, h1 V (List.mem_of_getElem? k1), ?_⟩
      simp only [List.getElem?_toArray]
      rw [List.append_assoc, List.getElem?_append_right (by simp; omega), List.getElem?_append_left (by simp [hcl]; omega)]
      rw [← k1]
      congr 1
      simp [hcl]; omega
    · rw [if_neg hh] at hgi
      obtain ⟨j1, V, j2, j3, j4⟩ := hi i v hgi
      refine ⟨j1, V, j2, j3, ?_⟩
      rw [← j4]
      simp only [List.getElem?_toArray]
      have hc2 : ∀ k : Nat, c[k]? = c.toList[k]? := fun k => by simp
      by_cases hlo : i < o
      · rw [List.append_assoc, List.getElem?_append_left (by simp [hcl]; omega), List.getElem?_take, if_pos (by omega), hc2]
      · rw [List.getElem?_append_right (by simp [hcl]; omega), List.getElem?_drop, hc2]
        congr 1
        simp [hcl]; omega

/-- One object is changed in place. -/
theorem way_set {ρ : Rho} {h : H} {w w' : World} (hf : Fresh ρ h.next) {a : Nat} {l : Loc} {o : AO} (hl : ρ a = some l) (hn : Nx ρ h.t.get w ρ (h.t.set a o).get w') : Way ρ h w ρ ⟨h.next, h.t.set a o⟩ w' :=
  ⟨hn, hf, Nat.le_refl _, fun b hb e => ⟨e, by
    show (h.t.set a o).get b = _
    rw [T.get_set, if_neg]
    intro he
    rw [he, hl] at e
    simp at e⟩⟩
/-- One object is made. -/
theorem way_new {ρ : Rho} {h : H} {w w' : World} (hf : Fresh ρ h.next) {l : Loc} {o : AO} (hn : Nx ρ h.t.get w (upd ρ h.next l) (h.t.set h.next o).get w') : Way ρ h w (upd ρ h.next l) ⟨h.next + 1, h.t.set h.next o⟩ w' :=
  ⟨hn, upd_fresh hf, Nat.le_succ _, fun b hb e => ⟨by rw [upd_other (by omega)]; exact e, by
    show (h.t.set h.next o).get b = _
    rw [T.get_set, if_neg (by omega)]⟩⟩
end
end Go.Proofs.YtldmhpdjlgoenaaGreatDoor.Eo

namespace Go.Proofs.YtldmhpdjlgoenaaGreatDoor.Eo
noncomputable section

/-! ### Operands -/
def cv1 : Value → Option AV
  | .bool b => some (.bool b)
  | .int k n => some (.int k n)
  | .string s => some (.str s)
  | .pointer none => some .nilp
  | .slice none 0 0 => some .nils
  | .map none => some .nilm
  | .nilFunc => some .nilf
  | .nilIface => some .nili
  | _ => none
def cvs : List Value → Option (List AV)
  | [] => some []
  | V :: L => match cv1 V with
    | some v => match cvs L with
      | some l => some (v :: l)
      | none => none
    | none => none
def cv : Value → Option AV
  | .agg cs => (cvs cs.toList).map .agg
  | V => cv1 V
theorem cv1_sound {ρ : Rho} {V : Value} {v : AV} (h : cv1 V = some v) : VR ρ v V ∧ one V = true := by
  unfold cv1 at h
  split at h <;> first
    | (simp at h; subst h; exact ⟨by simp [VR], rfl⟩)
    | simp at h
theorem cvs_sound {ρ : Rho} : ∀ {L : List Value} {l : List AV}, cvs L = some l → VRs ρ l L ∧ ∀ V ∈ L, one V = true
  | [], l, h => by simp [cvs] at h; subst h; exact ⟨rfl, by simp⟩
  | V :: L, l, h => by
    unfold cvs at h
    split at h
    · rename_i v hv
      split at h
      · rename_i m hm
        simp at h; subst h
        obtain ⟨k1, k2⟩ := cv1_sound (ρ := ρ) hv
        obtain ⟨j1, j2⟩ := cvs_sound (ρ := ρ) hm
        exact ⟨⟨V, L, k1, j1, rfl⟩, by simpa using ⟨k2, j2⟩⟩
      · simp at h
    · simp at h
theorem cv_sound {ρ : Rho} {V : Value} {v : AV} (h : cv V = some v) : VR ρ v V := by
  unfold cv at h
  split at h
  · rename_i cs
    simp only [Option.map_eq_some_iff] at h
    obtain ⟨l, h1, rfl⟩ := h
    exact ⟨cs.toList, (cvs_sound h1).1, by simp⟩
  · exact (cv1_sound h).1

inductive Opd where
  | t (n : Nat)
  | c (v : AV)
def cOpd : Operand → Option Opd
  | .tmp t => some (.t t)
  | .const v => (cv v).map .c
  | .func f => some (.c (.fn (.func f) [] []))
  | .global g => cond (Nat.ble (g + 1) glob) (some (.c (.ptr g 0))) none
def cOpds : List Operand → Option (List Opd)
  | [] => some []
  | x :: l => match cOpd x with
    | some y => match cOpds l with
      | some m => some (y :: m)
      | none => none
    | none => none
def evo (tm : T AV) : Opd → Option AV
  | .t n => tm.get n
  | .c v => some v
def evos (tm : T AV) : List Opd → Option (List AV)
  | [] => some []
  | x :: l => match evo tm x with
    | some v => match evos tm l with
      | some m => some (v :: m)
      | none => none
    | none => none

/-- how temporaries stand to real ones -/
def TR (ρ : Rho) (tm : T AV) (tmps : Array Value) : Prop := ∀ i v, tm.get i = some v → i < tmps.size ∧ VR ρ v (tmps.getD i undef)
theorem TR.mono {ρ ρ' : Rho} (h : Le ρ ρ') {tm : T AV} {tmps : Array Value} (ht : TR ρ tm tmps) : TR ρ' tm tmps :=
  fun i v hi => ⟨(ht i v hi).1, VR.mono h _ _ (ht i v hi).2⟩
theorem TR.set {ρ : Rho} {tm : T AV} {tmps : Array Value} (ht : TR ρ tm tmps) {d : Nat} {v : AV} {V : Value} (hd : d < tmps.size) (hv : VR ρ v V) :
    TR ρ (tm.set d v) (tmps.setIfInBounds d V) := by
  intro i u hi
  rw [T.get_set] at hi
  by_cases e : i = d
  · subst e
    simp at hi; subst hi
    refine ⟨by simpa using hd, ?_⟩
    simpa [Array.getD_eq_getD_getElem?, hd] using hv
  · rw [if_neg e] at hi
    obtain ⟨h1, h2⟩ := ht i u hi
    refine ⟨by simpa using h1, ?_⟩
    have : (tmps.setIfInBounds d V).getD i undef = tmps.getD i undef := by
      simp only [Array.getD_eq_getD_getElem?, Array.getElem?_setIfInBounds_ne (Ne.symm e)]
    rw [this]; exact h2
theorem evo_sound {ρ : Rho} {tm : T AV} {a : Act} (ht : TR ρ tm a.tmps) {x : Operand} {y : Opd} {v : AV} (hc : cOpd x = some y) (hv : evo tm y = some v) : VR ρ v (a.eval x) := by
  cases x with
  | tmp t => simp [cOpd] at hc; subst hc; exact (ht t v hv).2
  | const V =>
    simp only [cOpd, Option.map_eq_some_iff] at hc
    obtain ⟨u, h1, rfl⟩ := hc
    simp [evo] at hv; subst hv
    exact cv_sound h1
  | global g =>
    simp only [cOpd] at hc
    cases hb : Nat.ble (g + 1) glob with
    | false => rw [hb] at hc; simp at hc
    | true =>
      rw [hb] at hc
      simp at hc; subst hc
      simp [evo] at hv; subst hv
      obtain ⟨r, e⟩ := ρ.own g (Nat.le_of_ble_eq_true hb)
      exact ⟨_, e, rfl⟩
  | func f =>
    simp [cOpd] at hc; subst hc
    simp [evo] at hv; subst hv
    exact ⟨[], [], rfl, rfl, rfl⟩
theorem evos_sound {ρ : Rho} {tm : T AV} {a : Act} (ht : TR ρ tm a.tmps) : ∀ {xs : List Operand} {ys : List Opd} {vs : List AV}, cOpds xs = some ys → evos tm ys = some vs → VRs ρ vs (xs.map a.eval)
  | [], ys, vs, hc, hv => by simp [cOpds] at hc; subst hc; simp [evos] at hv; subst hv; rfl
  | x :: xs, ys, vs, hc, hv => by
    unfold cOpds at hc
    split at hc
    · rename_i y hy
      split at hc
      · rename_i m hm
        simp at hc; subst hc
        unfold evos at hv
        split at hv
        · rename_i v h1
          split at hv
          · rename_i vs' h2
            simp at hv; subst hv
            exact ⟨_, _, evo_sound ht hy h1, evos_sound ht hm h2, rfl⟩
          · simp at hv
        · simp at hv
      · simp at hc
    · simp at hc

/-! ### What the tables say -/
def sz (P : Program) (t : TypeId) : Option Nat := (P.info? t).map (·.size)
def zcells (P : Program) (t : TypeId) : Option (List AV) :=
  match P.info? t with
  | some i => match i.zero with
    | some z => cvs z.cells.toList
    | none => none
  | none => none
/-- none: one cell; some n: a struct or an array of n cells -/
def aggOf (P : Program) (t : TypeId) : Option (Option Nat) :=
  match P.underlying t, sz P t with
  | some (.struct _), some n => some (some n)
  | some (.array _ _), some n => some (some n)
  | some _, some _ => some none
  | _, _ => none
theorem run_typeInfo {P : Program} {t : TypeId} {i : TypeInfo} (h : P.info? t = some i) (w : World) : (typeInfo t).run P w = .ok i w := by
  simp [typeInfo, h]
theorem run_underlying {P : Program} {t : TypeId} {d : TypeDesc} (h : P.underlying t = some d) (w : World) : (underlying t).run P w = .ok d w := by
  simp [underlying, h]
theorem run_sizeOf {P : Program} {t : TypeId} {n : Nat} (h : sz P t = some n) (w : World) : (sizeOf t).run P w = .ok n w := by
  simp only [sz, Option.map_eq_some_iff] at h
  obtain ⟨i, h1, rfl⟩ := h
  simp [sizeOf, run_typeInfo h1]
theorem run_zeroValue {P : Program} {t : TypeId} {l : List AV} (h : zcells P t = some l) (ρ : Rho) (w : World) : ∃ z : Value, (zeroValue t).run P w = .ok z w ∧ VRs ρ l z.cells.toList ∧ ∀ V ∈ z.cells.toList, one V = true := by
  unfold zcells at h
  split at h
  · rename_i i hi
    split at h
    · rename_i z hz
      obtain ⟨h1, h2⟩ := cvs_sound (ρ := ρ) h
      exact ⟨z, by simp [zeroValue, run_typeInfo hi, hz], h1, h2⟩
    · simp at h
  · simp at h
theorem run_isAgg {P : Program} {t : TypeId} {g : Option Nat} (h : aggOf P t = some g) (w : World) : (isAgg t).run P w = .ok g.isSome w := by
  unfold aggOf at h
  split at h <;> first
    | (rename_i h1 h2; simp at h; subst h; simp [isAgg, run_underlying h1]; done)
    | (rename_i d h1 h2 h3 h4; simp at h; subst h; simp only [isAgg, Sem.run_bind, run_underlying h3, Result.andThen_ok]; split <;> simp_all)
    | simp at h
theorem aggOf_size {P : Program} {t : TypeId} {n : Nat} (h : aggOf P t = some (some n)) : sz P t = some n := by
  unfold aggOf at h
  split at h <;> simp_all
end
end Go.Proofs.YtldmhpdjlgoenaaGreatDoor.Eo
