/-
  An evaluator of Go code over relative heaps, part A: tries, values, heaps, and how they stand to the model's worlds.
-/
import Derived.Calls
import Derived.Orders
import Derived.LoopN
import Derived.Below
set_option linter.unusedVariables false
set_option linter.unusedSimpArgs false
namespace Go.Proofs.Ytnmlfhogolonoaa.Ev

/-! ### Tries -/
inductive T (α : Type) where
  | e
  | n (l : T α) (v : Option α) (r : T α)

noncomputable def T.get {α : Type} (t : T α) : Nat → Option α :=
  T.rec (motive := fun _ => Nat → Option α) (fun _ => none)
    (fun _ v _ gl gr i => Bool.rec (Bool.rec (gr (Nat.shiftRight (Nat.pred i) 1)) (gl (Nat.shiftRight i 1)) (Nat.beq (Nat.land i 1) 1)) v (Nat.beq i 0)) t
noncomputable def T.single {α : Type} (f : Nat) : Nat → α → T α :=
  Nat.rec (motive := fun _ => Nat → α → T α) (fun _ _ => .e)
    (fun _ ih i x => Bool.rec (Bool.rec (.n .e none (ih (Nat.shiftRight (Nat.pred i) 1) x)) (.n (ih (Nat.shiftRight i 1) x) none .e) (Nat.beq (Nat.land i 1) 1)) (.n .e (some x) .e) (Nat.beq i 0)) f
noncomputable def T.set {α : Type} (t : T α) : Nat → α → T α :=
  T.rec (motive := fun _ => Nat → α → T α) (fun i x => T.single (Nat.succ i) i x)
    (fun l v r sl sr i x => Bool.rec (Bool.rec (.n l v (sr (Nat.shiftRight (Nat.pred i) 1) x)) (.n (sl (Nat.shiftRight i 1) x) v r) (Nat.beq (Nat.land i 1) 1)) (.n l (some x) r) (Nat.beq i 0)) t

theorem T.get_e {α : Type} (i : Nat) : (T.e : T α).get i = none := rfl
theorem odd_iff (i : Nat) : Nat.beq (Nat.land i 1) 1 = decide (i % 2 = 1) := by
  have h : Nat.land i 1 = i % 2 := Nat.and_one_is_mod i
  rw [h]
  by_cases hi : i % 2 = 1
  · simp [hi]
  · have h2 : i % 2 = 0 := by omega
    rw [h2]; rfl
theorem shr1 (i : Nat) : Nat.shiftRight i 1 = i / 2 := by
  show i >>> 1 = i / 2
  rw [Nat.shiftRight_succ, Nat.shiftRight_zero]
theorem T.get_n {α : Type} (l r : T α) (v : Option α) (i : Nat) :
    (T.n l v r).get i = if i = 0 then v else if i % 2 = 1 then l.get (i / 2) else r.get ((i - 1) / 2) := by
  show (Bool.rec (Bool.rec (r.get (Nat.shiftRight (Nat.pred i) 1)) (l.get (Nat.shiftRight i 1)) (Nat.beq (Nat.land i 1) 1)) v (Nat.beq i 0) : Option α) = _
  rw [odd_iff, shr1, shr1, Nat.pred_eq_sub_one]
  by_cases h0 : i = 0
  · subst h0; rfl
  · have : Nat.beq i 0 = false := by
      cases i with
      | zero => exact absurd rfl h0
      | succ n => rfl
    rw [this, if_neg h0]
    by_cases h1 : i % 2 = 1 <;> simp [h1]
theorem T.single_succ {α : Type} (f i : Nat) (x : α) :
    T.single (f + 1) i x = if i = 0 then .n .e (some x) .e else if i % 2 = 1 then .n (T.single f (i / 2) x) none .e else .n .e none (T.single f ((i - 1) / 2) x) := by
  show (Bool.rec (Bool.rec (.n .e none (T.single f (Nat.shiftRight (Nat.pred i) 1) x)) (.n (T.single f (Nat.shiftRight i 1) x) none .e) (Nat.beq (Nat.land i 1) 1)) (.n .e (some x) .e) (Nat.beq i 0) : T α) = _
  rw [odd_iff, shr1, shr1, Nat.pred_eq_sub_one]
  by_cases h0 : i = 0
  · subst h0; rfl
  · have : Nat.beq i 0 = false := by
      cases i with
      | zero => exact absurd rfl h0
      | succ n => rfl
    rw [this, if_neg h0]
    by_cases h1 : i % 2 = 1 <;> simp [h1]
theorem T.set_n {α : Type} (l r : T α) (v : Option α) (i : Nat) (x : α) :
    (T.n l v r).set i x = if i = 0 then .n l (some x) r else if i % 2 = 1 then .n (l.set (i / 2) x) v r else .n l v (r.set ((i - 1) / 2) x) := by
  show (Bool.rec (Bool.rec (.n l v (r.set (Nat.shiftRight (Nat.pred i) 1) x)) (.n (l.set (Nat.shiftRight i 1) x) v r) (Nat.beq (Nat.land i 1) 1)) (.n l (some x) r) (Nat.beq i 0) : T α) = _
  rw [odd_iff, shr1, shr1, Nat.pred_eq_sub_one]
  by_cases h0 : i = 0
  · subst h0; rfl
  · have : Nat.beq i 0 = false := by
      cases i with
      | zero => exact absurd rfl h0
      | succ n => rfl
    rw [this, if_neg h0]
    by_cases h1 : i % 2 = 1 <;> simp [h1]
theorem T.get_single {α : Type} (x : α) : ∀ (f i j : Nat), i < f → (T.single f i x).get j = if j = i then some x else none := by
  intro f
  induction f with
  | zero => intro i j h; omega
  | succ f ih =>
    intro i j h
    rw [T.single_succ]
    by_cases h0 : i = 0
    · subst h0
      simp only [if_true, T.get_n, T.get_e]
      by_cases hj : j = 0 <;> simp [hj]
    · rw [if_neg h0]
      by_cases h1 : i % 2 = 1
      · rw [if_pos h1, T.get_n]
        by_cases hj : j = 0
        · subst hj
          simp; omega
        · rw [if_neg hj]
          by_cases hj1 : j % 2 = 1
          · rw [if_pos hj1, ih _ _ (by omega)]
            by_cases e : j = i
            · subst e; simp
            · rw [if_neg e, if_neg (by omega)]
          · rw [if_neg hj1, T.get_e, if_neg (by omega)]
      · rw [if_neg h1, T.get_n]
        by_cases hj : j = 0
        · subst hj
          simp; omega
        · rw [if_neg hj]
          by_cases hj1 : j % 2 = 1
          · rw [if_pos hj1, T.get_e, if_neg (by omega)]
          · rw [if_neg hj1, ih _ _ (by omega)]
            by_cases e : j = i
            · subst e; simp
            · rw [if_neg e, if_neg (by omega)]
theorem T.get_set {α : Type} (x : α) (t : T α) : ∀ (i j : Nat), (t.set i x).get j = if j = i then some x else t.get j := by
  induction t with
  | e =>
    intro i j
    show (T.single (Nat.succ i) i x).get j = _
    rw [T.get_single x _ _ _ (Nat.lt_succ_self i), T.get_e]
  | n l v r ihl ihr =>
    intro i j
    rw [T.set_n]
    by_cases h0 : i = 0
    · subst h0
      simp only [if_true, T.get_n]
      by_cases hj : j = 0 <;> simp [hj]
    · rw [if_neg h0]
      by_cases h1 : i % 2 = 1
      · rw [if_pos h1, T.get_n, T.get_n]
        by_cases hj : j = 0
        · subst hj
          simp; omega
        · rw [if_neg hj, if_neg hj]
          by_cases hj1 : j % 2 = 1
          · rw [if_pos hj1, if_pos hj1, ihl]
            by_cases e : j = i
            · subst e; simp
            · rw [if_neg e, if_neg (by omega)]
          · rw [if_neg hj1, if_neg hj1]
            have e : ¬ j = i := by omega
            rw [if_neg e]
      · rw [if_neg h1, T.get_n, T.get_n]
        by_cases hj : j = 0
        · subst hj
          simp; omega
        · rw [if_neg hj, if_neg hj]
          by_cases hj1 : j % 2 = 1
          · rw [if_pos hj1, if_pos hj1]
            have e : ¬ j = i := by omega
            rw [if_neg e]
          · rw [if_neg hj1, if_neg hj1, ihr]
            by_cases e : j = i
            · subst e; simp
            · rw [if_neg e, if_neg (by omega)]

/-! ### Values -/
/-- A value, its blocks named by relative numbers. A slice whose capacity is not known reaches to the end of its block. -/
inductive AV where
  | bool (b : Bool)
  | int (k : IntKind) (n : Int)
  | str (s : ByteArray)
  | ptr (a o : Nat)
  | nilp
  | sl (a o len es : Nat) (cap : Option Nat)
  | nils
  | map (a : Nat)
  | nilm
  | fn (f : Fn) (first captured : List AV)
  | nilf
  | ifc (t : TypeId) (v : AV)
  | nili
  | agg (l : List AV)
  | tup (l : List AV)

/-- Where a block lies: its real number, the place at which it begins, and how many cells there are from there on. -/
structure Loc where
  blk : Nat
  off : Nat
  room : Nat

abbrev Rho := Nat → Option Loc

mutual
/-- how a value stands to a real one -/
def VR (ρ : Rho) : AV → Value → Prop
  | .bool b, V => V = .bool b
  | .int k n, V => V = .int k n
  | .str s, V => V = .string s
  | .ptr a o, V => ∃ l, ρ a = some l ∧ V = .pointer (some ⟨l.blk, l.off + o, none⟩)
  | .nilp, V => V = .pointer none
  | .sl a o len es (some c), V => ∃ l, ρ a = some l ∧ len ≤ c ∧ V = .slice (some ⟨l.blk, l.off + o, none⟩) len c
  | .sl a o len es none, V => ∃ l, ρ a = some l ∧ 0 < es ∧ o + len * es ≤ l.room ∧
      (V = .slice (some ⟨l.blk, l.off + o, none⟩) len ((l.room - o) / es) ∨ len = 0 ∧ ∃ x, V = .slice (some x) 0 0)
  | .nils, V => V = .slice none 0 0
  | .map a, V => ∃ l, ρ a = some l ∧ V = .map (some l.blk)
  | .nilm, V => V = .map none
  | .fn f first captured, V => ∃ F C, VRs ρ first F ∧ VRs ρ captured C ∧ V = .func f F.toArray C.toArray
  | .nilf, V => V = .nilFunc
  | .ifc t v, V => ∃ U, VR ρ v U ∧ V = .iface t U
  | .nili, V => V = .nilIface
  | .agg l, V => ∃ L, VRs ρ l L ∧ V = .agg L.toArray
  | .tup l, V => ∃ L, VRs ρ l L ∧ V = .tuple L.toArray
def VRs (ρ : Rho) : List AV → List Value → Prop
  | [], L => L = []
  | v :: l, L => ∃ V M, VR ρ v V ∧ VRs ρ l M ∧ L = V :: M
end

def Le (ρ ρ' : Rho) : Prop := ∀ a l, ρ a = some l → ρ' a = some l
theorem Le.refl (ρ : Rho) : Le ρ ρ := fun _ _ h => h
theorem Le.trans {ρ ρ' ρ'' : Rho} (h : Le ρ ρ') (h' : Le ρ' ρ'') : Le ρ ρ'' := fun a l e => h' a l (h a l e)

mutual
theorem VR.mono {ρ ρ' : Rho} (h : Le ρ ρ') : ∀ (v : AV) (V : Value), VR ρ v V → VR ρ' v V
  | .bool b, V, hv => by simpa [VR] using hv
  | .int k n, V, hv => by simpa [VR] using hv
  | .str s, V, hv => by simpa [VR] using hv
  | .ptr a o, V, hv => by simp only [VR] at *; obtain ⟨l, h1, h2⟩ := hv; exact ⟨l, h _ _ h1, h2⟩
  | .nilp, V, hv => by simpa [VR] using hv
  | .sl a o len es (some c), V, hv => by simp only [VR] at *; obtain ⟨l, h1, h2⟩ := hv; exact ⟨l, h _ _ h1, h2⟩
  | .sl a o len es none, V, hv => by simp only [VR] at *; obtain ⟨l, h1, h2⟩ := hv; exact ⟨l, h _ _ h1, h2⟩
  | .nils, V, hv => by simpa [VR] using hv
  | .map a, V, hv => by simp only [VR] at *; obtain ⟨l, h1, h2⟩ := hv; exact ⟨l, h _ _ h1, h2⟩
  | .nilm, V, hv => by simpa [VR] using hv
  | .fn f first captured, V, hv => by
    simp only [VR] at *
    obtain ⟨F, C, h1, h2, h3⟩ := hv
    exact ⟨F, C, VRs.mono h _ _ h1, VRs.mono h _ _ h2, h3⟩
  | .nilf, V, hv => by simpa [VR] using hv
  | .ifc t v, V, hv => by simp only [VR] at *; obtain ⟨U, h1, h2⟩ := hv; exact ⟨U, VR.mono h _ _ h1, h2⟩
  | .nili, V, hv => by simpa [VR] using hv
  | .agg l, V, hv => by simp only [VR] at *; obtain ⟨L, h1, h2⟩ := hv; exact ⟨L, VRs.mono h _ _ h1, h2⟩
  | .tup l, V, hv => by simp only [VR] at *; obtain ⟨L, h1, h2⟩ := hv; exact ⟨L, VRs.mono h _ _ h1, h2⟩
theorem VRs.mono {ρ ρ' : Rho} (h : Le ρ ρ') : ∀ (l : List AV) (L : List Value), VRs ρ l L → VRs ρ' l L
  | [], L, hl => by simpa [VRs] using hl
  | v :: l, L, hl => by
    simp only [VRs] at *
    obtain ⟨V, M, h1, h2, h3⟩ := hl
    exact ⟨V, M, VR.mono h _ _ h1, VRs.mono h _ _ h2, h3⟩
end

theorem VRs.length {ρ : Rho} : ∀ {l : List AV} {L : List Value}, VRs ρ l L → L.length = l.length
  | [], L, h => by simp only [VRs] at h; simp [h]
  | v :: l, L, h => by
    simp only [VRs] at h
    obtain ⟨V, M, _, h2, rfl⟩ := h
    simp [VRs.length h2]
theorem VRs.get {ρ : Rho} : ∀ {l : List AV} {L : List Value}, VRs ρ l L → ∀ {i : Nat} {v : AV}, l[i]? = some v → ∃ V, L[i]? = some V ∧ VR ρ v V
  | [], L, _, i, v, hi => by simp at hi
  | v :: l, L, h, 0, u, hi => by
    simp only [VRs] at h
    obtain ⟨V, M, h1, h2, rfl⟩ := h
    simp at hi; subst hi
    exact ⟨V, by simp, h1⟩
  | v :: l, L, h, i + 1, u, hi => by
    simp only [VRs] at h
    obtain ⟨V, M, h1, h2, rfl⟩ := h
    simp at hi
    obtain ⟨U, e, r⟩ := VRs.get h2 hi
    exact ⟨U, by simpa using e, r⟩
theorem VRs.append {ρ : Rho} : ∀ {l m : List AV} {L M : List Value}, VRs ρ l L → VRs ρ m M → VRs ρ (l ++ m) (L ++ M)
  | [], m, L, M, h, h' => by simp only [VRs] at h; subst h; simpa using h'
  | v :: l, m, L, M, h, h' => by
    simp only [VRs] at h
    obtain ⟨V, N, h1, h2, rfl⟩ := h
    exact ⟨V, N ++ M, h1, VRs.append h2 h', rfl⟩
theorem VRs.take {ρ : Rho} : ∀ {l : List AV} {L : List Value} (n : Nat), VRs ρ l L → VRs ρ (l.take n) (L.take n)
  | [], L, n, h => by simp only [VRs] at h; subst h; simp [VRs]
  | v :: l, L, 0, h => by simp [VRs]
  | v :: l, L, n + 1, h => by
    simp only [VRs] at h
    obtain ⟨V, N, h1, h2, rfl⟩ := h
    exact ⟨V, N.take n, h1, VRs.take n h2, rfl⟩
theorem VRs.drop {ρ : Rho} : ∀ {l : List AV} {L : List Value} (n : Nat), VRs ρ l L → VRs ρ (l.drop n) (L.drop n)
  | [], L, n, h => by simp only [VRs] at h; subst h; simp [VRs]
  | v :: l, L, 0, h => by simpa using h
  | v :: l, L, n + 1, h => by
    simp only [VRs] at h
    obtain ⟨V, N, h1, h2, rfl⟩ := h
    simpa using VRs.drop n h2
theorem VRs.set {ρ : Rho} : ∀ {l : List AV} {L : List Value} (i : Nat) {v : AV} {V : Value}, VRs ρ l L → VR ρ v V → VRs ρ (l.set i v) (L.set i V)
  | [], L, i, v, V, h, _ => by simp only [VRs] at h; subst h; simp [VRs]
  | u :: l, L, 0, v, V, h, hv => by
    simp only [VRs] at h
    obtain ⟨U, N, h1, h2, rfl⟩ := h
    exact ⟨V, N, hv, h2, rfl⟩
  | u :: l, L, i + 1, v, V, h, hv => by
    simp only [VRs] at h
    obtain ⟨U, N, h1, h2, rfl⟩ := h
    exact ⟨U, N.set i V, h1, VRs.set i h2 hv, rfl⟩
theorem VRs.of_get {ρ : Rho} : ∀ {l : List AV} {L : List Value}, L.length = l.length → (∀ (i : Nat) (v : AV) (V : Value), l[i]? = some v → L[i]? = some V → VR ρ v V) → VRs ρ l L
  | [], [], _, _ => by simp [VRs]
  | [], _ :: _, h, _ => by simp at h
  | _ :: _, [], h, _ => by simp at h
  | v :: l, V :: L, h, hg => ⟨V, L, hg 0 v V rfl rfl, VRs.of_get (by simpa using h) (fun i u U hu hU => hg (i + 1) u U (by simpa using hu) (by simpa using hU)), rfl⟩

/-! ### Heaps -/
inductive AO where
  /-- a row: its cells (some are known), how many there surely are, the type of its elements -/
  | row (cells : T AV) (len : Nat) (elem : TypeId)
  | map (es : List (AV × AV × Nat)) (clock : Nat)
  /-- a walk through a map -/
  | iter (m : Option Nat) (since : Nat) (seen : List Nat) (last : Nat)
  | dead

structure H where
  next : Nat
  t : T AO

def AO.live : AO → Bool
  | .dead => false
  | _ => true

def ERs (ρ : Rho) : List (AV × AV × Nat) → List MapEntry → Prop
  | [], L => L = []
  | e :: l, L => ∃ E M, VR ρ e.1 E.key ∧ VR ρ e.2.1 E.val ∧ E.born = e.2.2 ∧ ERs ρ l M ∧ L = E :: M
theorem ERs.mono {ρ ρ' : Rho} (h : Le ρ ρ') : ∀ (l : List (AV × AV × Nat)) (L : List MapEntry), ERs ρ l L → ERs ρ' l L
  | [], L, hl => hl
  | e :: l, L, hl => by
    obtain ⟨E, M, h1, h2, h3, h4, h5⟩ := hl
    exact ⟨E, M, VR.mono h _ _ h1, VR.mono h _ _ h2, h3, ERs.mono h _ _ h4, h5⟩

/-- a value of one cell -/
def one : Value → Bool
  | .agg _ | .tuple _ => false
  | _ => true

/-- an object as it lies in the world -/
def OIn (ρ : Rho) (w : World) (l : Loc) : AO → Prop
  | .row cells len e => len ≤ l.room ∧ ∃ c, w.heap[l.blk]? = some (.cells c e (0, 0)) ∧ l.off + l.room = c.size ∧
      ∀ i v, cells.get i = some v → i < len ∧ ∃ V, VR ρ v V ∧ one V = true ∧ c[l.off + i]? = some V
  | .map es clock => ∃ ES, ERs ρ es ES ∧ w.heap[l.blk]? = some (.map ES.toArray clock)
  | .iter m since seen last => l.off = 0 ∧ ∃ M, w.heap[l.blk]? = some (.mapIter M since seen.toArray last) ∧ match m with
    | none => M = none
    | some a => ∃ k, ρ a = some k ∧ M = some k.blk
  | .dead => True
theorem OIn.mono {ρ ρ' : Rho} (h : Le ρ ρ') {w : World} {l : Loc} : ∀ {o : AO}, OIn ρ w l o → OIn ρ' w l o
  | .row cells len e, hi => by
    obtain ⟨h0, c, h1, h2, h3⟩ := hi
    exact ⟨h0, c, h1, h2, fun i v hg => by obtain ⟨a, V, b, d, e⟩ := h3 i v hg; exact ⟨a, V, VR.mono h _ _ b, d, e⟩⟩
  | .map es clock, hi => by
    obtain ⟨ES, h1, h2⟩ := hi
    exact ⟨ES, ERs.mono h _ _ h1, h2⟩
  | .iter m since seen last, hi => by
    obtain ⟨h0, M, h1, h2⟩ := hi
    refine ⟨h0, M, h1, ?_⟩
    cases m with
    | none => exact h2
    | some a => obtain ⟨k, h3, h4⟩ := h2; exact ⟨k, h _ _ h3, h4⟩
  | .dead, _ => trivial
theorem OIn.congr {ρ : Rho} {w w' : World} {l : Loc} (h : w'.heap[l.blk]? = w.heap[l.blk]?) : ∀ {o : AO}, OIn ρ w l o → OIn ρ w' l o
  | .row cells len e, hi => by
    obtain ⟨h0, c, h1, h2, h3⟩ := hi
    exact ⟨h0, c, h.trans h1, h2, h3⟩
  | .map es clock, hi => by
    obtain ⟨ES, h1, h2⟩ := hi
    exact ⟨ES, h1, h.trans h2⟩
  | .iter m since seen last, hi => by
    obtain ⟨h0, M, h1, h2⟩ := hi
    exact ⟨h0, M, h.trans h1, h2⟩
  | .dead, _ => trivial

/-- a heap as it lies in the world -/
structure HR (ρ : Rho) (g : Nat → Option AO) (w : World) : Prop where
  obj : ∀ a o l, g a = some o → o.live = true → ρ a = some l → l.blk < w.heap.size ∧ OIn ρ w l o
  inj : ∀ a b o p l m, g a = some o → o.live = true → g b = some p → p.live = true → ρ a = some l → ρ b = some m → l.blk = m.blk → a = b

def Fresh (ρ : Rho) (n : Nat) : Prop := ∀ a, n ≤ a → ρ a = none

/-- what is the same in two worlds beside the heap -/
structure Env (w w' : World) : Prop where
  os : w'.os = w.os
  tape : w'.tape = w.tape
  output : w'.output = w.output
theorem Env.refl (w : World) : Env w w := ⟨rfl, rfl, rfl⟩
theorem Env.trans {w w' w'' : World} (h : Env w w') (h' : Env w' w'') : Env w w'' := ⟨h'.os.trans h.os, h'.tape.trans h.tape, h'.output.trans h.output⟩

/-- A stretch of a run: from (ρ, g, w) to (ρ', g', w'). -/
structure Nx (ρ : Rho) (g : Nat → Option AO) (w : World) (ρ' : Rho) (g' : Nat → Option AO) (w' : World) : Prop where
  rel : HR ρ' g' w'
  le : Le ρ ρ'
  env : Env w w'
  size : w.heap.size ≤ w'.heap.size
  frame : ∀ r, r < w.heap.size → (∀ a o l, g a = some o → o.live = true → ρ a = some l → l.blk ≠ r) → w'.heap[r]? = w.heap[r]?
  back : ∀ a o l, g' a = some o → o.live = true → ρ' a = some l → l.blk < w.heap.size → ∃ b p m, g b = some p ∧ p.live = true ∧ ρ b = some m ∧ m.blk = l.blk
theorem Nx.refl {ρ : Rho} {g : Nat → Option AO} {w : World} (h : HR ρ g w) : Nx ρ g w ρ g w :=
  ⟨h, Le.refl _, Env.refl _, Nat.le_refl _, fun _ _ _ => rfl, fun a o l h1 h2 h3 _ => ⟨a, o, l, h1, h2, h3, rfl⟩⟩
theorem Nx.trans {ρ ρ' ρ'' : Rho} {g g' g'' : Nat → Option AO} {w w' w'' : World} (h : Nx ρ g w ρ' g' w') (h' : Nx ρ' g' w' ρ'' g'' w'') : Nx ρ g w ρ'' g'' w'' where
  rel := h'.rel
  le := h.le.trans h'.le
  env := h.env.trans h'.env
  size := Nat.le_trans h.size h'.size
  frame := fun r hr hn => by
    rw [h'.frame r (Nat.lt_of_lt_of_le hr h.size) ?_, h.frame r hr hn]
    intro a o l h1 h2 h3 h4
    obtain ⟨b, p, m, k1, k2, k3, k4⟩ := h.back a o l h1 h2 h3 (h4 ▸ hr)
    exact hn b p m k1 k2 k3 (k4.trans h4)
  back := fun a o l h1 h2 h3 h4 => by
    obtain ⟨b, p, m, k1, k2, k3, k4⟩ := h'.back a o l h1 h2 h3 (Nat.lt_of_lt_of_le h4 h.size)
    obtain ⟨c, q, n, j1, j2, j3, j4⟩ := h.back b p m k1 k2 k3 (k4 ▸ h4)
    exact ⟨c, q, n, j1, j2, j3, j4.trans k4⟩
/-- A world that differs from another in its draws alone. -/
theorem HR.drew {ρ : Rho} {g : Nat → Option AO} {w w' : World} (h : HR ρ g w) (hh : w'.heap = w.heap) : HR ρ g w' where
  obj := fun a o l h1 h2 h3 => by
    obtain ⟨k2, k3⟩ := h.obj a o l h1 h2 h3
    exact ⟨by rw [hh]; exact k2, OIn.congr (by rw [hh]) k3⟩
  inj := h.inj
theorem Nx.drew {ρ : Rho} {g : Nat → Option AO} {w w' : World} (h : HR ρ g w) (hh : w'.heap = w.heap) (he : Env w w') : Nx ρ g w ρ g w' :=
  ⟨h.drew hh, Le.refl _, he, by rw [hh]; exact Nat.le_refl _, fun _ _ _ => by rw [hh], fun a o l h1 h2 h3 _ => ⟨a, o, l, h1, h2, h3, rfl⟩⟩

/-- What is untouched: the objects made before that do not lie in the world. -/
def Kp (ρ : Rho) (h : H) (ρ' : Rho) (h' : H) : Prop := h.next ≤ h'.next ∧ ∀ a, a < h.next → ρ a = none → ρ' a = none ∧ h'.t.get a = h.t.get a
theorem Kp.refl (ρ : Rho) (h : H) : Kp ρ h ρ h := ⟨Nat.le_refl _, fun _ _ e => ⟨e, rfl⟩⟩
theorem Kp.trans {ρ ρ' ρ'' : Rho} {h h' h'' : H} (k : Kp ρ h ρ' h') (k' : Kp ρ' h' ρ'' h'') : Kp ρ h ρ'' h'' :=
  ⟨Nat.le_trans k.1 k'.1, fun a ha e => by
    obtain ⟨e1, e2⟩ := k.2 a ha e
    obtain ⟨e3, e4⟩ := k'.2 a (Nat.lt_of_lt_of_le ha k.1) e1
    exact ⟨e3, e4.trans e2⟩⟩

/-- A stretch of a run, with the numbers that are still free. -/
structure Way (ρ : Rho) (h : H) (w : World) (ρ' : Rho) (h' : H) (w' : World) : Prop where
  nx : Nx ρ h.t.get w ρ' h'.t.get w'
  fresh : Fresh ρ' h'.next
  kp : Kp ρ h ρ' h'
theorem Way.refl {ρ : Rho} {h : H} {w : World} (hr : HR ρ h.t.get w) (hf : Fresh ρ h.next) : Way ρ h w ρ h w := ⟨Nx.refl hr, hf, Kp.refl _ _⟩
theorem Way.trans {ρ ρ' ρ'' : Rho} {h h' h'' : H} {w w' w'' : World} (k : Way ρ h w ρ' h' w') (k' : Way ρ' h' w' ρ'' h'' w'') : Way ρ h w ρ'' h'' w'' :=
  ⟨k.nx.trans k'.nx, k'.fresh, k.kp.trans k'.kp⟩
theorem Way.drew {ρ : Rho} {h : H} {w w' : World} (hr : HR ρ h.t.get w) (hf : Fresh ρ h.next) (hh : w'.heap = w.heap) (he : Env w w') : Way ρ h w ρ h w' := ⟨Nx.drew hr hh he, hf, Kp.refl _ _⟩
end Go.Proofs.Ytnmlfhogolonoaa.Ev
