/-
  An evaluator of Go code over relative heaps, part D: arithmetic, comparison, structs.
  An evaluator of Go code over relative heaps, part E: slices, fields, indexes: what reads no memory.
-/
import Derived.Test.YtldmhpdjlgoenaaGreatDoorEoC
import Derived.Laws.StructEq
import Derived.IntWalk
import Derived.ChangeKeysEq
set_option linter.unusedVariables false
set_option linter.unusedSimpArgs false
namespace Go.Proofs.YtldmhpdjlgoenaaGreatDoor.Eo
noncomputable section

def iLt (x y : Int) : Bool := match x, y with
  | .ofNat a, .ofNat b => Nat.blt a b
  | .ofNat _, .negSucc _ => false
  | .negSucc _, .ofNat _ => true
  | .negSucc a, .negSucc b => Nat.blt b a
def iEq (x y : Int) : Bool := match x, y with
  | .ofNat a, .ofNat b => Nat.beq a b
  | .negSucc a, .negSucc b => Nat.beq a b
  | _, _ => false
theorem blt_iff (a b : Nat) : Nat.blt a b = decide (a < b) := by
  show Nat.ble (a + 1) b = _
  rw [Bool.eq_iff_iff, Nat.ble_eq]; simp; omega
theorem beq_iff (a b : Nat) : Nat.beq a b = decide (a = b) := by
  rw [Bool.eq_iff_iff, Nat.beq_eq]; simp
theorem iLt_eq (x y : Int) : iLt x y = decide (x < y) := by
  unfold iLt
  split
  · rw [blt_iff]; rw [Bool.eq_iff_iff]; simp
  · rename_i a b; rw [Bool.eq_iff_iff]; simp; omega
  · rename_i a b; rw [Bool.eq_iff_iff]; simp; omega
  · rename_i a b; rw [blt_iff, Bool.eq_iff_iff]; simp; omega
theorem iEq_eq (x y : Int) : iEq x y = (x == y) := by
  unfold iEq
  split
  · rename_i a b; rw [beq_iff, Bool.eq_iff_iff]; simp only [decide_eq_true_eq, beq_iff_eq]; exact ⟨fun h => by rw [h], fun h => by injection h⟩
  · rename_i a b; rw [beq_iff, Bool.eq_iff_iff]; simp only [decide_eq_true_eq, beq_iff_eq]; exact ⟨fun h => by rw [h], fun h => by injection h⟩
  · rename_i h1 h2
    cases x <;> cases y <;> first
      | (rename_i a b; exact absurd rfl (h1 a b rfl))
      | (rename_i a b; exact absurd rfl (h2 a b rfl))
      | (rename_i a b; symm; rw [beq_eq_false_iff_ne]; intro hh; cases hh)
/-- the wrap, at once where nothing wraps -/
def fw (k : IntKind) (n : Int) : Int := match n with
  | .ofNat m => cond (Nat.blt m (match k with | .i8 => 128 | .u8 => 256 | .i16 => 32768 | .u16 => 65536 | .i32 => 2147483648 | .u32 => 4294967296 | .i64 => 9223372036854775808 | .u64 => 18446744073709551616)) (.ofNat m) (k.wrap (.ofNat m))
  | .negSucc m => cond (Nat.blt m (match k with | .i8 => 128 | .i16 => 32768 | .i32 => 2147483648 | .i64 => 9223372036854775808 | _ => 0)) (.negSucc m) (k.wrap (.negSucc m))
theorem wrap_in (k : IntKind) (n : Int) (h : match k with | .i8 => -128 ≤ n ∧ n ≤ 127 | .u8 => 0 ≤ n ∧ n ≤ 255 | .i16 => -32768 ≤ n ∧ n ≤ 32767 | .u16 => 0 ≤ n ∧ n ≤ 65535 | .i32 => -2147483648 ≤ n ∧ n ≤ 2147483647 | .u32 => 0 ≤ n ∧ n ≤ 4294967295 | .i64 => -9223372036854775808 ≤ n ∧ n ≤ 9223372036854775807 | .u64 => 0 ≤ n ∧ n ≤ 18446744073709551615) : k.wrap n = n := by
  cases k
  · exact IntWalk.i8_in n h
  · exact IntWalk.i16_in n h
  · exact IntWalk.i32_in n h
  · exact IntWalk.i64_in n h
  · exact IntWalk.u8_in n h
  · exact IntWalk.u16_in n h
  · exact IntWalk.u32_in n h
  · exact IntWalk.u64_in n h
theorem fw_eq (k : IntKind) (n : Int) : fw k n = k.wrap n := by
  unfold fw
  split
  · rename_i m
    cases h : Nat.blt m _
    · rfl
    · rw [blt_iff, decide_eq_true_eq] at h
      show (m : Int) = k.wrap (m : Int)
      refine (wrap_in k _ ?_).symm
      cases k <;> (dsimp only at h ⊢; omega)
  · rename_i m
    cases h : Nat.blt m _
    · rfl
    · rw [blt_iff, decide_eq_true_eq] at h
      show Int.negSucc m = k.wrap (Int.negSucc m)
      refine (wrap_in k _ ?_).symm
      cases k <;> (dsimp only at h ⊢; omega)

def evInt (op : BinOp) (k : IntKind) (x y : Int) : Option AV := match op with
  | .add => some (.int k (fw k (Int.add x y)))
  | .sub => some (.int k (fw k (Int.sub x y)))
  | .mul => some (.int k (fw k (Int.mul x y)))
  | .quo => cond (iEq y 0) none (some (.int k (fw k (Int.tdiv x y))))
  | .rem => cond (iEq y 0) none (some (.int k (Int.tmod x y)))
  | .and => some (.int k (fw k (BitVec.ofInt k.bits x &&& BitVec.ofInt k.bits y).toNat))
  | .or => some (.int k (fw k (BitVec.ofInt k.bits x ||| BitVec.ofInt k.bits y).toNat))
  | .xor => some (.int k (fw k (BitVec.ofInt k.bits x ^^^ BitVec.ofInt k.bits y).toNat))
  | .andNot => some (.int k (fw k (BitVec.ofInt k.bits x &&& ~~~ BitVec.ofInt k.bits y).toNat))
  | .eql => some (.bool (iEq x y))
  | .neq => some (.bool (!iEq x y))
  | .lss => some (.bool (iLt x y))
  | .leq => some (.bool (!iLt y x))
  | .gtr => some (.bool (iLt y x))
  | .geq => some (.bool (!iLt x y))
  | _ => none
theorem evInt_sound {P : Program} {op : BinOp} {k : IntKind} {x y : Int} {v : AV} (h : evInt op k x y = some v) {ρ : Rho} : ∃ V, VR ρ v V ∧ one V = true ∧ ∀ t w, (binOp op t (.int k x) (.int k y)).run P w = .ok V w := by
  unfold evInt at h
  have hle : ∀ a b : Int, (!decide (b < a)) = decide (a ≤ b) := fun a b => by rw [Bool.eq_iff_iff]; simp
  cases op <;> simp only [fw_eq, iEq_eq, iLt_eq, hle] at h
  case quo =>
    cases hy : (y == (0 : Int))
    · rw [hy] at h
      simp at h; subst h
      have : ¬ y = 0 := by simpa using hy
      exact ⟨_, rfl, rfl, fun t w => by simp [binOp, Op.intDiv, this]⟩
    · rw [hy] at h; simp at h
  case rem =>
    cases hy : (y == (0 : Int))
    · rw [hy] at h
      simp at h; subst h
      have : ¬ y = 0 := by simpa using hy
      exact ⟨_, rfl, rfl, fun t w => by simp [binOp, Op.intDiv, this]⟩
    · rw [hy] at h; simp at h
  all_goals first
    | (simp at h; done)
    | (simp only [Option.some.injEq] at h; subst h; exact ⟨_, rfl, rfl, fun t w => by simp [binOp, Op.intArith, Op.intBits, Op.intCmp, bne, Int.add_def, Int.mul_def] <;> rfl⟩)

/-! ### Parts of a struct, equality -/
def partA (P : Program) (t : TypeId) (l : List AV) (off : Nat) : Option AV :=
  match aggOf P t with
  | some none => l[off]?
  | some (some n) => cond (Nat.ble (off + n) l.length) (some (.agg ((l.drop off).take n))) none
  | none => none
theorem partA_sound {P : Program} {t : TypeId} {l : List AV} {off : Nat} {v : AV} (h : partA P t l off = some v) {ρ : Rho} {L : List Value} (hl : VRs ρ l L) :
    ∃ V, VR ρ v V ∧ ∀ w, (part t L.toArray off).run P w = .ok V w := by
  unfold partA at h
  split at h
  · rename_i ha
    obtain ⟨V, h1, h2⟩ := hl.get h
    exact ⟨V, h2, fun w => by simp [part, run_isAgg ha, h1]⟩
  · rename_i n ha
    cases hc : Nat.ble (off + n) l.length
    · rw [hc] at h; simp at h
    · rw [hc] at h
      simp at h; subst h
      refine ⟨.agg ((L.drop off).take n).toArray, ⟨_, (hl.drop off).take n, rfl⟩, fun w => ?_⟩
      simp only [part, Sem.run_bind, run_isAgg ha, Result.andThen_ok, Option.isSome, if_true, run_sizeOf (aggOf_size ha), Sem.run_pure]
      simp [List.extract_eq_take_drop]
  · simp at h

/-- equality of strings, for the kernel -/
def bsEq : List UInt8 → List UInt8 → Bool
  | [], [] => true
  | a :: l, b :: m => match Nat.beq a.toNat b.toNat with
    | true => bsEq l m
    | false => false
  | _, _ => false
def strEq (x y : ByteArray) : Bool := bsEq x.data.toList y.data.toList
theorem bsEq_eq : ∀ l m : List UInt8, bsEq l m = (l == m)
  | [], [] => rfl
  | [], _ :: _ => rfl
  | _ :: _, [] => rfl
  | a :: l, b :: m => by
    unfold bsEq
    rw [List.cons_beq_cons, ← bsEq_eq l m]
    by_cases h : a = b
    · subst h; simp
    · have hn : ¬ a.toNat = b.toNat := fun e => h (UInt8.toNat_inj.1 e)
      have hb : Nat.beq a.toNat b.toNat = false := by
        cases hh : Nat.beq a.toNat b.toNat
        · rfl
        · exact absurd (Nat.eq_of_beq_eq_true hh) hn
      simp [hb, h]
theorem strEq_toList (x y : ByteArray) : strEq x y = (x.toList == y.toList) := by
  unfold strEq
  rw [bsEq_eq, ByteArray.toList_eq, ByteArray.toList_eq]
theorem strEq_eq (x y : ByteArray) : strEq x y = (x == y) := by rw [strEq_toList, beq_toListBytes]

def eqFs (rec : TypeId → AV → AV → Option Bool) (P : Program) (xs ys : List AV) : List Field → Option Bool
  | [] => some true
  | f :: fs => cond (decide (f.name ≠ "_"))
      (match partA P f.type xs f.offset, partA P f.type ys f.offset with
       | some a, some b => match rec f.type a b with
         | some true => eqFs rec P xs ys fs
         | some false => some false
         | none => none
       | _, _ => none)
      (eqFs rec P xs ys fs)
def eqIs (rec : TypeId → AV → AV → Option Bool) (P : Program) (e : TypeId) (c : Nat) (xs ys : List AV) : List Nat → Option Bool
  | [] => some true
  | i :: is => match partA P e xs (i * c), partA P e ys (i * c) with
       | some a, some b => match rec e a b with
         | some true => eqIs rec P e c xs ys is
         | some false => some false
         | none => none
       | _, _ => none
def eqA (P : Program) : Nat → TypeId → AV → AV → Option Bool
  | 0, _, _, _ => none
  | d + 1, t, x, y => match P.underlying t with
    | some .bool => match x, y with | .bool a, .bool b => some (a == b) | _, _ => none
    | some (.int _) => match x, y with | .int k a, .int k' b => cond (decide (k = k')) (some (iEq a b)) none | _, _ => none
    | some .string => match x, y with | .str a, .str b => some (strEq a b) | _, _ => none
    | some (.struct fs) => match x, y with | .agg xs, .agg ys => cond (P.stoodInHeld t) none (eqFs (eqA P d) P xs ys fs.toList) | _, _ => none
    | some (.array n e) => match x, y with
      | .agg xs, .agg ys => match P.info? e with
        | some _ => eqIs (eqA P d) P e (P.cellsOf e) xs ys (List.range n)
        | none => none
      | _, _ => none
    | _ => none
theorem eqFs_sound {P : Program} {d : Nat} {rec : TypeId → AV → AV → Option Bool}
    (hrec : ∀ t a b r, rec t a b = some r → ∀ (ρ : Rho) (A B : Value), VR ρ a A → VR ρ b B → ∀ w, (Op.equalIn d t A B).run P w = .ok r w)
    {xs ys : List AV} {ρ : Rho} {XS YS : List Value} (hx : VRs ρ xs XS) (hy : VRs ρ ys YS) : ∀ {fs : List Field} {r : Bool}, eqFs rec P xs ys fs = some r → ∀ w, (Op.eqFields d XS.toArray YS.toArray fs).run P w = .ok r w
  | [], r, h, w => by simp [eqFs] at h; subst h; simp [Op.eqFields]
  | f :: fs, r, h, w => by
    unfold eqFs at h
    unfold Op.eqFields
    by_cases hn : f.name ≠ "_"
    · rw [if_pos hn]
      rw [decide_eq_true hn, cond_true] at h
      split at h
      · rename_i a b ha hb
        obtain ⟨A, h1, h2⟩ := partA_sound ha hx
        obtain ⟨B, h3, h4⟩ := partA_sound hb hy
        split at h
        · rename_i hr
          have := hrec _ _ _ _ hr _ _ _ h1 h3 w
          simp only [Sem.run_bind, h2, h4, Result.andThen_ok, this, Bool.not_true, Bool.false_eq_true, if_false]
          exact eqFs_sound hrec hx hy h w
        · rename_i hr
          simp at h; subst h
          have := hrec _ _ _ _ hr _ _ _ h1 h3 w
          simp [h2, h4, this]
        · simp at h
      · simp at h
    · rw [if_neg hn]
      rw [decide_eq_false hn] at h
      exact eqFs_sound hrec hx hy h w
theorem eqIs_sound {P : Program} {d : Nat} {rec : TypeId → AV → AV → Option Bool}
    (hrec : ∀ t a b r, rec t a b = some r → ∀ (ρ : Rho) (A B : Value), VR ρ a A → VR ρ b B → ∀ w, (Op.equalIn d t A B).run P w = .ok r w)
    {xs ys : List AV} {ρ : Rho} {XS YS : List Value} (hx : VRs ρ xs XS) (hy : VRs ρ ys YS) {e : TypeId} {c : Nat} : ∀ {is : List Nat} {r : Bool}, eqIs rec P e c xs ys is = some r → ∀ w, (Op.eqItems d e c XS.toArray YS.toArray is).run P w = .ok r w
  | [], r, h, w => by simp [eqIs] at h; subst h; simp [Op.eqItems]
  | i :: is, r, h, w => by
    unfold eqIs at h
    unfold Op.eqItems
    split at h
    · rename_i a b ha hb
      obtain ⟨A, h1, h2⟩ := partA_sound ha hx
      obtain ⟨B, h3, h4⟩ := partA_sound hb hy
      split at h
      · rename_i hr
        have := hrec _ _ _ _ hr _ _ _ h1 h3 w
        simp only [Sem.run_bind, h2, h4, Result.andThen_ok, this, Bool.not_true, Bool.false_eq_true, if_false]
        exact eqIs_sound hrec hx hy h w
      · rename_i hr
        simp at h; subst h
        have := hrec _ _ _ _ hr _ _ _ h1 h3 w
        simp [h2, h4, this]
      · simp at h
    · simp at h
theorem eqA_sound {P : Program} : ∀ (d : Nat) (t : TypeId) (a b : AV) (r : Bool), eqA P d t a b = some r → ∀ (ρ : Rho) (A B : Value), VR ρ a A → VR ρ b B → ∀ w, (Op.equalIn d t A B).run P w = .ok r w
  | 0, t, a, b, r, h => by simp [eqA] at h
  | d + 1, t, a, b, r, h => by
    intro ρ A B hA hB w
    unfold eqA at h
    split at h
    · rename_i hu
      split at h
      · simp only [VR] at hA hB; subst hA hB
        simp at h; subst h
        simp [Op.equalIn, Go.Proofs.YtldmhpdjlgoenaaGreatDoor.Eo.run_underlying hu]
      · simp at h
    · rename_i hu
      split at h
      · rename_i k a k' b
        simp only [VR] at hA hB; subst hA hB
        by_cases hk : k = k'
        · simp [hk] at h; subst h
          simp [Op.equalIn, Go.Proofs.YtldmhpdjlgoenaaGreatDoor.Eo.run_underlying hu, hk, iEq_eq]
        · simp [hk] at h
      · simp at h
    · rename_i hu
      split at h
      · simp only [VR] at hA hB; subst hA hB
        simp at h; subst h
        simp [Op.equalIn, Go.Proofs.YtldmhpdjlgoenaaGreatDoor.Eo.run_underlying hu, strEq_eq]
      · simp at h
    · rename_i fs hu
      split at h
      · rename_i xs ys
        simp only [VR] at hA hB
        obtain ⟨XS, h1, rfl⟩ := hA
        obtain ⟨YS, h2, rfl⟩ := hB
        cases hst : P.stoodInHeld t
        · rw [hst] at h
          simp only [cond_false] at h
          have hf : P.fieldsOf t = fs := by simp [Program.fieldsOf, hu]
          rw [run_equalIn_struct w d t _ _ (by rw [hf]; exact hu) hst, hf]
          exact eqFs_sound (fun t a b r h => eqA_sound d t a b r h) h1 h2 h w
        · rw [hst] at h; simp at h
      · simp at h
    · rename_i n e hu
      split at h
      · rename_i xs ys
        simp only [VR] at hA hB
        obtain ⟨XS, h1, rfl⟩ := hA
        obtain ⟨YS, h2, rfl⟩ := hB
        split at h
        · rename_i i hi
          rw [run_equalIn_array w d _ _ hu hi]
          exact eqIs_sound (fun t a b r h => eqA_sound d t a b r h) h1 h2 h w
        · simp at h
      · simp at h
    · simp at h
end
end Go.Proofs.YtldmhpdjlgoenaaGreatDoor.Eo

namespace Go.Proofs.YtldmhpdjlgoenaaGreatDoor.Eo
noncomputable section

def bnd (y : Nat) : AV → Option Nat
  | .int _ (.ofNat m) => cond (Nat.ble m y) (some m) none
  | _ => none
theorem bnd_le {y m : Nat} {a : AV} (h : bnd y a = some m) : m ≤ y := by
  unfold bnd at h
  split at h
  · rename_i k m'
    cases hc : Nat.ble m' y
    · rw [hc] at h; simp at h
    · rw [hc] at h; simp at h; subst h; exact Nat.le_of_ble_eq_true hc
  · simp at h
theorem bnd_sound {P : Program} {ρ : Rho} {y z m : Nat} {a : AV} {A : Value} (ha : VR ρ a A) (h : bnd y a = some m) (hz : y ≤ z) (code : BoundsCode) (w : World) : (Instr.sliceBound A z code).run P w = .ok m w := by
  have hle := bnd_le h
  unfold bnd at h
  split at h
  · rename_i k m'
    cases hc : Nat.ble m' y
    · rw [hc] at h; simp at h
    · rw [hc] at h; simp at h; subst h
      simp only [VR] at ha; subst ha
      have h1 : (0 : Int) ≤ Int.ofNat m' ∧ Int.ofNat m' ≤ (z : Int) := by constructor <;> simp <;> omega
      simp only [Instr.sliceBound, Sem.run_bind, asIntOf, Sem.run_pure, Result.andThen_ok, if_pos h1]
      simp
  · simp at h
/-- a bound that may be left out -/
def bndo (y d : Nat) : Option AV → Option Nat
  | some v => bnd y v
  | none => some d
def OVR (ρ : Rho) : Option AV → Option Value → Prop
  | none, none => True
  | some v, some V => VR ρ v V
  | _, _ => False
theorem bndo_le {y d m : Nat} {a : Option AV} (h : bndo y d a = some m) (hd : d ≤ y) : m ≤ y := by
  cases a with
  | some v => exact bnd_le h
  | none => simp [bndo] at h; omega
theorem bndo_sound {P : Program} {ρ : Rho} {y z d m : Nat} {a : Option AV} {A : Option Value} (ha : OVR ρ a A) (h : bndo y d a = some m) (hz : y ≤ z) (code : BoundsCode) (w : World) :
    (match A with | some v => Instr.sliceBound v z code | none => pure d : Sem Nat).run P w = .ok m w := by
  cases a with
  | some v =>
    cases A with
    | some V => exact bnd_sound (ρ := ρ) ha h hz code w
    | none => exact False.elim ha
  | none =>
    cases A with
    | some V => exact False.elim ha
    | none => simp [bndo] at h; subst h; rfl
/-- the low, high and greatest bound: (l, h, m); m none: the capacity, which is not known -/
def bnds (len : Nat) (cap : Option Nat) (lo hi mx : Option AV) : Option (Nat × Nat × Option Nat) :=
  match mx with
  | some v => match bnd (cap.getD len) v with
    | some m => match hi with
      | some u => match bnd m u with
        | some h => match bndo h 0 lo with
          | some l => some (l, h, some m)
          | none => none
        | none => none
      | none => none
    | none => none
  | none => match bndo (cap.getD len) len hi with
    | some h => match bndo h 0 lo with
      | some l => some (l, h, cap)
      | none => none
    | none => none
theorem bnds_sound {P : Program} {ρ : Rho} {len : Nat} {cap : Option Nat} {lo hi mx : Option AV} {LO HI MX : Option Value} (h1 : OVR ρ lo LO) (h2 : OVR ρ hi HI) (h3 : OVR ρ mx MX) {l h : Nat} {m : Option Nat}
    (hb : bnds len cap lo hi mx = some (l, h, m)) {C : Nat} (hC : ∀ c, cap = some c → c = C) (hlen : len ≤ C) (s : Bool) (w : World) :
    (Instr.sliceBounds s len C LO HI MX).run P w = .ok (l, h, m.getD C) w ∧ l ≤ h ∧ (m = cap ∨ m.isSome = true) ∧ (∀ x, m = some x → h ≤ x ∧ x ≤ C) ∧ (cap = none → h ≤ len) ∧ (cap = none → ∀ x, m = some x → x ≤ len) := by
  have htop : cap.getD len ≤ C := by
    cases cap with
    | none => exact hlen
    | some c => have := hC c rfl; simp; omega
  have htop2 : len ≤ cap.getD len := by
    cases cap with
    | none => simp
    | some c => have := hC c rfl; simp; omega
  have htop3 : cap = none → cap.getD len = len := fun e => by rw [e]; rfl
  unfold bnds at hb
  cases mx with
  | some mv =>
    cases MX with
    | none => exact False.elim h3
    | some MV =>
      simp only [] at hb
      split at hb
      · rename_i m' hm
        split at hb
        · rename_i hv
          cases HI with
          | none => exact False.elim h2
          | some HV =>
            split at hb
            · rename_i h' hh
              split at hb
              · rename_i l' hl
                simp at hb
                obtain ⟨rfl, rfl, rfl⟩ := hb
                have e1 := bnd_sound (P := P) (ρ := ρ) h3 hm htop (if s then .slice3Acap else .slice3Alen) w
                have e2 := bnd_sound (P := P) (ρ := ρ) h2 hh (Nat.le_refl _) .slice3B w
                have k1 := bnd_le hm
                have k2 := bnd_le hh
                have k3 := bndo_le hl (Nat.zero_le _)
                have e3 := bndo_sound (P := P) h1 hl (Nat.le_refl _) .slice3C w
                refine ⟨?_, k3, .inr rfl, fun x hx => ?_, fun hc => ?_, fun hc x hx => ?_⟩
                · simp only [Instr.sliceBounds, Sem.run_bind, e1, Result.andThen_ok, e2]
                  cases LO with
                  | none => simp only [Sem.run_pure] at e3; injection e3 with e3; subst e3; simp
                  | some LV => simp only [] at e3; simp [e3]
                · simp at hx; omega
                · have := htop3 hc; omega
                · have := htop3 hc; simp at hx; omega
              · simp at hb
            · simp at hb
        · simp at hb
      · simp at hb
  | none =>
    cases MX with
    | some MV => exact False.elim h3
    | none =>
      simp only [] at hb
      split at hb
      · rename_i h' hh
        split at hb
        · rename_i l' hl
          simp at hb
          obtain ⟨rfl, rfl, rfl⟩ := hb
          have k2 := bndo_le hh htop2
          have k3 := bndo_le hl (Nat.zero_le _)
          have e2 := bndo_sound (P := P) h2 hh htop (if s then .sliceAcap else .sliceAlen) w
          have e3 := bndo_sound (P := P) h1 hl (Nat.le_refl _) .sliceB w
          refine ⟨?_, k3, .inl rfl, fun x hx => ?_, fun hc => ?_, fun hc x hx => ?_⟩
          · have hcap : cap.getD C = C := by
              cases cap with
              | none => rfl
              | some c => exact hC c rfl
            simp only [Instr.sliceBounds, Sem.run_bind, Sem.run_pure, Result.andThen_ok]
            cases HI with
            | none =>
              simp only [Sem.run_pure, Result.andThen_ok] at e2 ⊢
              injection e2 with e2; subst e2
              cases LO with
              | none => simp only [Sem.run_pure, Result.andThen_ok] at e3 ⊢; injection e3 with e3; subst e3; simp [hcap]
              | some LV => simp only [] at e3; simp [e3, hcap]
            | some HV =>
              simp only [] at e2
              cases LO with
              | none => simp only [Sem.run_pure] at e3; injection e3 with e3; subst e3; simp [e2, hcap]
              | some LV => simp only [] at e3; simp [e2, e3, hcap]
          · have := hC x hx; rw [hx] at k2; simp at k2; omega
          · have := htop3 hc; omega
          · rw [hc] at hx; simp at hx
        · simp at hb
      · simp at hb

/-- x[lo:hi:mx] of a slice; es: the size of an element -/
def evSlc (es : Nat) (x : AV) (lo hi mx : Option AV) : Option AV := match x with
  | .sl a o len es' cap => cond (Nat.beq es es')
    (match bnds len cap lo hi mx with
     | some (l, h, none) => some (.sl a (o + l * es) (h - l) es none)
     | some (l, h, some m) => cond (cap.isSome || Nat.blt 0 len) (some (.sl a (cond (Nat.beq m l) o (o + l * es)) (h - l) es (some (m - l)))) none
     | none => none) none
  | .nils => match bnds 0 (some 0) lo hi mx with
    | some _ => some .nils
    | none => none
  | _ => none
theorem evSlc_sound {P : Program} {t elem : TypeId} {es : Nat} (ht : P.underlying t = some (.slice elem)) (hs : sz P elem = some es) {ρ : Rho} {x v : AV} {lo hi mx : Option AV} {X : Value} {LO HI MX : Option Value}
    (hx : VR ρ x X) (h1 : OVR ρ lo LO) (h2 : OVR ρ hi HI) (h3 : OVR ρ mx MX) (h : evSlc es x lo hi mx = some v) : ∃ V, VR ρ v V ∧ ∀ w, (Instr.sliceAt t X LO HI MX).run P w = .ok V w := by
  unfold evSlc at h
  split at h
  · rename_i a o len es' cap
    cases he : Nat.beq es es'
    · rw [he] at h; simp at h
    · rw [he, cond_true] at h
      have he' : es = es' := Nat.eq_of_beq_eq_true he
      subst he'
      split at h
      · rename_i l hh hb
        simp at h; subst h
        cases cap with
        | some c =>
          -- an exact capacity never yields an unknown one
          exfalso
          have := (bnds_sound (P := P) h1 h2 h3 hb (C := max c len) (fun c' hc' => by simp at hc'; subst hc'; simp only [VR] at hx; obtain ⟨_, _, hle, _⟩ := hx; omega) (by omega) true default).2.2.1
          rcases this with hm | hm
          · simp at hm
          · simp at hm
        | none =>
          simp only [VR] at hx
          obtain ⟨loc, hr, hes, hroom, hX⟩ := hx
          have hlen : len ≤ (loc.room - o) / es := by
            rw [Nat.le_div_iff_mul_le hes]; omega
          rcases hX with rfl | ⟨rfl, x0, rfl⟩
          · obtain ⟨hrun, hlh, hm, _, hhl, _⟩ := bnds_sound (P := P) h1 h2 h3 hb (C := (loc.room - o) / es) (fun c hc => by simp at hc) hlen true default
            have hhle := hhl rfl
            have hcap : (loc.room - o) / es - l = (loc.room - (o + l * es)) / es := by
              rw [← Nat.sub_sub, Nat.mul_comm l es, Nat.sub_mul_div]
            refine ⟨.slice (some (if (loc.room - o) / es = l then ⟨loc.blk, loc.off + o, none⟩ else ⟨loc.blk, loc.off + o + l * es, none⟩)) (hh - l) ((loc.room - o) / es - l), ?_, fun w => ?_⟩
            · simp only [VR]
              have hmul : (hh - l) * es = hh * es - l * es := Nat.sub_mul _ _ _
              have hle1 : l * es ≤ hh * es := Nat.mul_le_mul_right _ hlh
              have hle2 : hh * es ≤ len * es := Nat.mul_le_mul_right _ hhle
              refine ⟨loc, hr, hes, by omega, ?_⟩
              by_cases hz : (loc.room - o) / es = l
              · have : hh - l = 0 := by omega
                right
                rw [this, if_pos hz]
                exact ⟨rfl, ⟨loc.blk, loc.off + o, none⟩, by rw [hz]; simp⟩
              · left
                rw [if_neg hz, hcap]
                simp [Nat.add_assoc]
            · obtain ⟨hrun, _⟩ := bnds_sound (P := P) h1 h2 h3 hb (C := (loc.room - o) / es) (fun c hc => by simp at hc) hlen true w
              simp only [Instr.sliceAt, Instr.slice, Sem.run_bind, Go.Proofs.YtldmhpdjlgoenaaGreatDoor.Eo.run_underlying ht, Result.andThen_ok, hrun, run_sizeOf hs, Sem.run_pure, Option.getD_none, Option.map_some, addr_add]
              split <;> simp_all
          · obtain ⟨hrun, hlh, hm, _, hhl, _⟩ := bnds_sound (P := P) h1 h2 h3 hb (C := 0) (fun c hc => by simp at hc) (Nat.le_refl _) true default
            have hhle := hhl rfl
            have l0 : l = 0 := by omega
            have h0 : hh = 0 := by omega
            subst l0 h0
            refine ⟨.slice (some x0) 0 0, ?_, fun w => ?_⟩
            · simp only [VR]
              exact ⟨loc, hr, hes, by simp; omega, .inr ⟨by simp, x0, by simp⟩⟩
            · obtain ⟨hrun, _⟩ := bnds_sound (P := P) h1 h2 h3 hb (C := 0) (fun c hc => by simp at hc) (Nat.le_refl _) true w
              simp only [Instr.sliceAt, Instr.slice, Sem.run_bind, Go.Proofs.YtldmhpdjlgoenaaGreatDoor.Eo.run_underlying ht, Result.andThen_ok, hrun, run_sizeOf hs, Sem.run_pure, Option.getD_none, if_true]
      · rename_i l hh m hb
        cases hcc : (cap.isSome || Nat.blt 0 len)
        · rw [hcc] at h; simp at h
        · rw [hcc, cond_true] at h
          simp only [Option.some.injEq] at h
          have key : ∃ loc C, ρ a = some loc ∧ X = .slice (some ⟨loc.blk, loc.off + o, none⟩) len C ∧ (∀ c, cap = some c → c = C) ∧ len ≤ C := by
            cases cap with
            | some c =>
              simp only [VR] at hx
              obtain ⟨loc, hr, hle, hX⟩ := hx
              exact ⟨loc, c, hr, hX, fun c' hc' => by simp at hc'; exact hc'.symm, hle⟩
            | none =>
              simp only [VR] at hx
              obtain ⟨loc, hr, hes, hroom, hX⟩ := hx
              simp [blt_iff] at hcc
              rcases hX with hX | ⟨h0, _⟩
              · exact ⟨loc, _, hr, hX, fun c hc => by simp at hc, by rw [Nat.le_div_iff_mul_le hes]; omega⟩
              · omega
          obtain ⟨loc, C, hr, rfl, hC, hlen⟩ := key
          obtain ⟨_, hlh, _, hmx, _⟩ := bnds_sound (P := P) h1 h2 h3 hb hC hlen true default
          have hm2 := hmx m rfl
          refine ⟨.slice (some (if m = l then ⟨loc.blk, loc.off + o, none⟩ else ⟨loc.blk, loc.off + o + l * es, none⟩)) (hh - l) (m - l), ?_, fun w => ?_⟩
          · subst h
            simp only [VR]
            refine ⟨loc, hr, by omega, ?_⟩
            rw [beq_iff]
            by_cases e : m = l <;> simp [e, Nat.add_assoc]
          · obtain ⟨hrun, _⟩ := bnds_sound (P := P) h1 h2 h3 hb hC hlen true w
            simp only [Instr.sliceAt, Instr.slice, Sem.run_bind, Go.Proofs.YtldmhpdjlgoenaaGreatDoor.Eo.run_underlying ht, Result.andThen_ok, hrun, run_sizeOf hs, Sem.run_pure, Option.getD_some, Option.map_some, addr_add]
            split <;> simp_all
      · simp at h
  · simp only [VR] at hx; subst hx
    split at h
    · rename_i b hb
      obtain ⟨l, hh, m⟩ := b
      simp at h; subst h
      refine ⟨.slice none 0 0, by simp [VR], fun w => ?_⟩
      obtain ⟨hrun, hlh, hm, hx, _, _⟩ := bnds_sound (P := P) h1 h2 h3 hb (C := 0) (fun c hc => by simpa using hc.symm) (Nat.le_refl _) true w
      have hm0 : m.getD 0 = 0 ∧ hh = 0 := by
        rcases hm with rfl | hm
        · have := hx 0 rfl; simp; omega
        · cases m with
          | none => simp at hm
          | some x => have := hx x rfl; simp; omega
      have hl0 : l = 0 := by omega
      simp only [Instr.sliceAt, Instr.slice, Sem.run_bind, Go.Proofs.YtldmhpdjlgoenaaGreatDoor.Eo.run_underlying ht, Result.andThen_ok, hrun, run_sizeOf hs, Sem.run_pure, hm0.1, hm0.2, hl0]
      simp
    · simp at h
  · simp at h
end
end Go.Proofs.YtldmhpdjlgoenaaGreatDoor.Eo
