/-
  An evaluator of Go code over relative heaps, part D: arithmetic, comparison, structs.
-/
import Derived.Test.YtnmlfhogolonoaaEvC
import Derived.Laws.StructEq
import Derived.IntWalk
import Derived.ChangeKeysEq
set_option linter.unusedVariables false
set_option linter.unusedSimpArgs false
namespace Go.Proofs.Ytnmlfhogolonoaa.Ev
noncomputable section

def iLt (x y : Int) : Bool := match x, y with
  | .ofNat a, .ofNat b => Nat.blt a b
  | .ofNat _, .negSucc _ => false
  | .negSucc _, .ofNat _ => true
  | .negSucc a, .negSucc b => Nat.blt b a
def iEq (x y : Int) : Bool := match x, y with
  | .ofNat a, .ofNat b => Nat.beq a b
  | .negSucc a, .negSucc b => Nat.beq a b
  | _, _ => false
theorem blt_iff (a b : Nat) : Nat.blt a b = decide (a < b) := by
  show Nat.ble (a + 1) b = _
  rw [Bool.eq_iff_iff, Nat.ble_eq]; simp; omega
theorem beq_iff (a b : Nat) : Nat.beq a b = decide (a = b) := by
  rw [Bool.eq_iff_iff, Nat.beq_eq]; simp
theorem iLt_eq (x y : Int) : iLt x y = decide (x < y) := by
  unfold iLt
  split
  · rw [blt_iff]; rw [Bool.eq_iff_iff]; simp
  · rename_i a b; rw [Bool.eq_iff_iff]; simp; omega
  · rename_i a b; rw [Bool.eq_iff_iff]; simp; omega
  · rename_i a b; rw [blt_iff, Bool.eq_iff_iff]; simp; omega
theorem iEq_eq (x y : Int) : iEq x y = (x == y) := by
  unfold iEq
  split
  · rename_i a b; rw [beq_iff, Bool.eq_iff_iff]; simp only [decide_eq_true_eq, beq_iff_eq]; exact ⟨fun h => by rw [h], fun h => by injection h⟩
  · rename_i a b; rw [beq_iff, Bool.eq_iff_iff]; simp only [decide_eq_true_eq, beq_iff_eq]; exact ⟨fun h => by rw [h], fun h => by injection h⟩
  · rename_i h1 h2
    cases x <;> cases y <;> first
      | (rename_i a b; exact absurd rfl (h1 a b rfl))
      | (rename_i a b; exact absurd rfl (h2 a b rfl))
      | (rename_i a b; symm; rw [beq_eq_false_iff_ne]; intro hh; cases hh)
/-- the wrap, at once where nothing wraps -/
def fw (k : IntKind) (n : Int) : Int := match n with
  | .ofNat m => cond (Nat.blt m (match k with | .i8 => 128 | .u8 => 256 | .i16 => 32768 | .u16 => 65536 | .i32 => 2147483648 | .u32 => 4294967296 | .i64 => 9223372036854775808 | .u64 => 18446744073709551616)) (.ofNat m) (k.wrap (.ofNat m))
  | .negSucc m => cond (Nat.blt m (match k with | .i8 => 128 | .i16 => 32768 | .i32 => 2147483648 | .i64 => 9223372036854775808 | _ => 0)) (.negSucc m) (k.wrap (.negSucc m))
theorem wrap_in (k : IntKind) (n : Int) (h : match k with | .i8 => -128 ≤ n ∧ n ≤ 127 | .u8 => 0 ≤ n ∧ n ≤ 255 | .i16 => -32768 ≤ n ∧ n ≤ 32767 | .u16 => 0 ≤ n ∧ n ≤ 65535 | .i32 => -2147483648 ≤ n ∧ n ≤ 2147483647 | .u32 => 0 ≤ n ∧ n ≤ 4294967295 | .i64 => -9223372036854775808 ≤ n ∧ n ≤ 9223372036854775807 | .u64 => 0 ≤ n ∧ n ≤ 18446744073709551615) : k.wrap n = n := by
  cases k
  · exact IntWalk.i8_in n h
  · exact IntWalk.i16_in n h
  · exact IntWalk.i32_in n h
  · exact IntWalk.i64_in n h
  · exact IntWalk.u8_in n h
  · exact IntWalk.u16_in n h
  · exact IntWalk.u32_in n h
  · exact IntWalk.u64_in n h
theorem fw_eq (k : IntKind) (n : Int) : fw k n = k.wrap n := by
  unfold fw
  split
  · rename_i m
    cases h : Nat.blt m _
    · rfl
    · rw [blt_iff, decide_eq_true_eq] at h
      show (m : Int) = k.wrap (m : Int)
      refine (wrap_in k _ ?_).symm
      cases k <;> (dsimp only at h ⊢; omega)
  · rename_i m
    cases h : Nat.blt m _
    · rfl
    · rw [blt_iff, decide_eq_true_eq] at h
      show Int.negSucc m = k.wrap (Int.negSucc m)
      refine (wrap_in k _ ?_).symm
      cases k <;> (dsimp only at h ⊢; omega)

def evInt (op : BinOp) (k : IntKind) (x y : Int) : Option AV := match op with
  | .add => some (.int k (fw k (Int.add x y)))
  | .sub => some (.int k (fw k (Int.sub x y)))
  | .mul => some (.int k (fw k (Int.mul x y)))
  | .quo => cond (iEq y 0) none (some (.int k (fw k (Int.tdiv x y))))
  | .rem => cond (iEq y 0) none (some (.int k (Int.tmod x y)))
  | .and => some (.int k (fw k (BitVec.ofInt k.bits x &&& BitVec.ofInt k.bits y).toNat))
  | .or => some (.int k (fw k (BitVec.ofInt k.bits x ||| BitVec.ofInt k.bits y).toNat))
  | .xor => some (.int k (fw k (BitVec.ofInt k.bits x ^^^ BitVec.ofInt k.bits y).toNat))
  | .andNot => some (.int k (fw k (BitVec.ofInt k.bits x &&& ~~~ BitVec.ofInt k.bits y).toNat))
  | .eql => some (.bool (iEq x y))
  | .neq => some (.bool (!iEq x y))
  | .lss => some (.bool (iLt x y))
  | .leq => some (.bool (!iLt y x))
  | .gtr => some (.bool (iLt y x))
  | .geq => some (.bool (!iLt x y))
  | _ => none
theorem evInt_sound {P : Program} {op : BinOp} {k : IntKind} {x y : Int} {v : AV} (h : evInt op k x y = some v) {ρ : Rho} : ∃ V, VR ρ v V ∧ one V = true ∧ ∀ t w, (binOp op t (.int k x) (.int k y)).run P w = .ok V w := by
  unfold evInt at h
  have hle : ∀ a b : Int, (!decide (b < a)) = decide (a ≤ b) := fun a b => by rw [Bool.eq_iff_iff]; simp
  cases op <;> simp only [fw_eq, iEq_eq, iLt_eq, hle] at h
  case quo =>
    cases hy : (y == (0 : Int))
    · rw [hy] at h
      simp at h; subst h
      have : ¬ y = 0 := by simpa using hy
      exact ⟨_, rfl, rfl, fun t w => by simp [binOp, Op.intDiv, this]⟩
    · rw [hy] at h; simp at h
  case rem =>
    cases hy : (y == (0 : Int))
    · rw [hy] at h
      simp at h; subst h
      have : ¬ y = 0 := by simpa using hy
      exact ⟨_, rfl, rfl, fun t w => by simp [binOp, Op.intDiv, this]⟩
    · rw [hy] at h; simp at h
  all_goals first
    | (simp at h; done)
    | (simp only [Option.some.injEq] at h; subst h; exact ⟨_, rfl, rfl, fun t w => by simp [binOp, Op.intArith, Op.intBits, Op.intCmp, bne, Int.add_def, Int.mul_def] <;> rfl⟩)

/-! ### Parts of a struct, equality -/
def partA (P : Program) (t : TypeId) (l : List AV) (off : Nat) : Option AV :=
  match aggOf P t with
  | some none => l[off]?
  | some (some n) => cond (Nat.ble (off + n) l.length) (some (.agg ((l.drop off).take n))) none
  | none => none
theorem partA_sound {P : Program} {t : TypeId} {l : List AV} {off : Nat} {v : AV} (h : partA P t l off = some v) {ρ : Rho} {L : List Value} (hl : VRs ρ l L) :
    ∃ V, VR ρ v V ∧ ∀ w, (part t L.toArray off).run P w = .ok V w := by
  unfold partA at h
  split at h
  · rename_i ha
    obtain ⟨V, h1, h2⟩ := hl.get h
    exact ⟨V, h2, fun w => by simp [part, run_isAgg ha, h1]⟩
  · rename_i n ha
    cases hc : Nat.ble (off + n) l.length
    · rw [hc] at h; simp at h
    · rw [hc] at h
      simp at h; subst h
      refine ⟨.agg ((L.drop off).take n).toArray, ⟨_, (hl.drop off).take n, rfl⟩, fun w => ?_⟩
      simp only [part, Sem.run_bind, run_isAgg ha, Result.andThen_ok, Option.isSome, if_true, run_sizeOf (aggOf_size ha), Sem.run_pure]
      simp [List.extract_eq_take_drop]
  · simp at h

/-- equality of strings, for the kernel -/
def bsEq : List UInt8 → List UInt8 → Bool
  | [], [] => true
  | a :: l, b :: m => match Nat.beq a.toNat b.toNat with
    | true => bsEq l m
    | false => false
  | _, _ => false
def strEq (x y : ByteArray) : Bool := bsEq x.data.toList y.data.toList
theorem bsEq_eq : ∀ l m : List UInt8, bsEq l m = (l == m)
  | [], [] => rfl
  | [], _ :: _ => rfl
  | _ :: _, [] => rfl
  | a :: l, b :: m => by
    unfold bsEq
    rw [List.cons_beq_cons, ← bsEq_eq l m]
    by_cases h : a = b
    · subst h; simp
    · have hn : ¬ a.toNat = b.toNat := fun e => h (UInt8.toNat_inj.1 e)
      have hb : Nat.beq a.toNat b.toNat = false := by
        cases hh : Nat.beq a.toNat b.toNat
        · rfl
        · exact absurd (Nat.eq_of_beq_eq_true hh) hn
      simp [hb, h]
theorem strEq_toList (x y : ByteArray) : strEq x y = (x.toList == y.toList) := by
  unfold strEq
  rw [bsEq_eq, ByteArray.toList_eq, ByteArray.toList_eq]
theorem strEq_eq (x y : ByteArray) : strEq x y = (x == y) := by rw [strEq_toList, beq_toListBytes]

def eqFs (rec : TypeId → AV → AV → Option Bool) (P : Program) (xs ys : List AV) : List Field → Option Bool
  | [] => some true
  | f :: fs => cond (decide (f.name ≠ "_"))
      (match partA P f.type xs f.offset, partA P f.type ys f.offset with
       | some a, some b => match rec f.type a b with
         | some true => eqFs rec P xs ys fs
         | some false => some false
         | none => none
       | _, _ => none)
      (eqFs rec P xs ys fs)
def eqIs (rec : TypeId → AV → AV → Option Bool) (P : Program) (e : TypeId) (c : Nat) (xs ys : List AV) : List Nat → Option Bool
  | [] => some true
  | i :: is => match partA P e xs (i * c), partA P e ys (i * c) with
       | some a, some b => match rec e a b with
         | some true => eqIs rec P e c xs ys is
         | some false => some false
         | none => none
       | _, _ => none
def eqA (P : Program) : Nat → TypeId → AV → AV → Option Bool
  | 0, _, _, _ => none
  | d + 1, t, x, y => match P.underlying t with
    | some .bool => match x, y with | .bool a, .bool b => some (a == b) | _, _ => none
    | some (.int _) => match x, y with | .int k a, .int k' b => cond (decide (k = k')) (some (iEq a b)) none | _, _ => none
    | some .string => match x, y with | .str a, .str b => some (strEq a b) | _, _ => none
    | some (.struct fs) => match x, y with | .agg xs, .agg ys => cond (P.stoodInHeld t) none (eqFs (eqA P d) P xs ys fs.toList) | _, _ => none
    | some (.array n e) => match x, y with
      | .agg xs, .agg ys => match P.info? e with
        | some _ => eqIs (eqA P d) P e (P.cellsOf e) xs ys (List.range n)
        | none => none
      | _, _ => none
    | _ => none
theorem eqFs_sound {P : Program} {d : Nat} {rec : TypeId → AV → AV → Option Bool}
    (hrec : ∀ t a b r, rec t a b = some r → ∀ (ρ : Rho) (A B : Value), VR ρ a A → VR ρ b B → ∀ w, (Op.equalIn d t A B).run P w = .ok r w)
    {xs ys : List AV} {ρ : Rho} {XS YS : List Value} (hx : VRs ρ xs XS) (hy : VRs ρ ys YS) : ∀ {fs : List Field} {r : Bool}, eqFs rec P xs ys fs = some r → ∀ w, (Op.eqFields d XS.toArray YS.toArray fs).run P w = .ok r w
  | [], r, h, w => by simp [eqFs] at h; subst h; simp [Op.eqFields]
  | f :: fs, r, h, w => by
    unfold eqFs at h
    unfold Op.eqFields
    by_cases hn : f.name ≠ "_"
    · rw [if_pos hn]
      rw [decide_eq_true hn, cond_true] at h
      split at h
      · rename_i a b ha hb
        obtain ⟨A, h1, h2⟩ := partA_sound ha hx
        obtain ⟨B, h3, h4⟩ := partA_sound hb hy
        split at h
        · rename_i hr
          have := hrec _ _ _ _ hr _ _ _ h1 h3 w
          simp only [Sem.run_bind, h2, h4, Result.andThen_ok, this, Bool.not_true, Bool.false_eq_true, if_false]
          exact eqFs_sound hrec hx hy h w
        · rename_i hr
          simp at h; subst h
          have := hrec _ _ _ _ hr _ _ _ h1 h3 w
          simp [h2, h4, this]
        · simp at h
      · simp at h
    · rw [if_neg hn]
      rw [decide_eq_false hn] at h
      exact eqFs_sound hrec hx hy h w
theorem eqIs_sound {P : Program} {d : Nat} {rec : TypeId → AV → AV → Option Bool}
    (hrec : ∀ t a b r, rec t a b = some r → ∀ (ρ : Rho) (A B : Value), VR ρ a A → VR ρ b B → ∀ w, (Op.equalIn d t A B).run P w = .ok r w)
    {xs ys : List AV} {ρ : Rho} {XS YS : List Value} (hx : VRs ρ xs XS) (hy : VRs ρ ys YS) {e : TypeId} {c : Nat} : ∀ {is : List Nat} {r : Bool}, eqIs rec P e c xs ys is = some r → ∀ w, (Op.eqItems d e c XS.toArray YS.toArray is).run P w = .ok r w
  | [], r, h, w => by simp [eqIs] at h; subst h; simp [Op.eqItems]
  | i :: is, r, h, w => by
    unfold eqIs at h
    unfold Op.eqItems
    split at h
    · rename_i a b ha hb
      obtain ⟨A, h1, h2⟩ := partA_sound ha hx
      obtain ⟨B, h3, h4⟩ := partA_sound hb hy
      split at h
      · rename_i hr
        have := hrec _ _ _ _ hr _ _ _ h1 h3 w
        simp only [Sem.run_bind, h2, h4, Result.andThen_ok, this, Bool.not_true, Bool.false_eq_true, if_false]
        exact eqIs_sound hrec hx hy h w
      · rename_i hr
        simp at h; subst h
        have := hrec _ _ _ _ hr _ _ _ h1 h3 w
        simp [h2, h4, this]
      · simp at h
    · simp at h
theorem eqA_sound {P : Program} : ∀ (d : Nat) (t : TypeId) (a b : AV) (r : Bool), eqA P d t a b = some r → ∀ (ρ : Rho) (A B : Value), VR ρ a A → VR ρ b B → ∀ w, (Op.equalIn d t A B).run P w = .ok r w
  | 0, t, a, b, r, h => by simp [eqA] at h
  | d + 1, t, a, b, r, h => by
    intro ρ A B hA hB w
    unfold eqA at h
    split at h
    · rename_i hu
      split at h
      · simp only [VR] at hA hB; subst hA hB
        simp at h; subst h
        simp [Op.equalIn, Go.Proofs.Ytnmlfhogolonoaa.Ev.run_underlying hu]
      · simp at h
    · rename_i hu
      split at h
      · rename_i k a k' b
        simp only [VR] at hA hB; subst hA hB
        by_cases hk : k = k'
        · simp [hk] at h; subst h
          simp [Op.equalIn, Go.Proofs.Ytnmlfhogolonoaa.Ev.run_underlying hu, hk, iEq_eq]
        · simp [hk] at h
      · simp at h
    · rename_i hu
      split at h
      · simp only [VR] at hA hB; subst hA hB
        simp at h; subst h
        simp [Op.equalIn, Go.Proofs.Ytnmlfhogolonoaa.Ev.run_underlying hu, strEq_eq]
      · simp at h
    · rename_i fs hu
      split at h
      · rename_i xs ys
        simp only [VR] at hA hB
        obtain ⟨XS, h1, rfl⟩ := hA
        obtain ⟨YS, h2, rfl⟩ := hB
        cases hst : P.stoodInHeld t
        · rw [hst] at h
          simp only [cond_false] at h
          have hf : P.fieldsOf t = fs := by simp [Program.fieldsOf, hu]
          rw [run_equalIn_struct w d t _ _ (by rw [hf]; exact hu) hst, hf]
          exact eqFs_sound (fun t a b r h => eqA_sound d t a b r h) h1 h2 h w
        · rw [hst] at h; simp at h
      · simp at h
    · rename_i n e hu
      split at h
      · rename_i xs ys
        simp only [VR] at hA hB
        obtain ⟨XS, h1, rfl⟩ := hA
        obtain ⟨YS, h2, rfl⟩ := hB
        split at h
        · rename_i i hi
          rw [run_equalIn_array w d _ _ hu hi]
          exact eqIs_sound (fun t a b r h => eqA_sound d t a b r h) h1 h2 h w
        · simp at h
      · simp at h
    · simp at h
end
end Go.Proofs.Ytnmlfhogolonoaa.Ev
