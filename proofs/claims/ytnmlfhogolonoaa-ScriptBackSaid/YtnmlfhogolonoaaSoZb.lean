/-
  slices.Repeat of one number, and math/bits.Mul.
-/
import Derived.Test.YtnmlfhogolonoaaSoZa
set_option linter.unusedVariables false
set_option linter.unusedSimpArgs false
namespace Go.Proofs.Ytnmlfhogolonoaa
open Go.Proofs.Ytnmlfhogolonoaa.Eo
open Nat renaming reduceAdd → zA, reduceMul → zM, reduceLT → zL, reduceEqDiff → zE, reduceLeDiff → zD
open Int renaming reduceAdd → yA, reduceLE → yE, reduceLT → yL, reduceEq → yQ, reduceToNat → yT
noncomputable section
/-! 68: slices.Repeat[[]int,int] -/
@[go_sem] def c68_s0 : List SQ := [⟨some 4, none, .p (.mv (.c .nils))⟩]
@[go_sem] def c68_s1 : List SQ := [⟨some 9, none, .p (.mv (.t 1))⟩, ⟨some 10, none, .p (.bin .lss 3 false true (.t 9) (.c (.int .i64 0)))⟩]
@[go_sem] def c68_s2 : List SQ := [⟨some 13, none, .p (.mv (.t 0))⟩, ⟨some 14, none, .p (.lenv (.t 13))⟩, ⟨some 15, none, .p (.conv .u64 (.t 14))⟩, ⟨some 16, none, .p (.mv (.t 1))⟩, ⟨some 17, none, .p (.conv .u64 (.t 16))⟩, ⟨some 18, none, .cv (.c (.fn (.func 72) [] [])) [(.t 15), (.t 17)]⟩, ⟨some 12, none, .p (.mv (.t 18))⟩, ⟨some 19, none, .p (.extr (.t 12) 0)⟩, ⟨some 20, none, .p (.extr (.t 12) 1)⟩, ⟨some 5, none, .p (.mv (.t 19))⟩, ⟨some 6, none, .p (.mv (.t 20))⟩]
@[go_sem] def c68_s3 : List SQ := [⟨some 21, none, .p (.mv (.t 5))⟩, ⟨some 22, none, .p (.bin .gtr 107 false true (.t 21) (.c (.int .u64 0)))⟩, ⟨some 23, none, .p (.mv (.t 22))⟩, ⟨some 24, some (23, false), .p (.mv (.t 6))⟩, ⟨some 25, some (23, false), .p (.bin .gtr 107 false true (.t 24) (.c (.int .u64 9223372036854775807)))⟩, ⟨some 26, none, .p (.pick (.t 23) (.c (.bool true)) (.t 25))⟩]
@[go_sem] def c68_s4 : List SQ := [⟨some 28, none, .p (.mv (.t 6))⟩, ⟨some 29, none, .p (.conv .i64 (.t 28))⟩, ⟨some 30, none, .n (.mksl 3 1 8 [.int .i64 0] (.t 29) (.t 29))⟩, ⟨some 7, none, .p (.mv (.t 30))⟩]
@[go_sem] def c68_s5 : List SQ := [⟨some 31, none, .p (.mv (.t 7))⟩, ⟨some 32, none, .p (.mv (.t 0))⟩, ⟨some 33, none, .w ⟨1, (.t 31), (.t 32)⟩⟩, ⟨some 8, none, .p (.mv (.t 33))⟩]
@[go_sem] def c68_s6 : List SQ := [⟨some 34, none, .p (.mv (.t 8))⟩, ⟨some 35, none, .p (.mv (.t 7))⟩, ⟨some 36, none, .p (.lenv (.t 35))⟩, ⟨some 37, none, .p (.bin .lss 3 false false (.t 34) (.t 36))⟩]
@[go_sem] def c68_p7 : List (List DQ × Option DQ) := [([⟨0, [(8, none)], none, .p (.mv (.t 8))⟩, ⟨1, [(7, none)], none, .p (.mv (.t 7))⟩, ⟨2, [(8, none)], none, .p (.mv (.t 8))⟩, ⟨3, [(39, (some 1)), (40, (some 2))], none, .p (.slc 1 (.t 39) (some (.t 40)) none none)⟩, ⟨4, [(7, none)], none, .p (.mv (.t 7))⟩, ⟨5, [(8, none)], none, .p (.mv (.t 8))⟩, ⟨6, [(42, (some 4)), (43, (some 5))], none, .p (.slc 1 (.t 42) none (some (.t 43)) none)⟩], (some ⟨7, [(41, (some 3)), (44, (some 6))], none, .w ⟨1, (.t 41), (.t 44)⟩⟩)), ([⟨8, [(38, (some 0)), (45, (some 7))], none, .p (.bin .add 3 false false (.t 38) (.t 45))⟩, ⟨9, [(46, (some 8))], none, .p (.mv (.t 46))⟩], none)]
def c68_l8 : CC := (.seq (.seq (.ops c68_s6) (.cond (.t 37) .skip (.exit 0))) (.block 1 (.drw ⟨c68_p7, [(0, 38), (1, 39), (2, 40), (3, 41), (4, 42), (5, 43), (6, 44), (7, 45), (8, 46), (9, 8)], []⟩)))
@[go_sem] def c68_s9 : List SQ := [⟨some 47, none, .p (.mv (.t 7))⟩, ⟨some 4, none, .p (.mv (.t 47))⟩]
@[go_sem] def c68 : CF := ⟨2, (.seq (.ops c68_s0) (.seq (.seq (.ops c68_s1) (.cond (.t 10) .stuck .skip)) (.seq (.ops c68_s2) (.seq (.seq (.ops c68_s3) (.cond (.t 26) .stuck .skip)) (.seq (.ops c68_s4) (.seq (.ops c68_s5) (.seq (.block 0 (.loop c68_l8)) (.seq (.ops c68_s9) .ret)))))))), [.tmp 4]⟩
theorem c68_eq : cCF Try.prog 68 2 = some c68 := by kernel_rfl
/-! 72: math/bits.Mul -/
@[go_sem] def c72_s0 : List SQ := [⟨some 4, none, .p (.mv (.c (.int .u64 0)))⟩, ⟨some 5, none, .p (.mv (.c (.int .u64 0)))⟩]
@[go_sem] def c72_s1 : List SQ := [⟨some 11, none, .p (.mv (.t 0))⟩, ⟨some 12, none, .p (.conv .u32 (.t 11))⟩, ⟨some 13, none, .p (.mv (.t 1))⟩, ⟨some 14, none, .p (.conv .u32 (.t 13))⟩, ⟨some 15, none, .cv (.c (.fn (.func 73) [] [])) [(.t 12), (.t 14)]⟩, ⟨some 10, none, .p (.mv (.t 15))⟩, ⟨some 16, none, .p (.extr (.t 10) 0)⟩, ⟨some 17, none, .p (.extr (.t 10) 1)⟩, ⟨some 6, none, .p (.mv (.t 16))⟩, ⟨some 7, none, .p (.mv (.t 17))⟩]
@[go_sem] def c72_s2 : List SQ := [⟨some 18, none, .p (.mv (.t 6))⟩, ⟨some 19, none, .p (.conv .u64 (.t 18))⟩, ⟨some 20, none, .p (.mv (.t 7))⟩, ⟨some 21, none, .p (.conv .u64 (.t 20))⟩, ⟨some 4, none, .p (.mv (.t 19))⟩, ⟨some 5, none, .p (.mv (.t 21))⟩]
@[go_sem] def c72_s3 : List SQ := [⟨some 23, none, .p (.mv (.t 0))⟩, ⟨some 24, none, .p (.mv (.t 1))⟩, ⟨some 25, none, .cv (.c (.fn (.func 74) [] [])) [(.t 23), (.t 24)]⟩, ⟨some 22, none, .p (.mv (.t 25))⟩, ⟨some 26, none, .p (.extr (.t 22) 0)⟩, ⟨some 27, none, .p (.extr (.t 22) 1)⟩, ⟨some 8, none, .p (.mv (.t 26))⟩, ⟨some 9, none, .p (.mv (.t 27))⟩]
@[go_sem] def c72_s4 : List SQ := [⟨some 28, none, .p (.mv (.t 8))⟩, ⟨some 29, none, .p (.mv (.t 9))⟩, ⟨some 4, none, .p (.mv (.t 28))⟩, ⟨some 5, none, .p (.mv (.t 29))⟩]
@[go_sem] def c72 : CF := ⟨2, (.seq (.ops c72_s0) (.seq (.cond (.c (.bool false)) (.seq (.ops c72_s1) (.seq (.ops c72_s2) .ret)) .skip) (.seq (.ops c72_s3) (.seq (.ops c72_s4) .ret)))), [.tmp 4, .tmp 5]⟩
theorem c72_eq : cCF Try.prog 72 2 = some c72 := by kernel_rfl
/-! 74: math/bits.Mul64 -/
@[go_sem] def c74_s0 : List SQ := [⟨some 4, none, .p (.mv (.c (.int .u64 0)))⟩, ⟨some 5, none, .p (.mv (.c (.int .u64 0)))⟩]
@[go_sem] def c74_s1 : List SQ := [⟨some 14, none, .p (.mv (.t 0))⟩, ⟨some 15, none, .p (.bin .and 43 false true (.t 14) (.c (.int .u64 4294967295)))⟩, ⟨some 6, none, .p (.mv (.t 15))⟩]
@[go_sem] def c74_s2 : List SQ := [⟨some 16, none, .p (.mv (.t 0))⟩, ⟨some 17, none, .p (.bin .shr 43 false true (.t 16) (.c (.int .u64 32)))⟩, ⟨some 7, none, .p (.mv (.t 17))⟩]
@[go_sem] def c74_s3 : List SQ := [⟨some 18, none, .p (.mv (.t 1))⟩, ⟨some 19, none, .p (.bin .and 43 false true (.t 18) (.c (.int .u64 4294967295)))⟩, ⟨some 8, none, .p (.mv (.t 19))⟩]
@[go_sem] def c74_s4 : List SQ := [⟨some 20, none, .p (.mv (.t 1))⟩, ⟨some 21, none, .p (.bin .shr 43 false true (.t 20) (.c (.int .u64 32)))⟩, ⟨some 9, none, .p (.mv (.t 21))⟩]
@[go_sem] def c74_s5 : List SQ := [⟨some 22, none, .p (.mv (.t 6))⟩, ⟨some 23, none, .p (.mv (.t 8))⟩, ⟨some 24, none, .p (.bin .mul 43 false false (.t 22) (.t 23))⟩, ⟨some 10, none, .p (.mv (.t 24))⟩]
@[go_sem] def c74_s6 : List SQ := [⟨some 25, none, .p (.mv (.t 7))⟩, ⟨some 26, none, .p (.mv (.t 8))⟩, ⟨some 27, none, .p (.bin .mul 43 false false (.t 25) (.t 26))⟩, ⟨some 28, none, .p (.mv (.t 10))⟩, ⟨some 29, none, .p (.bin .shr 43 false true (.t 28) (.c (.int .u64 32)))⟩, ⟨some 30, none, .p (.bin .add 43 false false (.t 27) (.t 29))⟩, ⟨some 11, none, .p (.mv (.t 30))⟩]
@[go_sem] def c74_s7 : List SQ := [⟨some 31, none, .p (.mv (.t 11))⟩, ⟨some 32, none, .p (.bin .and 43 false true (.t 31) (.c (.int .u64 4294967295)))⟩, ⟨some 12, none, .p (.mv (.t 32))⟩]
@[go_sem] def c74_s8 : List SQ := [⟨some 33, none, .p (.mv (.t 11))⟩, ⟨some 34, none, .p (.bin .shr 43 false true (.t 33) (.c (.int .u64 32)))⟩, ⟨some 13, none, .p (.mv (.t 34))⟩]
@[go_sem] def c74_s9 : List SQ := [⟨some 35, none, .p (.mv (.t 12))⟩, ⟨some 36, none, .p (.mv (.t 6))⟩, ⟨some 37, none, .p (.mv (.t 9))⟩, ⟨some 38, none, .p (.bin .mul 43 false false (.t 36) (.t 37))⟩, ⟨some 39, none, .p (.bin .add 43 false false (.t 35) (.t 38))⟩, ⟨some 12, none, .p (.mv (.t 39))⟩]
@[go_sem] def c74_s10 : List SQ := [⟨some 40, none, .p (.mv (.t 7))⟩, ⟨some 41, none, .p (.mv (.t 9))⟩, ⟨some 42, none, .p (.bin .mul 43 false false (.t 40) (.t 41))⟩, ⟨some 43, none, .p (.mv (.t 13))⟩, ⟨some 44, none, .p (.bin .add 43 false false (.t 42) (.t 43))⟩, ⟨some 45, none, .p (.mv (.t 12))⟩, ⟨some 46, none, .p (.bin .shr 43 false true (.t 45) (.c (.int .u64 32)))⟩, ⟨some 47, none, .p (.bin .add 43 false false (.t 44) (.t 46))⟩, ⟨some 4, none, .p (.mv (.t 47))⟩]
@[go_sem] def c74_s11 : List SQ := [⟨some 48, none, .p (.mv (.t 0))⟩, ⟨some 49, none, .p (.mv (.t 1))⟩, ⟨some 50, none, .p (.bin .mul 43 false false (.t 48) (.t 49))⟩, ⟨some 5, none, .p (.mv (.t 50))⟩]
@[go_sem] def c74 : CF := ⟨2, (.seq (.ops c74_s0) (.seq (.ops c74_s1) (.seq (.ops c74_s2) (.seq (.ops c74_s3) (.seq (.ops c74_s4) (.seq (.ops c74_s5) (.seq (.ops c74_s6) (.seq (.ops c74_s7) (.seq (.ops c74_s8) (.seq (.ops c74_s9) (.seq (.ops c74_s10) (.seq (.ops c74_s11) .ret)))))))))))), [.tmp 4, .tmp 5]⟩
theorem c74_eq : cCF Try.prog 74 2 = some c74 := by kernel_rfl

theorem and_mask {n : Nat} (h : n < 4294967296) : andI .u64 (n : Int) 4294967295 = (n : Int) := by
  unfold andI
  have h64 : IntKind.u64.bits = 64 := rfl
  have e : (BitVec.ofInt IntKind.u64.bits (n : Int) &&& BitVec.ofInt IntKind.u64.bits 4294967295).toNat = n := by
    rw [BitVec.toNat_and, BitVec.ofInt_natCast, show (4294967295 : Int) = ((4294967295 : Nat) : Int) from rfl, BitVec.ofInt_natCast, BitVec.toNat_ofNat, BitVec.toNat_ofNat, h64,
      Nat.mod_eq_of_lt (by omega), Nat.mod_eq_of_lt (by decide), show (4294967295 : Nat) = 2 ^ 32 - 1 from rfl, Nat.and_two_pow_sub_one_eq_mod, Nat.mod_eq_of_lt (by omega)]
  rw [e]
  exact fwU (by omega) (by omega)
theorem w74 (P : Program) {call : CallE} {h : H} {n : Nat} (hn : n < 4294967296) : WF P call c74 [.int .u64 1, .int .u64 (n : Int)] h fun v h' => v = .tup [.int .u64 0, .int .u64 (n : Int)] ∧ h' = h := by
  have e1 : andI .u64 1 4294967295 = 1 := and_mask (n := 1) (by decide)
  have e2 := and_mask hn
  have e3 : andI .u64 0 4294967295 = 0 := and_mask (n := 0) (by decide)
  have e4 : fw .u64 (n : Int) = (n : Int) := fwU (by omega) (by omega)
  have e5 : fw .u64 0 = 0 := fwU (by decide) (by decide)
  have e6 : (n : Int).fdiv (2 ^ 32) = 0 := by rw [Int.fdiv_eq_ediv_of_nonneg _ (by decide)]; omega
  have e7 : (1 : Int).fdiv (2 ^ 32) = 0 := rfl
  have e8 : (0 : Int).fdiv (2 ^ 32) = 0 := rfl
  simp only [go_sem, ↓reduceIte, ↓reduceDIte, zA, zM, zL, zE, zD, yA, yE, yL, yQ, yT, reduceCtorEq, c74, show min 32 64 = 32 from rfl, e1, e2, e3, e4, e5, e6, e7, e8, Int.one_mul, Int.zero_mul, Int.mul_zero, Int.add_zero, Int.zero_add]
theorem w72 (P : Program) {call : CallE} {h : H} {n : Nat} (h74 : call 74 [.int .u64 1, .int .u64 (n : Int)] h = some (.tup [.int .u64 0, .int .u64 (n : Int)], h)) : WF P call c72 [.int .u64 1, .int .u64 (n : Int)] h fun v h' => v = .tup [.int .u64 0, .int .u64 (n : Int)] ∧ h' = h := by
  simp only [go_sem, ↓reduceIte, ↓reduceDIte, zA, zM, zL, zE, zD, yA, yE, yL, yQ, yT, reduceCtorEq, c72, h74]
/-- copying between rows -/
def cpA (h : H) (es : Nat) (d s : AV) : Option (AV × H) := match lenS d, lenS s with
  | some m, some n => match Nat.ble n m with
    | b => match (match b with | true => n | false => m) with
      | 0 => some (.int .i64 0, h)
      | k + 1 => match d, s with
        | .sl a o _ es1 _, .sl b p _ es' _ => match Nat.beq es1 es && Nat.beq es' es with
          | true => match h.t.get b, h.t.get a with
            | some (.row cs _ _), some (.row cells blen e) => match getList cs p ((k + 1) * es) with
              | some l => match Nat.ble (o + (k + 1) * es) blen with
                | true => some (.int .i64 (Int.ofNat (k + 1)), ⟨h.next, h.t.set a (.row (putList o l cells) blen e)⟩)
                | false => none
              | none => none
            | _, _ => none
          | false => none
        | _, _ => none
  | _, _ => none
@[go_sem] theorem rEvW (tm : T AV) (h : H) (es : Nat) (x y : Opd) : evW tm h ⟨es, x, y⟩ = both1 (evo tm x) fun d => both1 (evo tm y) fun s => cpA h es d s := by
  unfold evW both1 cpA
  cases evo tm x with
  | none => rfl
  | some d =>
    cases evo tm y with
    | none => rfl
    | some s => rfl
theorem cp_row {h : H} {a b o p m n k : Nat} {c c' : Option Nat} {cs ds l : List AV} {e e' : TypeId} (gb : h.t.get b = some (rowL cs e')) (ga : h.t.get a = some (rowL ds e)) (hk : k = min n m) (hl : l = (cs.drop p).take k) (h1 : p + k ≤ cs.length) (h2 : o + k ≤ ds.length) (h0 : 0 < k) :
    cpA h 1 (.sl a o m 1 c) (.sl b p n 1 c') = some (.int .i64 (k : Int), ⟨h.next, h.t.set a (rowL (ds.take o ++ l ++ ds.drop (o + k)) e)⟩) := by
  obtain ⟨j, rfl⟩ : ∃ j, k = j + 1 := ⟨k - 1, by omega⟩
  have e1 : (match Nat.ble n m with | true => n | false => m) = j + 1 := by
    cases hb : Nat.ble n m with
    | true => have := Nat.le_of_ble_eq_true hb; simp only []; omega
    | false => have : ¬ n ≤ m := fun hh => by rw [Nat.ble_eq_true_of_le hh] at hb; cases hb
               simp only []; omega
  have e2 : getList (putList 0 cs T.e) p ((j + 1) * 1) = some l := by rw [getList_row, Nat.mul_one, if_pos (.inl h1), hl]
  have e3 : Nat.ble (o + (j + 1) * 1) ds.length = true := Nat.ble_eq_true_of_le (by omega)
  have hll : l.length = j + 1 := by rw [hl, List.length_take, List.length_drop]; omega
  have e4 : putList o l (putList 0 ds T.e) = putList 0 (ds.take o ++ l ++ ds.drop (o + (j + 1))) T.e := by rw [rowPut _ _ _ (by omega), hll]
  have e5 : (ds.take o ++ l ++ ds.drop (o + (j + 1))).length = ds.length := by rw [List.length_append, List.length_append, List.length_take, List.length_drop, hll]; omega
  have e6 : Nat.beq 1 1 = true := rfl
  unfold cpA
  simp only [lenS, e1, e6, Bool.and_self, gb, ga, e2, e3, e4, rowL, e5]
  rfl
theorem rep_one (n : Nat) : rep [AV.int .i64 0] n = List.replicate n (.int .i64 0) := by
  unfold rep
  refine List.ext_getElem (by simp) fun i h1 h2 => ?_
  simp [Nat.mod_one]
structure Post68 (p : Int) (n : Nat) (h : H) (v : AV) (h' : H) : Prop where
  st : StepN h h'
  res : ∃ a, v = .sl a 0 n 1 (some n) ∧ h.next ≤ a ∧ a < h'.next ∧ h'.t.get a = some (rowL (List.replicate n (.int .i64 p)) 3)
def repR (p : Int) (q k : Nat) : List AV := List.replicate q (.int .i64 p) ++ List.replicate k (.int .i64 0)
def I68 (h0 : H) (a n : Nat) (p : Int) (k : Nat) (tm : T AV) (h : H) : Prop :=
  tm.get 7 = some (.sl a 0 n 1 (some n)) ∧ ∃ q : Nat, q + k = n ∧ (n = 0 ∨ 0 < q) ∧ tm.get 8 = some (.int .i64 (q : Int)) ∧ h = ⟨h0.next, h0.t.set a (rowL (repR p q k) 3)⟩
theorem step68 (P : Program) {call : CallE} {h0 : H} {a n : Nat} {p : Int} (hn : n ≤ 65536) (k : Nat) (tm : T AV) (h : H) (hI : I68 h0 a n p k tm h) :
    WC P call c68_l8 (loopQ 0 (fun tm h => ∃ i, i < k ∧ I68 h0 a n p i tm h) (fun tm h => tm.get 7 = some (.sl a 0 n 1 (some n)) ∧ h = ⟨h0.next, h0.t.set a (rowL (repR p n 0) 3)⟩) (fun _ _ => False)) tm h := by
  obtain ⟨t7, q, hq, hq0, t8, rfl⟩ := hI
  cases k with
  | zero =>
    obtain rfl : q = n := by omega
    have e1 : ¬ (q : Int) < (q : Int) := by omega
    simp only [go_sem, ↓reduceIte, ↓reduceDIte, zA, zM, zL, zE, zD, yA, yE, yL, yQ, yT, reduceCtorEq, c68_l8, t7, t8, e1]
  | succ k =>
    have e1 : (q : Int) < (n : Int) := by omega
    have e2 : (q : Int) ≤ (n : Int) := by omega
    have e3 : ¬ n = q := by omega
    have e4 : ¬ n - q = 0 := by omega
    have e0 : ¬ n = 0 := by omega
    have hlr : ∀ i j, (repR p i j).length = i + j := fun i j => by unfold repR; simp
    have cp := cp_row (h := ⟨h0.next, h0.t.set a (rowL (repR p q (k + 1)) 3)⟩) (a := a) (b := a) (o := q) (p := 0) (m := n - q) (n := q) (k := min q (n - q)) (c := some (n - q)) (c' := some n) (cs := repR p q (k + 1)) (ds := repR p q (k + 1)) (e := 3) (e' := 3) (l := List.replicate (min q (n - q)) (.int .i64 p))
      (by simp [go_sem]) (by simp [go_sem]) rfl (by unfold repR; rw [List.drop_zero, List.take_append_of_le_length (by simp; omega), List.take_replicate]; congr 1; omega) (by rw [hlr]; omega) (by rw [hlr]; omega) (by omega)
    have hfin : (repR p q (k + 1)).take q ++ List.replicate (min q (n - q)) (.int .i64 p) ++ (repR p q (k + 1)).drop (q + min q (n - q)) = repR p (q + min q (n - q)) (k + 1 - min q (n - q)) := by
      unfold repR
      rw [List.take_append_of_le_length (by simp), List.take_of_length_le (by simp), List.replicate_append_replicate, List.drop_append, List.drop_eq_nil_of_le (by simp), List.nil_append, List.length_replicate, List.drop_replicate]
      congr 2
      omega
    rw [hfin] at cp
    have hcp : cpA ⟨h0.next, h0.t.set a (rowL (repR p q (k + 1)) 3)⟩ 1 (.sl a q (n - q) 1 (some (n - q))) (.sl a 0 q 1 (some n)) = some (.int .i64 ((min q (n - q) : Nat) : Int), ⟨h0.next, h0.t.set a (rowL (repR p (q + min q (n - q)) (k + 1 - min q (n - q))) 3)⟩) := by
      rw [cp]
      simp only [go_sem, ↓reduceIte, ↓reduceDIte, zA, zM, zL, zE, zD, yA, yE, yL, yQ, yT, reduceCtorEq]
    have f1 : fw .i64 ((q : Int) + ((min q (n - q) : Nat) : Int)) = (q : Int) + ((min q (n - q) : Nat) : Int) := fwI (by omega) (by omega)
    have e5 : ((q + min q (n - q) : Nat) : Int) = (q : Int) + ((min q (n - q) : Nat) : Int) := by push_cast; rfl
    simp only [go_sem, ↓reduceIte, ↓reduceDIte, zA, zM, zL, zE, zD, yA, yE, yL, yQ, yT, reduceCtorEq, c68_l8, t7, t8, e0, e1, e2, e3, e4, Nat.mul_one, Option.getD_some, Option.isSome_some, Bool.true_or, hcp, f1, Nat.sub_zero, Nat.zero_mul]
    exact ⟨k + 1 - min q (n - q), by omega, by simp [go_sem, t7], q + min q (n - q), by omega, .inr (by omega), by simp [go_sem, e5], rfl⟩
theorem w68 (P : Program) {call : CallE} {h : H} {b n : Nat} {p : Int} (gb : h.t.get b = some (rowL [.int .i64 p] 3)) (hb : b < h.next) (hn : n ≤ 65536) (h72 : ∀ h, call 72 [.int .u64 1, .int .u64 (n : Int)] h = some (.tup [.int .u64 0, .int .u64 (n : Int)], h)) :
    WF P call c68 [.sl b 0 1 1 (some 1), .int .i64 (n : Int)] h (Post68 p n h) := by
  have e1 : ¬ (n : Int) < 0 := by omega
  have f1 : fw .u64 (n : Int) = (n : Int) := fwU (by omega) (by omega)
  have f2 : fw .u64 1 = 1 := fwU (by omega) (by omega)
  have f3 : fw .i64 (n : Int) = (n : Int) := fwI (by omega) (by omega)
  have e2 : ¬ (9223372036854775807 : Int) < (n : Int) := by omega
  have e3 : 8 * n ≤ 281474976710656 := by omega
  have e4 : n ≤ 281474976710656 := by omega
  have e5 : evLen (.int .i64 (n : Int)) = some n := rfl
  have st0 := StepN.new h (rowL (List.replicate n (.int .i64 0)) 3)
  have hrl : ∀ x, (List.replicate n x : List AV).length = n := fun x => List.length_replicate
  have nb : ¬ b = h.next := by omega
  cases n with
  | zero =>
    have h72z : call 72 [.int .u64 1, .int .u64 0] h = some (.tup [.int .u64 0, .int .u64 0], h) := h72 h
    have f0 : fw .u64 0 = 0 := f1
    have f4 : fw .i64 0 = 0 := f3
    have e6 : evLen (.int .i64 0) = some 0 := rfl
    have e7 : rep [AV.int .i64 0] 0 = [] := rfl
    have e8 : cpA ⟨h.next + 1, h.t.set h.next (.row (putList 0 [] T.e) 0 3)⟩ 1 (.sl h.next 0 0 1 (some 0)) (.sl b 0 1 1 (some 1)) = some (.int .i64 0, ⟨h.next + 1, h.t.set h.next (.row (putList 0 [] T.e) 0 3)⟩) := rfl
    simp only [go_sem, ↓reduceIte, ↓reduceDIte, zA, zM, zL, zE, zD, yA, yE, yL, yQ, yT, reduceCtorEq, c68, f0, f2, h72z, f4, e6, e7, e8, Nat.mul_zero, Nat.zero_le]
    refine loop_in (I68 ⟨h.next + 1, h.t⟩ h.next 0 p) _ _ (fun k tm h' hI => step68 P hn k tm h' hI) (fun tm2 h2 hR => ?_) (fun _ _ hh => hh.elim) 0 _ _
      ⟨by simp [go_sem], 0, rfl, .inl rfl, by simp [go_sem], rfl⟩
    obtain ⟨t7, rfl⟩ := hR
    simp only [go_sem, ↓reduceIte, ↓reduceDIte, zA, zM, zL, zE, zD, yA, yE, yL, yQ, yT, reduceCtorEq, t7]
    refine ⟨⟨Nat.le_succ _, fun c hc => ?_⟩, h.next, rfl, Nat.le_refl _, Nat.lt_succ_self _, ?_⟩
    · have e0 : ¬ c = h.next := by omega
      simp only [go_sem, ↓reduceIte, ↓reduceDIte, zA, zM, zL, zE, zD, yA, yE, yL, yQ, yT, reduceCtorEq, e0]
    · simp only [go_sem, ↓reduceIte, ↓reduceDIte, zA, zM, zL, zE, zD, yA, yE, yL, yQ, yT, reduceCtorEq]
      rfl
  | succ m =>
    have cp := cp_row (h := ⟨h.next + 1, h.t.set h.next (rowL (List.replicate (m + 1) (.int .i64 0)) 3)⟩) (a := h.next) (b := b) (o := 0) (p := 0) (m := m + 1) (n := 1) (k := 1) (c := some (m + 1)) (c' := some 1) (cs := [.int .i64 p]) (ds := List.replicate (m + 1) (.int .i64 0)) (e := 3) (e' := 3) (l := [.int .i64 p])
      (by simp [go_sem, nb, gb]) (by simp [go_sem]) (by omega) rfl (by simp) (by rw [List.length_replicate]; omega) (by decide)
    have hcp : cpA ⟨h.next + 1, h.t.set h.next (.row (putList 0 (List.replicate (m + 1) (.int .i64 0)) T.e) (m + 1) 3)⟩ 1 (.sl h.next 0 (m + 1) 1 (some (m + 1))) (.sl b 0 1 1 (some 1)) = some (.int .i64 1, ⟨h.next + 1, h.t.set h.next (rowL (repR p 1 m) 3)⟩) := by
      rw [rowL, hrl] at cp
      rw [cp]
      simp only [go_sem, ↓reduceIte, ↓reduceDIte, zA, zM, zL, zE, zD, yA, yE, yL, yQ, yT, reduceCtorEq]
      rfl
    simp only [go_sem, ↓reduceIte, ↓reduceDIte, zA, zM, zL, zE, zD, yA, yE, yL, yQ, yT, reduceCtorEq, c68, e1, f1, f2, h72, e2, f3, e3, e4, rep_one, e5, Nat.mul_one, hcp]
    refine loop_in (I68 ⟨h.next + 1, h.t⟩ h.next (m + 1) p) _ _ (fun k tm h' hI => step68 P hn k tm h' hI) (fun tm2 h2 hR => ?_) (fun _ _ hh => hh.elim) m _ _
      ⟨by simp [go_sem], 1, by omega, .inr (by decide), by simp [go_sem], rfl⟩
    obtain ⟨t7, rfl⟩ := hR
    simp only [go_sem, ↓reduceIte, ↓reduceDIte, zA, zM, zL, zE, zD, yA, yE, yL, yQ, yT, reduceCtorEq, t7]
    have hr : repR p (m + 1) 0 = List.replicate (m + 1) (.int .i64 p) := by unfold repR; simp
    rw [hr]
    refine ⟨⟨Nat.le_succ _, fun c hc => ?_⟩, h.next, rfl, Nat.le_refl _, Nat.lt_succ_self _, ?_⟩
    · have e0 : ¬ c = h.next := by omega
      simp only [go_sem, ↓reduceIte, ↓reduceDIte, zA, zM, zL, zE, zD, yA, yE, yL, yQ, yT, reduceCtorEq, e0]
    · simp only [go_sem, ↓reduceIte, ↓reduceDIte, zA, zM, zL, zE, zD, yA, yE, yL, yQ, yT, reduceCtorEq]
end
end Go.Proofs.Ytnmlfhogolonoaa
