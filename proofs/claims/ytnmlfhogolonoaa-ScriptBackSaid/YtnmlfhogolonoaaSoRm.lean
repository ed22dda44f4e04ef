/-
  What is read of the bytes of a script is the script.
-/
import Derived.Test.YtnmlfhogolonoaaSoRl
set_option linter.unusedVariables false
set_option linter.unusedSimpArgs false
namespace Go.Proofs.Ytnmlfhogolonoaa
open Go.Proofs.Ytnmlfhogolonoaa.Eo
open Nat renaming reduceAdd → zA, reduceMul → zM, reduceLT → zL, reduceEqDiff → zE, reduceLeDiff → zD
open Int renaming reduceAdd → yA, reduceLE → yE, reduceLT → yL, reduceEq → yQ, reduceToNat → yT
noncomputable section
theorem strOf_list (l : List Int) : (strOf l).data.toList = l.map fun n => UInt8.ofNat n.toNat := by
  have key : ∀ (l : List Int) (b : ByteArray), (l.foldl (fun r n => r.push (UInt8.ofNat n.toNat)) b).data.toList = b.data.toList ++ l.map fun n => UInt8.ofNat n.toNat := by
    intro l
    induction l with
    | nil => intro b; simp
    | cons x l ih =>
      intro b
      rw [List.foldl_cons, ih, ByteArray.data_push, Array.toList_push, List.append_assoc, List.map_cons]
      rfl
  exact key l ByteArray.empty
theorem strOf_at {l : List Int} {i : Nat} {x : Int} (h : l[i]? = some x) (h0 : 0 ≤ x) (h1 : x < 256) : ∃ hi : i < (strOf l).size, ((strOf l)[i]'hi).toNat = x.toNat := by
  have hl := (List.getElem?_eq_some_iff.1 h).1
  have hi : i < (strOf l).size := by rw [strOf_len]; exact hl
  refine ⟨hi, ?_⟩
  have e : (strOf l)[i]'hi = (strOf l).data.toList[i]'(by rw [Array.length_toList]; exact hi) := by
    rw [Array.getElem_toList]
    rfl
  rw [e]
  have e2 : (strOf l).data.toList[i]? = some (UInt8.ofNat x.toNat) := by rw [strOf_list, List.getElem?_map, h]; rfl
  have e3 : (strOf l).data.toList[i]'(by rw [Array.length_toList]; exact hi) = UInt8.ofNat x.toNat := by
    have := List.getElem?_eq_some_iff.1 e2
    exact this.2
  rw [e3, UInt8.toNat_ofNat']
  have : (2 : Nat) ^ 8 = 256 := rfl
  omega
theorem strOf_sub (l : List Int) (k : Nat) : subS (strOf l) k (strOf l).size = strOf (l.drop k) := by
  have h1 : (subS (strOf l) k (strOf l).size).data.toList = (strOf (l.drop k)).data.toList := by
    rw [strOf_list]
    show (((strOf l).data.toList.drop k).take ((strOf l).size - k)).toArray.toList = _
    rw [List.toList_toArray, strOf_list, ← List.map_drop, List.take_of_length_le]
    rw [List.length_map, List.length_drop, strOf_len]
    exact Nat.le_refl _
  exact ByteArray.ext (Array.ext' h1)
theorem p128 (i : Nat) : (2 : Int) ^ (7 * i) = ((128 ^ i : Nat) : Int) := by
  have h : (2 : Nat) ^ (7 * i) = 128 ^ i := by rw [Nat.pow_mul]
  have e : (2 : Int) ^ (7 * i) = ((2 ^ (7 * i) : Nat) : Int) := by push_cast; rfl
  rw [e, h]
theorem put_split (n q : Nat) : n * q = n % 128 * q + n / 128 * (q * 128) := by
  have h := Nat.mod_add_div n 128
  calc n * q = (n % 128 + 128 * (n / 128)) * q := by rw [h]
    _ = n % 128 * q + n / 128 * (q * 128) := by rw [Nat.add_mul, Nat.mul_comm 128 (n / 128), Nat.mul_assoc, Nat.mul_comm 128 q]
theorem numL_put (n : Nat) : ∀ (i k : Nat) (acc : Int) (pre rest : List Int), i + k = 10 → pre.length = i → n * 128 ^ i < 18446744073709551616 → (i = 0 ∨ 1 ≤ n) →
    numL (strOf (pre ++ (putB n ++ rest))) k i acc = some (acc + ((n * 128 ^ i : Nat) : Int), strOf rest) := by
  induction n using Nat.strongRecOn with
  | _ n ih =>
    intro i k acc pre rest hk hp hn h1
    cases k with
    | zero =>
      obtain rfl : i = 10 := by omega
      have hq : (128 : Nat) ^ 10 = 1180591620717411303424 := rfl
      rw [hq] at hn
      omega
    | succ k =>
      obtain ⟨q, hq⟩ : ∃ q, q = 128 ^ i := ⟨_, rfl⟩
      have hq1 : 128 ^ (i + 1) = q * 128 := by rw [hq, Nat.pow_succ]
      have hs := put_split n q
      rw [← hq] at hn ⊢
      by_cases hb : n < 128
      · have hB := putB_lt hb
        have hget : (pre ++ (putB n ++ rest))[i]? = some (n : Int) := by rw [hB, List.getElem?_append_right (by omega), hp, Nat.sub_self]; rfl
        obtain ⟨hi, hv⟩ := strOf_at hget (by omega) (by omega)
        rw [Int.toNat_natCast] at hv
        have hdrop : (pre ++ (putB n ++ rest)).drop (i + 1) = rest := by rw [hB, ← List.append_assoc, List.drop_append_of_le_length (by simp; omega), List.drop_eq_nil_of_le (by simp; omega)]; rfl
        rw [numL, dif_pos hi, hv, if_pos hb, p128, strOf_sub, hdrop]
        have e1 : (n : Int).tmod 128 = (n : Int) := by
          have : (n : Int).tmod 128 = ((n % 128 : Nat) : Int) := rfl
          rw [this, Nat.mod_eq_of_lt hb]
        have e2 : (n : Int) * ((128 ^ i : Nat) : Int) = ((n * q : Nat) : Int) := by rw [hq]; push_cast; rfl
        rw [e1, e2, fwU (by omega) (by omega)]
      · have hB := putB_ge hb
        have hget : (pre ++ (putB n ++ rest))[i]? = some (128 + ((n % 128 : Nat) : Int)) := by rw [hB, List.getElem?_append_right (by omega), hp, Nat.sub_self]; rfl
        obtain ⟨hi, hv⟩ := strOf_at hget (by omega) (by omega)
        have hv2 : ((strOf (pre ++ (putB n ++ rest)))[i]'hi).toNat = 128 + n % 128 := by omega
        have hlist : pre ++ (putB n ++ rest) = (pre ++ [128 + ((n % 128 : Nat) : Int)]) ++ (putB (n / 128) ++ rest) := by rw [hB, List.append_assoc]; rfl
        have e1 : ((128 + n % 128 : Nat) : Int).tmod 128 = ((n % 128 : Nat) : Int) := by
          have : ((128 + n % 128 : Nat) : Int).tmod 128 = (((128 + n % 128) % 128 : Nat) : Int) := rfl
          rw [this]
          omega
        have e2 : ((n % 128 : Nat) : Int) * ((128 ^ i : Nat) : Int) = ((n % 128 * q : Nat) : Int) := by rw [hq]; push_cast; rfl
        rw [numL, dif_pos hi, hv2, if_neg (by omega), p128, e1, e2, fwU (by omega) (by omega), hlist, ih (n / 128) (by omega) (i + 1) k _ _ rest (by omega) (by simp; omega) (by rw [hq1]; omega) (.inr (by omega)), hq1]
        rw [Int.add_assoc, ← Int.natCast_add, ← hs]
/-- a reader of bytes without a fault -/
def stI (l : List Int) : RdT := (strOf l, false)
theorem numR_put {x : Int} (hx : inU x) (l : List Int) : numR (stI (pI x ++ l)) = (x, stI l) := by
  obtain ⟨h0, h1⟩ := hx
  obtain ⟨n, rfl⟩ : ∃ n : Nat, x = n := ⟨x.toNat, by omega⟩
  have h := numL_put n 0 10 0 [] l rfl rfl (by rw [Nat.pow_zero]; omega) (.inl rfl)
  rw [List.nil_append, Nat.pow_zero, Nat.mul_one, Int.zero_add] at h
  have e : numL (stI (pI (n : Int) ++ l)).1 10 0 0 = some ((n : Int), strOf l) := h
  unfold numR
  rw [e]
  rfl
theorem cntR_put {x m : Int} (h0 : 0 ≤ x) (h1 : x ≤ m) (h2 : m < 18446744073709551616) (l : List Int) : cntR m (stI (pI x ++ l)) = (x, stI l) := by
  unfold cntR
  rw [numR_put ⟨h0, by omega⟩, if_neg (by omega)]
/-- the part of a field -/
def efp (x : OpT) (i : Nat) : List Int := if fld x i = 0 then [] else pI (fld x i)
theorem ef6 (x : OpT) : ef x 6 = efp x 0 ++ (efp x 1 ++ (efp x 2 ++ (efp x 3 ++ (efp x 4 ++ efp x 5)))) := by
  have : ef x 6 = ((((([] ++ efp x 0) ++ efp x 1) ++ efp x 2) ++ efp x 3) ++ efp x 4) ++ efp x 5 := rfl
  rw [this]
  simp only [List.append_assoc, List.nil_append]
def bv (x : OpT) (i : Nat) : Int := if fld x i = 0 then 0 else 1
theorem bv_or (x : OpT) (i : Nat) : (fld x i = 0 ∧ bv x i = 0) ∨ (fld x i ≠ 0 ∧ bv x i = 1) := by
  unfold bv
  by_cases h : fld x i = 0
  · exact .inl ⟨h, if_pos h⟩
  · exact .inr ⟨h, if_neg h⟩
theorem mk_bv (x : OpT) (i : Nat) : mk x (i + 1) = mk x i + bv x i * 2 ^ i := by
  unfold bv
  rw [mk]
  by_cases h : fld x i = 0
  · rw [if_pos h, if_pos h]; omega
  · rw [if_neg h, if_neg h]; omega
theorem mk_sum (x : OpT) : mk x 6 = bv x 0 + 2 * bv x 1 + 4 * bv x 2 + 8 * bv x 3 + 16 * bv x 4 + 32 * bv x 5 := by
  rw [mk_bv, mk_bv, mk_bv, mk_bv, mk_bv, mk_bv]
  have h0 : mk x 0 = 0 := rfl
  have e1 : (2 : Int) ^ 0 = 1 := rfl
  have e2 : (2 : Int) ^ 1 = 2 := rfl
  have e3 : (2 : Int) ^ 2 = 4 := rfl
  have e4 : (2 : Int) ^ 3 = 8 := rfl
  have e5 : (2 : Int) ^ 4 = 16 := rfl
  have e6 : (2 : Int) ^ 5 = 32 := rfl
  rw [h0, e1, e2, e3, e4, e5, e6]
  omega
theorem bit_mk (x : OpT) : ∀ i, i < 6 → (bitD (mk x 6) i ↔ fld x i ≠ 0) := by
  intro i hi
  have hs := mk_sum x
  have hbd : ∀ j, 0 ≤ bv x j ∧ bv x j ≤ 1 := fun j => by rcases bv_or x j with ⟨_, h⟩ | ⟨_, h⟩ <;> omega
  have c0 := hbd 0
  have c1 := hbd 1
  have c2 := hbd 2
  have c3 := hbd 3
  have c4 := hbd 4
  have c5 := hbd 5
  have key : ∀ (d : Int) (hd : 0 < d), ((mk x 6).fdiv d).tmod 2 = (mk x 6 / d) % 2 := fun d hd => by
    have h0 := (mk_bound x 6).1
    rw [Int.fdiv_eq_ediv_of_nonneg _ (by omega), Int.tmod_eq_emod_of_nonneg (Int.ediv_nonneg h0 (by omega))]
  have fin : ∀ d : Int, 0 < d → (mk x 6 / d) % 2 = bv x i → (((mk x 6).fdiv d).tmod 2 = 1 ↔ fld x i ≠ 0) := fun d hd h => by
    rw [key d hd, h]
    rcases bv_or x i with ⟨h1, h2⟩ | ⟨h1, h2⟩
    · rw [h2]; exact ⟨fun h => absurd h (by decide), fun h => absurd h1 h⟩
    · exact ⟨fun _ => h1, fun _ => h2⟩
  clear hbd key
  unfold bitD
  generalize mk x 6 = m at *
  match i, hi with
  | 0, _ => exact fin 1 (by decide) (by clear fin; omega)
  | 1, _ => exact fin 2 (by decide) (by clear fin; omega)
  | 2, _ => exact fin 4 (by decide) (by clear fin; omega)
  | 3, _ => exact fin 8 (by decide) (by clear fin; omega)
  | 4, _ => exact fin 16 (by decide) (by clear fin; omega)
  | 5, _ => exact fin 32 (by decide) (by clear fin; omega)
/-- the picks of runs -/
def expR (r : List (Int × Int)) : List Int := r.flatMap fun p => List.replicate p.2.toNat p.1
theorem expR_append (a b : List (Int × Int)) : expR (a ++ b) = expR a ++ expR b := List.flatMap_append
theorem expR_one (p : Int × Int) : expR [p] = List.replicate p.2.toNat p.1 := by unfold expR; simp
theorem expR_run : ∀ (l : List Int) (r : List (Int × Int)), (∀ p ∈ r, 1 ≤ p.2) → expR (runR r l).reverse = expR r.reverse ++ l
  | [], r, _ => by rw [runR, List.append_nil]
  | x :: l, r, h => by
    have hp : ∀ p ∈ pushR r x, 1 ≤ p.2 := by
      cases r with
      | nil => intro p hp; rw [pushR] at hp; simp only [List.mem_cons, List.not_mem_nil, or_false] at hp; subst hp; exact Int.le_refl _
      | cons y t =>
        obtain ⟨y, n⟩ := y
        have hn := h (y, n) (List.mem_cons_self ..)
        intro p hp
        rw [pushR] at hp
        split at hp
        · rcases List.mem_cons.1 hp with rfl | hp
          · show 1 ≤ n + 1
            have : 1 ≤ n := hn
            omega
          · exact h p (List.mem_cons_of_mem _ hp)
        · rcases List.mem_cons.1 hp with rfl | hp
          · exact Int.le_refl _
          · exact h p hp
    rw [runR, expR_run l _ hp]
    have key : expR (pushR r x).reverse = expR r.reverse ++ [x] := by
      cases r with
      | nil => rfl
      | cons y t =>
        obtain ⟨y, n⟩ := y
        have hn : 1 ≤ n := h (y, n) (List.mem_cons_self ..)
        rw [pushR]
        split
        · rename_i hyx
          subst hyx
          rw [List.reverse_cons, List.reverse_cons, expR_append, expR_append, expR_one, expR_one, List.append_assoc]
          congr 1
          show List.replicate (n + 1).toNat y = List.replicate n.toNat y ++ [y]
          rw [show (n + 1).toNat = n.toNat + 1 by omega, List.replicate_succ']
        · rw [List.reverse_cons, expR_append, expR_one]
          rfl
    rw [key, List.append_assoc]
    rfl
theorem expR_runsF (l : List Int) : expR (runsF l) = l := by
  unfold runsF
  rw [expR_run l [] (fun p hp => by cases hp)]
  rfl
structure InS (c : CfgT) (ps : List (List OpT)) (ks : List Int) : Prop where
  chk : chkB c ps ks
  op : ∀ p ∈ ps, ∀ x ∈ p, opR x
  cu : ∀ x ∈ c.cuts, inU x
theorem fD_put {x : OpT} (hx : opR x) {k i : Nat} (hi : i < 6) {l : List Int} (hl : l[i]? = some 0) (r : List Int) : fD (mk x 6) (k + 1) i l (stI (efp x i ++ r)) = fD (mk x 6) k (i + 1) (l.set i (fld x i)) (stI r) := by
  have hb := bit_mk x i hi
  have hlt : i < l.length := (List.getElem?_eq_some_iff.1 hl).1
  rw [fD]
  unfold efp
  by_cases h : fld x i = 0
  · rw [if_neg (fun hh => hb.1 hh h), if_pos h, List.nil_append, h]
    have : l.set i 0 = l := by
      refine List.ext_getElem? fun j => ?_
      rw [List.getElem?_set]
      by_cases hj : i = j
      · subst hj; rw [if_pos rfl, if_pos hlt, hl]
      · rw [if_neg hj]
    rw [this]
  · rw [if_pos (hb.2 h), if_neg h, numR_put (hx.2 i)]
theorem opD_put {x : OpT} (hx : opR x) (l : List Int) : opD (stI (encO x ++ l)) = (x, stI l) := by
  have hm := mk_bound x 6
  have h64 : (2 : Int) ^ 6 = 64 := rfl
  rw [h64] at hm
  have e : encO x ++ l = pI x.1 ++ (pI (mk x 6) ++ (efp x 0 ++ (efp x 1 ++ (efp x 2 ++ (efp x 3 ++ (efp x 4 ++ (efp x 5 ++ l))))))) := by
    unfold encO
    rw [ef6]
    simp only [List.append_assoc]
  have hf : fD (mk x 6) 6 0 [0, 0, 0, 0, 0, 0] (stI (efp x 0 ++ (efp x 1 ++ (efp x 2 ++ (efp x 3 ++ (efp x 4 ++ (efp x 5 ++ l))))))) = (fldL x, stI l) := by
    rw [fD_put hx (by decide) rfl, fD_put hx (by decide) rfl, fD_put hx (by decide) rfl, fD_put hx (by decide) rfl, fD_put hx (by decide) rfl, fD_put hx (by decide) rfl]
    rfl
  unfold opD
  rw [e, cntR_put hx.1.1 (by have := hx.1.2; omega) (by decide)]
  dsimp only
  rw [cntR_put hm.1 (by omega) (by decide)]
  dsimp only
  rw [hf]
  rfl
theorem progD_put : ∀ (p : List OpT), (∀ x ∈ p, opR x) → ∀ (l : List Int), progD p.length (stI (p.flatMap encO ++ l)) = (p, stI l)
  | [], _, l => rfl
  | x :: p, h, l => by
    rw [List.length_cons, progD, List.flatMap_cons, List.append_assoc, opD_put (h x (List.mem_cons_self ..))]
    dsimp only
    rw [progD_put p (fun y hy => h y (List.mem_cons_of_mem _ hy))]
theorem prD_put {p : List OpT} (h : ∀ x ∈ p, opR x) (hl : p.length ≤ 256) (l : List Int) : prD (stI (encP p ++ l)) = (p, stI l) := by
  unfold prD encP
  rw [List.append_assoc, cntR_put (by omega) (by omega) (by decide)]
  dsimp only
  rw [Int.toNat_natCast, progD_put p h]
theorem progsD_put : ∀ (ps : List (List OpT)), (∀ p ∈ ps, (∀ x ∈ p, opR x) ∧ p.length ≤ 256) → ∀ (l : List Int), progsD ps.length (stI (ps.flatMap encP ++ l)) = (ps, stI l)
  | [], _, l => rfl
  | p :: ps, h, l => by
    have hp := h p (List.mem_cons_self ..)
    rw [List.length_cons, progsD, List.flatMap_cons, List.append_assoc, prD_put hp.1 hp.2]
    dsimp only
    rw [progsD_put ps (fun y hy => h y (List.mem_cons_of_mem _ hy))]
theorem runsD_put : ∀ (r : List (Int × Int)), (∀ p ∈ r, (0 ≤ p.1 ∧ p.1 < 64) ∧ 1 ≤ p.2) → ∀ (acc l : List Int), (acc ++ expR r).length ≤ 65536 → runsD r.length (stI (encR r ++ l)) acc = (acc ++ expR r, stI l)
  | [], _, acc, l, _ => by
    show (acc, stI l) = (acc ++ [], stI l)
    rw [List.append_nil]
  | p :: r, h, acc, l, hl => by
    obtain ⟨p1, p2⟩ := h p (List.mem_cons_self ..)
    have e : encR (p :: r) ++ l = pI p.1 ++ (pI p.2 ++ (encR r ++ l)) := by
      show (pI p.1 ++ pI p.2 ++ encR r) ++ l = _
      simp only [List.append_assoc]
    have e2 : expR (p :: r) = List.replicate p.2.toNat p.1 ++ expR r := rfl
    have hl2 := hl
    rw [e2] at hl2 ⊢
    rw [List.length_append, List.length_append, List.length_replicate] at hl2
    rw [List.length_cons, runsD, e, cntR_put p1.1 (by omega) (by decide)]
    dsimp only
    rw [cntR_put (by omega) (by omega) (by omega)]
    dsimp only
    rw [if_neg (by intro hh; cases hh)]
    rw [runsD_put r (fun q hq => h q (List.mem_cons_of_mem _ hq)) _ l (by rw [List.append_assoc, ← e2]; exact hl), List.append_assoc]
theorem cutsD_put : ∀ (l : List Int) (a : Int), 0 ≤ a → ascB a l = true → (∀ x ∈ l, inU x) → ∀ r : List Int, cutsD l.length a (stI (dl a l ++ r)) = (l, stI r)
  | [], a, _, _, _, r => rfl
  | x :: l, a, ha, hasc, hin, r => by
    have h1 := hin x (List.mem_cons_self ..)
    rw [ascB] at hasc
    by_cases hx : x ≤ a
    · rw [if_pos hx] at hasc; cases hasc
    rw [if_neg hx] at hasc
    have hd : inU (x - a) := ⟨by omega, by have := h1.2; omega⟩
    have e : fw .u64 (a + (x - a)) = x := by rw [show a + (x - a) = x by omega]; exact fw_u h1
    rw [List.length_cons, cutsD, dl, List.append_assoc, numR_put hd]
    dsimp only
    rw [e, cutsD_put l x h1.1 hasc (fun z hz => hin z (List.mem_cons_of_mem _ hz))]
set_option maxRecDepth 4000 in
theorem headD_put {c : CfgT} {ps : List (List OpT)} {ks : List Int} (hs : InS c ps ks) (l : List Int) : headD (stI (encC c ++ l)) = ({ c with n := 0, cuts := [] }, stI l) := by
  obtain ⟨⟨ht, ⟨th1, th2⟩, ⟨sl1, sl2⟩, en1, en2, bk3, bkn, dom, ⟨lo1, lo2⟩, ⟨tr1, tr2⟩, ba1, ba2⟩, hpl, hpo, hkl, hkr⟩ := id hs.chk
  have bk : 0 ≤ c.buckets ∧ c.buckets ≤ 16 := by
    by_cases hg : c.engine = 3
    · have := bk3 hg; omega
    · have := bkn hg; omega
  have kd : 1 ≤ c.kind ∧ c.kind ≤ 3 := by rcases dom with ⟨a, _⟩ | ⟨a, _⟩ | ⟨a, _⟩ <;> omega
  simp only [towB, and_true] at ht
  have e : encC c ++ l = pI c.threads ++ (pI c.slots ++ (pI c.engine ++ (pI c.buckets ++ (pI c.locks ++ (pI c.tries ++ (pI c.batch ++ (pI c.t0 ++ (pI c.t1 ++ (pI c.t2 ++ (pI c.t3 ++ (pI c.t4 ++ (pI c.t5 ++ (pI c.kind ++ l))))))))))))) := by
    unfold encC
    simp only [List.append_assoc, List.nil_append]
  rw [e]
  have a1 := fun l => cntR_put (x := c.threads) (m := 64) (by omega) (by omega) (by decide) l
  have a2 := fun l => cntR_put (x := c.slots) (m := 64) (by omega) (by omega) (by decide) l
  have a3 := fun l => cntR_put (x := c.engine) (m := 255) (by omega) (by omega) (by decide) l
  have a4 := fun l => cntR_put (x := c.buckets) (m := 16) (by omega) (by omega) (by decide) l
  have a5 := fun l => cntR_put (x := c.locks) (m := 16) (by omega) (by omega) (by decide) l
  have a6 := fun l => cntR_put (x := c.tries) (m := 255) (by omega) (by omega) (by decide) l
  have a7 := fun l => cntR_put (x := c.batch) (m := 64) (by omega) (by omega) (by decide) l
  have b0 := fun l => cntR_put (x := c.t0) (m := 1024) (by omega) (by omega) (by decide) l
  have b1 := fun l => cntR_put (x := c.t1) (m := 1024) (by omega) (by omega) (by decide) l
  have b2 := fun l => cntR_put (x := c.t2) (m := 1024) (by omega) (by omega) (by decide) l
  have b3 := fun l => cntR_put (x := c.t3) (m := 1024) (by omega) (by omega) (by decide) l
  have b4 := fun l => cntR_put (x := c.t4) (m := 1024) (by omega) (by omega) (by decide) l
  have b5 := fun l => cntR_put (x := c.t5) (m := 1024) (by omega) (by omega) (by decide) l
  have a8 := fun l => cntR_put (x := c.kind) (m := 255) (by omega) (by omega) (by decide) l
  unfold headD
  simp only [a1, a2, a3, a4, a5, a6, a7, b0, b1, b2, b3, b4, b5, a8]
theorem cfgX_put {c : CfgT} {ps : List (List OpT)} {ks : List Int} (hs : InS c ps ks) (l : List Int) : cfgX ({ c with n := 0, cuts := [] }, stI (encD c ++ l)) = (c, stI l) := by
  have dom := hs.chk.1.2.2.2.2.2.2.2.1
  have hcu := hs.cu
  obtain ⟨th, sl, en, bu, kd, n, cu, t0, t1, t2, t3, t4, t5, lo, tr, ba⟩ := c
  unfold cfgX encD
  dsimp only at dom hcu ⊢
  rcases dom with ⟨k, e1, e2⟩ | ⟨k, ⟨n1, n2⟩, e2⟩ | ⟨k, e1, l1, l2, hasc⟩
  · subst k; subst e1; subst e2
    rfl
  · subst k; subst e2
    rw [if_pos rfl, if_pos rfl, cntR_put (by omega) (by omega) (by decide)]
  · subst k; subst e1
    rw [if_neg (by decide), if_pos rfl, if_neg (by decide), if_pos rfl, List.append_assoc, cntR_put (by omega) (by omega) (by decide)]
    dsimp only
    rw [Int.toNat_natCast, cutsD_put cu 0 (Int.le_refl _) hasc hcu]
theorem anyD_putl {c : CfgT} {ps : List (List OpT)} {ks : List Int} (hs : InS c ps ks) (l : List Int) : anyD (stI (encS c ps ks ++ l)) = ⟨c, ps, ks, stI l⟩ := by
  obtain ⟨hlay, hpl, hpo, hkl, hkr⟩ := id hs.chk
  obtain ⟨rl, rr⟩ := runsF_ok (fun x hx => by have := hkr x hx; have := hlay.2.1; omega) hkl
  have hth : c.threads.toNat = ps.length := by omega
  have e : encS c ps ks ++ l = encC c ++ (encD c ++ (ps.flatMap encP ++ (pI ((runsF ks).length : Int) ++ (encR (runsF ks) ++ l)))) := by
    unfold encS encK
    simp only [List.append_assoc]
  have hh : cfgX (headD (stI (encS c ps ks ++ l))) = (c, stI (ps.flatMap encP ++ (pI ((runsF ks).length : Int) ++ (encR (runsF ks) ++ l)))) := by
    rw [e, headD_put hs, cfgX_put hs]
  have ha : anyD (stI (encS c ps ks ++ l)) = anyX (cfgX (headD (stI (encS c ps ks ++ l)))) := rfl
  rw [ha, hh]
  unfold anyX
  dsimp only
  rw [hth, progsD_put ps (fun p hp => ⟨hs.op p hp, hpo p hp⟩)]
  dsimp only
  rw [cntR_put (by omega) (by omega) (by decide)]
  dsimp only
  rw [Int.toNat_natCast, runsD_put (runsF ks) (fun p hp => ⟨(rr p hp).1, (rr p hp).2.1⟩) [] l (by rw [List.nil_append, expR_runsF]; exact hkl), List.nil_append, expR_runsF]
theorem anyD_put {c : CfgT} {ps : List (List OpT)} {ks : List Int} (hs : InS c ps ks) : anyD (stI (encS c ps ks)) = ⟨c, ps, ks, stI []⟩ := by
  have := anyD_putl hs []
  rwa [List.append_nil] at this
theorem anyD_inU (s : RdT) : ∀ y ∈ (anyD s).c.cuts, inU y := by
  have h := cfgD_in s
  unfold anyD
  generalize cfgD s = x at h ⊢
  exact h
theorem encZ_ok {l : List Int} {s : ByteArray} (h : encZ l = (s, 0)) : s = strOf l ∧ l.length ≤ 65536 := by
  unfold encZ at h
  by_cases hl : 65536 < l.length
  · rw [if_pos hl] at h
    have h2 : (5 : Int) = 0 := (Prod.ext_iff.1 h).2
    exact absurd h2 (by decide)
  · rw [if_neg hl] at h
    exact ⟨(Prod.ext_iff.1 h).1.symm, by omega⟩
theorem resS_ok {c : CfgT} {ps : List (List OpT)} {ks : List Int} {s : ByteArray} (h : resS c ps ks = (s, 0)) : chkB c ps ks ∧ encZ (encS c ps ks) = (s, 0) := by
  unfold resS at h
  by_cases hc : chkB c ps ks
  · rw [if_pos hc] at h
    exact ⟨hc, h⟩
  · rw [if_neg hc] at h
    exact absurd (chkE_iff.1 (Prod.ext_iff.1 h).2) hc
end
end Go.Proofs.Ytnmlfhogolonoaa
