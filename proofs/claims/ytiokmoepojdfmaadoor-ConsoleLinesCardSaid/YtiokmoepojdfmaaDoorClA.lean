/-
  The calls into the library that are known: FormatUint, Itoa, Join.
-/
import Derived.Test.YtiokmoepojdfmaaDoorClF
import Derived.Test.YtiokmoepojdfmaaDoorEoOh
import Derived.Test.YtiokmoepojdfmaaDoorChecked
import Derived.WalkKit
set_option linter.unusedVariables false
set_option linter.unusedSimpArgs false
namespace Go.Proofs.YtiokmoepojdfmaaDoor
open Go.Proofs.YtiokmoepojdfmaaDoor.Eo
open Go.Proofs (Tryd.prog)
noncomputable section
open Classical
def strB (l : List UInt8) : ByteArray := ⟨l.toArray⟩
/-- the powers of ten lie in the first global variable -/
def TabH (h : H) : Prop := ∃ c, h.t.get 0 = some (.tab c) ∧ ∀ i, i < 20 → c.get i = some (.int .u64 ((10 ^ i : Nat) : Int))
def JoinB (xs : List ByteArray) (sep : ByteArray) : List UInt8 := Go.Lib.join (xs.map (·.data.toList)) sep.data.toList
def JoinH (h : H) (v : AV) (sep : ByteArray) (xs : List ByteArray) : Prop := xs ≠ [] ∧ Own 1 9 h v xs.length (xs.map AV.str) ∧ (JoinB xs sep).length ≤ 140737488355328 ∧ xs.length ≤ 140737488355328
def libE : CallE := fun f args h =>
  if f = 25 then match args with
    | [.int .u64 u, .int .i64 b] => if b = 10 ∧ 0 ≤ u ∧ u < 18446744073709551616 ∧ TabH h then some (.str (strB (Go.Lib.decDigits u.toNat)), h) else none
    | _ => none
  else if f = 26 then match args with
    | [.int .i64 n] => if -9223372036854775808 ≤ n ∧ n ≤ 9223372036854775807 ∧ TabH h then some (.str (strB (Go.Lib.itoa n)), h) else none
    | _ => none
  else if f = 17 then match args with
    | [v, .str sep] => if hh : ∃ xs, JoinH h v sep xs then some (.str (strB (JoinB hh.choose sep)), h) else none
    | _ => none
  else none
theorem lib_plain : Plain libE := fun f args h hb => by
  have : ykey ≤ f := Nat.le_of_ble_eq_true hb
  have hy : ykey = 1099511627776 := rfl
  unfold libE
  have e1 : f ≠ 25 := by intro e; subst e; revert this; decide
  have e2 : f ≠ 26 := by intro e; subst e; revert this; decide
  have e3 : f ≠ 17 := by intro e; subst e; revert this; decide
  rw [if_neg e1, if_neg e2, if_neg e3]
theorem tabC_of {ρ : Rho} {h : H} {w : World} (ht : TabH h) (hr : HR ρ h.t.get w) : TabC w := by
  obtain ⟨c, h0, hc⟩ := ht
  obtain ⟨r, hl⟩ := ρ.own 0 (by decide)
  obtain ⟨_, C, e, f, hb, hv⟩ := hr.obj 0 _ _ h0 rfl hl
  intro i hi
  obtain ⟨V, v1, _, v2⟩ := hv i _ (hc i hi)
  simp only [VR] at v1
  subst v1
  unfold World.cell?
  simp only [hb]
  rw [Nat.zero_add] at v2
  exact v2
theorem join_of {ρ : Rho} {h : H} {w : World} {v : AV} {sep : ByteArray} {xs : List ByteArray} {V : Value} (hj : JoinH h v sep xs) (hr : HR ρ h.t.get w) (hv : VR ρ v V) :
    Calls Tryd.prog 17 #[V, .string sep] w fun e w' => e = .returned (.string (strB (JoinB xs sep))) ∧ Go.RowKit.Below w.heap.size w w' := by
  obtain ⟨hne, ho, hl, hn⟩ := hj
  have hp : 0 < xs.length := List.length_pos_iff.2 hne
  generalize hcs : xs.map AV.str = cs at ho
  generalize hlen : xs.length = n at ho hp
  cases ho with
  | nil => omega
  | sl a len cs cap hc h0 hcl ha hg =>
    have hrow : ∀ l, ρ a = some l → l.blk < w.heap.size ∧ n ≤ l.room ∧ ∀ (j : Nat) x, xs[j]? = some x → w.cell? ⟨l.blk, l.off + 0 + j, none⟩ = some (.string x) := fun l hl => by
      obtain ⟨hb, h1, c, h2, h3, h4⟩ := hr.obj a _ l hg rfl hl
      refine ⟨hb, by omega, fun j x hx => ?_⟩
      obtain ⟨_, V, v1, _, v2⟩ := h4 j (.str x) (by rw [rowGet, ← hcs, List.getElem?_map, hx]; rfl)
      simp only [VR] at v1
      subst v1
      unfold World.cell?
      simp only [h2]
      rw [Nat.add_zero]
      exact v2
    have fin : ∀ (l : Go.Proofs.YtiokmoepojdfmaaDoor.Eo.Loc) c, ρ a = some l → n ≤ c → V = .slice (some ⟨l.blk, l.off + 0, none⟩) n c → Calls Tryd.prog 17 #[V, .string sep] w fun e w' => e = .returned (.string (strB (JoinB xs sep))) ∧ Go.RowKit.Below w.heap.size w w' := fun l c hl' hc' e => by
      obtain ⟨q1, q2, q3⟩ := hrow l hl'
      subst hlen
      rw [e]
      exact Tryd.strings_Join l.blk (l.off + 0) c xs sep w q3 q1 hn hc' hl
    rcases hc with rfl | rfl
    · simp only [VR] at hv
      obtain ⟨l, hl', _, h5, h6 | ⟨h6, _⟩⟩ := hv
      · exact fin l _ hl' (by rw [Nat.div_one]; omega) h6
      · omega
    · simp only [VR] at hv
      obtain ⟨l, hl', h5, h6⟩ := hv
      exact fin l _ hl' h5 h6
theorem lib_ok : CallOK true Tryd.prog libE := by
  intro f args h v h' e ρ w ARGS ha hr hf
  unfold libE at e
  by_cases h25 : f = 25
  · subst h25
    rw [if_pos rfl] at e
    split at e
    · rename_i u b
      split at e
      · rename_i hh
        obtain ⟨rfl, hu0, hu1, ht⟩ := hh
        simp only [Option.some.injEq, Prod.mk.injEq] at e
        obtain ⟨rfl, rfl⟩ := e
        simp only [VRs, VR] at ha
        obtain ⟨_, _, rfl, ⟨_, _, rfl, rfl, rfl⟩, rfl⟩ := ha
        refine .inl ⟨by decide, known_out hr hf (V := .string (strB (Go.Lib.decDigits u.toNat))) rfl (by kernel_rfl) ?_⟩
        obtain ⟨n, rfl⟩ : ∃ n : Nat, u = n := ⟨u.toNat, by omega⟩
        exact fmtUint n (by omega) w (tabC_of ht hr)
      · cases e
    · cases e
  · rw [if_neg h25] at e
    by_cases h26 : f = 26
    · subst h26
      rw [if_pos rfl] at e
      split at e
      · rename_i n
        split at e
        · rename_i hh
          obtain ⟨hn0, hn1, ht⟩ := hh
          simp only [Option.some.injEq, Prod.mk.injEq] at e
          obtain ⟨rfl, rfl⟩ := e
          simp only [VRs, VR] at ha
          obtain ⟨_, _, rfl, rfl, rfl⟩ := ha
          refine .inl ⟨by decide, known_out hr hf (V := .string (strB (Go.Lib.itoa n))) rfl (by kernel_rfl) ?_⟩
          exact itoaI n hn0 hn1 w (tabC_of ht hr)
        · cases e
      · cases e
    · rw [if_neg h26] at e
      by_cases h17 : f = 17
      · subst h17
        rw [if_pos rfl] at e
        split at e
        · rename_i v sep
          split at e
          · rename_i hh
            simp only [Option.some.injEq, Prod.mk.injEq] at e
            obtain ⟨rfl, rfl⟩ := e
            obtain ⟨X, L, hx, ⟨Y, M, hy, hm, rfl⟩, rfl⟩ := ha
            simp only [VR] at hy
            subst hy
            simp only [VRs] at hm
            subst hm
            exact .inl ⟨by decide, known_out hr hf (V := .string (strB (JoinB hh.choose sep))) rfl (by kernel_rfl) (join_of hh.choose_spec hr hx)⟩
          · cases e
        · cases e
      · rw [if_neg h17] at e
        cases e
abbrev cX (n : Nat) : CallE := callX Tryd.prog libE n
theorem cX_ok (n : Nat) : CallOK true Tryd.prog (cX n) := callX_ok Tryd.checked.mixed lib_plain lib_ok n
theorem cX_plain (n : Nat) : Plain (cX n) := callX_plain lib_plain n
theorem lib_none {f : FuncId} (h1 : f ≠ 25) (h2 : f ≠ 26) (h3 : f ≠ 17) (args : List AV) (h : H) : libE f args h = none := by
  unfold libE
  rw [if_neg h1, if_neg h2, if_neg h3]
theorem X25 (n : Nat) {h : H} (ht : TabH h) {u : Int} (h0 : 0 ≤ u) (h1 : u < 18446744073709551616) : cX n 25 [.int .u64 u, .int .i64 10] h = some (.str (strB (Go.Lib.decDigits u.toNat)), h) :=
  callX_base (by unfold libE; rw [if_pos rfl]; exact if_pos ⟨rfl, h0, h1, ht⟩) n
theorem X26 (n : Nat) {h : H} (ht : TabH h) {u : Int} (h0 : -9223372036854775808 ≤ u) (h1 : u ≤ 9223372036854775807) : cX n 26 [.int .i64 u] h = some (.str (strB (Go.Lib.itoa u)), h) :=
  callX_base (by unfold libE; rw [if_neg (by decide), if_pos rfl]; exact if_pos ⟨h0, h1, ht⟩) n
theorem own_same {h : H} {v : AV} {n m : Nat} {xs ys : List AV} (a : Own 1 9 h v n xs) (b : Own 1 9 h v m ys) : xs = ys := by
  cases a with
  | nil => cases b with | nil => rfl
  | sl a len cs cap hc h0 hl ha hg =>
    cases b with
    | sl a len cs' cap hc h0 hl' ha hg' =>
      rw [hg] at hg'
      refine List.ext_getElem? fun i => ?_
      have := congrArg (fun o : Option AO => match o with | some (.row c _ _) => c.get i | _ => none) hg'
      simpa only [rowL, rowGet] using this
theorem X17 (n : Nat) {h : H} {v : AV} {sep : ByteArray} {xs : List ByteArray} (hj : JoinH h v sep xs) : cX n 17 [v, .str sep] h = some (.str (strB (JoinB xs sep)), h) := by
  refine callX_base ?_ n
  have hh : ∃ xs, JoinH h v sep xs := ⟨xs, hj⟩
  have e : hh.choose = xs := by
    have h1 := own_same hh.choose_spec.2.1 hj.2.1
    exact (List.map_inj_right (fun _ _ he => by injection he)).1 h1
  unfold libE
  rw [if_neg (by decide), if_neg (by decide), if_pos rfl]
  show (if hh : ∃ xs, JoinH h v sep xs then some (AV.str (strB (JoinB hh.choose sep)), h) else none) = _
  rw [dif_pos hh, e]
end
end Go.Proofs.YtiokmoepojdfmaaDoor
