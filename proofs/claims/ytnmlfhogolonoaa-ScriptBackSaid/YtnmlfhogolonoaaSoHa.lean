/-
  What is known of all the calls; EqualScript, Read.
-/
import Derived.Test.YtnmlfhogolonoaaSoG
import Derived.Test.YtnmlfhogolonoaaEoOg
import Derived.Below
import Derived.Test.YtnmlfhogolonoaaChecked
set_option linter.unusedVariables false
set_option linter.unusedSimpArgs false
namespace Go.Proofs.Ytnmlfhogolonoaa
open Go.Proofs.Ytnmlfhogolonoaa.Eo Go.RowKit
open Nat renaming reduceAdd → zA, reduceMul → zM, reduceLT → zL, reduceEqDiff → zE, reduceLeDiff → zD
open Int renaming reduceAdd → yA, reduceLE → yE, reduceLT → yL, reduceEq → yQ, reduceToNat → yT
noncomputable section
abbrev cW (n : Nat) : CallE := callW Try.prog n
theorem H40 (n : Nat) : Has (cW (n + 1)) 40 takeK := callW_has (by kernel_rfl) (by kernel_rfl) c40_eq (fun args h v h' e => by obtain ⟨B, n, cells, len, t, r, rfl, _⟩ := takeK_inv e; rfl) (fun args h v h' e => w40 Try.prog _ e)
theorem numK_len {args : List AV} {h : H} {v : AV} {h' : H} (e : numK args h = some (v, h')) : args.length = 2 := by
  unfold numK at e
  split at e
  · rfl
  · simp at e
theorem H63 (n : Nat) : Has (cW (n + 2)) 63 numK := callW_has (by kernel_rfl) (by kernel_rfl) c63_eq (fun args h v h' e => numK_len e) (fun args h v h' e => w63 Try.prog (H40 n) e)
theorem H41 (n : Nat) : ∀ h B t r, h.t.get B = some (rowL [.str r] t) → B < h.next → r.size ≤ 9223372036854775807 → ∃ v h', cW (n + 3) 41 [.fn (.func 40) [.ptr B 0] []] h = some (v, h') ∧ Post41 B t r h v h' :=
  fun h B t r hB hlt hr => callW_of (by kernel_rfl) (by kernel_rfl) c41_eq (w41 Try.prog (H40 (n + 1)) (H63 n) hB hlt hr)
theorem H39 (n : Nat) : ∀ h B t r, h.t.get B = some (rowL [.str r] t) → B < h.next → r.size ≤ 9223372036854775807 → ∃ v h', cW (n + 2) 39 [.fn (.func 40) [.ptr B 0] []] h = some (v, h') ∧ Post39 B t r h v h' :=
  fun h B t r hB hlt hr => callW_of (by kernel_rfl) (by kernel_rfl) c39_eq (w39 Try.prog (H40 n) hB hlt hr)
theorem H18 (n : Nat) : ∀ h s, s.size ≤ 9223372036854775807 → ∃ v h', cW (n + 4) 18 [.str s] h = some (v, h') ∧ Post18 s h v h' :=
  fun h s hs => callW_of (by kernel_rfl) (by kernel_rfl) c18_eq (w18 Try.prog (H40 (n + 2)) (H39 (n + 1)) (H41 n) hs)
theorem H71 (n : Nat) : ∀ h v w (l m : List Int), RdL none 1 h v (l.map fun x : Int => AV.int .u64 x) → RdL none 1 h w (m.map fun x : Int => AV.int .u64 x) → cW (n + 1) 71 [v, w] h = some (.bool (decide (l = m)), h) := fun h v w l m hv hw => by
  obtain ⟨v', h', e, rfl, rfl⟩ := callW_of (n := n) (f := 71) (args := [v, w]) (h := h) (by kernel_rfl) (by kernel_rfl) c71_eq (w71 Try.prog hv hw)
  exact e
theorem H38 (n : Nat) : ∀ h v w (l m : List Int), RdL none 1 h v (l.map fun x : Int => AV.int .i64 x) → RdL none 1 h w (m.map fun x : Int => AV.int .i64 x) → cW (n + 1) 38 [v, w] h = some (.bool (decide (l = m)), h) := fun h v w l m hv hw => by
  obtain ⟨v', h', e, rfl, rfl⟩ := callW_of (n := n) (f := 38) (args := [v, w]) (h := h) (by kernel_rfl) (by kernel_rfl) c38_eq (w38 Try.prog hv hw)
  exact e
theorem H62 (n : Nat) : ∀ h v w (l m : List OpT), RdL (some 7) 7 h v (l.map fun x : OpT => AV.agg (opC x)) → RdL (some 7) 7 h w (m.map fun x : OpT => AV.agg (opC x)) → cW (n + 1) 62 [v, w] h = some (.bool (decide (l = m)), h) := fun h v w l m hv hw => by
  obtain ⟨v', h', e, rfl, rfl⟩ := callW_of (n := n) (f := 62) (args := [v, w]) (h := h) (by kernel_rfl) (by kernel_rfl) c62_eq (w62 hv hw)
  exact e
theorem H37 (n : Nat) : ∀ h v w (l m : List (List OpT)), RdP h v l → RdP h w m → cW (n + 2) 37 [v, w] h = some (.bool (decide (l = m)), h) := fun h v w l m hv hw => by
  obtain ⟨v', h', e, rfl, rfl⟩ := callW_of (n := n + 1) (f := 37) (args := [v, w]) (h := h) (by kernel_rfl) (by kernel_rfl) c37_eq (w37 Try.prog (H62 n) hv hw)
  exact e
theorem H61 (n : Nat) : ∀ h k k' n1 n2 v w (l m : List Int), RdL none 1 h v (l.map fun x : Int => AV.int .u64 x) → RdL none 1 h w (m.map fun x : Int => AV.int .u64 x) → (∀ a, own v = some a → a < h.next) → (∀ a, own w = some a → a < h.next) →
      ∃ v' h', cW (n + 2) 61 [.agg [.int .u8 k, .int .i64 n1, v], .agg [.int .u8 k', .int .i64 n2, w]] h = some (v', h') ∧ SaysB (k = k' ∧ n1 = n2 ∧ l = m) h v' h' :=
  fun h k k' n1 n2 v w l m hv hw hlv hlw => callW_of (by kernel_rfl) (by kernel_rfl) c61_eq (w61 Try.prog (H71 n) hv hw hlv hlw)
theorem H36 (n : Nat) : ∀ h (a b : CfgT) v w, RdL none 1 h v (a.cuts.map fun x : Int => AV.int .u64 x) → RdL none 1 h w (b.cuts.map fun x : Int => AV.int .u64 x) → (∀ x, own v = some x → x < h.next) → (∀ x, own w = some x → x < h.next) → ∃ v' h', cW (n + 3) 36 [.agg (cfgC a v), .agg (cfgC b w)] h = some (v', h') ∧ SaysB (a = b) h v' h' :=
  fun h a b v w hv hw hlv hlw => callW_of (by kernel_rfl) (by kernel_rfl) c36_eq (w36 (H61 n) hv hw hlv hlw)
/-- what EqualScript is told of a script -/
structure IsS (h : H) (v : AV) (c : CfgT) (ps : List (List OpT)) (ks : List Int) : Prop where
  ex : ∃ cv pv kv, v = .agg (cfgC c cv ++ [pv, kv]) ∧ RdL none 1 h cv (c.cuts.map fun x : Int => AV.int .u64 x) ∧ (∀ x, own cv = some x → x < h.next) ∧ RdP h pv ps ∧ RdL none 1 h kv (ks.map fun x : Int => AV.int .i64 x) ∧ ∀ x, own kv = some x → x < h.next
theorem IsS.keep {h h' : H} {v : AV} {c : CfgT} {ps : List (List OpT)} {ks : List Int} (s : IsS h v c ps ks) (st : StepN h h') : IsS h' v c ps ks := by
  obtain ⟨cv, pv, kv, rfl, h1, h2, h3, h4, h5⟩ := s.ex
  exact ⟨cv, pv, kv, rfl, h1.keep fun b hb => st.old b (h2 b hb), fun x hx => Nat.lt_of_lt_of_le (h2 x hx) st.next, RdP.keep h3 st, h4.keep fun b hb => st.old b (h5 b hb), fun x hx => Nat.lt_of_lt_of_le (h5 x hx) st.next⟩
theorem H17 (n : Nat) : ∀ h v w c c' ps ps' ks ks', IsS h v c ps ks → IsS h w c' ps' ks' → ∃ v' h', cW (n + 4) 17 [v, w] h = some (v', h') ∧ SaysB (c = c' ∧ ps = ps' ∧ ks = ks') h v' h' := by
  rintro h v w c c' ps ps' ks ks' ⟨cv, pv, kv, rfl, h1, h2, h3, h4, h5⟩ ⟨cv', pv', kv', rfl, h1', h2', h3', h4', h5'⟩
  exact callW_of (by kernel_rfl) (by kernel_rfl) c17_eq (w17 Try.prog (H36 n) (H37 (n + 1)) (H38 (n + 2)) h1 h1' h2 h2' h3 h3' h4 h4' h5 h5')
theorem opsS_len : ∀ (n : Nat) (r : ByteArray), (opsS n r).1.length = n
  | 0, r => rfl
  | n + 1, r => by show (opsS n (opS r).2).1.length + 1 = n + 1; rw [opsS_len n]
theorem progsS_len : ∀ (n : Nat) (r : ByteArray), (progsS n r).1.length = n ∧ ∀ q ∈ (progsS n r).1, 1 ≤ q.length ∧ q.length ≤ 16
  | 0, r => ⟨rfl, by intro q hq; cases hq⟩
  | n + 1, r => by
    obtain ⟨h1, h2⟩ := progsS_len n (opsS (vl r 16).toNat (nx r)).2
    refine ⟨by show (progsS n _).1.length + 1 = n + 1; rw [h1], ?_⟩
    intro q hq
    rcases List.mem_cons.1 hq with rfl | hq
    · obtain ⟨a, b⟩ := vl_bound r (n := 16) (by decide)
      rw [List.length_cons, opsS_len]
      omega
    · exact h2 q hq
theorem cutsS_len : ∀ (n : Nat) (a : Int) (r : ByteArray), (cutsS n a r).1.length = n
  | 0, a, r => rfl
  | n + 1, a, r => by show (cutsS n _ _).1.length + 1 = n + 1; rw [cutsS_len n]
theorem cuts_len2 (th sl en bu : Int) (r : ByteArray) : (cfgS2 th sl en bu r).1.cuts.length ≤ 3 := by
  obtain ⟨a, b⟩ := vl_bound (nxn 7 r) (n := 3) (by decide)
  dsimp only [cfgS2]
  by_cases h1 : vl (nxn 6 r) 3 = 1
  · rw [if_pos h1]; exact Nat.zero_le _
  · rw [if_neg h1]
    by_cases h2 : vl (nxn 6 r) 3 = 2
    · rw [if_pos h2]; dsimp only; rw [cutsS_len]; omega
    · rw [if_neg h2]; exact Nat.zero_le _
theorem cuts_len (r : ByteArray) : (cfgS r).1.cuts.length ≤ 3 := by
  unfold cfgS
  by_cases h1 : vl (nxn 2 r) 3 = 2
  · rw [if_pos h1]; exact cuts_len2 _ _ _ _ _
  · rw [if_neg h1]; exact cuts_len2 _ _ _ _ _
theorem Post18.isS {s : ByteArray} {h : H} {v : AV} {h' : H} (p : Post18 s h v h') : ∃ c r ps r', cfgS s = (c, r) ∧ progsS c.threads.toNat r = (ps, r') ∧ IsS h' v c ps (picksS c.threads r') ∧ StepN h h' := by
  obtain ⟨c, r, ps, r', cv, pv, kv, h1, h2, rfl, h3, h4, h5, h6, h7⟩ := p
  have hl := progsS_len c.threads.toNat r
  rw [h2] at hl
  obtain ⟨m, hm, m1, m2⟩ := cfgS_ok s
  rw [h1] at hm
  simp only at hm hl
  have hp : (picksS c.threads r').length ≤ 65536 := by unfold picksS; rw [List.length_map, List.length_range]; omega
  have hc : c.cuts.length ≤ 281474976710656 := by
    have := h3.length
    rw [List.length_map] at this
    have : ∀ s : ByteArray, (cfgS s).1.cuts.length ≤ 3 := cuts_len
    have := this s
    rw [h1] at this
    simp only at this
    omega
  exact ⟨c, r, ps, r', h1, h2, ⟨cv, pv, kv, rfl, Own.rdl1 h3 hc, fun x hx => h3.lt hx, PR.rdp h4 (by omega) (fun q hq => by have := (hl.2 q hq).2; omega), Own.rdl1 h5 (by omega), fun x hx => h5.lt hx⟩, h7, h6⟩
theorem cW_ok (n : Nat) : CallOK true Try.prog (cW n) := callW_ok Try.checked.mixed n
/-- from what a function's code does with nothing known to its call in any world -/
theorem calls_of {f : FuncId} {cf : CF} {k : Nat} {call : CallE} (hcall : CallOK true Try.prog call) (hpl : Plain call) {args : List AV} {ARGS : List Value} (ha : VRs rho0 args ARGS) (hk : args.length = k) (h1 : hasE Try.prog f = true) (h2 : Nat.ble ykey f = false) (h3 : cCF Try.prog f k = some cf)
    (hw : WF Try.prog call cf args noH fun v h' => v = .bool true) (W : World) : Calls Try.prog f ARGS.toArray W fun e W' => e = .returned (.bool true) ∧ Below W.heap.size W W' := by
  obtain ⟨v, h', r, rfl⟩ := WF_sound Try.checked.mixed hcall hpl h1 h2 h3 hk hw
  refine (r.ret rho0 W ARGS ha (noH_hr W) rho0_fresh).mono fun e w' hh => ?_
  obtain ⟨ρ', V, rfl, hv, way⟩ := hh
  simp only [VR] at hv
  subst hv
  exact ⟨rfl, way.nx.env.os, way.nx.env.tape, way.nx.env.output, way.nx.size, fun r hr => way.nx.frame r hr fun a o l q1 q2 => by rw [noH_mut a o q1] at q2; simp at q2⟩
end
end Go.Proofs.Ytnmlfhogolonoaa
