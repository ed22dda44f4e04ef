/-
  An evaluator of Go code over relative heaps, part K: operations that make one object.
-/
import Derived.Test.YtnmlfhogolonoaaEvJ
set_option linter.unusedVariables false
set_option linter.unusedSimpArgs false
namespace Go.Proofs.Ytnmlfhogolonoaa.Ev
noncomputable section

/-- an operation that makes one object -/
inductive NOp where
  | new (e : TypeId) (z : List AV)
  | box (e : TypeId) (x : Opd)
  | buildS (e : TypeId) (es len : Nat) (z : List AV) (ps : List (Nat × Nat × Opd))
  | mksl (e : TypeId) (es bytes : Nat) (z : List AV) (l c : Opd)
  | mkmap

def rep (z : List AV) (n : Nat) : List AV := (List.range n).map fun i => (z[i % z.length]?).getD .nilp
def evLen : AV → Option Nat
  | .int _ (.ofNat m) => some m
  | _ => none
def evN (tm : T AV) : NOp → Option (AO × (Nat → AV))
  | .new e z => some (.row (putList 0 z .e) z.length e, fun a => .ptr a 0)
  | .box e x => match evo tm x with
    | some v => match cellsA v with
      | some l => some (.row (putList 0 l .e) l.length e, fun a => .ptr a 0)
      | none => none
    | none => none
  | .buildS e es len z ps => match layAll tm ps z with
    | some l => some (.row (putList 0 l .e) l.length e, fun a => .sl a 0 len es (some len))
    | none => none
  | .mksl e es bytes z l c => match evo tm l, evo tm c with
    | some l, some c => match evLen l, evLen c with
      | some m, some n => cond (Nat.ble m n && Nat.ble (bytes * n) 281474976710656 && Nat.ble n 281474976710656)
          (some (.row (putList 0 (rep z (n * es)) .e) (n * es) e, fun a => .sl a 0 m es (some n))) none
      | _, _ => none
    | _, _ => none
  | .mkmap => some (.map [] 0, fun a => .map a)
def cN (P : Program) (o : Oper) : Option NOp := match o.op with
  | .alloc e => (zcells P e).map (.new e)
  | .box e x => (cOpd x).map (.box e)
  | .buildSlice t len ps => match P.underlying t with
    | some (.slice e) => match sz P e, zcells P e with
      | some es, some z => cond (Nat.ble (len * es) 16777216 && Nat.beq z.length es) (match cParts (fun i => some (i * es, es)) ps.toList with
        | some l => some (.buildS e es len (rep z (len * es)) l)
        | none => none) none
      | _, _ => none
    | _ => none
  | .makeSlice t l c => match P.underlying t with
    | some (.slice e) => match P.info? e, zcells P e, cOpd l, cOpd c with
      | some i, some z, some l, some c => cond (Nat.beq z.length i.size) (some (.mksl e i.size i.bytes z l c)) none
      | _, _, _, _ => none
    | _ => none
  | .makeMap t none => some .mkmap
  | _ => none

theorem rep_sound {ρ : Rho} {z : List AV} {Z : Array Value} (h : VRs ρ z Z.toList) (n : Nat) (hz : n = 0 ∨ 0 < z.length) : VRs ρ (rep z n) ((Array.range n).map (Z[· % Z.size]!)).toList := by
  have hl : Z.size = z.length := by simpa using h.length
  refine VRs.of_get (by simp [rep]) fun i v V hv hV => ?_
  unfold rep at hv
  simp only [List.getElem?_map, Option.map_eq_some_iff] at hv
  obtain ⟨j, hj, rfl⟩ := hv
  have hj' : i < n ∧ j = i := by
    have := List.getElem?_eq_some_iff.1 hj
    obtain ⟨h1, h2⟩ := this
    simp at h1 h2
    exact ⟨h1, h2.symm⟩
  obtain ⟨hin, rfl⟩ := hj'
  have hpos : 0 < z.length := by rcases hz with hz | hz <;> omega
  have hm : j % z.length < z.length := Nat.mod_lt _ hpos
  obtain ⟨U, k1, k2⟩ := h.get (i := j % z.length) (v := z[j % z.length]) (by simp [hm])
  simp [hin] at hV
  subst hV
  rw [hl]
  have e1 : Z[j % z.length]! = U := by
    have : Z[j % z.length]? = some U := by simpa using k1
    simp [getElem!_def, this]
  rw [e1]
  simpa [hm] using k2

/-- what an object's making comes to -/
structure Makes (P : Program) (ρ : Rho) (s : Sem Next) (ao : AO) (f : Nat → AV) : Prop where
  live : ao.live = true
  run : ∃ obj room, (∀ w : World, ∃ V, s.run P w = .ok (.value V) (w.alloc obj) ∧ ∀ (ρ' : Rho) (a : Nat), ρ' a = some ⟨w.heap.size, 0, room⟩ → VR ρ' (f a) V) ∧
    ∀ (ρ' : Rho) (w : World) (b : Nat), Le ρ ρ' → w.heap[b]? = some obj → OIn ρ' w ⟨b, 0, room⟩ ao

theorem row_in {ρ ρ' : Rho} (hle : Le ρ ρ') {vs : List AV} {Vs : List Value} (hv : VRs ρ vs Vs) (h1 : ∀ V ∈ Vs, one V = true) {n : Nat} (hn : n = vs.length) (e : TypeId) {w : World} {b : Nat} (hb : w.heap[b]? = some (.cells Vs.toArray e)) :
    OIn ρ' w ⟨b, 0, n⟩ (.row (putList 0 vs .e) n e) := by
  subst hn
  refine ⟨Nat.le_refl _, Vs.toArray, hb, by simp [hv.length], fun i v hg => ?_⟩
  rw [putList_get] at hg
  have hi : i < vs.length := by
    by_cases hh : 0 ≤ i ∧ i < 0 + vs.length
    · omega
    · rw [if_neg hh, T.get_e] at hg; simp at hg
  rw [if_pos (by omega)] at hg
  have hg2 : vs[i]? = some v := by simpa using hg
  obtain ⟨V, k1, k2⟩ := hv.get hg2
  exact ⟨hi, V, VR.mono hle _ _ k2, h1 V (List.mem_of_getElem? k1), by simpa using k1⟩

theorem layAll_one {tm : T AV} : ∀ {ps : List (Nat × Nat × Opd)} {zs r : List AV}, layAll tm ps zs = some r → zs.all oneA = true → r.all oneA = true ∧ r.length = zs.length
  | [], zs, r, h, hz => by simp [layAll] at h; subst h; exact ⟨hz, rfl⟩
  | (off, n, x) :: ps, zs, r, h, hz => by
    unfold layAll at h
    split at h
    · rename_i v hv
      split at h
      · rename_i l hl
        cases hb : (Nat.beq l.length n && Nat.ble (off + l.length) zs.length)
        · rw [hb] at h; simp at h
        · rw [hb, cond_true] at h
          have hla : l.all oneA = true := by
            cases v <;> simp only [cellsA] at hl
            case agg m =>
              cases hm : m.all oneA
              · rw [hm] at hl; simp at hl
              · rw [hm] at hl; simp at hl; subst hl; exact hm
            all_goals first
              | (simp at hl; done)
              | (simp only [Option.some.injEq] at hl; subst hl; rfl)
          have key : ∀ (l : List AV) (k : Nat) (zs : List AV), l.all oneA = true → zs.all oneA = true → (layAt k l zs).all oneA = true ∧ (layAt k l zs).length = zs.length := by
            intro l
            induction l with
            | nil => intro k zs _ hz; exact ⟨hz, rfl⟩
            | cons c l ih =>
              intro k zs hc hz
              simp only [List.all_cons, Bool.and_eq_true] at hc
              have := ih (k + 1) (zs.set k c) hc.2 (by
                rw [List.all_eq_true] at hz ⊢
                intro x hx
                rcases List.mem_or_eq_of_mem_set hx with hx | rfl
                · exact hz x hx
                · exact hc.1)
              exact ⟨this.1, by simpa [layAt] using this.2⟩
          obtain ⟨k1, k2⟩ := key l off zs hla hz
          obtain ⟨j1, j2⟩ := layAll_one h k1
          exact ⟨j1, j2.trans k2⟩
      · simp at h
    · simp at h
theorem cvs_oneA : ∀ {L : List Value} {l : List AV}, cvs L = some l → l.all oneA = true
  | [], l, h => by simp [cvs] at h; subst h; rfl
  | V :: L, l, h => by
    unfold cvs at h
    split at h
    · rename_i v hv
      split at h
      · rename_i m hm
        simp at h; subst h
        simp only [List.all_cons, cvs_oneA hm, Bool.and_true]
        unfold cv1 at hv
        split at hv <;> first
          | (simp at hv; subst hv; rfl)
          | simp at hv
      · simp at h
    · simp at h
theorem zcells_oneA {P : Program} {t : TypeId} {l : List AV} (h : zcells P t = some l) : l.all oneA = true := by
  unfold zcells at h
  split at h
  · split at h
    · exact cvs_oneA h
    · simp at h
  · simp at h
theorem rep_one {z : List AV} (h : z.all oneA = true) (n : Nat) : (rep z n).all oneA = true := by
  rw [List.all_eq_true] at h ⊢
  intro x hx
  simp only [rep, List.mem_map] at hx
  obtain ⟨i, _, rfl⟩ := hx
  cases hg : z[i % z.length]? with
  | none => rfl
  | some u => exact h u (List.mem_of_getElem? hg)
theorem rep_length (z : List AV) (n : Nat) : (rep z n).length = n := by simp [rep]

theorem evN_sound {P : Program} {o : Oper} {c : NOp} {tm : T AV} {ao : AO} {f : Nat → AV} {ρ : Rho} {a : Act} (hc : cN P o = some c) (h : evN tm c = some (ao, f)) (ht : TR ρ tm a.tmps) : Makes P ρ (execOp a.eval o) ao f := by
  obtain ⟨dst, op, type, pos, after, guard⟩ := o
  unfold cN at hc
  simp only [] at hc
  split at hc
  · rename_i e
    simp only [Option.map_eq_some_iff] at hc
    obtain ⟨z, hz, rfl⟩ := hc
    simp only [evN, Option.some.injEq, Prod.mk.injEq] at h
    obtain ⟨rfl, rfl⟩ := h
    obtain ⟨Z, k1, k2, k3⟩ := run_zeroValue hz ρ default
    have hrun : ∀ w, (zeroValue e).run P w = .ok Z w := fun w => by
      obtain ⟨Z', j1, _⟩ := run_zeroValue hz ρ w
      unfold zcells at hz
      split at hz
      · rename_i i hi
        split at hz
        · rename_i z' hz'
          simp [zeroValue, run_typeInfo hi, hz'] at k1 ⊢
          exact k1
        · simp at hz
      · simp at hz
    refine ⟨rfl, .cells Z.cells e, z.length, fun w => ⟨.pointer (some ⟨w.heap.size, 0, none⟩), ?_, fun ρ' b hb => ⟨_, hb, rfl⟩⟩, fun ρ' w b hle hb => ?_⟩
    · simp [execOp, Instr.alloc, hrun, newVar, newRow]
    · exact row_in hle k2 k3 rfl e (by simpa using hb)
  · rename_i e x
    simp only [Option.map_eq_some_iff] at hc
    obtain ⟨y, hy, rfl⟩ := hc
    simp only [evN] at h
    split at h
    · rename_i v hv
      split at h
      · rename_i l hl
        simp only [Option.some.injEq, Prod.mk.injEq] at h
        obtain ⟨rfl, rfl⟩ := h
        obtain ⟨k1, k2⟩ := cellsA_sound (evo_sound ht hy hv) hl
        refine ⟨rfl, .cells (a.eval x).cells e, l.length, fun w => ⟨.pointer (some ⟨w.heap.size, 0, none⟩), ?_, fun ρ' b hb => ⟨_, hb, rfl⟩⟩, fun ρ' w b hle hb => ?_⟩
        · simp [execOp, Instr.box, newVar, newRow]
        · exact row_in hle k1 k2 rfl e (by simpa using hb)
      · simp at h
    · simp at h
  · rename_i t len ps
    split at hc
    · rename_i e hu
      split at hc
      · rename_i es z hs hz
        cases hb : (Nat.ble (len * es) 16777216 && Nat.beq z.length es)
        · rw [hb] at hc; simp at hc
        · rw [hb, cond_true] at hc
          simp only [Bool.and_eq_true] at hb
          have hle := Nat.le_of_ble_eq_true hb.1
          have hzl := Nat.eq_of_beq_eq_true hb.2
          split at hc
          · rename_i l hl
            simp at hc; subst hc
            simp only [evN] at h
            split at h
            · rename_i r hr
              simp only [Option.some.injEq, Prod.mk.injEq] at h
              obtain ⟨rfl, rfl⟩ := h
              obtain ⟨Z, k1, k2, k3⟩ := run_zeroValue hz ρ default
              have hrun : ∀ w, (zeroValue e).run P w = .ok Z w := fun w => by
                unfold zcells at hz
                split at hz
                · rename_i i hi
                  split at hz
                  · rename_i z' hz'
                    simp [zeroValue, run_typeInfo hi, hz'] at k1 ⊢
                    exact k1
                  · simp at hz
                · simp at hz
              have hzero : len * es = 0 ∨ 0 < z.length := by
                rcases Nat.eq_zero_or_pos z.length with h0 | h0
                · left; rw [← hzl, h0]; rfl
                · exact .inr h0
              have hrep := rep_sound k2 (len * es) hzero
              obtain ⟨R, e1, e2⟩ := fill_sound ht hl hr hrep
              obtain ⟨ho, hlen⟩ := layAll_one hr (rep_one (zcells_oneA hz) _)
              rw [rep_length] at hlen
              refine ⟨rfl, .cells R e, r.length, fun w => ⟨.slice (some ⟨w.heap.size, 0, none⟩) len len, ?_, fun ρ' b hb => ⟨_, hb, Nat.le_refl _, rfl⟩⟩, fun ρ' w b hle hb => ?_⟩
              · simp only [execOp, Instr.buildSlice, Sem.run_bind, Go.Proofs.Ytnmlfhogolonoaa.Ev.run_underlying hu, Result.andThen_ok, run_sizeOf hs]
                rw [if_neg (by omega)]
                by_cases h0 : len * es = 0
                · have r0 : ∀ f : Nat → Value, (Array.range 0).map f = #[] := fun f => by simp
                  simp only [h0, r0] at e1
                  simp [h0, r0, newRow, e1]
                · simp [h0, hrun, newRow, e1]
              · exact row_in hle e2 (all_one e2 ho) rfl e (by simpa using hb)
            · simp at h
          · simp at hc
      · simp at hc
    · simp at hc
  · rename_i t l c
    split at hc
    · rename_i e hu
      split at hc
      · rename_i i z l' c' hi hz hl hcc
        cases hb : Nat.beq z.length i.size
        · rw [hb] at hc; simp at hc
        · rw [hb, cond_true] at hc
          have hzl := Nat.eq_of_beq_eq_true hb
          simp at hc; subst hc
          simp only [evN] at h
          split at h
          · rename_i lv cv hlv hcv
            split at h
            · rename_i m n hm hn
              cases hk : (Nat.ble m n && Nat.ble (i.bytes * n) 281474976710656 && Nat.ble n 281474976710656)
              · rw [hk] at h; simp at h
              · rw [hk, cond_true] at h
                simp only [Bool.and_eq_true] at hk
                have k1 := Nat.le_of_ble_eq_true hk.1.1
                have k2 := Nat.le_of_ble_eq_true hk.1.2
                have k3 := Nat.le_of_ble_eq_true hk.2
                simp only [Option.some.injEq, Prod.mk.injEq] at h
                obtain ⟨rfl, rfl⟩ := h
                have hL : ∃ k, a.eval l = .int k (m : Int) := by
                  have := evo_sound ht hl hlv
                  unfold evLen at hm
                  split at hm
                  · simp at hm; subst hm; simp only [VR] at this; exact ⟨_, this⟩
                  · simp at hm
                have hC : ∃ k, a.eval c = .int k (n : Int) := by
                  have := evo_sound ht hcc hcv
                  unfold evLen at hn
                  split at hn
                  · simp at hn; subst hn; simp only [VR] at this; exact ⟨_, this⟩
                  · simp at hn
                obtain ⟨kl, hL⟩ := hL
                obtain ⟨kc, hC⟩ := hC
                have hs : sz P e = some i.size := by simp [sz, hi]
                obtain ⟨Z, z1, z2, z3⟩ := run_zeroValue hz ρ default
                have hrun : ∀ w, (zeroValue e).run P w = .ok Z w := fun w => by
                  unfold zcells at hz
                  rw [hi] at hz
                  simp only [] at hz
                  split at hz
                  · rename_i z' hz'
                    simp [zeroValue, run_typeInfo hi, hz'] at z1 ⊢
                    exact z1
                  · simp at hz
                have hzero : n * i.size = 0 ∨ 0 < z.length := by
                  rcases Nat.eq_zero_or_pos z.length with h0 | h0
                  · left; rw [← hzl, h0]; rfl
                  · exact .inr h0
                have hrep := rep_sound z2 (n * i.size) hzero
                have wl : IntKind.i64.wrap (m : Int) = m := IntWalk.i64_in _ (by omega)
                have wc : IntKind.i64.wrap (n : Int) = n := IntWalk.i64_in _ (by omega)
                have hbytes : ¬ ((2 : Int) ^ 48 < (i.bytes : Int) * (n : Int)) := by
                  have this : ((i.bytes * n : Nat) : Int) ≤ ((281474976710656 : Nat) : Int) := Int.ofNat_le.2 k2
                  rw [Int.natCast_mul] at this
                  have e48 : (2 : Int) ^ 48 = ((281474976710656 : Nat) : Int) := by decide +kernel
                  rw [e48]
                  exact Int.not_lt.2 this
                refine ⟨rfl, .cells ((Array.range (n * i.size)).map (Z.cells[· % Z.cells.size]!)) e, n * i.size, fun w => ⟨.slice (some ⟨w.heap.size, 0, none⟩) m n, ?_, fun ρ' b hb => ⟨_, hb, k1, rfl⟩⟩, fun ρ' w b hle hb => ?_⟩
                · simp only [execOp, Instr.makeSlice, Sem.run_bind, Go.Proofs.Ytnmlfhogolonoaa.Ev.run_underlying hu, Result.andThen_ok, hL, hC, asInt, asIntOf, Sem.run_pure, run_typeInfo hi, wl, wc]
                  have hcond : ((decide ((n : Int) < 0) || decide ((i.bytes : Int) * (n : Int) > 2 ^ 48)) || decide ((m : Int) < 0) || decide ((m : Int) > (n : Int))) = false := by
                    simp only [Bool.or_eq_false_iff, decide_eq_false_iff_not]
                    refine ⟨⟨⟨by omega, hbytes⟩, by omega⟩, by omega⟩
                  rw [if_neg (by rw [hcond]; exact Bool.false_ne_true)]
                  simp only [Sem.run_bind, Sem.run_pure, run_askRoom, Result.andThen_ok, run_sizeOf hs, Int.toNat_natCast]
                  have r0 : ∀ f : Nat → Value, (Array.range 0).map f = #[] := fun f => by simp
                  by_cases h0 : n * i.size = 0
                  · simp only [h0, if_true, Sem.run_pure, Result.andThen_ok, r0]; simp [newRow]
                  · simp [h0, newRow, hrun]
                · refine row_in hle hrep (all_one hrep (rep_one (zcells_oneA hz) _)) (by rw [rep_length]) e (by rw [Array.toArray_toList]; exact hb)
            · simp at h
          · simp at h
      · simp at hc
    · simp at hc
  · rename_i t
    simp at hc; subst hc
    simp only [evN, Option.some.injEq, Prod.mk.injEq] at h
    obtain ⟨rfl, rfl⟩ := h
    refine ⟨rfl, .map #[] 0, 0, fun w => ⟨.map (some w.heap.size), ?_, fun ρ' b hb => ⟨_, hb, rfl⟩⟩, fun ρ' w b hle hb => ⟨[], rfl, hb⟩⟩
    simp [execOp, Instr.makeMap]
  · simp at hc
end
end Go.Proofs.Ytnmlfhogolonoaa.Ev
