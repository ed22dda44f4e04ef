/-
  An evaluator of Go code over relative heaps, part K: operations that make one object.
  An evaluator of Go code over relative heaps, part L: stores and appends.
-/
import Derived.Test.YtldmhpdjlgoenaaGreatDoorEoJ
set_option linter.unusedVariables false
set_option linter.unusedSimpArgs false
namespace Go.Proofs.YtldmhpdjlgoenaaGreatDoor.Eo
noncomputable section

/-- an operation that makes one object -/
inductive NOp where
  | new (e : TypeId) (z : List AV)
  | box (e : TypeId) (x : Opd)
  | buildS (e : TypeId) (es len : Nat) (z : List AV) (ps : List (Nat × Nat × Opd))
  | mksl (e : TypeId) (es bytes : Nat) (z : List AV) (l c : Opd)
  | mkmap

def rep (z : List AV) (n : Nat) : List AV := (List.range n).map fun i => (z[i % z.length]?).getD .nilp
def evLen : AV → Option Nat
  | .int _ (.ofNat m) => some m
  | _ => none
def evN (tm : T AV) : NOp → Option (AO × (Nat → AV))
  | .new e z => some (.row (putList 0 z .e) z.length e, fun a => .ptr a 0)
  | .box e x => match evo tm x with
    | some v => match cellsA v with
      | some l => some (.row (putList 0 l .e) l.length e, fun a => .ptr a 0)
      | none => none
    | none => none
  | .buildS e es len z ps => match layAll tm ps z with
    | some l => some (.row (putList 0 l .e) l.length e, fun a => .sl a 0 len es (some len))
    | none => none
  | .mksl e es bytes z l c => match evo tm l, evo tm c with
    | some l, some c => match evLen l, evLen c with
      | some m, some n => cond (Nat.ble m n && Nat.ble (bytes * n) 281474976710656 && Nat.ble n 281474976710656)
          (some (.row (putList 0 (rep z (n * es)) .e) (n * es) e, fun a => .sl a 0 m es (some n))) none
      | _, _ => none
    | _, _ => none
  | .mkmap => some (.map [] 0, fun a => .map a)
def cN (P : Program) (o : Oper) : Option NOp := match o.op with
  | .alloc e => (zcells P e).map (.new e)
  | .box e x => (cOpd x).map (.box e)
  | .buildSlice t len ps => match P.underlying t with
    | some (.slice e) => match sz P e, zcells P e with
      | some es, some z => cond (Nat.ble (len * es) 16777216 && Nat.beq z.length es) (match cParts (fun i => some (i * es, es)) ps.toList with
        | some l => some (.buildS e es len (rep z (len * es)) l)
        | none => none) none
      | _, _ => none
    | _ => none
  | .makeSlice t l c => match P.underlying t with
    | some (.slice e) => match P.info? e, zcells P e, cOpd l, cOpd c with
      | some i, some z, some l, some c => cond (Nat.beq z.length i.size) (some (.mksl e i.size i.bytes z l c)) none
      | _, _, _, _ => none
    | _ => none
  | .makeMap t none => some .mkmap
  | _ => none

theorem rep_sound {ρ : Rho} {z : List AV} {Z : Array Value} (h : VRs ρ z Z.toList) (n : Nat) (hz : n = 0 ∨ 0 < z.length) : VRs ρ (rep z n) ((Array.range n).map (Z[· % Z.size]!)).toList := by
  have hl : Z.size = z.length := by simpa using h.length
  refine VRs.of_get (by simp [rep]) fun i v V hv hV => ?_
  unfold rep at hv
  simp only [List.getElem?_map, Option.map_eq_some_iff] at hv
  obtain ⟨j, hj, rfl⟩ := hv
  have hj' : i < n ∧ j = i := by
    have := List.getElem?_eq_some_iff.1 hj
    obtain ⟨h1, h2⟩ := this
    simp at h1 h2
    exact ⟨h1, h2.symm⟩
  obtain ⟨hin, rfl⟩ := hj'
  have hpos : 0 < z.length := by rcases hz with hz | hz <;> omega
  have hm : j % z.length < z.length := Nat.mod_lt _ hpos
  obtain ⟨U, k1, k2⟩ := h.get (i := j % z.length) (v := z[j % z.length]) (by simp [hm])
  simp [hin] at hV
  subst hV
  rw [hl]
  have e1 : Z[j % z.length]! = U := by
    have : Z[j % z.length]? = some U := by simpa using k1
    simp [getElem!_def, this]
  rw [e1]
  simpa [hm] using k2

/-- what an object's making comes to -/
structure Makes (P : Program) (ρ : Rho) (s : Sem Next) (ao : AO) (f : Nat → AV) : Prop where
  live : ao.live = true
  run : ∃ obj room, (∀ w : World, ∃ V, s.run P w = .ok (.value V) (w.alloc obj) ∧ ∀ (ρ' : Rho) (a : Nat), ρ' a = some ⟨w.heap.size, 0, room⟩ → VR ρ' (f a) V) ∧
    ∀ (ρ' : Rho) (w : World) (b : Nat), Le ρ ρ' → w.heap[b]? = some obj → OIn ρ' w ⟨b, 0, room⟩ ao

theorem row_in {ρ ρ' : Rho} (hle : Le ρ ρ') {vs : List AV} {Vs : List Value} (hv : VRs ρ vs Vs) (h1 : ∀ V ∈ Vs, one V = true) {n : Nat} (hn : n = vs.length) (e : TypeId) {w : World} {b : Nat} (hb : w.heap[b]? = some (.cells Vs.toArray e)) :
    OIn ρ' w ⟨b, 0, n⟩ (.row (putList 0 vs .e) n e) := by
  subst hn
  refine ⟨Nat.le_refl _, Vs.toArray, hb, by simp [hv.length], fun i v hg => ?_⟩
  rw [putList_get] at hg
  have hi : i < vs.length := by
    by_cases hh : 0 ≤ i ∧ i < 0 + vs.length
    · omega
    · rw [if_neg hh, T.get_e] at hg; simp at hg
  rw [if_pos (by omega)] at hg
  have hg2 : vs[i]? = some v := by simpa using hg
  obtain ⟨V, k1, k2⟩ := hv.get hg2
  exact ⟨hi, V, VR.mono hle _ _ k2, h1 V (List.mem_of_getElem? k1), by simpa using k1⟩

theorem layAll_one {tm : T AV} : ∀ {ps : List (Nat × Nat × Opd)} {zs r : List AV}, layAll tm ps zs = some r → zs.all oneA = true → r.all oneA = true ∧ r.length = zs.length
  | [], zs, r, h, hz => by simp [layAll] at h; subst h; exact ⟨hz, rfl⟩
  | (off, n, x) :: ps, zs, r, h, hz => by
    unfold layAll at h
    split at h
    · rename_i v hv
      split at h
      · rename_i l hl
        cases hb : (Nat.beq l.length n && Nat.ble (off + l.length) zs.length)
        · rw [hb] at h; simp at h
        · rw [hb, cond_true] at h
          have hla : l.all oneA = true := by
            cases v <;> simp only [cellsA] at hl
            case agg m =>
              cases hm : m.all oneA
              · rw [hm] at hl; simp at hl
              · rw [hm] at hl; simp at hl; subst hl; exact hm
            all_goals first
              | (simp at hl; done)
              | (simp only [Option.some.injEq] at hl; subst hl; rfl)
          have key : ∀ (l : List AV) (k : Nat) (zs : List AV), l.all oneA = true → zs.all oneA = true → (layAt k l zs).all oneA = true ∧ (layAt k l zs).length = zs.length := by
            intro l
            induction l with
            | nil => intro k zs _ hz; exact ⟨hz, rfl⟩
            | cons c l ih =>
              intro k zs hc hz
              simp only [List.all_cons, Bool.and_eq_true] at hc
              have := ih (k + 1) (zs.set k c) hc.2 (by
                rw [List.all_eq_true] at hz ⊢
                intro x hx
                rcases List.mem_or_eq_of_mem_set hx with hx | rfl
                · exact hz x hx
                · exact hc.1)
              exact ⟨this.1, by simpa [layAt] using this.2⟩
          obtain ⟨k1, k2⟩ := key l off zs hla hz
          obtain ⟨j1, j2⟩ := layAll_one h k1
          exact ⟨j1, j2.trans k2⟩
      · simp at h
    · simp at h
theorem cvs_oneA : ∀ {L : List Value} {l : List AV}, cvs L = some l → l.all oneA = true
  | [], l, h => by simp [cvs] at h; subst h; rfl
  | V :: L, l, h => by
    unfold cvs at h
    split at h
    · rename_i v hv
      split at h
      · rename_i m hm
        simp at h; subst h
        simp only [List.all_cons, cvs_oneA hm, Bool.and_true]
        unfold cv1 at hv
        split at hv <;> first
          | (simp at hv; subst hv; rfl)
          | simp at hv
      · simp at h
    · simp at h
theorem zcells_oneA {P : Program} {t : TypeId} {l : List AV} (h : zcells P t = some l) : l.all oneA = true := by
  unfold zcells at h
  split at h
  · split at h
    · exact cvs_oneA h
    · simp at h
  · simp at h
theorem rep_one {z : List AV} (h : z.all oneA = true) (n : Nat) : (rep z n).all oneA = true := by
  rw [List.all_eq_true] at h ⊢
  intro x hx
  simp only [rep, List.mem_map] at hx
  obtain ⟨i, _, rfl⟩ := hx
  cases hg : z[i % z.length]? with
  | none => rfl
  | some u => exact h u (List.mem_of_getElem? hg)
theorem rep_length (z : List AV) (n : Nat) : (rep z n).length = n := by simp [rep]

theorem evN_sound {P : Program} {o : Oper} {c : NOp} {tm : T AV} {ao : AO} {f : Nat → AV} {ρ : Rho} {a : Act} (hc : cN P o = some c) (h : evN tm c = some (ao, f)) (ht : TR ρ tm a.tmps) : Makes P ρ (execOp a.eval o) ao f := by
  obtain ⟨dst, op, type, pos, after, guard⟩ := o
  unfold cN at hc
  simp only [] at hc
  split at hc
  · rename_i e
    simp only [Option.map_eq_some_iff] at hc
    obtain ⟨z, hz, rfl⟩ := hc
    simp only [evN, Option.some.injEq, Prod.mk.injEq] at h
    obtain ⟨rfl, rfl⟩ := h
    obtain ⟨Z, k1, k2, k3⟩ := run_zeroValue hz ρ default
    have hrun : ∀ w, (zeroValue e).run P w = .ok Z w := fun w => by
      obtain ⟨Z', j1, _⟩ := run_zeroValue hz ρ w
      unfold zcells at hz
      split at hz
      · rename_i i hi
        split at hz
        · rename_i z' hz'
          simp [zeroValue, run_typeInfo hi, hz'] at k1 ⊢
          exact k1
        · simp at hz
      · simp at hz
    refine ⟨rfl, .cells Z.cells e, z.length, fun w => ⟨.pointer (some ⟨w.heap.size, 0, none⟩), ?_, fun ρ' b hb => ⟨_, hb, rfl⟩⟩, fun ρ' w b hle hb => ?_⟩
    · simp [execOp, Instr.alloc, hrun, newVar, newRow]
    · exact row_in hle k2 k3 rfl e (by simpa using hb)
  · rename_i e x
    simp only [Option.map_eq_some_iff] at hc
    obtain ⟨y, hy, rfl⟩ := hc
    simp only [evN] at h
    split at h
    · rename_i v hv
      split at h
      · rename_i l hl
        simp only [Option.some.injEq, Prod.mk.injEq] at h
        obtain ⟨rfl, rfl⟩ := h
        obtain ⟨k1, k2⟩ := cellsA_sound (evo_sound ht hy hv) hl
        refine ⟨rfl, .cells (a.eval x).cells e, l.length, fun w => ⟨.pointer (some ⟨w.heap.size, 0, none⟩), ?_, fun ρ' b hb => ⟨_, hb, rfl⟩⟩, fun ρ' w b hle hb => ?_⟩
        · simp [execOp, Instr.box, newVar, newRow]
        · exact row_in hle k1 k2 rfl e (by simpa using hb)
      · simp at h
    · simp at h
  · rename_i t len ps
    split at hc
    · rename_i e hu
      split at hc
      · rename_i es z hs hz
        cases hb : (Nat.ble (len * es) 16777216 && Nat.beq z.length es)
        · rw [hb] at hc; simp at hc
        · rw [hb, cond_true] at hc
          simp only [Bool.and_eq_true] at hb
          have hle := Nat.le_of_ble_eq_true hb.1
          have hzl := Nat.eq_of_beq_eq_true hb.2
          split at hc
          · rename_i l hl
            simp at hc; subst hc
            simp only [evN] at h
            split at h
            · rename_i r hr
              simp only [Option.some.injEq, Prod.mk.injEq] at h
              obtain ⟨rfl, rfl⟩ := h
              obtain ⟨Z, k1, k2, k3⟩ := run_zeroValue hz ρ default
              have hrun : ∀ w, (zeroValue e).run P w = .ok Z w := fun w => by
                unfold zcells at hz
                split at hz
                · rename_i i hi
                  split at hz
                  · rename_i z' hz'
                    simp [zeroValue, run_typeInfo hi, hz'] at k1 ⊢
                    exact k1
                  · simp at hz
                · simp at hz
              have hzero : len * es = 0 ∨ 0 < z.length := by
                rcases Nat.eq_zero_or_pos z.length with h0 | h0
                · left; rw [← hzl, h0]; rfl
                · exact .inr h0
              have hrep := rep_sound k2 (len * es) hzero
              obtain ⟨R, e1, e2⟩ := fill_sound ht hl hr hrep
              obtain ⟨ho, hlen⟩ := layAll_one hr (rep_one (zcells_oneA hz) _)
              rw [rep_length] at hlen
              refine ⟨rfl, .cells R e, r.length, fun w => ⟨.slice (some ⟨w.heap.size, 0, none⟩) len len, ?_, fun ρ' b hb => ⟨_, hb, Nat.le_refl _, rfl⟩⟩, fun ρ' w b hle hb => ?_⟩
              · simp only [execOp, Instr.buildSlice, Sem.run_bind, Go.Proofs.YtldmhpdjlgoenaaGreatDoor.Eo.run_underlying hu, Result.andThen_ok, run_sizeOf hs]
                rw [if_neg (by omega)]
                by_cases h0 : len * es = 0
                · have r0 : ∀ f : Nat → Value, (Array.range 0).map f = #[] := fun f => by simp
                  simp only [h0, r0] at e1
                  simp [h0, r0, newRow, e1]
                · simp [h0, hrun, newRow, e1]
              · exact row_in hle e2 (all_one e2 ho) rfl e (by simpa using hb)
            · simp at h
          · simp at hc
      · simp at hc
    · simp at hc
  · rename_i t l c
    split at hc
    · rename_i e hu
      split at hc
      · rename_i i z l' c' hi hz hl hcc
        cases hb : Nat.beq z.length i.size
        · rw [hb] at hc; simp at hc
        · rw [hb, cond_true] at hc
          have hzl := Nat.eq_of_beq_eq_true hb
          simp at hc; subst hc
          simp only [evN] at h
          split at h
          · rename_i lv cv hlv hcv
            split at h
            · rename_i m n hm hn
              cases hk : (Nat.ble m n && Nat.ble (i.bytes * n) 281474976710656 && Nat.ble n 281474976710656)
              · rw [hk] at h; simp at h
              · rw [hk, cond_true] at h
                simp only [Bool.and_eq_true] at hk
                have k1 := Nat.le_of_ble_eq_true hk.1.1
                have k2 := Nat.le_of_ble_eq_true hk.1.2
                have k3 := Nat.le_of_ble_eq_true hk.2
                simp only [Option.some.injEq, Prod.mk.injEq] at h
                obtain ⟨rfl, rfl⟩ := h
                have hL : ∃ k, a.eval l = .int k (m : Int) := by
                  have := evo_sound ht hl hlv
                  unfold evLen at hm
                  split at hm
                  · simp at hm; subst hm; simp only [VR] at this; exact ⟨_, this⟩
                  · simp at hm
                have hC : ∃ k, a.eval c = .int k (n : Int) := by
                  have := evo_sound ht hcc hcv
                  unfold evLen at hn
                  split at hn
                  · simp at hn; subst hn; simp only [VR] at this; exact ⟨_, this⟩
                  · simp at hn
                obtain ⟨kl, hL⟩ := hL
                obtain ⟨kc, hC⟩ := hC
                have hs : sz P e = some i.size := by simp [sz, hi]
                obtain ⟨Z, z1, z2, z3⟩ := run_zeroValue hz ρ default
                have hrun : ∀ w, (zeroValue e).run P w = .ok Z w := fun w => by
                  unfold zcells at hz
                  rw [hi] at hz
                  simp only [] at hz
                  split at hz
                  · rename_i z' hz'
                    simp [zeroValue, run_typeInfo hi, hz'] at z1 ⊢
                    exact z1
                  · simp at hz
                have hzero : n * i.size = 0 ∨ 0 < z.length := by
                  rcases Nat.eq_zero_or_pos z.length with h0 | h0
                  · left; rw [← hzl, h0]; rfl
                  · exact .inr h0
                have hrep := rep_sound z2 (n * i.size) hzero
                have wl : IntKind.i64.wrap (m : Int) = m := IntWalk.i64_in _ (by omega)
                have wc : IntKind.i64.wrap (n : Int) = n := IntWalk.i64_in _ (by omega)
                have hbytes : ¬ ((2 : Int) ^ 48 < (i.bytes : Int) * (n : Int)) := by
                  have this : ((i.bytes * n : Nat) : Int) ≤ ((281474976710656 : Nat) : Int) := Int.ofNat_le.2 k2
                  rw [Int.natCast_mul] at this
                  have e48 : (2 : Int) ^ 48 = ((281474976710656 : Nat) : Int) := by decide +kernel
                  rw [e48]
                  exact Int.not_lt.2 this
                refine ⟨rfl, .cells ((Array.range (n * i.size)).map (Z.cells[· % Z.cells.size]!)) e, n * i.size, fun w => ⟨.slice (some ⟨w.heap.size, 0, none⟩) m n, ?_, fun ρ' b hb => ⟨_, hb, k1, rfl⟩⟩, fun ρ' w b hle hb => ?_⟩
                · simp only [execOp, Instr.makeSlice, Sem.run_bind, Go.Proofs.YtldmhpdjlgoenaaGreatDoor.Eo.run_underlying hu, Result.andThen_ok, hL, hC, asInt, asIntOf, Sem.run_pure, run_typeInfo hi, wl, wc]
                  have hcond : ((decide ((n : Int) < 0) || decide ((i.bytes : Int) * (n : Int) > 2 ^ 48)) || decide ((m : Int) < 0) || decide ((m : Int) > (n : Int))) = false := by
                    simp only [Bool.or_eq_false_iff, decide_eq_false_iff_not]
                    refine ⟨⟨⟨by omega, hbytes⟩, by omega⟩, by omega⟩
                  rw [if_neg (by rw [hcond]; exact Bool.false_ne_true)]
                  simp only [Sem.run_bind, Sem.run_pure, run_askRoom, Result.andThen_ok, run_sizeOf hs, Int.toNat_natCast]
                  have r0 : ∀ f : Nat → Value, (Array.range 0).map f = #[] := fun f => by simp
                  by_cases h0 : n * i.size = 0
                  · simp only [h0, if_true, Sem.run_pure, Result.andThen_ok, r0]; simp [newRow]
                  · simp [h0, newRow, hrun]
                · refine row_in hle hrep (all_one hrep (rep_one (zcells_oneA hz) _)) (by rw [rep_length]) e (by rw [Array.toArray_toList]; exact hb)
            · simp at h
          · simp at h
      · simp at hc
    · simp at hc
  · rename_i t
    simp at hc; subst hc
    simp only [evN, Option.some.injEq, Prod.mk.injEq] at h
    obtain ⟨rfl, rfl⟩ := h
    refine ⟨rfl, .map #[] 0, 0, fun w => ⟨.map (some w.heap.size), ?_, fun ρ' b hb => ⟨_, hb, rfl⟩⟩, fun ρ' w b hle hb => ⟨[], rfl, hb⟩⟩
    simp [execOp, Instr.makeMap]
  · simp at hc
end
end Go.Proofs.YtldmhpdjlgoenaaGreatDoor.Eo

namespace Go.Proofs.YtldmhpdjlgoenaaGreatDoor.Eo
noncomputable section

/-- what an operation that changes memory comes to -/
def EOut (P : Program) (s : Sem Next) (ρ : Rho) (h : H) (w : World) (v : AV) (h' : H) : Prop :=
  ∃ ρ' w' V, (s.run P w = .ok (.value V) w' ∨ s.run P w = .ok .skip w' ∧ V = undef) ∧ VR ρ' v V ∧ Way ρ h w ρ' h' w'

theorem next_le (need old : Nat) (h : old < need) : Builtin.nextslicecap need old ≤ 2 * need + 192 := by
  unfold Builtin.nextslicecap
  split
  · omega
  · split
    · omega
    · have key : ∀ r c, c ≤ 2 * need + 192 → Builtin.growBy need r c ≤ 2 * need + 192 := by
        intro r
        induction r with
        | zero => intro c hc; simpa [Builtin.growBy] using hc
        | succ r ih =>
          intro c hc
          unfold Builtin.growBy
          split
          · exact hc
          · exact ih _ (by omega)
      exact key 4 old (by omega)

theorem next_nul (n : Nat) (h : 0 < n) : Builtin.nextslicecap (0 + n) 0 ≤ n := by
  unfold Builtin.nextslicecap
  rw [if_pos (by omega)]
  omega

theorem zeroCells_size (z : Array Value) (n : Nat) : (Builtin.zeroCells z n).size = n * z.size := by simp [Builtin.zeroCells]

/-- an append that fits -/
theorem run_app_in {P : Program} {ts tx e : TypeId} {ats : Array TypeId} {ex : TypeId} {es : Nat} (h0 : ats[0]? = some ts) (h1 : ats[1]? = some tx) (hu : P.underlying ts = some (.slice e)) (hx : P.underlying tx = some (.slice ex)) (hs : sz P e = some es)
    {p : Option Addr} {len cap n c2 : Nat} {q : Option Addr} {SRC : List Value} {w w' : World} (hfit : len + n ≤ cap) (hsrc : (Builtin.firstCells es n (.slice q n c2)).run P w = .ok SRC.toArray w)
    (hst : (match p with | some a => storeCells (a.add (len * es)) SRC | none => pure () : Sem Unit).run P w = .ok () w') (type : TypeId) :
    (Builtin.append_ ats type #[.slice p len cap, .slice q n c2]).run P w = .ok (.slice p (len + n) cap) w' := by
  unfold Builtin.append_
  simp only [h0, h1, List.getElem?_toArray, List.getElem?_cons_zero, List.getElem?_cons_succ, Sem.run_bind, Go.Proofs.YtldmhpdjlgoenaaGreatDoor.Eo.run_underlying hu, Go.Proofs.YtldmhpdjlgoenaaGreatDoor.Eo.run_underlying hx, Result.andThen_ok, run_sizeOf hs, Sem.run_pure, Builtin.lenOf, Bool.false_eq_true, if_false, if_pos hfit, Bool.not_false, if_true, hsrc]
  cases p with
  | none => simp at hst ⊢; exact hst
  | some a => simp only [] at hst; simp [hst]

/-- an append that makes a new row -/
theorem run_app_new {P : Program} {ts tx e ex : TypeId} {ats : Array TypeId} {es : Nat} {i : TypeInfo} {Z : Value} (h0 : ats[0]? = some ts) (h1 : ats[1]? = some tx) (hu : P.underlying ts = some (.slice e)) (hx : P.underlying tx = some (.slice ex)) (hi : P.info? e = some i) (hs : i.size = es)
    (hz : ∀ w, (zeroValue e).run P w = .ok Z w) {p q : Option Addr} {len cap n c2 : Nat} {OLD SRC : List Value} {w : World} (hfit : cap < len + n) {lim : Nat} (hlim : Builtin.nextslicecap (len + n) cap ≤ lim) (hb : lim * i.bytes ≤ 281474976710656) (hn : len + n ≤ 281474976710656)
    (hold : ∀ w' : World, w'.heap = w.heap → (Builtin.firstCells es len (.slice p len cap)).run P w' = .ok OLD.toArray w') (hsrc : ∀ w' : World, w'.heap = w.heap → (Builtin.firstCells es n (.slice q n c2)).run P w' = .ok SRC.toArray w') (type : TypeId) :
    ∃ m w', len + n ≤ m ∧ w'.heap = w.heap.push (.cells (OLD.toArray ++ SRC.toArray ++ Builtin.zeroCells Z.cells (m - (len + n))) e) ∧ Env w w' ∧
      (Builtin.append_ ats type #[.slice p len cap, .slice q n c2]).run P w = .ok (.slice (some ⟨w.heap.size, 0, none⟩) (len + n) m) w' := by
  subst hs
  refine ⟨(Question.appendCap (len + n) cap e).cut (w.tape w.drawn (.appendCap (len + n) cap e)), { w with drawn := w.drawn + 1, heap := w.heap.push (.cells (OLD.toArray ++ SRC.toArray ++ Builtin.zeroCells Z.cells ((Question.appendCap (len + n) cap e).cut (w.tape w.drawn (.appendCap (len + n) cap e)) - (len + n))) e) }, ?_, rfl, ⟨rfl, rfl, rfl⟩, ?_⟩
  · simp only [Question.cut]; omega
  · have hle : Builtin.nextslicecap (len + n) cap * i.bytes ≤ lim * i.bytes := Nat.mul_le_mul_right _ hlim
    have e48 : (2 : Nat) ^ 48 = 281474976710656 := by decide +kernel
    have c1 : ¬ (Builtin.nextslicecap (len + n) cap * i.bytes > 2 ^ 48) := by rw [e48]; omega
    have hmax : IntKind.i64.max = 9223372036854775807 := by decide +kernel
    have c2 : ¬ (((len + n : Nat) : Int) > IntKind.i64.max) := by rw [hmax]; omega
    unfold Builtin.append_
    simp only [h0, h1, List.getElem?_toArray, List.getElem?_cons_zero, List.getElem?_cons_succ, Sem.run_bind, Go.Proofs.YtldmhpdjlgoenaaGreatDoor.Eo.run_underlying hu, Go.Proofs.YtldmhpdjlgoenaaGreatDoor.Eo.run_underlying hx, Result.andThen_ok, sizeOf, run_typeInfo hi, Sem.run_pure, Builtin.lenOf, Bool.false_eq_true, if_false, Bool.not_false, if_true]
    rw [if_neg (by omega)]
    simp only [Sem.run_bind, Sem.run_ite, run_typeInfo hi, Result.andThen_ok, c2, false_and, if_false, c1, Sem.run_pure, run_choose, Question.forced, Bool.false_eq_true, run_askRoom]
    rw [hold { w with drawn := w.drawn + 1 } rfl]
    simp only [Result.andThen_ok]
    rw [hsrc { w with drawn := w.drawn + 1 } rfl]
    simp only [Result.andThen_ok, hz]
    simp [newRow]
    exact ⟨rfl, rfl, rfl⟩

/-- an append of zero elements to nothing -/
theorem run_app_zero {P : Program} {ts tx e : TypeId} {ats : Array TypeId} {k k' : IntKind} {es : Nat} {i : TypeInfo} {Z : Value} (h0 : ats[0]? = some ts) (h1 : ats[1]? = some tx) (hu : P.underlying ts = some (.slice e)) (hx : P.underlying tx = some (.int k)) (hi : P.info? e = some i) (hs : i.size = es) (hpos : 0 < es)
    (hz : ∀ w, (zeroValue e).run P w = .ok Z w) {n : Nat} {w : World} (hfit : 0 < n) (hb : (2 * (0 + n) + 192) * i.bytes ≤ 281474976710656) (hn : 0 + n ≤ 281474976710656) (type : TypeId) :
    ∃ m w', n ≤ m ∧ w'.heap = w.heap.push (.cells (Builtin.zeroCells Z.cells n ++ Builtin.zeroCells Z.cells (m - n)) e) ∧ Env w w' ∧
      (Builtin.append_ ats type #[.slice none 0 0, .int k' n]).run P w = .ok (.slice (some ⟨w.heap.size, 0, none⟩) n m) w' := by
  subst hs
  refine ⟨(Question.appendCap n 0 e).cut (w.tape w.drawn (.appendCap n 0 e)), { w with drawn := w.drawn + 1, heap := w.heap.push (.cells (Builtin.zeroCells Z.cells n ++ Builtin.zeroCells Z.cells ((Question.appendCap n 0 e).cut (w.tape w.drawn (.appendCap n 0 e)) - n)) e) }, ?_, rfl, ⟨rfl, rfl, rfl⟩, ?_⟩
  · simp only [Question.cut]; omega
  · have hnx := next_le n 0 hfit
    have hle : Builtin.nextslicecap n 0 * i.bytes ≤ (2 * n + 192) * i.bytes := Nat.mul_le_mul_right _ hnx
    have e48 : (2 : Nat) ^ 48 = 281474976710656 := by decide +kernel
    have e48' : (2 : Int) ^ 48 = 281474976710656 := by decide +kernel
    rw [Nat.zero_add] at hb hn
    have c1 : ¬ (Builtin.nextslicecap n 0 * i.bytes > 2 ^ 48) := by rw [e48]; omega
    have hmax : IntKind.i64.max = 9223372036854775807 := by decide +kernel
    have c2 : ¬ ((n : Int) > IntKind.i64.max) := by rw [hmax]; omega
    have hw : IntKind.i64.wrap (n : Int) = (n : Int) := by
      have e1 : (2 : Int) ^ IntKind.i64.bits = 18446744073709551616 := by decide +kernel
      have e2 : (2 : Int) ^ (IntKind.i64.bits - 1) = 9223372036854775808 := by decide +kernel
      have e3 : IntKind.i64.signed = true := rfl
      simp only [IntKind.wrap, e1, e2, e3]
      have e4 : (n : Int) % 18446744073709551616 = n := Int.emod_eq_of_lt (by omega) (by omega)
      rw [e4, if_neg]
      simp; omega
    have c3 : ¬ ((n : Int) < 0) := by omega
    have hbb : n * i.bytes ≤ (2 * n + 192) * i.bytes := Nat.mul_le_mul_right _ (by omega)
    have c4 : ¬ ((n : Int) * (i.bytes : Int) > 2 ^ 48) := by
      rw [e48']
      have : ((n * i.bytes : Nat) : Int) ≤ 281474976710656 := by omega
      have e : ((n * i.bytes : Nat) : Int) = (n : Int) * (i.bytes : Int) := by simp
      omega
    have c5 : ¬ (n * i.size = 0) := by
      have := Nat.mul_pos hfit hpos
      omega
    unfold Builtin.append_
    simp only [h0, h1, List.getElem?_toArray, List.getElem?_cons_zero, List.getElem?_cons_succ, Sem.run_bind, Go.Proofs.YtldmhpdjlgoenaaGreatDoor.Eo.run_underlying hu, Go.Proofs.YtldmhpdjlgoenaaGreatDoor.Eo.run_underlying hx, Result.andThen_ok, sizeOf, run_typeInfo hi, Sem.run_pure, if_true, asInt, hw, c3, if_false, Sem.run_ite, c4, Int.toNat_natCast, Nat.zero_add, Bool.not_true, Bool.false_eq_true]
    have ha : (asIntOf (.int k' (n : Int))).run P w = .ok (k', (n : Int)) w := rfl
    have c6 : ¬ (n ≤ 0) := by omega
    simp only [ha, Result.andThen_ok, hw, c3, if_false, c4, Int.toNat_natCast, c6, c2, false_and, c1, run_choose, Question.forced, Bool.false_eq_true, run_askRoom, c5, hz, Builtin.firstCells, Sem.run_pure]
    simp [newRow]
    exact ⟨rfl, rfl, rfl⟩

/-- an operation that changes memory -/
inductive EOp where
  | st (n : Nat) (a x : Opd)
  | app (e : TypeId) (es bytes : Nat) (s x : Opd)
  /-- an append of zero elements to nothing -/
  | appz (e : TypeId) (es bytes : Nat) (z : List AV) (s x : Opd)

theorem zeroCells_succ (Z : Array Value) (n : Nat) : (Builtin.zeroCells Z (n + 1)).toList = Z.toList ++ (Builtin.zeroCells Z n).toList := by
  apply List.ext_getElem
  · simp [zeroCells_size, Nat.succ_mul, Nat.add_comm]
  · intro i h1 h2
    have hs : i < (n + 1) * Z.size := by simpa [zeroCells_size] using h1
    have hpos : 0 < Z.size := by
      rcases Nat.eq_zero_or_pos Z.size with h | h
      · rw [h] at hs; simp at hs
      · exact h
    by_cases hi : i < Z.size
    · rw [List.getElem_append_left (by simpa using hi)]
      simp only [Builtin.zeroCells, Array.getElem_toList, Array.getElem_map, Array.getElem_range, Nat.mod_eq_of_lt hi]
      simp [hi]
    · rw [List.getElem_append_right (by simpa using hi)]
      simp only [Builtin.zeroCells, Array.getElem_toList, Array.getElem_map, Array.getElem_range, Array.length_toList]
      congr 1
      rw [Nat.mod_eq_sub_mod (by omega)]
/-- the cells of a source: how many elements, and what they hold -/
def srcA (g : Nat → Option AO) (es : Nat) : AV → Option (Nat × List AV)
  | .nils => some (0, [])
  | .sl a o len es' _ => match len with
    | 0 => some (0, [])
    | _ => cond (Nat.beq es es') (match g a with
      | some (.row cells _ _) => match getList cells o (len * es) with
        | some l => some (len, l)
        | none => none
      | some (.tab cells) => match getList cells o (len * es) with
        | some l => some (len, l)
        | none => none
      | _ => none) none
  | _ => none
def appNew (y : Nat) (e : TypeId) (es bytes n : Nat) (src : List AV) (len : Nat) (old : List AV) (lim : Nat) (t : T AO) : Option (AV × H) :=
  cond (Nat.ble (lim * bytes) 281474976710656 && Nat.ble (len + n) 281474976710656)
    (some (.sl y 0 (len + n) es none, ⟨y + 1, t.set y (.row (putList 0 (old ++ src) .e) (old ++ src).length e)⟩)) none
def appA (h : H) (e : TypeId) (es bytes : Nat) (s : AV) (n : Nat) (src : List AV) : Option (AV × H) :=
  match n with
  | 0 => match s with
    | .nils => some (.nils, h)
    | .sl a o len es' cap => some (.sl a o len es' cap, h)
    | _ => none
  | _ => match s with
    | .nils => appNew h.next e es bytes n src 0 [] n h.t
    | .sl a o len es' cap => cond (Nat.beq es es') (match h.t.get a with
      | some (.row cells blen e') => cond (Nat.beq e e') (match cap with
        | some c => cond (Nat.ble (len + n) c)
          (cond (Nat.ble (o + (len + n) * es) blen) (some (.sl a o (len + n) es (some c), ⟨h.next, h.t.set a (.row (putList (o + len * es) src cells) blen e')⟩)) none)
          (match getList cells o (len * es) with
           | some old => appNew h.next e es bytes n src len old (2 * (len + n) + 192) h.t
           | none => none)
        | none => cond (Nat.ble (o + (len + n) * es) blen && Nat.blt 0 len)
          (some (.sl a o (len + n) es none, ⟨h.next, h.t.set a (.row (putList (o + len * es) src cells) blen e')⟩))
          (match getList cells o (len * es) with
           | some old => appNew h.next e es bytes n src len old (2 * (len + n) + 192) (h.t.set a .dead)
           | none => none)) none
      | _ => none) none
    | _ => none
def repl (z : List AV) (n : Nat) : List AV := Nat.rec [] (fun _ ih => z ++ ih) n
theorem repl_sound {ρ : Rho} {z : List AV} {Z : Array Value} (hz : VRs ρ z Z.toList) : ∀ n : Nat, VRs ρ (repl z n) (Builtin.zeroCells Z n).toList
  | 0 => by
    have : (Builtin.zeroCells Z 0).toList = [] := by simp [Builtin.zeroCells]
    rw [this]; rfl
  | n + 1 => by
    rw [zeroCells_succ]
    exact VRs.append hz (repl_sound hz n)
def evE (tm : T AV) (h : H) : EOp → Option (AV × H)
  | .st n a x => match evo tm a, evo tm x with
    | some (.ptr p o), some v => match h.t.get p, cellsA v with
      | some (.row cells len e), some l => cond (Nat.beq l.length n && Nat.ble (o + n) len) (some (.tup [], ⟨h.next, h.t.set p (.row (putList o l cells) len e)⟩)) none
      | _, _ => none
    | _, _ => none
  | .app e es bytes s x => match evo tm s, evo tm x with
    | some s, some x => match srcA h.t.get es x with
      | some (n, src) => appA h e es bytes s n src
      | none => none
    | _, _ => none
  | .appz e es bytes z s x => match evo tm s, evo tm x with
    | some .nils, some (.int _ m) => match m with
      | .ofNat n => match n with
        | 0 => none
        | _ => appNew h.next e es bytes n (repl z n) 0 [] (2 * (0 + n) + 192) h.t
      | _ => none
    | _, _ => none
def cE (P : Program) (o : Oper) : Option EOp := match o.op with
  | .store t a x => match sz P t, cOpd a, cOpd x with
    | some n, some a, some x => some (.st n a x)
    | _, _, _ => none
  | .call { callee := .builtin .append, args, argTypes } => match args.toList, argTypes[0]?, argTypes[1]? with
    | [s, x], some ts, some tx => match P.underlying ts, P.underlying tx with
      | some (.slice e), some (.slice _) => match P.info? e, zcells P e, cOpd s, cOpd x with
        | some i, some z, some s, some x => cond (Nat.beq z.length i.size && Nat.blt 0 i.size) (some (.app e i.size i.bytes s x)) none
        | _, _, _, _ => none
      | some (.slice e), some (.int _) => match P.info? e, zcells P e, cOpd s, cOpd x with
        | some i, some z, some s, some x => cond (Nat.beq z.length i.size && Nat.blt 0 i.size) (some (.appz e i.size i.bytes z s x)) none
        | _, _, _, _ => none
      | _, _ => none
    | _, _, _ => none
  | _ => none

theorem getList_all {P : Program} {ρ : Rho} {g : Nat → Option AO} {w : World} (hr : HR ρ g w) {a : Nat} {l : Loc} (hl : ρ a = some l) {cells : T AV} {blen : Nat} {e : TypeId} (hg : g a = some (.row cells blen e)) {o m : Nat} {vs : List AV}
    (hv : getList cells o m = some vs) : ∃ Vs, VRs ρ vs Vs ∧ Vs.length = m ∧ (∀ V ∈ Vs, one V = true) ∧ ∀ w' : World, w'.heap = w.heap → (loadCells ⟨l.blk, l.off + o, none⟩ m).run P w' = .ok Vs.toArray w' := by
  obtain ⟨Vs, k1, k2, k3, k4⟩ := cells_of hr hg hl hv
  refine ⟨Vs, k1, k2, k3, fun w' hw => load_list k2 rfl fun i V hV => ?_⟩
  have := k4 i V hV
  simpa [World.cell?, hw] using this

theorem getList_all_tab {P : Program} {ρ : Rho} {g : Nat → Option AO} {w : World} (hr : HR ρ g w) {a : Nat} {l : Loc} (hl : ρ a = some l) {cells : T AV} (hg : g a = some (.tab cells)) {o m : Nat} {vs : List AV}
    (hv : getList cells o m = some vs) : ∃ Vs, VRs ρ vs Vs ∧ Vs.length = m ∧ (∀ V ∈ Vs, one V = true) ∧ ∀ w' : World, w'.heap = w.heap → (loadCells ⟨l.blk, l.off + o, none⟩ m).run P w' = .ok Vs.toArray w' := by
  obtain ⟨Vs, k1, k2, k3, k4⟩ := cells_of_tab hr hg hl hv
  refine ⟨Vs, k1, k2, k3, fun w' hw => load_list k2 rfl fun i V hV => ?_⟩
  have := k4 i V hV
  simpa [World.cell?, hw] using this

theorem srcA_sound {P : Program} {ρ : Rho} {g : Nat → Option AO} {w : World} (hr : HR ρ g w) {es n : Nat} {x : AV} {src : List AV} (h : srcA g es x = some (n, src)) {X : Value} (hx : VR ρ x X) :
    ∃ q c SRC, X = .slice q n c ∧ VRs ρ src SRC ∧ src.length = n * es ∧ (∀ V ∈ SRC, one V = true) ∧ ∀ w' : World, w'.heap = w.heap → (Builtin.firstCells es n X).run P w' = .ok SRC.toArray w' := by
  unfold srcA at h
  split at h
  · simp at h; obtain ⟨rfl, rfl⟩ := h
    simp only [VR] at hx; subst hx
    exact ⟨none, 0, [], rfl, rfl, by simp, by simp, fun w' _ => by simp [Builtin.firstCells]⟩
  · rename_i a o len es' cap
    have key : (∃ l c, ρ a = some l ∧ X = .slice (some ⟨l.blk, l.off + o, none⟩) len c) ∨ (len = 0 ∧ ∃ p, X = .slice (some p) 0 0) := by
      cases cap with
      | some c => simp only [VR] at hx; obtain ⟨l, h1, _, h2⟩ := hx; exact .inl ⟨l, _, h1, h2⟩
      | none =>
        simp only [VR] at hx
        obtain ⟨l, h1, _, _, h2 | ⟨h0, p, h2⟩⟩ := hx
        · exact .inl ⟨l, _, h1, h2⟩
        · exact .inr ⟨h0, p, h2⟩
    split at h
    · simp at h; obtain ⟨rfl, rfl⟩ := h
      have : ∃ p c, X = .slice (some p) 0 c := by
        rcases key with ⟨l, c, _, hX⟩ | ⟨_, p, hX⟩
        · exact ⟨_, _, hX⟩
        · exact ⟨_, _, hX⟩
      obtain ⟨p, c, rfl⟩ := this
      exact ⟨_, _, [], rfl, rfl, by simp, by simp, fun w' _ => by simp [Builtin.firstCells, loadCells, loadCellsFrom]⟩
    · rename_i hne
      cases he : Nat.beq es es'
      · rw [he] at h; simp at h
      · rw [he, cond_true] at h
        have he' := Nat.eq_of_beq_eq_true he
        split at h
        · rename_i cells blen e hg
          split at h
          · rename_i l' hgl
            simp at h; obtain ⟨rfl, rfl⟩ := h
            rcases key with ⟨l, c, hl, hX⟩ | ⟨h0, _⟩
            · obtain ⟨Vs, k1, k2, k3, k4⟩ := getList_all (P := P) hr hl hg hgl
              refine ⟨_, _, Vs, hX, k1, ?_, k3, fun w' hw => ?_⟩
              · have := k1.length; omega
              · rw [hX]; simpa [Builtin.firstCells] using k4 w' hw
            · exact absurd h0 hne
          · simp at h
        · rename_i cells hg
          split at h
          · rename_i l' hgl
            simp at h; obtain ⟨rfl, rfl⟩ := h
            rcases key with ⟨l, c, hl, hX⟩ | ⟨h0, _⟩
            · obtain ⟨Vs, k1, k2, k3, k4⟩ := getList_all_tab (P := P) hr hl hg hgl
              refine ⟨_, _, Vs, hX, k1, ?_, k3, fun w' hw => ?_⟩
              · have := k1.length; omega
              · rw [hX]; simpa [Builtin.firstCells] using k4 w' hw
            · exact absurd h0 hne
          · simp at h
        · simp at h
  · simp at h

theorem Nx.kill {ρ : Rho} {g g' : Nat → Option AO} {w : World} (h : HR ρ g w) {a : Nat} (hg' : ∀ b, g' b = if b = a then some .dead else g b) : Nx ρ g w ρ g' w := by
  have key : ∀ b p, g' b = some p → p.live = true → g b = some p := by
    intro b p hb hp
    rw [hg'] at hb
    by_cases e : b = a
    · rw [if_pos e] at hb; simp at hb; subst hb; simp [AO.live] at hp
    · rwa [if_neg e] at hb
  exact ⟨⟨fun b p m hb hp hm => h.obj b p m (key _ _ hb hp) hp hm, fun b c p q m n hb hp hc hq hm hn => h.inj b c p q m n (key _ _ hb hp) hp (key _ _ hc hq) hq hm hn⟩, Le.refl _, Env.refl _, Nat.le_refl _, fun _ _ _ => rfl,
    fun b p m hb hp hm _ => ⟨b, p, m, key _ _ hb (AO.live_of_mut hp), hp, hm, rfl⟩⟩

/-- One object is given another number, and changed in place. -/
theorem nx_move {ρ : Rho} {g g' : Nat → Option AO} {w w' : World} (h : HR ρ g w) {a y : Nat} {l m : Loc} {o o' : AO} (hg : g a = some o) (hmu : o.mut = true) (hl : ρ a = some l) (hy : ρ y = none) (hm : m.blk = l.blk)
    (hg' : ∀ b, g' b = if b = y then some o' else if b = a then some .dead else g b) (henv : Env w w') (hsz : w'.heap.size = w.heap.size) (hot : ∀ r, r ≠ l.blk → w'.heap[r]? = w.heap[r]?)
    (hin : OIn (upd ρ y m) w' m o') : Nx ρ g w (upd ρ y m) g' w' := by
  have hle : Le ρ (upd ρ y m) := upd_le' hy
  have ho := AO.live_of_mut hmu
  have hblk : l.blk < w.heap.size := (h.obj a o l hg ho hl).1
  have key : ∀ b p, b ≠ y → g' b = some p → p.live = true → b ≠ a ∧ g b = some p := by
    intro b p hby hb hp
    rw [hg', if_neg hby] at hb
    by_cases e : b = a
    · rw [if_pos e] at hb; simp at hb; subst hb; simp [AO.live] at hp
    · rw [if_neg e] at hb; exact ⟨e, hb⟩
  refine ⟨⟨?_, ?_⟩, hle, henv, by omega, ?_, ?_⟩
  · intro b p n hb hp hn
    by_cases e : b = y
    · subst e
      rw [upd_same hy] at hn; simp at hn; subst hn
      rw [hg', if_pos rfl] at hb; simp at hb; subst hb
      exact ⟨by omega, hin⟩
    · rw [upd_other e] at hn
      obtain ⟨k1, k2⟩ := key b p e hb hp
      obtain ⟨h2, h3⟩ := h.obj b p n k2 hp hn
      exact ⟨by omega, OIn.mono hle (OIn.congr (hot _ fun hh => k1 (h.inj b a p o n l k2 hp hg ho hn hl hh)) h3)⟩
  · intro b c p q n k hb hp hc hq hn hk hnk
    by_cases e : b = y
    · by_cases e' : c = y
      · rw [e, e']
      · obtain ⟨k1, k2⟩ := key c q e' hc hq
        rw [upd_other e'] at hk
        rw [e, upd_same hy] at hn; simp at hn; subst hn
        exact absurd (h.inj c a q o k l k2 hq hg ho hk hl (by omega)) k1
    · obtain ⟨k1, k2⟩ := key b p e hb hp
      rw [upd_other e] at hn
      by_cases e' : c = y
      · rw [e', upd_same hy] at hk; simp at hk; subst hk
        exact absurd (h.inj b a p o n l k2 hp hg ho hn hl (by omega)) k1
      · obtain ⟨j1, j2⟩ := key c q e' hc hq
        rw [upd_other e'] at hk
        exact h.inj b c p q n k k2 hp j2 hq hn hk hnk
  · intro r hr hn
    exact hot r fun e => hn a o l hg hmu hl e.symm
  · intro b p n hb hp hn _
    by_cases e : b = y
    · subst e
      rw [upd_same hy] at hn; simp at hn; subst hn
      exact ⟨a, o, l, hg, hmu, hl, hm.symm⟩
    · obtain ⟨k1, k2⟩ := key b p e hb (AO.live_of_mut hp)
      rw [upd_other e] at hn
      exact ⟨b, p, n, k2, hp, hn, rfl⟩

/-- A row's beginning, of which all cells are known, and more cells behind it. -/
theorem row_in' {ρ : Rho} {vs : List AV} {Vs : List Value} (hv : VRs ρ vs Vs) (h1 : ∀ V ∈ Vs, one V = true) {e : TypeId} {w : World} {l : Loc} {c : Array Value} (hc : w.heap[l.blk]? = some (.cells c e (0, 0))) (hs : l.off + l.room = c.size) (hlen : vs.length ≤ l.room)
    (hat : ∀ i V, Vs[i]? = some V → c[l.off + i]? = some V) : OIn ρ w l (.row (putList 0 vs .e) vs.length e) := by
  refine ⟨hlen, c, hc, hs, fun i v hg => ?_⟩
  rw [putList_get] at hg
  have hi : i < vs.length := by
    by_cases hh : 0 ≤ i ∧ i < 0 + vs.length
    · omega
    · rw [if_neg hh, T.get_e] at hg; simp at hg
  rw [if_pos (by omega)] at hg
  have hg2 : vs[i]? = some v := by simpa using hg
  obtain ⟨V, k1, k2⟩ := hv.get hg2
  exact ⟨hi, V, k2, h1 V (List.mem_of_getElem? k1), hat i V k1⟩
end
end Go.Proofs.YtldmhpdjlgoenaaGreatDoor.Eo
