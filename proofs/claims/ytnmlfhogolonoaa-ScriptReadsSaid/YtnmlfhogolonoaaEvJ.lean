/-
  An evaluator of Go code over relative heaps, part J: operations that read memory, and those that make one object.
-/
import Derived.Test.YtnmlfhogolonoaaEvI
set_option linter.unusedVariables false
set_option linter.unusedSimpArgs false
namespace Go.Proofs.Ytnmlfhogolonoaa.Ev
noncomputable section

/-- an operation that reads memory -/
inductive ROp where
  | ld (agg : Option Nat) (x : Opd)
  | eqp (neg : Bool) (x y : Opd)
  | lenm (x : Opd)

def ldA (g : Nat → Option AO) (agg : Option Nat) (a o : Nat) : Option AV :=
  match g a with
  | some (.row cells _ _) => match agg with
    | none => cells.get o
    | some n => match getList cells o n with
      | some l => some (.agg l)
      | none => none
  | _ => none
def evR (tm : T AV) (g : Nat → Option AO) : ROp → Option AV
  | .ld agg x => match evo tm x with
    | some (.ptr a o) => ldA g agg a o
    | _ => none
  | .eqp neg x y => match evo tm x, evo tm y with
    | some (.ptr a o), some (.ptr b o') => match g a, g b with
      | some (.row _ _ _), some (.row _ _ _) => some (.bool (xor neg (Nat.beq a b && Nat.beq o o')))
      | _, _ => none
    | _, _ => none
  | .lenm x => match evo tm x with
    | some (.map a) => match g a with
      | some (.map es _) => some (.int .i64 es.length)
      | _ => none
    | _ => none
def cR (P : Program) (o : Oper) : Option ROp := match o.op with
  | .load t x => match aggOf P t, cOpd x with
    | some g, some y => some (.ld g y)
    | _, _ => none
  | .binOp op t x y _ => match P.underlying t with
    | some (.pointer e) => match sz P e, cOpd x, cOpd y with
      | some (_ + 1), some a, some b => match op with
        | .eql => some (.eqp false a b)
        | .neq => some (.eqp true a b)
        | _ => none
      | _, _, _ => none
    | _ => none
  | .call { callee := .builtin .len, args, argTypes } => match args.toList, argTypes[0]? with
    | [x], some t => match P.underlying t, cOpd x with
      | some (.map _ _), some y => some (.lenm y)
      | _, _ => none
    | _, _ => none
  | _ => none

theorem ldA_sound {P : Program} {ρ : Rho} {g : Nat → Option AO} {w : World} (hr : HR ρ g w) {t : TypeId} {agg : Option Nat} (ha : aggOf P t = some agg) {a o : Nat} {v : AV} (h : ldA g agg a o = some v) {l : Loc} (hl : ρ a = some l) :
    ∃ V, VR ρ v V ∧ (loadVar t ⟨l.blk, l.off + o, none⟩).run P w = .ok V w := by
  unfold ldA at h
  split at h
  · rename_i cells len e hg
    split at h
    · obtain ⟨V, k1, k2, k3⟩ := cell_of hr hg hl h
      exact ⟨V, k1, by simp only [loadVar, Sem.run_bind, run_isAgg ha, Result.andThen_ok, Option.isSome, Bool.false_eq_true, if_false]; exact load_cell k3 _⟩
    · rename_i n
      split at h
      · rename_i vs hvs
        simp at h; subst h
        obtain ⟨Vs, k1, k2, k3, k4⟩ := cells_of hr hg hl hvs
        refine ⟨.agg Vs.toArray, ⟨Vs, k1, rfl⟩, ?_⟩
        have := load_list (P := P) (w := w) (a := ⟨l.blk, l.off + o, none⟩) (n := n) k2 rfl k4
        simp [loadVar, run_isAgg ha, run_sizeOf (aggOf_size ha), this]
      · simp at h
  · simp at h

theorem evR_sound {P : Program} {o : Oper} {c : ROp} {tm : T AV} {v : AV} {ρ : Rho} {a : Act} {g : Nat → Option AO} {w : World} (hc : cR P o = some c) (h : evR tm g c = some v) (ht : TR ρ tm a.tmps) (hr : HR ρ g w) :
    ∃ V, VR ρ v V ∧ (execOp a.eval o).run P w = .ok (.value V) w := by
  obtain ⟨dst, op, type, pos, after, guard⟩ := o
  unfold cR at hc
  simp only [] at hc
  split at hc
  · rename_i t x
    split at hc
    · rename_i agg y hagg hy
      simp at hc; subst hc
      simp only [evR] at h
      split at h
      · rename_i p q hv
        have kk := evo_sound ht hy hv
        simp only [VR] at kk
        obtain ⟨l, hl, kk⟩ := kk
        obtain ⟨V, k1, k2⟩ := ldA_sound hr hagg h hl
        exact ⟨V, k1, by simp [execOp, kk, Instr.loadAt, Instr.sureAddr, k2]⟩
      · simp at h
    · simp at hc
  · rename_i op t x y _
    split at hc
    · rename_i e hu
      split at hc
      · rename_i n a1 b1 hs hx hy
        have main : ∀ {p q p' q' : Nat}, evo tm a1 = some (.ptr p q) → evo tm b1 = some (.ptr p' q') → ∀ {c1 c2 : T AV} {l1 l2 : Nat} {e1 e2 : TypeId}, g p = some (.row c1 l1 e1) → g p' = some (.row c2 l2 e2) →
            ∃ A B, a.eval x = .pointer (some A) ∧ a.eval y = .pointer (some B) ∧ (Op.equal t (.pointer (some A)) (.pointer (some B))).run P w = .ok (Nat.beq p p' && Nat.beq q q') w := by
          intro p q p' q' h1 h2 c1 c2 l1 l2 e1 e2 hg1 hg2
          have k1 := evo_sound ht hx h1
          have k2 := evo_sound ht hy h2
          simp only [VR] at k1 k2
          obtain ⟨l, hl, k1⟩ := k1
          obtain ⟨m, hm, k2⟩ := k2
          refine ⟨_, _, k1, k2, ?_⟩
          obtain ⟨b1, _, cc1, hh1, _⟩ := hr.row hg1 hl
          obtain ⟨b2, _, cc2, hh2, _⟩ := hr.row hg2 hm
          have ten : Op.maxDepth = 9999 + 1 := rfl
          unfold Op.equal
          rw [ten, Op.equalIn]
          simp only [Sem.run_bind, Go.Proofs.Ytnmlfhogolonoaa.Ev.run_underlying hu, Result.andThen_ok, run_sizeOf hs, ne_eq, Nat.add_eq_zero_iff, Nat.succ_ne_zero, and_false, not_false_eq_true, if_true]
          rw [beq_iff, beq_iff]
          by_cases e : p = p'
          · subst e
            rw [hl] at hm; simp at hm; subst hm
            simp only [sameAddr, beq_self_eq_true, if_true, Sem.run_pure, decide_true, Bool.true_and]
            congr 1
            rw [Bool.eq_iff_iff]
            simp [Addr.mk.injEq]
          · have hne : l.blk ≠ m.blk := fun hh => e (hr.inj p p' _ _ l m hg1 rfl hg2 rfl hl hm hh)
            have hb : (l.blk == m.blk) = false := by simpa using hne
            simp only [sameAddr, hb, Bool.false_eq_true, if_false]
            simp [World.frozen?, World.shape?, hh1, hh2, noView, viewAt, mayBeOne, stringish, e]
        split at hc
        · simp at hc; subst hc
          simp only [evR] at h
          split at h
          · rename_i p q p' q' h1 h2
            split at h
            · rename_i c1 l1 e1 c2 l2 e2 hg1 hg2
              simp at h; subst h
              obtain ⟨A, B, k1, k2, k3⟩ := main h1 h2 hg1 hg2
              refine ⟨_, rfl, ?_⟩
              simp [execOp, k1, k2, eqGuard, binOp, k3]
            · simp at h
          · simp at h
        · simp at hc; subst hc
          simp only [evR] at h
          split at h
          · rename_i p q p' q' h1 h2
            split at h
            · rename_i c1 l1 e1 c2 l2 e2 hg1 hg2
              simp at h; subst h
              obtain ⟨A, B, k1, k2, k3⟩ := main h1 h2 hg1 hg2
              refine ⟨_, rfl, ?_⟩
              simp [execOp, k1, k2, eqGuard, binOp, k3]
            · simp at h
          · simp at h
        · simp at hc
      · simp at hc
    · simp at hc
  · rename_i args ats
    split at hc
    · rename_i x t hargs hty
      have hargs' : args = #[x] := by apply Array.ext'; simpa using hargs
      subst hargs'
      split at hc
      · rename_i k e y hu hy
        simp at hc; subst hc
        simp only [evR] at h
        split at h
        · rename_i p hv
          split at h
          · rename_i es clock hg
            simp at h; subst h
            have kk := evo_sound ht hy hv
            simp only [VR] at kk
            obtain ⟨l, hl, kk⟩ := kk
            obtain ⟨h2, ES, h3, h4⟩ := hr.obj p _ l hg rfl hl
            have hlen : ∀ {es : List (AV × AV × Nat)} {ES : List MapEntry}, ERs ρ es ES → ES.length = es.length := by
              intro es
              induction es with
              | nil => intro ES h; simp only [ERs] at h; simp [h]
              | cons x xs ih => intro ES h; obtain ⟨E, M, _, _, _, h5, rfl⟩ := h; simp [ih h5]
            obtain ⟨cs, hb⟩ := run_builtin (P := P) (ρ := a.eval) (b := .len) (args := #[x]) (ats := ats) (dst := dst) (type := type) (pos := pos) (after := after) (guard := guard)
            refine ⟨_, rfl, ?_⟩
            rw [hb]
            simp [builtin, Builtin.len_, hty, kk, Go.Proofs.Ytnmlfhogolonoaa.Ev.run_underlying hu, goInt, getObj, Sem.run, h4, hlen h3]
          · simp at h
        · simp at h
      · simp at hc
    · simp at hc
  · simp at hc
end
end Go.Proofs.Ytnmlfhogolonoaa.Ev
