/-
  An evaluator of Go code over relative heaps, part W: copy.
-/
import Derived.Test.YtnmlfhogolonoaaEvV
set_option linter.unusedVariables false
set_option linter.unusedSimpArgs false
namespace Go.Proofs.Ytnmlfhogolonoaa.Ev
noncomputable section

structure WOp where
  es : Nat
  d : Opd
  s : Opd
def lenS : AV → Option Nat
  | .nils => some 0
  | .sl _ _ len _ _ => some len
  | _ => none
def evW (tm : T AV) (h : H) (c : WOp) : Option (AV × H) := match evo tm c.d, evo tm c.s with
  | some d, some s => match lenS d, lenS s with
    | some m, some n => match Nat.ble n m with
      | b => match (match b with | true => n | false => m) with
        | 0 => some (.int .i64 0, h)
        | k + 1 => match d, s with
          | .sl a o _ es _, .sl b p _ es' _ => match Nat.beq es c.es && Nat.beq es' c.es with
            | true => match h.t.get b, h.t.get a with
              | some (.row cs _ _), some (.row cells blen e) => match getList cs p ((k + 1) * c.es) with
                | some l => match Nat.ble (o + (k + 1) * c.es) blen with
                  | true => some (.int .i64 (Int.ofNat (k + 1)), ⟨h.next, h.t.set a (.row (putList o l cells) blen e)⟩)
                  | false => none
                | none => none
              | _, _ => none
            | false => none
          | _, _ => none
    | _, _ => none
  | _, _ => none
def cW (P : Program) (o : Oper) : Option WOp := match o.op with
  | .call { callee := .builtin .copy, args, argTypes } => match args.toList, argTypes[0]? with
    | [d, s], some t => match P.underlying t with
      | some (.slice e) => match sz P e, cOpd d, cOpd s with
        | some es, some d, some s => some ⟨es, d, s⟩
        | _, _, _ => none
      | _ => none
    | _, _ => none
  | _ => none

/-- a slice as it is -/
theorem sl_real {ρ : Rho} {s : AV} {S : Value} {n : Nat} (hl : lenS s = some n) (hs : VR ρ s S) : ∃ p c, S = .slice p n c ∧
    (∀ a o len es cap, s = .sl a o len es cap → (∃ l, ρ a = some l ∧ p = some ⟨l.blk, l.off + o, none⟩) ∨ n = 0) := by
  cases s <;> simp only [lenS] at hl <;> try (simp at hl; done)
  case sl a o len es cap =>
    simp at hl; subst hl
    cases cap with
    | some c =>
      simp only [VR] at hs; obtain ⟨l, h1, _, rfl⟩ := hs
      exact ⟨_, _, rfl, fun a' o' len' es' cap' e => by cases e; exact .inl ⟨l, h1, rfl⟩⟩
    | none =>
      simp only [VR] at hs
      obtain ⟨l, h1, _, _, rfl | ⟨rfl, x, rfl⟩⟩ := hs
      · exact ⟨_, _, rfl, fun a' o' len' es' cap' e => by cases e; exact .inl ⟨l, h1, rfl⟩⟩
      · exact ⟨_, _, rfl, fun _ _ _ _ _ _ => .inr rfl⟩
  case nils =>
    simp at hl; subst hl
    simp only [VR] at hs; subst hs
    exact ⟨_, _, rfl, fun _ _ _ _ _ e => by cases e⟩

theorem evW_sound {P : Program} {o : Oper} {c : WOp} {tm : T AV} {h h' : H} {v : AV} {ρ : Rho} {a : Act} {w : World} (hc : cW P o = some c) (he : evW tm h c = some (v, h')) (ht : TR ρ tm a.tmps) (hr : HR ρ h.t.get w) (hf : Fresh ρ h.next) :
    EOut P (execOp a.eval o) ρ h w v h' := by
  obtain ⟨dst, op, type, pos, after, guard⟩ := o
  unfold cW at hc
  simp only [] at hc
  split at hc
  · rename_i args ats
    split at hc
    · rename_i d s t hargs h0
      have hargs' : args = #[d, s] := by rw [← Array.toArray_toList (xs := args), hargs]
      subst hargs'
      split at hc
      · rename_i e hu
        split at hc
        · rename_i es d' s' hs hd hss
          simp at hc; subst hc
          unfold evW at he
          split at he
          · rename_i dv sv hdv hsv
            split at he
            · rename_i m n hm hn
              have hD := evo_sound ht hd hdv
              have hS := evo_sound ht hss hsv
              obtain ⟨p, cp, hD', hDl⟩ := sl_real hm hD
              obtain ⟨q, cq, hS', hSl⟩ := sl_real hn hS
              obtain ⟨cs, hbb⟩ := run_builtin (P := P) (ρ := a.eval) (b := .copy) (args := #[d, s]) (ats := ats) (dst := dst) (type := type) (pos := pos) (after := after) (guard := guard)
              simp only [] at he
              have hmin : (match Nat.ble n m with | true => n | false => m) = Nat.min n m := by
                have : Nat.min n m = if n ≤ m then n else m := rfl
                rw [this]
                cases hb : Nat.ble n m
                · simp only []
                  rw [if_neg]
                  intro hle
                  rw [Nat.ble_eq_true_of_le hle] at hb; simp at hb
                · rw [if_pos (Nat.le_of_ble_eq_true hb)]
              rw [hmin] at he
              have run : ∀ {SRC : List Value} {w' : World}, (Builtin.firstCells es (Nat.min n m) (.slice q n cq)).run P w = .ok SRC.toArray w → (match p with | some a => storeCells a SRC | none => pure () : Sem Unit).run P w = .ok () w' →
                  (execOp a.eval { dst := dst, op := .call { callee := .builtin .copy, args := #[d, s], argTypes := ats }, type := type, pos := pos, after := after, guard := guard }).run P w = .ok (.value (.int .i64 (Nat.min n m : Nat))) w' := by
                intro SRC w' h1 h2
                rw [hbb]
                simp only [builtin, Builtin.copy_, h0, List.map_toArray, List.map_cons, List.map_nil, List.getElem?_toArray, List.getElem?_cons_zero, List.getElem?_cons_succ, hD', hS', Sem.run_bind, Go.Proofs.Ytnmlfhogolonoaa.Ev.run_underlying hu, Result.andThen_ok, Builtin.lenOf, Sem.run_pure, run_sizeOf hs, h1]
                cases p with
                | none => simp at h2 ⊢; subst h2; simp [goInt]
                | some x => simp only [] at h2; simp [h2, goInt]
              split at he
              · rename_i hk
                simp at he; obtain ⟨rfl, rfl⟩ := he
                have := run (SRC := []) (w' := w) (by rw [hk]; cases q <;> simp [Builtin.firstCells, loadCells, loadCellsFrom]) (by cases p <;> simp [storeCells])
                rw [hk] at this
                exact ⟨ρ, w, _, .inl this, by simp [VR], Way.refl hr hf⟩
              · rename_i k hk
                split at he
                · rename_i a1 o1 l1 es1 c1 b1 p1 l2 es2 c2
                  split at he
                  · rename_i hes
                    split at he
                    · rename_i cs' bl1 e1 cells blen e2 hg1 hg2
                      split at he
                      · rename_i l hl
                        split at he
                        · rename_i hble
                          have hble := Nat.le_of_ble_eq_true hble
                          simp at he; obtain ⟨rfl, rfl⟩ := he
                          simp only [lenS, Option.some.injEq] at hm hn
                          have hpos : 0 < Nat.min n m := by rw [hk]; omega
                          have hn0 : n ≠ 0 := by rintro rfl; simp at hpos
                          have hm0 : m ≠ 0 := by rintro rfl; simp at hpos
                          obtain ⟨la, ha, rfl⟩ := (hDl _ _ _ _ _ rfl).resolve_right hm0
                          obtain ⟨lb, hb, rfl⟩ := (hSl _ _ _ _ _ rfl).resolve_right hn0
                          obtain ⟨Vs, k1, k2, k3, k4⟩ := getList_all (P := P) hr hb hg1 hl
                          have hlen : l.length = (k + 1) * es := by have := k1.length; omega
                          obtain ⟨w', j1, j2⟩ := nx_write hr hg2 ha k1 k3 (o := o1) (by rw [hlen]; exact hble) P
                          have := run (SRC := Vs) (w' := w') (by rw [hk]; simpa [Builtin.firstCells] using k4 w rfl) (by simpa using j1)
                          rw [hk] at this
                          exact ⟨ρ, w', _, .inl this, by simp [VR], way_set hf ha j2⟩
                        · simp at he
                      · simp at he
                    · simp at he
                  · simp at he
                · simp at he
            · simp at he
          · simp at he
        · simp at hc
      · simp at hc
    · simp at hc
  · simp at hc
end
end Go.Proofs.Ytnmlfhogolonoaa.Ev
