/-
  An evaluator of Go code over relative heaps, part U: walks through maps of at most one entry.
-/
import Derived.Test.YtnmlfhogolonoaaEvP
set_option linter.unusedVariables false
set_option linter.unusedSimpArgs false
namespace Go.Proofs.Ytnmlfhogolonoaa.Ev
noncomputable section

inductive IOp where
  | range (x : Opd)
  | next (x : Opd)
  | entry (x : Opd)
def leftA (es : List (AV × AV × Nat)) (seen : List Nat) : List (AV × AV × Nat) := es.filter fun e => !seen.contains e.2.2
def findB (b : Nat) : List (AV × AV × Nat) → Option (AV × AV)
  | [] => none
  | e :: l => match Nat.beq e.2.2 b with
    | true => some (e.1, e.2.1)
    | false => findB b l
def lastOf : List Nat → Option Nat
  | [] => none
  | [x] => some x
  | _ :: l => lastOf l
def evI (tm : T AV) (h : H) : IOp → Option (AV × H)
  | .range x => match evo tm x with
    | some .nilm => some (.ptr h.next 0, ⟨h.next + 1, h.t.set h.next (.iter none 0 [] 0)⟩)
    | some (.map a) => match h.t.get a with
      | some (.map _ clock) => some (.ptr h.next 0, ⟨h.next + 1, h.t.set h.next (.iter (some a) clock [] clock)⟩)
      | _ => none
    | _ => none
  | .next x => match evo tm x with
    | some (.ptr p 0) => match h.t.get p with
      | some (.iter none _ _ _) => some (.tup [.bool false], h)
      | some (.iter (some a) since seen last) => match h.t.get a with
        | some (.map es clock) => match !seen.isEmpty && !es.isEmpty && es.all (fun e => Nat.ble last e.2.2) with
          | true => none
          | false => match leftA es seen with
            | [] => some (.tup [.bool false], h)
            | [e] => match Nat.ble since e.2.2 with
              | true => none
              | false => some (.tup [.bool true, e.1, e.2.1], ⟨h.next, h.t.set p (.iter (some a) since (seen ++ [e.2.2]) clock)⟩)
            | _ => none
        | _ => none
      | _ => none
    | _ => none
  | .entry x => match evo tm x with
    | some (.ptr p 0) => match h.t.get p with
      | some (.iter (some a) _ seen stepped) => match lastOf seen, h.t.get a with
        | some stamp, some (.map es clock) => match Nat.beq clock stepped, findB stamp es with
          | true, some (k, v) => some (.tup [k, v], h)
          | _, _ => none
        | _, _ => none
      | _ => none
    | _ => none
def cI (P : Program) (o : Oper) : Option IOp := match o.op with
  | .range t x => match P.underlying t with
    | some (.map _ _) => (cOpd x).map .range
    | _ => none
  | .next x false => (cOpd x).map .next
  | .entry x => (cOpd x).map .entry
  | _ => none

theorem leftA_sound {ρ : Rho} (seen : List Nat) : ∀ {es : List (AV × AV × Nat)} {ES : List MapEntry}, ERs ρ es ES → ERs ρ (leftA es seen) (ES.filter fun e => !seen.toArray.contains e.born)
  | [], ES, h => by simp only [ERs] at h; subst h; simp [leftA, ERs]
  | e :: es, ES, h => by
    obtain ⟨E, M, h1, h2, h3, h4, rfl⟩ := h
    have ih := leftA_sound seen h4
    unfold leftA at ih ⊢
    simp only [List.filter_cons, h3, List.contains_toArray] at ih ⊢
    cases hc : seen.contains e.2.2
    · simp only [Bool.not_false, if_true]
      exact ⟨E, _, h1, h2, h3, ih, rfl⟩
    · simpa using ih
theorem all_sound {ρ : Rho} (last : Nat) : ∀ {es : List (AV × AV × Nat)} {ES : List MapEntry}, ERs ρ es ES → (ES.all fun e => decide (e.born ≥ last)) = es.all (fun e => Nat.ble last e.2.2)
  | [], ES, h => by simp only [ERs] at h; subst h; rfl
  | e :: es, ES, h => by
    obtain ⟨E, M, h1, h2, h3, h4, rfl⟩ := h
    simp only [List.all_cons, all_sound last h4, h3]
    congr 1
    rw [Bool.eq_iff_iff]
    simp [Nat.ble_eq]
theorem empty_sound {ρ : Rho} : ∀ {es : List (AV × AV × Nat)} {ES : List MapEntry}, ERs ρ es ES → ES.isEmpty = es.isEmpty
  | [], ES, h => by simp only [ERs] at h; subst h; rfl
  | e :: es, ES, h => by
    obtain ⟨E, M, h1, h2, h3, h4, rfl⟩ := h
    rfl
theorem findB_sound {ρ : Rho} (b : Nat) : ∀ {es : List (AV × AV × Nat)} {ES : List MapEntry} {k v : AV}, ERs ρ es ES → findB b es = some (k, v) → ∃ E, ES.find? (fun e => e.born == b) = some E ∧ VR ρ k E.key ∧ VR ρ v E.val
  | [], ES, k, v, h, hf => by simp [findB] at hf
  | e :: es, ES, k, v, h, hf => by
    obtain ⟨E, M, h1, h2, h3, h4, rfl⟩ := h
    unfold findB at hf
    split at hf
    · rename_i hb
      have hb := Nat.eq_of_beq_eq_true hb
      simp at hf; obtain ⟨rfl, rfl⟩ := hf
      exact ⟨E, by simp [h3, hb], h1, h2⟩
    · rename_i hb
      have hb' : ¬ E.born = b := by
        rw [h3]; intro e; rw [e] at hb; simp at hb
      obtain ⟨E', k1, k2⟩ := findB_sound b h4 hf
      exact ⟨E', by simp [hb', k1], k2⟩
theorem lastOf_eq : ∀ l : List Nat, lastOf l = l.toArray.back?
  | [] => rfl
  | [x] => by simp [lastOf]
  | x :: y :: l => by
    rw [lastOf, lastOf_eq (y :: l)]
    · simp
    · simp

theorem run_iter {P : Program} {w : World} {r : Nat} {M : Option Nat} {since last : Nat} {seen : Array Nat} (h : w.heap[r]? = some (.mapIter M since seen last)) : (getObj r).run P w = .ok (.mapIter M since seen last) w := by simp [getObj, Sem.run, h]
theorem run_map {P : Program} {w : World} {r : Nat} {es : Array MapEntry} {clock : Nat} (h : w.heap[r]? = some (.map es clock)) : (getObj r).run P w = .ok (.map es clock) w := by simp [getObj, Sem.run, h]
theorem evI_sound {P : Program} {o : Oper} {c : IOp} {tm : T AV} {h h' : H} {v : AV} {ρ : Rho} {a : Act} {w : World} (hc : cI P o = some c) (he : evI tm h c = some (v, h')) (ht : TR ρ tm a.tmps) (hr : HR ρ h.t.get w) (hf : Fresh ρ h.next) :
    EOut P (execOp a.eval o) ρ h w v h' := by
  obtain ⟨dst, op, type, pos, after, guard⟩ := o
  unfold cI at hc
  simp only [] at hc
  have new : ∀ (M : Option Nat) (m : Option Nat) (since last : Nat), (match m with
    | none => M = none
    | some a => ∃ k, ρ a = some k ∧ M = some k.blk) → Way ρ h w (upd ρ h.next ⟨w.heap.size, 0, 0⟩) ⟨h.next + 1, h.t.set h.next (.iter m since [] last)⟩ (w.alloc (.mapIter M since #[] last)) := by
    intro M m since last hm
    refine way_new hf (nx_new hr (hf _ (Nat.le_refl _)) rfl (fun b => T.get_set _ _ _ _) ?_)
    refine OIn.mono (o := .iter m since [] last) (upd_le hf (Nat.le_refl _)) ⟨rfl, M, by show (w.heap.push _)[w.heap.size]? = _; simp, hm⟩
  split at hc
  · rename_i t x
    split at hc
    · rename_i kt e hu
      simp only [Option.map_eq_some_iff] at hc
      obtain ⟨y, hy, rfl⟩ := hc
      simp only [evI] at he
      split at he
      · rename_i hv
        have hM := evo_sound ht hy hv
        simp only [VR] at hM
        simp at he; obtain ⟨rfl, rfl⟩ := he
        refine ⟨_, _, .pointer (some ⟨w.heap.size, 0, none⟩), .inl ?_, ⟨_, upd_same, rfl⟩, new none none 0 0 rfl⟩
        simp [execOp, Instr.range, Go.Proofs.Ytnmlfhogolonoaa.Ev.run_underlying hu, hM]
      · rename_i p hv
        split at he
        · rename_i es clock hg
          have hM := evo_sound ht hy hv
          simp only [VR] at hM
          obtain ⟨l, hl, hM⟩ := hM
          obtain ⟨_, ES, h1, h2⟩ := hr.obj p _ l hg rfl hl
          simp at he; obtain ⟨rfl, rfl⟩ := he
          refine ⟨_, _, .pointer (some ⟨w.heap.size, 0, none⟩), .inl ?_, ⟨_, upd_same, rfl⟩, new (some l.blk) (some p) clock clock ⟨l, hl, rfl⟩⟩
          simp only [execOp, Instr.range, Sem.run_bind, Go.Proofs.Ytnmlfhogolonoaa.Ev.run_underlying hu, Result.andThen_ok, hM, getObj, Sem.run, h2, Sem.run_pure]
          simp [newObj, Sem.run]
        · simp at he
      · simp at he
    · simp at hc
  · rename_i x
    simp only [Option.map_eq_some_iff] at hc
    obtain ⟨y, hy, rfl⟩ := hc
    simp only [evI] at he
    split at he
    · rename_i p hv
      have hM := evo_sound ht hy hv
      simp only [VR] at hM
      obtain ⟨l, hl, hM⟩ := hM
      split at he
      · rename_i since seen last hg
        obtain ⟨_, h0, M, h1, h2⟩ := hr.obj p _ l hg rfl hl
        simp only [] at h2; subst h2
        simp at he; obtain ⟨rfl, rfl⟩ := he
        refine ⟨ρ, w, .tuple #[.bool false], .inl ?_, ⟨[.bool false], ⟨.bool false, [], rfl, rfl, rfl⟩, rfl⟩, Way.refl hr hf⟩
        simp [execOp, Instr.next, hM, h0, getObj, Sem.run, h1]
      · rename_i q since seen last hg
        obtain ⟨_, h0, M, h1, k, hk, rfl⟩ := hr.obj p _ l hg rfl hl
        split at he
        · rename_i es clock hg2
          obtain ⟨_, ES, h3, h4⟩ := hr.obj q _ k hg2 rfl hk
          split at he
          · simp at he
          · rename_i hcond
            have hE := empty_sound h3
            have hA := all_sound last h3
            have hcond' : (!(seen.toArray).isEmpty && !(ES.toArray).isEmpty && (ES.toArray).all fun e => decide (e.born ≥ last)) = false := by
              rw [← hcond]; simp [← hE, ← hA]
            have hL := leftA_sound seen h3
            split at he
            · rename_i hl0
              rw [hl0] at hL
              simp only [ERs] at hL
              simp at he; obtain ⟨rfl, rfl⟩ := he
              refine ⟨ρ, w, .tuple #[.bool false], .inl ?_, ⟨[.bool false], ⟨.bool false, [], rfl, rfl, rfl⟩, rfl⟩, Way.refl hr hf⟩
              have hL' : (ES.toArray.filter fun e => !seen.toArray.contains e.born) = #[] := by
                have := congrArg List.toArray hL
                simpa using this
              simp only [execOp, Instr.next, Sem.run_bind, hM, h0, Nat.add_zero, run_iter h1, Result.andThen_ok, run_map h4, hcond', Bool.false_eq_true, if_false, hL']
              simp [choose, Sem.run, Question.forced]
            · rename_i e hl1
              split at he
              · simp at he
              · rename_i hold
                rw [hl1] at hL
                obtain ⟨E, M', e1, e2, e3, e4, e5⟩ := hL
                simp only [ERs] at e4; subst e4
                simp at he; obtain ⟨rfl, rfl⟩ := he
                have hL' : (ES.toArray.filter fun e => !seen.toArray.contains e.born) = #[E] := by
                  have := congrArg List.toArray e5
                  simpa using this
                have hb : E.born < since := by
                  rw [e3]
                  rcases Nat.lt_or_ge e.2.2 since with hlt | hge
                  · exact hlt
                  · rw [Nat.ble_eq_true_of_le hge] at hold; simp at hold
                have hlt : l.blk < w.heap.size := (hr.obj p _ l hg rfl hl).1
                refine ⟨ρ, { w with heap := w.heap.setIfInBounds l.blk (.mapIter (some k.blk) since (seen ++ [e.2.2]).toArray clock) }, .tuple #[.bool true, E.key, E.val], .inl ?_, ?_, way_set hf hl (nx_set hr hg rfl hl (fun b => T.get_set _ _ _ _) ⟨rfl, rfl, rfl⟩ (by simp) (fun r hne => ?_) rfl ⟨h0, some k.blk, by simp [hlt], k, hk, rfl⟩)⟩
                · simp only [execOp, Instr.next, Sem.run_bind, hM, h0, Nat.add_zero, run_iter h1, Result.andThen_ok, run_map h4, hcond', Bool.false_eq_true, if_false, hL']
                  have hnl : ¬ since ≤ E.born := by omega
                  have f1 : (#[E] : Array MapEntry).filter (fun e => decide (e.born < since)) = #[E] := by simp [hb]
                  have f2 : (#[E] : Array MapEntry).filter (fun e => decide (e.born ≥ since)) = #[] := by
                    simp [show E.born < since from hb]
                  rw [f1, f2]
                  simp [choose, Sem.run, Question.forced, setObj, h1, e3]
                · exact ⟨[.bool true, E.key, E.val], ⟨.bool true, [E.key, E.val], rfl, ⟨E.key, [E.val], e1, ⟨E.val, [], e2, rfl, rfl⟩, rfl⟩, rfl⟩, rfl⟩
                · simp only [Array.getElem?_setIfInBounds_ne (Ne.symm hne)]
            · simp at he
        · simp at he
      · simp at he
    · simp at he
  · rename_i x
    simp only [Option.map_eq_some_iff] at hc
    obtain ⟨y, hy, rfl⟩ := hc
    simp only [evI] at he
    split at he
    · rename_i p hv
      have hM := evo_sound ht hy hv
      simp only [VR] at hM
      obtain ⟨l, hl, hM⟩ := hM
      split at he
      · rename_i q since seen stepped hg
        obtain ⟨_, h0, M, h1, k, hk, rfl⟩ := hr.obj p _ l hg rfl hl
        split at he
        · rename_i stamp es clock hst hg2
          obtain ⟨_, ES, h3, h4⟩ := hr.obj q _ k hg2 rfl hk
          split at he
          · rename_i kk vv hck hfb
            have hck := Nat.eq_of_beq_eq_true hck
            subst hck
            obtain ⟨E, f1, f2, f3⟩ := findB_sound stamp h3 hfb
            simp at he; obtain ⟨rfl, rfl⟩ := he
            rw [lastOf_eq] at hst
            refine ⟨ρ, w, .tuple #[E.key, E.val], .inl ?_, ⟨[E.key, E.val], ⟨E.key, [E.val], f2, ⟨E.val, [], f3, rfl, rfl⟩, rfl⟩, rfl⟩, Way.refl hr hf⟩
            simp only [execOp, Instr.entry, Sem.run_bind, hM, h0, Nat.add_zero, run_iter h1, Result.andThen_ok, hst, run_map h4]
            simp [f1]
          · simp at he
        · simp at he
      · simp at he
    · simp at he
  · simp at hc
end
end Go.Proofs.Ytnmlfhogolonoaa.Ev
