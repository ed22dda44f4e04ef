/-
  An evaluator of Go code over relative heaps, part Se: functions that walk through a map of several entries, in every order.
-/
import Derived.Test.YtgolcgnnomgapaaGreatDoorEvS
import Derived.Test.YtgolcgnnomgapaaGreatDoorEvY
set_option linter.unusedVariables false
set_option linter.unusedSimpArgs false
namespace Go.Proofs.YtgolcgnnomgapaaGreatDoor.Ev
noncomputable section

/-! ### One step of a walk, in every way -/
def oldAll (since : Nat) (l : List (AV × AV × Nat)) : Bool := l.all fun e => Nat.ble (Nat.succ e.2.2) since
def nextM (tm : T AV) (h : H) (x : Opd) : Option (List (AV × H)) := match evo tm x with
  | some (.ptr p 0) => match h.t.get p with
    | some (.iter (some a) since seen last) => match h.t.get a with
      | some (.map es clock) => match !seen.isEmpty && !es.isEmpty && es.all (fun e => Nat.ble last e.2.2) with
        | true => none
        | false => match leftA es seen with
          | e1 :: e2 :: l => match oldAll since (e1 :: e2 :: l) with
            | true => some ((e1 :: e2 :: l).map fun e => (.tup [.bool true, e.1, e.2.1], ⟨h.next, h.t.set p (.iter (some a) since (seen ++ [e.2.2]) clock)⟩))
            | false => none
          | _ => none
      | _ => none
    | _ => none
  | _ => none
theorem ERs.at {ρ : Rho} : ∀ {es : List (AV × AV × Nat)} {ES : List MapEntry}, ERs ρ es ES → ES.length = es.length ∧ ∀ (i : Nat) (E : MapEntry), ES[i]? = some E → ∃ e, e ∈ es ∧ VR ρ e.1 E.key ∧ VR ρ e.2.1 E.val ∧ E.born = e.2.2
  | [], ES, h => by simp only [ERs] at h; subst h; simp
  | e :: es, ES, h => by
    obtain ⟨E, M, h1, h2, h3, h4, rfl⟩ := h
    obtain ⟨k1, k2⟩ := ERs.at h4
    refine ⟨by simp [k1], fun i E' hi => ?_⟩
    cases i with
    | zero => simp at hi; subst hi; exact ⟨e, by simp, h1, h2, h3⟩
    | succ i =>
      obtain ⟨e', j1, j2⟩ := k2 i E' (by simpa using hi)
      exact ⟨e', by simp [j1], j2⟩
theorem old_sound {ρ : Rho} {since : Nat} {es : List (AV × AV × Nat)} {ES : List MapEntry} (h : ERs ρ es ES) (ho : oldAll since es = true) : ∀ E ∈ ES, E.born < since := by
  intro E hE
  obtain ⟨i, hi⟩ := List.getElem?_of_mem hE
  obtain ⟨e, h1, _, _, h4⟩ := (ERs.at h).2 i E hi
  have := List.all_eq_true.1 ho e h1
  rw [h4]
  exact Nat.le_of_ble_eq_true this
theorem nextM_sound {P : Program} {o : Oper} {x : Operand} {x' : Opd} {tm : T AV} {h : H} {rs : List (AV × H)} {ρ : Rho} {a : Act} {w : World} (ho : o.op = .next x false) (hx : cOpd x = some x') (he : nextM tm h x' = some rs) (ht : TR ρ tm a.tmps) (hr : HR ρ h.t.get w) (hf : Fresh ρ h.next) :
    ∃ r ∈ rs, EOut P (execOp a.eval o) ρ h w r.1 r.2 := by
  obtain ⟨dst, op, type, pos, after, guard⟩ := o
  simp only at ho; subst ho
  unfold nextM at he
  split at he
  · rename_i p hv
    have hM := evo_sound ht hx hv
    simp only [VR] at hM
    obtain ⟨l, hl, hM⟩ := hM
    split at he
    · rename_i q since seen last hg
      obtain ⟨_, h0, M, h1, k, hk, rfl⟩ := hr.obj p _ l hg rfl hl
      split at he
      · rename_i es clock hg2
        obtain ⟨_, ES, h3, h4⟩ := hr.obj q _ k hg2 rfl hk
        split at he
        · simp at he
        · rename_i hcond
          have hE := empty_sound h3
          have hA := all_sound last h3
          have hcond' : (!(seen.toArray).isEmpty && !(ES.toArray).isEmpty && (ES.toArray).all fun e => decide (e.born ≥ last)) = false := by
            rw [← hcond]; simp [← hE, ← hA]
          have hL := leftA_sound seen h3
          split at he
          · rename_i e1 e2 l' hl2
            rw [hl2] at hL
            split at he
            · rename_i hold
              simp only [Option.some.injEq] at he
              generalize hes : e1 :: e2 :: l' = L at *
              obtain ⟨LS, hLS⟩ : ∃ LS, LS = ES.filter fun e => !seen.toArray.contains e.born := ⟨_, rfl⟩
              rw [← hLS] at hL
              have hL' : (ES.toArray.filter fun e => !seen.toArray.contains e.born) = LS.toArray := by
                rw [hLS]; simp
              obtain ⟨hlen, hat⟩ := ERs.at hL
              have hb := old_sound hL hold
              have hlen2 : 2 ≤ LS.length := by rw [hlen, ← hes]; simp
              have f1 : LS.toArray.filter (fun e => decide (e.born < since)) = LS.toArray := by
                rw [Array.filter_eq_self]
                intro E hE; simpa using hb E (by simpa using hE)
              have f2 : LS.toArray.filter (fun e => decide (e.born ≥ since)) = #[] := by
                rw [Array.filter_eq_empty_iff]
                intro E hE
                have := hb E (by simpa using hE)
                simp; omega
              have hne : LS.toArray.isEmpty = false := by
                cases LS with
                | nil => simp at hlen2
                | cons x y => rfl
              obtain ⟨n, hn⟩ : ∃ n, n = LS.length := ⟨_, rfl⟩
              obtain ⟨i, hi⟩ : ∃ i, i = w.tape w.drawn (.mapNext n) % n := ⟨_, rfl⟩
              have hin : i < n := by rw [hi]; exact Nat.mod_lt _ (by omega)
              obtain ⟨E, hEi⟩ : ∃ E, LS[i]? = some E := ⟨LS[i]'(by omega), by simp⟩
              obtain ⟨e, g1, g2, g3, g4⟩ := hat i E hEi
              refine ⟨(.tup [.bool true, e.1, e.2.1], ⟨h.next, h.t.set p (.iter (some q) since (seen ++ [e.2.2]) clock)⟩), ?_, ?_⟩
              · rw [← he]; exact List.mem_map.2 ⟨e, g1, rfl⟩
              · obtain ⟨w1, hw1⟩ : ∃ w1 : World, w1 = { w with drawn := w.drawn + 1 } := ⟨_, rfl⟩
                have way1 : Way ρ h w ρ h w1 := Way.drew hr hf (by rw [hw1]) (by rw [hw1]; exact ⟨rfl, rfl, rfl⟩)
                have hlt : l.blk < w.heap.size := (hr.obj p _ l hg rfl hl).1
                have h1' : w1.heap[l.blk]? = some (.mapIter (some k.blk) since seen.toArray last) := by rw [hw1]; exact h1
                refine ⟨ρ, { w1 with heap := w1.heap.setIfInBounds l.blk (.mapIter (some k.blk) since (seen ++ [e.2.2]).toArray clock) }, .tuple #[.bool true, E.key, E.val], .inl ?_, ?_, ?_⟩
                · simp only [execOp, Instr.next, Sem.run_bind, hM, h0, Nat.add_zero, run_iter h1, Result.andThen_ok, run_map h4, hcond', Bool.false_eq_true, if_false, hL', f1, f2, hne]
                  have hc : (choose (.mapNext ((#[] : Array (Option MapEntry)) ++ (LS.toArray ++ #[]).map some).size)).run P w = .ok i w1 := by
                    have : ((#[] : Array (Option MapEntry)) ++ (LS.toArray ++ #[]).map some).size = n := by simp [hn]
                    rw [this]
                    have hnf : (Question.mapNext n).forced = false := by simp [Question.forced]; omega
                    simp [choose, Sem.run, hnf, Question.cut, hi, hw1]
                  rw [hc]
                  simp only [Result.andThen_ok]
                  have hcand : ((#[] : Array (Option MapEntry)) ++ (LS.toArray ++ #[]).map some)[i]? = some (some E) := by
                    simp [hEi]
                  rw [hcand]
                  simp [setObj, Sem.run, h1', g4]
                · exact ⟨[.bool true, E.key, E.val], ⟨.bool true, [E.key, E.val], rfl, ⟨E.key, [E.val], g2, ⟨E.val, [], g3, rfl, rfl⟩, rfl⟩, rfl⟩, rfl⟩
                · exact way1.trans (way_set hf hl (nx_set way1.nx.rel hg rfl hl (fun b => T.get_set _ _ _ _) ⟨rfl, rfl, rfl⟩ (by simp) (fun r hne => by simp only [Array.getElem?_setIfInBounds_ne (Ne.symm hne)]) rfl ⟨h0, some k.blk, by
                    have hlt1 : l.blk < w1.heap.size := by rw [hw1]; exact hlt
                    simp [hlt1], k, hk, rfl⟩))
            · simp at he
          · simp at he
      · simp at he
    · simp at he
  · simp at he
end
end Go.Proofs.YtgolcgnnomgapaaGreatDoor.Ev
