/-
  An evaluator of Go code over relative heaps, part Sg: a part of a heap, and how the ways of a walk come together again.
-/
import Derived.Test.YtgolcgnnomgapaaGreatDoorEvSf
set_option linter.unusedVariables false
set_option linter.unusedSimpArgs false
namespace Go.Proofs.YtgolcgnnomgapaaGreatDoor.Ev
noncomputable section

/-! ### A part of a heap -/
def refA : AV → List Nat
  | .ptr a _ => [a]
  | .sl a _ _ _ _ => [a]
  | .map a => [a]
  | _ => []
def refO : AO → List Nat
  | .row cells len _ => match getList cells 0 len with
    | some l => l.flatMap refA
    | none => []
  | _ => []
def refsH (h : H) (ks : List Nat) : List Nat := ks.flatMap fun k => match h.t.get k with
  | some o => refO o
  | none => []
def keysH (h : H) (args : List AV) : List Nat := [0, 1, 2, 3, 4, 5, 6, 7] ++ args.flatMap refA ++ refsH h (args.flatMap refA)
def partH (h : H) : List Nat → T AO
  | [] => .e
  | k :: l => match h.t.get k with
    | some o => (partH h l).set k o
    | none => partH h l
theorem partH_get (h : H) : ∀ (ks : List Nat) (a : Nat), (partH h ks).get a = if a ∈ ks then h.t.get a else none
  | [], a => by simp [partH, T.get_e]
  | k :: l, a => by
    unfold partH
    split
    · rename_i o ho
      rw [T.get_set, partH_get h l a]
      by_cases e : a = k
      · subst e; simp [ho]
      · simp [e]
    · rename_i ho
      rw [partH_get h l a]
      by_cases e : a = k
      · subst e; simp [ho]
      · simp [e]
theorem partH_some {h : H} {ks : List Nat} {a : Nat} {o : AO} (hg : (partH h ks).get a = some o) : a ∈ ks ∧ h.t.get a = some o := by
  rw [partH_get] at hg
  by_cases e : a ∈ ks
  · rw [if_pos e] at hg; exact ⟨e, hg⟩
  · rw [if_neg e] at hg; simp at hg
theorem partH_rel {ρ : Rho} {h : H} {w : World} (hr : HR ρ h.t.get w) (ks : List Nat) : HR ρ (partH h ks).get w :=
  ⟨fun a o l h1 h2 h3 => hr.obj a o l (partH_some h1).2 h2 h3, fun a b o p l m h1 h2 h3 h4 => hr.inj a b o p l m (partH_some h1).2 h2 (partH_some h3).2 h4⟩

/-! ### What is the same -/
def rowIs (l : List AV) (len : Nat) (e : TypeId) : AO → Bool
  | .row c' len' e' => Nat.beq len len' && Nat.beq e e' && (match getList c' 0 len with
    | some l' => eqAV.eqAVs (eqAV 4) l l'
    | none => false)
  | _ => false
theorem rowIs_eq {l : List AV} {len : Nat} {e : TypeId} {o : AO} (h : rowIs l len e o = true) : ∃ c', o = .row c' len e ∧ getList c' 0 len = some l := by
  unfold rowIs at h
  split at h
  · rename_i c' len' e'
    simp only [Bool.and_eq_true] at h
    obtain ⟨⟨h1, h2⟩, h3⟩ := h
    have h1 := Nat.eq_of_beq_eq_true h1
    have h2 := Nat.eq_of_beq_eq_true h2
    subst h1 h2
    split at h3
    · rename_i l' hl'
      have := eqAVs_sound (eqAV_sound 4) h3
      subst this
      exact ⟨c', rfl, hl'⟩
    · simp at h3
  · simp at h
def eqEs : List (AV × AV × Nat) → List (AV × AV × Nat) → Bool
  | [], [] => true
  | x :: l, y :: m => eqAV 4 x.1 y.1 && eqAV 4 x.2.1 y.2.1 && Nat.beq x.2.2 y.2.2 && eqEs l m
  | _, _ => false
theorem eqEs_sound : ∀ {l m : List (AV × AV × Nat)}, eqEs l m = true → l = m
  | [], [], _ => rfl
  | x :: l, y :: m, h => by
    simp only [eqEs, Bool.and_eq_true] at h
    obtain ⟨⟨⟨h1, h2⟩, h3⟩, h4⟩ := h
    obtain ⟨x1, x2, x3⟩ := x
    obtain ⟨y1, y2, y3⟩ := y
    have e1 := eqAV_sound _ _ _ h1
    have e2 := eqAV_sound _ _ _ h2
    have e3 := Nat.eq_of_beq_eq_true h3
    simp only at e1 e2 e3
    rw [e1, e2, e3, eqEs_sound h4]
  | [], _ :: _, h => by simp [eqEs] at h
  | _ :: _, [], h => by simp [eqEs] at h
/-- an old object that stands as it stood -/
def sameO : AO → AO → Bool
  | .row c len e, o' => match getList c 0 len with
    | some l => rowIs l len e o'
    | none => false
  | .map es k, .map es' k' => Nat.beq k k' && eqEs es es'
  | _, _ => false
theorem sameO_sound {o o' : AO} (h : sameO o o' = true) {ρ ρ' : Rho} {w w' : World} {l l0 : Loc} (hin : OIn ρ w l0 o) (hi : OIn ρ' w' l o') : o'.mut = true ∧ OIn ρ' w' l o := by
  cases o with
  | row c len e =>
    simp only [sameO] at h
    split at h
    · rename_i vs hvs
      obtain ⟨c', rfl, hc'⟩ := rowIs_eq h
      refine ⟨rfl, ?_⟩
      obtain ⟨_, cc0, _, _, hb⟩ := hin
      obtain ⟨h1, cc, h2, h3, h4⟩ := hi
      refine ⟨h1, cc, h2, h3, fun i v hv => ?_⟩
      have hlt := (hb i v hv).1
      have e1 := (getList_spec c len 0 vs hvs).2 i hlt
      have e2 := (getList_spec c' len 0 vs hc').2 i hlt
      rw [Nat.zero_add] at e1 e2
      exact h4 i v (by rw [e2, ← e1, hv])
    · simp at h
  | map es k =>
    cases o' with
    | map es' k' =>
      simp only [sameO, Bool.and_eq_true] at h
      have h1 := Nat.eq_of_beq_eq_true h.1
      have h2 := eqEs_sound h.2
      subst h1 h2
      exact ⟨rfl, hi⟩
    | _ => simp [sameO] at h
  | _ => simp [sameO] at h
/-- a new object that is the same in every way -/
def keepO (o : Option AO) (os : List (Option AO)) : AO := match o with
  | some (.row c len e) => match getList c 0 len with
    | some l => cond (os.all fun x => match x with
      | some o' => rowIs l len e o'
      | none => false) (.row (putList 0 l .e) len e) .dead
    | none => .dead
  | _ => .dead
theorem keepO_sound {o : Option AO} {os : List (Option AO)} : keepO o os = .dead ∨ (keepO o os).mut = true ∧ ∀ x ∈ os, ∃ o', x = some o' ∧ o'.mut = true ∧ ∀ ρ w l, OIn ρ w l o' → OIn ρ w l (keepO o os) := by
  unfold keepO
  split
  · rename_i c len e
    split
    · rename_i vs hvs
      cases hall : os.all fun x => match x with
        | some o' => rowIs vs len e o'
        | none => false with
      | false => left; rfl
      | true =>
        right
        refine ⟨rfl, fun x hx => ?_⟩
        have := List.all_eq_true.1 hall x hx
        cases x with
        | none => simp at this
        | some o' =>
          obtain ⟨c', rfl, hc'⟩ := rowIs_eq this
          refine ⟨_, rfl, rfl, fun ρ w l hi => ?_⟩
          obtain ⟨h1, cc, h2, h3, h4⟩ := hi
          refine ⟨h1, cc, h2, h3, fun i v hv => ?_⟩
          obtain ⟨e1, e2⟩ := getList_spec c' len 0 vs hc'
          rw [putList_get] at hv
          by_cases hh : 0 ≤ i ∧ i < 0 + vs.length
          · rw [if_pos hh] at hv
            have hlt : i < len := by omega
            have e3 := e2 i hlt
            rw [Nat.zero_add] at e3
            exact h4 i v (by rw [e3]; simpa using hv)
          · rw [if_neg hh, T.get_e] at hv; simp at hv
    · left; rfl
  · left; rfl

/-! ### The ways come together -/
def joinT (h1 : H) (hs : List H) : Nat → Nat → T AO → T AO
  | 0, _, t => t
  | n + 1, i, t => joinT h1 hs n (i + 1) (t.set i (keepO (h1.t.get i) (hs.map fun h => h.t.get i)))
theorem joinT_get (h1 : H) (hs : List H) : ∀ (n i : Nat) (t : T AO) (a : Nat), (joinT h1 hs n i t).get a = if i ≤ a ∧ a < i + n then some (keepO (h1.t.get a) (hs.map fun h => h.t.get a)) else t.get a
  | 0, i, t, a => by simp [joinT]; omega
  | n + 1, i, t, a => by
    rw [joinT, joinT_get h1 hs n (i + 1), T.get_set]
    by_cases h1 : i + 1 ≤ a ∧ a < i + 1 + n
    · rw [if_pos h1, if_pos (by omega)]
    · rw [if_neg h1]
      by_cases h2 : a = i
      · subst h2
        rw [if_pos rfl, if_pos (by omega)]
      · rw [if_neg h2, if_neg (by omega)]
def stays (h : H) (ks : List Nat) (h' : H) : Bool := ks.all fun k => match h.t.get k with
  | some o => cond o.mut (match h'.t.get k with
    | some o' => sameO o o'
    | none => false) true
  | none => true
theorem join_way {ρ ρ' : Rho} {h h1 q : H} {hs : List H} {ks : List Nat} {w w' : World} (hr : HR ρ h.t.get w) (hf : Fresh ρ h.next) (hq : q ∈ hs) (hst : stays h ks q = true) (hw : Way ρ ⟨h.next, partH h ks⟩ w ρ' q w') :
    Way ρ h w ρ' ⟨q.next, joinT h1 hs (Nat.sub q.next h.next) h.next h.t⟩ w' := by
  obtain ⟨J, hJ⟩ : ∃ J, J = joinT h1 hs (Nat.sub q.next h.next) h.next h.t := ⟨_, rfl⟩
  rw [← hJ]
  have hle : h.next ≤ q.next := hw.kp.1
  have hget : ∀ a, J.get a = if h.next ≤ a ∧ a < q.next then some (keepO (h1.t.get a) (hs.map fun h => h.t.get a)) else h.t.get a := by
    intro a
    rw [hJ, joinT_get]
    have : h.next + Nat.sub q.next h.next = q.next := by
      show h.next + (q.next - h.next) = q.next
      omega
    rw [this]
  -- new objects
  have hnew : ∀ a o, h.next ≤ a ∧ a < q.next → J.get a = some o → o.live = true → o.mut = true ∧ ∃ o', q.t.get a = some o' ∧ o'.mut = true ∧ ∀ ρ w l, OIn ρ w l o' → OIn ρ w l o := by
    intro a o ha hg hlive
    rw [hget, if_pos ha] at hg
    simp only [Option.some.injEq] at hg
    rcases keepO_sound (o := h1.t.get a) (os := hs.map fun h => h.t.get a) with hd | ⟨hm, hx⟩
    · rw [hd] at hg; subst hg; simp [AO.live] at hlive
    · obtain ⟨o', k1, k2, k3⟩ := hx (q.t.get a) (List.mem_map.2 ⟨q, hq, rfl⟩)
      rw [hg] at hm k3
      exact ⟨hm, o', k1, k2, k3⟩
  -- old numbers
  have hold : ∀ a l, ¬ (h.next ≤ a ∧ a < q.next) → ρ' a = some l → ρ a = some l ∧ a < h.next := by
    intro a l ha hl
    have h1 : a < q.next := by
      rcases Nat.lt_or_ge a q.next with hlt | hge
      · exact hlt
      · have := hw.fresh a hge
        rw [hl] at this; simp at this
    have h2 : a < h.next := by omega
    refine ⟨?_, h2⟩
    cases hra : ρ a with
    | none =>
      have := (hw.kp.2 a h2 hra).1
      rw [hl] at this; simp at this
    | some l0 =>
      have := hw.nx.le a l0 hra
      rw [hl] at this
      exact this.symm
  have holdget : ∀ a o, ¬ (h.next ≤ a ∧ a < q.next) → J.get a = some o → h.t.get a = some o := by
    intro a o ha hg
    rw [hget, if_neg ha] at hg
    exact hg
  -- an old object stands in q or lies aside
  have hins : ∀ a o l, h.t.get a = some o → o.mut = true → ρ a = some l → a ∈ ks → ∃ o', q.t.get a = some o' ∧ o'.live = true ∧ sameO o o' = true := by
    intro a o l hg hm hl ha
    have := List.all_eq_true.1 hst a ha
    rw [hg] at this
    simp only [hm, cond_true] at this
    cases hq2 : q.t.get a with
    | none => rw [hq2] at this; simp at this
    | some o' =>
      rw [hq2] at this
      refine ⟨o', rfl, ?_, this⟩
      cases o <;> cases o' <;> first
        | rfl
        | (simp [sameO, rowIs] at this; done)
        | (simp only [sameO, rowIs] at this; split at this <;> simp at this)
  have hobj : ∀ a o l, J.get a = some o → o.live = true → ρ' a = some l → l.blk < w'.heap.size ∧ OIn ρ' w' l o := by
    intro a o l hg hlive hl
    by_cases ha : h.next ≤ a ∧ a < q.next
    · obtain ⟨_, o', k1, k2, k3⟩ := hnew a o ha hg hlive
      obtain ⟨j1, j2⟩ := hw.nx.rel.obj a o' l k1 (AO.live_of_mut k2) hl
      exact ⟨j1, k3 _ _ _ j2⟩
    · obtain ⟨hl0, hlt⟩ := hold a l ha hl
      have hg0 := holdget a o ha hg
      obtain ⟨j1, j2⟩ := hr.obj a o l hg0 hlive hl0
      by_cases hk : a ∈ ks ∧ o.mut = true
      · obtain ⟨o', m1, m2, m3⟩ := hins a o l hg0 hk.2 hl0 hk.1
        obtain ⟨i1, i2⟩ := hw.nx.rel.obj a o' l m1 m2 hl
        exact ⟨i1, (sameO_sound m3 j2 i2).2⟩
      · refine ⟨Nat.lt_of_lt_of_le j1 hw.nx.size, OIn.mono hw.nx.le (OIn.congr (hw.nx.frame l.blk j1 fun b p m p1 p2 p3 e => ?_) j2)⟩
        obtain ⟨q1, q2⟩ := partH_some (h := h) (ks := ks) p1
        have hab := hr.inj a b o p l m hg0 hlive q2 (AO.live_of_mut p2) hl0 p3 e.symm
        subst hab
        rw [hg0] at q2
        simp only [Option.some.injEq] at q2
        subst q2
        exact hk ⟨q1, p2⟩
  have mixed : ∀ a b o p l m, h.next ≤ a ∧ a < q.next → ¬ (h.next ≤ b ∧ b < q.next) → J.get a = some o → o.live = true → J.get b = some p → p.live = true → ρ' a = some l → ρ' b = some m → l.blk = m.blk → False := by
    intro a b o p l m ha hb hg hlive hgb hliveb hl hm e
    obtain ⟨_, o', k1, k2, _⟩ := hnew a o ha hg hlive
    obtain ⟨hm0, hblt⟩ := hold b m hb hm
    have hgb0 := holdget b p hb hgb
    have hmlt := (hr.obj b p m hgb0 hliveb hm0).1
    obtain ⟨c, x, y, c1, c2, c3, c4⟩ := hw.nx.back a o' l k1 k2 hl (by rw [e]; exact hmlt)
    obtain ⟨c5, c6⟩ := partH_some (h := h) (ks := ks) c1
    obtain ⟨x', x1, x2, _⟩ := hins c x y c6 c2 c3 c5
    have hca := hw.nx.rel.inj c a x' o' y l x1 x2 k1 (AO.live_of_mut k2) (hw.nx.le _ _ c3) hl c4
    subst hca
    have := hf c ha.1
    rw [c3] at this; simp at this
  refine ⟨⟨⟨hobj, ?_⟩, hw.nx.le, hw.nx.env, hw.nx.size, ?_, ?_⟩, hw.fresh, ⟨hle, fun a ha hra => ⟨(hw.kp.2 a ha hra).1, ?_⟩⟩⟩
  · intro a b o p l m h1 h2 h3 h4 h5 h6 h7
    by_cases ha : h.next ≤ a ∧ a < q.next
    · by_cases hb : h.next ≤ b ∧ b < q.next
      · obtain ⟨_, o', k1, k2, _⟩ := hnew a o ha h1 h2
        obtain ⟨_, p', j1, j2, _⟩ := hnew b p hb h3 h4
        exact hw.nx.rel.inj a b o' p' l m k1 (AO.live_of_mut k2) j1 (AO.live_of_mut j2) h5 h6 h7
      · exact (mixed a b o p l m ha hb h1 h2 h3 h4 h5 h6 h7).elim
    · by_cases hb : h.next ≤ b ∧ b < q.next
      · exact (mixed b a p o m l hb ha h3 h4 h1 h2 h6 h5 h7.symm).elim
      · exact hr.inj a b o p l m (holdget a o ha h1) h2 (holdget b p hb h3) h4 (hold a l ha h5).1 (hold b m hb h6).1 h7
  · intro r hlt hn
    exact hw.nx.frame r hlt fun a o l k1 k2 k3 => hn a o l (partH_some (h := h) (ks := ks) k1).2 k2 k3
  · intro a o l h1 h2 h3 h4
    by_cases ha : h.next ≤ a ∧ a < q.next
    · obtain ⟨_, o', k1, k2, _⟩ := hnew a o ha h1 (AO.live_of_mut h2)
      obtain ⟨b, p, m, b1, b2, b3, b4⟩ := hw.nx.back a o' l k1 k2 h3 h4
      exact ⟨b, p, m, (partH_some (h := h) (ks := ks) b1).2, b2, b3, b4⟩
    · exact ⟨a, o, l, holdget a o ha h1, h2, (hold a l ha h3).1, rfl⟩
  · show J.get a = h.t.get a
    rw [hget, if_neg (by omega)]
end
end Go.Proofs.YtgolcgnnomgapaaGreatDoor.Ev
