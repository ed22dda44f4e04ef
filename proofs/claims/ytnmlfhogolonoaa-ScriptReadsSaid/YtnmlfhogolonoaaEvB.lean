/-
  An evaluator of Go code over relative heaps, part B: reading, writing and making objects.
-/
import Derived.Test.YtnmlfhogolonoaaEvA
import Derived.Laws.Cells
import Derived.Laws.CopyRow
import Derived.Laws.World
set_option linter.unusedVariables false
set_option linter.unusedSimpArgs false
namespace Go.Proofs.Ytnmlfhogolonoaa.Ev
noncomputable section

/-! ### Rows of cells -/
def putList (k : Nat) : List AV → T AV → T AV
  | [], t => t
  | v :: l, t => putList (k + 1) l (t.set k v)
theorem putList_get : ∀ (l : List AV) (k : Nat) (t : T AV) (i : Nat), (putList k l t).get i = if k ≤ i ∧ i < k + l.length then l[i - k]? else t.get i
  | [], k, t, i => by simp [putList]; omega
  | v :: l, k, t, i => by
    rw [putList, putList_get l (k + 1), T.get_set]
    by_cases h1 : k + 1 ≤ i ∧ i < k + 1 + l.length
    · rw [if_pos h1, if_pos (by simp; omega), show i - k = (i - (k + 1)) + 1 by omega]
      simp
    · rw [if_neg h1]
      by_cases h2 : i = k
      · subst h2; simp
      · rw [if_neg h2, if_neg (by simp; omega)]
def getList (t : T AV) (o : Nat) : Nat → Option (List AV)
  | 0 => some []
  | n + 1 => match t.get o with
    | some v => match getList t (o + 1) n with
      | some l => some (v :: l)
      | none => none
    | none => none
theorem getList_spec (t : T AV) : ∀ (n o : Nat) (l : List AV), getList t o n = some l → l.length = n ∧ ∀ i, i < n → t.get (o + i) = l[i]?
  | 0, o, l, h => by simp [getList] at h; subst h; simp
  | n + 1, o, l, h => by
    unfold getList at h
    split at h
    · rename_i v hv
      split at h
      · rename_i m hm
        simp at h; subst h
        obtain ⟨h1, h2⟩ := getList_spec t n (o + 1) m hm
        refine ⟨by simp [h1], fun i hi => ?_⟩
        cases i with
        | zero => simpa using hv
        | succ i => have := h2 i (by omega); simpa [show o + (i + 1) = o + 1 + i by omega] using this
      · simp at h
    · simp at h

theorem addr_add (b o i : Nat) : (⟨b, o, none⟩ : Addr).add i = ⟨b, o + i, none⟩ := by
  unfold Addr.add
  split
  · rename_i h; subst h; rfl
  · rfl

theorem HR.row {ρ : Rho} {g : Nat → Option AO} {w : World} (h : HR ρ g w) {a : Nat} {l : Loc} {cells : T AV} {len : Nat} {e : TypeId} (hg : g a = some (.row cells len e)) (hl : ρ a = some l) :
    l.blk < w.heap.size ∧ OIn ρ w l (.row cells len e) := by
  exact h.obj a _ l hg rfl hl
theorem cell_of {ρ : Rho} {g : Nat → Option AO} {w : World} (h : HR ρ g w) {a : Nat} {l : Loc} {cells : T AV} {len : Nat} {e : TypeId} (hg : g a = some (.row cells len e)) (hl : ρ a = some l)
    {i : Nat} {v : AV} (hv : cells.get i = some v) : ∃ V, VR ρ v V ∧ one V = true ∧ w.cell? ⟨l.blk, l.off + i, none⟩ = some V := by
  obtain ⟨_, _, c, hc, _, hi⟩ := h.row hg hl
  obtain ⟨_, V, h1, h2, h3⟩ := hi i v hv
  exact ⟨V, h1, h2, by simp [World.cell?, hc, h3]⟩
theorem cells_of {ρ : Rho} {g : Nat → Option AO} {w : World} (h : HR ρ g w) {a : Nat} {l : Loc} {cells : T AV} {len : Nat} {e : TypeId} (hg : g a = some (.row cells len e)) (hl : ρ a = some l) :
    ∀ {n o : Nat} {vs : List AV}, getList cells o n = some vs → ∃ Vs, VRs ρ vs Vs ∧ Vs.length = n ∧ (∀ V ∈ Vs, one V = true) ∧ ∀ i V, Vs[i]? = some V → w.cell? ⟨l.blk, l.off + o + i, none⟩ = some V
  | 0, o, vs, hv => by simp [getList] at hv; subst hv; exact ⟨[], rfl, rfl, by simp, by simp⟩
  | n + 1, o, vs, hv => by
    unfold getList at hv
    split at hv
    · rename_i v h1
      split at hv
      · rename_i m h2
        simp at hv; subst hv
        obtain ⟨V, k1, k2, k3⟩ := cell_of h hg hl h1
        obtain ⟨Vs, j1, j2, j3, j4⟩ := cells_of h hg hl h2
        refine ⟨V :: Vs, ⟨V, Vs, k1, j1, rfl⟩, by simp [j2], by simpa using ⟨k2, j3⟩, fun i U hU => ?_⟩
        cases i with
        | zero => simp at hU; subst hU; exact k3
        | succ i => simp at hU; have := j4 i U hU; rwa [show l.off + o + (i + 1) = l.off + (o + 1) + i by omega]
      · simp at hv
    · simp at hv

theorem load_cell {P : Program} {w : World} {a : Addr} {V : Value} (h : w.cell? a = some V) (m : Mode) : (load a m).run P w = .ok V w := by
  rw [run_load, h]
theorem load_list {P : Program} {w : World} {a : Addr} {Vs : List Value} {n : Nat} (hn : Vs.length = n) (hs : a.spot = none) (h : ∀ (i : Nat) (V : Value), Vs[i]? = some V → w.cell? ⟨a.block, a.off + i, none⟩ = some V) :
    (loadCells a n).run P w = .ok Vs.toArray w := by
  subst hn
  refine run_loadCells_list w a Vs fun j v hj => ?_
  obtain ⟨b, o, s⟩ := a
  simp at hs; subst hs
  rw [addr_add]
  exact h j v hj

theorem World.setRow_size (w : World) (g : Nat) (c : Array Value) : (w.setRow g c).heap.size = w.heap.size := by
  unfold World.setRow; simp
theorem World.setRow_env (w : World) (g : Nat) (c : Array Value) : Env w (w.setRow g c) := ⟨rfl, rfl, rfl⟩
theorem World.setRow_at (w : World) (g : Nat) (c : Array Value) {cur : Array Value} {t : TypeId} {f : Nat × Nat} (h : w.heap[g]? = some (.cells cur t f)) : (w.setRow g c).heap[g]? = some (.cells c t f) := by
  exact setRow_heap w g cur _ t _ h
theorem World.setRow_other (w : World) (g : Nat) (c : Array Value) {r : Nat} (h : r ≠ g) : (w.setRow g c).heap[r]? = w.heap[r]? := by
  unfold World.setRow
  rw [Array.getElem?_modify]
  simp [Ne.symm h]

theorem one_oneCell' {V : Value} : one V = true → V.oneCell' = true := by
  cases V <;> simp [one, Value.oneCell']

/-- One object is changed in place. -/
theorem nx_set {ρ : Rho} {g g' : Nat → Option AO} {w w' : World} (h : HR ρ g w) {a : Nat} {l : Loc} {o o' : AO} (hg : g a = some o) (ho : o.live = true) (hl : ρ a = some l)
    (hg' : ∀ b, g' b = if b = a then some o' else g b) (henv : Env w w') (hsz : w'.heap.size = w.heap.size) (hot : ∀ r, r ≠ l.blk → w'.heap[r]? = w.heap[r]?) (ho' : o'.live = true) (hin : OIn ρ w' l o') : Nx ρ g w ρ g' w' := by
  have hblk : l.blk < w.heap.size := (h.obj a o l hg ho hl).1
  refine ⟨⟨?_, ?_⟩, Le.refl _, henv, by omega, ?_, ?_⟩
  · intro b p m hb hp h1
    rw [hg'] at hb
    by_cases e : b = a
    · subst e
      simp at hb; subst hb
      rw [hl] at h1; simp at h1; subst h1
      exact ⟨by omega, hin⟩
    · rw [if_neg e] at hb
      obtain ⟨h2, h3⟩ := h.obj b p m hb hp h1
      refine ⟨by omega, OIn.congr (hot _ fun hh => e (h.inj b a p o m l hb hp hg ho h1 hl hh)) h3⟩
  · intro b c p q m n hb hp hc hq hm hn hmn
    rw [hg'] at hb hc
    have hb' : ∃ p, g b = some p ∧ p.live = true := by
      by_cases e : b = a
      · subst e; exact ⟨o, hg, ho⟩
      · rw [if_neg e] at hb; exact ⟨p, hb, hp⟩
    have hc' : ∃ p, g c = some p ∧ p.live = true := by
      by_cases e : c = a
      · subst e; exact ⟨o, hg, ho⟩
      · rw [if_neg e] at hc; exact ⟨q, hc, hq⟩
    obtain ⟨p', hb1, hb2⟩ := hb'
    obtain ⟨q', hc1, hc2⟩ := hc'
    exact h.inj b c p' q' m n hb1 hb2 hc1 hc2 hm hn hmn
  · intro r hr hn
    exact hot r fun e => hn a o l hg ho hl e.symm
  · intro b p m hb hp hm _
    rw [hg'] at hb
    by_cases e : b = a
    · subst e
      rw [hl] at hm; simp at hm; subst hm
      exact ⟨b, o, l, hg, ho, hl, rfl⟩
    · rw [if_neg e] at hb
      exact ⟨b, p, m, hb, hp, hm, rfl⟩

def upd (ρ : Rho) (a : Nat) (l : Loc) : Rho := fun b => if b = a then some l else ρ b
theorem upd_le' {ρ : Rho} {a : Nat} {l : Loc} (h : ρ a = none) : Le ρ (upd ρ a l) := fun b m hb => by
  unfold upd
  by_cases e : b = a
  · subst e; rw [h] at hb; simp at hb
  · rw [if_neg e]; exact hb
theorem upd_le {ρ : Rho} {a : Nat} {l : Loc} {n : Nat} (h : Fresh ρ n) (ha : n ≤ a) : Le ρ (upd ρ a l) := upd_le' (h a ha)
theorem upd_other {ρ : Rho} {a b : Nat} {l : Loc} (h : b ≠ a) : upd ρ a l b = ρ b := by simp [upd, h]
theorem upd_same {ρ : Rho} {a : Nat} {l : Loc} : upd ρ a l a = some l := by simp [upd]
theorem upd_fresh {ρ : Rho} {a : Nat} {l : Loc} (h : Fresh ρ a) : Fresh (upd ρ a l) (a + 1) := fun b hb => by
  unfold upd
  rw [if_neg (by omega)]; exact h b (by omega)

/-- A new object. -/
theorem nx_new {ρ : Rho} {g g' : Nat → Option AO} {w : World} (h : HR ρ g w) {a : Nat} {l : Loc} {o : AO} {obj : Obj} (hf : ρ a = none) (hl : l.blk = w.heap.size)
    (hg' : ∀ b, g' b = if b = a then some o else g b) (hin : OIn (upd ρ a l) (w.alloc obj) l o) : Nx ρ g w (upd ρ a l) g' (w.alloc obj) := by
  have hle : Le ρ (upd ρ a l) := upd_le' hf
  have hold : ∀ r, r < w.heap.size → (w.alloc obj).heap[r]? = w.heap[r]? := fun r hr => by
    simp only [World.alloc, Array.getElem?_push]
    rw [if_neg (by omega)]
  refine ⟨⟨?_, ?_⟩, hle, ⟨rfl, rfl, rfl⟩, by simp, fun r hr _ => hold r hr, ?_⟩
  · intro b p m hb hp hm
    rw [hg'] at hb
    by_cases e : b = a
    · subst e
      simp at hb; subst hb
      rw [upd_same] at hm; simp at hm; subst hm
      exact ⟨by simp; omega, hin⟩
    · rw [if_neg e] at hb
      rw [upd_other e] at hm
      obtain ⟨h2, h3⟩ := h.obj b p m hb hp hm
      exact ⟨by simp; omega, OIn.mono hle (OIn.congr (hold _ h2) h3)⟩
  · intro b c p q m n hb hp hc hq hm hn hmn
    rw [hg'] at hb hc
    by_cases e : b = a
    · by_cases e' : c = a
      · rw [e, e']
      · rw [if_neg e'] at hc
        rw [upd_other e'] at hn
        have := (h.obj c q n hc hq hn).1
        rw [e, upd_same] at hm; simp at hm; subst hm
        omega
    · rw [if_neg e] at hb
      rw [upd_other e] at hm
      have k := (h.obj b p m hb hp hm).1
      by_cases e' : c = a
      · rw [e', upd_same] at hn; simp at hn; subst hn
        omega
      · rw [if_neg e'] at hc
        rw [upd_other e'] at hn
        exact h.inj b c p q m n hb hp hc hq hm hn hmn
  · intro b p m hb hp hm hlt
    rw [hg'] at hb
    by_cases e : b = a
    · subst e
      rw [upd_same] at hm; simp at hm; subst hm
      omega
    · rw [if_neg e] at hb
      rw [upd_other e] at hm
      exact ⟨b, p, m, hb, hp, hm, rfl⟩

/-- A row of cells that are all known. -/
theorem nx_row {ρ : Rho} {h : H} {w : World} (hr : HR ρ h.t.get w) (hf : Fresh ρ h.next) {vs : List AV} {Vs : List Value} (hv : VRs ρ vs Vs) (h1 : ∀ V ∈ Vs, one V = true) (e : TypeId) :
    Nx ρ h.t.get w (upd ρ h.next ⟨w.heap.size, 0, Vs.length⟩) (h.t.set h.next (.row (putList 0 vs .e) vs.length e)).get (w.alloc (.cells Vs.toArray e)) ∧ Fresh (upd ρ h.next ⟨w.heap.size, 0, Vs.length⟩) (h.next + 1) := by
  refine ⟨nx_new hr (hf _ (Nat.le_refl _)) rfl (fun b => T.get_set _ _ _ _) ?_, upd_fresh hf⟩
  refine ⟨by simp [hv.length], Vs.toArray, by show (w.heap.push _)[w.heap.size]? = _; simp, by simp, fun i v hg => ?_⟩
  rw [putList_get] at hg
  have hi : i < vs.length := by
    by_cases hh : 0 ≤ i ∧ i < 0 + vs.length
    · omega
    · rw [if_neg hh, T.get_e] at hg; simp at hg
  rw [if_pos (by omega)] at hg
  simp at hg
  refine ⟨hi, ?_⟩
  have hg2 : vs[i]? = some v := by simpa using hg
  obtain ⟨V, k1, k2⟩ := hv.get hg2
  exact ⟨V, VR.mono (upd_le hf (Nat.le_refl _)) _ _ k2, h1 V (List.mem_of_getElem? k1), by simpa using k1⟩

/-- A stretch of a row is written. -/
theorem nx_write {ρ : Rho} {h : H} {w : World} (hr : HR ρ h.t.get w) {a : Nat} {l : Loc} {cells : T AV} {len : Nat} {e : TypeId} (hg : h.t.get a = some (.row cells len e)) (hl : ρ a = some l)
    {vs : List AV} {Vs : List Value} (hv : VRs ρ vs Vs) (h1 : ∀ V ∈ Vs, one V = true) {o : Nat} (ho : o + vs.length ≤ len) (P : Program) :
    ∃ w', (storeCells ⟨l.blk, l.off + o, none⟩ Vs).run P w = .ok () w' ∧ Nx ρ h.t.get w ρ (h.t.set a (.row (putList o vs cells) len e)).get w' := by
  obtain ⟨hb, hlen, c, hc, hroom, hi⟩ := hr.row hg hl
  have hL : Vs.length = vs.length := hv.length
  have hrun := run_storeCells_at (P := P) l.blk (l.off + o) e Vs 0 c w hc (by omega) (fun V hV => one_oneCell' (h1 V hV))
  rw [Nat.add_zero] at hrun
  refine ⟨_, hrun, nx_set hr hg rfl hl (fun b => T.get_set _ _ _ _) (World.setRow_env _ _ _) (World.setRow_size _ _ _) (fun r hne => World.setRow_other _ _ _ hne) rfl ?_⟩
  refine ⟨hlen, _, World.setRow_at _ _ _ hc, ?_, fun i v hgi => ?_⟩
  · have hcl : c.toList.length = c.size := by simp
    simp only [List.size_toArray, List.length_append, List.length_take, List.length_drop, hcl]
    omega
  · rw [putList_get] at hgi
    have hcl : c.toList.length = c.size := by simp
    by_cases hh : o ≤ i ∧ i < o + vs.length
    · rw [if_pos hh] at hgi
      have hg2 : vs[i - o]? = some v := hgi
      obtain ⟨V, k1, k2⟩ := hv.get hg2
      refine ⟨by omega, V, k2, h1 V (List.mem_of_getElem? k1), ?_⟩
      simp only [List.getElem?_toArray]
      rw [List.append_assoc, List.getElem?_append_right (by simp; omega), List.getElem?_append_left (by simp [hcl]; omega)]
      rw [← k1]
      congr 1
      simp [hcl]; omega
    · rw [if_neg hh] at hgi
      obtain ⟨j1, V, j2, j3, j4⟩ := hi i v hgi
      refine ⟨j1, V, j2, j3, ?_⟩
      rw [← j4]
      simp only [List.getElem?_toArray]
      have hc2 : ∀ k : Nat, c[k]? = c.toList[k]? := fun k => by simp
      by_cases hlo : i < o
      · rw [List.append_assoc, List.getElem?_append_left (by simp [hcl]; omega), List.getElem?_take, if_pos (by omega), hc2]
      · rw [List.getElem?_append_right (by simp [hcl]; omega), List.getElem?_drop, hc2]
        congr 1
        simp [hcl]; omega

/-- One object is changed in place. -/
theorem way_set {ρ : Rho} {h : H} {w w' : World} (hf : Fresh ρ h.next) {a : Nat} {l : Loc} {o : AO} (hl : ρ a = some l) (hn : Nx ρ h.t.get w ρ (h.t.set a o).get w') : Way ρ h w ρ ⟨h.next, h.t.set a o⟩ w' :=
  ⟨hn, hf, Nat.le_refl _, fun b hb e => ⟨e, by
    show (h.t.set a o).get b = _
    rw [T.get_set, if_neg]
    intro he
    rw [he, hl] at e
    simp at e⟩⟩
/-- One object is made. -/
theorem way_new {ρ : Rho} {h : H} {w w' : World} (hf : Fresh ρ h.next) {l : Loc} {o : AO} (hn : Nx ρ h.t.get w (upd ρ h.next l) (h.t.set h.next o).get w') : Way ρ h w (upd ρ h.next l) ⟨h.next + 1, h.t.set h.next o⟩ w' :=
  ⟨hn, upd_fresh hf, Nat.le_succ _, fun b hb e => ⟨by rw [upd_other (by omega)]; exact e, by
    show (h.t.set h.next o).get b = _
    rw [T.get_set, if_neg (by omega)]⟩⟩
end
end Go.Proofs.Ytnmlfhogolonoaa.Ev
