/-
  An evaluator of Go code over relative heaps, part L: stores and appends.
-/
import Derived.Test.YtnmlfhogolonoaaEvK
set_option linter.unusedVariables false
set_option linter.unusedSimpArgs false
namespace Go.Proofs.Ytnmlfhogolonoaa.Ev
noncomputable section

/-- what an operation that changes memory comes to -/
def EOut (P : Program) (s : Sem Next) (ρ : Rho) (h : H) (w : World) (v : AV) (h' : H) : Prop :=
  ∃ ρ' w' V, (s.run P w = .ok (.value V) w' ∨ s.run P w = .ok .skip w' ∧ V = undef) ∧ VR ρ' v V ∧ Way ρ h w ρ' h' w'

theorem next_le (need old : Nat) (h : old < need) : Builtin.nextslicecap need old ≤ 2 * need + 192 := by
  unfold Builtin.nextslicecap
  split
  · omega
  · split
    · omega
    · have key : ∀ r c, c ≤ 2 * need + 192 → Builtin.growBy need r c ≤ 2 * need + 192 := by
        intro r
        induction r with
        | zero => intro c hc; simpa [Builtin.growBy] using hc
        | succ r ih =>
          intro c hc
          unfold Builtin.growBy
          split
          · exact hc
          · exact ih _ (by omega)
      exact key 4 old (by omega)

theorem zeroCells_size (z : Array Value) (n : Nat) : (Builtin.zeroCells z n).size = n * z.size := by simp [Builtin.zeroCells]

/-- an append that fits -/
theorem run_app_in {P : Program} {ts tx e : TypeId} {ats : Array TypeId} {ex : TypeId} {es : Nat} (h0 : ats[0]? = some ts) (h1 : ats[1]? = some tx) (hu : P.underlying ts = some (.slice e)) (hx : P.underlying tx = some (.slice ex)) (hs : sz P e = some es)
    {p : Option Addr} {len cap n c2 : Nat} {q : Option Addr} {SRC : List Value} {w w' : World} (hfit : len + n ≤ cap) (hsrc : (Builtin.firstCells es n (.slice q n c2)).run P w = .ok SRC.toArray w)
    (hst : (match p with | some a => storeCells (a.add (len * es)) SRC | none => pure () : Sem Unit).run P w = .ok () w') (type : TypeId) :
    (Builtin.append_ ats type #[.slice p len cap, .slice q n c2]).run P w = .ok (.slice p (len + n) cap) w' := by
  unfold Builtin.append_
  simp only [h0, h1, List.getElem?_toArray, List.getElem?_cons_zero, List.getElem?_cons_succ, Sem.run_bind, Go.Proofs.Ytnmlfhogolonoaa.Ev.run_underlying hu, Go.Proofs.Ytnmlfhogolonoaa.Ev.run_underlying hx, Result.andThen_ok, run_sizeOf hs, Sem.run_pure, Builtin.lenOf, Bool.false_eq_true, if_false, if_pos hfit, Bool.not_false, if_true, hsrc]
  cases p with
  | none => simp at hst ⊢; exact hst
  | some a => simp only [] at hst; simp [hst]

/-- an append that makes a new row -/
theorem run_app_new {P : Program} {ts tx e ex : TypeId} {ats : Array TypeId} {es : Nat} {i : TypeInfo} {Z : Value} (h0 : ats[0]? = some ts) (h1 : ats[1]? = some tx) (hu : P.underlying ts = some (.slice e)) (hx : P.underlying tx = some (.slice ex)) (hi : P.info? e = some i) (hs : i.size = es)
    (hz : ∀ w, (zeroValue e).run P w = .ok Z w) {p q : Option Addr} {len cap n c2 : Nat} {OLD SRC : List Value} {w : World} (hfit : cap < len + n) (hb : (2 * (len + n) + 192) * i.bytes ≤ 281474976710656) (hn : len + n ≤ 281474976710656)
    (hold : ∀ w' : World, w'.heap = w.heap → (Builtin.firstCells es len (.slice p len cap)).run P w' = .ok OLD.toArray w') (hsrc : ∀ w' : World, w'.heap = w.heap → (Builtin.firstCells es n (.slice q n c2)).run P w' = .ok SRC.toArray w') (type : TypeId) :
    ∃ m w', len + n ≤ m ∧ w'.heap = w.heap.push (.cells (OLD.toArray ++ SRC.toArray ++ Builtin.zeroCells Z.cells (m - (len + n))) e) ∧ Env w w' ∧
      (Builtin.append_ ats type #[.slice p len cap, .slice q n c2]).run P w = .ok (.slice (some ⟨w.heap.size, 0, none⟩) (len + n) m) w' := by
  subst hs
  refine ⟨(Question.appendCap (len + n) cap e).cut (w.tape w.drawn (.appendCap (len + n) cap e)), { w with drawn := w.drawn + 1, heap := w.heap.push (.cells (OLD.toArray ++ SRC.toArray ++ Builtin.zeroCells Z.cells ((Question.appendCap (len + n) cap e).cut (w.tape w.drawn (.appendCap (len + n) cap e)) - (len + n))) e) }, ?_, rfl, ⟨rfl, rfl, rfl⟩, ?_⟩
  · simp only [Question.cut]; omega
  · have hnx := next_le (len + n) cap hfit
    have hle : Builtin.nextslicecap (len + n) cap * i.bytes ≤ (2 * (len + n) + 192) * i.bytes := Nat.mul_le_mul_right _ hnx
    have e48 : (2 : Nat) ^ 48 = 281474976710656 := by decide +kernel
    have c1 : ¬ (Builtin.nextslicecap (len + n) cap * i.bytes > 2 ^ 48) := by rw [e48]; omega
    have hmax : IntKind.i64.max = 9223372036854775807 := by decide +kernel
    have c2 : ¬ (((len + n : Nat) : Int) > IntKind.i64.max) := by rw [hmax]; omega
    unfold Builtin.append_
    simp only [h0, h1, List.getElem?_toArray, List.getElem?_cons_zero, List.getElem?_cons_succ, Sem.run_bind, Go.Proofs.Ytnmlfhogolonoaa.Ev.run_underlying hu, Go.Proofs.Ytnmlfhogolonoaa.Ev.run_underlying hx, Result.andThen_ok, sizeOf, run_typeInfo hi, Sem.run_pure, Builtin.lenOf, Bool.false_eq_true, if_false, Bool.not_false, if_true]
    rw [if_neg (by omega)]
    simp only [Sem.run_bind, Sem.run_ite, run_typeInfo hi, Result.andThen_ok, c2, false_and, if_false, c1, Sem.run_pure, run_choose, Question.forced, Bool.false_eq_true, run_askRoom]
    rw [hold { w with drawn := w.drawn + 1 } rfl]
    simp only [Result.andThen_ok]
    rw [hsrc { w with drawn := w.drawn + 1 } rfl]
    simp only [Result.andThen_ok, hz]
    simp [newRow]
    exact ⟨rfl, rfl, rfl⟩

/-- an operation that changes memory -/
inductive EOp where
  | st (n : Nat) (a x : Opd)
  | app (e : TypeId) (es bytes : Nat) (s x : Opd)

/-- the cells of a source: how many elements, and what they hold -/
def srcA (g : Nat → Option AO) (es : Nat) : AV → Option (Nat × List AV)
  | .nils => some (0, [])
  | .sl a o len es' _ => match len with
    | 0 => some (0, [])
    | _ => cond (Nat.beq es es') (match g a with
      | some (.row cells _ _) => match getList cells o (len * es) with
        | some l => some (len, l)
        | none => none
      | _ => none) none
  | _ => none
def appNew (y : Nat) (e : TypeId) (es bytes n : Nat) (src : List AV) (len : Nat) (old : List AV) (t : T AO) : Option (AV × H) :=
  cond (Nat.ble ((2 * (len + n) + 192) * bytes) 281474976710656 && Nat.ble (len + n) 281474976710656)
    (some (.sl y 0 (len + n) es none, ⟨y + 1, t.set y (.row (putList 0 (old ++ src) .e) (old ++ src).length e)⟩)) none
def appA (h : H) (e : TypeId) (es bytes : Nat) (s : AV) (n : Nat) (src : List AV) : Option (AV × H) :=
  match n with
  | 0 => match s with
    | .nils => some (.nils, h)
    | .sl a o len es' cap => some (.sl a o len es' cap, h)
    | _ => none
  | _ => match s with
    | .nils => appNew h.next e es bytes n src 0 [] h.t
    | .sl a o len es' cap => cond (Nat.beq es es') (match h.t.get a with
      | some (.row cells blen e') => cond (Nat.beq e e') (match cap with
        | some c => cond (Nat.ble (len + n) c)
          (cond (Nat.ble (o + (len + n) * es) blen) (some (.sl a o (len + n) es (some c), ⟨h.next, h.t.set a (.row (putList (o + len * es) src cells) blen e')⟩)) none)
          (match getList cells o (len * es) with
           | some old => appNew h.next e es bytes n src len old h.t
           | none => none)
        | none => cond (Nat.ble (o + (len + n) * es) blen && Nat.blt 0 len)
          (some (.sl a o (len + n) es none, ⟨h.next, h.t.set a (.row (putList (o + len * es) src cells) blen e')⟩))
          (match getList cells o (len * es) with
           | some old => appNew h.next e es bytes n src len old (h.t.set a .dead)
           | none => none)) none
      | _ => none) none
    | _ => none
def evE (tm : T AV) (h : H) : EOp → Option (AV × H)
  | .st n a x => match evo tm a, evo tm x with
    | some (.ptr p o), some v => match h.t.get p, cellsA v with
      | some (.row cells len e), some l => cond (Nat.beq l.length n && Nat.ble (o + n) len) (some (.tup [], ⟨h.next, h.t.set p (.row (putList o l cells) len e)⟩)) none
      | _, _ => none
    | _, _ => none
  | .app e es bytes s x => match evo tm s, evo tm x with
    | some s, some x => match srcA h.t.get es x with
      | some (n, src) => appA h e es bytes s n src
      | none => none
    | _, _ => none
def cE (P : Program) (o : Oper) : Option EOp := match o.op with
  | .store t a x => match sz P t, cOpd a, cOpd x with
    | some n, some a, some x => some (.st n a x)
    | _, _, _ => none
  | .call { callee := .builtin .append, args, argTypes } => match args.toList, argTypes[0]?, argTypes[1]? with
    | [s, x], some ts, some tx => match P.underlying ts, P.underlying tx with
      | some (.slice e), some (.slice _) => match P.info? e, zcells P e, cOpd s, cOpd x with
        | some i, some z, some s, some x => cond (Nat.beq z.length i.size && Nat.blt 0 i.size) (some (.app e i.size i.bytes s x)) none
        | _, _, _, _ => none
      | _, _ => none
    | _, _, _ => none
  | _ => none

theorem getList_all {P : Program} {ρ : Rho} {g : Nat → Option AO} {w : World} (hr : HR ρ g w) {a : Nat} {l : Loc} (hl : ρ a = some l) {cells : T AV} {blen : Nat} {e : TypeId} (hg : g a = some (.row cells blen e)) {o m : Nat} {vs : List AV}
    (hv : getList cells o m = some vs) : ∃ Vs, VRs ρ vs Vs ∧ Vs.length = m ∧ (∀ V ∈ Vs, one V = true) ∧ ∀ w' : World, w'.heap = w.heap → (loadCells ⟨l.blk, l.off + o, none⟩ m).run P w' = .ok Vs.toArray w' := by
  obtain ⟨Vs, k1, k2, k3, k4⟩ := cells_of hr hg hl hv
  refine ⟨Vs, k1, k2, k3, fun w' hw => load_list k2 rfl fun i V hV => ?_⟩
  have := k4 i V hV
  simpa [World.cell?, hw] using this

theorem srcA_sound {P : Program} {ρ : Rho} {g : Nat → Option AO} {w : World} (hr : HR ρ g w) {es n : Nat} {x : AV} {src : List AV} (h : srcA g es x = some (n, src)) {X : Value} (hx : VR ρ x X) :
    ∃ q c SRC, X = .slice q n c ∧ VRs ρ src SRC ∧ src.length = n * es ∧ (∀ V ∈ SRC, one V = true) ∧ ∀ w' : World, w'.heap = w.heap → (Builtin.firstCells es n X).run P w' = .ok SRC.toArray w' := by
  unfold srcA at h
  split at h
  · simp at h; obtain ⟨rfl, rfl⟩ := h
    simp only [VR] at hx; subst hx
    exact ⟨none, 0, [], rfl, rfl, by simp, by simp, fun w' _ => by simp [Builtin.firstCells]⟩
  · rename_i a o len es' cap
    have key : (∃ l c, ρ a = some l ∧ X = .slice (some ⟨l.blk, l.off + o, none⟩) len c) ∨ (len = 0 ∧ ∃ p, X = .slice (some p) 0 0) := by
      cases cap with
      | some c => simp only [VR] at hx; obtain ⟨l, h1, _, h2⟩ := hx; exact .inl ⟨l, _, h1, h2⟩
      | none =>
        simp only [VR] at hx
        obtain ⟨l, h1, _, _, h2 | ⟨h0, p, h2⟩⟩ := hx
        · exact .inl ⟨l, _, h1, h2⟩
        · exact .inr ⟨h0, p, h2⟩
    split at h
    · simp at h; obtain ⟨rfl, rfl⟩ := h
      have : ∃ p c, X = .slice (some p) 0 c := by
        rcases key with ⟨l, c, _, hX⟩ | ⟨_, p, hX⟩
        · exact ⟨_, _, hX⟩
        · exact ⟨_, _, hX⟩
      obtain ⟨p, c, rfl⟩ := this
      exact ⟨_, _, [], rfl, rfl, by simp, by simp, fun w' _ => by simp [Builtin.firstCells, loadCells, loadCellsFrom]⟩
    · rename_i hne
      cases he : Nat.beq es es'
      · rw [he] at h; simp at h
      · rw [he, cond_true] at h
        have he' := Nat.eq_of_beq_eq_true he
        split at h
        · rename_i cells blen e hg
          split at h
          · rename_i l' hgl
            simp at h; obtain ⟨rfl, rfl⟩ := h
            rcases key with ⟨l, c, hl, hX⟩ | ⟨h0, _⟩
            · obtain ⟨Vs, k1, k2, k3, k4⟩ := getList_all (P := P) hr hl hg hgl
              refine ⟨_, _, Vs, hX, k1, ?_, k3, fun w' hw => ?_⟩
              · have := k1.length; omega
              · rw [hX]; simpa [Builtin.firstCells] using k4 w' hw
            · exact absurd h0 hne
          · simp at h
        · simp at h
  · simp at h

theorem Nx.kill {ρ : Rho} {g g' : Nat → Option AO} {w : World} (h : HR ρ g w) {a : Nat} (hg' : ∀ b, g' b = if b = a then some .dead else g b) : Nx ρ g w ρ g' w := by
  have key : ∀ b p, g' b = some p → p.live = true → g b = some p := by
    intro b p hb hp
    rw [hg'] at hb
    by_cases e : b = a
    · rw [if_pos e] at hb; simp at hb; subst hb; simp [AO.live] at hp
    · rwa [if_neg e] at hb
  exact ⟨⟨fun b p m hb hp hm => h.obj b p m (key _ _ hb hp) hp hm, fun b c p q m n hb hp hc hq hm hn => h.inj b c p q m n (key _ _ hb hp) hp (key _ _ hc hq) hq hm hn⟩, Le.refl _, Env.refl _, Nat.le_refl _, fun _ _ _ => rfl,
    fun b p m hb hp hm _ => ⟨b, p, m, key _ _ hb hp, hp, hm, rfl⟩⟩

/-- One object is given another number, and changed in place. -/
theorem nx_move {ρ : Rho} {g g' : Nat → Option AO} {w w' : World} (h : HR ρ g w) {a y : Nat} {l m : Loc} {o o' : AO} (hg : g a = some o) (ho : o.live = true) (hl : ρ a = some l) (hy : ρ y = none) (hm : m.blk = l.blk)
    (hg' : ∀ b, g' b = if b = y then some o' else if b = a then some .dead else g b) (henv : Env w w') (hsz : w'.heap.size = w.heap.size) (hot : ∀ r, r ≠ l.blk → w'.heap[r]? = w.heap[r]?)
    (hin : OIn (upd ρ y m) w' m o') : Nx ρ g w (upd ρ y m) g' w' := by
  have hle : Le ρ (upd ρ y m) := upd_le' hy
  have hblk : l.blk < w.heap.size := (h.obj a o l hg ho hl).1
  have key : ∀ b p, b ≠ y → g' b = some p → p.live = true → b ≠ a ∧ g b = some p := by
    intro b p hby hb hp
    rw [hg', if_neg hby] at hb
    by_cases e : b = a
    · rw [if_pos e] at hb; simp at hb; subst hb; simp [AO.live] at hp
    · rw [if_neg e] at hb; exact ⟨e, hb⟩
  refine ⟨⟨?_, ?_⟩, hle, henv, by omega, ?_, ?_⟩
  · intro b p n hb hp hn
    by_cases e : b = y
    · subst e
      rw [upd_same] at hn; simp at hn; subst hn
      rw [hg', if_pos rfl] at hb; simp at hb; subst hb
      exact ⟨by omega, hin⟩
    · rw [upd_other e] at hn
      obtain ⟨k1, k2⟩ := key b p e hb hp
      obtain ⟨h2, h3⟩ := h.obj b p n k2 hp hn
      exact ⟨by omega, OIn.mono hle (OIn.congr (hot _ fun hh => k1 (h.inj b a p o n l k2 hp hg ho hn hl hh)) h3)⟩
  · intro b c p q n k hb hp hc hq hn hk hnk
    by_cases e : b = y
    · by_cases e' : c = y
      · rw [e, e']
      · obtain ⟨k1, k2⟩ := key c q e' hc hq
        rw [upd_other e'] at hk
        rw [e, upd_same] at hn; simp at hn; subst hn
        exact absurd (h.inj c a q o k l k2 hq hg ho hk hl (by omega)) k1
    · obtain ⟨k1, k2⟩ := key b p e hb hp
      rw [upd_other e] at hn
      by_cases e' : c = y
      · rw [e', upd_same] at hk; simp at hk; subst hk
        exact absurd (h.inj b a p o n l k2 hp hg ho hn hl (by omega)) k1
      · obtain ⟨j1, j2⟩ := key c q e' hc hq
        rw [upd_other e'] at hk
        exact h.inj b c p q n k k2 hp j2 hq hn hk hnk
  · intro r hr hn
    exact hot r fun e => hn a o l hg ho hl e.symm
  · intro b p n hb hp hn _
    by_cases e : b = y
    · subst e
      rw [upd_same] at hn; simp at hn; subst hn
      exact ⟨a, o, l, hg, ho, hl, hm.symm⟩
    · obtain ⟨k1, k2⟩ := key b p e hb hp
      rw [upd_other e] at hn
      exact ⟨b, p, n, k2, hp, hn, rfl⟩

/-- A row's beginning, of which all cells are known, and more cells behind it. -/
theorem row_in' {ρ : Rho} {vs : List AV} {Vs : List Value} (hv : VRs ρ vs Vs) (h1 : ∀ V ∈ Vs, one V = true) {e : TypeId} {w : World} {l : Loc} {c : Array Value} (hc : w.heap[l.blk]? = some (.cells c e (0, 0))) (hs : l.off + l.room = c.size) (hlen : vs.length ≤ l.room)
    (hat : ∀ i V, Vs[i]? = some V → c[l.off + i]? = some V) : OIn ρ w l (.row (putList 0 vs .e) vs.length e) := by
  refine ⟨hlen, c, hc, hs, fun i v hg => ?_⟩
  rw [putList_get] at hg
  have hi : i < vs.length := by
    by_cases hh : 0 ≤ i ∧ i < 0 + vs.length
    · omega
    · rw [if_neg hh, T.get_e] at hg; simp at hg
  rw [if_pos (by omega)] at hg
  have hg2 : vs[i]? = some v := by simpa using hg
  obtain ⟨V, k1, k2⟩ := hv.get hg2
  exact ⟨hi, V, k2, h1 V (List.mem_of_getElem? k1), hat i V k1⟩
end
end Go.Proofs.Ytnmlfhogolonoaa.Ev
