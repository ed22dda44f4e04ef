/-
  An evaluator of Go code over relative heaps, part N: maps.
-/
import Derived.Test.YtnmlfhogolonoaaEvM
import Derived.MapKept
set_option linter.unusedVariables false
set_option linter.unusedSimpArgs false
namespace Go.Proofs.Ytnmlfhogolonoaa.Ev
noncomputable section

def kindOf : TypeDesc → Option Nat
  | .int _ => some 0
  | .string => some 1
  | .bool => some 2
  | _ => none
def keyEq (kd : Nat) (x y : AV) : Option Bool := match x, y with
  | .int k a, .int k' b => cond (Nat.beq kd 0 && decide (k = k')) (some (iEq a b)) none
  | .str a, .str b => cond (Nat.beq kd 1) (some (strEq a b)) none
  | .bool a, .bool b => cond (Nat.beq kd 2) (some (a == b)) none
  | _, _ => none
def findA (kd : Nat) (k : AV) : List (AV × AV × Nat) → Nat → Option (Option (Nat × AV))
  | [], _ => some none
  | e :: es, i => match keyEq kd k e.1 with
    | some true => some (some (i, e.2.1))
    | some false => findA kd k es (i + 1)
    | none => none

theorem keyEq_sound {ρ : Rho} {kd : Nat} {d : TypeDesc} (hd : kindOf d = some kd) {x y : AV} {X Y : Value} {b : Bool} (h : keyEq kd x y = some b) (hx : VR ρ x X) (hy : VR ρ y Y) :
    Instr.sameNow d X Y = some b ∧ (b = true → Instr.sameBits 10000 Y X = true) ∧ ∀ (P : Program) (em : Bool) (t : TypeId), P.underlying t = some d → ∀ w, (Instr.checkKey em 10000 t X).run P w = .ok () w := by
  have hc : ∀ (V : Value), (∀ t v, V ≠ .iface t v) → (∀ c, V ≠ .agg c) → V ≠ .nilIface → ∀ (P : Program) (em : Bool) (t : TypeId), P.underlying t = some d → ∀ w, (Instr.checkKey em 10000 t V).run P w = .ok () w := by
    intro V h1 h2 h3 P em t ht w
    unfold Instr.checkKey
    simp only [Sem.run_bind, Go.Proofs.Ytnmlfhogolonoaa.Ev.run_underlying ht, Result.andThen_ok]
    cases d <;> simp only [kindOf] at hd <;> first
      | (simp at hd; done)
      | simp
  unfold keyEq at h
  split at h
  · rename_i k a k' c
    cases hb : (Nat.beq kd 0 && decide (k = k'))
    · rw [hb] at h; simp at h
    · rw [hb, cond_true] at h
      simp only [Bool.and_eq_true, decide_eq_true_eq] at hb
      obtain ⟨hb1, rfl⟩ := hb
      have hb1 := Nat.eq_of_beq_eq_true hb1
      subst hb1
      simp at h; subst h
      simp only [VR] at hx hy; subst hx hy
      refine ⟨?_, ?_, hc _ (by simp) (by simp) (by simp)⟩
      · cases d <;> simp only [kindOf] at hd <;> first
          | (simp at hd; done)
          | simp [Instr.sameNow, iEq_eq]
      · rw [iEq_eq]; intro he; simp at he; subst he; simp [Instr.sameBits]
  · rename_i a c
    cases hb : Nat.beq kd 1
    · rw [hb] at h; simp at h
    · rw [hb, cond_true] at h
      have hb1 := Nat.eq_of_beq_eq_true hb
      subst hb1
      simp at h; subst h
      simp only [strEq_eq]
      simp only [VR] at hx hy; subst hx hy
      refine ⟨?_, ?_, hc _ (by simp) (by simp) (by simp)⟩
      · cases d <;> simp only [kindOf] at hd <;> first
          | (simp at hd; done)
          | simp [Instr.sameNow]
      · intro he; have : a = c := (Go.MapKept.bytes_beq a c).1 he
        subst this; simp only [Instr.sameBits]; exact he
  · rename_i a c
    cases hb : Nat.beq kd 2
    · rw [hb] at h; simp at h
    · rw [hb, cond_true] at h
      have hb1 := Nat.eq_of_beq_eq_true hb
      subst hb1
      simp at h; subst h
      simp only [VR] at hx hy; subst hx hy
      refine ⟨?_, ?_, hc _ (by simp) (by simp) (by simp)⟩
      · cases d <;> simp only [kindOf] at hd <;> first
          | (simp at hd; done)
          | simp [Instr.sameNow]
      · intro he; have : a = c := by simpa using he
        subst this; simp [Instr.sameBits]
  · simp at h

/-- what a search in a map finds -/
def FR (ρ : Rho) (es : List (AV × AV × Nat)) (K : Value) (ES : List MapEntry) (i : Nat) : Option (Nat × AV) → Option (Nat × Value) → Prop
  | none, R => R = none
  | some (j, v), R => ∃ V E, R = some (j, V) ∧ VR ρ v V ∧ i ≤ j ∧ ES[j - i]? = some E ∧ Instr.sameBits 10000 E.key K = true
theorem findA_sound {ρ : Rho} {kd : Nat} {d : TypeDesc} (hd : kindOf d = some kd) {k : AV} {K : Value} (hk : VR ρ k K) : ∀ {es : List (AV × AV × Nat)} {ES : List MapEntry} {i : Nat} {r : Option (Nat × AV)}, findA kd k es i = some r → ERs ρ es ES →
    ∃ R, Instr.findNow d K ES i = some R ∧ FR ρ es K ES i r R
  | [], ES, i, r, h, he => by
    simp [findA] at h; subst h
    simp only [ERs] at he; subst he
    exact ⟨none, rfl, rfl⟩
  | e :: es, ES, i, r, h, he => by
    obtain ⟨E, M, h1, h2, h3, h4, rfl⟩ := he
    unfold findA at h
    split at h
    · rename_i hq
      simp at h; subst h
      obtain ⟨q1, q2, _⟩ := keyEq_sound hd hq hk h1
      exact ⟨some (i, E.val), by simp [Instr.findNow, q1], E.val, E, rfl, h2, Nat.le_refl _, by simp, q2 rfl⟩
    · rename_i hq
      obtain ⟨q1, _, _⟩ := keyEq_sound hd hq hk h1
      obtain ⟨R, j1, j2⟩ := findA_sound hd hk h h4
      refine ⟨R, by simp [Instr.findNow, q1, j1], ?_⟩
      cases r with
      | none => exact j2
      | some jv =>
        obtain ⟨j, v⟩ := jv
        obtain ⟨V, E', m1, m2, m3, m4, m5⟩ := j2
        exact ⟨V, E', m1, m2, by omega, by rw [show j - i = (j - (i + 1)) + 1 by omega]; simpa using m4, m5⟩
    · simp at h

/-- a key of a kind that can be seen -/
def keyA (kd : Nat) : AV → Bool
  | .int _ _ => Nat.beq kd 0
  | .str _ => Nat.beq kd 1
  | .bool _ => Nat.beq kd 2
  | _ => false
theorem keyA_check {ρ : Rho} {kd : Nat} {d : TypeDesc} (hd : kindOf d = some kd) {k : AV} {K : Value} (h : keyA kd k = true) (hk : VR ρ k K) (P : Program) (em : Bool) (t : TypeId) (ht : P.underlying t = some d) (w : World) : (Instr.checkKey em 10000 t K).run P w = .ok () w := by
  have hq : ∃ b, keyEq kd k k = some b := by
    unfold keyA at h
    unfold keyEq
    split at h
    · simp only [h, decide_true, Bool.and_self, cond_true]; exact ⟨_, rfl⟩
    · simp only [h, cond_true]; exact ⟨_, rfl⟩
    · simp only [h, cond_true]; exact ⟨_, rfl⟩
    · simp at h
  obtain ⟨b, hb⟩ := hq
  exact (keyEq_sound hd hb hk hk).2.2 P em t ht w

theorem run_findKey {P : Program} {t : TypeId} {d : TypeDesc} (ht : P.underlying t = some d) {K : Value} {ES : List MapEntry} {R : Option (Nat × Value)} (h : Instr.findNow d K ES 0 = some R) (w : World) : (Instr.findKey t K ES).run P w = .ok R w := by
  simp [Instr.findKey, Go.Proofs.Ytnmlfhogolonoaa.Ev.run_underlying ht, h]

/-- an operation that changes a map -/
inductive MOp where
  | upd (kd : Nat) (m k v : Opd)
  | del (kd : Nat) (m k : Opd)
/-- a search in a map -/
structure LOp where
  kd : Nat
  m : Opd
  k : Opd
  z : AV
  ok : Bool

def evM (tm : T AV) (h : H) : MOp → Option (AV × H)
  | .upd kd m k v => match evo tm m, evo tm k, evo tm v with
    | some (.map a), some k, some v => match h.t.get a with
      | some (.map es clock) => cond (keyA kd k) (match findA kd k es 0 with
        | some none => some (.tup [], ⟨h.next, h.t.set a (.map (es ++ [(k, v, clock)]) (clock + 1))⟩)
        | some (some (i, _)) => some (.tup [], ⟨h.next, h.t.set a (.map (es.modify i fun e => (k, v, e.2.2)) clock)⟩)
        | none => none) none
      | _ => none
    | _, _, _ => none
  | .del kd m k => match evo tm m, evo tm k with
    | some (.map a), some k => match h.t.get a with
      | some (.map es clock) => cond (keyA kd k) (match findA kd k es 0 with
        | some none => some (.tup [], ⟨h.next, h.t.set a (.map es clock)⟩)
        | some (some (i, _)) => some (.tup [], ⟨h.next, h.t.set a (.map (es.eraseIdx i) clock)⟩)
        | none => none) none
      | _ => none
    | _, _ => none
def evL (tm : T AV) (g : Nat → Option AO) (o : LOp) : Option AV :=
  let res (v : AV) (ok : Bool) : Option AV := some (cond o.ok (.tup [v, .bool ok]) v)
  match evo tm o.m, evo tm o.k with
  | some .nilm, some k => cond (keyA o.kd k) (res o.z false) none
  | some (.map a), some k => match g a with
    | some (.map es _) => cond (keyA o.kd k) (match findA o.kd k es 0 with
      | some none => res o.z false
      | some (some (_, v)) => res v true
      | none => none) none
    | _ => none
  | _, _ => none
def zval (P : Program) (t : TypeId) : Option AV :=
  match P.info? t with
  | some i => match i.zero with
    | some z => cv z
    | none => none
  | none => none
def cL (P : Program) (o : Oper) : Option LOp := match o.op with
  | .lookup t x ix ok => match P.underlying t with
    | some (.map kt e) => match P.underlying kt, zval P e, cOpd x, cOpd ix with
      | some d, some z, some m, some k => match kindOf d with
        | some kd => some ⟨kd, m, k, z, ok⟩
        | none => none
      | _, _, _, _ => none
    | _ => none
  | _ => none
def cUpd (P : Program) (t : TypeId) (m k x : Operand) : Option MOp := match P.underlying t with
    | some (.map kt _) => match P.underlying kt, cOpd m, cOpd k, cOpd x with
      | some d, some m, some k, some x => match kindOf d with
        | some kd => some (.upd kd m k x)
        | none => none
      | _, _, _, _ => none
    | _ => none
def cM (P : Program) (o : Oper) : Option MOp := match o.op with
  | .mapUpdate t m k x => cUpd P t m k x
  | .insert t m k x => cUpd P t m k x
  | .call { callee := .builtin .delete, args, argTypes } => match args.toList, argTypes[0]? with
    | [m, k], some t => match P.underlying t with
      | some (.map kt _) => match P.underlying kt, cOpd m, cOpd k with
        | some d, some m, some k => match kindOf d with
          | some kd => some (.del kd m k)
          | none => none
        | _, _, _ => none
      | _ => none
    | _, _ => none
  | _ => none

theorem zval_sound {P : Program} {t : TypeId} {v : AV} (h : zval P t = some v) (ρ : Rho) : ∃ V, VR ρ v V ∧ ∀ w, (zeroValue t).run P w = .ok V w := by
  unfold zval at h
  split at h
  · rename_i i hi
    split at h
    · rename_i z hz
      exact ⟨z, cv_sound h, fun w => by simp [zeroValue, run_typeInfo hi, hz]⟩
    · simp at h
  · simp at h

theorem evL_sound {P : Program} {o : Oper} {c : LOp} {tm : T AV} {v : AV} {ρ : Rho} {a : Act} {g : Nat → Option AO} {w : World} (hc : cL P o = some c) (h : evL tm g c = some v) (ht : TR ρ tm a.tmps) (hr : HR ρ g w) :
    ∃ V, VR ρ v V ∧ (execOp a.eval o).run P w = .ok (.value V) w := by
  obtain ⟨dst, op, type, pos, after, guard⟩ := o
  unfold cL at hc
  simp only [] at hc
  split at hc
  · rename_i t x ix ok
    split at hc
    · rename_i kt e hu
      split at hc
      · rename_i d z m k hd hz hm hk
        split at hc
        · rename_i kd hkd
          simp at hc; subst hc
          obtain ⟨Z, z1, z2⟩ := zval_sound hz ρ
          have hres : ∀ {u v : AV} {U : Value} {b : Bool}, some (cond ok (AV.tup [u, .bool b]) u) = some v → VR ρ u U → VR ρ v (if ok then .tuple #[U, .bool b] else U) := by
            intro u v U b hv hU
            simp at hv; subst hv
            cases ok
            · simpa using hU
            · simp only [cond_true, if_true, VR]
              exact ⟨[U, .bool b], ⟨U, [.bool b], hU, ⟨.bool b, [], by simp [VR], rfl, rfl⟩, rfl⟩, rfl⟩
          unfold evL at h
          simp only [] at h
          split at h
          · rename_i k' hm' hk'
            cases hka : keyA kd k'
            · rw [hka] at h; simp at h
            · rw [hka, cond_true] at h
              have hM := evo_sound ht hm hm'
              simp only [VR] at hM
              have hK := evo_sound ht hk hk'
              have hck := keyA_check hkd hka hK P true kt hd w
              refine ⟨_, hres h z1, ?_⟩
              simp [execOp, Instr.lookup, Go.Proofs.Ytnmlfhogolonoaa.Ev.run_underlying hu, hM, hck, run_findKey hd (K := a.eval ix) (ES := []) (R := none) rfl, z2]
          · rename_i p k' hm' hk'
            split at h
            · rename_i es clock hg
              cases hka : keyA kd k'
              · rw [hka] at h; simp at h
              · rw [hka, cond_true] at h
                have hM := evo_sound ht hm hm'
                simp only [VR] at hM
                obtain ⟨l, hl, hM⟩ := hM
                have hK := evo_sound ht hk hk'
                obtain ⟨_, ES, he, hh⟩ := hr.obj p _ l hg rfl hl
                have hck := fun em => keyA_check hkd hka hK P em kt hd w
                split at h
                · rename_i hf
                  obtain ⟨R, f1, f2⟩ := findA_sound hkd hK hf he
                  simp only [FR] at f2; subst f2
                  refine ⟨_, hres h z1, ?_⟩
                  simp [execOp, Instr.lookup, Go.Proofs.Ytnmlfhogolonoaa.Ev.run_underlying hu, hM, hck, run_findKey hd f1, z2, getObj, Sem.run, hh]
                · rename_i j u hf
                  obtain ⟨R, f1, f2⟩ := findA_sound hkd hK hf he
                  simp only [FR] at f2
                  obtain ⟨V, E, rfl, m2, _⟩ := f2
                  refine ⟨_, hres h m2, ?_⟩
                  simp [execOp, Instr.lookup, Go.Proofs.Ytnmlfhogolonoaa.Ev.run_underlying hu, hM, hck, run_findKey hd f1, getObj, Sem.run, hh]
                · simp at h
            · simp at h
          · simp at h
        · simp at hc
      · simp at hc
    · simp at hc
  · simp at hc

theorem ERs.app {ρ : Rho} : ∀ {l m : List (AV × AV × Nat)} {L M : List MapEntry}, ERs ρ l L → ERs ρ m M → ERs ρ (l ++ m) (L ++ M)
  | [], m, L, M, h, h' => by simp only [ERs] at h; subst h; simpa using h'
  | e :: l, m, L, M, h, h' => by
    obtain ⟨E, N, h1, h2, h3, h4, rfl⟩ := h
    exact ⟨E, N ++ M, h1, h2, h3, ERs.app h4 h', rfl⟩
theorem ERs.mod {ρ : Rho} {k v : AV} {K V : Value} (hk : VR ρ k K) (hv : VR ρ v V) : ∀ {l : List (AV × AV × Nat)} {L : List MapEntry} (i : Nat), ERs ρ l L → ERs ρ (l.modify i fun e => (k, v, e.2.2)) (L.modify i fun e => { e with key := K, val := V })
  | [], L, i, h => by simp only [ERs] at h; subst h; simp [ERs]
  | e :: l, L, 0, h => by
    obtain ⟨E, N, h1, h2, h3, h4, rfl⟩ := h
    exact ⟨{ E with key := K, val := V }, N, hk, hv, h3, h4, rfl⟩
  | e :: l, L, i + 1, h => by
    obtain ⟨E, N, h1, h2, h3, h4, rfl⟩ := h
    exact ⟨E, _, h1, h2, h3, ERs.mod hk hv i h4, rfl⟩
theorem ERs.erase {ρ : Rho} : ∀ {l : List (AV × AV × Nat)} {L : List MapEntry} (i : Nat), ERs ρ l L → ERs ρ (l.eraseIdx i) (L.eraseIdx i)
  | [], L, i, h => by simp only [ERs] at h; subst h; simp [ERs]
  | e :: l, L, 0, h => by
    obtain ⟨E, N, h1, h2, h3, h4, rfl⟩ := h
    exact h4
  | e :: l, L, i + 1, h => by
    obtain ⟨E, N, h1, h2, h3, h4, rfl⟩ := h
    exact ⟨E, _, h1, h2, h3, ERs.erase i h4, rfl⟩

/-- A map is changed. -/
theorem way_map {P : Program} {ρ : Rho} {h : H} {w : World} (hr : HR ρ h.t.get w) (hf : Fresh ρ h.next) {a : Nat} {l : Loc} {es es' : List (AV × AV × Nat)} {clock clock' : Nat} {ES' : List MapEntry} (hg : h.t.get a = some (.map es clock)) (hl : ρ a = some l) (he : ERs ρ es' ES') :
    ∃ w', (setObj l.blk (.map ES'.toArray clock')).run P w = .ok () w' ∧ Way ρ h w ρ ⟨h.next, h.t.set a (.map es' clock')⟩ w' := by
  obtain ⟨hb, ES, h1, h2⟩ := hr.obj a _ l hg rfl hl
  refine ⟨{ w with heap := w.heap.setIfInBounds l.blk (.map ES'.toArray clock') }, by simp [setObj, Sem.run, h2], way_set hf hl (nx_set hr hg rfl hl (fun b => T.get_set _ _ _ _) ⟨rfl, rfl, rfl⟩ (by simp) (fun r hne => ?_) rfl ⟨ES', he, ?_⟩)⟩
  · simp only [Array.getElem?_setIfInBounds_ne (Ne.symm hne)]
  · simp [hb]

theorem upd_sound {P : Program} {t : TypeId} {m k x : Operand} {c : MOp} {tm : T AV} {h h' : H} {v : AV} {ρ : Rho} {a : Act} {w : World} (hc : cUpd P t m k x = some c) (he : evM tm h c = some (v, h')) (ht : TR ρ tm a.tmps) (hr : HR ρ h.t.get w) (hf : Fresh ρ h.next) :
    v = .tup [] ∧ ∃ w', (Instr.mapUpdate t (a.eval m) (a.eval k) (a.eval x)).run P w = .ok () w' ∧ Way ρ h w ρ h' w' := by
  unfold cUpd at hc
  split at hc
  · rename_i kt et hu
    split at hc
    · rename_i d m' k' x' hd hm hk hx
      split at hc
      · rename_i kd hkd
        simp at hc; subst hc
        simp only [evM] at he
        split at he
        · rename_i p kv xv hm' hk' hx'
          split at he
          · rename_i es clock hg
            cases hka : keyA kd kv
            · rw [hka] at he; simp at he
            · rw [hka, cond_true] at he
              have hM := evo_sound ht hm hm'
              simp only [VR] at hM
              obtain ⟨l, hl, hM⟩ := hM
              have hK := evo_sound ht hk hk'
              have hX := evo_sound ht hx hx'
              obtain ⟨_, ES, hes, hh⟩ := hr.obj p _ l hg rfl hl
              have hck := fun em => keyA_check hkd hka hK P em kt hd w
              split at he
              · rename_i hfd
                obtain ⟨R, f1, f2⟩ := findA_sound hkd hK hfd hes
                simp only [FR] at f2; subst f2
                simp only [Option.some.injEq, Prod.mk.injEq] at he
                obtain ⟨rfl, rfl⟩ := he
                obtain ⟨w', j1, j2⟩ := way_map (P := P) (clock' := clock + 1) hr hf hg hl (ERs.app hes (m := [(kv, xv, clock)]) (M := [{ key := a.eval k, val := a.eval x, born := clock }]) ⟨_, [], hK, hX, rfl, rfl, rfl⟩)
                refine ⟨rfl, w', ?_, j2⟩
                have e : ({ toList := ES } : Array MapEntry).push ({ key := a.eval k, val := a.eval x, born := clock } : MapEntry) = (ES ++ [({ key := a.eval k, val := a.eval x, born := clock } : MapEntry)]).toArray := by simp
                simp only [Instr.mapUpdate, Sem.run_bind, Go.Proofs.Ytnmlfhogolonoaa.Ev.run_underlying hu, Result.andThen_ok, hM, getObj, Sem.run, hh, hck, run_findKey hd f1, e, j1]
              · rename_i j u hfd
                obtain ⟨R, f1, f2⟩ := findA_sound hkd hK hfd hes
                simp only [FR] at f2
                obtain ⟨V, E, rfl, m2, _, m4, m5⟩ := f2
                simp only [Option.some.injEq, Prod.mk.injEq] at he
                obtain ⟨rfl, rfl⟩ := he
                obtain ⟨w', j1, j2⟩ := way_map (P := P) (clock' := clock) hr hf hg hl (ERs.mod hK hX j hes)
                refine ⟨rfl, w', ?_, j2⟩
                have m4' : ES[j]? = some E := by simpa using m4
                have e : (({ toList := ES } : Array MapEntry).modify j fun e => { e with key := a.eval k, val := a.eval x }) = (ES.modify j fun e => { e with key := a.eval k, val := a.eval x }).toArray := by simp
                simp only [Instr.mapUpdate, Sem.run_bind, Go.Proofs.Ytnmlfhogolonoaa.Ev.run_underlying hu, Result.andThen_ok, hM, getObj, Sem.run, hh, hck, run_findKey hd f1, Instr.keyThatStays, List.getElem?_toArray, m4', Option.map_some, Option.getD_some, m5, if_true, Sem.run_pure, e, j1]
              · simp at he
          · simp at he
        · simp at he
      · simp at hc
    · simp at hc
  · simp at hc

theorem evM_sound {P : Program} {o : Oper} {c : MOp} {tm : T AV} {h h' : H} {v : AV} {ρ : Rho} {a : Act} {w : World} (hc : cM P o = some c) (he : evM tm h c = some (v, h')) (ht : TR ρ tm a.tmps) (hr : HR ρ h.t.get w) (hf : Fresh ρ h.next) :
    EOut P (execOp a.eval o) ρ h w v h' := by
  obtain ⟨dst, op, type, pos, after, guard⟩ := o
  unfold cM at hc
  simp only [] at hc
  split at hc
  · obtain ⟨rfl, w', k1, k2⟩ := upd_sound hc he ht hr hf
    exact ⟨ρ, w', undef, .inr ⟨by simp [execOp, k1], rfl⟩, by simp only [VR]; exact ⟨[], rfl, rfl⟩, k2⟩
  · obtain ⟨rfl, w', k1, k2⟩ := upd_sound hc he ht hr hf
    exact ⟨ρ, w', undef, .inr ⟨by simp [execOp, k1], rfl⟩, by simp only [VR]; exact ⟨[], rfl, rfl⟩, k2⟩
  · rename_i args ats
    split at hc
    · rename_i m k t hargs h0
      have hargs' : args = #[m, k] := by rw [← Array.toArray_toList (xs := args), hargs]
      subst hargs'
      split at hc
      · rename_i kt et hu
        split at hc
        · rename_i d m' k' hd hm hk
          split at hc
          · rename_i kd hkd
            simp at hc; subst hc
            simp only [evM] at he
            split at he
            · rename_i p kv hm' hk'
              split at he
              · rename_i es clock hg
                cases hka : keyA kd kv
                · rw [hka] at he; simp at he
                · rw [hka, cond_true] at he
                  have hM := evo_sound ht hm hm'
                  simp only [VR] at hM
                  obtain ⟨l, hl, hM⟩ := hM
                  have hK := evo_sound ht hk hk'
                  obtain ⟨_, ES, hes, hh⟩ := hr.obj p _ l hg rfl hl
                  have hck := fun em => keyA_check hkd hka hK P em kt hd w
                  obtain ⟨cs, hbb⟩ := run_builtin (P := P) (ρ := a.eval) (b := .delete) (args := #[m, k]) (ats := ats) (dst := dst) (type := type) (pos := pos) (after := after) (guard := guard)
                  split at he
                  · rename_i hfd
                    obtain ⟨R, f1, f2⟩ := findA_sound hkd hK hfd hes
                    simp only [FR] at f2; subst f2
                    simp only [Option.some.injEq, Prod.mk.injEq] at he
                    obtain ⟨rfl, rfl⟩ := he
                    obtain ⟨w', j1, j2⟩ := way_map (P := P) (clock' := clock) hr hf hg hl hes
                    refine ⟨ρ, w', undef, .inl ?_, by simp only [VR]; exact ⟨[], rfl, rfl⟩, j2⟩
                    rw [hbb]
                    simp [builtin, Builtin.delete_, h0, Go.Proofs.Ytnmlfhogolonoaa.Ev.run_underlying hu, hM, getObj, Sem.run, hh, hck, run_findKey hd f1, j1, undef]
                  · rename_i j u hfd
                    obtain ⟨R, f1, f2⟩ := findA_sound hkd hK hfd hes
                    simp only [FR] at f2
                    obtain ⟨V, E, rfl, m2, _, m4, m5⟩ := f2
                    simp only [Option.some.injEq, Prod.mk.injEq] at he
                    obtain ⟨rfl, rfl⟩ := he
                    obtain ⟨w', j1, j2⟩ := way_map (P := P) (clock' := clock) hr hf hg hl (ERs.erase j hes)
                    refine ⟨ρ, w', undef, .inl ?_, by simp only [VR]; exact ⟨[], rfl, rfl⟩, j2⟩
                    rw [hbb]
                    have e : ({ toList := ES } : Array MapEntry).eraseIdxIfInBounds j = (ES.eraseIdx j).toArray := by simp
                    simp [builtin, Builtin.delete_, h0, Go.Proofs.Ytnmlfhogolonoaa.Ev.run_underlying hu, hM, getObj, Sem.run, hh, hck, run_findKey hd f1, e, j1, undef]
                  · simp at he
              · simp at he
            · simp at he
          · simp at hc
        · simp at hc
      · simp at hc
    · simp at hc
  · simp at hc
end
end Go.Proofs.Ytnmlfhogolonoaa.Ev
