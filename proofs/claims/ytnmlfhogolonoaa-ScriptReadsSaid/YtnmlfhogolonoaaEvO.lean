/-
  An evaluator of Go code over relative heaps, part O: methods, atomic operations, calls, all operations.
-/
import Derived.Test.YtnmlfhogolonoaaEvN
import Derived.Laws.Externs
set_option linter.unusedVariables false
set_option linter.unusedSimpArgs false
namespace Go.Proofs.Ytnmlfhogolonoaa.Ev
noncomputable section

/-! ### Methods -/
inductive PlA where
  | val (v : AV)
  | var (a o : Nat)
def PR (ρ : Rho) : PlA → Place → Prop
  | .val v, x => ∃ V, VR ρ v V ∧ x = .val V
  | .var a o, x => ∃ l, ρ a = some l ∧ x = .var ⟨l.blk, l.off + o, none⟩
def getP (P : Program) (g : Nat → Option AO) (t : TypeId) : PlA → Option AV
  | .val v => some v
  | .var a o => match aggOf P t with
    | some agg => ldA g agg a o
    | none => none
theorem getP_sound {P : Program} {ρ : Rho} {g : Nat → Option AO} {w : World} (hr : HR ρ g w) {t : TypeId} {p : PlA} {x : Place} {v : AV} (h : getP P g t p = some v) (hp : PR ρ p x) :
    ∃ V, VR ρ v V ∧ (x.get t).run P w = .ok V w := by
  cases p with
  | val u =>
    simp [getP] at h; subst h
    obtain ⟨V, h1, rfl⟩ := hp
    exact ⟨V, h1, by simp [Place.get]⟩
  | var a o =>
    obtain ⟨l, h1, rfl⟩ := hp
    simp only [getP] at h
    split at h
    · rename_i agg ha
      obtain ⟨V, k1, k2⟩ := ldA_sound (P := P) hr ha h h1
      exact ⟨V, k1, by simpa [Place.get] using k2⟩
    · simp at h
def placeA (P : Program) (f : Field) (a o : Nat) : Option PlA :=
  match sz P f.type with
  | some (_ + 1) => some (.var a (o + f.offset))
  | _ => none
theorem placeA_sound {P : Program} {ρ : Rho} {f : Field} {a o : Nat} {p : PlA} (h : placeA P f a o = some p) {l : Loc} (hl : ρ a = some l) : ∃ b : Addr, PR ρ p (.var b) ∧ ∀ w, (fieldPlace ⟨l.blk, l.off + o, none⟩ f).run P w = .ok b w := by
  unfold placeA at h
  split at h
  · rename_i n hs
    simp at h; subst h
    refine ⟨⟨l.blk, l.off + (o + f.offset), none⟩, ⟨l, hl, rfl⟩, fun w => ?_⟩
    simp [fieldPlace, run_sizeOf hs, addr_add, Nat.add_assoc]
  · simp at h
def followA (P : Program) (g : Nat → Option AO) : List FieldStep → TypeId → PlA → Option (TypeId × PlA)
  | [], t, x => some (t, x)
  | s :: rest, t, x => match P.underlying s.struct with
    | some (.struct fields) => match fields[s.index]? with
      | some f => match s.deref with
        | true => match getP P g t x with
          | some (.ptr a o) => match placeA P f a o with
            | some p => followA P g rest f.type p
            | none => none
          | _ => none
        | false => match x with
          | .var a o => match placeA P f a o with
            | some p => followA P g rest f.type p
            | none => none
          | .val (.agg cs) => match partA P f.type cs f.offset with
            | some v => followA P g rest f.type (.val v)
            | none => none
          | _ => none
      | none => none
    | _ => none
theorem followA_sound {P : Program} {ρ : Rho} {g : Nat → Option AO} {w : World} (hr : HR ρ g w) : ∀ {l : List FieldStep} {t t' : TypeId} {p p' : PlA} {x : Place}, followA P g l t p = some (t', p') → PR ρ p x →
    ∃ x', PR ρ p' x' ∧ (follow l t x).run P w = .ok (t', x') w
  | [], t, t', p, p', x, h, hp => by
    simp [followA] at h; obtain ⟨rfl, rfl⟩ := h
    exact ⟨x, hp, by simp [follow]⟩
  | s :: rest, t, t', p, p', x, h, hp => by
    unfold followA at h
    split at h
    · rename_i fields hu
      split at h
      · rename_i f hf
        unfold follow
        simp only [Sem.run_bind, Go.Proofs.Ytnmlfhogolonoaa.Ev.run_underlying hu, Result.andThen_ok, hf]
        split at h
        · rename_i hd
          split at h
          · rename_i a o hg
            split at h
            · rename_i q hq
              obtain ⟨V, k1, k2⟩ := getP_sound (P := P) hr hg hp
              simp only [VR] at k1
              obtain ⟨l, hl, rfl⟩ := k1
              obtain ⟨b, j1, j2⟩ := placeA_sound (P := P) hq hl
              obtain ⟨x', m1, m2⟩ := followA_sound hr h j1
              refine ⟨x', m1, ?_⟩
              simp [hd, k2, asAddr, j2, m2]
            · simp at h
          · simp at h
        · rename_i hd
          simp only [hd, Bool.false_eq_true, if_false]
          split at h
          · rename_i a o
            split at h
            · rename_i q hq
              obtain ⟨l, hl, rfl⟩ := hp
              obtain ⟨b, j1, j2⟩ := placeA_sound (P := P) hq hl
              obtain ⟨x', m1, m2⟩ := followA_sound hr h j1
              exact ⟨x', m1, by simp [j2, m2]⟩
            · simp at h
          · rename_i cs
            split at h
            · rename_i v hv
              obtain ⟨V, h1, rfl⟩ := hp
              simp only [VR] at h1
              obtain ⟨L, h2, rfl⟩ := h1
              obtain ⟨U, j1, j2⟩ := partA_sound (P := P) hv h2
              obtain ⟨x', m1, m2⟩ := followA_sound hr h (p := .val v) (x := .val U) ⟨U, j1, rfl⟩
              exact ⟨x', m1, by simp [j2, m2]⟩
            · simp at h
          · simp at h
      · simp at h
    · simp at h
/-- the receiver that a place gives -/
def recvA (P : Program) (g : Nat → Option AO) (xt : TypeId) (x : PlA) (pr : Bool) : Option AV :=
  match P.underlying xt with
  | some (.pointer _) => match pr with
    | true => getP P g xt x
    | false => none
  | some _ => match pr with
    | true => match x with
      | .var a o => some (.ptr a o)
      | .val _ => none
    | false => getP P g xt x
  | none => none
theorem recvA_sound {P : Program} {ρ : Rho} {g : Nat → Option AO} {w : World} (hr : HR ρ g w) {xt : TypeId} {p : PlA} {pr : Bool} {v : AV} {x : Place} (h : recvA P g xt p pr = some v) (hp : PR ρ p x) (wr : Option String) :
    ∃ V, VR ρ v V ∧ (receiverAt xt x pr wr).run P w = .ok V w := by
  unfold recvA at h
  split at h
  · rename_i e hu
    split at h
    · obtain ⟨V, k1, k2⟩ := getP_sound (P := P) hr h hp
      refine ⟨V, k1, ?_⟩
      unfold receiverAt
      simp only [Sem.run_bind, Go.Proofs.Ytnmlfhogolonoaa.Ev.run_underlying hu, Result.andThen_ok]
      exact k2
    · simp at h
  · rename_i d hu hne
    split at h
    · split at h
      · simp at h; subst h
        obtain ⟨l, hl, rfl⟩ := hp
        refine ⟨_, ⟨l, hl, rfl⟩, ?_⟩
        unfold receiverAt
        simp only [Sem.run_bind, Go.Proofs.Ytnmlfhogolonoaa.Ev.run_underlying hne, Result.andThen_ok]
        cases d <;> first
          | (exact absurd rfl (hu _))
          | rfl
      · simp at h
    · obtain ⟨V, k1, k2⟩ := getP_sound (P := P) hr h hp
      refine ⟨V, k1, ?_⟩
      unfold receiverAt
      simp only [Sem.run_bind, Go.Proofs.Ytnmlfhogolonoaa.Ev.run_underlying hne, Result.andThen_ok]
      cases d <;> first
        | (exact absurd rfl (hu _))
        | (cases x <;> exact k2)
  · simp at h
def methA (P : Program) (g : Nat → Option AO) : Nat → TypeId → AV → String → Option (FuncId × AV)
  | 0, _, _, _ => none
  | n + 1, t, v, name => match P.info? t with
    | some i => match i.methods.find? (·.name == name) with
      | some m => match followA P g m.path.toList t (.val v) with
        | some (xt, x) => match m.func with
          | none => match getP P g xt x with
            | some (.ifc t' v') => methA P g n t' v' name
            | _ => none
          | some (f, pr) => match recvA P g xt x pr with
            | some r => some (f, r)
            | none => none
        | none => none
      | none => none
    | none => none
theorem methA_sound {P : Program} {ρ : Rho} {g : Nat → Option AO} {w : World} (hr : HR ρ g w) : ∀ {n N : Nat} {t : TypeId} {v : AV} {name : String} {f : FuncId} {r : AV} {V : Value}, methA P g n t v name = some (f, r) → n ≤ N → VR ρ v V →
    ∃ R, VR ρ r R ∧ (method N t V name).run P w = .ok (f, R) w
  | 0, N, t, v, name, f, r, V, h, hn, hv => by simp [methA] at h
  | n + 1, 0, t, v, name, f, r, V, h, hn, hv => by omega
  | n + 1, N + 1, t, v, name, f, r, V, h, hn, hv => by
    unfold methA at h
    split at h
    · rename_i i hi
      split at h
      · rename_i m hm
        split at h
        · rename_i xt x hx
          obtain ⟨x', k1, k2⟩ := followA_sound hr hx (x := .val V) ⟨V, hv, rfl⟩
          unfold method
          simp only [Sem.run_bind, run_typeInfo hi, Result.andThen_ok, hm, k2]
          split at h
          · rename_i hf
            split at h
            · rename_i t' v' hg
              obtain ⟨U, j1, j2⟩ := getP_sound (P := P) hr hg k1
              simp only [VR] at j1
              obtain ⟨W, j3, rfl⟩ := j1
              obtain ⟨R, q1, q2⟩ := methA_sound hr h (by omega : n ≤ N) j3
              exact ⟨R, q1, by simp [hf, j2, q2]⟩
            · simp at h
          · rename_i f' pr hf
            split at h
            · rename_i r' hr'
              simp at h; obtain ⟨rfl, rfl⟩ := h
              obtain ⟨R, q1, q2⟩ := recvA_sound (P := P) hr hr' k1 (if m.path.isEmpty then some ((name.splitOn ".").getLastD name) else none)
              refine ⟨R, q1, ?_⟩
              simp only [hf, Sem.run_bind, q2, Result.andThen_ok, Sem.run_pure]
            · simp at h
        · simp at h
      · simp at h
    · simp at h
/-- the function that a function value stands for, and its arguments -/
def tgtA (P : Program) (g : Nat → Option AO) (fn : Fn) (args captured : List AV) : Option (FuncId × List AV) :=
  match fn with
  | .func f => some (f, args ++ captured)
  | .method name => match args with
    | .ifc t v :: rest => match methA P g 8 t v name with
      | some (f, r) => some (f, r :: rest)
      | none => none
    | _ => none
  | .methodOf t name => match args with
    | x :: rest => match P.underlying t with
      | some (.interface _) => match x with
        | .ifc t v => match methA P g 8 t v name with
          | some (f, r) => some (f, r :: rest)
          | none => none
        | _ => none
      | some _ => match methA P g 8 t x name with
        | some (f, r) => some (f, r :: rest)
        | none => none
      | none => none
    | _ => none
  | .via t path f pr => match args with
    | x :: rest => match followA P g path.toList t (.val x) with
      | some (xt, p) => match recvA P g xt p pr with
        | some r => some (f, r :: rest)
        | none => none
      | none => none
    | _ => none
  | .yield _ => none
theorem tgtA_sound {P : Program} {ρ : Rho} {g : Nat → Option AO} {w : World} (hr : HR ρ g w) {fn : Fn} {args captured as : List AV} {f : FuncId} (h : tgtA P g fn args captured = some (f, as)) {ARGS CAP : List Value} (ha : VRs ρ args ARGS) (hc : VRs ρ captured CAP) :
    ∃ AS, VRs ρ as AS ∧ (invoke (.fn fn CAP.toArray) ARGS.toArray).run P w = (callFunc f AS.toArray).run P w := by
  have h8 : 8 ≤ P.types.size + Made.depth := by unfold Made.depth; omega
  have key : ∀ {t : TypeId} {v : AV} {V : Value} {name : String} {r : AV} {f : FuncId} {rest : List AV} {REST : List Value}, methA P g 8 t v name = some (f, r) → VR ρ v V → VRs ρ rest REST →
      ∃ AS, VRs ρ (r :: rest) AS ∧ (callMethod (.iface t V) name (({ toList := V :: REST } : Array Value).extract 1 ({ toList := V :: REST } : Array Value).size)).run P w = (callFunc f AS.toArray).run P w ∧
        (callMethod (.iface t V) name (({ toList := .iface t V :: REST } : Array Value).extract 1 ({ toList := .iface t V :: REST } : Array Value).size)).run P w = (callFunc f AS.toArray).run P w := by
    intro t v V name r f rest REST hm hv hrest
    obtain ⟨R, k1, k2⟩ := methA_sound (P := P) hr hm h8 hv
    refine ⟨R :: REST, ⟨R, REST, k1, hrest, rfl⟩, ?_, ?_⟩
    all_goals
      simp only [callMethod, Sem.run_bind, run_program, Result.andThen_ok, k2]
      congr 2
      simp
  unfold tgtA at h
  split at h
  · simp at h; obtain ⟨rfl, rfl⟩ := h
    exact ⟨ARGS ++ CAP, VRs.append ha hc, by simp [invoke]⟩
  · rename_i name
    split at h
    · rename_i t v rest
      split at h
      · rename_i f' r hm
        simp at h; obtain ⟨rfl, rfl⟩ := h
        simp only [VRs] at ha
        obtain ⟨V, REST, h1, h2, rfl⟩ := ha
        simp only [VR] at h1
        obtain ⟨U, h3, rfl⟩ := h1
        obtain ⟨AS, k1, _, k2⟩ := key hm h3 h2
        exact ⟨AS, k1, by simpa [invoke] using k2⟩
      · simp at h
    · simp at h
  · rename_i t name
    split at h
    · rename_i x rest
      simp only [VRs] at ha
      obtain ⟨V, REST, h1, h2, rfl⟩ := ha
      split at h
      · rename_i ms hu
        split at h
        · rename_i t v
          split at h
          · rename_i f' r hm
            simp at h; obtain ⟨rfl, rfl⟩ := h
            simp only [VR] at h1
            obtain ⟨U, h3, rfl⟩ := h1
            obtain ⟨AS, k1, _, k2⟩ := key hm h3 h2
            refine ⟨AS, k1, ?_⟩
            simp only [invoke, List.getElem?_toArray, List.getElem?_cons_zero, Sem.run_bind, Go.Proofs.Ytnmlfhogolonoaa.Ev.run_underlying hu, Result.andThen_ok, Sem.run_pure]
            exact k2
          · simp at h
        · simp at h
      · rename_i d hu hne
        split at h
        · rename_i f' r hm
          simp at h; obtain ⟨rfl, rfl⟩ := h
          obtain ⟨AS, k1, k2, _⟩ := key hm h1 h2
          refine ⟨AS, k1, ?_⟩
          simp only [invoke, List.getElem?_toArray, List.getElem?_cons_zero, Sem.run_bind, Go.Proofs.Ytnmlfhogolonoaa.Ev.run_underlying hne, Result.andThen_ok]
          cases d <;> first
            | (exact absurd rfl (hu _))
            | exact k2
        · simp at h
      · simp at h
    · simp at h
  · rename_i t path f' pr
    split at h
    · rename_i x rest
      simp only [VRs] at ha
      obtain ⟨V, REST, h1, h2, rfl⟩ := ha
      split at h
      · rename_i xt p hp
        split at h
        · rename_i r hr'
          simp at h; obtain ⟨rfl, rfl⟩ := h
          obtain ⟨x', k1, k2⟩ := followA_sound (P := P) hr hp (x := .val V) ⟨V, h1, rfl⟩
          obtain ⟨R, q1, q2⟩ := recvA_sound (P := P) hr hr' k1 none
          refine ⟨R :: REST, ⟨R, REST, q1, h2, rfl⟩, ?_⟩
          simp only [invoke, List.getElem?_toArray, List.getElem?_cons_zero, Sem.run_bind, receiverVia, k2, Result.andThen_ok, q2]
          congr 2
          simp
        · simp at h
      · simp at h
    · simp at h
  · simp at h
end
end Go.Proofs.Ytnmlfhogolonoaa.Ev
