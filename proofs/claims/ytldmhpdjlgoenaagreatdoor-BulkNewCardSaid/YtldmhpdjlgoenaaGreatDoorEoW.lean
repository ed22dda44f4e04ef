/-
  An evaluator of Go code over relative heaps, part O: methods, atomic operations, calls, all operations.
  An evaluator of Go code over relative heaps, part P: atomic operations, calls, all operations.
  An evaluator of Go code over relative heaps, part V: strings.
  An evaluator of Go code over relative heaps, part W: copy.
-/
import Derived.Test.YtldmhpdjlgoenaaGreatDoorEoN
import Derived.Laws.Externs
import Derived.Laws.BytesString
set_option linter.unusedVariables false
set_option linter.unusedSimpArgs false
namespace Go.Proofs.YtldmhpdjlgoenaaGreatDoor.Eo
noncomputable section

/-! ### Methods -/
inductive PlA where
  | val (v : AV)
  | var (a o : Nat)
def PR (ρ : Rho) : PlA → Place → Prop
  | .val v, x => ∃ V, VR ρ v V ∧ x = .val V
  | .var a o, x => ∃ l, ρ a = some l ∧ x = .var ⟨l.blk, l.off + o, none⟩
def getP (P : Program) (g : Nat → Option AO) (t : TypeId) : PlA → Option AV
  | .val v => some v
  | .var a o => match aggOf P t with
    | some agg => ldA g agg a o
    | none => none
theorem getP_sound {P : Program} {ρ : Rho} {g : Nat → Option AO} {w : World} (hr : HR ρ g w) {t : TypeId} {p : PlA} {x : Place} {v : AV} (h : getP P g t p = some v) (hp : PR ρ p x) :
    ∃ V, VR ρ v V ∧ (x.get t).run P w = .ok V w := by
  cases p with
  | val u =>
    simp [getP] at h; subst h
    obtain ⟨V, h1, rfl⟩ := hp
    exact ⟨V, h1, by simp [Place.get]⟩
  | var a o =>
    obtain ⟨l, h1, rfl⟩ := hp
    simp only [getP] at h
    split at h
    · rename_i agg ha
      obtain ⟨V, k1, k2⟩ := ldA_sound (P := P) hr ha h h1
      exact ⟨V, k1, by simpa [Place.get] using k2⟩
    · simp at h
def placeA (P : Program) (f : Field) (a o : Nat) : Option PlA :=
  match sz P f.type with
  | some (_ + 1) => some (.var a (o + f.offset))
  | _ => none
theorem placeA_sound {P : Program} {ρ : Rho} {f : Field} {a o : Nat} {p : PlA} (h : placeA P f a o = some p) {l : Loc} (hl : ρ a = some l) : ∃ b : Addr, PR ρ p (.var b) ∧ ∀ w, (fieldPlace ⟨l.blk, l.off + o, none⟩ f).run P w = .ok b w := by
  unfold placeA at h
  split at h
  · rename_i n hs
    simp at h; subst h
    refine ⟨⟨l.blk, l.off + (o + f.offset), none⟩, ⟨l, hl, rfl⟩, fun w => ?_⟩
    simp [fieldPlace, run_sizeOf hs, addr_add, Nat.add_assoc]
  · simp at h
def followA (P : Program) (g : Nat → Option AO) : List FieldStep → TypeId → PlA → Option (TypeId × PlA)
  | [], t, x => some (t, x)
  | s :: rest, t, x => match P.underlying s.struct with
    | some (.struct fields) => match fields[s.index]? with
      | some f => match s.deref with
        | true => match getP P g t x with
          | some (.ptr a o) => match placeA P f a o with
            | some p => followA P g rest f.type p
            | none => none
          | _ => none
        | false => match x with
          | .var a o => match placeA P f a o with
            | some p => followA P g rest f.type p
            | none => none
          | .val (.agg cs) => match partA P f.type cs f.offset with
            | some v => followA P g rest f.type (.val v)
            | none => none
          | _ => none
      | none => none
    | _ => none
theorem followA_sound {P : Program} {ρ : Rho} {g : Nat → Option AO} {w : World} (hr : HR ρ g w) : ∀ {l : List FieldStep} {t t' : TypeId} {p p' : PlA} {x : Place}, followA P g l t p = some (t', p') → PR ρ p x →
    ∃ x', PR ρ p' x' ∧ (follow l t x).run P w = .ok (t', x') w
  | [], t, t', p, p', x, h, hp => by
    simp [followA] at h; obtain ⟨rfl, rfl⟩ := h
    exact ⟨x, hp, by simp [follow]⟩
  | s :: rest, t, t', p, p', x, h, hp => by
    unfold followA at h
    split at h
    · rename_i fields hu
      split at h
      · rename_i f hf
        unfold follow
        simp only [Sem.run_bind, Go.Proofs.YtldmhpdjlgoenaaGreatDoor.Eo.run_underlying hu, Result.andThen_ok, hf]
        split at h
        · rename_i hd
          split at h
          · rename_i a o hg
            split at h
            · rename_i q hq
              obtain ⟨V, k1, k2⟩ := getP_sound (P := P) hr hg hp
              simp only [VR] at k1
              obtain ⟨l, hl, rfl⟩ := k1
              obtain ⟨b, j1, j2⟩ := placeA_sound (P := P) hq hl
              obtain ⟨x', m1, m2⟩ := followA_sound hr h j1
              refine ⟨x', m1, ?_⟩
              simp [hd, k2, asAddr, j2, m2]
            · simp at h
          · simp at h
        · rename_i hd
          simp only [hd, Bool.false_eq_true, if_false]
          split at h
          · rename_i a o
            split at h
            · rename_i q hq
              obtain ⟨l, hl, rfl⟩ := hp
              obtain ⟨b, j1, j2⟩ := placeA_sound (P := P) hq hl
              obtain ⟨x', m1, m2⟩ := followA_sound hr h j1
              exact ⟨x', m1, by simp [j2, m2]⟩
            · simp at h
          · rename_i cs
            split at h
            · rename_i v hv
              obtain ⟨V, h1, rfl⟩ := hp
              simp only [VR] at h1
              obtain ⟨L, h2, rfl⟩ := h1
              obtain ⟨U, j1, j2⟩ := partA_sound (P := P) hv h2
              obtain ⟨x', m1, m2⟩ := followA_sound hr h (p := .val v) (x := .val U) ⟨U, j1, rfl⟩
              exact ⟨x', m1, by simp [j2, m2]⟩
            · simp at h
          · simp at h
      · simp at h
    · simp at h
/-- the receiver that a place gives -/
def recvA (P : Program) (g : Nat → Option AO) (xt : TypeId) (x : PlA) (pr : Bool) : Option AV :=
  match P.underlying xt with
  | some (.pointer _) => match pr with
    | true => getP P g xt x
    | false => none
  | some _ => match pr with
    | true => match x with
      | .var a o => some (.ptr a o)
      | .val _ => none
    | false => getP P g xt x
  | none => none
theorem recvA_sound {P : Program} {ρ : Rho} {g : Nat → Option AO} {w : World} (hr : HR ρ g w) {xt : TypeId} {p : PlA} {pr : Bool} {v : AV} {x : Place} (h : recvA P g xt p pr = some v) (hp : PR ρ p x) (wr : Option String) :
    ∃ V, VR ρ v V ∧ (receiverAt xt x pr wr).run P w = .ok V w := by
  unfold recvA at h
  split at h
  · rename_i e hu
    split at h
    · obtain ⟨V, k1, k2⟩ := getP_sound (P := P) hr h hp
      refine ⟨V, k1, ?_⟩
      unfold receiverAt
      simp only [Sem.run_bind, Go.Proofs.YtldmhpdjlgoenaaGreatDoor.Eo.run_underlying hu, Result.andThen_ok]
      exact k2
    · simp at h
  · rename_i d hu hne
    split at h
    · split at h
      · simp at h; subst h
        obtain ⟨l, hl, rfl⟩ := hp
        refine ⟨_, ⟨l, hl, rfl⟩, ?_⟩
        unfold receiverAt
        simp only [Sem.run_bind, Go.Proofs.YtldmhpdjlgoenaaGreatDoor.Eo.run_underlying hne, Result.andThen_ok]
        cases d <;> first
          | (exact absurd rfl (hu _))
          | rfl
      · simp at h
    · obtain ⟨V, k1, k2⟩ := getP_sound (P := P) hr h hp
      refine ⟨V, k1, ?_⟩
      unfold receiverAt
      simp only [Sem.run_bind, Go.Proofs.YtldmhpdjlgoenaaGreatDoor.Eo.run_underlying hne, Result.andThen_ok]
      cases d <;> first
        | (exact absurd rfl (hu _))
        | (cases x <;> exact k2)
  · simp at h
def methA (P : Program) (g : Nat → Option AO) : Nat → TypeId → AV → String → Option (FuncId × AV)
  | 0, _, _, _ => none
  | n + 1, t, v, name => match P.info? t with
    | some i => match i.methods.find? (·.name == name) with
      | some m => match followA P g m.path.toList t (.val v) with
        | some (xt, x) => match m.func with
          | none => match getP P g xt x with
            | some (.ifc t' v') => methA P g n t' v' name
            | _ => none
          | some (f, pr) => match recvA P g xt x pr with
            | some r => some (f, r)
            | none => none
        | none => none
      | none => none
    | none => none
theorem methA_sound {P : Program} {ρ : Rho} {g : Nat → Option AO} {w : World} (hr : HR ρ g w) : ∀ {n N : Nat} {t : TypeId} {v : AV} {name : String} {f : FuncId} {r : AV} {V : Value}, methA P g n t v name = some (f, r) → n ≤ N → VR ρ v V →
    ∃ R, VR ρ r R ∧ (method N t V name).run P w = .ok (f, R) w
  | 0, N, t, v, name, f, r, V, h, hn, hv => by simp [methA] at h
  | n + 1, 0, t, v, name, f, r, V, h, hn, hv => by omega
  | n + 1, N + 1, t, v, name, f, r, V, h, hn, hv => by
    unfold methA at h
    split at h
    · rename_i i hi
      split at h
      · rename_i m hm
        split at h
        · rename_i xt x hx
          obtain ⟨x', k1, k2⟩ := followA_sound hr hx (x := .val V) ⟨V, hv, rfl⟩
          unfold method
          simp only [Sem.run_bind, run_typeInfo hi, Result.andThen_ok, hm, k2]
          split at h
          · rename_i hf
            split at h
            · rename_i t' v' hg
              obtain ⟨U, j1, j2⟩ := getP_sound (P := P) hr hg k1
              simp only [VR] at j1
              obtain ⟨W, j3, rfl⟩ := j1
              obtain ⟨R, q1, q2⟩ := methA_sound hr h (by omega : n ≤ N) j3
              exact ⟨R, q1, by simp [hf, j2, q2]⟩
            · simp at h
          · rename_i f' pr hf
            split at h
            · rename_i r' hr'
              simp at h; obtain ⟨rfl, rfl⟩ := h
              obtain ⟨R, q1, q2⟩ := recvA_sound (P := P) hr hr' k1 (if m.path.isEmpty then some ((name.splitOn ".").getLastD name) else none)
              refine ⟨R, q1, ?_⟩
              simp only [hf, Sem.run_bind, q2, Result.andThen_ok, Sem.run_pure]
            · simp at h
        · simp at h
      · simp at h
    · simp at h
/-- the function that a function value stands for, and its arguments -/
def tgtA (P : Program) (g : Nat → Option AO) (fn : Fn) (args captured : List AV) : Option (FuncId × List AV) :=
  match fn with
  | .func f => some (f, args ++ captured)
  | .method name => match args with
    | .ifc t v :: rest => match methA P g 8 t v name with
      | some (f, r) => some (f, r :: rest)
      | none => none
    | _ => none
  | .methodOf t name => match args with
    | x :: rest => match P.underlying t with
      | some (.interface _) => match x with
        | .ifc t v => match methA P g 8 t v name with
          | some (f, r) => some (f, r :: rest)
          | none => none
        | _ => none
      | some _ => match methA P g 8 t x name with
        | some (f, r) => some (f, r :: rest)
        | none => none
      | none => none
    | _ => none
  | .via t path f pr => match args with
    | x :: rest => match followA P g path.toList t (.val x) with
      | some (xt, p) => match recvA P g xt p pr with
        | some r => some (f, r :: rest)
        | none => none
      | none => none
    | _ => none
  | .yield _ => none
theorem tgtA_sound {P : Program} {ρ : Rho} {g : Nat → Option AO} {w : World} (hr : HR ρ g w) {fn : Fn} {args captured as : List AV} {f : FuncId} (h : tgtA P g fn args captured = some (f, as)) {ARGS CAP : List Value} (ha : VRs ρ args ARGS) (hc : VRs ρ captured CAP) :
    ∃ AS, VRs ρ as AS ∧ (invoke (.fn fn CAP.toArray) ARGS.toArray).run P w = (callFunc f AS.toArray).run P w := by
  have h8 : 8 ≤ P.types.size + Made.depth := by unfold Made.depth; omega
  have key : ∀ {t : TypeId} {v : AV} {V : Value} {name : String} {r : AV} {f : FuncId} {rest : List AV} {REST : List Value}, methA P g 8 t v name = some (f, r) → VR ρ v V → VRs ρ rest REST →
      ∃ AS, VRs ρ (r :: rest) AS ∧ (callMethod (.iface t V) name (({ toList := V :: REST } : Array Value).extract 1 ({ toList := V :: REST } : Array Value).size)).run P w = (callFunc f AS.toArray).run P w ∧
        (callMethod (.iface t V) name (({ toList := .iface t V :: REST } : Array Value).extract 1 ({ toList := .iface t V :: REST } : Array Value).size)).run P w = (callFunc f AS.toArray).run P w := by
    intro t v V name r f rest REST hm hv hrest
    obtain ⟨R, k1, k2⟩ := methA_sound (P := P) hr hm h8 hv
    refine ⟨R :: REST, ⟨R, REST, k1, hrest, rfl⟩, ?_, ?_⟩
    all_goals
      simp only [callMethod, Sem.run_bind, run_program, Result.andThen_ok, k2]
      congr 2
      simp
  unfold tgtA at h
  split at h
  · simp at h; obtain ⟨rfl, rfl⟩ := h
    exact ⟨ARGS ++ CAP, VRs.append ha hc, by simp [invoke]⟩
  · rename_i name
    split at h
    · rename_i t v rest
      split at h
      · rename_i f' r hm
        simp at h; obtain ⟨rfl, rfl⟩ := h
        simp only [VRs] at ha
        obtain ⟨V, REST, h1, h2, rfl⟩ := ha
        simp only [VR] at h1
        obtain ⟨U, h3, rfl⟩ := h1
        obtain ⟨AS, k1, _, k2⟩ := key hm h3 h2
        exact ⟨AS, k1, by simpa [invoke] using k2⟩
      · simp at h
    · simp at h
  · rename_i t name
    split at h
    · rename_i x rest
      simp only [VRs] at ha
      obtain ⟨V, REST, h1, h2, rfl⟩ := ha
      split at h
      · rename_i ms hu
        split at h
        · rename_i t v
          split at h
          · rename_i f' r hm
            simp at h; obtain ⟨rfl, rfl⟩ := h
            simp only [VR] at h1
            obtain ⟨U, h3, rfl⟩ := h1
            obtain ⟨AS, k1, _, k2⟩ := key hm h3 h2
            refine ⟨AS, k1, ?_⟩
            simp only [invoke, List.getElem?_toArray, List.getElem?_cons_zero, Sem.run_bind, Go.Proofs.YtldmhpdjlgoenaaGreatDoor.Eo.run_underlying hu, Result.andThen_ok, Sem.run_pure]
            exact k2
          · simp at h
        · simp at h
      · rename_i d hu hne
        split at h
        · rename_i f' r hm
          simp at h; obtain ⟨rfl, rfl⟩ := h
          obtain ⟨AS, k1, k2, _⟩ := key hm h1 h2
          refine ⟨AS, k1, ?_⟩
          simp only [invoke, List.getElem?_toArray, List.getElem?_cons_zero, Sem.run_bind, Go.Proofs.YtldmhpdjlgoenaaGreatDoor.Eo.run_underlying hne, Result.andThen_ok]
          cases d <;> first
            | (exact absurd rfl (hu _))
            | exact k2
        · simp at h
      · simp at h
    · simp at h
  · rename_i t path f' pr
    split at h
    · rename_i x rest
      simp only [VRs] at ha
      obtain ⟨V, REST, h1, h2, rfl⟩ := ha
      split at h
      · rename_i xt p hp
        split at h
        · rename_i r hr'
          simp at h; obtain ⟨rfl, rfl⟩ := h
          obtain ⟨x', k1, k2⟩ := followA_sound (P := P) hr hp (x := .val V) ⟨V, h1, rfl⟩
          obtain ⟨R, q1, q2⟩ := recvA_sound (P := P) hr hr' k1 none
          refine ⟨R :: REST, ⟨R, REST, q1, h2, rfl⟩, ?_⟩
          simp only [invoke, List.getElem?_toArray, List.getElem?_cons_zero, Sem.run_bind, receiverVia, k2, Result.andThen_ok, q2]
          congr 2
          simp
        · simp at h
      · simp at h
    · simp at h
  · simp at h
end
end Go.Proofs.YtldmhpdjlgoenaaGreatDoor.Eo

namespace Go.Proofs.YtldmhpdjlgoenaaGreatDoor.Eo
noncomputable section

/-! ### Atomic operations on words of 64 bits -/
inductive ATag where
  | load | store | swap | cas | add
def ATag.fn : ATag → Array Value → Sem Value
  | .load => Extern.Atomic.loadT (.int .u64)
  | .store => Extern.Atomic.storeT
  | .swap => Extern.Atomic.swapT (.int .u64)
  | .cas => Extern.Atomic.casT (.int .u64)
  | .add => Extern.Atomic.update (Op.intArith .add) .u64 true
/-- the word at a place -/
def wordA (h : H) (p o : Nat) : Option Int := match h.t.get p with
  | some (.row cells len e) => match cells.get o with
    | some (.int .u64 n) => some n
    | _ => none
  | _ => none
def putA (h : H) (p o : Nat) (v : AV) : Option H := match h.t.get p with
  | some (.row cells len e) => cond (Nat.ble (o + 1) len && oneA v) (some ⟨h.next, h.t.set p (.row (putList o [v] cells) len e)⟩) none
  | _ => none
def isWord : AV → Bool
  | .int .u64 _ => true
  | _ => false
def evA (h : H) : ATag → List AV → Option (AV × H)
  | .load, [.ptr p o] => match wordA h p o with
    | some n => some (.int .u64 n, h)
    | none => none
  | .store, [.ptr p o, v] => match putA h p o v with
    | some h' => some (.tup [], h')
    | none => none
  | .swap, [.ptr p o, v] => match wordA h p o, putA h p o v with
    | some n, some h' => some (.int .u64 n, h')
    | _, _ => none
  | .cas, [.ptr p o, .int k x, .int k' y] => match wordA h p o with
    | some n => match iEq n x with
      | true => match putA h p o (.int k' y) with
        | some h' => some (.bool true, h')
        | none => none
      | false => some (.bool false, h)
    | none => none
  | .add, [.ptr p o, .int .u64 x] => match wordA h p o with
    | some n => match putA h p o (.int .u64 (fw .u64 (n + x))) with
      | some h' => some (.int .u64 (fw .u64 (n + x)), h')
      | none => none
    | none => none
  | _, _ => none

/-- what a computation of a value comes to -/
def VOut (P : Program) (s : Sem Value) (ρ : Rho) (h : H) (w : World) (v : AV) (h' : H) : Prop :=
  ∃ ρ' w' V, s.run P w = .ok V w' ∧ VR ρ' v V ∧ Way ρ h w ρ' h' w'

theorem loadT_eq (t : Extern.Atomic.T) (x : Value) : Extern.Atomic.loadT t #[x] = (do Extern.Atomic.read t (← asAddr x)) := rfl
theorem storeT_eq (x y : Value) : Extern.Atomic.storeT #[x, y] = (do store (← asAddr x) y .atomic; pure Extern.Atomic.none_) := rfl
theorem swapT_eq (t : Extern.Atomic.T) (x y : Value) : Extern.Atomic.swapT t #[x, y] = (do
    let a ← asAddr x
    let old ← Extern.Atomic.read t a
    store a y .atomic
    pure old) := rfl
theorem update_eq (op : IntKind → Int → Int → Sem Value) (k : IntKind) (b : Bool) (x y : Value) : Extern.Atomic.update op k b #[x, y] = (do
    let a ← asAddr x
    let old ← Extern.Atomic.read (.int k) a
    let new ← op k (← asInt old) (← asInt y)
    store a new .atomic
    pure (if b then new else old)) := rfl
theorem casT_eq (x y : Int) (k k' : IntKind) (p : Value) : Extern.Atomic.casT (.int .u64) #[p, .int k x, .int k' y] = (do
    let a ← asAddr p
    if ← Extern.Atomic.touchesFrozen a then unsupported (.unsafePointer "a write to bytes that a string shares")
    let eq ← match (Extern.Atomic.T.int .u64), ← Extern.Atomic.read (.int .u64) a, (Value.int k x) with
      | _, .int _ x, .int _ y => pure (x == y)
      | .ptr, .pointer x, .pointer y => samePointer x y
      | .int _, .pointer (some _), .int _ 0 | .int _, .int _ 0, .pointer (some _) => pure false
      | .int _, .pointer (some _), _ | .int _, _, .pointer (some _) => unsupported .addressObserved
      | _, _, _ => stuck "atomic.CompareAndSwap: old is no T"
    if eq then store a (.int k' y) .atomic
    pure (.bool eq)) := rfl
theorem wordA_sound {P : Program} {ρ : Rho} {h : H} {w : World} (hr : HR ρ h.t.get w) {p o : Nat} {n : Int} (hw : wordA h p o = some n) {l : Loc} (hl : ρ p = some l) :
    w.cell? ⟨l.blk, l.off + o, none⟩ = some (.int .u64 n) ∧ w.frozen? ⟨l.blk, l.off + o, none⟩ = false ∧ (w.shape? l.blk).isSome = true := by
  unfold wordA at hw
  split at hw
  · rename_i cells len e hg
    split at hw
    · rename_i m hm
      simp at hw; subst hw
      obtain ⟨V, k1, k2, k3⟩ := cell_of hr hg hl hm
      simp only [VR] at k1; subst k1
      obtain ⟨_, _, c, hc, _⟩ := hr.row hg hl
      exact ⟨k3, by simp [World.frozen?, hc], by simp [World.shape?, hc]⟩
    · simp at hw
  · simp at hw
theorem store_atomic {P : Program} {w : World} {a : Addr} {V u : Value} (h : w.cell? a = some u) : (store a V .atomic).run P w = (store a V .plain).run P w := by
  cases V <;> simp [store, Sem.run, h]
theorem putA_sound {P : Program} {ρ : Rho} {h h' : H} {w : World} (hr : HR ρ h.t.get w) (hf : Fresh ρ h.next) {p o : Nat} {v : AV} {V : Value} (hp : putA h p o v = some h') {l : Loc} (hl : ρ p = some l) (hv : VR ρ v V) :
    ∃ w', (store ⟨l.blk, l.off + o, none⟩ V .atomic).run P w = .ok () w' ∧ Way ρ h w ρ h' w' := by
  unfold putA at hp
  split at hp
  · rename_i cells len e hg
    cases hk : (Nat.ble (o + 1) len && oneA v)
    · rw [hk] at hp; simp at hp
    · rw [hk, cond_true] at hp
      simp only [Bool.and_eq_true] at hk
      have k1 := Nat.le_of_ble_eq_true hk.1
      simp at hp; subst hp
      have hV : VRs ρ [v] [V] := ⟨V, [], hv, rfl, rfl⟩
      have h1 : ∀ U ∈ [V], one U = true := all_one hV (by simp [hk.2])
      obtain ⟨w', j1, j2⟩ := nx_write hr hg hl hV h1 (o := o) (by simpa using k1) P
      refine ⟨w', ?_, way_set hf hl j2⟩
      obtain ⟨_, hlen, c, hc, hroom, _⟩ := hr.row hg hl
      have hcell : ∃ u, w.cell? ⟨l.blk, l.off + o, none⟩ = some u := by
        have hlt : l.off + o < c.size := by omega
        exact ⟨c[l.off + o], by simp [World.cell?, hc, hlt]⟩
      obtain ⟨u, hu⟩ := hcell
      rw [store_atomic hu]
      simpa [storeCells, addr_add] using j1
  · simp at hp

theorem evA_sound {P : Program} {ρ : Rho} {h h' : H} {w : World} (hr : HR ρ h.t.get w) (hf : Fresh ρ h.next) {tag : ATag} {args : List AV} {v : AV} (he : evA h tag args = some (v, h')) {ARGS : List Value} (ha : VRs ρ args ARGS) :
    VOut P (tag.fn ARGS.toArray) ρ h w v h' := by
  unfold evA at he
  split at he
  · rename_i p o
    split at he
    · rename_i n hn
      simp at he; obtain ⟨rfl, rfl⟩ := he
      simp only [VRs, VR] at ha
      obtain ⟨V, M, ⟨l, hl, rfl⟩, rfl, rfl⟩ := ha
      obtain ⟨k1, _⟩ := wordA_sound (P := P) hr hn hl
      exact ⟨ρ, w, _, by simp [ATag.fn, loadT_eq, Extern.Atomic.read, asAddr, k1], rfl, Way.refl hr hf⟩
    · simp at he
  · rename_i p o v'
    split at he
    · rename_i h2 hp
      simp at he; obtain ⟨rfl, rfl⟩ := he
      simp only [VRs, VR] at ha
      obtain ⟨V, M, ⟨l, hl, rfl⟩, ⟨U, M', hU, rfl, rfl⟩, rfl⟩ := ha
      obtain ⟨w', j1, j2⟩ := putA_sound (P := P) hr hf hp hl hU
      exact ⟨ρ, w', _, by simp [ATag.fn, storeT_eq, Extern.Atomic.none_, asAddr, j1], ⟨[], rfl, rfl⟩, j2⟩
    · simp at he
  · rename_i p o v'
    split at he
    · rename_i n h2 hn hp
      simp at he; obtain ⟨rfl, rfl⟩ := he
      simp only [VRs, VR] at ha
      obtain ⟨V, M, ⟨l, hl, rfl⟩, ⟨U, M', hU, rfl, rfl⟩, rfl⟩ := ha
      obtain ⟨k1, _⟩ := wordA_sound (P := P) hr hn hl
      obtain ⟨w', j1, j2⟩ := putA_sound (P := P) hr hf hp hl hU
      exact ⟨ρ, w', _, by simp [ATag.fn, swapT_eq, Extern.Atomic.read, asAddr, k1, j1], rfl, j2⟩
    · simp at he
  · rename_i p o k x k' y
    split at he
    · rename_i n hn
      simp only [VRs, VR] at ha
      obtain ⟨V, M, ⟨l, hl, rfl⟩, ⟨U, M', rfl, ⟨U', M'', rfl, rfl, rfl⟩, rfl⟩, rfl⟩ := ha
      obtain ⟨k1, k2, hsh⟩ := wordA_sound (P := P) hr hn hl
      split at he
      · rename_i hq
        rw [iEq_eq] at hq
        have hq' : n = x := by simpa using hq
        subst hq'
        split at he
        · rename_i h2 hp
          simp at he; obtain ⟨rfl, rfl⟩ := he
          obtain ⟨w', j1, j2⟩ := putA_sound (P := P) hr hf hp hl (V := .int k' y) rfl
          exact ⟨ρ, w', _, by simp [ATag.fn, casT_eq, Extern.Atomic.touchesFrozen, Extern.Atomic.read, asAddr, viewAt, hsh, k1, k2, j1], rfl, j2⟩
        · simp at he
      · rename_i hq
        rw [iEq_eq] at hq
        have hq' : ¬ n = x := by simpa using hq
        simp at he; obtain ⟨rfl, rfl⟩ := he
        exact ⟨ρ, w, _, by simp [ATag.fn, casT_eq, Extern.Atomic.touchesFrozen, Extern.Atomic.read, asAddr, viewAt, hsh, k1, k2, hq'], rfl, Way.refl hr hf⟩
    · simp at he
  · rename_i p o x
    split at he
    · rename_i n hn
      simp only [VRs, VR] at ha
      obtain ⟨V, M, ⟨l, hl, rfl⟩, ⟨U, M', rfl, rfl, rfl⟩, rfl⟩ := ha
      obtain ⟨k1, k2⟩ := wordA_sound (P := P) hr hn hl
      split at he
      · rename_i h2 hp
        simp at he; obtain ⟨rfl, rfl⟩ := he
        obtain ⟨w', j1, j2⟩ := putA_sound (P := P) hr hf hp hl (V := .int .u64 (fw .u64 (n + x))) rfl
        refine ⟨ρ, w', _, ?_, rfl, j2⟩
        rw [fw_eq] at j1 ⊢
        simp [ATag.fn, update_eq, Extern.Atomic.read, asAddr, k1, asInt, asIntOf, Op.intArith, j1]
      · simp at he
    · simp at he
  · simp at he
end
end Go.Proofs.YtldmhpdjlgoenaaGreatDoor.Eo

namespace Go.Proofs.YtldmhpdjlgoenaaGreatDoor.Eo
noncomputable section

inductive SOp where
  | idx (x ix : Opd)
  | slc (x : Opd) (lo hi : Option Opd)
  | b2s (x : Opd)
def bytesOf : List AV → Option (List Int)
  | [] => some []
  | .int .u8 n :: l => match bytesOf l with
    | some ns => some (n :: ns)
    | none => none
  | _ :: _ => none
def evoS (tm : T AV) : Option Opd → Option (Option AV)
  | none => some none
  | some x => match evo tm x with
    | some v => some (some v)
    | none => none
def evS (tm : T AV) (g : Nat → Option AO) : SOp → Option AV
  | .idx x ix => match evo tm x, evo tm ix with
    | some (.str s), some (.int _ (.ofNat i)) => match s.data.toList[i]? with
      | some b => some (.int .u8 b.toNat)
      | none => none
    | _, _ => none
  | .slc x lo hi => match evo tm x, evoS tm lo, evoS tm hi with
    | some (.str s), some lo, some hi => match bndo s.data.toList.length s.data.toList.length hi with
      | some h => match bndo h 0 lo with
        | some l => some (.str ⟨((s.data.toList.drop l).take (h - l)).toArray⟩)
        | none => none
      | none => none
    | _, _, _ => none
  | .b2s x => match evo tm x with
    | some .nils => some (.str .empty)
    | some (.sl a o len 1 _) => match g a with
      | some (.row cells _ _) => match getList cells o len with
        | some l => match bytesOf l with
          | some ns => some (.str (ns.foldl (fun r n => r.push (UInt8.ofNat n.toNat)) ByteArray.empty))
          | none => none
        | none => none
      | _ => none
    | _ => none
def cSO : Option Operand → Option (Option Opd)
  | none => some none
  | some x => match cOpd x with
    | some y => some (some y)
    | none => none
def cS (P : Program) (o : Oper) : Option SOp := match o.op with
  | .index t x ix => match P.underlying t, cOpd x, cOpd ix with
    | some .string, some x, some ix => some (.idx x ix)
    | _, _, _ => none
  | .slice t x lo hi none => match P.underlying t, cOpd x, cSO lo, cSO hi with
    | some .string, some x, some lo, some hi => some (.slc x lo hi)
    | _, _, _, _ => none
  | .convert src dst x => match P.underlying src, P.underlying dst, cOpd x with
    | some (.slice e), some .string, some x => match P.underlying e, sz P e with
      | some (.int .u8), some 1 => some (.b2s x)
      | _, _ => none
    | _, _, _ => none
  | _ => none

theorem bytesOf_sound {ρ : Rho} : ∀ {l : List AV} {ns : List Int} {L : List Value}, bytesOf l = some ns → VRs ρ l L → L = ns.map (Value.int .u8)
  | [], ns, L, h, hl => by
    simp [bytesOf] at h; subst h
    simp only [VRs] at hl; simp [hl]
  | v :: l, ns, L, h, hl => by
    unfold bytesOf at h
    split at h
    · rename_i h0; simp at h0
    · rename_i n l' heq
      simp at heq; obtain ⟨rfl, rfl⟩ := heq
      split at h
      · rename_i ms hm
        simp at h; subst h
        simp only [VRs, VR] at hl
        obtain ⟨V, M, rfl, h2, rfl⟩ := hl
        simp [bytesOf_sound hm h2]
      · simp at h
    · simp at h
theorem evoS_sound {ρ : Rho} {tm : T AV} {a : Act} (ht : TR ρ tm a.tmps) {x : Option Operand} {y : Option Opd} {v : Option AV} (hc : cSO x = some y) (hv : evoS tm y = some v) : OVR ρ v (x.map a.eval) := by
  cases x with
  | none =>
    simp [cSO] at hc; subst hc
    simp [evoS] at hv; subst hv
    trivial
  | some x =>
    simp only [cSO] at hc
    split at hc
    · rename_i y' hy
      simp at hc; subst hc
      simp only [evoS] at hv
      split at hv
      · rename_i u hu
        simp at hv; subst hv
        exact evo_sound ht hy hu
      · simp at hv
    · simp at hc
theorem size_len (s : ByteArray) : s.size = s.data.toList.length := by
  obtain ⟨⟨l⟩⟩ := s; rfl
theorem getB (s : ByteArray) (i : Nat) : s[i]? = s.data.toList[i]? := by
  obtain ⟨⟨l⟩⟩ := s
  simp only [getElem?_def]
  rfl
theorem extract_eq (s : ByteArray) (l h : Nat) : s.extract l h = ⟨((s.data.toList.drop l).take (h - l)).toArray⟩ := by
  obtain ⟨⟨x⟩⟩ := s
  apply ByteArray.ext
  simp [ByteArray.data_extract, List.extract_toArray, List.extract_eq_take_drop]

theorem evS_sound {P : Program} {o : Oper} {c : SOp} {tm : T AV} {v : AV} {ρ : Rho} {a : Act} {g : Nat → Option AO} {w : World} (hc : cS P o = some c) (h : evS tm g c = some v) (ht : TR ρ tm a.tmps) (hr : HR ρ g w) :
    ∃ V, VR ρ v V ∧ (execOp a.eval o).run P w = .ok (.value V) w := by
  obtain ⟨dst, op, type, pos, after, guard⟩ := o
  unfold cS at hc
  simp only [] at hc
  split at hc
  · rename_i t x ix
    split at hc
    · rename_i x' ix' hu hx hix
      simp at hc; subst hc
      simp only [evS] at h
      split at h
      · rename_i s k i hxv hiv
        split at h
        · rename_i b hb
          simp at h; subst h
          have hX := evo_sound ht hx hxv
          have hI := evo_sound ht hix hiv
          simp only [VR] at hX hI
          refine ⟨.int .u8 b.toNat, rfl, ?_⟩
          simp only [execOp, Instr.index, Sem.run_bind, hX, hI, asIntOf, Sem.run_pure, Result.andThen_ok, Go.Proofs.YtldmhpdjlgoenaaGreatDoor.Eo.run_underlying hu]
          have hp : (0 : Int) ≤ Int.ofNat i := by simp
          rw [if_pos hp]
          simp only [Int.ofNat_eq_natCast, Int.toNat_natCast, getB, hb]
          rfl
        · simp at h
      · simp at h
    · simp at hc
  · rename_i t x lo hi
    split at hc
    · rename_i x' lo' hi' hu hx hlo hhi
      simp at hc; subst hc
      simp only [evS] at h
      split at h
      · rename_i s lov hiv hxv hl hh
        split at h
        · rename_i hb hbh
          split at h
          · rename_i lb hlb
            simp at h; subst h
            have hX := evo_sound ht hx hxv
            simp only [VR] at hX
            have h1 := evoS_sound ht hlo hl
            have h2 := evoS_sound ht hhi hh
            refine ⟨.string (s.extract lb hb), by simp only [VR]; rw [extract_eq], ?_⟩
            have hle : s.data.toList.length ≤ s.size := Nat.le_of_eq (size_len s).symm
            have k2 : ∀ w', (match hi.map a.eval with | some v => Instr.sliceBound v s.size .sliceAlen | none => pure s.size : Sem Nat).run P w' = .ok hb w' := by
              intro w'
              cases hi with
              | none => cases hiv with
                | none =>
                  have : hb = s.size := by simp only [bndo, Option.some.injEq] at hbh; rw [← hbh, size_len]
                  subst this; rfl
                | some u => simp [OVR] at h2
              | some y => cases hiv with
                | none => simp [OVR] at h2
                | some u => exact bnd_sound (ρ := ρ) h2 hbh hle _ w'
            have k1 : ∀ w', (match lo.map a.eval with | some v => Instr.sliceBound v hb .sliceB | none => pure 0 : Sem Nat).run P w' = .ok lb w' := by
              intro w'
              cases lo with
              | none => cases lov with
                | none => simp [bndo] at hlb; simp [hlb]
                | some u => simp [OVR] at h1
              | some y => cases lov with
                | none => simp [OVR] at h1
                | some u => exact bnd_sound (ρ := ρ) h1 hlb (Nat.le_refl _) _ w'
            have hb' : (Instr.sliceBounds false s.size s.size (lo.map a.eval) (hi.map a.eval) none).run P w = .ok (lb, hb, s.size) w := by
              unfold Instr.sliceBounds
              cases hi with
              | none =>
                have k2' := k2 w
                simp only [Option.map_none, Sem.run_pure, Result.ok.injEq, and_true] at k2'
                subst k2'
                have := k1 w
                cases lo <;> simp_all
              | some y =>
                have k2' := k2 w
                simp only [Option.map_some] at k2'
                have := k1 w
                cases lo <;> simp_all
            simp [execOp, Instr.sliceAt, Instr.slice, hX, Go.Proofs.YtldmhpdjlgoenaaGreatDoor.Eo.run_underlying hu, hb']
          · simp at h
        · simp at h
      · simp at h
    · simp at hc
  · rename_i src dst' x
    split at hc
    · rename_i e x' hs hd hx
      split at hc
      · rename_i he hsz
        simp at hc; subst hc
        simp only [evS] at h
        have hcv : ∀ (p : Option Addr) (len cap : Nat), a.eval x = .slice p len cap → (convert src dst' (a.eval x)).run P w = (Conv.bytesToString (.slice p len cap)).run P w := by
          intro p len cap hX
          rw [hX]
          simp [convert, Go.Proofs.YtldmhpdjlgoenaaGreatDoor.Eo.run_underlying hs, Go.Proofs.YtldmhpdjlgoenaaGreatDoor.Eo.run_underlying hd, Go.Proofs.YtldmhpdjlgoenaaGreatDoor.Eo.run_underlying he]
        split at h
        · rename_i hv
          simp at h; subst h
          have hX := evo_sound ht hx hv
          simp only [VR] at hX
          refine ⟨.string .empty, rfl, ?_⟩
          simp only [execOp, Sem.run_bind, hcv _ _ _ hX]
          simp [Conv.bytesToString]
        · rename_i p o len cap hv
          split at h
          · rename_i cells bl e' hg
            split at h
            · rename_i l hl
              split at h
              · rename_i ns hns
                simp at h; subst h
                have hX := evo_sound ht hx hv
                have key : (∃ lc c, ρ p = some lc ∧ a.eval x = .slice (some ⟨lc.blk, lc.off + o, none⟩) len c) ∨ (len = 0 ∧ ∃ q, a.eval x = .slice (some q) 0 0) := by
                  cases cap with
                  | some c => simp only [VR] at hX; obtain ⟨lc, h1, _, h2⟩ := hX; exact .inl ⟨lc, _, h1, h2⟩
                  | none =>
                    simp only [VR] at hX
                    obtain ⟨lc, h1, _, _, h2 | ⟨h0, q, h2⟩⟩ := hX
                    · exact .inl ⟨lc, _, h1, h2⟩
                    · exact .inr ⟨h0, q, h2⟩
                rcases key with ⟨lc, cp, h1, h2⟩ | ⟨rfl, q, h2⟩
                · obtain ⟨Vs, k1, k2, k3, k4⟩ := getList_all (P := P) hr h1 hg hl
                  have := bytesOf_sound hns k1
                  subst this
                  refine ⟨_, rfl, ?_⟩
                  simp only [execOp, Sem.run_bind, hcv _ _ _ h2, run_bytesToString w _ len cp ns (k4 w rfl)]
                  rfl
                · simp [getList_zero, getList_succ] at hl; subst hl
                  simp [bytesOf] at hns; subst hns
                  refine ⟨_, rfl, ?_⟩
                  simp only [execOp, Sem.run_bind, hcv _ _ _ h2, run_bytesToString w q 0 0 [] (by simp [loadCells, loadCellsFrom])]
                  rfl
              · simp at h
            · simp at h
          · simp at h
        · simp at h
      · simp at hc
    · simp at hc
  · simp at hc
end
end Go.Proofs.YtldmhpdjlgoenaaGreatDoor.Eo

namespace Go.Proofs.YtldmhpdjlgoenaaGreatDoor.Eo
noncomputable section

structure WOp where
  es : Nat
  d : Opd
  s : Opd
def lenS : AV → Option Nat
  | .nils => some 0
  | .sl _ _ len _ _ => some len
  | _ => none
def evW (tm : T AV) (h : H) (c : WOp) : Option (AV × H) := match evo tm c.d, evo tm c.s with
  | some d, some s => match lenS d, lenS s with
    | some m, some n => match Nat.ble n m with
      | b => match (match b with | true => n | false => m) with
        | 0 => some (.int .i64 0, h)
        | k + 1 => match d, s with
          | .sl a o _ es _, .sl b p _ es' _ => match Nat.beq es c.es && Nat.beq es' c.es with
            | true => match h.t.get b, h.t.get a with
              | some (.row cs _ _), some (.row cells blen e) => match getList cs p ((k + 1) * c.es) with
                | some l => match Nat.ble (o + (k + 1) * c.es) blen with
                  | true => some (.int .i64 (Int.ofNat (k + 1)), ⟨h.next, h.t.set a (.row (putList o l cells) blen e)⟩)
                  | false => none
                | none => none
              | _, _ => none
            | false => none
          | _, _ => none
    | _, _ => none
  | _, _ => none
def cW (P : Program) (o : Oper) : Option WOp := match o.op with
  | .call { callee := .builtin .copy, args, argTypes } => match args.toList, argTypes[0]? with
    | [d, s], some t => match P.underlying t with
      | some (.slice e) => match sz P e, cOpd d, cOpd s with
        | some es, some d, some s => some ⟨es, d, s⟩
        | _, _, _ => none
      | _ => none
    | _, _ => none
  | _ => none

/-- a slice as it is -/
theorem sl_real {ρ : Rho} {s : AV} {S : Value} {n : Nat} (hl : lenS s = some n) (hs : VR ρ s S) : ∃ p c, S = .slice p n c ∧
    (∀ a o len es cap, s = .sl a o len es cap → (∃ l, ρ a = some l ∧ p = some ⟨l.blk, l.off + o, none⟩) ∨ n = 0) := by
  cases s <;> simp only [lenS] at hl <;> try (simp at hl; done)
  case sl a o len es cap =>
    simp at hl; subst hl
    cases cap with
    | some c =>
      simp only [VR] at hs; obtain ⟨l, h1, _, rfl⟩ := hs
      exact ⟨_, _, rfl, fun a' o' len' es' cap' e => by cases e; exact .inl ⟨l, h1, rfl⟩⟩
    | none =>
      simp only [VR] at hs
      obtain ⟨l, h1, _, _, rfl | ⟨rfl, x, rfl⟩⟩ := hs
      · exact ⟨_, _, rfl, fun a' o' len' es' cap' e => by cases e; exact .inl ⟨l, h1, rfl⟩⟩
      · exact ⟨_, _, rfl, fun _ _ _ _ _ _ => .inr rfl⟩
  case nils =>
    simp at hl; subst hl
    simp only [VR] at hs; subst hs
    exact ⟨_, _, rfl, fun _ _ _ _ _ e => by cases e⟩

theorem evW_sound {P : Program} {o : Oper} {c : WOp} {tm : T AV} {h h' : H} {v : AV} {ρ : Rho} {a : Act} {w : World} (hc : cW P o = some c) (he : evW tm h c = some (v, h')) (ht : TR ρ tm a.tmps) (hr : HR ρ h.t.get w) (hf : Fresh ρ h.next) :
    EOut P (execOp a.eval o) ρ h w v h' := by
  obtain ⟨dst, op, type, pos, after, guard⟩ := o
  unfold cW at hc
  simp only [] at hc
  split at hc
  · rename_i args ats
    split at hc
    · rename_i d s t hargs h0
      have hargs' : args = #[d, s] := by rw [← Array.toArray_toList (xs := args), hargs]
      subst hargs'
      split at hc
      · rename_i e hu
        split at hc
        · rename_i es d' s' hs hd hss
          simp at hc; subst hc
          unfold evW at he
          split at he
          · rename_i dv sv hdv hsv
            split at he
            · rename_i m n hm hn
              have hD := evo_sound ht hd hdv
              have hS := evo_sound ht hss hsv
              obtain ⟨p, cp, hD', hDl⟩ := sl_real hm hD
              obtain ⟨q, cq, hS', hSl⟩ := sl_real hn hS
              obtain ⟨cs, hbb⟩ := run_builtin (P := P) (ρ := a.eval) (b := .copy) (args := #[d, s]) (ats := ats) (dst := dst) (type := type) (pos := pos) (after := after) (guard := guard)
              simp only [] at he
              have hmin : (match Nat.ble n m with | true => n | false => m) = Nat.min n m := by
                have : Nat.min n m = if n ≤ m then n else m := rfl
                rw [this]
                cases hb : Nat.ble n m
                · simp only []
                  rw [if_neg]
                  intro hle
                  rw [Nat.ble_eq_true_of_le hle] at hb; simp at hb
                · rw [if_pos (Nat.le_of_ble_eq_true hb)]
              rw [hmin] at he
              have run : ∀ {SRC : List Value} {w' : World}, (Builtin.firstCells es (Nat.min n m) (.slice q n cq)).run P w = .ok SRC.toArray w → (match p with | some a => storeCells a SRC | none => pure () : Sem Unit).run P w = .ok () w' →
                  (execOp a.eval { dst := dst, op := .call { callee := .builtin .copy, args := #[d, s], argTypes := ats }, type := type, pos := pos, after := after, guard := guard }).run P w = .ok (.value (.int .i64 (Nat.min n m : Nat))) w' := by
                intro SRC w' h1 h2
                rw [hbb]
                simp only [builtin, Builtin.copy_, h0, List.map_toArray, List.map_cons, List.map_nil, List.getElem?_toArray, List.getElem?_cons_zero, List.getElem?_cons_succ, hD', hS', Sem.run_bind, Go.Proofs.YtldmhpdjlgoenaaGreatDoor.Eo.run_underlying hu, Result.andThen_ok, Builtin.lenOf, Sem.run_pure, run_sizeOf hs, h1]
                cases p with
                | none => simp at h2 ⊢; subst h2; simp [goInt]
                | some x => simp only [] at h2; simp [h2, goInt]
              split at he
              · rename_i hk
                simp at he; obtain ⟨rfl, rfl⟩ := he
                have := run (SRC := []) (w' := w) (by rw [hk]; cases q <;> simp [Builtin.firstCells, loadCells, loadCellsFrom]) (by cases p <;> simp [storeCells])
                rw [hk] at this
                exact ⟨ρ, w, _, .inl this, by simp [VR], Way.refl hr hf⟩
              · rename_i k hk
                split at he
                · rename_i a1 o1 l1 es1 c1 b1 p1 l2 es2 c2
                  split at he
                  · rename_i hes
                    split at he
                    · rename_i cs' bl1 e1 cells blen e2 hg1 hg2
                      split at he
                      · rename_i l hl
                        split at he
                        · rename_i hble
                          have hble := Nat.le_of_ble_eq_true hble
                          simp at he; obtain ⟨rfl, rfl⟩ := he
                          simp only [lenS, Option.some.injEq] at hm hn
                          have hpos : 0 < Nat.min n m := by rw [hk]; omega
                          have hn0 : n ≠ 0 := by rintro rfl; simp at hpos
                          have hm0 : m ≠ 0 := by rintro rfl; simp at hpos
                          obtain ⟨la, ha, rfl⟩ := (hDl _ _ _ _ _ rfl).resolve_right hm0
                          obtain ⟨lb, hb, rfl⟩ := (hSl _ _ _ _ _ rfl).resolve_right hn0
                          obtain ⟨Vs, k1, k2, k3, k4⟩ := getList_all (P := P) hr hb hg1 hl
                          have hlen : l.length = (k + 1) * es := by have := k1.length; omega
                          obtain ⟨w', j1, j2⟩ := nx_write hr hg2 ha k1 k3 (o := o1) (by rw [hlen]; exact hble) P
                          have := run (SRC := Vs) (w' := w') (by rw [hk]; simpa [Builtin.firstCells] using k4 w rfl) (by simpa using j1)
                          rw [hk] at this
                          exact ⟨ρ, w', _, .inl this, by simp [VR], way_set hf ha j2⟩
                        · simp at he
                      · simp at he
                    · simp at he
                  · simp at he
                · simp at he
            · simp at he
          · simp at he
        · simp at hc
      · simp at hc
    · simp at hc
  · simp at hc
end
end Go.Proofs.YtldmhpdjlgoenaaGreatDoor.Eo
