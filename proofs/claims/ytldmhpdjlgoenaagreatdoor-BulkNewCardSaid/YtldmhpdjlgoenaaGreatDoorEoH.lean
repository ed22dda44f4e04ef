/-
  An evaluator of Go code over relative heaps, part F: the operations that read no memory, together.
  An evaluator of Go code over relative heaps, part G: the operations that read no memory do what the evaluator says.
  An evaluator of Go code over relative heaps, part H: comparison and the rest of what reads no memory.
-/
import Derived.Test.YtldmhpdjlgoenaaGreatDoorEoE
import Derived.Laws.Tables
set_option linter.unusedVariables false
set_option linter.unusedSimpArgs false
namespace Go.Proofs.YtldmhpdjlgoenaaGreatDoor.Eo
noncomputable section

def cOpdO : Option Operand → Option (Option Opd)
  | none => some none
  | some x => match cOpd x with
    | some y => some (some y)
    | none => none
def evoO (tm : T AV) : Option Opd → Option (Option AV)
  | none => some none
  | some x => match evo tm x with
    | some v => some (some v)
    | none => none
theorem evoO_sound {ρ : Rho} {tm : T AV} {a : Act} (ht : TR ρ tm a.tmps) {x : Option Operand} {y : Option Opd} {v : Option AV} (hc : cOpdO x = some y) (hv : evoO tm y = some v) : OVR ρ v (x.map a.eval) := by
  cases x with
  | none => simp [cOpdO] at hc; subst hc; simp [evoO] at hv; subst hv; trivial
  | some x =>
    unfold cOpdO at hc
    simp only [] at hc
    split at hc
    · rename_i z hz
      simp at hc; subst hc
      unfold evoO at hv
      simp only [] at hv
      split at hv
      · rename_i u hu
        simp at hv; subst hv
        exact evo_sound ht hz hu
      · simp at hv
    · simp at hc

/-- an operation that reads no memory -/
inductive POp where
  | mv (x : Opd)
  | pick (c a b : Opd)
  | build (zero : List AV) (ps : List (Nat × Nat × Opd))
  | nilck (x : Opd)
  | bin (op : BinOp) (t : TypeId) (cx cy : Bool) (x y : Opd)
  | un (op : UnOp) (x : Opd)
  | conv (k : IntKind) (x : Opd)
  | convs (x : Opd)
  | mkif (t : TypeId) (x : Opd)
  | mkfn (f : Fn) (fs cs : List Opd)
  | slc (es : Nat) (x : Opd) (lo hi mx : Option Opd)
  | fadr (off : Nat) (x : Opd)
  | fld (t : TypeId) (off : Nat) (x : Opd)
  | iadrS (es : Nat) (x i : Opd)
  | iadrA (len es : Nat) (x i : Opd)
  | idxA (len : Nat) (t : TypeId) (es : Nat) (x i : Opd)
  | extr (x : Opd) (i : Nat)
  | lenv (x : Opd)
  | lens (x : Opd)
  | lenm (x : Opd)
  | mm (isMax : Bool) (x : Opd) (ys : List Opd)
  | capv (x : Opd)
  | tas (t : TypeId) (x : Opd)

/-- a row of parts laid into a row of cells -/
def layAt (k : Nat) : List AV → List AV → List AV
  | [], zs => zs
  | c :: l, zs => layAt (k + 1) l (zs.set k c)
def oneA : AV → Bool
  | .agg _ | .tup _ => false
  | _ => true
def cellsA : AV → Option (List AV)
  | .agg l => cond (l.all oneA) (some l) none
  | .tup _ => none
  | v => some [v]
def layAll (tm : T AV) : List (Nat × Nat × Opd) → List AV → Option (List AV)
  | [], zs => some zs
  | (off, size, x) :: ps, zs => match evo tm x with
    | some v => match cellsA v with
      | some l => cond (Nat.beq l.length size && Nat.ble (off + l.length) zs.length) (layAll tm ps (layAt off l zs)) none
      | none => none
    | none => none

def evBin (P : Program) (op : BinOp) (t : TypeId) (cx cy : Bool) : AV → AV → Option AV
  | .int k x, .int k' y => match op with
    | .shl => cond (iLt y 0) none (some (.int k (fw k (Int.mul x (2 ^ (min y.toNat k.bits))))))
    | .shr => cond (iLt y 0) none (some (.int k (x.fdiv (2 ^ (min y.toNat k.bits)))))
    | _ => cond (decide (k = k')) (evInt op k x y) none
  | .str x, .str y => match op with
    | .eql => some (.bool (strEq x y))
    | .neq => some (.bool (!(strEq x y)))
    | .add => match Nat.ble (x.data.toList.length + y.data.toList.length) 9223372036854775807 with
      | true => some (.str ⟨(x.data.toList ++ y.data.toList).toArray⟩)
      | false => none
    | _ => none
  | .bool x, .bool y => match P.underlying t with
    | some .bool => match op with
      | .eql => some (.bool (x == y))
      | .neq => some (.bool (!(x == y)))
      | _ => none
    | _ => none
  | .agg xs, .agg ys => cond (P.eqGuardType P.depth t) none (match eqA P 10000 t (.agg xs) (.agg ys) with
    | some b => match op with
      | .eql => some (.bool b)
      | .neq => some (.bool (!b))
      | _ => none
    | none => none)
  | x, y => match nilEq P t cx cy x y with
    | some b => match op with
      | .eql => some (.bool b)
      | .neq => some (.bool (!b))
      | _ => none
    | none => none
where
  nilEq (P : Program) (t : TypeId) (cx cy : Bool) (x y : AV) : Option Bool := match P.underlying t with
    | some (.pointer _) => match x, y with
      | .nilp, .nilp => some true
      | .nilp, .ptr _ _ => some false
      | .ptr _ _, .nilp => some false
      | _, _ => none
    | some (.slice _) => match x, y with
      | .nils, .nils => some true
      | .nils, .sl _ _ _ _ _ => some false
      | .sl _ _ _ _ _, .nils => some false
      | _, _ => none
    | some (.map _ _) => match x, y with
      | .nilm, .nilm => some true
      | .nilm, .map _ => some false
      | .map _, .nilm => some false
      | _, _ => none
    | some (.func _ _ _) => match x, y with
      | .nilf, .nilf => some true
      | .nilf, .fn _ _ _ => some false
      | .fn _ _ _, .nilf => some false
      | _, _ => none
    | some (.interface _) => match x, y with
      | .nili, .nili => cond (cx || cy) (some true) none
      | .nili, .ifc _ _ => some false
      | .ifc _ _, .nili => some false
      | _, _ => none
    | _ => none

def evIdx (len : Nat) : AV → Option Nat
  | .int _ (.ofNat m) => cond (Nat.blt m len) (some m) none
  | _ => none

def mmA (isMax : Bool) (a : AV) : List AV → Option AV
  | [] => some a
  | b :: bs => match a, b with
    | .int k x, .int _ y => mmA isMax (.int k (cond isMax (cond (iLt x y) y x) (cond (iLt y x) y x))) bs
    | _, _ => none

def evP_pick (tm : T AV) (c : Opd) (a : Opd) (b : Opd) : Option AV := match evo tm c with
    | some (.bool t) => cond t (evo tm a) (evo tm b)
    | _ => none
def evP_nilck (tm : T AV) (x : Opd) : Option AV := match evo tm x with
    | some .nilp => none
    | some .nili => none
    | some .nilf => none
    | some (.fn (.func f) fs cs) => some (.fn (.func f) fs cs)
    | some (.fn _ _ _) => none
    | some v => some v
    | none => none
def evP_bin (P : Program) (tm : T AV) (op : BinOp) (t : TypeId) (cx : Bool) (cy : Bool) (x : Opd) (y : Opd) : Option AV := match evo tm x, evo tm y with
    | some a, some b => evBin P op t cx cy a b
    | _, _ => none
def evP_un (tm : T AV) (op : UnOp) (x : Opd) : Option AV := match op, evo tm x with
    | .neg, some (.int k n) => some (.int k (fw k (Int.sub 0 n)))
    | .xor, some (.int k n) => evInt .xor k (if k.signed then -1 else k.max) n
    | .not, some (.bool b) => some (.bool (!b))
    | _, _ => none
def evP_conv (tm : T AV) (k : IntKind) (x : Opd) : Option AV := match evo tm x with
    | some (.int _ n) => some (.int k (fw k n))
    | _ => none
def evP_convs (tm : T AV) (x : Opd) : Option AV := match evo tm x with
    | some (.str s) => some (.str s)
    | some (.int _ n) => some (.str (Utf8.encode n))
    | _ => none
def evP_mkif (tm : T AV) (t : TypeId) (x : Opd) : Option AV := match evo tm x with
    | some v => some (.ifc t v)
    | none => none
def evP_mkfn (tm : T AV) (f : Fn) (fs : List Opd) (cs : List Opd) : Option AV := match evos tm fs, evos tm cs with
    | some a, some b => some (.fn f a b)
    | _, _ => none
def evP_slc (tm : T AV) (es : Nat) (x : Opd) (lo : Option Opd) (hi : Option Opd) (mx : Option Opd) : Option AV := match evo tm x, evoO tm lo, evoO tm hi, evoO tm mx with
    | some a, some l, some h, some m => evSlc es a l h m
    | _, _, _, _ => none
def evP_fadr (tm : T AV) (off : Nat) (x : Opd) : Option AV := match evo tm x with
    | some (.ptr a o) => some (.ptr a (o + off))
    | _ => none
def evP_fld (P : Program) (tm : T AV) (t : TypeId) (off : Nat) (x : Opd) : Option AV := match evo tm x with
    | some (.agg l) => partA P t l off
    | _ => none
def evP_iadrS (tm : T AV) (es : Nat) (x : Opd) (i : Opd) : Option AV := match evo tm x, evo tm i with
    | some (.sl a o len es' _), some j => cond (Nat.beq es es') (match evIdx len j with | some m => some (.ptr a (o + m * es)) | none => none) none
    | _, _ => none
def evP_iadrA (tm : T AV) (len : Nat) (es : Nat) (x : Opd) (i : Opd) : Option AV := match evo tm x, evo tm i with
    | some (.ptr a o), some j => match evIdx len j with | some m => some (.ptr a (o + m * es)) | none => none
    | _, _ => none
def evP_idxA (P : Program) (tm : T AV) (len : Nat) (t : TypeId) (es : Nat) (x : Opd) (i : Opd) : Option AV := match evo tm x, evo tm i with
    | some (.agg l), some j => match evIdx len j with | some m => partA P t l (m * es) | none => none
    | _, _ => none
def evP_extr (tm : T AV) (x : Opd) (i : Nat) : Option AV := match evo tm x with
    | some (.tup l) => l[i]?
    | _ => none
def evP_lenv (tm : T AV) (x : Opd) : Option AV := match evo tm x with
    | some (.sl _ _ len _ _) => some (.int .i64 len)
    | some .nils => some (.int .i64 0)
    | _ => none
def evP_lens (tm : T AV) (x : Opd) : Option AV := match evo tm x with
    | some (.str s) => some (.int .i64 s.size)
    | _ => none
def evP_lenm (tm : T AV) (x : Opd) : Option AV := match evo tm x with
    | some .nilm => some (.int .i64 0)
    | _ => none
def evP_mm (tm : T AV) (isMax : Bool) (x : Opd) (ys : List Opd) : Option AV := match evo tm x, evos tm ys with
    | some a, some bs => mmA isMax a bs
    | _, _ => none
def evP_capv (tm : T AV) (x : Opd) : Option AV := match evo tm x with
    | some (.sl _ _ _ _ (some c)) => some (.int .i64 c)
    | some .nils => some (.int .i64 0)
    | _ => none
def evP_tas (tm : T AV) (t : TypeId) (x : Opd) : Option AV := match evo tm x with
    | some (.ifc t' v) => cond (Nat.beq t' t) (some v) none
    | _ => none
def evP (P : Program) (tm : T AV) : POp → Option AV
  | .mv x => evo tm x
  | .pick c a b => evP_pick tm c a b
  | .build zero ps => (layAll tm ps zero).map .agg
  | .nilck x => evP_nilck tm x
  | .bin op t cx cy x y => evP_bin P tm op t cx cy x y
  | .un op x => evP_un tm op x
  | .conv k x => evP_conv tm k x
  | .convs x => evP_convs tm x
  | .mkif t x => evP_mkif tm t x
  | .mkfn f fs cs => evP_mkfn tm f fs cs
  | .slc es x lo hi mx => evP_slc tm es x lo hi mx
  | .fadr off x => evP_fadr tm off x
  | .fld t off x => evP_fld P tm t off x
  | .iadrS es x i => evP_iadrS tm es x i
  | .iadrA len es x i => evP_iadrA tm len es x i
  | .idxA len t es x i => evP_idxA P tm len t es x i
  | .extr x i => evP_extr tm x i
  | .lenv x => evP_lenv tm x
  | .lens x => evP_lens tm x
  | .lenm x => evP_lenm tm x
  | .mm isMax x ys => evP_mm tm isMax x ys
  | .capv x => evP_capv tm x
  | .tas t x => evP_tas tm t x

/-! ### From the model's operations -/
def plc (P : Program) (t : TypeId) (i : Nat) : Option (Nat × Nat) :=
  match P.underlying t with
  | some (.array _ e) => match sz P e with
    | some n => some (i * n, n)
    | none => none
  | some (.struct fs) => match fs.toList.mapM (fun f => (P.info? f.type).map fun i => (f.offset, i.size)) with
    | some places => places.toArray[i]?
    | none => none
  | _ => none
/-- a type of which something can be built -/
def canBuild (P : Program) (t : TypeId) : Bool :=
  match P.underlying t with
  | some (.array _ e) => (sz P e).isSome
  | some (.struct fs) => (fs.toList.mapM (fun f => (P.info? f.type).map fun i => (f.offset, i.size))).isSome
  | _ => false

def cParts (pl : Nat → Option (Nat × Nat)) : List (Nat × Operand) → Option (List (Nat × Nat × Opd))
  | [] => some []
  | (i, x) :: l => match pl i, cOpd x with
    | some (off, n), some y => match cParts pl l with
      | some m => some ((off, n, y) :: m)
      | none => none
    | _, _ => none
def isC : Operand → Bool
  | .const _ => true
  | _ => false
/-- what a pure operation is made into -/
def cP0 (P : Program) (o : Oper) : Option POp := match o.op with
  | .move x => (cOpd x).map .mv
  | .assign x => (cOpd x).map .mv
  | .pick c a b => match cOpd c, cOpd a, cOpd b with
    | some c, some a, some b => some (.pick c a b)
    | _, _, _ => none
  | .build t ps => match canBuild P t, zcells P t, cParts (plc P t) ps.toList with
    | true, some z, some l => some (.build z l)
    | _, _, _ => none
  | .nilCheck x => (cOpd x).map .nilck
  | .binOp op t x y _ => match cOpd x, cOpd y with
    | some a, some b => some (.bin op t (isC x) (isC y) a b)
    | _, _ => none
  | .unOp op _ x => (cOpd x).map (.un op)
  | .convert s d x => match P.underlying s, P.underlying d, cOpd x with
    | some _, some (.int k), some y => some (.conv k y)
    | some _, some .string, some y => some (.convs y)
    | _, _, _ => none
  | .makeInterface t x => match P.underlying t, cOpd x with
    | some (.interface _), _ => none
    | some _, some y => some (.mkif t y)
    | _, _ => none
  | .makeFunc f fs cs => match cOpds fs.toList, cOpds cs.toList with
    | some a, some b => some (.mkfn f a b)
    | _, _ => none
  | .slice t x lo hi mx => match P.underlying t with
    | some (.slice e) => match sz P e, cOpd x, cOpdO lo, cOpdO hi, cOpdO mx with
      | some es, some y, some l, some h, some m => some (.slc es y l h m)
      | _, _, _, _, _ => none
    | _ => none
  | .fieldAddr t x f => match P.underlying t with
    | some (.struct fs) => match fs[f]? with
      | some fd => match sz P fd.type, cOpd x with
        | some (_ + 1), some y => some (.fadr fd.offset y)
        | _, _ => none
      | none => none
    | _ => none
  | .field t x f => match P.underlying t with
    | some (.struct fs) => match fs[f]?, cOpd x with
      | some fd, some y => some (.fld fd.type fd.offset y)
      | _, _ => none
    | _ => none
  | .indexAddr t x i => match P.underlying t with
    | some (.slice e) => match sz P e, cOpd x, cOpd i with
      | some es, some y, some j => some (.iadrS es y j)
      | _, _, _ => none
    | some (.array n e) => match sz P e, cOpd x, cOpd i with
      | some es, some y, some j => some (.iadrA n es y j)
      | _, _, _ => none
    | _ => none
  | .index t x i => match P.underlying t with
    | some (.array n e) => match sz P e, cOpd x, cOpd i with
      | some es, some y, some j => some (.idxA n e es y j)
      | _, _, _ => none
    | _ => none
  | .extract x i => (cOpd x).map fun y => .extr y i
  | .call { callee := .builtin .len, args, argTypes } => match args.toList, argTypes[0]? with
    | [x], some t => match P.underlying t, cOpd x with
      | some (.slice _), some y => some (.lenv y)
      | some .string, some y => some (.lens y)
      | some (.map _ _), some y => some (.lenm y)
      | _, _ => none
    | _, _ => none
  | .call { callee := .builtin .max, args, .. } => match args.toList with
    | x :: ys => match cOpd x, cOpds ys with
      | some a, some b => some (.mm true a b)
      | _, _ => none
    | _ => none
  | .call { callee := .builtin .min, args, .. } => match args.toList with
    | x :: ys => match cOpd x, cOpds ys with
      | some a, some b => some (.mm false a b)
      | _, _ => none
    | _ => none
  | .call { callee := .builtin .cap, args, argTypes } => match args.toList, argTypes[0]? with
    | [x], some t => match P.underlying t, cOpd x with
      | some (.slice _), some y => some (.capv y)
      | _, _ => none
    | _, _ => none
  | .typeAssert x _ t false => match P.underlying t, cOpd x with
    | some (.interface _), _ => none
    | some _, some y => some (.tas t y)
    | _, _ => none
  | _ => none
/-- the same, with closed branches (for the kernel) -/
def cPo : Op → Program → Option POp := fun op => match op with
  | .move x => fun P => (cOpd x).map .mv
  | .assign x => fun P => (cOpd x).map .mv
  | .pick c a b => fun P => match cOpd c, cOpd a, cOpd b with
    | some c, some a, some b => some (.pick c a b)
    | _, _, _ => none
  | .build t ps => fun P => match canBuild P t, zcells P t, cParts (plc P t) ps.toList with
    | true, some z, some l => some (.build z l)
    | _, _, _ => none
  | .nilCheck x => fun P => (cOpd x).map .nilck
  | .binOp op t x y _ => fun P => match cOpd x, cOpd y with
    | some a, some b => some (.bin op t (isC x) (isC y) a b)
    | _, _ => none
  | .unOp op _ x => fun P => (cOpd x).map (.un op)
  | .convert s d x => fun P => match P.underlying s, P.underlying d, cOpd x with
    | some _, some (.int k), some y => some (.conv k y)
    | some _, some .string, some y => some (.convs y)
    | _, _, _ => none
  | .makeInterface t x => fun P => match P.underlying t, cOpd x with
    | some (.interface _), _ => none
    | some _, some y => some (.mkif t y)
    | _, _ => none
  | .makeFunc f fs cs => fun P => match cOpds fs.toList, cOpds cs.toList with
    | some a, some b => some (.mkfn f a b)
    | _, _ => none
  | .slice t x lo hi mx => fun P => match P.underlying t with
    | some (.slice e) => match sz P e, cOpd x, cOpdO lo, cOpdO hi, cOpdO mx with
      | some es, some y, some l, some h, some m => some (.slc es y l h m)
      | _, _, _, _, _ => none
    | _ => none
  | .fieldAddr t x f => fun P => match P.underlying t with
    | some (.struct fs) => match fs[f]? with
      | some fd => match sz P fd.type, cOpd x with
        | some (_ + 1), some y => some (.fadr fd.offset y)
        | _, _ => none
      | none => none
    | _ => none
  | .field t x f => fun P => match P.underlying t with
    | some (.struct fs) => match fs[f]?, cOpd x with
      | some fd, some y => some (.fld fd.type fd.offset y)
      | _, _ => none
    | _ => none
  | .indexAddr t x i => fun P => match P.underlying t with
    | some (.slice e) => match sz P e, cOpd x, cOpd i with
      | some es, some y, some j => some (.iadrS es y j)
      | _, _, _ => none
    | some (.array n e) => match sz P e, cOpd x, cOpd i with
      | some es, some y, some j => some (.iadrA n es y j)
      | _, _, _ => none
    | _ => none
  | .index t x i => fun P => match P.underlying t with
    | some (.array n e) => match sz P e, cOpd x, cOpd i with
      | some es, some y, some j => some (.idxA n e es y j)
      | _, _, _ => none
    | _ => none
  | .extract x i => fun P => (cOpd x).map fun y => .extr y i
  | .call { callee := .builtin .len, args, argTypes } => fun P => match args.toList, argTypes[0]? with
    | [x], some t => match P.underlying t, cOpd x with
      | some (.slice _), some y => some (.lenv y)
      | some .string, some y => some (.lens y)
      | some (.map _ _), some y => some (.lenm y)
      | _, _ => none
    | _, _ => none
  | .call { callee := .builtin .max, args, .. } => fun P => match args.toList with
    | x :: ys => match cOpd x, cOpds ys with
      | some a, some b => some (.mm true a b)
      | _, _ => none
    | _ => none
  | .call { callee := .builtin .min, args, .. } => fun P => match args.toList with
    | x :: ys => match cOpd x, cOpds ys with
      | some a, some b => some (.mm false a b)
      | _, _ => none
    | _ => none
  | .call { callee := .builtin .cap, args, argTypes } => fun P => match args.toList, argTypes[0]? with
    | [x], some t => match P.underlying t, cOpd x with
      | some (.slice _), some y => some (.capv y)
      | _, _ => none
    | _, _ => none
  | .typeAssert x _ t false => fun P => match P.underlying t, cOpd x with
    | some (.interface _), _ => none
    | some _, some y => some (.tas t y)
    | _, _ => none
  | _ => fun _ => none
def cP (P : Program) (o : Oper) : Option POp := cPo o.op P
theorem cP_def (P : Program) (o : Oper) : cP P o = cP0 P o := by
  unfold cP cP0
  generalize o.op = op
  cases op with
  | call c =>
    obtain ⟨callee, args, ats⟩ := c
    cases callee with
    | builtin b => cases b <;> rfl
    | _ => rfl
  | typeAssert x s t c => cases c <;> rfl
  | _ => rfl
end
end Go.Proofs.YtldmhpdjlgoenaaGreatDoor.Eo

namespace Go.Proofs.YtldmhpdjlgoenaaGreatDoor.Eo
noncomputable section

theorem oneA_one {ρ : Rho} {v : AV} {V : Value} (h : VR ρ v V) (ho : oneA v = true) : one V = true := by
  cases v with
  | agg l => simp [oneA] at ho
  | tup l => simp [oneA] at ho
  | sl a o len es cap =>
    cases cap with
    | some c => simp only [VR] at h; obtain ⟨l, _, _, rfl⟩ := h; rfl
    | none => simp only [VR] at h; obtain ⟨l, _, _, _, rfl | ⟨_, x, rfl⟩⟩ := h <;> rfl
  | ptr a o => simp only [VR] at h; obtain ⟨l, _, rfl⟩ := h; rfl
  | map a => simp only [VR] at h; obtain ⟨l, _, rfl⟩ := h; rfl
  | yld a => simp only [VR] at h; obtain ⟨l, _, rfl⟩ := h; rfl
  | fn f x y => simp only [VR] at h; obtain ⟨F, C, _, _, rfl⟩ := h; rfl
  | ifc t u => simp only [VR] at h; obtain ⟨U, _, rfl⟩ := h; rfl
  | _ => simp only [VR] at h; subst h; rfl
theorem all_one {ρ : Rho} : ∀ {l : List AV} {L : List Value}, VRs ρ l L → l.all oneA = true → ∀ V ∈ L, one V = true
  | [], L, h, _ => by simp only [VRs] at h; subst h; simp
  | v :: l, L, h, ha => by
    simp only [VRs] at h
    obtain ⟨V, M, h1, h2, rfl⟩ := h
    simp only [List.all_cons, Bool.and_eq_true] at ha
    intro U hU
    rcases List.mem_cons.1 hU with rfl | hU
    · exact oneA_one h1 ha.1
    · exact all_one h2 ha.2 U hU
theorem cells_one {V : Value} (h : one V = true) : V.cells = #[V] := by cases V <;> first | rfl | simp [one] at h
theorem cellsA_sound {ρ : Rho} {v : AV} {V : Value} (h : VR ρ v V) {l : List AV} (hl : cellsA v = some l) : VRs ρ l V.cells.toList ∧ ∀ U ∈ V.cells.toList, one U = true := by
  cases v with
  | agg m =>
    simp only [VR] at h
    obtain ⟨L, h1, rfl⟩ := h
    cases hm : m.all oneA
    · simp [cellsA, hm] at hl
    · simp [cellsA, hm] at hl; subst hl
      exact ⟨by simpa [Value.cells] using h1, by simpa [Value.cells] using all_one h1 hm⟩
  | tup m => simp [cellsA] at hl
  | _ =>
    simp only [cellsA, Option.some.injEq] at hl; subst hl
    have ho := oneA_one h rfl
    rw [cells_one ho]
    exact ⟨⟨V, [], h, rfl, rfl⟩, by simpa using ho⟩

theorem layAt_sound {ρ : Rho} : ∀ {l : List AV} {L : List Value} (k : Nat) {zs : List AV} {Z : Array Value} (off : Nat), VRs ρ l L → VRs ρ zs Z.toList →
    VRs ρ (layAt (off + k) l zs) ((L.zipIdx k).foldl (fun cs (x : Value × Nat) => cs.setIfInBounds (off + x.2) x.1) Z).toList ∧ ((L.zipIdx k).foldl (fun cs (x : Value × Nat) => cs.setIfInBounds (off + x.2) x.1) Z).size = Z.size
  | [], L, k, zs, Z, off, h, hz => by simp only [VRs] at h; subst h; exact ⟨by simpa [layAt] using hz, rfl⟩
  | v :: l, L, k, zs, Z, off, h, hz => by
    simp only [VRs] at h
    obtain ⟨V, M, h1, h2, rfl⟩ := h
    simp only [List.zipIdx_cons, List.foldl_cons, layAt]
    have hz' : VRs ρ (zs.set (off + k) v) (Z.setIfInBounds (off + k) V).toList := by
      simpa using hz.set (off + k) h1
    obtain ⟨k1, k2⟩ := layAt_sound (k + 1) off h2 hz'
    refine ⟨?_, by simpa using k2⟩
    rw [show off + k + 1 = off + (k + 1) by omega]
    exact k1

theorem built_eq {P : Program} {t : TypeId} {parts : List (Nat × Value)} {i : TypeInfo} {z : Value} (hi : P.info? t = some i) (hz : i.zero = some z) (hk : canBuild P t = true) :
    P.built t parts = Instr.fill (plc P t) z.cells parts := by
  unfold canBuild at hk
  unfold Program.built
  split at hk
  · rename_i n e hu
    simp only [hi, hu]
    cases he : P.info? e with
    | none => simp [sz, he] at hk
    | some ie =>
      simp only [hz]
      congr 1
      funext j
      simp [plc, hu, sz, he]
  · rename_i fs hu
    simp only [hi, hu]
    cases hm : fs.toList.mapM (fun f => (P.info? f.type).map fun i => (f.offset, i.size)) with
    | none => rw [hm] at hk; simp at hk
    | some places =>
      simp only [hz]
      congr 1
      funext j
      simp [plc, hu, hm]
  · simp at hk

theorem fill_sound {pl : Nat → Option (Nat × Nat)} {ρ : Rho} {tm : T AV} {a : Act} (ht : TR ρ tm a.tmps) : ∀ {ps : List (Nat × Operand)} {cs : List (Nat × Nat × Opd)} {zs r : List AV} {Z : Array Value}, cParts pl ps = some cs → layAll tm cs zs = some r → VRs ρ zs Z.toList →
    ∃ R, Instr.fill pl Z (ps.map fun p => (p.1, a.eval p.2)) = some R ∧ VRs ρ r R.toList
  | [], cs, zs, r, Z, hc, hl, hz => by
    simp [cParts] at hc; subst hc
    simp [layAll] at hl; subst hl
    exact ⟨Z, by simp [Instr.fill], hz⟩
  | (i, x) :: ps, cs, zs, r, Z, hc, hl, hz => by
    unfold cParts at hc
    split at hc
    · rename_i off n y hp hy
      split at hc
      · rename_i m hm
        simp at hc; subst hc
        unfold layAll at hl
        split at hl
        · rename_i v hv
          split at hl
          · rename_i l hcl
            cases hb : (Nat.beq l.length n && Nat.ble (off + l.length) zs.length)
            · rw [hb] at hl; simp at hl
            · rw [hb, cond_true] at hl
              simp only [Bool.and_eq_true] at hb
              have hn := Nat.eq_of_beq_eq_true hb.1
              have hle := Nat.le_of_ble_eq_true hb.2
              have hV := evo_sound ht hy hv
              obtain ⟨k1, k2⟩ := cellsA_sound hV hcl
              have hlen := k1.length
              have hzl := hz.length
              simp only [Array.length_toList] at hlen hzl
              obtain ⟨j1, j2⟩ := layAt_sound (ρ := ρ) 0 off k1 hz
              rw [Nat.add_zero] at j1
              obtain ⟨R, e1, e2⟩ := fill_sound ht hm hl j1
              refine ⟨R, ?_, e2⟩
              simp only [List.map_cons, Instr.fill, hp]
              rw [if_neg (by simp; omega)]
              rw [← e1]
              congr 1
              rw [← Array.foldl_toList, Array.toList_zipIdx]
          · simp at hl
        · simp at hl
      · simp at hc
    · simp at hc
end
end Go.Proofs.YtldmhpdjlgoenaaGreatDoor.Eo

namespace Go.Proofs.YtldmhpdjlgoenaaGreatDoor.Eo
noncomputable section

/-- two values, at least one of them nil, of one kind that has nil -/
def nq (d : TypeDesc) (X Y : Value) : Option Bool := match d, X, Y with
  | .pointer _, .pointer none, .pointer b => some b.isNone
  | .pointer _, .pointer (some _), .pointer none => some false
  | .slice _, .slice none _ _, .slice b _ _ => some b.isNone
  | .slice _, .slice (some _) _ _, .slice none _ _ => some false
  | .map _ _, .map none, .map b => some b.isNone
  | .map _ _, .map (some _), .map none => some false
  | .func _ _ _, .nilFunc, .nilFunc => some true
  | .func _ _ _, .nilFunc, .func _ _ _ => some false
  | .func _ _ _, .func _ _ _, .nilFunc => some false
  | .interface _, .nilIface, .nilIface => some true
  | .interface _, .nilIface, .iface _ _ => some false
  | .interface _, .iface _ _, .nilIface => some false
  | _, _, _ => none
theorem nq_equal {P : Program} {t : TypeId} {d : TypeDesc} (hu : P.underlying t = some d) {X Y : Value} {b : Bool} (h : nq d X Y = some b) (w : World) : (Op.equal t X Y).run P w = .ok b w := by
  have ten : Op.maxDepth = 9999 + 1 := rfl
  unfold nq at h
  split at h <;> first
    | (simp at h; done)
    | (simp at h; subst h; unfold Op.equal; rw [ten, Op.equalIn]; simp [Go.Proofs.YtldmhpdjlgoenaaGreatDoor.Eo.run_underlying hu])
theorem nq_bin {P : Program} {t : TypeId} {d : TypeDesc} (hu : P.underlying t = some d) {X Y : Value} {b : Bool} (h : nq d X Y = some b) (w : World) :
    (binOp .eql t X Y).run P w = .ok (.bool b) w ∧ (binOp .neq t X Y).run P w = .ok (.bool (!b)) w := by
  have he := nq_equal hu h w
  unfold nq at h
  split at h <;> first
    | (simp at h; done)
    | (refine ⟨?_, ?_⟩ <;> simp [binOp, he])
theorem nq_guard {P : Program} {t : TypeId} {d : TypeDesc} {X Y : Value} {b : Bool} (h : nq d X Y = some b) (ox oy : Operand) (hc : X = .nilIface → Y = .nilIface → (isC ox || isC oy) = true) (op : BinOp) (w : World) :
    (eqGuard op t ox oy X Y).run P w = .ok () w := by
  unfold nq at h
  split at h <;> first
    | (simp at h; done)
    | (cases op <;> simp [eqGuard]; done)
    | (have := hc rfl rfl
       cases op <;> simp [eqGuard]
       all_goals (cases ox <;> cases oy <;> simp [isC] at this ⊢))
theorem nilEq_nq {P : Program} {t : TypeId} {x y : AV} {cx cy b : Bool} (h : evBin.nilEq P t cx cy x y = some b) {ρ : Rho} {X Y : Value} (hx : VR ρ x X) (hy : VR ρ y Y) :
    ∃ d, P.underlying t = some d ∧ nq d X Y = some b ∧ (X = .nilIface → Y = .nilIface → (cx || cy) = true) := by
  have slv : ∀ {a o len es : Nat} {cap : Option Nat} {V : Value}, VR ρ (.sl a o len es cap) V → ∃ p n c, V = .slice (some p) n c := by
    intro a o len es cap V hv
    cases cap with
    | some c => simp only [VR] at hv; obtain ⟨l, _, _, rfl⟩ := hv; exact ⟨_, _, _, rfl⟩
    | none => simp only [VR] at hv; obtain ⟨l, _, _, _, rfl | ⟨_, x, rfl⟩⟩ := hv <;> exact ⟨_, _, _, rfl⟩
  unfold evBin.nilEq at h
  split at h
  · rename_i e hu
    refine ⟨_, hu, ?_⟩
    split at h <;> first
      | (simp at h; done)
      | (simp only [VR] at hx hy; simp at h; subst h
         first
           | (subst hx; subst hy; exact ⟨rfl, by simp⟩)
           | (subst hx; obtain ⟨m, _, rfl⟩ := hy; exact ⟨rfl, by simp⟩)
           | (subst hy; obtain ⟨m, _, rfl⟩ := hx; exact ⟨rfl, by simp⟩))
  · rename_i e hu
    refine ⟨_, hu, ?_⟩
    split at h
    · simp only [VR] at hx hy; simp at h; subst h hx hy; exact ⟨rfl, by simp⟩
    · simp only [VR] at hx; simp at h; subst h hx; obtain ⟨p, n, c, rfl⟩ := slv hy; exact ⟨rfl, by simp⟩
    · simp only [VR] at hy; simp at h; subst h hy; obtain ⟨p, n, c, rfl⟩ := slv hx; exact ⟨rfl, by simp⟩
    · simp at h
  · rename_i e hu
    refine ⟨_, hu, ?_⟩
    split at h <;> first
      | (simp at h; done)
      | (simp only [VR] at hx hy; simp at h; subst h
         first
           | (subst hx; subst hy; exact ⟨rfl, by simp⟩)
           | (subst hx; obtain ⟨m, _, rfl⟩ := hy; exact ⟨rfl, by simp⟩)
           | (subst hy; obtain ⟨m, _, rfl⟩ := hx; exact ⟨rfl, by simp⟩))
  · rename_i e hu
    refine ⟨_, hu, ?_⟩
    split at h <;> first
      | (simp at h; done)
      | (simp only [VR] at hx hy; simp at h; subst h
         first
           | (subst hx; subst hy; exact ⟨rfl, by simp⟩)
           | (subst hx; obtain ⟨F, C, _, _, rfl⟩ := hy; exact ⟨rfl, by simp⟩)
           | (subst hy; obtain ⟨F, C, _, _, rfl⟩ := hx; exact ⟨rfl, by simp⟩))
  · rename_i e hu
    refine ⟨_, hu, ?_⟩
    split at h
    · simp only [VR] at hx hy; subst hx hy
      cases hc : (cx || cy)
      · rw [hc] at h; simp at h
      · rw [hc] at h; simp at h; subst h; exact ⟨rfl, fun _ _ => rfl⟩
    · simp only [VR] at hx hy; simp at h; subst h hx; obtain ⟨U, _, rfl⟩ := hy; exact ⟨rfl, by simp⟩
    · simp only [VR] at hx hy; simp at h; subst h hy; obtain ⟨U, _, rfl⟩ := hx; exact ⟨rfl, by simp⟩
    · simp at h
  · simp at h

theorem evBin_sound {P : Program} {op : BinOp} {t : TypeId} {ox oy : Operand} {x y v : AV} (h : evBin P op t (isC ox) (isC oy) x y = some v) {ρ : Rho} {X Y : Value} (hx : VR ρ x X) (hy : VR ρ y Y) :
    ∃ V, VR ρ v V ∧ ∀ w, (do eqGuard op t ox oy X Y; binOp op t X Y : Sem Value).run P w = .ok V w := by
  unfold evBin at h
  split at h
  · rename_i k a k' b
    simp only [VR] at hx hy; subst hx hy
    have hg : ∀ w, (eqGuard op t ox oy (.int k a) (.int k' b)).run P w = .ok () w := fun w => by cases op <;> simp [eqGuard]
    split at h
    · rw [iLt_eq] at h
      by_cases hb : b < 0
      · simp [hb] at h
      · simp only [hb, decide_false, cond_false, Option.some.injEq] at h; subst h
        refine ⟨_, rfl, fun w => ?_⟩
        simp only [Sem.run_bind, hg, Result.andThen_ok, binOp, Op.shift, if_neg hb, fw_eq]
        rfl
    · rw [iLt_eq] at h
      by_cases hb : b < 0
      · simp [hb] at h
      · simp only [hb, decide_false, cond_false, Option.some.injEq] at h; subst h
        refine ⟨_, rfl, fun w => ?_⟩
        simp only [Sem.run_bind, hg, Result.andThen_ok, binOp, Op.shift, if_neg hb]
        rfl
    · by_cases hk : k = k'
      · subst hk
        simp at h
        obtain ⟨V, h1, _, h2⟩ := evInt_sound (P := P) h (ρ := ρ)
        exact ⟨V, h1, fun w => by simp [hg, h2]⟩
      · simp [hk] at h
  · rename_i a b
    simp only [VR] at hx hy; subst hx hy
    have hg : ∀ w, (eqGuard op t ox oy (.string a) (.string b)).run P w = .ok () w := fun w => by cases op <;> simp [eqGuard]
    split at h <;> first
      | (simp at h; done)
      | (simp only [Option.some.injEq] at h; subst h; refine ⟨_, rfl, fun w => ?_⟩; simp [eqGuard, binOp, Op.stringOp, strEq_toList]; done)
      | skip
    split at h
    · rename_i hle
      have hle := Nat.le_of_ble_eq_true hle
      simp only [Option.some.injEq] at h; subst h
      refine ⟨.string (a ++ b), ?_, fun w => ?_⟩
      · simp only [VR]
        congr 1
      · have e63 : IntKind.i64.max = 9223372036854775807 := by decide +kernel
        have hs : ∀ s : ByteArray, s.size = s.data.toList.length := fun s => by obtain ⟨⟨l⟩⟩ := s; rfl
        have hn : ¬ ((a.size + b.size : Nat) : Int) > IntKind.i64.max := by rw [e63, hs, hs]; omega
        simp only [Sem.run_bind, hg, Result.andThen_ok, binOp, Op.stringOp, if_neg hn, Sem.run_pure]
    · simp at h
  · rename_i a b
    simp only [VR] at hx hy; subst hx hy
    split at h
    · rename_i hu
      have hg : ∀ w, (eqGuard op t ox oy (.bool a) (.bool b)).run P w = .ok () w := fun w => by cases op <;> simp [eqGuard]
      have he : ∀ w, (Op.equal t (.bool a) (.bool b)).run P w = .ok (a == b) w := fun w => by
        have ten : Op.maxDepth = 9999 + 1 := rfl
        unfold Op.equal; rw [ten, Op.equalIn]; simp [Go.Proofs.YtldmhpdjlgoenaaGreatDoor.Eo.run_underlying hu]
      split at h <;> first
        | (simp at h; done)
        | (simp only [Option.some.injEq] at h; subst h; refine ⟨_, rfl, fun w => ?_⟩; simp [eqGuard, binOp, he])
    · simp at h
  · rename_i xs ys
    cases hq : P.eqGuardType P.depth t
    · rw [hq, cond_false] at h
      split at h
      · rename_i b hb
        have hx' := hx; have hy' := hy
        simp only [VR] at hx' hy'
        obtain ⟨XS, _, rfl⟩ := hx'
        obtain ⟨YS, _, rfl⟩ := hy'
        have he : ∀ w, (Op.equal t (.agg XS.toArray) (.agg YS.toArray)).run P w = .ok b w := fun w => eqA_sound 10000 t _ _ b hb ρ _ _ hx hy w
        have hg : ∀ w, (eqGuard op t ox oy (.agg XS.toArray) (.agg YS.toArray)).run P w = .ok () w := fun w => run_eqGuard_agg w op t ox oy _ _ hq
        split at h <;> first
          | (simp at h; done)
          | (simp only [Option.some.injEq] at h; subst h; refine ⟨_, rfl, fun w => ?_⟩; rw [Sem.run_bind, hg, Result.andThen_ok]; simp [binOp, he])
      · simp at h
    · rw [hq] at h; simp at h
  · split at h
    · rename_i b hb
      obtain ⟨d, hu, hn, hc⟩ := nilEq_nq hb hx hy
      have hg := fun w => nq_guard (P := P) (t := t) hn ox oy hc op w
      have hbn := fun w => nq_bin hu hn w
      split at h <;> first
        | (simp at h; done)
        | (simp only [Option.some.injEq] at h; subst h; refine ⟨_, rfl, fun w => ?_⟩; simp [hg, (hbn w).1, (hbn w).2])
    · simp at h
end
end Go.Proofs.YtldmhpdjlgoenaaGreatDoor.Eo
