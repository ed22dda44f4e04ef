/-
  An evaluator of Go code over relative heaps, part F: the operations that read no memory, together.
-/
import Derived.Test.YtnmlfhogolonoaaEvE
set_option linter.unusedVariables false
set_option linter.unusedSimpArgs false
namespace Go.Proofs.Ytnmlfhogolonoaa.Ev
noncomputable section

def cOpdO : Option Operand → Option (Option Opd)
  | none => some none
  | some x => match cOpd x with
    | some y => some (some y)
    | none => none
def evoO (tm : T AV) : Option Opd → Option (Option AV)
  | none => some none
  | some x => match evo tm x with
    | some v => some (some v)
    | none => none
theorem evoO_sound {ρ : Rho} {tm : T AV} {a : Act} (ht : TR ρ tm a.tmps) {x : Option Operand} {y : Option Opd} {v : Option AV} (hc : cOpdO x = some y) (hv : evoO tm y = some v) : OVR ρ v (x.map a.eval) := by
  cases x with
  | none => simp [cOpdO] at hc; subst hc; simp [evoO] at hv; subst hv; trivial
  | some x =>
    unfold cOpdO at hc
    simp only [] at hc
    split at hc
    · rename_i z hz
      simp at hc; subst hc
      unfold evoO at hv
      simp only [] at hv
      split at hv
      · rename_i u hu
        simp at hv; subst hv
        exact evo_sound ht hz hu
      · simp at hv
    · simp at hc

/-- an operation that reads no memory -/
inductive POp where
  | mv (x : Opd)
  | pick (c a b : Opd)
  | build (zero : List AV) (ps : List (Nat × Nat × Opd))
  | nilck (x : Opd)
  | bin (op : BinOp) (t : TypeId) (cx cy : Bool) (x y : Opd)
  | un (op : UnOp) (x : Opd)
  | conv (k : IntKind) (x : Opd)
  | convs (x : Opd)
  | mkif (t : TypeId) (x : Opd)
  | mkfn (f : Fn) (fs cs : List Opd)
  | slc (es : Nat) (x : Opd) (lo hi mx : Option Opd)
  | fadr (off : Nat) (x : Opd)
  | fld (t : TypeId) (off : Nat) (x : Opd)
  | iadrS (es : Nat) (x i : Opd)
  | iadrA (len es : Nat) (x i : Opd)
  | idxA (len : Nat) (t : TypeId) (es : Nat) (x i : Opd)
  | extr (x : Opd) (i : Nat)
  | lenv (x : Opd)
  | lens (x : Opd)
  | lenm (x : Opd)
  | mm (isMax : Bool) (x : Opd) (ys : List Opd)

/-- a row of parts laid into a row of cells -/
def layAt (k : Nat) : List AV → List AV → List AV
  | [], zs => zs
  | c :: l, zs => layAt (k + 1) l (zs.set k c)
def oneA : AV → Bool
  | .agg _ | .tup _ => false
  | _ => true
def cellsA : AV → Option (List AV)
  | .agg l => cond (l.all oneA) (some l) none
  | .tup _ => none
  | v => some [v]
def layAll (tm : T AV) : List (Nat × Nat × Opd) → List AV → Option (List AV)
  | [], zs => some zs
  | (off, size, x) :: ps, zs => match evo tm x with
    | some v => match cellsA v with
      | some l => cond (Nat.beq l.length size && Nat.ble (off + l.length) zs.length) (layAll tm ps (layAt off l zs)) none
      | none => none
    | none => none

def evBin (P : Program) (op : BinOp) (t : TypeId) (cx cy : Bool) : AV → AV → Option AV
  | .int k x, .int k' y => match op with
    | .shl => cond (iLt y 0) none (some (.int k (fw k (Int.mul x (2 ^ (min y.toNat k.bits))))))
    | .shr => cond (iLt y 0) none (some (.int k (x.fdiv (2 ^ (min y.toNat k.bits)))))
    | _ => cond (decide (k = k')) (evInt op k x y) none
  | .str x, .str y => match op with
    | .eql => some (.bool (strEq x y))
    | .neq => some (.bool (!(strEq x y)))
    | .add => match Nat.ble (x.data.toList.length + y.data.toList.length) 9223372036854775807 with
      | true => some (.str ⟨(x.data.toList ++ y.data.toList).toArray⟩)
      | false => none
    | _ => none
  | .bool x, .bool y => match P.underlying t with
    | some .bool => match op with
      | .eql => some (.bool (x == y))
      | .neq => some (.bool (!(x == y)))
      | _ => none
    | _ => none
  | .agg xs, .agg ys => cond (P.eqGuardType P.depth t) none (match eqA P 10000 t (.agg xs) (.agg ys) with
    | some b => match op with
      | .eql => some (.bool b)
      | .neq => some (.bool (!b))
      | _ => none
    | none => none)
  | x, y => match nilEq P t cx cy x y with
    | some b => match op with
      | .eql => some (.bool b)
      | .neq => some (.bool (!b))
      | _ => none
    | none => none
where
  nilEq (P : Program) (t : TypeId) (cx cy : Bool) (x y : AV) : Option Bool := match P.underlying t with
    | some (.pointer _) => match x, y with
      | .nilp, .nilp => some true
      | .nilp, .ptr _ _ => some false
      | .ptr _ _, .nilp => some false
      | _, _ => none
    | some (.slice _) => match x, y with
      | .nils, .nils => some true
      | .nils, .sl _ _ _ _ _ => some false
      | .sl _ _ _ _ _, .nils => some false
      | _, _ => none
    | some (.map _ _) => match x, y with
      | .nilm, .nilm => some true
      | .nilm, .map _ => some false
      | .map _, .nilm => some false
      | _, _ => none
    | some (.func _ _ _) => match x, y with
      | .nilf, .nilf => some true
      | .nilf, .fn _ _ _ => some false
      | .fn _ _ _, .nilf => some false
      | _, _ => none
    | some (.interface _) => match x, y with
      | .nili, .nili => cond (cx || cy) (some true) none
      | .nili, .ifc _ _ => some false
      | .ifc _ _, .nili => some false
      | _, _ => none
    | _ => none

def evIdx (len : Nat) : AV → Option Nat
  | .int _ (.ofNat m) => cond (Nat.blt m len) (some m) none
  | _ => none

def mmA (isMax : Bool) (a : AV) : List AV → Option AV
  | [] => some a
  | b :: bs => match a, b with
    | .int k x, .int _ y => mmA isMax (.int k (cond isMax (cond (iLt x y) y x) (cond (iLt y x) y x))) bs
    | _, _ => none

def evP (P : Program) (tm : T AV) : POp → Option AV
  | .mv x => evo tm x
  | .pick c a b => match evo tm c with
    | some (.bool t) => cond t (evo tm a) (evo tm b)
    | _ => none
  | .build zero ps => (layAll tm ps zero).map .agg
  | .nilck x => match evo tm x with
    | some .nilp => none
    | some .nili => none
    | some .nilf => none
    | some (.fn (.func f) fs cs) => some (.fn (.func f) fs cs)
    | some (.fn _ _ _) => none
    | some v => some v
    | none => none
  | .bin op t cx cy x y => match evo tm x, evo tm y with
    | some a, some b => evBin P op t cx cy a b
    | _, _ => none
  | .un op x => match op, evo tm x with
    | .neg, some (.int k n) => some (.int k (fw k (Int.sub 0 n)))
    | .xor, some (.int k n) => evInt .xor k (if k.signed then -1 else k.max) n
    | .not, some (.bool b) => some (.bool (!b))
    | _, _ => none
  | .conv k x => match evo tm x with
    | some (.int _ n) => some (.int k (fw k n))
    | _ => none
  | .convs x => match evo tm x with
    | some (.str s) => some (.str s)
    | _ => none
  | .mkif t x => match evo tm x with
    | some v => some (.ifc t v)
    | none => none
  | .mkfn f fs cs => match evos tm fs, evos tm cs with
    | some a, some b => some (.fn f a b)
    | _, _ => none
  | .slc es x lo hi mx => match evo tm x, evoO tm lo, evoO tm hi, evoO tm mx with
    | some a, some l, some h, some m => evSlc es a l h m
    | _, _, _, _ => none
  | .fadr off x => match evo tm x with
    | some (.ptr a o) => some (.ptr a (o + off))
    | _ => none
  | .fld t off x => match evo tm x with
    | some (.agg l) => partA P t l off
    | _ => none
  | .iadrS es x i => match evo tm x, evo tm i with
    | some (.sl a o len es' _), some j => cond (Nat.beq es es') (match evIdx len j with | some m => some (.ptr a (o + m * es)) | none => none) none
    | _, _ => none
  | .iadrA len es x i => match evo tm x, evo tm i with
    | some (.ptr a o), some j => match evIdx len j with | some m => some (.ptr a (o + m * es)) | none => none
    | _, _ => none
  | .idxA len t es x i => match evo tm x, evo tm i with
    | some (.agg l), some j => match evIdx len j with | some m => partA P t l (m * es) | none => none
    | _, _ => none
  | .extr x i => match evo tm x with
    | some (.tup l) => l[i]?
    | _ => none
  | .lenv x => match evo tm x with
    | some (.sl _ _ len _ _) => some (.int .i64 len)
    | some .nils => some (.int .i64 0)
    | _ => none
  | .lens x => match evo tm x with
    | some (.str s) => some (.int .i64 s.size)
    | _ => none
  | .lenm x => match evo tm x with
    | some .nilm => some (.int .i64 0)
    | _ => none
  | .mm isMax x ys => match evo tm x, evos tm ys with
    | some a, some bs => mmA isMax a bs
    | _, _ => none

/-! ### From the model's operations -/
def plc (P : Program) (t : TypeId) (i : Nat) : Option (Nat × Nat) :=
  match P.underlying t with
  | some (.array _ e) => match sz P e with
    | some n => some (i * n, n)
    | none => none
  | some (.struct fs) => match fs.toList.mapM (fun f => (P.info? f.type).map fun i => (f.offset, i.size)) with
    | some places => places.toArray[i]?
    | none => none
  | _ => none
/-- a type of which something can be built -/
def canBuild (P : Program) (t : TypeId) : Bool :=
  match P.underlying t with
  | some (.array _ e) => (sz P e).isSome
  | some (.struct fs) => (fs.toList.mapM (fun f => (P.info? f.type).map fun i => (f.offset, i.size))).isSome
  | _ => false

def cParts (pl : Nat → Option (Nat × Nat)) : List (Nat × Operand) → Option (List (Nat × Nat × Opd))
  | [] => some []
  | (i, x) :: l => match pl i, cOpd x with
    | some (off, n), some y => match cParts pl l with
      | some m => some ((off, n, y) :: m)
      | none => none
    | _, _ => none
def isC : Operand → Bool
  | .const _ => true
  | _ => false
def cP (P : Program) (o : Oper) : Option POp := match o.op with
  | .move x => (cOpd x).map .mv
  | .assign x => (cOpd x).map .mv
  | .pick c a b => match cOpd c, cOpd a, cOpd b with
    | some c, some a, some b => some (.pick c a b)
    | _, _, _ => none
  | .build t ps => match canBuild P t, zcells P t, cParts (plc P t) ps.toList with
    | true, some z, some l => some (.build z l)
    | _, _, _ => none
  | .nilCheck x => (cOpd x).map .nilck
  | .binOp op t x y _ => match cOpd x, cOpd y with
    | some a, some b => some (.bin op t (isC x) (isC y) a b)
    | _, _ => none
  | .unOp op _ x => (cOpd x).map (.un op)
  | .convert s d x => match P.underlying s, P.underlying d, cOpd x with
    | some _, some (.int k), some y => some (.conv k y)
    | some _, some .string, some y => some (.convs y)
    | _, _, _ => none
  | .makeInterface t x => match P.underlying t, cOpd x with
    | some (.interface _), _ => none
    | some _, some y => some (.mkif t y)
    | _, _ => none
  | .makeFunc f fs cs => match cOpds fs.toList, cOpds cs.toList with
    | some a, some b => some (.mkfn f a b)
    | _, _ => none
  | .slice t x lo hi mx => match P.underlying t with
    | some (.slice e) => match sz P e, cOpd x, cOpdO lo, cOpdO hi, cOpdO mx with
      | some es, some y, some l, some h, some m => some (.slc es y l h m)
      | _, _, _, _, _ => none
    | _ => none
  | .fieldAddr t x f => match P.underlying t with
    | some (.struct fs) => match fs[f]? with
      | some fd => match sz P fd.type, cOpd x with
        | some (_ + 1), some y => some (.fadr fd.offset y)
        | _, _ => none
      | none => none
    | _ => none
  | .field t x f => match P.underlying t with
    | some (.struct fs) => match fs[f]?, cOpd x with
      | some fd, some y => some (.fld fd.type fd.offset y)
      | _, _ => none
    | _ => none
  | .indexAddr t x i => match P.underlying t with
    | some (.slice e) => match sz P e, cOpd x, cOpd i with
      | some es, some y, some j => some (.iadrS es y j)
      | _, _, _ => none
    | some (.array n e) => match sz P e, cOpd x, cOpd i with
      | some es, some y, some j => some (.iadrA n es y j)
      | _, _, _ => none
    | _ => none
  | .index t x i => match P.underlying t with
    | some (.array n e) => match sz P e, cOpd x, cOpd i with
      | some es, some y, some j => some (.idxA n e es y j)
      | _, _, _ => none
    | _ => none
  | .extract x i => (cOpd x).map fun y => .extr y i
  | .call { callee := .builtin .len, args, argTypes } => match args.toList, argTypes[0]? with
    | [x], some t => match P.underlying t, cOpd x with
      | some (.slice _), some y => some (.lenv y)
      | some .string, some y => some (.lens y)
      | some (.map _ _), some y => some (.lenm y)
      | _, _ => none
    | _, _ => none
  | .call { callee := .builtin .max, args, .. } => match args.toList with
    | x :: ys => match cOpd x, cOpds ys with
      | some a, some b => some (.mm true a b)
      | _, _ => none
    | _ => none
  | .call { callee := .builtin .min, args, .. } => match args.toList with
    | x :: ys => match cOpd x, cOpds ys with
      | some a, some b => some (.mm false a b)
      | _, _ => none
    | _ => none
  | _ => none
end
end Go.Proofs.Ytnmlfhogolonoaa.Ev
