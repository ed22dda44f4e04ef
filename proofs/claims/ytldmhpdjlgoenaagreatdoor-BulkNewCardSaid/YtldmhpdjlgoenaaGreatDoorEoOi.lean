/-
  Open evaluation, part Oe: the rules by which it is simplified.
  Open evaluation, part Of: what is known of calls, arithmetic, rows, appends, loops.
  Open evaluation, part Og: what code does is determined; calls to a depth.
  Open evaluation, part Oh: calls to a depth, beside some that are known otherwise.
  Open evaluation, part Oi: the atomics as calls that are known.
-/
import Derived.Test.YtldmhpdjlgoenaaGreatDoorEoOd
import Derived.Below
import Derived.Test.YtldmhpdjlgoenaaGreatDoorEoW
set_option linter.unusedVariables false
set_option linter.unusedSimpArgs false
namespace Go.Proofs.YtldmhpdjlgoenaaGreatDoor.Eo
noncomputable section

/-! ### Rules (each a theorem whose proof is kept: the kernel is not to unfold) -/
@[go_sem] theorem rOpt {α : Type} (x : α) (K : α → Prop) : @optI α (some x) ⟨K⟩ = K x := by unfold optI; rfl
@[go_sem] theorem rSelT (A B : Prop) : @selI true ⟨A⟩ ⟨B⟩ = A := by unfold selI; rfl
@[go_sem] theorem rSelF (A B : Prop) : @selI false ⟨A⟩ ⟨B⟩ = B := by unfold selI; rfl
@[go_sem] theorem rBoth1 {α β : Type} (x : α) (f : α → Option β) : both1 (some x) f = f x := by unfold both1; rfl
section
variable (P : Program) (call : CallE)
@[go_sem] theorem rWS0 (K : T AV → H → Prop) (tm : T AV) (h : H) : WS P call [] K tm h = K tm h := by rw [WS]
@[go_sem] theorem rWS1 (q : SQ) (l : List SQ) (K : T AV → H → Prop) (tm : T AV) (h : H) : WS P call (q :: l) K tm h =
    @optI _ (wantQ tm q.gd) ⟨fun b => @selI b ⟨@optI _ (evOp P call tm h q.c) ⟨fun r => WS P call l K (setO tm q.dst r.1) r.2⟩⟩ ⟨WS P call l K (setO tm q.dst (.tup [])) h⟩⟩ := by rw [WS]
@[go_sem] theorem rWCskip (Q : Cont) (tm : T AV) (h : H) : WC P call .skip Q tm h = Q .normal tm h := by rw [WC]
@[go_sem] theorem rWCops (l : List SQ) (Q : Cont) (tm : T AV) (h : H) : WC P call (.ops l) Q tm h = WS P call l (fun tm h => Q .normal tm h) tm h := by rw [WC]
@[go_sem] theorem rWCdrw (d : DR) (Q : Cont) (tm : T AV) (h : H) : WC P call (.drw d) Q tm h = WDr P call d (fun tm h => Q .normal tm h) tm h := by rw [WC]
@[go_sem] theorem rWCseq (a b : CC) (Q : Cont) (tm : T AV) (h : H) : WC P call (.seq a b) Q tm h = WC P call a (thenW (WC P call b) Q) tm h := by rw [WC]
@[go_sem] theorem rWCcond (c : Opd) (a b : CC) (Q : Cont) (tm : T AV) (h : H) : WC P call (.cond c a b) Q tm h = @optI _ (both1 (evo tm c) boolA) ⟨fun t => @selI t ⟨WC P call a Q tm h⟩ ⟨WC P call b Q tm h⟩⟩ := by rw [WC]
@[go_sem] theorem rWCblock (id : Nat) (a : CC) (Q : Cont) (tm : T AV) (h : H) : WC P call (.block id a) Q tm h = WC P call a (inW id Q) tm h := by rw [WC]
theorem rWCloop (a : CC) (Q : Cont) (tm : T AV) (h : H) : WC P call (.loop a) Q tm h = ∃ n, loopW (WC P call a) n Q tm h := by rw [WC]
@[go_sem] theorem rWCexit (id : Nat) (Q : Cont) (tm : T AV) (h : H) : WC P call (.exit id) Q tm h = Q (.exit id) tm h := by rw [WC]
@[go_sem] theorem rWCret (Q : Cont) (tm : T AV) (h : H) : WC P call .ret Q tm h = Q .ret tm h := by rw [WC]
@[go_sem] theorem rThenN (W : Cont → T AV → H → Prop) (Q : Cont) (tm : T AV) (h : H) : thenW W Q .normal tm h = W Q tm h := by rw [thenW]
@[go_sem] theorem rThenE (W : Cont → T AV → H → Prop) (Q : Cont) (j : Nat) (tm : T AV) (h : H) : thenW W Q (.exit j) tm h = Q (.exit j) tm h := by rw [thenW]
@[go_sem] theorem rThenR (W : Cont → T AV → H → Prop) (Q : Cont) (tm : T AV) (h : H) : thenW W Q .ret tm h = Q .ret tm h := by rw [thenW]
@[go_sem] theorem rInN (id : Nat) (Q : Cont) (tm : T AV) (h : H) : inW id Q .normal tm h = Q .normal tm h := by rw [inW]
@[go_sem] theorem rInE (id j : Nat) (Q : Cont) (tm : T AV) (h : H) : inW id Q (.exit j) tm h = Q (if j = id then .normal else .exit j) tm h := by
  rw [inW]
  by_cases hj : j = id <;> simp [hj]
@[go_sem] theorem rInR (id : Nat) (Q : Cont) (tm : T AV) (h : H) : inW id Q .ret tm h = Q .ret tm h := by rw [inW]
@[go_sem] theorem rEndN (rs : List RV) (Post : AV → H → Prop) (tm : T AV) (h : H) : endW rs Post .normal tm h = @optI _ (resW tm h.t.get rs) ⟨fun vs => Post (packA vs) h⟩ := by rw [endW]
@[go_sem] theorem rEndR (rs : List RV) (Post : AV → H → Prop) (tm : T AV) (h : H) : endW rs Post .ret tm h = @optI _ (resW tm h.t.get rs) ⟨fun vs => Post (packA vs) h⟩ := by rw [endW]
@[go_sem] theorem rWF (n : Nat) (c : CC) (rs : List RV) (args : List AV) (h : H) (Post : AV → H → Prop) : WF P call ⟨n, c, rs⟩ args h Post = WC P call c (endW rs Post) (putList 0 args .e) h := by rw [WF]
@[go_sem] theorem rWDr (ps : List (List DQ × Option DQ)) (fin : List (Nat × Nat)) (chk : List (DQ × List Nat)) (K : T AV → H → Prop) (tm : T AV) (h : H) : WDr P call ⟨ps, fin, chk⟩ K tm h =
    drW P call tm 0 ps (fun F hs => chkW P tm F hs chk ∧ @optI _ (lastH hs) ⟨fun h' => K (finW F fin tm) h'⟩) .e h := by rw [WDr]
@[go_sem] theorem rDrN (tm0 : T AV) (ph : Nat) (qs : List DQ) (l : List (List DQ × Option DQ)) (K : T Rec → List H → Prop) (F : T Rec) (h : H) : drW P call tm0 ph ((qs, none) :: l) K F h = phW P tm0 ph qs (fun F h => K F [h]) F h := by rw [drW]
@[go_sem] theorem rDrS (tm0 : T AV) (ph : Nat) (qs : List DQ) (e : DQ) (l : List (List DQ × Option DQ)) (K : T Rec → List H → Prop) (F : T Rec) (h : H) : drW P call tm0 ph ((qs, some e) :: l) K F h =
    phW P tm0 ph qs (fun F1 h1 => @optI _ (fGo P call tm0 F1 h1 e) ⟨fun r => h1.next ≤ r.2.next ∧ drW P call tm0 (ph + 1) l (fun F' hs => K F' (h1 :: hs)) (F1.set e.i (.eff r.1)) r.2⟩) F h := by rw [drW]
@[go_sem] theorem rPh0 (tm0 : T AV) (ph : Nat) (K : T Rec → H → Prop) (F : T Rec) (h : H) : phW P tm0 ph [] K F h = K F h := by rw [phW]
@[go_sem] theorem rPh1 (tm0 : T AV) (ph : Nat) (q : DQ) (l : List DQ) (K : T Rec → H → Prop) (F : T Rec) (h : H) : phW P tm0 ph (q :: l) K F h = @optI _ (qGo P tm0 ph F h q) ⟨fun r => phW P tm0 ph l K (F.set q.i r.1) r.2⟩ := by rw [phW]
@[go_sem] theorem rFin0 (F : T Rec) (tm : T AV) : finW F [] tm = tm := by rw [finW]
def setR (tm : T AV) (d : Nat) (o : Option Rec) : T AV := match o with
  | some r => tm.set d r.val
  | none => tm
@[go_sem] theorem rSetR (tm : T AV) (d : Nat) (r : Rec) : setR tm d (some r) = tm.set d r.val := by unfold setR; rfl
@[go_sem] theorem rSetR0 (tm : T AV) (d : Nat) : setR tm d none = tm := by unfold setR; rfl
@[go_sem] theorem rFin1 (F : T Rec) (i d : Nat) (l : List (Nat × Nat)) (tm : T AV) : finW F ((i, d) :: l) tm = finW F l (setR tm d (F.get i)) := by
  rw [finW]
  cases F.get i <;> rfl
end
attribute [go_sem] qGo fGo qRec chkW rdQ wantQ setO evo evos evOp evP evP_pick evP_nilck evP_bin evP_un evP_conv evP_convs evP_mkif evP_mkfn evP_fadr evP_fld evP_iadrS evP_iadrA evP_idxA evP_extr evP_lens evP_lenm evP_mm evP_capv evP_tas evP_slc
  evR evE evN resW packA Rec.val lastH evoO evSlc evCall tgtA layAll layAt boolA
attribute [go_sem] mkTm_nil mkTm_none mkTm_some T.get_set T.get_e iLt_eq
attribute [go_sem] cond_true cond_false

@[go_sem] theorem rBle (a b : Nat) : Nat.ble a b = decide (a ≤ b) := ble_eq a b
@[go_sem] theorem rBlt (a b : Nat) : Nat.blt a b = decide (a < b) := blt_iff a b
@[go_sem] theorem rBeq (a b : Nat) : Nat.beq a b = decide (a = b) := beq_iff a b
@[go_sem] theorem rIEq (a b : Int) : iEq a b = decide (a = b) := by rw [iEq_eq, Bool.eq_iff_iff]; simp
@[go_sem] theorem rAdd (a b : Int) : Int.add a b = a + b := rfl
@[go_sem] theorem rSub (a b : Int) : Int.sub a b = a - b := rfl
@[go_sem] theorem rMul (a b : Int) : Int.mul a b = a * b := rfl
section
@[go_sem] theorem rOne1 (b : Bool) : oneA (.bool b) = true := by unfold oneA; rfl
@[go_sem] theorem rOne2 (k : IntKind) (n : Int) : oneA (.int k n) = true := by unfold oneA; rfl
@[go_sem] theorem rOne3 (s : ByteArray) : oneA (.str s) = true := by unfold oneA; rfl
@[go_sem] theorem rOne4 (a o : Nat) : oneA (.ptr a o) = true := by unfold oneA; rfl
@[go_sem] theorem rOne5 : oneA .nilp = true := by unfold oneA; rfl
@[go_sem] theorem rOne6 (a o l e : Nat) (c : Option Nat) : oneA (.sl a o l e c) = true := by unfold oneA; rfl
@[go_sem] theorem rOne7 : oneA .nils = true := by unfold oneA; rfl
@[go_sem] theorem rOne8 (a : Nat) : oneA (.map a) = true := by unfold oneA; rfl
@[go_sem] theorem rOne9 : oneA .nilm = true := by unfold oneA; rfl
@[go_sem] theorem rOneA (f : Fn) (a b : List AV) : oneA (.fn f a b) = true := by unfold oneA; rfl
@[go_sem] theorem rOneB : oneA .nilf = true := by unfold oneA; rfl
@[go_sem] theorem rOneC (t : TypeId) (v : AV) : oneA (.ifc t v) = true := by unfold oneA; rfl
@[go_sem] theorem rOneD : oneA .nili = true := by unfold oneA; rfl
@[go_sem] theorem rCells (v : AV) (h : oneA v = true) : cellsA v = some [v] := by cases v <;> first | rfl | (simp [oneA] at h)
@[go_sem] theorem rCellsA (l : List AV) : cellsA (.agg l) = cond (l.all oneA) (some l) none := by unfold cellsA; rfl
end
def ldO (agg : Option Nat) (o : Nat) : AO → Option AV
  | .row cells _ _ => match agg with
    | none => cells.get o
    | some n => both1 (getList cells o n) fun l => some (.agg l)
  | .tab cells => match agg with
    | none => cells.get o
    | some n => both1 (getList cells o n) fun l => some (.agg l)
  | _ => none
theorem ldA_both (g : Nat → Option AO) (agg : Option Nat) (a o : Nat) : ldA g agg a o = both1 (g a) (ldO agg o) := by
  unfold ldA both1 ldO
  cases g a with
  | none => rfl
  | some x =>
    cases x with
    | row cells len e =>
      cases agg with
      | none => rfl
      | some n =>
        simp only [ldO, both1]
        cases getList cells o n <;> rfl
    | tab cells =>
      cases agg with
      | none => rfl
      | some n =>
        simp only [ldO, both1]
        cases getList cells o n <;> rfl
    | map es clock => rfl
    | iter m since seen last => rfl
    | loop st pend tm N ps assign body => rfl
    | dead => rfl
@[go_sem] theorem rLdA (g : Nat → Option AO) (agg : Option Nat) (a o : Nat) : ldA g agg a o = both1 (g a) (ldO agg o) := ldA_both g agg a o
@[go_sem] theorem rLdO (o : Nat) (cells : T AV) (len : Nat) (e : TypeId) : ldO none o (.row cells len e) = cells.get o := by unfold ldO; rfl
@[go_sem] theorem rLdOn (n o : Nat) (cells : T AV) (len : Nat) (e : TypeId) : ldO (some n) o (.row cells len e) = both1 (getList cells o n) (fun l => some (.agg l)) := by unfold ldO; rfl
@[go_sem] theorem rLdOt (o : Nat) (cells : T AV) : ldO none o (.tab cells) = cells.get o := by unfold ldO; rfl
@[go_sem] theorem rLdOtn (n o : Nat) (cells : T AV) : ldO (some n) o (.tab cells) = both1 (getList cells o n) (fun l => some (.agg l)) := by unfold ldO; rfl
def lenA : AV → Option AV
  | .sl _ _ len _ _ => some (.int .i64 len)
  | .nils => some (.int .i64 0)
  | _ => none
@[go_sem] theorem rLenA (a o len es : Nat) (c : Option Nat) : lenA (.sl a o len es c) = some (.int .i64 (len : Int)) := by unfold lenA; rfl
@[go_sem] theorem rLenA0 : lenA .nils = some (.int .i64 0) := by unfold lenA; rfl
@[go_sem] theorem rLenv (tm : T AV) (x : Opd) : evP_lenv tm x = both1 (evo tm x) lenA := by
  unfold evP_lenv both1 lenA
  cases evo tm x with
  | none => rfl
  | some v => cases v <;> rfl
def andI (k : IntKind) (x y : Int) : Int := fw k (BitVec.ofInt k.bits x &&& BitVec.ofInt k.bits y).toNat
def orI (k : IntKind) (x y : Int) : Int := fw k (BitVec.ofInt k.bits x ||| BitVec.ofInt k.bits y).toNat
def xorI (k : IntKind) (x y : Int) : Int := fw k (BitVec.ofInt k.bits x ^^^ BitVec.ofInt k.bits y).toNat
def andNotI (k : IntKind) (x y : Int) : Int := fw k (BitVec.ofInt k.bits x &&& ~~~ BitVec.ofInt k.bits y).toNat
section
variable (k : IntKind) (x y : Int)
@[go_sem] theorem rI1 : evInt .add k x y = some (.int k (fw k (x + y))) := by unfold evInt; rfl
@[go_sem] theorem rI2 : evInt .sub k x y = some (.int k (fw k (x - y))) := by unfold evInt; rfl
@[go_sem] theorem rI3 : evInt .mul k x y = some (.int k (fw k (x * y))) := by unfold evInt; rfl
@[go_sem] theorem rI4 : evInt .quo k x y = if y = 0 then none else some (.int k (fw k (Int.tdiv x y))) := by unfold evInt; simp only [rIEq]; by_cases h : y = 0 <;> simp [h]
@[go_sem] theorem rI5 : evInt .rem k x y = if y = 0 then none else some (.int k (Int.tmod x y)) := by unfold evInt; simp only [rIEq]; by_cases h : y = 0 <;> simp [h]
@[go_sem] theorem rI6 : evInt .and k x y = some (.int k (andI k x y)) := by unfold evInt; rfl
@[go_sem] theorem rI7 : evInt .or k x y = some (.int k (orI k x y)) := by unfold evInt; rfl
@[go_sem] theorem rI8 : evInt .xor k x y = some (.int k (xorI k x y)) := by unfold evInt; rfl
@[go_sem] theorem rI9 : evInt .andNot k x y = some (.int k (andNotI k x y)) := by unfold evInt; rfl
@[go_sem] theorem rI10 : evInt .eql k x y = some (.bool (decide (x = y))) := by unfold evInt; simp only [rIEq]
@[go_sem] theorem rI11 : evInt .neq k x y = some (.bool (!decide (x = y))) := by unfold evInt; simp only [rIEq]
@[go_sem] theorem rI12 : evInt .lss k x y = some (.bool (decide (x < y))) := by unfold evInt; simp only [iLt_eq]
@[go_sem] theorem rI13 : evInt .leq k x y = some (.bool (!decide (y < x))) := by unfold evInt; simp only [iLt_eq]
@[go_sem] theorem rI14 : evInt .gtr k x y = some (.bool (decide (y < x))) := by unfold evInt; simp only [iLt_eq]
@[go_sem] theorem rI15 : evInt .geq k x y = some (.bool (!decide (x < y))) := by unfold evInt; simp only [iLt_eq]
end
@[go_sem] theorem rIdx (len : Nat) (k : IntKind) (x : Int) : evIdx len (.int k x) = if 0 ≤ x ∧ x < len then some x.toNat else none := by
  cases x with
  | ofNat m =>
    simp only [evIdx, rBlt]
    by_cases h : m < len
    · have : (0 : Int) ≤ Int.ofNat m ∧ Int.ofNat m < (len : Int) := ⟨Int.natCast_nonneg m, by show (m : Int) < len; omega⟩
      rw [if_pos this]; simp [h]
    · have : ¬ ((0 : Int) ≤ Int.ofNat m ∧ Int.ofNat m < (len : Int)) := by show ¬ ((0 : Int) ≤ (m : Int) ∧ (m : Int) < (len : Int)); omega
      rw [if_neg this]; simp [h]
  | negSucc m =>
    have : ¬ ((0 : Int) ≤ Int.negSucc m ∧ Int.negSucc m < (len : Int)) := by omega
    rw [if_neg this]; rfl
@[go_sem] theorem rBnd (y : Nat) (k : IntKind) (x : Int) : bnd y (.int k x) = if 0 ≤ x ∧ x ≤ y then some x.toNat else none := by
  cases x with
  | ofNat m =>
    simp only [bnd, rBle]
    by_cases h : m ≤ y
    · have : (0 : Int) ≤ Int.ofNat m ∧ Int.ofNat m ≤ (y : Int) := ⟨Int.natCast_nonneg m, by show (m : Int) ≤ y; omega⟩
      rw [if_pos this]; simp [h]
    · have : ¬ ((0 : Int) ≤ Int.ofNat m ∧ Int.ofNat m ≤ (y : Int)) := by show ¬ ((0 : Int) ≤ (m : Int) ∧ (m : Int) ≤ (y : Int)); omega
      rw [if_neg this]; simp [h]
  | negSucc m =>
    have : ¬ ((0 : Int) ≤ Int.negSucc m ∧ Int.negSucc m ≤ (y : Int)) := by omega
    rw [if_neg this]; rfl
attribute [go_sem] bndo bnds
/-- a part of a string -/
def subS (s : ByteArray) (l h : Nat) : ByteArray := ⟨((s.data.toList.drop l).take (h - l)).toArray⟩
def both (a b : Option AV) (f : AV → AV → Option AV) : Option AV := match a, b with
  | some a, some b => f a b
  | _, _ => none
@[go_sem] theorem both_some (a b : AV) (f : AV → AV → Option AV) : both (some a) (some b) f = f a b := rfl
def idxV : AV → AV → Option AV
  | .str s, .int _ (.ofNat i) => match s.data.toList[i]? with
    | some b => some (.int .u8 b.toNat)
    | none => none
  | _, _ => none
@[go_sem] theorem rIdxV (s : ByteArray) (k : IntKind) (i : Int) : idxV (.str s) (.int k i) = if h : 0 ≤ i ∧ i.toNat < s.size then some (.int .u8 (s[i.toNat]'h.2).toNat) else none := by
  cases i with
  | ofNat m =>
    simp only [idxV]
    by_cases h : m < s.size
    · have h' : (0 : Int) ≤ Int.ofNat m ∧ (Int.ofNat m).toNat < s.size := ⟨Int.natCast_nonneg m, h⟩
      rw [dif_pos h']
      have : s.data.toList[m]? = some (s[m]'h) := by
        have h2 : m < s.data.size := h
        rw [Array.getElem?_toList, Array.getElem?_eq_getElem h2]; rfl
      rw [this]; rfl
    · have h' : ¬ ((0 : Int) ≤ Int.ofNat m ∧ (Int.ofNat m).toNat < s.size) := fun hh => h hh.2
      rw [dif_neg h']
      have : s.data.toList[m]? = none := by
        have h2 : ¬ m < s.data.size := h
        simp; omega
      rw [this]
  | negSucc m =>
    have h' : ¬ ((0 : Int) ≤ Int.negSucc m ∧ (Int.negSucc m).toNat < s.size) := fun hh => by omega
    rw [dif_neg h']; rfl
@[go_sem] theorem rIdxS (tm : T AV) (g : Nat → Option AO) (x ix : Opd) : evS tm g (.idx x ix) = both (evo tm x) (evo tm ix) idxV := by
  show (match evo tm x, evo tm ix with
    | some (AV.str s), some (AV.int _ (Int.ofNat i)) => match s.data.toList[i]? with
      | some b => some (AV.int .u8 b.toNat)
      | none => none
    | _, _ => none) = _
  generalize evo tm x = a
  generalize evo tm ix = b
  unfold both idxV
  cases a with
  | none => rfl
  | some a =>
    cases b with
    | none => cases a <;> rfl
    | some b => cases a <;> cases b <;> first | rfl | (rename_i n; cases n <;> rfl)
theorem sizeL (s : ByteArray) : s.data.toList.length = s.size := Array.length_toList
@[go_sem] theorem rSlcS (tm : T AV) (g : Nat → Option AO) (x : Opd) (lo hi : Option Opd) : evS tm g (.slc x lo hi) = match evo tm x, evoS tm lo, evoS tm hi with
    | some (.str s), some lo, some hi => match bndo s.size s.size hi with
      | some h => match bndo h 0 lo with
        | some l => some (.str (subS s l h))
        | none => none
      | none => none
    | _, _, _ => none := by
  unfold evS
  simp only [sizeL]
  rfl
attribute [go_sem] evoS
@[go_sem] theorem rBinI (P : Program) (op : BinOp) (t : TypeId) (cx cy : Bool) (k k' : IntKind) (x y : Int) : evBin P op t cx cy (.int k x) (.int k' y) = match op with
    | .shl => if y < 0 then none else some (.int k (fw k (x * (2 ^ (min y.toNat k.bits)))))
    | .shr => if y < 0 then none else some (.int k (x.fdiv (2 ^ (min y.toNat k.bits))))
    | op => if k = k' then evInt op k x y else none := by
  unfold evBin
  cases op <;> simp only [iLt_eq] <;> first
    | (by_cases h : y < 0 <;> simp [h] <;> rfl)
    | (by_cases h : k = k' <;> simp [h])
@[go_sem] theorem rBinS (P : Program) (op : BinOp) (t : TypeId) (cx cy : Bool) (x y : ByteArray) : evBin P op t cx cy (.str x) (.str y) = match op with
    | .eql => some (.bool (decide (x = y)))
    | .neq => some (.bool (!decide (x = y)))
    | .add => if x.size + y.size ≤ 9223372036854775807 then some (.str (x ++ y)) else none
    | _ => none := by
  have e : strEq x y = decide (x = y) := by rw [strEq_toList, Bool.eq_iff_iff, beq_iff_eq, decide_eq_true_iff, ByteArray.toList_eq, ByteArray.toList_eq]; exact ⟨fun h => by cases x; cases y; simp at h; rw [h], fun h => by rw [h]⟩
  have e2 : (⟨(x.data.toList ++ y.data.toList).toArray⟩ : ByteArray) = x ++ y := by
    apply ByteArray.ext
    simp [ByteArray.data_append]
  unfold evBin
  cases op <;> simp only [e, e2, sizeL, rBle]
  by_cases h : x.size + y.size ≤ 9223372036854775807 <;> simp [h]
end
end Go.Proofs.YtldmhpdjlgoenaaGreatDoor.Eo

namespace Go.Proofs.YtldmhpdjlgoenaaGreatDoor.Eo
noncomputable section

@[go_sem] theorem natLit (n : Nat) : (Nat.cast (no_index (OfNat.ofNat n)) : Int) = OfNat.ofNat n := rfl
attribute [go_sem] Nat.le_add_right srcA List.forall_mem_cons List.not_mem_nil false_implies implies_true forall_const Nat.add_assoc Nat.left_eq_add Nat.add_eq_left ykey List.getElem?_cons_zero List.getElem?_cons_succ List.getElem?_nil List.set_cons_zero List.set_cons_succ List.length_cons List.length_nil List.length_set List.length_append List.take_succ_cons List.take_zero List.drop_zero List.drop_succ_cons List.nil_append List.cons_append List.append_nil
  decide_true decide_false true_and and_true false_and and_false true_or or_true false_or or_false Bool.and_self Bool.and_true Bool.true_and Bool.and_false Bool.false_and Bool.not_true Bool.not_false Int.toNat_natCast Int.toNat_zero Int.le_refl Nat.le_refl Nat.zero_add Nat.add_zero Int.natCast_nonneg eq_self not_true_eq_false not_false_eq_true
  List.all_cons List.all_nil Option.map_some Option.map_none Nat.lt_irrefl
/-! ### Arithmetic -/
theorem fwIn {k : IntKind} {n : Int} (h : match k with | .i8 => -128 ≤ n ∧ n ≤ 127 | .u8 => 0 ≤ n ∧ n ≤ 255 | .i16 => -32768 ≤ n ∧ n ≤ 32767 | .u16 => 0 ≤ n ∧ n ≤ 65535 | .i32 => -2147483648 ≤ n ∧ n ≤ 2147483647 | .u32 => 0 ≤ n ∧ n ≤ 4294967295 | .i64 => -9223372036854775808 ≤ n ∧ n ≤ 9223372036854775807 | .u64 => 0 ≤ n ∧ n ≤ 18446744073709551615) : fw k n = n := by
  rw [fw_eq]; exact wrap_in k n h
theorem fwI {n : Int} (h1 : -9223372036854775808 ≤ n) (h2 : n ≤ 9223372036854775807) : fw .i64 n = n := fwIn ⟨h1, h2⟩
theorem fwU {n : Int} (h1 : 0 ≤ n) (h2 : n ≤ 18446744073709551615) : fw .u64 n = n := fwIn ⟨h1, h2⟩
theorem fwB {n : Int} (h1 : 0 ≤ n) (h2 : n ≤ 255) : fw .u8 n = n := fwIn ⟨h1, h2⟩

/-! ### Calls -/
/-- a call does what is said of it -/
def Has (call : CallE) (f : FuncId) (K : List AV → H → Option (AV × H)) : Prop := ∀ args h v h', K args h = some (v, h') → call f args h = some (v, h')
theorem Has.eq {call : CallE} {f : FuncId} {K : List AV → H → Option (AV × H)} (hK : Has call f K) {args : List AV} {h : H} (hs : (K args h).isSome = true) : call f args h = K args h := by
  cases e : K args h with
  | none => rw [e] at hs; simp at hs
  | some r => rw [hK args h r.1 r.2 e]

/-! ### Maps and rows -/
theorem T.set_id {α : Type} {t : T α} {i : Nat} {x : α} (h : t.get i = some x) : t.set i x = t := T.ext fun j => by
  rw [T.get_set]
  by_cases e : j = i
  · rw [if_pos e, e, h]
  · rw [if_neg e]
@[go_sem] theorem T.set_set {α : Type} (t : T α) (i : Nat) (x y : α) : (t.set i x).set i y = t.set i y := T.ext fun j => by
  rw [T.get_set, T.get_set, T.get_set]
  by_cases e : j = i <;> simp [e]
theorem T.set_comm {α : Type} (t : T α) {i j : Nat} (h : i ≠ j) (x y : α) : (t.set i x).set j y = (t.set j y).set i x := T.ext fun k => by
  rw [T.get_set, T.get_set, T.get_set, T.get_set]
  by_cases e : k = j
  · by_cases e' : k = i
    · omega
    · simp [e, show ¬ j = i from fun hh => h hh.symm]
  · simp [e]
@[go_sem] theorem rowGet (cs : List AV) (i : Nat) : (putList 0 cs T.e).get i = cs[i]? := by
  rw [putList_get]
  by_cases h : 0 ≤ i ∧ i < 0 + cs.length
  · rw [if_pos h]; rfl
  · rw [if_neg h, T.get_e]
    rw [List.getElem?_eq_none (by omega)]
@[go_sem] theorem rowSet (cs : List AV) (i : Nat) (v : AV) (h : i < cs.length) : (putList 0 cs T.e).set i v = putList 0 (cs.set i v) T.e := T.ext fun j => by
  rw [T.get_set, rowGet, rowGet, List.getElem?_set]
  by_cases e : j = i
  · subst e; simp [h]
  · rw [if_neg e, if_neg (Ne.symm e)]
theorem rowPut (cs l : List AV) (o : Nat) (h : o + l.length ≤ cs.length) : putList o l (putList 0 cs T.e) = putList 0 (cs.take o ++ l ++ cs.drop (o + l.length)) T.e := T.ext fun j => by
  rw [putList_get, rowGet, rowGet]
  have h1 : (cs.take o).length = o := by simp; omega
  by_cases e : o ≤ j ∧ j < o + l.length
  · rw [if_pos e, List.append_assoc, List.getElem?_append_right (by omega), List.getElem?_append_left (by omega), h1]
  · rw [if_neg e]
    by_cases e2 : j < o
    · rw [List.append_assoc, List.getElem?_append_left (by omega), List.getElem?_take, if_pos e2]
    · rw [List.getElem?_append_right (by simp; omega), List.getElem?_drop]
      congr 1
      simp; omega
@[go_sem] theorem rowPut1 (cs : List AV) (o : Nat) (v : AV) (h : o < cs.length) : putList o [v] (putList 0 cs T.e) = putList 0 (cs.set o v) T.e := by
  rw [← rowSet cs o v h, putList_cons, putList_nil]
@[go_sem] theorem rowPutAll (cs l : List AV) (h : l.length = cs.length) : putList 0 l (putList 0 cs T.e) = putList 0 l T.e := by
  rw [rowPut cs l 0 (by omega)]
  congr 1
  rw [List.take_zero, List.nil_append, List.drop_eq_nil_of_le (by omega), List.append_nil]
theorem put1 (t : T AV) (o : Nat) (v : AV) : putList o [v] t = t.set o v := by rw [putList_cons, putList_nil]
theorem getList_row (cs : List AV) : ∀ (n o : Nat), getList (putList 0 cs T.e) o n = if o + n ≤ cs.length ∨ n = 0 then some ((cs.drop o).take n) else none
  | 0, o => by rw [getList_zero]; simp
  | n + 1, o => by
    rw [getList_succ, rowGet, getList_row cs n (o + 1)]
    by_cases h : o < cs.length
    · rw [List.getElem?_eq_getElem h]
      simp only []
      by_cases h2 : o + 1 + n ≤ cs.length
      · rw [if_pos (.inl h2), if_pos (.inl (by omega))]
        simp only []
        rw [List.drop_eq_getElem_cons h, List.take_succ_cons]
      · by_cases hn : n = 0
        · omega
        · rw [if_neg (by omega), if_neg (by omega)]
    · rw [List.getElem?_eq_none (by omega)]
      simp only []
      rw [if_neg (by omega)]
@[go_sem] theorem rowList (cs : List AV) (o n : Nat) (h : o + n ≤ cs.length) : getList (putList 0 cs T.e) o n = some ((cs.drop o).take n) := by
  rw [getList_row, if_pos (.inl h)]
/-- a row, all of its cells known -/
abbrev rowL (cs : List AV) (e : TypeId) : AO := .row (putList 0 cs T.e) cs.length e

/-! ### Appends -/
def own : AV → Option Nat
  | .sl a _ _ _ _ => some a
  | _ => none
/-- a slice that grows: it is nothing, or has a row of its own -/
inductive Own (es : Nat) (e : TypeId) (h : H) : AV → Nat → List AV → Prop where
  | nil : Own es e h .nils 0 []
  | sl (a len : Nat) (cs : List AV) (cap : Option Nat) (hc : cap = none ∨ cap = some len) (h0 : 0 < len) (hl : cs.length = len * es) (ha : a < h.next) (hg : h.t.get a = some (rowL cs e)) : Own es e h (.sl a 0 len es cap) len cs
theorem Own.keep {es : Nat} {e : TypeId} {h h' : H} {v : AV} {len : Nat} {cs : List AV} (o : Own es e h v len cs) (hn : h.next ≤ h'.next) (hk : ∀ b, own v = some b → h'.t.get b = h.t.get b) : Own es e h' v len cs := by
  cases o with
  | nil => exact .nil
  | sl a len cs cap hc h0 hl ha hg => exact .sl a len cs cap hc h0 hl (Nat.lt_of_lt_of_le ha hn) ((hk a rfl).trans hg)
theorem Own.length {es : Nat} {e : TypeId} {h : H} {v : AV} {len : Nat} {cs : List AV} (o : Own es e h v len cs) : cs.length = len * es := by
  cases o with
  | nil => simp
  | sl a len cs cap hc h0 hl ha hg => exact hl
theorem Own.lt {es : Nat} {e : TypeId} {h : H} {v : AV} {len : Nat} {cs : List AV} (o : Own es e h v len cs) {b : Nat} (hb : own v = some b) : b < h.next := by
  cases o with
  | nil => simp [own] at hb
  | sl a len cs cap hc h0 hl ha hg => simp [own] at hb; omega
/-- the slice and the heap behind an append -/
def appV (h : H) (es : Nat) (len : Nat) : AV := .sl h.next 0 len es none
def appT (h : H) (e : TypeId) (v : AV) (cs : List AV) : H := ⟨h.next + 1, (match v with
  | .sl a _ _ _ none => h.t.set a .dead
  | _ => h.t).set h.next (rowL cs e)⟩
theorem appA_own {es bytes n : Nat} {e : TypeId} {h : H} {v : AV} {len : Nat} {cs src : List AV} (o : Own es e h v len cs) (hes : 0 < es) (hn : 0 < n) (hb : (2 * (len + n) + 192) * bytes ≤ 281474976710656) (hle : len + n ≤ 281474976710656) :
    appA h e es bytes v n src = some (appV h es (len + n), appT h e v (cs ++ src)) := by
  have b1 : Nat.ble ((2 * (len + n) + 192) * bytes) 281474976710656 = true := Nat.ble_eq_true_of_le hb
  have b2 : Nat.ble (len + n) 281474976710656 = true := Nat.ble_eq_true_of_le hle
  obtain ⟨m, rfl⟩ : ∃ m, n = m + 1 := ⟨n - 1, by omega⟩
  cases o with
  | nil =>
    rw [Nat.zero_add] at b2 ⊢
    have b3 : Nat.ble ((m + 1) * bytes) 281474976710656 = true := Nat.ble_eq_true_of_le (Nat.le_trans (Nat.mul_le_mul_right _ (by omega)) hb)
    unfold appA
    simp only [appNew, Nat.zero_add, b3, b2, Bool.and_self, cond_true, List.nil_append]
    rfl
  | sl a len cs cap hc h0 hl ha hg =>
    unfold appA
    have c1 : Nat.beq es es = true := by simp
    have c2 : Nat.beq e e = true := by simp
    have c3 : Nat.ble (0 + (len + (m + 1)) * es) cs.length = false := by
      rw [ble_eq, decide_eq_false_iff_not, hl, Nat.add_mul]
      have : 0 < (m + 1) * es := Nat.mul_pos (Nat.succ_pos _) hes
      omega
    have c4 : getList (putList 0 cs T.e) 0 (len * es) = some cs := by
      rw [getList_row, if_pos (.inl (by omega))]
      simp [← hl]
    rcases hc with rfl | rfl
    · simp only [c1, cond_true, hg, c2, c3, Bool.false_and, cond_false, c4, appNew, b1, b2, Bool.and_self]
      rfl
    · have c5 : Nat.ble (len + (m + 1)) len = false := by rw [ble_eq, decide_eq_false_iff_not]; omega
      simp only [c1, cond_true, hg, c2, c5, cond_false, c4, appNew, b1, b2, Bool.and_self]
      rfl
/-- an append to nothing -/
theorem appA_nil {es bytes n : Nat} {e : TypeId} {h : H} {src : List AV} (hn : 0 < n) (hb : n * bytes ≤ 281474976710656) (hle : n ≤ 281474976710656) :
    appA h e es bytes .nils n src = some (appV h es n, appT h e .nils src) := by
  obtain ⟨m, rfl⟩ : ∃ m, n = m + 1 := ⟨n - 1, by omega⟩
  have b1 : Nat.ble ((m + 1) * bytes) 281474976710656 = true := Nat.ble_eq_true_of_le hb
  have b2 : Nat.ble (m + 1) 281474976710656 = true := Nat.ble_eq_true_of_le hle
  unfold appA
  simp only [appNew, Nat.zero_add, b1, b2, Bool.and_self, cond_true, List.nil_append]
  rfl
theorem own_app {es n : Nat} {e : TypeId} {h : H} {v : AV} {len : Nat} {cs src : List AV} (o : Own es e h v len cs) (hn : 0 < n) (hs : src.length = n * es) : Own es e (appT h e v (cs ++ src)) (appV h es (len + n)) (len + n) (cs ++ src) := by
  have hl := o.length
  refine .sl _ _ _ _ (.inl rfl) (by omega) (by rw [List.length_append, hs, hl, Nat.add_mul]) (Nat.lt_succ_self _) ?_
  show (T.set _ h.next _).get h.next = _
  rw [T.get_set, if_pos rfl]
theorem Own.one {es : Nat} {e : TypeId} {h : H} {v : AV} {len : Nat} {cs : List AV} (o : Own es e h v len cs) : oneA v = true := by
  cases o <;> rfl
theorem Own.lenA {es : Nat} {e : TypeId} {h : H} {v : AV} {len : Nat} {cs : List AV} (o : Own es e h v len cs) : lenA v = some (.int .i64 (len : Int)) := by
  cases o <;> rfl
theorem opt_some {α : Type} {o : Option α} {x : α} {K : α → Prop} (e : o = some x) (k : K x) : @optI α o ⟨K⟩ := by rw [e]; exact k
theorem opt_by {o : Option (AV × H)} {K : AV × H → Prop} {S : AV → H → Prop} (ho : ∃ v h', o = some (v, h') ∧ S v h') (hk : ∀ v h', S v h' → K (v, h')) : @optI _ o ⟨K⟩ := by
  obtain ⟨v, h', e, s⟩ := ho
  rw [e]
  exact hk v h' s
theorem app_next (h : H) (e : TypeId) (v : AV) (cs : List AV) : (appT h e v cs).next = h.next + 1 := rfl
theorem own_appV (h : H) (es len : Nat) : own (appV h es len) = some h.next := rfl
theorem app_get {h : H} {e : TypeId} {v : AV} {cs : List AV} {b : Nat} (hb : b < h.next) (ho : own v ≠ some b) : (appT h e v cs).t.get b = h.t.get b := by
  unfold appT
  simp only [T.get_set, if_neg (Nat.ne_of_lt hb)]
  split
  · rw [T.get_set, if_neg]
    rintro rfl
    exact ho rfl
  · rfl

/-! ### Weaker continuations, loops -/
theorem optW_mono {α : Type} {o : Option α} {K K' : α → Prop} (hk : ∀ x, K x → K' x) (h : @optI α o ⟨K⟩) : @optI α o ⟨K'⟩ := by
  cases o with
  | none => exact h
  | some x => exact hk x h
theorem selW_mono {b : Bool} {A A' B B' : Prop} (ha : A → A') (hb : B → B') (h : @selI b ⟨A⟩ ⟨B⟩) : @selI b ⟨A'⟩ ⟨B'⟩ := by
  cases b with
  | true => exact ha h
  | false => exact hb h
theorem WS_mono {P : Program} {call : CallE} : ∀ {l : List SQ} {K K' : T AV → H → Prop} {tm : T AV} {h : H}, (∀ tm h, K tm h → K' tm h) → WS P call l K tm h → WS P call l K' tm h
  | [], K, K', tm, h, hk, hw => hk _ _ hw
  | q :: l, K, K', tm, h, hk, hw => optW_mono (fun b => selW_mono (optW_mono fun r => WS_mono hk) (WS_mono hk)) hw
theorem phW_mono {P : Program} {tm0 : T AV} {ph : Nat} : ∀ {l : List DQ} {K K' : T Rec → H → Prop} {F : T Rec} {h : H}, (∀ F h, K F h → K' F h) → phW P tm0 ph l K F h → phW P tm0 ph l K' F h
  | [], K, K', F, h, hk, hw => hk _ _ hw
  | q :: l, K, K', F, h, hk, hw => optW_mono (fun r => phW_mono hk) hw
theorem drW_mono {P : Program} {call : CallE} {tm0 : T AV} : ∀ {l : List (List DQ × Option DQ)} {ph : Nat} {K K' : T Rec → List H → Prop} {F : T Rec} {h : H}, (∀ F hs, K F hs → K' F hs) → drW P call tm0 ph l K F h → drW P call tm0 ph l K' F h
  | [], ph, K, K', F, h, hk, hw => hw
  | (qs, none) :: l, ph, K, K', F, h, hk, hw => phW_mono (fun F h => hk F [h]) hw
  | (qs, some e) :: l, ph, K, K', F, h, hk, hw => phW_mono (fun F1 h1 => optW_mono fun r hh => ⟨hh.1, drW_mono (fun F hs => hk F (h1 :: hs)) hh.2⟩) hw
theorem WDr_mono {P : Program} {call : CallE} {d : DR} {K K' : T AV → H → Prop} {tm : T AV} {h : H} (hk : ∀ tm h, K tm h → K' tm h) (hw : WDr P call d K tm h) : WDr P call d K' tm h :=
  drW_mono (fun F hs hh => ⟨hh.1, optW_mono (fun h' => hk _ _) hh.2⟩) hw
theorem thenW_mono {W : Cont → T AV → H → Prop} {Q Q' : Cont} (hW : ∀ tm h, W Q tm h → W Q' tm h) (hq : ∀ ex tm h, Q ex tm h → Q' ex tm h) : ∀ ex tm h, thenW W Q ex tm h → thenW W Q' ex tm h := by
  intro ex tm h hh
  cases ex with
  | normal => exact hW _ _ hh
  | exit j => exact hq _ _ _ hh
  | goto l => exact hq _ _ _ hh
  | ret => exact hq _ _ _ hh
theorem inW_mono {id : Nat} {Q Q' : Cont} (hq : ∀ ex tm h, Q ex tm h → Q' ex tm h) : ∀ ex tm h, inW id Q ex tm h → inW id Q' ex tm h := by
  intro ex tm h hh
  cases ex with
  | normal => exact hq _ _ _ hh
  | exit j =>
    simp only [inW] at hh ⊢
    by_cases e : j = id
    · rw [if_pos e] at hh ⊢; exact hq _ _ _ hh
    · rw [if_neg e] at hh ⊢; exact hq _ _ _ hh
  | goto l => exact hq _ _ _ hh
  | ret => exact hq _ _ _ hh
theorem loopW_mono {W : Cont → T AV → H → Prop} (hW : ∀ Q Q' tm h, (∀ ex tm h, Q ex tm h → Q' ex tm h) → W Q tm h → W Q' tm h) : ∀ (n m : Nat), n ≤ m → ∀ Q Q' tm h, (∀ ex tm h, Q ex tm h → Q' ex tm h) → loopW W n Q tm h → loopW W m Q' tm h
  | 0, _, _, _, _, _, _, _, hl => hl.elim
  | n + 1, 0, hle, _, _, _, _, _, _ => by omega
  | n + 1, m + 1, hle, Q, Q', tm, h, hq, hl => hW _ _ _ _ (thenW_mono' (fun tm h => loopW_mono hW n m (by omega) Q Q' tm h hq) hq) hl
where
  thenW_mono' {W W' : Cont → T AV → H → Prop} {Q Q' : Cont} (hW : ∀ tm h, W Q tm h → W' Q' tm h) (hq : ∀ ex tm h, Q ex tm h → Q' ex tm h) : ∀ ex tm h, thenW W Q ex tm h → thenW W' Q' ex tm h := by
    intro ex tm h hh
    cases ex with
    | normal => exact hW _ _ hh
    | exit j => exact hq _ _ _ hh
    | goto l => exact hq _ _ _ hh
    | ret => exact hq _ _ _ hh
theorem WC_mono {P : Program} {call : CallE} : ∀ (c : CC) {Q Q' : Cont} {tm : T AV} {h : H}, (∀ ex tm h, Q ex tm h → Q' ex tm h) → WC P call c Q tm h → WC P call c Q' tm h := by
  intro c
  induction c with
  | skip => intro Q Q' tm h hq hw; exact hq _ _ _ hw
  | ops l => intro Q Q' tm h hq hw; exact WS_mono (fun tm h => hq .normal tm h) hw
  | drw d => intro Q Q' tm h hq hw; exact WDr_mono (fun tm h => hq .normal tm h) hw
  | seq a b iha ihb => intro Q Q' tm h hq hw; exact iha (thenW_mono (fun tm h => ihb hq) hq) hw
  | cond c a b iha ihb => intro Q Q' tm h hq hw; exact optW_mono (fun t => selW_mono (iha hq) (ihb hq)) hw
  | block id a ih => intro Q Q' tm h hq hw; exact ih (inW_mono hq) hw
  | loop a ih =>
    intro Q Q' tm h hq hw
    obtain ⟨n, hn⟩ := hw
    exact ⟨n, loopW_mono (W := WC P call a) (fun Q Q' tm h hq hw => ih hq hw) n n (Nat.le_refl _) Q Q' tm h hq hn⟩
  | exit id => intro Q Q' tm h hq hw; exact hq _ _ _ hw
  | ret => intro Q Q' tm h hq hw; exact hq _ _ _ hw
  | stuck => intro Q Q' tm h hq hw; exact hw.elim
/-- how a loop in a block ends: one more round, out, or return -/
def loopQ (id : Nat) (N R S : T AV → H → Prop) : Cont := fun ex tm h => match ex with
  | .normal => N tm h
  | .exit j => j = id ∧ R tm h
  | .goto _ => False
  | .ret => S tm h
@[go_sem] theorem rLoopN (id : Nat) (N R S : T AV → H → Prop) (tm : T AV) (h : H) : loopQ id N R S .normal tm h = N tm h := by unfold loopQ; rfl
@[go_sem] theorem rLoopE (id j : Nat) (N R S : T AV → H → Prop) (tm : T AV) (h : H) : loopQ id N R S (.exit j) tm h = (j = id ∧ R tm h) := by unfold loopQ; rfl
@[go_sem] theorem rLoopR (id : Nat) (N R S : T AV → H → Prop) (tm : T AV) (h : H) : loopQ id N R S .ret tm h = S tm h := by unfold loopQ; rfl
theorem loop_block {P : Program} {call : CallE} {c : CC} {id : Nat} (I : Nat → T AV → H → Prop) (R S : T AV → H → Prop) {Q : Cont}
    (hstep : ∀ k tm h, I k tm h → WC P call c (loopQ id (fun tm h => ∃ j, j < k ∧ I j tm h) R S) tm h) (hR : ∀ tm h, R tm h → Q .normal tm h) (hS : ∀ tm h, S tm h → Q .ret tm h) :
    ∀ k tm h, I k tm h → WC P call (.block id (.loop c)) Q tm h := by
  intro k tm h hI
  have main : ∀ k tm h, I k tm h → loopW (WC P call c) (k + 1) (inW id Q) tm h := by
    intro k
    induction k using Nat.strongRecOn with
    | _ k ih =>
      intro tm h hI
      refine WC_mono c (fun ex tm' h' hh => ?_) (hstep k tm h hI)
      cases ex with
      | normal =>
        obtain ⟨j, hj, hIj⟩ := hh
        exact loopW_mono (W := WC P call c) (fun Q Q' tm h hq hw => WC_mono c hq hw) (j + 1) k hj _ _ _ _ (fun _ _ _ x => x) (ih j hj tm' h' hIj)
      | exit j =>
        obtain ⟨rfl, hr⟩ := hh
        show inW j Q (.exit j) tm' h'
        rw [inW, if_pos rfl]
        exact hR _ _ hr
      | goto l => exact hh.elim
      | ret => exact hS _ _ hh
  exact ⟨k + 1, main k tm h hI⟩
theorem loop_in {P : Program} {call : CallE} {c : CC} {id : Nat} (I : Nat → T AV → H → Prop) (R S : T AV → H → Prop) {Q : Cont}
    (hstep : ∀ k tm h, I k tm h → WC P call c (loopQ id (fun tm h => ∃ j, j < k ∧ I j tm h) R S) tm h) (hR : ∀ tm h, R tm h → Q .normal tm h) (hS : ∀ tm h, S tm h → Q .ret tm h) :
    ∀ k tm h, I k tm h → WC P call (.loop c) (inW id Q) tm h := fun k tm h hI => loop_block I R S hstep hR hS k tm h hI
theorem unroll {P : Program} {call : CallE} {a : CC} {Q : Cont} {tm : T AV} {h : H} (n : Nat) (hw : loopW (WC P call a) n Q tm h) : WC P call (.loop a) Q tm h := ⟨n, hw⟩
@[go_sem] theorem rLoopS (W : Cont → T AV → H → Prop) (n : Nat) (Q : Cont) (tm : T AV) (h : H) : loopW W (n + 1) Q tm h = W (thenW (loopW W n) Q) tm h := by rw [loopW]
/-- a part of the code, and what is known behind it -/
theorem seq_by {P : Program} {call : CallE} {a b : CC} (R : T AV → H → Prop) {Q : Cont} {tm : T AV} {h : H} (ha : WC P call a (loopQ 1000000 R (fun _ _ => False) (fun _ _ => False)) tm h) (hb : ∀ tm h, R tm h → WC P call b Q tm h) : WC P call (.seq a b) Q tm h := by
  refine WC_mono a (fun ex tm' h' hh => ?_) ha
  cases ex with
  | normal => exact hb _ _ hh
  | exit j => exact hh.2.elim
  | goto l => exact hh.elim
  | ret => exact hh.elim
end
end Go.Proofs.YtldmhpdjlgoenaaGreatDoor.Eo

namespace Go.Proofs.YtldmhpdjlgoenaaGreatDoor.Eo
noncomputable section

theorem optI_two {α : Type} {o : Option α} {K1 K2 : α → Prop} (h1 : @optI α o ⟨K1⟩) (h2 : @optI α o ⟨K2⟩) : ∃ x, o = some x ∧ K1 x ∧ K2 x := by
  cases o with
  | none => exact h1.elim
  | some x => exact ⟨x, rfl, h1, h2⟩
theorem WS_two {P : Program} {call : CallE} : ∀ {l : List SQ} {K1 K2 : T AV → H → Prop} {tm : T AV} {h : H}, WS P call l K1 tm h → WS P call l K2 tm h → ∃ tm' h', K1 tm' h' ∧ K2 tm' h' ∧ ∀ K, K tm' h' → WS P call l K tm h
  | [], K1, K2, tm, h, h1, h2 => ⟨tm, h, h1, h2, fun K k => k⟩
  | q :: l, K1, K2, tm, h, h1, h2 => by
    obtain ⟨b, e, g1, g2⟩ := optI_two h1 h2
    cases b with
    | true =>
      obtain ⟨r, e', k1, k2⟩ := optI_two g1 g2
      obtain ⟨tm', h', a1, a2, a3⟩ := WS_two k1 k2
      exact ⟨tm', h', a1, a2, fun K k => optW_of e (optW_of e' (a3 K k))⟩
    | false =>
      obtain ⟨tm', h', a1, a2, a3⟩ := WS_two g1 g2
      exact ⟨tm', h', a1, a2, fun K k => optW_of e (a3 K k)⟩
theorem phW_two {P : Program} {tm0 : T AV} {ph : Nat} : ∀ {l : List DQ} {K1 K2 : T Rec → H → Prop} {F : T Rec} {h : H}, phW P tm0 ph l K1 F h → phW P tm0 ph l K2 F h → ∃ F' h', K1 F' h' ∧ K2 F' h' ∧ ∀ K, K F' h' → phW P tm0 ph l K F h
  | [], K1, K2, F, h, h1, h2 => ⟨F, h, h1, h2, fun K k => k⟩
  | q :: l, K1, K2, F, h, h1, h2 => by
    obtain ⟨r, e, g1, g2⟩ := optI_two h1 h2
    obtain ⟨F', h', a1, a2, a3⟩ := phW_two g1 g2
    exact ⟨F', h', a1, a2, fun K k => optW_of e (a3 K k)⟩
theorem drW_two {P : Program} {call : CallE} {tm0 : T AV} : ∀ {l : List (List DQ × Option DQ)} {ph : Nat} {K1 K2 : T Rec → List H → Prop} {F : T Rec} {h : H}, drW P call tm0 ph l K1 F h → drW P call tm0 ph l K2 F h → ∃ F' hs, K1 F' hs ∧ K2 F' hs ∧ ∀ K, K F' hs → drW P call tm0 ph l K F h
  | [], ph, K1, K2, F, h, h1, _ => h1.elim
  | (qs, none) :: l, ph, K1, K2, F, h, h1, h2 => by
    obtain ⟨F', h', a1, a2, a3⟩ := phW_two h1 h2
    exact ⟨F', [h'], a1, a2, fun K k => a3 (fun F h => K F [h]) k⟩
  | (qs, some e) :: l, ph, K1, K2, F, h, h1, h2 => by
    obtain ⟨F1, h1', a1, a2, a3⟩ := phW_two h1 h2
    obtain ⟨r, er, ⟨l1, g1⟩, ⟨l2, g2⟩⟩ := optI_two a1 a2
    obtain ⟨F', hs, b1, b2, b3⟩ := drW_two g1 g2
    exact ⟨F', h1' :: hs, b1, b2, fun K k => a3 (fun F1 h1 => @optI _ (fGo P call tm0 F1 h1 e) ⟨fun r => h1.next ≤ r.2.next ∧ drW P call tm0 (ph + 1) l (fun F' hs => K F' (h1 :: hs)) (F1.set e.i (.eff r.1)) r.2⟩) (optW_of er ⟨l1, b3 (fun F' hs => K F' (h1' :: hs)) k⟩)⟩
theorem WDr_two {P : Program} {call : CallE} {d : DR} {K1 K2 : T AV → H → Prop} {tm : T AV} {h : H} (h1 : WDr P call d K1 tm h) (h2 : WDr P call d K2 tm h) : ∃ tm' h', K1 tm' h' ∧ K2 tm' h' ∧ ∀ K, K tm' h' → WDr P call d K tm h := by
  obtain ⟨F, hs, ⟨c1, g1⟩, ⟨c2, g2⟩, a3⟩ := drW_two h1 h2
  obtain ⟨h', e, k1, k2⟩ := optI_two g1 g2
  exact ⟨_, h', k1, k2, fun K k => a3 (fun F hs => chkW P tm F hs d.chk ∧ @optI _ (lastH hs) ⟨fun h' => K (finW F d.fin tm) h'⟩) ⟨c1, optW_of e k⟩⟩
/-- two things that are so behind the code are so at once -/
def Two (W : Cont → T AV → H → Prop) : Prop := ∀ Q1 Q2 tm h, W Q1 tm h → W Q2 tm h → ∃ ex tm' h', Q1 ex tm' h' ∧ Q2 ex tm' h' ∧ ∀ Q, Q ex tm' h' → W Q tm h
theorem loopW_two {W : Cont → T AV → H → Prop} (hW : Two W) : ∀ n, Two (loopW W n)
  | 0, Q1, Q2, tm, h, h1, _ => h1.elim
  | n + 1, Q1, Q2, tm, h, h1, h2 => by
    obtain ⟨ex, tm', h', a1, a2, a3⟩ := hW _ _ _ _ h1 h2
    cases ex with
    | normal =>
      obtain ⟨ex, tm2, h2, b1, b2, b3⟩ := loopW_two hW n Q1 Q2 tm' h' a1 a2
      exact ⟨ex, tm2, h2, b1, b2, fun Q k => a3 (thenW (loopW W n) Q) (b3 Q k)⟩
    | exit j => exact ⟨.exit j, tm', h', a1, a2, fun Q k => a3 (thenW (loopW W n) Q) k⟩
    | goto l => exact ⟨.goto l, tm', h', a1, a2, fun Q k => a3 (thenW (loopW W n) Q) k⟩
    | ret => exact ⟨.ret, tm', h', a1, a2, fun Q k => a3 (thenW (loopW W n) Q) k⟩
theorem WC_two {P : Program} {call : CallE} : ∀ c : CC, Two (WC P call c) := by
  intro c
  induction c with
  | skip => intro Q1 Q2 tm h h1 h2; exact ⟨.normal, tm, h, h1, h2, fun Q k => k⟩
  | ops l =>
    intro Q1 Q2 tm h h1 h2
    obtain ⟨tm', h', a1, a2, a3⟩ := WS_two h1 h2
    exact ⟨.normal, tm', h', a1, a2, fun Q k => a3 (fun tm h => Q .normal tm h) k⟩
  | drw d =>
    intro Q1 Q2 tm h h1 h2
    obtain ⟨tm', h', a1, a2, a3⟩ := WDr_two h1 h2
    exact ⟨.normal, tm', h', a1, a2, fun Q k => a3 (fun tm h => Q .normal tm h) k⟩
  | seq a b iha ihb =>
    intro Q1 Q2 tm h h1 h2
    obtain ⟨ex, tm', h', a1, a2, a3⟩ := iha _ _ _ _ h1 h2
    cases ex with
    | normal =>
      obtain ⟨ex, tm2, h2, b1, b2, b3⟩ := ihb _ _ _ _ a1 a2
      exact ⟨ex, tm2, h2, b1, b2, fun Q k => a3 (thenW (WC P call b) Q) (b3 Q k)⟩
    | exit j => exact ⟨.exit j, tm', h', a1, a2, fun Q k => a3 (thenW (WC P call b) Q) k⟩
    | goto l => exact ⟨.goto l, tm', h', a1, a2, fun Q k => a3 (thenW (WC P call b) Q) k⟩
    | ret => exact ⟨.ret, tm', h', a1, a2, fun Q k => a3 (thenW (WC P call b) Q) k⟩
  | cond c a b iha ihb =>
    intro Q1 Q2 tm h h1 h2
    obtain ⟨t, e, g1, g2⟩ := optI_two h1 h2
    cases t with
    | true =>
      obtain ⟨ex, tm', h', a1, a2, a3⟩ := iha _ _ _ _ g1 g2
      exact ⟨ex, tm', h', a1, a2, fun Q k => optW_of e (a3 Q k)⟩
    | false =>
      obtain ⟨ex, tm', h', a1, a2, a3⟩ := ihb _ _ _ _ g1 g2
      exact ⟨ex, tm', h', a1, a2, fun Q k => optW_of e (a3 Q k)⟩
  | block id a ih =>
    intro Q1 Q2 tm h h1 h2
    obtain ⟨ex, tm', h', a1, a2, a3⟩ := ih _ _ _ _ h1 h2
    cases ex with
    | normal => exact ⟨.normal, tm', h', a1, a2, fun Q k => a3 (inW id Q) k⟩
    | exit j =>
      by_cases hj : j = id
      · simp only [inW, if_pos hj] at a1 a2
        exact ⟨.normal, tm', h', a1, a2, fun Q k => a3 (inW id Q) (by simp only [inW, if_pos hj]; exact k)⟩
      · simp only [inW, if_neg hj] at a1 a2
        exact ⟨.exit j, tm', h', a1, a2, fun Q k => a3 (inW id Q) (by simp only [inW, if_neg hj]; exact k)⟩
    | goto l => exact ⟨.goto l, tm', h', a1, a2, fun Q k => a3 (inW id Q) k⟩
    | ret => exact ⟨.ret, tm', h', a1, a2, fun Q k => a3 (inW id Q) k⟩
  | loop a ih =>
    intro Q1 Q2 tm h h1 h2
    obtain ⟨n, h1⟩ := h1
    obtain ⟨m, h2⟩ := h2
    have hm : ∀ Q Q' tm h, (∀ ex tm h, Q ex tm h → Q' ex tm h) → WC P call a Q tm h → WC P call a Q' tm h := fun Q Q' tm h hq hw => WC_mono a hq hw
    obtain ⟨ex, tm', h', a1, a2, a3⟩ := loopW_two ih (max n m) Q1 Q2 tm h (loopW_mono hm n _ (Nat.le_max_left _ _) _ _ _ _ (fun _ _ _ x => x) h1) (loopW_mono hm m _ (Nat.le_max_right _ _) _ _ _ _ (fun _ _ _ x => x) h2)
    exact ⟨ex, tm', h', a1, a2, fun Q k => ⟨_, a3 Q k⟩⟩
  | exit id => intro Q1 Q2 tm h h1 h2; exact ⟨.exit id, tm, h, h1, h2, fun Q k => k⟩
  | ret => intro Q1 Q2 tm h h1 h2; exact ⟨.ret, tm, h, h1, h2, fun Q k => k⟩
  | stuck => intro Q1 Q2 tm h h1 h2; exact h1.elim
theorem WF_two {P : Program} {call : CallE} {cf : CF} {args : List AV} {h : H} {Q1 Q2 : AV → H → Prop} (h1 : WF P call cf args h Q1) (h2 : WF P call cf args h Q2) : ∃ v h', Q1 v h' ∧ Q2 v h' ∧ ∀ Q, Q v h' → WF P call cf args h Q := by
  obtain ⟨ex, tm', h', a1, a2, a3⟩ := WC_two _ _ _ _ _ h1 h2
  have key : ∀ {tm' h'}, (@optI _ (resW tm' h'.t.get cf.rs) ⟨fun vs => Q1 (packA vs) h'⟩) → (@optI _ (resW tm' h'.t.get cf.rs) ⟨fun vs => Q2 (packA vs) h'⟩) → ∃ v, Q1 v h' ∧ Q2 v h' ∧ ∀ Q : AV → H → Prop, Q v h' → @optI _ (resW tm' h'.t.get cf.rs) ⟨fun vs => Q (packA vs) h'⟩ := by
    intro tm' h' g1 g2
    obtain ⟨vs, e, k1, k2⟩ := optI_two g1 g2
    exact ⟨_, k1, k2, fun Q k => optW_of e k⟩
  cases ex with
  | normal =>
    obtain ⟨v, b1, b2, b3⟩ := key a1 a2
    exact ⟨v, h', b1, b2, fun Q k => a3 (endW cf.rs Q) (b3 Q k)⟩
  | exit j => exact a1.elim
  | goto l => exact a1.elim
  | ret =>
    obtain ⟨v, b1, b2, b3⟩ := key a1 a2
    exact ⟨v, h', b1, b2, fun Q k => a3 (endW cf.rs Q) (b3 Q k)⟩

/-! ### Calls to a depth -/
def Ran (P : Program) (call : CallE) (f : FuncId) (args : List AV) (h : H) (r : AV × H) : Prop :=
  hasE P f = true ∧ Nat.ble ykey f = false ∧ ∃ cf, cCF P f args.length = some cf ∧ WF P call cf args h fun v h' => v = r.1 ∧ h' = r.2
def callW (P : Program) : Nat → CallE
  | 0 => fun _ _ _ => none
  | n + 1 => fun f args h =>
    haveI := Classical.propDecidable (∃ r : AV × H, Ran P (callW P n) f args h r)
    if hh : ∃ r : AV × H, Ran P (callW P n) f args h r then some hh.choose else none
theorem callW_some {P : Program} {n : Nat} {f : FuncId} {args : List AV} {h : H} {r : AV × H} (e : callW P (n + 1) f args h = some r) : Ran P (callW P n) f args h r := by
  unfold callW at e
  split at e
  · rename_i hh
    have := hh.choose_spec
    simp only [Option.some.injEq] at e
    rw [e] at this
    exact this
  · simp at e
theorem callW_plain {P : Program} : ∀ n, Plain (callW P n)
  | 0, f, args, h, _ => rfl
  | n + 1, f, args, h, hb => by
    cases e : callW P (n + 1) f args h with
    | none => rfl
    | some r =>
      have := (callW_some e).2.1
      rw [this] at hb; simp at hb
theorem callW_ok {P : Program} (hm : P.follows .mixedOrders = true) : ∀ n, CallOK true P (callW P n)
  | 0 => by intro f args h v h' e; simp [callW] at e
  | n + 1 => by
    intro f args h v h' e ρ w ARGS ha hr hf
    obtain ⟨h1, h2, cf, h3, h4⟩ := callW_some e
    obtain ⟨v', h'', k, e1, e2⟩ := WF_sound hm (callW_ok hm n) (callW_plain n) h1 h2 h3 rfl h4
    simp only at e1 e2
    subst e1; subst e2
    obtain ⟨fn, c, g1, g2, g3⟩ := hasE_of h1
    exact .inl ⟨h2, .inr ⟨f, ARGS.toArray, run_callFunc_enter g1 g2 g3 _ _, k.ret ρ w ARGS ha hr hf⟩⟩
/-- what a function's code does, its call does -/
theorem callW_of {P : Program} {n : Nat} {f : FuncId} {args : List AV} {h : H} {cf : CF} {Post : AV → H → Prop} (h1 : hasE P f = true) (h2 : Nat.ble ykey f = false) (h3 : cCF P f args.length = some cf) (hw : WF P (callW P n) cf args h Post) :
    ∃ v h', callW P (n + 1) f args h = some (v, h') ∧ Post v h' := by
  obtain ⟨v, h', p, _, k⟩ := WF_two hw hw
  have hx : ∃ r : AV × H, Ran P (callW P n) f args h r := ⟨(v, h'), h1, h2, cf, h3, k _ ⟨rfl, rfl⟩⟩
  have hc : ∃ r, callW P (n + 1) f args h = some r := by
    unfold callW
    split
    · exact ⟨_, rfl⟩
    · rename_i hn; exact absurd hx hn
  obtain ⟨r, hc⟩ := hc
  obtain ⟨_, _, cf', h3', hw'⟩ := callW_some hc
  rw [h3] at h3'; simp at h3'; subst h3'
  obtain ⟨v2, h2', ⟨e1, e2⟩, p2, _⟩ := WF_two hw' hw
  exact ⟨r.1, r.2, hc, by rw [← e1, ← e2]; exact p2⟩
theorem callW_has {P : Program} {n : Nat} {f : FuncId} {K : List AV → H → Option (AV × H)} {cf : CF} {k : Nat} (h1 : hasE P f = true) (h2 : Nat.ble ykey f = false) (h3 : cCF P f k = some cf) (hk : ∀ args h v h', K args h = some (v, h') → args.length = k)
    (hw : ∀ args h v h', K args h = some (v, h') → WF P (callW P n) cf args h fun v' h'' => v' = v ∧ h'' = h') : Has (callW P (n + 1)) f K := by
  intro args h v h' e
  obtain ⟨v', h'', e1, rfl, rfl⟩ := callW_of h1 h2 (by rw [hk _ _ _ _ e]; exact h3) (hw _ _ _ _ e)
  exact e1
end
end Go.Proofs.YtldmhpdjlgoenaaGreatDoor.Eo

namespace Go.Proofs.YtldmhpdjlgoenaaGreatDoor.Eo
noncomputable section
open Go.RowKit in
theorem way_below {ρ : Rho} {h : H} {w w' : World} (hr : HR ρ h.t.get w) (hf : Fresh ρ h.next) (b : Below w.heap.size w w') : Way ρ h w ρ h w' := by
  refine ⟨⟨⟨fun a o l h1 h2 h3 => ?_, hr.inj⟩, Le.refl _, ⟨b.os, b.tape, b.output⟩, b.size, fun r hr _ => b.block r hr, fun a o l h1 h2 h3 _ => ⟨a, o, l, h1, h2, h3, rfl⟩⟩, hf, Kp.refl _ _⟩
  obtain ⟨h4, h5⟩ := hr.obj a o l h1 h2 h3
  exact ⟨Nat.lt_of_lt_of_le h4 b.size, OIn.congr (b.block _ h4) h5⟩
open Go.RowKit in
/-- a call that is known: it ends with this value and makes at most new blocks -/
theorem known_out {P : Program} {f : FuncId} {ρ : Rho} {h : H} {w : World} {v : AV} {V : Value} {ARGS : Array Value} (hr : HR ρ h.t.get w) (hf : Fresh ρ h.next) (hv : VR ρ v V) (h1 : hasE P f = true) (hc : Calls P f ARGS w fun e w' => e = .returned V ∧ Below w.heap.size w w') : POut P (callFunc f ARGS) ρ h w v h := by
  obtain ⟨fn, c, g1, g2, g3⟩ := hasE_of h1
  exact .inr ⟨f, ARGS, run_callFunc_enter g1 g2 g3 _ _, hc.mono fun e w' hh => ⟨ρ, V, hh.1, hv, way_below hr hf hh.2⟩⟩
def callX (P : Program) (base : CallE) : Nat → CallE
  | 0 => base
  | n + 1 => fun f args h => match base f args h with
    | some r => some r
    | none =>
      haveI := Classical.propDecidable (∃ r : AV × H, Ran P (callX P base n) f args h r)
      if hh : ∃ r : AV × H, Ran P (callX P base n) f args h r then some hh.choose else none
theorem callX_base {P : Program} {base : CallE} {f : FuncId} {args : List AV} {h : H} {r : AV × H} (e : base f args h = some r) : ∀ n, callX P base n f args h = some r
  | 0 => e
  | n + 1 => by unfold callX; rw [e]
theorem callX_some {P : Program} {base : CallE} {n : Nat} {f : FuncId} {args : List AV} {h : H} {r : AV × H} (e : callX P base (n + 1) f args h = some r) : base f args h = some r ∨ Ran P (callX P base n) f args h r := by
  unfold callX at e
  split at e
  · rename_i r' hb
    exact .inl (hb.trans e)
  · split at e
    · rename_i hh
      have := hh.choose_spec
      simp only [Option.some.injEq] at e
      rw [e] at this
      exact .inr this
    · simp at e
theorem callX_plain {P : Program} {base : CallE} (hp : Plain base) : ∀ n, Plain (callX P base n)
  | 0 => hp
  | n + 1 => fun f args h hb => by
    cases e : callX P base (n + 1) f args h with
    | none => rfl
    | some r =>
      rcases callX_some e with h1 | h1
      · rw [hp f args h hb] at h1; cases h1
      · have := h1.2.1
        rw [this] at hb; simp at hb
theorem callX_ok {P : Program} {base : CallE} (hm : P.follows .mixedOrders = true) (hp : Plain base) (hb : CallOK true P base) : ∀ n, CallOK true P (callX P base n)
  | 0 => hb
  | n + 1 => by
    intro f args h v h' e ρ w ARGS ha hr hf
    rcases callX_some e with h0 | ⟨h1, h2, cf, h3, h4⟩
    · exact hb f args h v h' h0 ρ w ARGS ha hr hf
    obtain ⟨v', h'', k, e1, e2⟩ := WF_sound hm (callX_ok hm hp hb n) (callX_plain hp n) h1 h2 h3 rfl h4
    simp only at e1 e2
    subst e1; subst e2
    obtain ⟨fn, c, g1, g2, g3⟩ := hasE_of h1
    exact .inl ⟨h2, .inr ⟨f, ARGS.toArray, run_callFunc_enter g1 g2 g3 _ _, k.ret ρ w ARGS ha hr hf⟩⟩
theorem callX_of {P : Program} {base : CallE} {n : Nat} {f : FuncId} {args : List AV} {h : H} {cf : CF} {Post : AV → H → Prop} (h0 : base f args h = none) (h1 : hasE P f = true) (h2 : Nat.ble ykey f = false) (h3 : cCF P f args.length = some cf) (hw : WF P (callX P base n) cf args h Post) :
    ∃ v h', callX P base (n + 1) f args h = some (v, h') ∧ Post v h' := by
  obtain ⟨v, h', p, _, k⟩ := WF_two hw hw
  have hx : ∃ r : AV × H, Ran P (callX P base n) f args h r := ⟨(v, h'), h1, h2, cf, h3, k _ ⟨rfl, rfl⟩⟩
  have hc : ∃ r, callX P base (n + 1) f args h = some r := by
    unfold callX
    rw [h0]
    simp only []
    split
    · exact ⟨_, rfl⟩
    · rename_i hn; exact absurd hx hn
  obtain ⟨r, hc⟩ := hc
  rcases callX_some hc with h5 | ⟨_, _, cf', h3', hw'⟩
  · rw [h0] at h5; cases h5
  rw [h3] at h3'; simp at h3'; subst h3'
  obtain ⟨v2, h2', ⟨e1, e2⟩, p2, _⟩ := WF_two hw' hw
  exact ⟨r.1, r.2, hc, by rw [← e1, ← e2]; exact p2⟩
end
end Go.Proofs.YtldmhpdjlgoenaaGreatDoor.Eo

namespace Go.Proofs.YtldmhpdjlgoenaaGreatDoor.Eo
noncomputable section
/-- which functions without a body are atomic operations -/
def AtomX (P : Program) (X : FuncId → Option ATag) : Prop :=
  ∀ f tag, X f = some tag → Nat.ble ykey f = false ∧ ∃ fn, P.funcs[f]? = some fn ∧ (fn.name == "runtime.NumGoroutine") = false ∧ fn.body.isNone = true ∧ Extern.findNext fn = none ∧ Extern.find fn = some tag.fn
def atomE (X : FuncId → Option ATag) : CallE := fun f args h => match X f with
  | some tag => evA h tag args
  | none => none
theorem atom_ok {P : Program} {X : FuncId → Option ATag} (hX : AtomX P X) : CallOK true P (atomE X) := by
  intro f args h v h' he ρ w ARGS ha hr hf
  unfold atomE at he
  split at he
  · rename_i tag ht
    obtain ⟨hk, fn', h1, h2, h3, h4, h5⟩ := hX f tag ht
    obtain ⟨ρ', w', V, k1, k2, k3⟩ := evA_sound (P := P) hr hf he ha
    refine .inl ⟨hk, .inl ⟨ρ', w', V, .inl ?_, k2, k3⟩⟩
    rw [run_callFunc_extern h1 h2 h3 h4 h5, k1]
    rfl
  · cases he
theorem atom_plain {P : Program} {X : FuncId → Option ATag} (hX : AtomX P X) : Plain (atomE X) := fun f args h hb => by
  unfold atomE
  cases hx : X f with
  | none => rfl
  | some tag =>
    have := (hX f tag hx).1
    rw [this] at hb
    cases hb
/-- two bases in one -/
def orE (a b : CallE) : CallE := fun f args h => match a f args h with
  | some r => some r
  | none => b f args h
theorem or_ok {P : Program} {a b : CallE} (ha : CallOK true P a) (hb : CallOK true P b) : CallOK true P (orE a b) := by
  intro f args h v h' he
  unfold orE at he
  split at he
  · rename_i r hr
    simp only [Option.some.injEq] at he
    subst he
    exact ha f args h v h' hr
  · exact hb f args h v h' he
theorem or_plain {a b : CallE} (ha : Plain a) (hb : Plain b) : Plain (orE a b) := fun f args h hk => by
  unfold orE
  rw [ha f args h hk]
  exact hb f args h hk
end
end Go.Proofs.YtldmhpdjlgoenaaGreatDoor.Eo
