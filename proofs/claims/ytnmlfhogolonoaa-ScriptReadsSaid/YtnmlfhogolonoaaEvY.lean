/-
  An evaluator of Go code over relative heaps, part Y: regions whose operations are not wholly ordered, and that their evaluation is sound.
-/
import Derived.Test.YtnmlfhogolonoaaEvX
set_option linter.unusedVariables false
set_option linter.unusedSimpArgs false
namespace Go.Proofs.Ytnmlfhogolonoaa.Ev
noncomputable section

/-! ### Equality of values, for the kernel -/
def eqAV : Nat → AV → AV → Bool
  | 0, _, _ => false
  | n + 1, x, y => match x, y with
    | .bool a, .bool b => match a, b with | true, true => true | false, false => true | _, _ => false
    | .int k a, .int k' b => decide (k = k') && iEq a b
    | .str a, .str b => strEq a b
    | .ptr a o, .ptr b p => Nat.beq a b && Nat.beq o p
    | .nilp, .nilp => true
    | .sl a o l e c, .sl a' o' l' e' c' => Nat.beq a a' && Nat.beq o o' && Nat.beq l l' && Nat.beq e e' && (match c, c' with | none, none => true | some x, some y => Nat.beq x y | _, _ => false)
    | .nils, .nils => true
    | .map a, .map b => Nat.beq a b
    | .nilm, .nilm => true
    | .nilf, .nilf => true
    | .fn f [] [], .fn g [] [] => decide (f = g)
    | .fn f a c, .fn g b d => decide (f = g) && eqAVs (eqAV n) a b && eqAVs (eqAV n) c d
    | .ifc t v, .ifc u w => Nat.beq t u && eqAV n v w
    | .nili, .nili => true
    | .agg l, .agg m => eqAVs (eqAV n) l m
    | .tup l, .tup m => eqAVs (eqAV n) l m
    | _, _ => false
where eqAVs (f : AV → AV → Bool) : List AV → List AV → Bool
  | [], [] => true
  | x :: l, y :: m => f x y && eqAVs f l m
  | _, _ => false
theorem eqAVs_sound {f : AV → AV → Bool} (hf : ∀ x y, f x y = true → x = y) : ∀ {l m : List AV}, eqAV.eqAVs f l m = true → l = m
  | [], [], _ => rfl
  | x :: l, y :: m, h => by
    simp only [eqAV.eqAVs, Bool.and_eq_true] at h
    rw [hf _ _ h.1, eqAVs_sound hf h.2]
  | [], _ :: _, h => by simp [eqAV.eqAVs] at h
  | _ :: _, [], h => by simp [eqAV.eqAVs] at h
theorem eqAV_sound : ∀ (n : Nat) (x y : AV), eqAV n x y = true → x = y
  | 0, x, y, h => by simp [eqAV] at h
  | n + 1, x, y, h => by
    have ih := eqAV_sound n
    unfold eqAV at h
    split at h
    all_goals first
      | rfl
      | (simp at h; done)
      | skip
    · split at h <;> first | rfl | simp at h
    · simp only [Bool.and_eq_true, decide_eq_true_eq, iEq_eq, beq_iff_eq] at h
      rw [h.1, h.2]
    · rw [strEq_eq] at h
      rw [(Go.MapKept.bytes_beq _ _).1 h]
    · simp only [Bool.and_eq_true] at h
      rw [Nat.eq_of_beq_eq_true h.1, Nat.eq_of_beq_eq_true h.2]
    · simp only [Bool.and_eq_true] at h
      obtain ⟨⟨⟨⟨h1, h2⟩, h3⟩, h4⟩, h5⟩ := h
      rw [Nat.eq_of_beq_eq_true h1, Nat.eq_of_beq_eq_true h2, Nat.eq_of_beq_eq_true h3, Nat.eq_of_beq_eq_true h4]
      split at h5
      · rfl
      · rw [Nat.eq_of_beq_eq_true h5]
      · simp at h5
    · rw [Nat.eq_of_beq_eq_true h]
    · rw [of_decide_eq_true h]
    · simp only [Bool.and_eq_true, decide_eq_true_eq] at h
      rw [h.1.1, eqAVs_sound ih h.1.2, eqAVs_sound ih h.2]
    · simp only [Bool.and_eq_true] at h
      rw [Nat.eq_of_beq_eq_true h.1, ih _ _ h.2]
    · rw [eqAVs_sound ih h]
    · rw [eqAVs_sound ih h]

/-! ### The whole region -/
/-- may operation i run when the first k effects have been? -/
def mayAt (m : T Nat) (i : Nat) : List Nat → Nat → Bool
  | [], _ => true
  | e :: es, 0 => !bef m i e && mayAt m i es 0
  | e :: es, k + 1 => !bef m e i && mayAt m i es k
def readAt (P : Program) (tm : T AV) (h : H) (o : Oper) : Option AV := match cOp P o with
  | some (.r x) => evR tm h.t.get x
  | some (.l x) => evL tm h.t.get x
  | some (.s x) => evS tm h.t.get x
  | _ => none
def chkRead (P : Program) (m : T Nat) (es : List Nat) (tm : T AV) (o : Oper) (i : Nat) (v : AV) : Nat → List H → Bool
  | _, [] => true
  | k, h :: hs => (match mayAt m i es k with
    | true => match readAt P tm h o with
      | some u => eqAV 20 u v
      | none => false
    | false => true) && chkRead P m es tm o i v (k + 1) hs
def chkOps (P : Program) (ops : List Oper) (m : T Nat) (N : Nat) (es : List Nat) (tm0 : T AV) (F : T Rec) (hs : List H) : List Oper → Nat → Bool
  | [], _ => true
  | o :: l, i => (match F.get i with
    | some (.read v) => match localTm ops m N tm0 F i o with
      | some tm => chkRead P m es tm o i v 0 hs
      | none => false
    | some (.alloc _ _ _ 0) => true
    | some (.alloc _ _ _ (q + 1)) => match es[q]? with
      | some e => bef m i e
      | none => false
    | some (.eff _) => es.contains i
    | some (.quiet _) => true
    | none => false) && chkOps P ops m N es tm0 F hs l (i + 1)
def finalTm (F : T Rec) : List Oper → Nat → T AV → T AV
  | [], _, tm => tm
  | o :: l, i, tm => match o.dst, F.get i with
    | some d, some r => finalTm F l (i + 1) (tm.set d r.val)
    | _, _ => finalTm F l (i + 1) tm
def lastH : List H → Option H
  | [] => none
  | [h] => some h
  | _ :: hs => lastH hs
def drawE (P : Program) : DrawE := fun call ops N tm h =>
  match edgesOk ops 0 && chainOk (preds ops) (effsFrom P ops 0) with
  | true => match drE P call ops (preds ops) N tm 0 (phasesOf (preds ops) (effsFrom P ops 0) ops.length 0 (effsFrom P ops 0)) .e h with
    | some (F, hs) => match chkOps P ops (preds ops) N (effsFrom P ops 0) tm F hs ops 0 with
      | true => match lastH hs with
        | some h' => some (finalTm F ops 0 tm, h')
        | none => none
      | false => none
    | none => none
  | false => none
end
end Go.Proofs.Ytnmlfhogolonoaa.Ev
