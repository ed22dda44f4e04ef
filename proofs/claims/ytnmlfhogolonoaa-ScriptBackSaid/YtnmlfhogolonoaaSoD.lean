/-
  A script is read: package script.
-/
import Derived.Test.YtnmlfhogolonoaaSoC
set_option linter.unusedVariables false
set_option linter.unusedSimpArgs false
namespace Go.Proofs.Ytnmlfhogolonoaa
open Go.Proofs.Ytnmlfhogolonoaa.Eo
open Nat renaming reduceAdd → zA, reduceMul → zM, reduceLT → zL, reduceEqDiff → zE, reduceLeDiff → zD
open Int renaming reduceAdd → yA, reduceLE → yE, reduceLT → yL, reduceEq → yQ, reduceToNat → yT
noncomputable section
/-! 18: leapfrog/script.Read -/
@[go_sem] def c18_s0 : List SQ := [⟨some 2, none, .n (.new 31 [.int .i64 0, .int .i64 0, .int .u8 0, .int .i64 0, .int .u8 0, .int .i64 0, .nils, .int .i64 0, .int .i64 0, .int .i64 0, .int .i64 0, .int .i64 0, .int .i64 0, .int .i64 0, .int .i64 0, .int .i64 0, .nils, .nils])⟩]
@[go_sem] def c18_s1 : List SQ := [⟨some 7, none, .p (.mv (.t 0))⟩, ⟨some 8, none, .p (.build [.str ⟨#[]⟩] [(0, 1, (.t 7))])⟩, ⟨some 9, none, .n (.box 71 (.t 8))⟩, ⟨some 3, none, .p (.mv (.t 9))⟩]
@[go_sem] def c18_s2 : List SQ := [⟨some 10, none, .p (.mv (.t 3))⟩, ⟨some 11, none, .p (.mkfn (.func 40) [(.t 10)] [])⟩, ⟨some 12, none, .cv (.c (.fn (.func 39) [] [])) [(.t 11)]⟩, ⟨some 13, none, .p (.build [.int .i64 0, .int .i64 0, .int .u8 0, .int .i64 0, .int .u8 0, .int .i64 0, .nils, .int .i64 0, .int .i64 0, .int .i64 0, .int .i64 0, .int .i64 0, .int .i64 0, .int .i64 0, .int .i64 0, .int .i64 0, .nils, .nils] [(0, 16, (.t 12))])⟩, ⟨some 4, none, .n (.new 31 [.int .i64 0, .int .i64 0, .int .u8 0, .int .i64 0, .int .u8 0, .int .i64 0, .nils, .int .i64 0, .int .i64 0, .int .i64 0, .int .i64 0, .int .i64 0, .int .i64 0, .int .i64 0, .int .i64 0, .int .i64 0, .nils, .nils])⟩, ⟨none, none, .e (.st 18 (.t 4) (.t 13))⟩]
@[go_sem] def c18_s3 : List SQ := [⟨some 14, none, .p (.fadr 0 (.t 4))⟩, ⟨some 15, none, .p (.fadr 0 (.t 14))⟩, ⟨some 16, none, .r (.ld none (.t 15))⟩, ⟨some 17, none, .p (.mv (.c (.int .i64 0)))⟩]
@[go_sem] def c18_s4 : List SQ := [⟨some 18, none, .p (.bin .lss 3 false false (.t 17) (.t 16))⟩]
@[go_sem] def c18_s5 : List SQ := [⟨some 19, none, .p (.build [.int .u8 0, .int .u64 0, .int .u64 0, .int .u64 0, .int .u64 0, .int .u64 0, .int .u64 0] [(0, 1, (.c (.int .u8 1)))])⟩, ⟨some 20, none, .n (.buildS 45 7 1 [.int .u8 0, .int .u64 0, .int .u64 0, .int .u64 0, .int .u64 0, .int .u64 0, .int .u64 0] [(0, 7, (.t 19))])⟩, ⟨some 5, none, .p (.mv (.t 20))⟩]
@[go_sem] def c18_s6 : List SQ := [⟨some 21, none, .p (.mv (.t 3))⟩, ⟨some 22, none, .cv (.c (.fn (.func 40) [] [])) [(.t 21), (.c (.int .i64 16))]⟩, ⟨some 23, none, .p (.mv (.c (.int .i64 0)))⟩]
@[go_sem] def c18_s7 : List SQ := [⟨some 24, none, .p (.bin .lss 3 false false (.t 23) (.t 22))⟩]
@[go_sem] def c18_s8 : List SQ := [⟨some 25, none, .p (.mv (.t 5))⟩, ⟨some 26, none, .p (.mv (.t 3))⟩, ⟨some 27, none, .p (.mkfn (.func 40) [(.t 26)] [])⟩, ⟨some 28, none, .cv (.c (.fn (.func 41) [] [])) [(.t 27)]⟩, ⟨some 29, none, .n (.buildS 45 7 1 [.int .u8 0, .int .u64 0, .int .u64 0, .int .u64 0, .int .u64 0, .int .u64 0, .int .u64 0] [(0, 7, (.t 28))])⟩, ⟨some 30, none, .e (.app 45 7 56 (.t 25) (.t 29))⟩, ⟨some 5, none, .p (.mv (.t 30))⟩]
@[go_sem] def c18_s9 : List SQ := [⟨some 31, none, .p (.bin .add 3 false true (.t 23) (.c (.int .i64 1)))⟩, ⟨some 23, none, .p (.mv (.t 31))⟩]
def c18_l10 : CC := (.seq (.ops c18_s7) (.seq (.cond (.t 24) .skip (.exit 2)) (.seq (.block 3 (.ops c18_s8)) (.ops c18_s9))))
@[go_sem] def c18_s11 : List SQ := [⟨some 32, none, .p (.fadr 16 (.t 4))⟩, ⟨some 33, none, .r (.ld none (.t 32))⟩, ⟨some 34, none, .p (.mv (.t 5))⟩, ⟨some 35, none, .n (.buildS 42 1 1 [.nils] [(0, 1, (.t 34))])⟩, ⟨some 36, none, .e (.app 42 1 24 (.t 33) (.t 35))⟩, ⟨some 37, none, .p (.fadr 16 (.t 4))⟩, ⟨none, none, .e (.st 1 (.t 37) (.t 36))⟩]
@[go_sem] def c18_s12 : List SQ := [⟨some 38, none, .p (.bin .add 3 false true (.t 17) (.c (.int .i64 1)))⟩, ⟨some 17, none, .p (.mv (.t 38))⟩]
def c18_l13 : CC := (.seq (.ops c18_s4) (.seq (.cond (.t 18) .skip (.exit 0)) (.seq (.block 1 (.seq (.ops c18_s5) (.seq (.seq (.ops c18_s6) (.block 2 (.loop c18_l10))) (.ops c18_s11)))) (.ops c18_s12))))
@[go_sem] def c18_s14 : List SQ := [⟨some 6, none, .p (.mv (.c (.int .i64 0)))⟩]
@[go_sem] def c18_s15 : List SQ := [⟨some 39, none, .p (.mv (.t 6))⟩, ⟨some 40, none, .p (.mv (.t 3))⟩, ⟨some 41, none, .p (.nilck (.t 40))⟩, ⟨some 42, none, .p (.fadr 0 (.t 41))⟩, ⟨some 43, none, .r (.ld none (.t 42))⟩, ⟨some 44, none, .p (.lens (.t 43))⟩, ⟨some 45, none, .p (.bin .lss 3 false false (.t 39) (.t 44))⟩, ⟨some 46, none, .p (.mv (.t 45))⟩, ⟨some 47, some (46, true), .p (.mv (.t 6))⟩, ⟨some 48, some (46, true), .p (.bin .lss 3 false true (.t 47) (.c (.int .i64 65536)))⟩, ⟨some 49, none, .p (.pick (.t 46) (.t 48) (.c (.bool false)))⟩]
@[go_sem] def c18_p16 : List (List DQ × Option DQ) := [([⟨0, [(4, none)], none, .p (.fadr 17 (.t 4))⟩, ⟨1, [(52, (some 0))], none, .r (.ld none (.t 52))⟩, ⟨2, [(3, none)], none, .p (.mv (.t 3))⟩, ⟨3, [(54, (some 2))], none, .p (.nilck (.t 54))⟩, ⟨4, [(55, (some 3))], none, .p (.fadr 0 (.t 55))⟩, ⟨5, [(56, (some 4))], none, .r (.ld none (.t 56))⟩, ⟨6, [(6, none)], none, .p (.mv (.t 6))⟩, ⟨7, [(57, (some 5)), (58, (some 6))], none, .s (.idx (.t 57) (.t 58))⟩, ⟨8, [(59, (some 7))], none, .p (.conv .i64 (.t 59))⟩, ⟨9, [(4, none)], none, .p (.fadr 0 (.t 4))⟩, ⟨10, [(61, (some 9))], none, .p (.fadr 0 (.t 61))⟩, ⟨11, [(62, (some 10))], none, .r (.ld none (.t 62))⟩, ⟨12, [(60, (some 8)), (63, (some 11))], none, .p (.bin .rem 3 false false (.t 60) (.t 63))⟩, ⟨13, [(64, (some 12))], none, .n (.buildS 3 1 1 [.int .i64 0] [(0, 1, (.t 64))])⟩], (some ⟨14, [(53, (some 1)), (65, (some 13))], none, .e (.app 3 1 8 (.t 53) (.t 65))⟩)), ([⟨15, [(4, none)], none, .p (.fadr 17 (.t 4))⟩], (some ⟨16, [(67, (some 15)), (66, (some 14))], none, .e (.st 1 (.t 67) (.t 66))⟩)), ([], none)]
@[go_sem] def c18_s17 : List SQ := [⟨some 50, none, .p (.mv (.t 6))⟩, ⟨some 51, none, .p (.bin .add 3 false true (.t 50) (.c (.int .i64 1)))⟩, ⟨some 6, none, .p (.mv (.t 51))⟩]
def c18_l18 : CC := (.seq (.seq (.ops c18_s15) (.cond (.t 49) .skip (.exit 4))) (.seq (.block 5 (.drw ⟨c18_p16, [(0, 52), (1, 53), (2, 54), (3, 55), (4, 56), (5, 57), (6, 58), (7, 59), (8, 60), (9, 61), (10, 62), (11, 63), (12, 64), (13, 65), (14, 66), (15, 67)], [(⟨1, [(52, (some 0))], none, .r (.ld none (.t 52))⟩, [0]), (⟨5, [(56, (some 4))], none, .r (.ld none (.t 56))⟩, [0]), (⟨7, [(57, (some 5)), (58, (some 6))], none, .s (.idx (.t 57) (.t 58))⟩, [0]), (⟨11, [(62, (some 10))], none, .r (.ld none (.t 62))⟩, [0])]⟩)) (.ops c18_s17)))
@[go_sem] def c18_s19 : List SQ := [⟨some 68, none, .r (.ld (some 18) (.t 4))⟩, ⟨none, none, .e (.st 18 (.t 2) (.t 68))⟩]
@[go_sem] def c18 : CF := ⟨1, (.seq (.ops c18_s0) (.seq (.ops c18_s1) (.seq (.ops c18_s2) (.seq (.seq (.ops c18_s3) (.block 0 (.loop c18_l13))) (.seq (.seq (.ops c18_s14) (.block 4 (.loop c18_l18))) (.seq (.ops c18_s19) .ret)))))), [(.cell 2 (some 18))]⟩
theorem c18_eq : cCF Try.prog 18 1 = some c18 := by kernel_rfl

def opOpen : OpT := (1, 0, 0, 0, 0, 0, 0)
def opsS : Nat → ByteArray → List OpT × ByteArray
  | 0, r => ([], r)
  | n + 1, r => ((opS r).1 :: (opsS n (opS r).2).1, (opsS n (opS r).2).2)
def progsS : Nat → ByteArray → List (List OpT) × ByteArray
  | 0, r => ([], r)
  | n + 1, r => ((opOpen :: (opsS (vl r 16).toNat (nx r)).1) :: (progsS n (opsS (vl r 16).toNat (nx r)).2).1, (progsS n (opsS (vl r 16).toNat (nx r)).2).2)
def pickAt (r : ByteArray) (th : Int) (i : Nat) : Int := if h : i < r.size then ((r[i]'h).toNat : Int).tmod th else 0
def picksS (th : Int) (r : ByteArray) : List Int := (List.range (min r.size 65536)).map (pickAt r th)
@[go_sem] theorem opC_len (x : OpT) : (opC x).length = 7 := by unfold opC; rfl
@[go_sem] theorem opC_all (x : OpT) : (opC x).all oneA = true := by unfold opC; rfl
@[go_sem] theorem opC_lay (x : OpT) (a b c d e f g : AV) : layAt 0 (opC x) [a, b, c, d, e, f, g] = opC x := by unfold opC; rfl
@[go_sem] theorem opC_take (x : OpT) : (opC x).take 7 = opC x := by unfold opC; rfl
section
variable (c : CfgT) (cv a b x : AV)
@[go_sem] theorem cfg_len : (cfgC c cv ++ [a, b]).length = 18 := by unfold cfgC; rfl
@[go_sem] theorem cfg_len16 : (cfgC c cv).length = 16 := by unfold cfgC; rfl
@[go_sem] theorem cfg_get0 : (cfgC c cv ++ [a, b])[0]? = some (.int .i64 c.threads) := by unfold cfgC; rfl
@[go_sem] theorem cfg_get16 : (cfgC c cv ++ [a, b])[16]? = some a := by unfold cfgC; rfl
@[go_sem] theorem cfg_get17 : (cfgC c cv ++ [a, b])[17]? = some b := by unfold cfgC; rfl
@[go_sem] theorem cfg_set16 : (cfgC c cv ++ [a, b]).set 16 x = cfgC c cv ++ [x, b] := by unfold cfgC; rfl
@[go_sem] theorem cfg_set17 : (cfgC c cv ++ [a, b]).set 17 x = cfgC c cv ++ [a, x] := by unfold cfgC; rfl
@[go_sem] theorem cfg_take : (cfgC c cv ++ [a, b]).take 18 = cfgC c cv ++ [a, b] := by unfold cfgC; rfl
@[go_sem] theorem cfg_all (h : oneA cv = true) : (cfgC c cv).all oneA = true := by unfold cfgC; simp only [go_sem, ↓reduceIte, ↓reduceDIte, zA, zM, zL, zE, zD, yA, yE, yL, yQ, yT, reduceCtorEq, h]
@[go_sem] theorem cfg_all2 (h : oneA cv = true) (ha : oneA a = true) (hb : oneA b = true) : (cfgC c cv ++ [a, b]).all oneA = true := by unfold cfgC; simp only [go_sem, ↓reduceIte, ↓reduceDIte, zA, zM, zL, zE, zD, yA, yE, yL, yQ, yT, reduceCtorEq, h, ha, hb]
@[go_sem] theorem cfg_lay (y0 y1 y2 y3 y4 y5 y6 y7 y8 y9 y10 y11 y12 y13 y14 y15 : AV) : layAt 0 (cfgC c cv) [y0, y1, y2, y3, y4, y5, y6, y7, y8, y9, y10, y11, y12, y13, y14, y15, a, b] = cfgC c cv ++ [a, b] := by unfold cfgC; rfl
end
/-- a row of programs -/
structure PR (lo hi : Nat) (h : H) (pv : AV) (progs : List (List OpT)) : Prop where
  mk ::
  ex : ∃ vs, Own 1 42 h pv progs.length vs ∧ (∀ a, own pv = some a → lo ≤ a ∧ a < hi) ∧ ∀ (i : Nat) v p, vs[i]? = some v → progs[i]? = some p → Own 7 45 h v p.length (p.flatMap opC) ∧ ∀ a, own v = some a → lo ≤ a ∧ a < hi ∧ own pv ≠ some a
theorem PR.keep {lo hi : Nat} {h h' : H} {pv : AV} {progs : List (List OpT)} (p : PR lo hi h pv progs) (hn : h.next ≤ h'.next) (hk : ∀ b, lo ≤ b → b < hi → h'.t.get b = h.t.get b) : PR lo hi h' pv progs := by
  obtain ⟨vs, p1, p2, p3⟩ := p.ex
  exact ⟨vs, p1.keep hn (fun b hb => hk b (p2 b hb).1 (p2 b hb).2), p2, fun i v q hv hq => ⟨(p3 i v q hv hq).1.keep hn (fun b hb => hk b ((p3 i v q hv hq).2 b hb).1 ((p3 i v q hv hq).2 b hb).2.1), (p3 i v q hv hq).2⟩⟩
/-- while a script is read: R the result, B the reader, X the script -/
structure RdS (bt : TypeId) (n0 : Nat) (g0 : Nat → Option AO) (R B X lo hi : Nat) (c : CfgT) (cv pv kv : AV) (r : ByteArray) (progs : List (List OpT)) (h : H) : Prop where
  ord : n0 ≤ R ∧ n0 ≤ B ∧ n0 ≤ X ∧ R < lo ∧ B < lo ∧ X < lo ∧ lo ≤ hi ∧ hi ≤ h.next ∧ R ≠ B ∧ R ≠ X ∧ B ≠ X
  hB : h.t.get B = some (rowL [.str r] bt)
  hR : ∃ zs, zs.length = 18 ∧ h.t.get R = some (.row (putList 0 zs T.e) 18 31)
  hX : h.t.get X = some (rowL (cfgC c cv ++ [pv, kv]) 31)
  oc : Own 1 43 h cv c.cuts.length (c.cuts.map (AV.int .u64))
  cvlo : ∀ a, own cv = some a → a < lo ∧ n0 ≤ a ∧ a ≠ R ∧ a ≠ B ∧ a ≠ X
  pr : PR lo hi h pv progs
  old : ∀ b, b < n0 → h.t.get b = g0 b
section
variable {bt : TypeId} {n0 : Nat} {g0 : Nat → Option AO} {R B X lo hi : Nat} {c : CfgT} {cv pv kv : AV} {r : ByteArray} {progs : List (List OpT)} {h h' : H}
theorem RdS.mono (s : RdS bt n0 g0 R B X lo hi c cv pv kv r progs h) (hn : h.next ≤ h'.next) (hk : ∀ b, b < hi → h'.t.get b = h.t.get b) : RdS bt n0 g0 R B X lo hi c cv pv kv r progs h' := by
  obtain ⟨o1, o2, o3, o4, o5, o6, o7, o8, o9⟩ := s.ord
  refine ⟨⟨o1, o2, o3, o4, o5, o6, o7, by omega, o9⟩, (hk B (by omega)).trans s.hB, ?_, (hk X (by omega)).trans s.hX, s.oc.keep hn (fun b hb => hk b (by have := s.cvlo b hb; omega)), s.cvlo, s.pr.keep hn (fun b hb hb' => hk b (by omega)), fun b hb => (hk b (by omega)).trans (s.old b hb)⟩
  obtain ⟨zs, z1, z2⟩ := s.hR
  exact ⟨zs, z1, (hk R (by omega)).trans z2⟩
theorem RdS.box {r' : ByteArray} (s : RdS bt n0 g0 R B X lo hi c cv pv kv r progs h) (hn : h.next ≤ h'.next) (hk : ∀ b, b < hi → b ≠ B → h'.t.get b = h.t.get b) (hb : h'.t.get B = some (rowL [.str r'] bt)) : RdS bt n0 g0 R B X lo hi c cv pv kv r' progs h' := by
  obtain ⟨o1, o2, o3, o4, o5, o6, o7, o8, o9, o10, o11⟩ := s.ord
  refine ⟨⟨o1, o2, o3, o4, o5, o6, o7, by omega, o9, o10, o11⟩, hb, ?_, (hk X (by omega) (Ne.symm o11)).trans s.hX, s.oc.keep hn (fun b hb => hk b (by have := s.cvlo b hb; omega) (s.cvlo b hb).2.2.2.1), s.cvlo, s.pr.keep hn (fun b hb hb' => hk b (by omega) (by omega)), fun b hb => (hk b (by omega) (by omega)).trans (s.old b hb)⟩
  obtain ⟨zs, z1, z2⟩ := s.hR
  exact ⟨zs, z1, (hk R (by omega) o9).trans z2⟩
theorem RdS.hi' {hi' : Nat} (s : RdS bt n0 g0 R B X lo hi c cv pv kv r progs h) (h1 : hi ≤ hi') (h2 : hi' ≤ h.next) : RdS bt n0 g0 R B X lo hi' c cv pv kv r progs h := by
  obtain ⟨o1, o2, o3, o4, o5, o6, o7, o8, o9⟩ := s.ord
  obtain ⟨vs, p1, p2, p3⟩ := s.pr.ex
  exact ⟨⟨o1, o2, o3, o4, o5, o6, by omega, h2, o9⟩, s.hB, s.hR, s.hX, s.oc, s.cvlo, ⟨vs, p1, fun a ha => ⟨(p2 a ha).1, by have := (p2 a ha).2; omega⟩, fun i v p hv hp => ⟨(p3 i v p hv hp).1, fun a ha => ⟨((p3 i v p hv hp).2 a ha).1, by have := ((p3 i v p hv hp).2 a ha).2.1; omega, ((p3 i v p hv hp).2 a ha).2.2⟩⟩⟩, s.old⟩
theorem RdS.push {p : AV} {q : List OpT} (s : RdS bt n0 g0 R B X lo hi c cv pv .nils r progs h) (op : Own 7 45 h p q.length (q.flatMap opC)) (hp : ∀ a, own p = some a → hi ≤ a) :
    ∃ vs, Own 1 42 h pv progs.length vs ∧ RdS bt n0 g0 R B X lo (h.next + 1) c cv (appV h 1 (progs.length + 1)) .nils r (progs ++ [q]) ⟨h.next + 1, (appT h 42 pv (vs ++ [p])).t.set X (rowL (cfgC c cv ++ [appV h 1 (progs.length + 1), .nils]) 31)⟩ := by
  obtain ⟨o1, o2, o3, o4, o5, o6, o7, o8, o9, o10, o11⟩ := s.ord
  obtain ⟨vs, p1, p2, p3⟩ := s.pr.ex
  have ge : ∀ b, b < h.next → b ≠ X → own pv ≠ some b → ((appT h 42 pv (vs ++ [p])).t.set X (rowL (cfgC c cv ++ [appV h 1 (progs.length + 1), .nils]) 31)).get b = h.t.get b := fun b hb hx ho => by
    rw [T.get_set, if_neg hx, app_get hb ho]
  have lo' : ∀ b, b < lo → own pv ≠ some b := fun b hb hh => by have := (p2 b hh).1; omega
  have oa := own_app (src := [p]) p1 (n := 1) (by decide) rfl
  refine ⟨vs, p1, ⟨o1, o2, o3, o4, o5, o6, by omega, Nat.le_refl _, o9, o10, o11⟩, (ge B (by omega) o11 (lo' B o5)).trans s.hB, ?_, by rw [T.get_set, if_pos rfl], s.oc.keep (Nat.le_succ _) (fun b hb => ge b (by have := s.cvlo b hb; omega) (s.cvlo b hb).2.2.2.2 (lo' b (s.cvlo b hb).1)), s.cvlo, ⟨vs ++ [p], ?_, fun a ha => ?_, fun i v w hv hw => ?_⟩, fun b hb => (ge b (by omega) (by omega) (lo' b (by omega))).trans (s.old b hb)⟩
  · obtain ⟨zs, z1, z2⟩ := s.hR
    exact ⟨zs, z1, (ge R (by omega) o10 (lo' R o4)).trans z2⟩
  · rw [List.length_append]
    refine oa.keep (Nat.le_refl _) fun b hb => ?_
    rw [own_appV] at hb
    simp only [Option.some.injEq] at hb
    show (T.set _ X _).get b = _
    rw [T.get_set, if_neg (by omega)]
  · rw [own_appV] at ha
    simp only [Option.some.injEq] at ha
    omega
  · rw [own_appV]
    have hvl : vs.length = progs.length := by have := p1.length; omega
    rcases Nat.lt_or_ge i progs.length with hi | hi
    · rw [List.getElem?_append_left (by omega)] at hv hw
      obtain ⟨q1, q2⟩ := p3 i v w hv hw
      exact ⟨q1.keep (Nat.le_succ _) (fun b hb => ge b (by have := (q2 b hb).2.1; omega) (by have := (q2 b hb).1; omega) (q2 b hb).2.2), fun a ha => ⟨(q2 a ha).1, by have := (q2 a ha).2.1; omega, by simp only [ne_eq, Option.some.injEq]; have := (q2 a ha).2.1; omega⟩⟩
    · rw [List.getElem?_append_right (by omega)] at hv hw
      have hi2 : i - vs.length = 0 := by
        rcases Nat.eq_zero_or_pos (i - vs.length) with e | e
        · exact e
        · rw [List.getElem?_eq_none (by simp; omega)] at hv; simp at hv
      have hi3 : i - progs.length = 0 := by omega
      rw [hi2] at hv
      rw [hi3] at hw
      simp at hv hw
      subst hv; subst hw
      have hlt := fun a ha => op.lt (b := a) ha
      exact ⟨op.keep (Nat.le_succ _) (fun b hb => ge b (hlt b hb) (by have := hp b hb; omega) (fun hh => by have := (p2 b hh).2; have := hp b hb; omega)), fun a ha => ⟨by have := hp a ha; omega, by have := hlt a ha; omega, by simp only [ne_eq, Option.some.injEq]; have := hlt a ha; omega⟩⟩
theorem RdS.pick {i : Nat} {cs : List AV} {x : AV} (s : RdS bt n0 g0 R B X lo hi c cv pv kv r progs h) (ok : Own 1 3 h kv i cs) (hkv : ∀ a, own kv = some a → hi ≤ a) :
    RdS bt n0 g0 R B X lo hi c cv pv (appV h 1 (i + 1)) r progs ⟨h.next + 1, (appT h 3 kv (cs ++ [x])).t.set X (rowL (cfgC c cv ++ [pv, appV h 1 (i + 1)]) 31)⟩ ∧
      Own 1 3 ⟨h.next + 1, (appT h 3 kv (cs ++ [x])).t.set X (rowL (cfgC c cv ++ [pv, appV h 1 (i + 1)]) 31)⟩ (appV h 1 (i + 1)) (i + 1) (cs ++ [x]) := by
  obtain ⟨o1, o2, o3, o4, o5, o6, o7, o8, o9, o10, o11⟩ := s.ord
  have ge : ∀ b, b < hi → b ≠ X → ((appT h 3 kv (cs ++ [x])).t.set X (rowL (cfgC c cv ++ [pv, appV h 1 (i + 1)]) 31)).get b = h.t.get b := fun b hb hx => by
    rw [T.get_set, if_neg hx, app_get (by omega) (fun hh => by have := hkv b hh; omega)]
  have oa := own_app (src := [x]) ok (n := 1) (by decide) rfl
  refine ⟨⟨⟨o1, o2, o3, o4, o5, o6, o7, by show hi ≤ h.next + 1; omega, o9, o10, o11⟩, (ge B (by omega) o11).trans s.hB, ?_, by rw [T.get_set, if_pos rfl], s.oc.keep (Nat.le_succ _) (fun b hb => ge b (by have := s.cvlo b hb; omega) (s.cvlo b hb).2.2.2.2), s.cvlo, s.pr.keep (Nat.le_succ _) (fun b hb hb' => ge b hb' (by omega)), fun b hb => (ge b (by omega) (by omega)).trans (s.old b hb)⟩, ?_⟩
  · obtain ⟨zs, z1, z2⟩ := s.hR
    exact ⟨zs, z1, (ge R (by omega) o10).trans z2⟩
  · refine oa.keep (Nat.le_refl _) fun b hb => ?_
    rw [own_appV] at hb
    simp only [Option.some.injEq] at hb
    show (T.set _ X _).get b = _
    rw [T.get_set, if_neg (by omega)]
end
/-- the slots of the outer loop -/
structure TmO (R B X : Nat) (th i : Int) (tm : T AV) : Prop where
  t2 : tm.get 2 = some (.ptr R 0)
  t3 : tm.get 3 = some (.ptr B 0)
  t4 : tm.get 4 = some (.ptr X 0)
  t16 : tm.get 16 = some (.int .i64 th)
  t17 : tm.get 17 = some (.int .i64 i)
def Post18 (s : ByteArray) (h : H) (v : AV) (h' : H) : Prop := ∃ c r progs r' cv pv kv, cfgS s = (c, r) ∧ progsS c.threads.toNat r = (progs, r') ∧ v = .agg (cfgC c cv ++ [pv, kv]) ∧
  Own 1 43 h' cv c.cuts.length (c.cuts.map (AV.int .u64)) ∧ PR h.next h'.next h' pv progs ∧ Own 1 3 h' kv (picksS c.threads r').length ((picksS c.threads r').map (AV.int .i64)) ∧ (∀ b, b < h.next → h'.t.get b = h.t.get b) ∧ h.next ≤ h'.next

/-- the loop over a program's operations -/
def I10 (n0 : Nat) (g0 : Nat → Option AO) (R B X lo hi : Nat) (c : CfgT) (cv pv : AV) (progs : List (List OpT)) (th i : Int) (n : Nat) (r0 : ByteArray) (k : Nat) (tm : T AV) (h : H) : Prop :=
  ∃ (j : Nat) (r : ByteArray) (dn : List OpT) (p : AV), j + k = n ∧ TmO R B X th i tm ∧ tm.get 22 = some (.int .i64 (n : Int)) ∧ tm.get 23 = some (.int .i64 (j : Int)) ∧ tm.get 5 = some p ∧
    RdS 71 n0 g0 R B X lo hi c cv pv .nils r progs h ∧ r.size ≤ 9223372036854775807 ∧ Own 7 45 h p (j + 1) ((opOpen :: dn).flatMap opC) ∧ (∀ a, own p = some a → hi ≤ a) ∧ dn.length = j ∧ opsS n r0 = (dn ++ (opsS k r).1, (opsS k r).2)
/-- behind it -/
def R10 (n0 : Nat) (g0 : Nat → Option AO) (R B X lo hi : Nat) (c : CfgT) (cv pv : AV) (progs : List (List OpT)) (th i : Int) (n : Nat) (r0 : ByteArray) (tm : T AV) (h : H) : Prop :=
  ∃ p, TmO R B X th i tm ∧ tm.get 5 = some p ∧ RdS 71 n0 g0 R B X lo hi c cv pv .nils (opsS n r0).2 progs h ∧ (opsS n r0).2.size ≤ 9223372036854775807 ∧ Own 7 45 h p (n + 1) ((opOpen :: (opsS n r0).1).flatMap opC) ∧ (∀ a, own p = some a → hi ≤ a) ∧ (opsS n r0).1.length = n
theorem opS_size {r : ByteArray} {m : Nat} (h : r.size ≤ m) : (opS r).2.size ≤ m := by
  have s1 := nx_le h
  have s2 := nx_le s1
  have s3 := nx_le s2
  have s4 := nx_le s3
  have s5 := nx_le s4
  obtain ⟨a, b⟩ := vl_bound r (n := 15) (by decide)
  have hx : vl r 15 = 0 ∨ vl r 15 = 1 ∨ vl r 15 = 2 ∨ vl r 15 = 3 ∨ vl r 15 = 4 ∨ vl r 15 = 5 ∨ vl r 15 = 6 ∨ vl r 15 = 7 ∨ vl r 15 = 8 ∨ vl r 15 = 9 ∨ vl r 15 = 10 ∨ vl r 15 = 11 ∨ vl r 15 = 12 ∨ vl r 15 = 13 ∨ vl r 15 = 14 := by omega
  rcases hx with hx | hx | hx | hx | hx | hx | hx | hx | hx | hx | hx | hx | hx | hx | hx <;> (simp [opS, hx]; with_reducible first | exact s1 | exact s2 | exact s3 | exact s4 | exact s5)
theorem step10 (P : Program) {call : CallE} (h41 : ∀ h B t r, h.t.get B = some (rowL [.str r] t) → B < h.next → r.size ≤ 9223372036854775807 → ∃ v h', call 41 [.fn (.func 40) [.ptr B 0] []] h = some (v, h') ∧ Post41 B t r h v h')
    {n0 : Nat} {g0 : Nat → Option AO} {R B X lo hi : Nat} {c : CfgT} {cv pv : AV} {progs : List (List OpT)} {th i : Int} {n : Nat} (hn : n ≤ 16) {r0 : ByteArray} (k : Nat) (tm : T AV) (h : H) (hI : I10 n0 g0 R B X lo hi c cv pv progs th i n r0 k tm h) :
    WC P call c18_l10 (loopQ 2 (fun tm h => ∃ j, j < k ∧ I10 n0 g0 R B X lo hi c cv pv progs th i n r0 j tm h) (R10 n0 g0 R B X lo hi c cv pv progs th i n r0) (fun _ _ => False)) tm h := by
  obtain ⟨j, r, dn, p, hjk, ⟨t2, t3, t4, t16, t17⟩, t22, t23, t5, rd, hr, op, hp, hdl, ho⟩ := hI
  cases k with
  | zero =>
    have e1 : ¬ (j : Int) < (n : Int) := by omega
    simp only [go_sem, ↓reduceIte, ↓reduceDIte, zA, zM, zL, zE, zD, yA, yE, yL, yQ, yT, reduceCtorEq, c18_l10, t22, t23, e1]
    have : j = n := by omega
    subst this
    simp only [opsS, List.append_nil] at ho
    refine ⟨p, ⟨?_, ?_, ?_, ?_, ?_⟩, ?_, by rw [ho]; exact rd, by rw [ho]; exact hr, by rw [ho]; exact op, hp, by rw [ho]; exact hdl⟩ <;> simp only [go_sem, ↓reduceIte, ↓reduceDIte, zA, zM, zL, zE, zD, yA, yE, yL, yQ, yT, reduceCtorEq, t2, t3, t4, t16, t17, t5]
  | succ k =>
    have e1 : (j : Int) < (n : Int) := by omega
    simp only [go_sem, ↓reduceIte, ↓reduceDIte, zA, zM, zL, zE, zD, yA, yE, yL, yQ, yT, reduceCtorEq, c18_l10, t22, t23, t5, t3, e1]
    have hBl : B < h.next := by have := rd.ord; omega
    refine opt_by (h41 _ B 71 r rd.hB hBl hr) fun v h1 p1 => ?_
    obtain ⟨rfl, st⟩ := p1
    simp only [go_sem, ↓reduceIte, ↓reduceDIte, zA, zM, zL, zE, zD, yA, yE, yL, yQ, yT, reduceCtorEq]
    have ord := rd.ord
    have rd1 := rd.box (r' := (opS r).2) st.next (fun b hb hne => st.old b (by omega) hne) st.box
    have hn1 := st.next
    have o1 : Own 7 45 ⟨h1.next + 1, h1.t.set h1.next (.row (putList 0 (opC (opS r).1) T.e) 7 45)⟩ p (j + 1) ((opOpen :: dn).flatMap opC) := op.keep (by show h.next ≤ h1.next + 1; omega) (fun b hb => by
      have := op.lt hb
      have := hp b hb
      have e0 : ¬ b = h1.next := by omega
      simp only [go_sem, ↓reduceIte, ↓reduceDIte, zA, zM, zL, zE, zD, yA, yE, yL, yQ, yT, reduceCtorEq, e0]
      exact st.old b (by omega) (by omega))
    refine opt_some (appA_own o1 (by decide) (by decide) (by omega) (by omega)) ?_
    have f1 : fw .i64 ((j : Int) + 1) = (j : Int) + 1 := fwI (by omega) (by omega)
    have e3 : ((j + 1 : Nat) : Int) = (j : Int) + 1 := rfl
    have rd2 : RdS 71 n0 g0 R B X lo hi c cv pv .nils (opS r).2 progs (appT ⟨h1.next + 1, h1.t.set h1.next (.row (putList 0 (opC (opS r).1) T.e) 7 45)⟩ 45 p ((opOpen :: dn).flatMap opC ++ opC (opS r).1)) := rd1.mono (by rw [app_next]; show h1.next ≤ h1.next + 1 + 1; omega) (fun b hb => by
      rw [app_get (by show b < h1.next + 1; omega) (fun hh => by have := hp b hh; omega)]
      have e0 : ¬ b = h1.next := by omega
      simp only [go_sem, ↓reduceIte, ↓reduceDIte, zA, zM, zL, zE, zD, yA, yE, yL, yQ, yT, reduceCtorEq, e0])
    have op2 := own_app (src := opC (opS r).1) o1 (n := 1) (by decide) rfl
    have hfl : (opOpen :: dn).flatMap opC ++ opC (opS r).1 = (opOpen :: (dn ++ [(opS r).1])).flatMap opC := by simp [List.flatMap_append]
    rw [hfl] at op2 rd2
    have hp2 : ∀ a, own (appV ⟨h1.next + 1, h1.t.set h1.next (.row (putList 0 (opC (opS r).1) T.e) 7 45)⟩ 7 (j + 1 + 1)) = some a → hi ≤ a := by
      intro a ha
      rw [own_appV] at ha
      simp only [Option.some.injEq] at ha
      omega
    rw [hfl]
    generalize appT _ 45 p _ = h2 at rd2 op2 ⊢
    generalize appV _ 7 _ = p2 at hp2 op2 ⊢
    simp only [go_sem, ↓reduceIte, ↓reduceDIte, zA, zM, zL, zE, zD, yA, yE, yL, yQ, yT, reduceCtorEq, t22, t23, f1]
    refine ⟨k, Nat.lt_succ_self k, j + 1, (opS r).2, dn ++ [(opS r).1], p2, by omega, ⟨?_, ?_, ?_, ?_, ?_⟩, ?_, ?_, ?_, rd2, opS_size hr, op2, hp2, by simp [hdl], ?_⟩
    · simp only [go_sem, ↓reduceIte, ↓reduceDIte, zA, zM, zL, zE, zD, yA, yE, yL, yQ, yT, reduceCtorEq, t2]
    · simp only [go_sem, ↓reduceIte, ↓reduceDIte, zA, zM, zL, zE, zD, yA, yE, yL, yQ, yT, reduceCtorEq, t3]
    · simp only [go_sem, ↓reduceIte, ↓reduceDIte, zA, zM, zL, zE, zD, yA, yE, yL, yQ, yT, reduceCtorEq, t4]
    · simp only [go_sem, ↓reduceIte, ↓reduceDIte, zA, zM, zL, zE, zD, yA, yE, yL, yQ, yT, reduceCtorEq, t16]
    · simp only [go_sem, ↓reduceIte, ↓reduceDIte, zA, zM, zL, zE, zD, yA, yE, yL, yQ, yT, reduceCtorEq, t17]
    · simp only [go_sem, ↓reduceIte, ↓reduceDIte, zA, zM, zL, zE, zD, yA, yE, yL, yQ, yT, reduceCtorEq, t22]
    · simp only [go_sem, ↓reduceIte, ↓reduceDIte, zA, zM, zL, zE, zD, yA, yE, yL, yQ, yT, reduceCtorEq, e3]
    · simp only [go_sem, ↓reduceIte, ↓reduceDIte, zA, zM, zL, zE, zD, yA, yE, yL, yQ, yT, reduceCtorEq]
    · rw [ho]; simp [opsS]
/-- the loop over the programs -/
def I13 (n0 : Nat) (g0 : Nat → Option AO) (R B X lo : Nat) (c : CfgT) (cv : AV) (m : Nat) (r0 : ByteArray) (k : Nat) (tm : T AV) (h : H) : Prop :=
  ∃ (i : Nat) (r : ByteArray) (progs : List (List OpT)) (pv : AV), i + k = m ∧ TmO R B X (m : Int) (i : Int) tm ∧ RdS 71 n0 g0 R B X lo h.next c cv pv .nils r progs h ∧ r.size ≤ 9223372036854775807 ∧ progs.length = i ∧ progsS m r0 = (progs ++ (progsS k r).1, (progsS k r).2)
/-- behind it -/
def R13 (n0 : Nat) (g0 : Nat → Option AO) (R B X lo : Nat) (c : CfgT) (cv : AV) (m : Nat) (r0 : ByteArray) (tm : T AV) (h : H) : Prop :=
  ∃ pv, TmO R B X (m : Int) (m : Int) tm ∧ RdS 71 n0 g0 R B X lo h.next c cv pv .nils (progsS m r0).2 (progsS m r0).1 h ∧ (progsS m r0).2.size ≤ 9223372036854775807
theorem step13 (P : Program) {call : CallE} (h40 : Has call 40 takeK) (h41 : ∀ h B t r, h.t.get B = some (rowL [.str r] t) → B < h.next → r.size ≤ 9223372036854775807 → ∃ v h', call 41 [.fn (.func 40) [.ptr B 0] []] h = some (v, h') ∧ Post41 B t r h v h')
    {n0 : Nat} {g0 : Nat → Option AO} {R B X lo : Nat} {c : CfgT} {cv : AV} {m : Nat} (hm : m ≤ 16) {r0 : ByteArray} (k : Nat) (tm : T AV) (h : H) (hI : I13 n0 g0 R B X lo c cv m r0 k tm h) :
    WC P call c18_l13 (loopQ 0 (fun tm h => ∃ j, j < k ∧ I13 n0 g0 R B X lo c cv m r0 j tm h) (R13 n0 g0 R B X lo c cv m r0) (fun _ _ => False)) tm h := by
  have C40 : ∀ args h, (takeK args h).isSome = true → call 40 args h = takeK args h := fun _ _ hs => h40.eq hs
  obtain ⟨i, r, progs, pv, hik, ⟨t2, t3, t4, t16, t17⟩, rd, hr, hpl, ho⟩ := hI
  cases k with
  | zero =>
    have e1 : ¬ (i : Int) < (m : Int) := by omega
    simp only [go_sem, ↓reduceIte, ↓reduceDIte, zA, zM, zL, zE, zD, yA, yE, yL, yQ, yT, reduceCtorEq, c18_l13, t17, t16, e1]
    have : i = m := by omega
    subst this
    simp only [progsS, List.append_nil] at ho
    refine ⟨pv, ⟨?_, ?_, ?_, ?_, ?_⟩, by rw [ho]; exact rd, by rw [ho]; exact hr⟩ <;> simp only [go_sem, ↓reduceIte, ↓reduceDIte, zA, zM, zL, zE, zD, yA, yE, yL, yQ, yT, reduceCtorEq, t2, t3, t4, t16, t17]
  | succ k =>
    have e1 : (i : Int) < (m : Int) := by omega
    obtain ⟨b0, b1⟩ := vl_bound r (n := 16) (by decide)
    obtain ⟨n, hn⟩ : ∃ n : Nat, vl r 16 = n := ⟨(vl r 16).toNat, by omega⟩
    have ord := rd.ord
    have hB := rd.hB
    have n0' : ¬ B = h.next := by omega
    simp only [go_sem, ↓reduceIte, ↓reduceDIte, zA, zM, zL, zE, zD, yA, yE, yL, yQ, yT, reduceCtorEq, c18_l13, t17, t16, t3, t2, e1, C40, takeK, hB, n0', hn, hr, Option.isSome_some, Nat.reduceLT]
    have rd1 : RdS 71 n0 g0 R B X lo h.next c cv pv .nils (nx r) progs ⟨h.next + 1, (h.t.set h.next (.row (putList 0 (opC opOpen) T.e) 7 45)).set B (.row (putList 0 [.str (nx r)] T.e) 1 71)⟩ := rd.box (Nat.le_succ _) (fun b hb hne => by
      have e0 : ¬ b = h.next := by omega
      simp only [go_sem, ↓reduceIte, ↓reduceDIte, zA, zM, zL, zE, zD, yA, yE, yL, yQ, yT, reduceCtorEq, e0, hne]) (by simp [go_sem, rowL])
    have m0' : ¬ h.next = B := by omega
    refine loop_in (I10 n0 g0 R B X lo h.next c cv pv progs m i n (nx r)) (R10 n0 g0 R B X lo h.next c cv pv progs m i n (nx r)) (fun _ _ => False) (fun k tm h hI => step10 P h41 (by omega) k tm h hI) (fun tm1 h1 hR => ?_) (fun _ _ hh => hh.elim) n _ _
      ⟨0, nx r, [], .sl h.next 0 1 7 (some 1), by omega, ⟨?_, ?_, ?_, ?_, ?_⟩, ?_, ?_, ?_, rd1, nx_le hr, .sl _ _ _ _ (.inr rfl) (by decide) rfl (Nat.lt_succ_self _) ?_, ?_, rfl, by simp⟩
    · obtain ⟨p, ⟨t2, t3, t4, t16, t17⟩, t5, rd2, hr2, op, hp, hlen⟩ := hR
      have hX := rd2.hX
      have one := op.one
      simp only [go_sem, ↓reduceIte, ↓reduceDIte, zA, zM, zL, zE, zD, yA, yE, yL, yQ, yT, reduceCtorEq, t4, t5, hX, one]
      have ord2 := rd2.ord
      have rd3 := rd2.mono (h' := ⟨h1.next + 1, h1.t.set h1.next (.row (putList 0 [p] T.e) 1 42)⟩) (Nat.le_succ _) (fun b hb => by
        have e0 : ¬ b = h1.next := by omega
        simp only [go_sem, ↓reduceIte, ↓reduceDIte, zA, zM, zL, zE, zD, yA, yE, yL, yQ, yT, reduceCtorEq, e0])
      have op3 := op.keep (h' := ⟨h1.next + 1, h1.t.set h1.next (.row (putList 0 [p] T.e) 1 42)⟩) (Nat.le_succ _) (fun b hb => by
        have := op.lt hb
        have e0 : ¬ b = h1.next := by omega
        simp only [go_sem, ↓reduceIte, ↓reduceDIte, zA, zM, zL, zE, zD, yA, yE, yL, yQ, yT, reduceCtorEq, e0])
      obtain ⟨vs, oo, rd4⟩ := rd3.push (q := opOpen :: (opsS n (nx r)).1) (by rw [List.length_cons, hlen]; exact op3) hp
      refine opt_some (appA_own oo (by decide) (by decide) (by omega) (by omega)) ?_
      have hX2 : (appT ⟨h1.next + 1, h1.t.set h1.next (.row (putList 0 [p] T.e) 1 42)⟩ 42 pv (vs ++ [p])).t.get X = some (rowL (cfgC c cv ++ [pv, .nils]) 31) := by
        rw [app_get (by show X < h1.next + 1; omega) (fun hh => by have := (rd2.pr.ex); obtain ⟨ws, w1, w2, w3⟩ := this; have := (w2 X hh).1; omega)]
        exact rd3.hX
      have onev := (own_app (src := [p]) oo (n := 1) (by decide) rfl).one
      have f1 : fw .i64 ((i : Int) + 1) = (i : Int) + 1 := fwI (by omega) (by omega)
      have e3 : ((i + 1 : Nat) : Int) = (i : Int) + 1 := rfl
      simp only [go_sem, ↓reduceIte, ↓reduceDIte, zA, zM, zL, zE, zD, yA, yE, yL, yQ, yT, reduceCtorEq, t4, t17, hX2, onev, f1]
      refine ⟨k, Nat.lt_succ_self k, i + 1, (opsS n (nx r)).2, progs ++ [opOpen :: (opsS n (nx r)).1], appV ⟨h1.next + 1, h1.t.set h1.next (.row (putList 0 [p] T.e) 1 42)⟩ 1 (progs.length + 1), by omega, ⟨?_, ?_, ?_, ?_, ?_⟩, rd4, hr2, by simp [hpl], ?_⟩
      · simp only [go_sem, ↓reduceIte, ↓reduceDIte, zA, zM, zL, zE, zD, yA, yE, yL, yQ, yT, reduceCtorEq, t2]
      · simp only [go_sem, ↓reduceIte, ↓reduceDIte, zA, zM, zL, zE, zD, yA, yE, yL, yQ, yT, reduceCtorEq, t3]
      · simp only [go_sem, ↓reduceIte, ↓reduceDIte, zA, zM, zL, zE, zD, yA, yE, yL, yQ, yT, reduceCtorEq, t4]
      · simp only [go_sem, ↓reduceIte, ↓reduceDIte, zA, zM, zL, zE, zD, yA, yE, yL, yQ, yT, reduceCtorEq, t16]
      · simp only [go_sem, ↓reduceIte, ↓reduceDIte, zA, zM, zL, zE, zD, yA, yE, yL, yQ, yT, reduceCtorEq, e3]
      · rw [ho]
        have hv : (vl r 16).toNat = n := by omega
        simp [progsS, hv]
    · simp only [go_sem, ↓reduceIte, ↓reduceDIte, zA, zM, zL, zE, zD, yA, yE, yL, yQ, yT, reduceCtorEq, t2]
    · simp only [go_sem, ↓reduceIte, ↓reduceDIte, zA, zM, zL, zE, zD, yA, yE, yL, yQ, yT, reduceCtorEq, t3]
    · simp only [go_sem, ↓reduceIte, ↓reduceDIte, zA, zM, zL, zE, zD, yA, yE, yL, yQ, yT, reduceCtorEq, t4]
    · simp only [go_sem, ↓reduceIte, ↓reduceDIte, zA, zM, zL, zE, zD, yA, yE, yL, yQ, yT, reduceCtorEq, t16]
    · simp only [go_sem, ↓reduceIte, ↓reduceDIte, zA, zM, zL, zE, zD, yA, yE, yL, yQ, yT, reduceCtorEq, t17]
    · simp only [go_sem, ↓reduceIte, ↓reduceDIte, zA, zM, zL, zE, zD, yA, yE, yL, yQ, yT, reduceCtorEq]
    · simp only [go_sem, ↓reduceIte, ↓reduceDIte, zA, zM, zL, zE, zD, yA, yE, yL, yQ, yT, reduceCtorEq]
    · simp only [go_sem, ↓reduceIte, ↓reduceDIte, zA, zM, zL, zE, zD, yA, yE, yL, yQ, yT, reduceCtorEq]
    · simp only [go_sem, ↓reduceIte, ↓reduceDIte, zA, zM, zL, zE, zD, yA, yE, yL, yQ, yT, reduceCtorEq, m0', rowL]
      rfl
    · intro a ha
      simp only [own, Option.some.injEq] at ha
      omega
/-- the slots of the loop over the picks -/
structure TmP (R B X : Nat) (i : Int) (tm : T AV) : Prop where
  t2 : tm.get 2 = some (.ptr R 0)
  t3 : tm.get 3 = some (.ptr B 0)
  t4 : tm.get 4 = some (.ptr X 0)
  t6 : tm.get 6 = some (.int .i64 i)
def pickL (r : ByteArray) (th : Int) (i : Nat) : List AV := ((List.range i).map (pickAt r th)).map (AV.int .i64)
theorem pickL_succ (r : ByteArray) (th : Int) (i : Nat) : pickL r th (i + 1) = pickL r th i ++ [.int .i64 (pickAt r th i)] := by
  unfold pickL
  rw [List.range_succ, List.map_append, List.map_append]
  rfl
/-- the loop over the picks -/
def I18 (n0 : Nat) (g0 : Nat → Option AO) (R B X lo hi : Nat) (c : CfgT) (cv pv : AV) (r : ByteArray) (progs : List (List OpT)) (k : Nat) (tm : T AV) (h : H) : Prop :=
  ∃ (i : Nat) (kv : AV), i + k = min r.size 65536 ∧ TmP R B X (i : Int) tm ∧ RdS 71 n0 g0 R B X lo hi c cv pv kv r progs h ∧ Own 1 3 h kv i (pickL r c.threads i) ∧ ∀ a, own kv = some a → hi ≤ a
/-- behind it -/
def R18 (n0 : Nat) (g0 : Nat → Option AO) (R B X lo hi : Nat) (c : CfgT) (cv pv : AV) (r : ByteArray) (progs : List (List OpT)) (tm : T AV) (h : H) : Prop :=
  ∃ (kv : AV), tm.get 2 = some (.ptr R 0) ∧ tm.get 4 = some (.ptr X 0) ∧ RdS 71 n0 g0 R B X lo hi c cv pv kv r progs h ∧ Own 1 3 h kv (min r.size 65536) (pickL r c.threads (min r.size 65536)) ∧ ∀ a, own kv = some a → hi ≤ a
set_option maxHeartbeats 4000000 in
theorem step18 (P : Program) {call : CallE} {n0 : Nat} {g0 : Nat → Option AO} {R B X lo hi : Nat} {c : CfgT} {cv pv : AV} {r : ByteArray} {progs : List (List OpT)} (hr : r.size ≤ 9223372036854775807) (hth : 0 < c.threads) (k : Nat) (tm : T AV) (h : H) (hI : I18 n0 g0 R B X lo hi c cv pv r progs k tm h) :
    WC P call c18_l18 (loopQ 4 (fun tm h => ∃ j, j < k ∧ I18 n0 g0 R B X lo hi c cv pv r progs j tm h) (R18 n0 g0 R B X lo hi c cv pv r progs) (fun _ _ => False)) tm h := by
  obtain ⟨i, kv, hik, ⟨t2, t3, t4, t6⟩, rd, ok, hkv⟩ := hI
  have hB := rd.hB
  have hX := rd.hX
  have ord := rd.ord
  cases k with
  | zero =>
    have hi' : i = min r.size 65536 := by omega
    by_cases e1 : (i : Int) < (r.size : Int)
    · have e2 : ¬ (i : Int) < 65536 := by omega
      simp only [go_sem, ↓reduceIte, ↓reduceDIte, zA, zM, zL, zE, zD, yA, yE, yL, yQ, yT, reduceCtorEq, c18_l18, t6, t3, hB, e1, e2]
      refine ⟨kv, ?_, ?_, rd, by rw [← hi']; exact ok, hkv⟩ <;> simp only [go_sem, ↓reduceIte, ↓reduceDIte, zA, zM, zL, zE, zD, yA, yE, yL, yQ, yT, reduceCtorEq, t2, t4]
    · simp only [go_sem, ↓reduceIte, ↓reduceDIte, zA, zM, zL, zE, zD, yA, yE, yL, yQ, yT, reduceCtorEq, c18_l18, t6, t3, hB, e1]
      refine ⟨kv, ?_, ?_, rd, by rw [← hi']; exact ok, hkv⟩ <;> simp only [go_sem, ↓reduceIte, ↓reduceDIte, zA, zM, zL, zE, zD, yA, yE, yL, yQ, yT, reduceCtorEq, t2, t4]
  | succ k =>
    have e1 : (i : Int) < (r.size : Int) := by omega
    have e2 : (i : Int) < 65536 := by omega
    have e3 : i < r.size := by omega
    have e4 : ¬ c.threads = 0 := by omega
    have eX : ¬ X = h.next := by omega
    have eB : ¬ B = h.next := by omega
    have hb := (r[i]'e3).toNat_lt
    have f0 : fw .i64 ((r[i]'e3).toNat : Int) = ((r[i]'e3).toNat : Int) := fwI (by omega) (by omega)
    have hp : ((r[i]'e3).toNat : Int).tmod c.threads = pickAt r c.threads i := by unfold pickAt; rw [dif_pos e3]
    simp only [go_sem, ↓reduceIte, ↓reduceDIte, zA, zM, zL, zE, zD, yA, yE, yL, yQ, yT, reduceCtorEq, c18_l18, t6, t3, t4, hB, hX, e1, e2, e3, e4, eX, eB, f0, hp]
    have rd2 := rd.mono (h' := ⟨h.next + 1, h.t.set h.next (.row (putList 0 [.int .i64 (pickAt r c.threads i)] T.e) 1 3)⟩) (Nat.le_succ _) (fun b hb => by
      have e0 : ¬ b = h.next := by omega
      simp only [go_sem, ↓reduceIte, ↓reduceDIte, zA, zM, zL, zE, zD, yA, yE, yL, yQ, yT, reduceCtorEq, e0])
    have ok2 := ok.keep (h' := ⟨h.next + 1, h.t.set h.next (.row (putList 0 [.int .i64 (pickAt r c.threads i)] T.e) 1 3)⟩) (Nat.le_succ _) (fun b hb => by
      have := ok.lt hb
      have e0 : ¬ b = h.next := by omega
      simp only [go_sem, ↓reduceIte, ↓reduceDIte, zA, zM, zL, zE, zD, yA, yE, yL, yQ, yT, reduceCtorEq, e0])
    obtain ⟨rd3, ok3⟩ := rd2.pick (x := .int .i64 (pickAt r c.threads i)) ok2 hkv
    refine opt_some (appA_own ok2 (by decide) (by decide) (by omega) (by omega)) ?_
    have hX2 : (appT ⟨h.next + 1, h.t.set h.next (.row (putList 0 [.int .i64 (pickAt r c.threads i)] T.e) 1 3)⟩ 3 kv (pickL r c.threads i ++ [.int .i64 (pickAt r c.threads i)])).t.get X = some (rowL (cfgC c cv ++ [pv, kv]) 31) := by
      rw [app_get (by show X < h.next + 1; omega) (fun hh => by have := hkv X hh; omega)]
      exact rd2.hX
    have onev := (own_app (src := [.int .i64 (pickAt r c.threads i)]) ok2 (n := 1) (by decide) rfl).one
    have f1 : fw .i64 ((i : Int) + 1) = (i : Int) + 1 := fwI (by omega) (by omega)
    have e5 : ((i + 1 : Nat) : Int) = (i : Int) + 1 := rfl
    simp only [go_sem, ↓reduceIte, ↓reduceDIte, zA, zM, zL, zE, zD, yA, yE, yL, yQ, yT, reduceCtorEq, t3, t4, t6, hB, hX, hX2, onev, f1, app_next, e1, e2, e3, e4, eX, eB, f0, hp]
    refine ⟨k, Nat.lt_succ_self k, i + 1, appV ⟨h.next + 1, h.t.set h.next (.row (putList 0 [.int .i64 (pickAt r c.threads i)] T.e) 1 3)⟩ 1 (i + 1), by omega, ⟨?_, ?_, ?_, ?_⟩, rd3, by rw [pickL_succ]; exact ok3, ?_⟩
    · simp only [go_sem, ↓reduceIte, ↓reduceDIte, zA, zM, zL, zE, zD, yA, yE, yL, yQ, yT, reduceCtorEq, t2]
    · simp only [go_sem, ↓reduceIte, ↓reduceDIte, zA, zM, zL, zE, zD, yA, yE, yL, yQ, yT, reduceCtorEq, t3]
    · simp only [go_sem, ↓reduceIte, ↓reduceDIte, zA, zM, zL, zE, zD, yA, yE, yL, yQ, yT, reduceCtorEq, t4]
    · simp only [go_sem, ↓reduceIte, ↓reduceDIte, zA, zM, zL, zE, zD, yA, yE, yL, yQ, yT, reduceCtorEq, e5]
    · intro a ha
      rw [own_appV] at ha
      simp only [Option.some.injEq] at ha
      omega
theorem cfgS2_size (th sl en bu : Int) {r : ByteArray} {m : Nat} (h : r.size ≤ m) : (cfgS2 th sl en bu r).2.size ≤ m := by
  have key : ∀ n a (r : ByteArray), r.size ≤ m → (cutsS n a r).2.size ≤ m := by
    intro n
    induction n with
    | zero => intro a r h; exact h
    | succ n ih => intro a r h; exact ih _ _ (nx_le h)
  have h7 := nxn_le 7 h
  dsimp only [cfgS2]
  by_cases h1 : vl (nxn 6 r) 3 = 1
  · rw [if_pos h1]; dsimp only; exact nx_le h7
  · rw [if_neg h1]
    by_cases h2 : vl (nxn 6 r) 3 = 2
    · rw [if_pos h2]; dsimp only; exact key (1 + vl (nxn 7 r) 3).toNat 0 (nx (nxn 7 r)) (nx_le h7)
    · rw [if_neg h2]; dsimp only; exact h7
theorem cfgS_size {r : ByteArray} {m : Nat} (h : r.size ≤ m) : (cfgS r).2.size ≤ m := by
  unfold cfgS
  by_cases h1 : vl (nxn 2 r) 3 = 2
  · rw [if_pos h1]; exact cfgS2_size _ _ _ _ (nxn_le 4 h)
  · rw [if_neg h1]; exact cfgS2_size _ _ _ _ (nxn_le 3 h)
theorem cfgS2_th (th sl en bu : Int) (r : ByteArray) : (cfgS2 th sl en bu r).1.threads = th := by
  dsimp only [cfgS2]
  by_cases h1 : vl (nxn 6 r) 3 = 1
  · rw [if_pos h1]
  · rw [if_neg h1]
    by_cases h2 : vl (nxn 6 r) 3 = 2
    · rw [if_pos h2]
    · rw [if_neg h2]
theorem cfgS_ok (r : ByteArray) : ∃ m : Nat, (cfgS r).1.threads = (m : Int) ∧ 1 ≤ m ∧ m ≤ 4 := by
  obtain ⟨a, b⟩ := vl_bound r (n := 4) (by decide)
  have : (cfgS r).1.threads = 1 + vl r 4 := by
    unfold cfgS
    by_cases h1 : vl (nxn 2 r) 3 = 2
    · rw [if_pos h1]; exact cfgS2_th _ _ _ _ _
    · rw [if_neg h1]; exact cfgS2_th _ _ _ _ _
  exact ⟨(1 + vl r 4).toNat, by rw [this]; omega, by omega, by omega⟩
set_option maxRecDepth 4000 in
theorem w18 (P : Program) {call : CallE} (h40 : Has call 40 takeK)
    (h39 : ∀ h B t r, h.t.get B = some (rowL [.str r] t) → B < h.next → r.size ≤ 9223372036854775807 → ∃ v h', call 39 [.fn (.func 40) [.ptr B 0] []] h = some (v, h') ∧ Post39 B t r h v h')
    (h41 : ∀ h B t r, h.t.get B = some (rowL [.str r] t) → B < h.next → r.size ≤ 9223372036854775807 → ∃ v h', call 41 [.fn (.func 40) [.ptr B 0] []] h = some (v, h') ∧ Post41 B t r h v h')
    {h : H} {s : ByteArray} (hs : s.size ≤ 9223372036854775807) : WF P call c18 [.str s] h (Post18 s h) := by
  simp only [go_sem, ↓reduceIte, ↓reduceDIte, zA, zM, zL, zE, zD, yA, yE, yL, yQ, yT, reduceCtorEq, c18]
  refine opt_by (h39 _ (h.next + 1) 71 s ?_ ?_ hs) fun v h1 p1 => ?_
  · simp only [go_sem, ↓reduceIte, ↓reduceDIte, zA, zM, zL, zE, zD, yA, yE, yL, yQ, yT, reduceCtorEq, rowL]
  · show h.next + 1 < h.next + 2
    omega
  obtain ⟨cv, rfl, st, oc, hcv⟩ := p1
  have one := oc.one
  have ho := cfgS_ok s
  have hsz := cfgS_size hs
  obtain ⟨x, hx⟩ : ∃ x, cfgS s = x := ⟨_, rfl⟩
  rw [hx] at ho hsz st oc ⊢
  obtain ⟨c, r⟩ := x
  obtain ⟨m, hm, hm2⟩ := ho
  have stn := st.next
  have sto := st.old
  have stb := st.box
  simp only [] at stn sto stb oc hcv hsz hm
  have e0 : ¬ h.next + 1 = h1.next := by omega
  simp only [go_sem, ↓reduceIte, ↓reduceDIte, zA, zM, zL, zE, zD, yA, yE, yL, yQ, yT, reduceCtorEq, one, hm]
  have rd : RdS 71 h.next h.t.get h.next (h.next + 1) h1.next (h1.next + 1) (h1.next + 1) c cv .nils .nils r [] ⟨h1.next + 1, h1.t.set h1.next (.row (putList 0 (cfgC c cv ++ [.nils, .nils]) T.e) 18 31)⟩ := by
    refine ⟨by refine ⟨?_, ?_, ?_, ?_, ?_, ?_, ?_, ?_, ?_, ?_, ?_⟩ <;> (first | omega | (show h1.next + 1 ≤ h1.next + 1; omega)), ?_, ⟨[.int .i64 0, .int .i64 0, .int .u8 0, .int .i64 0, .int .u8 0, .int .i64 0, .nils, .int .i64 0, .int .i64 0, .int .i64 0, .int .i64 0, .int .i64 0, .int .i64 0, .int .i64 0, .int .i64 0, .int .i64 0, .nils, .nils], rfl, ?_⟩, ?_, ?_, ?_, ?_, ?_⟩
    · simp only [go_sem, ↓reduceIte, ↓reduceDIte, zA, zM, zL, zE, zD, yA, yE, yL, yQ, yT, reduceCtorEq, e0]
      exact stb
    · have e1 : ¬ h.next = h1.next := by omega
      simp only [go_sem, ↓reduceIte, ↓reduceDIte, zA, zM, zL, zE, zD, yA, yE, yL, yQ, yT, reduceCtorEq, e1, sto h.next (by omega) (by omega)]
    · simp only [go_sem, ↓reduceIte, ↓reduceDIte, zA, zM, zL, zE, zD, yA, yE, yL, yQ, yT, reduceCtorEq, rowL, cfg_len]
    · refine oc.keep (Nat.le_succ _) (fun b hb => ?_)
      have := oc.lt hb
      have e1 : ¬ b = h1.next := by omega
      simp only [go_sem, ↓reduceIte, ↓reduceDIte, zA, zM, zL, zE, zD, yA, yE, yL, yQ, yT, reduceCtorEq, e1]
    · intro a ha
      have := oc.lt ha
      have := hcv a ha
      omega
    · exact ⟨[], .nil, by intro a ha; simp [own] at ha, by intro i v p hv; simp at hv⟩
    · intro b hb
      have e1 : ¬ b = h1.next := by omega
      have e2 : ¬ b = h.next := by omega
      have e3 : ¬ b = h.next + 1 := by omega
      simp only [go_sem, ↓reduceIte, ↓reduceDIte, zA, zM, zL, zE, zD, yA, yE, yL, yQ, yT, reduceCtorEq, e1, sto b (by omega) (by omega), e2, e3]
  refine loop_in (I13 h.next h.t.get h.next (h.next + 1) h1.next (h1.next + 1) c cv m r) (R13 h.next h.t.get h.next (h.next + 1) h1.next (h1.next + 1) c cv m r) (fun _ _ => False) (fun k tm h hI => step13 P h40 h41 (by omega) k tm h hI) (fun tm2 h2 hR => ?_) (fun _ _ hh => hh.elim) m _ _
    ⟨0, r, [], .nils, by omega, ⟨?_, ?_, ?_, ?_, ?_⟩, rd, hsz, rfl, by simp⟩
  · obtain ⟨pv, ⟨t2, t3, t4, t16, t17⟩, rd2, hr2⟩ := hR
    simp only [go_sem, ↓reduceIte, ↓reduceDIte, zA, zM, zL, zE, zD, yA, yE, yL, yQ, yT, reduceCtorEq]
    refine loop_in (I18 h.next h.t.get h.next (h.next + 1) h1.next (h1.next + 1) h2.next c cv pv (progsS m r).2 (progsS m r).1) (R18 h.next h.t.get h.next (h.next + 1) h1.next (h1.next + 1) h2.next c cv pv (progsS m r).2 (progsS m r).1) (fun _ _ => False) (fun k tm h hI => step18 P hr2 (by omega) k tm h hI) (fun tm3 h3 hR => ?_) (fun _ _ hh => hh.elim) (min (progsS m r).2.size 65536) _ _
      ⟨0, .nils, by omega, ⟨?_, ?_, ?_, ?_⟩, rd2, .nil, by intro a ha; simp [own] at ha⟩
    · obtain ⟨kv, t2, t4, rd3, ok, okv⟩ := hR
      have hX := rd3.hX
      obtain ⟨zs, hz, hR⟩ := rd3.hR
      obtain ⟨vs, pv1, pv2, pv3⟩ := rd3.pr.ex
      have onev := pv1.one
      have onek := ok.one
      have ord := rd3.ord
      simp only [go_sem, ↓reduceIte, ↓reduceDIte, zA, zM, zL, zE, zD, yA, yE, yL, yQ, yT, reduceCtorEq, t2, t4, hX, hR, hz, one, onev, onek]
      refine ⟨c, r, (progsS m r).1, (progsS m r).2, cv, pv, kv, by rw [← hx], by rw [hm]; rfl, rfl, rd3.oc.keep (Nat.le_refl _) (fun b hb => ?_), ?_, ?_, fun b hb => ?_, by show h.next ≤ h3.next; omega⟩
      · have := rd3.cvlo b hb
        have e1 : ¬ b = h.next := by omega
        simp only [go_sem, ↓reduceIte, ↓reduceDIte, zA, zM, zL, zE, zD, yA, yE, yL, yQ, yT, reduceCtorEq, e1]
      · refine ⟨vs, pv1.keep (Nat.le_refl _) (fun b hb => ?_), fun a ha => ⟨by have := (pv2 a ha).1; omega, ?_⟩, fun i v p hv hp => ⟨(pv3 i v p hv hp).1.keep (Nat.le_refl _) (fun b hb => ?_), fun a ha => ⟨by have := ((pv3 i v p hv hp).2 a ha).1; omega, ?_, ((pv3 i v p hv hp).2 a ha).2.2⟩⟩⟩
        · have := pv2 b hb
          have e1 : ¬ b = h.next := by omega
          simp only [go_sem, ↓reduceIte, ↓reduceDIte, zA, zM, zL, zE, zD, yA, yE, yL, yQ, yT, reduceCtorEq, e1]
        · show a < h3.next
          have := (pv2 a ha).2
          omega
        · have := (pv3 i v p hv hp).2 b hb
          have e1 : ¬ b = h.next := by omega
          simp only [go_sem, ↓reduceIte, ↓reduceDIte, zA, zM, zL, zE, zD, yA, yE, yL, yQ, yT, reduceCtorEq, e1]
        · show a < h3.next
          have := ((pv3 i v p hv hp).2 a ha).2.1
          omega
      · have : (picksS c.threads (progsS m r).2).length = min (progsS m r).2.size 65536 := by simp [picksS]
        rw [this]
        refine ok.keep (Nat.le_refl _) (fun b hb => ?_)
        have := okv b hb
        have e1 : ¬ b = h.next := by omega
        simp only [go_sem, ↓reduceIte, ↓reduceDIte, zA, zM, zL, zE, zD, yA, yE, yL, yQ, yT, reduceCtorEq, e1]
      · have e1 : ¬ b = h.next := by omega
        simp only [go_sem, ↓reduceIte, ↓reduceDIte, zA, zM, zL, zE, zD, yA, yE, yL, yQ, yT, reduceCtorEq, e1]
        exact rd3.old b hb
    · simp only [go_sem, ↓reduceIte, ↓reduceDIte, zA, zM, zL, zE, zD, yA, yE, yL, yQ, yT, reduceCtorEq, t2]
    · simp only [go_sem, ↓reduceIte, ↓reduceDIte, zA, zM, zL, zE, zD, yA, yE, yL, yQ, yT, reduceCtorEq, t3]
    · simp only [go_sem, ↓reduceIte, ↓reduceDIte, zA, zM, zL, zE, zD, yA, yE, yL, yQ, yT, reduceCtorEq, t4]
    · simp only [go_sem, ↓reduceIte, ↓reduceDIte, zA, zM, zL, zE, zD, yA, yE, yL, yQ, yT, reduceCtorEq]
  · simp only [go_sem, ↓reduceIte, ↓reduceDIte, zA, zM, zL, zE, zD, yA, yE, yL, yQ, yT, reduceCtorEq]
  · simp only [go_sem, ↓reduceIte, ↓reduceDIte, zA, zM, zL, zE, zD, yA, yE, yL, yQ, yT, reduceCtorEq]
  · simp only [go_sem, ↓reduceIte, ↓reduceDIte, zA, zM, zL, zE, zD, yA, yE, yL, yQ, yT, reduceCtorEq]
  · simp only [go_sem, ↓reduceIte, ↓reduceDIte, zA, zM, zL, zE, zD, yA, yE, yL, yQ, yT, reduceCtorEq]
  · simp only [go_sem, ↓reduceIte, ↓reduceDIte, zA, zM, zL, zE, zD, yA, yE, yL, yQ, yT, reduceCtorEq]
end
end Go.Proofs.Ytnmlfhogolonoaa
