/-
  A script that is being put together: the reader, the script's row and what it has.
-/
import Derived.Test.YtnmlfhogolonoaaSoZb
set_option linter.unusedVariables false
set_option linter.unusedSimpArgs false
namespace Go.Proofs.Ytnmlfhogolonoaa
open Go.Proofs.Ytnmlfhogolonoaa.Eo
open Nat renaming reduceAdd → zA, reduceMul → zM, reduceLT → zL, reduceEqDiff → zE, reduceLeDiff → zD
open Int renaming reduceAdd → yA, reduceLE → yE, reduceLT → yL, reduceEq → yQ, reduceToNat → yT
noncomputable section
/-- a script that grows: R the result, a the reader (it holds bo), X the script -/
structure DcS (bo : AO) (n0 : Nat) (g0 : Nat → Option AO) (R a X lo hi : Nat) (c : CfgT) (cv pv kv : AV) (progs : List (List OpT)) (h : H) : Prop where
  ord : n0 ≤ R ∧ n0 ≤ X ∧ R < lo ∧ a < lo ∧ X < lo ∧ lo ≤ hi ∧ hi ≤ h.next ∧ R ≠ a ∧ R ≠ X ∧ a ≠ X
  ha : h.t.get a = some bo
  hR : ∃ zs, zs.length = 18 ∧ h.t.get R = some (rowL zs 31)
  hX : h.t.get X = some (rowL (cfgC c cv ++ [pv, kv]) 31)
  oc : Own 1 43 h cv c.cuts.length (c.cuts.map (AV.int .u64))
  cvlo : ∀ b, own cv = some b → b < lo ∧ n0 ≤ b ∧ b ≠ R ∧ b ≠ a ∧ b ≠ X
  pr : PR lo hi h pv progs
  old : ∀ b, b < n0 → b ≠ a → h.t.get b = g0 b
section
variable {bo bo' : AO} {n0 : Nat} {g0 : Nat → Option AO} {R a X lo hi : Nat} {c : CfgT} {cv pv kv kv' : AV} {progs : List (List OpT)} {h h' : H}
theorem DcS.upd (s : DcS bo n0 g0 R a X lo hi c cv pv kv progs h) (hn : h.next ≤ h'.next) (hk : ∀ b, b < hi → b ≠ a → b ≠ X → h'.t.get b = h.t.get b) (hb : h'.t.get a = some bo') (hx : h'.t.get X = some (rowL (cfgC c cv ++ [pv, kv']) 31)) :
    DcS bo' n0 g0 R a X lo hi c cv pv kv' progs h' := by
  obtain ⟨o1, o2, o3, o4, o5, o6, o7, o8, o9, o10⟩ := s.ord
  refine ⟨⟨o1, o2, o3, o4, o5, o6, by omega, o8, o9, o10⟩, hb, ?_, hx, s.oc.keep hn (fun b hb => hk b (by have := s.cvlo b hb; omega) (s.cvlo b hb).2.2.2.1 (s.cvlo b hb).2.2.2.2), s.cvlo, s.pr.keep hn (fun b hb hb' => hk b (by omega) (by omega) (by omega)), fun b hb hba => (hk b (by omega) hba (by omega)).trans (s.old b hb hba)⟩
  obtain ⟨zs, z1, z2⟩ := s.hR
  exact ⟨zs, z1, (hk R (by omega) o8 o9).trans z2⟩
theorem DcS.mono (s : DcS bo n0 g0 R a X lo hi c cv pv kv progs h) (hn : h.next ≤ h'.next) (hk : ∀ b, b < hi → h'.t.get b = h.t.get b) : DcS bo n0 g0 R a X lo hi c cv pv kv progs h' :=
  s.upd hn (fun b hb _ _ => hk b hb) ((hk a (by have := s.ord; omega)).trans s.ha) ((hk X (by have := s.ord; omega)).trans s.hX)
theorem DcS.box (s : DcS bo n0 g0 R a X lo hi c cv pv kv progs h) (hn : h.next ≤ h'.next) (hk : ∀ b, b < hi → b ≠ a → h'.t.get b = h.t.get b) (hb : h'.t.get a = some bo') : DcS bo' n0 g0 R a X lo hi c cv pv kv progs h' :=
  s.upd hn (fun b hb h1 _ => hk b hb h1) hb ((hk X (by have := s.ord; omega) (by have := s.ord; omega)).trans s.hX)
theorem DcS.hi' {hi' : Nat} (s : DcS bo n0 g0 R a X lo hi c cv pv kv progs h) (h1 : hi ≤ hi') (h2 : hi' ≤ h.next) : DcS bo n0 g0 R a X lo hi' c cv pv kv progs h := by
  obtain ⟨o1, o2, o3, o4, o5, o6, o7, o8⟩ := s.ord
  obtain ⟨vs, p1, p2, p3⟩ := s.pr.ex
  exact ⟨⟨o1, o2, o3, o4, o5, by omega, h2, o8⟩, s.ha, s.hR, s.hX, s.oc, s.cvlo, ⟨vs, p1, fun a ha => ⟨(p2 a ha).1, by have := (p2 a ha).2; omega⟩, fun i v p hv hp => ⟨(p3 i v p hv hp).1, fun a ha => ⟨((p3 i v p hv hp).2 a ha).1, by have := ((p3 i v p hv hp).2 a ha).2.1; omega, ((p3 i v p hv hp).2 a ha).2.2⟩⟩⟩, s.old⟩
theorem DcS.push {p : AV} {q : List OpT} (s : DcS bo n0 g0 R a X lo hi c cv pv .nils progs h) (op : Own 7 45 h p q.length (q.flatMap opC)) (hp : ∀ b, own p = some b → hi ≤ b) :
    ∃ vs, Own 1 42 h pv progs.length vs ∧ DcS bo n0 g0 R a X lo (h.next + 1) c cv (appV h 1 (progs.length + 1)) .nils (progs ++ [q]) ⟨h.next + 1, (appT h 42 pv (vs ++ [p])).t.set X (rowL (cfgC c cv ++ [appV h 1 (progs.length + 1), .nils]) 31)⟩ := by
  obtain ⟨o1, o2, o3, o4, o5, o6, o7, o8, o9, o10⟩ := s.ord
  obtain ⟨vs, p1, p2, p3⟩ := s.pr.ex
  have ge : ∀ b, b < h.next → b ≠ X → own pv ≠ some b → ((appT h 42 pv (vs ++ [p])).t.set X (rowL (cfgC c cv ++ [appV h 1 (progs.length + 1), .nils]) 31)).get b = h.t.get b := fun b hb hx ho => by
    rw [T.get_set, if_neg hx, app_get hb ho]
  have lo' : ∀ b, b < lo → own pv ≠ some b := fun b hb hh => by have := (p2 b hh).1; omega
  have oa := own_app (src := [p]) p1 (n := 1) (by decide) rfl
  refine ⟨vs, p1, ⟨o1, o2, o3, o4, o5, by omega, Nat.le_refl _, o8, o9, o10⟩, (ge a (by omega) o10 (lo' a o4)).trans s.ha, ?_, by rw [T.get_set, if_pos rfl], s.oc.keep (Nat.le_succ _) (fun b hb => ge b (by have := s.cvlo b hb; omega) (s.cvlo b hb).2.2.2.2 (lo' b (s.cvlo b hb).1)), s.cvlo, ⟨vs ++ [p], ?_, fun a ha => ?_, fun i v w hv hw => ?_⟩, fun b hb hba => (ge b (by omega) (by omega) (lo' b (by omega))).trans (s.old b hb hba)⟩
  · obtain ⟨zs, z1, z2⟩ := s.hR
    exact ⟨zs, z1, (ge R (by omega) o9 (lo' R o3)).trans z2⟩
  · rw [List.length_append]
    refine oa.keep (Nat.le_refl _) fun b hb => ?_
    rw [own_appV] at hb
    simp only [Option.some.injEq] at hb
    show (T.set _ X _).get b = _
    rw [T.get_set, if_neg (by omega)]
  · rw [own_appV] at ha
    simp only [Option.some.injEq] at ha
    omega
  · rw [own_appV]
    have hvl : vs.length = progs.length := by have := p1.length; omega
    rcases Nat.lt_or_ge i progs.length with hi | hi
    · rw [List.getElem?_append_left (by omega)] at hv hw
      obtain ⟨q1, q2⟩ := p3 i v w hv hw
      exact ⟨q1.keep (Nat.le_succ _) (fun b hb => ge b (by have := (q2 b hb).2.1; omega) (by have := (q2 b hb).1; omega) (q2 b hb).2.2), fun a ha => ⟨(q2 a ha).1, by have := (q2 a ha).2.1; omega, by simp only [ne_eq, Option.some.injEq]; have := (q2 a ha).2.1; omega⟩⟩
    · rw [List.getElem?_append_right (by omega)] at hv hw
      have hi2 : i - vs.length = 0 := by
        rcases Nat.eq_zero_or_pos (i - vs.length) with e | e
        · exact e
        · rw [List.getElem?_eq_none (by simp; omega)] at hv; simp at hv
      have hi3 : i - progs.length = 0 := by omega
      rw [hi2] at hv
      rw [hi3] at hw
      simp at hv hw
      subst hv; subst hw
      have hlt := fun a ha => op.lt (b := a) ha
      exact ⟨op.keep (Nat.le_succ _) (fun b hb => ge b (hlt b hb) (by have := hp b hb; omega) (fun hh => by have := (p2 b hh).2; have := hp b hb; omega)), fun a ha => ⟨by have := hp a ha; omega, by have := hlt a ha; omega, by simp only [ne_eq, Option.some.injEq]; have := hlt a ha; omega⟩⟩
/-- an append to the picks, and the store of what it gives -/
theorem DcS.pick {i n : Nat} {cs src : List AV} (s : DcS bo n0 g0 R a X lo hi c cv pv kv progs h) (ok : Own 1 3 h kv i cs) (hkv : ∀ b, own kv = some b → hi ≤ b) (hn : 0 < n) (hs : src.length = n) :
    DcS bo n0 g0 R a X lo hi c cv pv (appV h 1 (i + n)) progs ⟨h.next + 1, (appT h 3 kv (cs ++ src)).t.set X (rowL (cfgC c cv ++ [pv, appV h 1 (i + n)]) 31)⟩ ∧
      Own 1 3 ⟨h.next + 1, (appT h 3 kv (cs ++ src)).t.set X (rowL (cfgC c cv ++ [pv, appV h 1 (i + n)]) 31)⟩ (appV h 1 (i + n)) (i + n) (cs ++ src) := by
  obtain ⟨o1, o2, o3, o4, o5, o6, o7, o8, o9, o10⟩ := s.ord
  have ge : ∀ b, b < hi → b ≠ X → ((appT h 3 kv (cs ++ src)).t.set X (rowL (cfgC c cv ++ [pv, appV h 1 (i + n)]) 31)).get b = h.t.get b := fun b hb hx => by
    rw [T.get_set, if_neg hx, app_get (by omega) (fun hh => by have := hkv b hh; omega)]
  have oa := own_app (src := src) ok (n := n) hn (by rw [hs, Nat.mul_one])
  refine ⟨s.upd (Nat.le_succ _) (fun b hb _ hx => ge b hb hx) ((ge a (by omega) o10).trans s.ha) (by rw [T.get_set, if_pos rfl]), ?_⟩
  refine oa.keep (Nat.le_refl _) fun b hb => ?_
  rw [own_appV] at hb
  simp only [Option.some.injEq] at hb
  show (T.set _ X _).get b = _
  rw [T.get_set, if_neg (by omega)]
end
/-- a number that is read, at most m -/
theorem opt65 {call : CallE} (h65 : F65 call) {a : Nat} {s : RdT} {m : Int} {h : H} {K : AV × H → Prop} (ga : h.t.get a = some (rdA s)) (hr : s.1.size ≤ 9223372036854775807) (h0 : 0 ≤ m) (h1 : m ≤ 9223372036854775807)
    (hk : ∀ (v : Int) (s' : RdT), cntR m s = (v, s') → 0 ≤ v → v ≤ m → s'.1.size ≤ s.1.size → s'.1.size ≤ 9223372036854775807 → K (.int .i64 v, ⟨h.next, h.t.set a (rdA s')⟩)) : @optI _ (call 65 [.ptr a 0, .int .i64 m] h) ⟨K⟩ := by
  have b := cntR_bd m s h0
  have l := cntR_le m s
  exact opt_some (h65 h a s m ga hr h0 h1) (hk _ _ rfl b.1 b.2 l (by omega))
end
end Go.Proofs.Ytnmlfhogolonoaa
