/-
  An evaluator of Go code over relative heaps, part V: strings.
-/
import Derived.Test.YtnmlfhogolonoaaEvU
import Derived.Laws.BytesString
set_option linter.unusedVariables false
set_option linter.unusedSimpArgs false
namespace Go.Proofs.Ytnmlfhogolonoaa.Ev
noncomputable section

inductive SOp where
  | idx (x ix : Opd)
  | slc (x : Opd) (lo hi : Option Opd)
  | b2s (x : Opd)
def bytesOf : List AV → Option (List Int)
  | [] => some []
  | .int .u8 n :: l => match bytesOf l with
    | some ns => some (n :: ns)
    | none => none
  | _ :: _ => none
def evoS (tm : T AV) : Option Opd → Option (Option AV)
  | none => some none
  | some x => match evo tm x with
    | some v => some (some v)
    | none => none
def evS (tm : T AV) (g : Nat → Option AO) : SOp → Option AV
  | .idx x ix => match evo tm x, evo tm ix with
    | some (.str s), some (.int _ (.ofNat i)) => match s.data.toList[i]? with
      | some b => some (.int .u8 b.toNat)
      | none => none
    | _, _ => none
  | .slc x lo hi => match evo tm x, evoS tm lo, evoS tm hi with
    | some (.str s), some lo, some hi => match bndo s.data.toList.length s.data.toList.length hi with
      | some h => match bndo h 0 lo with
        | some l => some (.str ⟨((s.data.toList.drop l).take (h - l)).toArray⟩)
        | none => none
      | none => none
    | _, _, _ => none
  | .b2s x => match evo tm x with
    | some .nils => some (.str .empty)
    | some (.sl a o len 1 _) => match g a with
      | some (.row cells _ _) => match getList cells o len with
        | some l => match bytesOf l with
          | some ns => some (.str (ns.foldl (fun r n => r.push (UInt8.ofNat n.toNat)) ByteArray.empty))
          | none => none
        | none => none
      | _ => none
    | _ => none
def cSO : Option Operand → Option (Option Opd)
  | none => some none
  | some x => match cOpd x with
    | some y => some (some y)
    | none => none
def cS (P : Program) (o : Oper) : Option SOp := match o.op with
  | .index t x ix => match P.underlying t, cOpd x, cOpd ix with
    | some .string, some x, some ix => some (.idx x ix)
    | _, _, _ => none
  | .slice t x lo hi none => match P.underlying t, cOpd x, cSO lo, cSO hi with
    | some .string, some x, some lo, some hi => some (.slc x lo hi)
    | _, _, _, _ => none
  | .convert src dst x => match P.underlying src, P.underlying dst, cOpd x with
    | some (.slice e), some .string, some x => match P.underlying e, sz P e with
      | some (.int .u8), some 1 => some (.b2s x)
      | _, _ => none
    | _, _, _ => none
  | _ => none

theorem bytesOf_sound {ρ : Rho} : ∀ {l : List AV} {ns : List Int} {L : List Value}, bytesOf l = some ns → VRs ρ l L → L = ns.map (Value.int .u8)
  | [], ns, L, h, hl => by
    simp [bytesOf] at h; subst h
    simp only [VRs] at hl; simp [hl]
  | v :: l, ns, L, h, hl => by
    unfold bytesOf at h
    split at h
    · rename_i h0; simp at h0
    · rename_i n l' heq
      simp at heq; obtain ⟨rfl, rfl⟩ := heq
      split at h
      · rename_i ms hm
        simp at h; subst h
        simp only [VRs, VR] at hl
        obtain ⟨V, M, rfl, h2, rfl⟩ := hl
        simp [bytesOf_sound hm h2]
      · simp at h
    · simp at h
theorem evoS_sound {ρ : Rho} {tm : T AV} {a : Act} (ht : TR ρ tm a.tmps) {x : Option Operand} {y : Option Opd} {v : Option AV} (hc : cSO x = some y) (hv : evoS tm y = some v) : OVR ρ v (x.map a.eval) := by
  cases x with
  | none =>
    simp [cSO] at hc; subst hc
    simp [evoS] at hv; subst hv
    trivial
  | some x =>
    simp only [cSO] at hc
    split at hc
    · rename_i y' hy
      simp at hc; subst hc
      simp only [evoS] at hv
      split at hv
      · rename_i u hu
        simp at hv; subst hv
        exact evo_sound ht hy hu
      · simp at hv
    · simp at hc
theorem size_len (s : ByteArray) : s.size = s.data.toList.length := by
  obtain ⟨⟨l⟩⟩ := s; rfl
theorem getB (s : ByteArray) (i : Nat) : s[i]? = s.data.toList[i]? := by
  obtain ⟨⟨l⟩⟩ := s
  simp only [getElem?_def]
  rfl
theorem extract_eq (s : ByteArray) (l h : Nat) : s.extract l h = ⟨((s.data.toList.drop l).take (h - l)).toArray⟩ := by
  obtain ⟨⟨x⟩⟩ := s
  apply ByteArray.ext
  simp [ByteArray.data_extract, List.extract_toArray, List.extract_eq_take_drop]

theorem evS_sound {P : Program} {o : Oper} {c : SOp} {tm : T AV} {v : AV} {ρ : Rho} {a : Act} {g : Nat → Option AO} {w : World} (hc : cS P o = some c) (h : evS tm g c = some v) (ht : TR ρ tm a.tmps) (hr : HR ρ g w) :
    ∃ V, VR ρ v V ∧ (execOp a.eval o).run P w = .ok (.value V) w := by
  obtain ⟨dst, op, type, pos, after, guard⟩ := o
  unfold cS at hc
  simp only [] at hc
  split at hc
  · rename_i t x ix
    split at hc
    · rename_i x' ix' hu hx hix
      simp at hc; subst hc
      simp only [evS] at h
      split at h
      · rename_i s k i hxv hiv
        split at h
        · rename_i b hb
          simp at h; subst h
          have hX := evo_sound ht hx hxv
          have hI := evo_sound ht hix hiv
          simp only [VR] at hX hI
          refine ⟨.int .u8 b.toNat, rfl, ?_⟩
          simp only [execOp, Instr.index, Sem.run_bind, hX, hI, asIntOf, Sem.run_pure, Result.andThen_ok, Go.Proofs.Ytnmlfhogolonoaa.Ev.run_underlying hu]
          have hp : (0 : Int) ≤ Int.ofNat i := by simp
          rw [if_pos hp]
          simp only [Int.ofNat_eq_natCast, Int.toNat_natCast, getB, hb]
          rfl
        · simp at h
      · simp at h
    · simp at hc
  · rename_i t x lo hi
    split at hc
    · rename_i x' lo' hi' hu hx hlo hhi
      simp at hc; subst hc
      simp only [evS] at h
      split at h
      · rename_i s lov hiv hxv hl hh
        split at h
        · rename_i hb hbh
          split at h
          · rename_i lb hlb
            simp at h; subst h
            have hX := evo_sound ht hx hxv
            simp only [VR] at hX
            have h1 := evoS_sound ht hlo hl
            have h2 := evoS_sound ht hhi hh
            refine ⟨.string (s.extract lb hb), by simp only [VR]; rw [extract_eq], ?_⟩
            have hle : s.data.toList.length ≤ s.size := Nat.le_of_eq (size_len s).symm
            have k2 : ∀ w', (match hi.map a.eval with | some v => Instr.sliceBound v s.size .sliceAlen | none => pure s.size : Sem Nat).run P w' = .ok hb w' := by
              intro w'
              cases hi with
              | none => cases hiv with
                | none =>
                  have : hb = s.size := by simp only [bndo, Option.some.injEq] at hbh; rw [← hbh, size_len]
                  subst this; rfl
                | some u => simp [OVR] at h2
              | some y => cases hiv with
                | none => simp [OVR] at h2
                | some u => exact bnd_sound (ρ := ρ) h2 hbh hle _ w'
            have k1 : ∀ w', (match lo.map a.eval with | some v => Instr.sliceBound v hb .sliceB | none => pure 0 : Sem Nat).run P w' = .ok lb w' := by
              intro w'
              cases lo with
              | none => cases lov with
                | none => simp [bndo] at hlb; simp [hlb]
                | some u => simp [OVR] at h1
              | some y => cases lov with
                | none => simp [OVR] at h1
                | some u => exact bnd_sound (ρ := ρ) h1 hlb (Nat.le_refl _) _ w'
            have hb' : (Instr.sliceBounds false s.size s.size (lo.map a.eval) (hi.map a.eval) none).run P w = .ok (lb, hb, s.size) w := by
              unfold Instr.sliceBounds
              cases hi with
              | none =>
                have k2' := k2 w
                simp only [Option.map_none, Sem.run_pure, Result.ok.injEq, and_true] at k2'
                subst k2'
                have := k1 w
                cases lo <;> simp_all
              | some y =>
                have k2' := k2 w
                simp only [Option.map_some] at k2'
                have := k1 w
                cases lo <;> simp_all
            simp [execOp, Instr.sliceAt, Instr.slice, hX, Go.Proofs.Ytnmlfhogolonoaa.Ev.run_underlying hu, hb']
          · simp at h
        · simp at h
      · simp at h
    · simp at hc
  · rename_i src dst' x
    split at hc
    · rename_i e x' hs hd hx
      split at hc
      · rename_i he hsz
        simp at hc; subst hc
        simp only [evS] at h
        have hcv : ∀ (p : Option Addr) (len cap : Nat), a.eval x = .slice p len cap → (convert src dst' (a.eval x)).run P w = (Conv.bytesToString (.slice p len cap)).run P w := by
          intro p len cap hX
          rw [hX]
          simp [convert, Go.Proofs.Ytnmlfhogolonoaa.Ev.run_underlying hs, Go.Proofs.Ytnmlfhogolonoaa.Ev.run_underlying hd, Go.Proofs.Ytnmlfhogolonoaa.Ev.run_underlying he]
        split at h
        · rename_i hv
          simp at h; subst h
          have hX := evo_sound ht hx hv
          simp only [VR] at hX
          refine ⟨.string .empty, rfl, ?_⟩
          simp only [execOp, Sem.run_bind, hcv _ _ _ hX]
          simp [Conv.bytesToString]
        · rename_i p o len cap hv
          split at h
          · rename_i cells bl e' hg
            split at h
            · rename_i l hl
              split at h
              · rename_i ns hns
                simp at h; subst h
                have hX := evo_sound ht hx hv
                have key : (∃ lc c, ρ p = some lc ∧ a.eval x = .slice (some ⟨lc.blk, lc.off + o, none⟩) len c) ∨ (len = 0 ∧ ∃ q, a.eval x = .slice (some q) 0 0) := by
                  cases cap with
                  | some c => simp only [VR] at hX; obtain ⟨lc, h1, _, h2⟩ := hX; exact .inl ⟨lc, _, h1, h2⟩
                  | none =>
                    simp only [VR] at hX
                    obtain ⟨lc, h1, _, _, h2 | ⟨h0, q, h2⟩⟩ := hX
                    · exact .inl ⟨lc, _, h1, h2⟩
                    · exact .inr ⟨h0, q, h2⟩
                rcases key with ⟨lc, cp, h1, h2⟩ | ⟨rfl, q, h2⟩
                · obtain ⟨Vs, k1, k2, k3, k4⟩ := getList_all (P := P) hr h1 hg hl
                  have := bytesOf_sound hns k1
                  subst this
                  refine ⟨_, rfl, ?_⟩
                  simp only [execOp, Sem.run_bind, hcv _ _ _ h2, run_bytesToString w _ len cp ns (k4 w rfl)]
                  rfl
                · simp [getList] at hl; subst hl
                  simp [bytesOf] at hns; subst hns
                  refine ⟨_, rfl, ?_⟩
                  simp only [execOp, Sem.run_bind, hcv _ _ _ h2, run_bytesToString w q 0 0 [] (by simp [loadCells, loadCellsFrom])]
                  rfl
              · simp at h
            · simp at h
          · simp at h
        · simp at h
      · simp at hc
    · simp at hc
  · simp at hc
end
end Go.Proofs.Ytnmlfhogolonoaa.Ev
