/-
  An evaluator of Go code over relative heaps, part I: all operations that read no memory.
  An evaluator of Go code over relative heaps, part J: operations that read memory, and those that make one object.
-/
import Derived.Test.YtldmhpdjlgoenaaGreatDoorEoH
set_option linter.unusedVariables false
set_option linter.unusedSimpArgs false
namespace Go.Proofs.YtldmhpdjlgoenaaGreatDoor.Eo
noncomputable section

theorem mmA_sound {P : Program} {ρ : Rho} (isMax : Bool) : ∀ {bs : List AV} {a v : AV} {A : Value} {BS : List Value}, mmA isMax a bs = some v → VR ρ a A → VRs ρ bs BS →
    ∃ V, VR ρ v V ∧ ∀ w, (BS.foldlM (if isMax then Builtin.max2 else Builtin.min2) A).run P w = .ok V w
  | [], a, v, A, BS, h, ha, hb => by
    simp [mmA] at h; subst h
    simp only [VRs] at hb; subst hb
    exact ⟨A, ha, fun w => by simp⟩
  | b :: bs, a, v, A, BS, h, ha, hb => by
    unfold mmA at h
    simp only [VRs] at hb
    obtain ⟨B, M, h1, h2, rfl⟩ := hb
    split at h
    · rename_i k x k' y
      simp only [VR] at ha h1; subst ha h1
      obtain ⟨V, j1, j2⟩ := mmA_sound isMax h (ρ := ρ) (A := .int k (if isMax then (if y > x then y else x) else (if y < x then y else x))) (by
        simp only [VR, iLt_eq]
        cases isMax
        · by_cases hh : y < x <;> simp [hh]
        · by_cases hh : x < y <;> simp [hh]) h2
      refine ⟨V, j1, fun w => ?_⟩
      rw [List.foldlM_cons, Sem.run_bind]
      cases isMax
      · have := j2 w
        simp only [Bool.false_eq_true, if_false] at this ⊢
        simp only [Builtin.min2, Sem.run_pure, Result.andThen_ok]
        exact this
      · have := j2 w
        simp only [if_true] at this ⊢
        simp only [Builtin.max2, Sem.run_pure, Result.andThen_ok]
        exact this
    · simp at h

theorem evIdx_spec {len m : Nat} {j : AV} (h : evIdx len j = some m) {ρ : Rho} {J : Value} (hj : VR ρ j J) : m < len ∧ ∃ k, J = .int k (m : Int) := by
  unfold evIdx at h
  split at h
  · rename_i k m'
    rw [blt_iff] at h
    by_cases hl : m' < len
    · simp [hl] at h; subst h
      simp only [VR] at hj
      exact ⟨hl, k, hj⟩
    · simp [hl] at h
  · simp at h

theorem getO {tm : T AV} {P : Program} {α : Type} {x : Opd} {f : AV → Option α} {r : α} (h : (match evo tm x with | some v => f v | none => none) = some r) : ∃ v, evo tm x = some v ∧ f v = some r := by
  split at h
  · rename_i v hv; exact ⟨v, hv, h⟩
  · simp at h

theorem run_builtin {P : Program} {ρ : Operand → Value} {b : Builtin} {args : Array Operand} {ats : Array TypeId} {dst : Option Tmp} {type : TypeId} {pos : String} {after : Array Edge} {guard : Option (Nat × Bool)} :
    ∃ cs : Array Bool, ∀ w, (execOp ρ { dst := dst, op := .call { callee := .builtin b, args := args, argTypes := ats }, type := type, pos := pos, after := after, guard := guard }).run P w = (builtin b ats type cs (args.map ρ)).run P w := by
  refine ⟨args.map isC, fun w => ?_⟩
  simp only [execOp, resolve, Sem.run_bind, Sem.run_pure, Result.andThen_ok, invoke]
  have e : ∀ f : Operand → Bool, (∀ x, f x = isC x) → args.map f = args.map isC := fun f hf => by rw [show f = isC from funext hf]
  rw [e]
  intro x
  cases x <;> rfl
theorem evP_sound {P : Program} {o : Oper} {c : POp} {tm : T AV} {v : AV} {ρ : Rho} {a : Act} (hc : cP P o = some c) (h : evP P tm c = some v) (ht : TR ρ tm a.tmps) :
    ∃ V, VR ρ v V ∧ ∀ w, (execOp a.eval o).run P w = .ok (.value V) w := by
  obtain ⟨dst, op, type, pos, after, guard⟩ := o
  rw [cP_def] at hc
  unfold cP0 at hc
  simp only [] at hc
  split at hc
  · rename_i x
    simp only [Option.map_eq_some_iff] at hc
    obtain ⟨y, hy, rfl⟩ := hc
    exact ⟨_, evo_sound ht hy h, fun w => by simp [execOp]⟩
  · rename_i x
    simp only [Option.map_eq_some_iff] at hc
    obtain ⟨y, hy, rfl⟩ := hc
    exact ⟨_, evo_sound ht hy h, fun w => by simp [execOp]⟩
  · rename_i c' a' b'
    split at hc
    · rename_i c1 a1 b1 h1 h2 h3
      simp at hc; subst hc
      simp only [evP, evP_pick, evP_nilck, evP_bin, evP_un, evP_conv, evP_convs, evP_mkif, evP_mkfn, evP_slc, evP_fadr, evP_fld, evP_iadrS, evP_iadrA, evP_idxA, evP_extr, evP_lenv, evP_lens, evP_lenm, evP_mm, evP_capv] at h
      split at h
      · rename_i t hcv
        have k := evo_sound ht h1 hcv
        simp only [VR] at k
        cases t
        · exact ⟨_, evo_sound ht h3 h, fun w => by simp [execOp, k, asBool]⟩
        · exact ⟨_, evo_sound ht h2 h, fun w => by simp [execOp, k, asBool]⟩
      · simp at h
    · simp at hc
  · rename_i t ps
    split at hc
    · rename_i z l hb hz hl
      simp at hc; subst hc
      simp only [evP, evP_pick, evP_nilck, evP_bin, evP_un, evP_conv, evP_convs, evP_mkif, evP_mkfn, evP_slc, evP_fadr, evP_fld, evP_iadrS, evP_iadrA, evP_idxA, evP_extr, evP_lenv, evP_lens, evP_lenm, evP_mm, evP_capv, Option.map_eq_some_iff] at h
      obtain ⟨r, hr, rfl⟩ := h
      unfold zcells at hz
      split at hz
      · rename_i i hi
        split at hz
        · rename_i Z hZ
          obtain ⟨k1, _⟩ := cvs_sound (ρ := ρ) hz
          obtain ⟨R, e1, e2⟩ := fill_sound (pl := plc P t) ht hl hr k1
          refine ⟨.agg R, ⟨R.toList, e2, by simp⟩, fun w => ?_⟩
          have hbl : P.built t ((ps.map fun (i, x) => (i, a.eval x)).toList) = some R := by
            rw [built_eq hi hZ hb, ← e1]
            congr 1
            simp
          simp [execOp, run_build w t _ _ hbl]
        · simp at hz
      · simp at hz
    · simp at hc
  · rename_i x
    simp only [Option.map_eq_some_iff] at hc
    obtain ⟨y, hy, rfl⟩ := hc
    simp only [evP, evP_pick, evP_nilck, evP_bin, evP_un, evP_conv, evP_convs, evP_mkif, evP_mkfn, evP_slc, evP_fadr, evP_fld, evP_iadrS, evP_iadrA, evP_idxA, evP_extr, evP_lenv, evP_lens, evP_lenm, evP_mm, evP_capv] at h
    cases hv : evo tm y with
    | none => rw [hv] at h; simp at h
    | some u =>
      rw [hv] at h
      have k := evo_sound ht hy hv
      cases u with
      | nilp => simp at h
      | nili => simp at h
      | nilf => simp at h
      | fn f fs cs =>
        cases f <;> simp at h
        subst h
        have k' := k
        simp only [VR] at k'
        obtain ⟨F, C, _, _, hk⟩ := k'
        exact ⟨_, k, fun w => by simp [execOp, hk]⟩
      | sl p o len es cap =>
        simp at h; subst h
        refine ⟨_, k, fun w => ?_⟩
        cases cap with
        | some c => simp only [VR] at k; obtain ⟨l, _, _, hk⟩ := k; simp [execOp, hk]
        | none => simp only [VR] at k; obtain ⟨l, _, _, _, hk | ⟨_, x, hk⟩⟩ := k <;> simp [execOp, hk]
      | ptr p o => simp at h; subst h; refine ⟨_, k, fun w => ?_⟩; simp only [VR] at k; obtain ⟨l, _, hk⟩ := k; simp [execOp, hk]
      | map p => simp at h; subst h; refine ⟨_, k, fun w => ?_⟩; simp only [VR] at k; obtain ⟨l, _, hk⟩ := k; simp [execOp, hk]
      | yld p => simp at h; subst h; refine ⟨_, k, fun w => ?_⟩; simp only [VR] at k; obtain ⟨l, _, hk⟩ := k; simp [execOp, hk]
      | ifc t u => simp at h; subst h; refine ⟨_, k, fun w => ?_⟩; simp only [VR] at k; obtain ⟨U, _, hk⟩ := k; simp [execOp, hk]
      | agg l => simp at h; subst h; refine ⟨_, k, fun w => ?_⟩; simp only [VR] at k; obtain ⟨U, _, hk⟩ := k; simp [execOp, hk]
      | tup l => simp at h; subst h; refine ⟨_, k, fun w => ?_⟩; simp only [VR] at k; obtain ⟨U, _, hk⟩ := k; simp [execOp, hk]
      | _ => simp at h; subst h; refine ⟨_, k, fun w => ?_⟩; simp only [VR] at k; simp [execOp, k]
  · rename_i op t x y _
    split at hc
    · rename_i a1 b1 h1 h2
      simp at hc; subst hc
      simp only [evP, evP_pick, evP_nilck, evP_bin, evP_un, evP_conv, evP_convs, evP_mkif, evP_mkfn, evP_slc, evP_fadr, evP_fld, evP_iadrS, evP_iadrA, evP_idxA, evP_extr, evP_lenv, evP_lens, evP_lenm, evP_mm, evP_capv] at h
      split at h
      · rename_i u1 u2 hu1 hu2
        obtain ⟨V, k1, k2⟩ := evBin_sound h (evo_sound ht h1 hu1) (evo_sound ht h2 hu2)
        refine ⟨V, k1, fun w => ?_⟩
        have := k2 w
        simp only [execOp]
        rw [Sem.run_bind, this]
        rfl
      · simp at h
    · simp at hc
  · rename_i op t x
    simp only [Option.map_eq_some_iff] at hc
    obtain ⟨y, hy, rfl⟩ := hc
    simp only [evP, evP_pick, evP_nilck, evP_bin, evP_un, evP_conv, evP_convs, evP_mkif, evP_mkfn, evP_slc, evP_fadr, evP_fld, evP_iadrS, evP_iadrA, evP_idxA, evP_extr, evP_lenv, evP_lens, evP_lenm, evP_mm, evP_capv] at h
    split at h
    · rename_i k n hv
      simp at h; subst h
      have kk := evo_sound ht hy hv
      simp only [VR] at kk
      exact ⟨_, rfl, fun w => by rw [show Int.sub 0 n = -n from by show (0 : Int) - n = -n; omega]; simp [execOp, kk, Op.unary, Op.intArith, fw_eq]⟩
    · rename_i k n hv
      have kk := evo_sound ht hy hv
      simp only [VR] at kk
      simp only [evInt, Option.some.injEq] at h
      subst h
      exact ⟨_, rfl, fun w => by simp [execOp, kk, Op.unary, Op.intBits, fw_eq]⟩
    · rename_i b hv
      simp at h; subst h
      have kk := evo_sound ht hy hv
      simp only [VR] at kk
      exact ⟨_, rfl, fun w => by simp [execOp, kk, Op.unary]⟩
    · simp at h
  · rename_i s d x
    split at hc
    · rename_i u1 k y hs hd hy
      simp at hc; subst hc
      simp only [evP, evP_pick, evP_nilck, evP_bin, evP_un, evP_conv, evP_convs, evP_mkif, evP_mkfn, evP_slc, evP_fadr, evP_fld, evP_iadrS, evP_iadrA, evP_idxA, evP_extr, evP_lenv, evP_lens, evP_lenm, evP_mm, evP_capv] at h
      split at h
      · rename_i k' n hv
        simp at h; subst h
        have kk := evo_sound ht hy hv
        simp only [VR] at kk
        refine ⟨_, rfl, fun w => ?_⟩
        simp [execOp, kk, convert, Go.Proofs.YtldmhpdjlgoenaaGreatDoor.Eo.run_underlying hs, Go.Proofs.YtldmhpdjlgoenaaGreatDoor.Eo.run_underlying hd, Conv.intToInt, fw_eq]
      · simp at h
    · rename_i u1 y hs hd hy
      simp at hc; subst hc
      simp only [evP, evP_pick, evP_nilck, evP_bin, evP_un, evP_conv, evP_convs, evP_mkif, evP_mkfn, evP_slc, evP_fadr, evP_fld, evP_iadrS, evP_iadrA, evP_idxA, evP_extr, evP_lenv, evP_lens, evP_lenm, evP_mm, evP_capv] at h
      split at h
      · rename_i b hv
        simp at h; subst h
        have kk := evo_sound ht hy hv
        simp only [VR] at kk
        refine ⟨_, rfl, fun w => ?_⟩
        simp [execOp, kk, convert, Go.Proofs.YtldmhpdjlgoenaaGreatDoor.Eo.run_underlying hs, Go.Proofs.YtldmhpdjlgoenaaGreatDoor.Eo.run_underlying hd]
      · rename_i k n hv
        simp at h; subst h
        have kk := evo_sound ht hy hv
        simp only [VR] at kk
        refine ⟨_, rfl, fun w => ?_⟩
        simp [execOp, kk, convert, Go.Proofs.YtldmhpdjlgoenaaGreatDoor.Eo.run_underlying hs, Go.Proofs.YtldmhpdjlgoenaaGreatDoor.Eo.run_underlying hd, Conv.intToString]
      · simp at h
    · simp at hc
  · rename_i t x
    split at hc
    · simp at hc
    · rename_i d y hne hu hy
      simp at hc; subst hc
      simp only [evP, evP_pick, evP_nilck, evP_bin, evP_un, evP_conv, evP_convs, evP_mkif, evP_mkfn, evP_slc, evP_fadr, evP_fld, evP_iadrS, evP_iadrA, evP_idxA, evP_extr, evP_lenv, evP_lens, evP_lenm, evP_mm, evP_capv] at h
      split at h
      · rename_i u hv
        simp at h; subst h
        have kk := evo_sound ht hy hv
        refine ⟨_, ⟨_, kk, rfl⟩, fun w => ?_⟩
        simp only [execOp, Instr.makeInterface, Sem.run_bind, Go.Proofs.YtldmhpdjlgoenaaGreatDoor.Eo.run_underlying hu, Result.andThen_ok]
        cases d <;> first | (exact absurd hu (hne _)) | rfl
      · simp at h
    · simp at hc
  · rename_i f fs cs
    split at hc
    · rename_i a1 b1 h1 h2
      simp at hc; subst hc
      simp only [evP, evP_pick, evP_nilck, evP_bin, evP_un, evP_conv, evP_convs, evP_mkif, evP_mkfn, evP_slc, evP_fadr, evP_fld, evP_iadrS, evP_iadrA, evP_idxA, evP_extr, evP_lenv, evP_lens, evP_lenm, evP_mm, evP_capv] at h
      split at h
      · rename_i u1 u2 hu1 hu2
        simp at h; subst h
        have k1 := evos_sound ht h1 hu1
        have k2 := evos_sound ht h2 hu2
        exact ⟨_, ⟨_, _, k1, k2, rfl⟩, fun w => by simp [execOp, Instr.makeFunc]; constructor <;> (apply Array.ext'; simp)⟩
      · simp at h
    · simp at hc
  · rename_i t x lo hi mx
    split at hc
    · rename_i e hu
      split at hc
      · rename_i es y l hh m hs hx hlo hhi hmx
        simp at hc; subst hc
        simp only [evP, evP_pick, evP_nilck, evP_bin, evP_un, evP_conv, evP_convs, evP_mkif, evP_mkfn, evP_slc, evP_fadr, evP_fld, evP_iadrS, evP_iadrA, evP_idxA, evP_extr, evP_lenv, evP_lens, evP_lenm, evP_mm, evP_capv] at h
        split at h
        · rename_i u l' h' m' hu1 hl1 hh1 hm1
          obtain ⟨V, k1, k2⟩ := evSlc_sound hu hs (evo_sound ht hx hu1) (evoO_sound ht hlo hl1) (evoO_sound ht hhi hh1) (evoO_sound ht hmx hm1) h
          exact ⟨V, k1, fun w => by simp [execOp, k2]⟩
        · simp at h
      · simp at hc
    · simp at hc
  · rename_i t x f
    split at hc
    · rename_i fs hu
      split at hc
      · rename_i fd hf
        split at hc
        · rename_i n y hs hx
          simp at hc; subst hc
          simp only [evP, evP_pick, evP_nilck, evP_bin, evP_un, evP_conv, evP_convs, evP_mkif, evP_mkfn, evP_slc, evP_fadr, evP_fld, evP_iadrS, evP_iadrA, evP_idxA, evP_extr, evP_lenv, evP_lens, evP_lenm, evP_mm, evP_capv] at h
          split at h
          · rename_i p o hv
            simp at h; subst h
            have kk := evo_sound ht hx hv
            simp only [VR] at kk
            obtain ⟨l, hl, kk⟩ := kk
            refine ⟨.pointer (some ⟨l.blk, l.off + (o + fd.offset), none⟩), ⟨l, hl, rfl⟩, fun w => ?_⟩
            simp only [execOp, kk, Instr.fieldAt, Sem.run_bind, Go.Proofs.YtldmhpdjlgoenaaGreatDoor.Eo.run_underlying hu, Result.andThen_ok, hf, Instr.sureAddr, Sem.run_pure, fieldPlace, run_sizeOf hs]
            rw [if_neg (by omega)]
            simp [addr_add, Nat.add_assoc]
          · simp at h
        · simp at hc
      · simp at hc
    · simp at hc
  · rename_i t x f
    split at hc
    · rename_i fs hu
      split at hc
      · rename_i fd y hf hx
        simp at hc; subst hc
        simp only [evP, evP_pick, evP_nilck, evP_bin, evP_un, evP_conv, evP_convs, evP_mkif, evP_mkfn, evP_slc, evP_fadr, evP_fld, evP_iadrS, evP_iadrA, evP_idxA, evP_extr, evP_lenv, evP_lens, evP_lenm, evP_mm, evP_capv] at h
        split at h
        · rename_i l hv
          have kk := evo_sound ht hx hv
          simp only [VR] at kk
          obtain ⟨L, hL, kk⟩ := kk
          obtain ⟨V, k1, k2⟩ := partA_sound h hL
          refine ⟨V, k1, fun w => ?_⟩
          simp [execOp, kk, Instr.field, Go.Proofs.YtldmhpdjlgoenaaGreatDoor.Eo.run_underlying hu, hf, asAgg, k2]
        · simp at h
      · simp at hc
    · simp at hc
  · rename_i t x i
    split at hc
    · rename_i e hu
      split at hc
      · rename_i es y j hs hx hi
        simp at hc; subst hc
        simp only [evP, evP_pick, evP_nilck, evP_bin, evP_un, evP_conv, evP_convs, evP_mkif, evP_mkfn, evP_slc, evP_fadr, evP_fld, evP_iadrS, evP_iadrA, evP_idxA, evP_extr, evP_lenv, evP_lens, evP_lenm, evP_mm, evP_capv] at h
        split at h
        · rename_i p o len es' cap jv hv hj
          cases he : Nat.beq es es'
          · rw [he] at h; simp at h
          · rw [he, cond_true] at h
            have he' := Nat.eq_of_beq_eq_true he
            split at h
            · rename_i m hm
              simp at h; subst h
              have kk := evo_sound ht hx hv
              obtain ⟨hlt, k, hJ⟩ := evIdx_spec hm (evo_sound ht hi hj)
              have key : ∃ l c, ρ p = some l ∧ a.eval x = .slice (some ⟨l.blk, l.off + o, none⟩) len c := by
                cases cap with
                | some c => simp only [VR] at kk; obtain ⟨l, h1, _, h2⟩ := kk; exact ⟨l, _, h1, h2⟩
                | none =>
                  simp only [VR] at kk
                  obtain ⟨l, h1, _, _, h2 | ⟨h0, _⟩⟩ := kk
                  · exact ⟨l, _, h1, h2⟩
                  · omega
              obtain ⟨l, c, hl, kk⟩ := key
              refine ⟨.pointer (some ⟨l.blk, l.off + (o + m * es), none⟩), ⟨l, hl, rfl⟩, fun w => ?_⟩
              have hcnd : (0 : Int) ≤ (m : Int) ∧ (m : Int) < ((len : Nat) : Int) := by omega
              simp only [execOp, kk, hJ, Instr.indexAt, asIntOf, Sem.run_bind, Sem.run_pure, Result.andThen_ok, Go.Proofs.YtldmhpdjlgoenaaGreatDoor.Eo.run_underlying hu, if_pos hcnd, run_sizeOf hs, Int.toNat_natCast, addr_add, Nat.add_assoc]
            · simp at h
        · simp at h
      · simp at hc
    · rename_i n e hu
      split at hc
      · rename_i es y j hs hx hi
        simp at hc; subst hc
        simp only [evP, evP_pick, evP_nilck, evP_bin, evP_un, evP_conv, evP_convs, evP_mkif, evP_mkfn, evP_slc, evP_fadr, evP_fld, evP_iadrS, evP_iadrA, evP_idxA, evP_extr, evP_lenv, evP_lens, evP_lenm, evP_mm, evP_capv] at h
        split at h
        · rename_i p o jv hv hj
          split at h
          · rename_i m hm
            simp at h; subst h
            have kk := evo_sound ht hx hv
            simp only [VR] at kk
            obtain ⟨l, hl, kk⟩ := kk
            obtain ⟨hlt, k, hJ⟩ := evIdx_spec hm (evo_sound ht hi hj)
            refine ⟨.pointer (some ⟨l.blk, l.off + (o + m * es), none⟩), ⟨l, hl, rfl⟩, fun w => ?_⟩
            have hcnd : (0 : Int) ≤ (m : Int) ∧ (m : Int) < ((n : Nat) : Int) := by omega
            simp only [execOp, kk, hJ, Instr.indexAt, Instr.sureAddr, asIntOf, Sem.run_bind, Sem.run_pure, Result.andThen_ok, Go.Proofs.YtldmhpdjlgoenaaGreatDoor.Eo.run_underlying hu, if_pos hcnd, run_sizeOf hs, Int.toNat_natCast, addr_add, Nat.add_assoc]
          · simp at h
        · simp at h
      · simp at hc
    · simp at hc
  · rename_i t x i
    split at hc
    · rename_i n e hu
      split at hc
      · rename_i es y j hs hx hi
        simp at hc; subst hc
        simp only [evP, evP_pick, evP_nilck, evP_bin, evP_un, evP_conv, evP_convs, evP_mkif, evP_mkfn, evP_slc, evP_fadr, evP_fld, evP_iadrS, evP_iadrA, evP_idxA, evP_extr, evP_lenv, evP_lens, evP_lenm, evP_mm, evP_capv] at h
        split at h
        · rename_i l jv hv hj
          split at h
          · rename_i m hm
            have kk := evo_sound ht hx hv
            simp only [VR] at kk
            obtain ⟨L, hL, kk⟩ := kk
            obtain ⟨hlt, k, hJ⟩ := evIdx_spec hm (evo_sound ht hi hj)
            obtain ⟨V, k1, k2⟩ := partA_sound h hL
            refine ⟨V, k1, fun w => ?_⟩
            have hcnd : (0 : Int) ≤ (m : Int) ∧ (m : Int) < ((n : Nat) : Int) := by omega
            simp only [execOp, kk, hJ, Instr.index, asIntOf, Sem.run_bind, Sem.run_pure, Result.andThen_ok, Go.Proofs.YtldmhpdjlgoenaaGreatDoor.Eo.run_underlying hu, if_pos hcnd, run_sizeOf hs, Int.toNat_natCast, k2]
          · simp at h
        · simp at h
      · simp at hc
    · simp at hc
  · rename_i x i
    simp only [Option.map_eq_some_iff] at hc
    obtain ⟨y, hy, rfl⟩ := hc
    simp only [evP, evP_pick, evP_nilck, evP_bin, evP_un, evP_conv, evP_convs, evP_mkif, evP_mkfn, evP_slc, evP_fadr, evP_fld, evP_iadrS, evP_iadrA, evP_idxA, evP_extr, evP_lenv, evP_lens, evP_lenm, evP_mm, evP_capv] at h
    split at h
    · rename_i l hv
      have kk := evo_sound ht hy hv
      simp only [VR] at kk
      obtain ⟨L, hL, kk⟩ := kk
      obtain ⟨V, k1, k2⟩ := hL.get h
      exact ⟨V, k2, fun w => by simp [execOp, kk, Instr.extract, k1]⟩
    · simp at h
  · rename_i args ats
    split at hc
    · rename_i x t hargs hty
      have hargs' : args = #[x] := by apply Array.ext'; simpa using hargs
      subst hargs'
      split at hc
      · rename_i e y hu hy
        simp at hc; subst hc
        simp only [evP, evP_pick, evP_nilck, evP_bin, evP_un, evP_conv, evP_convs, evP_mkif, evP_mkfn, evP_slc, evP_fadr, evP_fld, evP_iadrS, evP_iadrA, evP_idxA, evP_extr, evP_lenv, evP_lens, evP_lenm, evP_mm, evP_capv] at h
        split at h
        · rename_i p o len es cap hv
          simp at h; subst h
          have kk := evo_sound ht hy hv
          have key : ∃ q c, a.eval x = .slice q len c := by
            cases cap with
            | some c => simp only [VR] at kk; obtain ⟨l, h1, _, h2⟩ := kk; exact ⟨_, _, h2⟩
            | none =>
              simp only [VR] at kk
              obtain ⟨l, h1, _, _, h2 | ⟨h0, z, h2⟩⟩ := kk
              · exact ⟨_, _, h2⟩
              · exact ⟨_, _, by rw [h2, h0]⟩
          obtain ⟨q, c, kk⟩ := key
          refine ⟨_, rfl, fun w => ?_⟩
          obtain ⟨cs, hb⟩ := run_builtin (P := P) (ρ := a.eval) (dst := dst) (type := type) (pos := pos) (after := after) (guard := guard)
          rw [hb]
          simp [builtin, Builtin.len_, hty, kk, Go.Proofs.YtldmhpdjlgoenaaGreatDoor.Eo.run_underlying hu, goInt]
        · rename_i hv
          simp at h; subst h
          have kk := evo_sound ht hy hv
          simp only [VR] at kk
          refine ⟨_, rfl, fun w => ?_⟩
          obtain ⟨cs, hb⟩ := run_builtin (P := P) (ρ := a.eval) (dst := dst) (type := type) (pos := pos) (after := after) (guard := guard)
          rw [hb]
          simp [builtin, Builtin.len_, hty, kk, Go.Proofs.YtldmhpdjlgoenaaGreatDoor.Eo.run_underlying hu, goInt]
        · simp at h
      · rename_i y hu hy
        simp at hc; subst hc
        simp only [evP, evP_pick, evP_nilck, evP_bin, evP_un, evP_conv, evP_convs, evP_mkif, evP_mkfn, evP_slc, evP_fadr, evP_fld, evP_iadrS, evP_iadrA, evP_idxA, evP_extr, evP_lenv, evP_lens, evP_lenm, evP_mm, evP_capv] at h
        split at h
        · rename_i b hv
          simp at h; subst h
          have kk := evo_sound ht hy hv
          simp only [VR] at kk
          refine ⟨_, rfl, fun w => ?_⟩
          obtain ⟨cs, hb⟩ := run_builtin (P := P) (ρ := a.eval) (dst := dst) (type := type) (pos := pos) (after := after) (guard := guard)
          rw [hb]
          simp [builtin, Builtin.len_, hty, kk, Go.Proofs.YtldmhpdjlgoenaaGreatDoor.Eo.run_underlying hu, goInt]
        · simp at h
      · rename_i k e y hu hy
        simp at hc; subst hc
        simp only [evP, evP_pick, evP_nilck, evP_bin, evP_un, evP_conv, evP_convs, evP_mkif, evP_mkfn, evP_slc, evP_fadr, evP_fld, evP_iadrS, evP_iadrA, evP_idxA, evP_extr, evP_lenv, evP_lens, evP_lenm, evP_mm, evP_capv] at h
        split at h
        · rename_i hv
          simp at h; subst h
          have kk := evo_sound ht hy hv
          simp only [VR] at kk
          refine ⟨_, rfl, fun w => ?_⟩
          obtain ⟨cs, hb⟩ := run_builtin (P := P) (ρ := a.eval) (dst := dst) (type := type) (pos := pos) (after := after) (guard := guard)
          rw [hb]
          simp [builtin, Builtin.len_, hty, kk, Go.Proofs.YtldmhpdjlgoenaaGreatDoor.Eo.run_underlying hu, goInt]
        · simp at h
      · simp at hc
    · simp at hc
  · rename_i args ats
    split at hc
    · rename_i x ys hargs
      split at hc
      · rename_i a1 b1 hx hy
        simp at hc; subst hc
        simp only [evP, evP_pick, evP_nilck, evP_bin, evP_un, evP_conv, evP_convs, evP_mkif, evP_mkfn, evP_slc, evP_fadr, evP_fld, evP_iadrS, evP_iadrA, evP_idxA, evP_extr, evP_lenv, evP_lens, evP_lenm, evP_mm, evP_capv] at h
        split at h
        · rename_i u us hu hus
          obtain ⟨V, k1, k2⟩ := mmA_sound (P := P) true h (evo_sound ht hx hu) (evos_sound ht hy hus)
          refine ⟨V, k1, fun w => ?_⟩
          have hl : (args.map a.eval).toList = a.eval x :: ys.map a.eval := by simp [hargs]
          obtain ⟨cs, hb⟩ := run_builtin (P := P) (ρ := a.eval) (dst := dst) (type := type) (pos := pos) (after := after) (guard := guard)
          rw [hb]
          have := k2 w
          simp only [if_true] at this
          simp [builtin, Builtin.max_, hargs, this]
        · simp at h
      · simp at hc
    · simp at hc
  · rename_i args ats
    split at hc
    · rename_i x ys hargs
      split at hc
      · rename_i a1 b1 hx hy
        simp at hc; subst hc
        simp only [evP, evP_pick, evP_nilck, evP_bin, evP_un, evP_conv, evP_convs, evP_mkif, evP_mkfn, evP_slc, evP_fadr, evP_fld, evP_iadrS, evP_iadrA, evP_idxA, evP_extr, evP_lenv, evP_lens, evP_lenm, evP_mm, evP_capv] at h
        split at h
        · rename_i u us hu hus
          obtain ⟨V, k1, k2⟩ := mmA_sound (P := P) false h (evo_sound ht hx hu) (evos_sound ht hy hus)
          refine ⟨V, k1, fun w => ?_⟩
          have hl : (args.map a.eval).toList = a.eval x :: ys.map a.eval := by simp [hargs]
          obtain ⟨cs, hb⟩ := run_builtin (P := P) (ρ := a.eval) (dst := dst) (type := type) (pos := pos) (after := after) (guard := guard)
          rw [hb]
          have := k2 w
          simp only [Bool.false_eq_true, if_false] at this
          simp [builtin, Builtin.min_, hargs, this]
        · simp at h
      · simp at hc
    · simp at hc
  · rename_i args ats
    split at hc
    · rename_i x t hargs hty
      have hargs' : args = #[x] := by apply Array.ext'; simpa using hargs
      subst hargs'
      split at hc
      · rename_i e y hu hy
        simp at hc; subst hc
        simp only [evP, evP_capv] at h
        split at h
        · rename_i p o len es c hv
          simp at h; subst h
          have kk := evo_sound ht hy hv
          simp only [VR] at kk
          obtain ⟨l, h1, _, kk⟩ := kk
          refine ⟨_, rfl, fun w => ?_⟩
          obtain ⟨cs, hb⟩ := run_builtin (P := P) (ρ := a.eval) (dst := dst) (type := type) (pos := pos) (after := after) (guard := guard)
          rw [hb]
          simp [builtin, Builtin.cap_, hty, kk, Go.Proofs.YtldmhpdjlgoenaaGreatDoor.Eo.run_underlying hu, goInt]
        · rename_i hv
          simp at h; subst h
          have kk := evo_sound ht hy hv
          simp only [VR] at kk
          refine ⟨_, rfl, fun w => ?_⟩
          obtain ⟨cs, hb⟩ := run_builtin (P := P) (ρ := a.eval) (dst := dst) (type := type) (pos := pos) (after := after) (guard := guard)
          rw [hb]
          simp [builtin, Builtin.cap_, hty, kk, Go.Proofs.YtldmhpdjlgoenaaGreatDoor.Eo.run_underlying hu, goInt]
        · simp at h
      · simp at hc
    · simp at hc
  · rename_i x st t
    split at hc
    · simp at hc
    · rename_i u y hni hu hy
      simp at hc; subst hc
      simp only [evP, evP_tas] at h
      split at h
      · rename_i t' v' hv
        cases hb : Nat.beq t' t with
        | false => rw [hb] at h; simp at h
        | true =>
          rw [hb] at h
          simp at h; subst h
          have := Nat.eq_of_beq_eq_true hb
          subst this
          have kk := evo_sound ht hy hv
          simp only [VR] at kk
          obtain ⟨V, h1, h2⟩ := kk
          refine ⟨V, h1, fun w => ?_⟩
          cases u <;> first
            | exact absurd rfl (hni _)
            | simp [execOp, h2, Instr.typeAssert, Go.Proofs.YtldmhpdjlgoenaaGreatDoor.Eo.run_underlying hu]
      · simp at h
    · simp at hc
  · simp at hc
end
end Go.Proofs.YtldmhpdjlgoenaaGreatDoor.Eo

namespace Go.Proofs.YtldmhpdjlgoenaaGreatDoor.Eo
noncomputable section

/-- an operation that reads memory -/
inductive ROp where
  | ld (agg : Option Nat) (x : Opd)
  | eqp (neg : Bool) (x y : Opd)
  | lenm (x : Opd)

def ldA (g : Nat → Option AO) (agg : Option Nat) (a o : Nat) : Option AV :=
  match g a with
  | some (.row cells _ _) => match agg with
    | none => cells.get o
    | some n => match getList cells o n with
      | some l => some (.agg l)
      | none => none
  | some (.tab cells) => match agg with
    | none => cells.get o
    | some n => match getList cells o n with
      | some l => some (.agg l)
      | none => none
  | _ => none
def evR (tm : T AV) (g : Nat → Option AO) : ROp → Option AV
  | .ld agg x => match evo tm x with
    | some (.ptr a o) => ldA g agg a o
    | _ => none
  | .eqp neg x y => match evo tm x, evo tm y with
    | some (.ptr a o), some (.ptr b o') => match g a, g b with
      | some (.row _ _ _), some (.row _ _ _) => some (.bool (xor neg (Nat.beq a b && Nat.beq o o')))
      | _, _ => none
    | _, _ => none
  | .lenm x => match evo tm x with
    | some (.map a) => match g a with
      | some (.map es _) => some (.int .i64 es.length)
      | _ => none
    | _ => none
def cR (P : Program) (o : Oper) : Option ROp := match o.op with
  | .load t x => match aggOf P t, cOpd x with
    | some g, some y => some (.ld g y)
    | _, _ => none
  | .binOp op t x y _ => match P.underlying t with
    | some (.pointer e) => match sz P e, cOpd x, cOpd y with
      | some (_ + 1), some a, some b => match op with
        | .eql => some (.eqp false a b)
        | .neq => some (.eqp true a b)
        | _ => none
      | _, _, _ => none
    | _ => none
  | .call { callee := .builtin .len, args, argTypes } => match args.toList, argTypes[0]? with
    | [x], some t => match P.underlying t, cOpd x with
      | some (.map _ _), some y => some (.lenm y)
      | _, _ => none
    | _, _ => none
  | _ => none

theorem ldA_sound {P : Program} {ρ : Rho} {g : Nat → Option AO} {w : World} (hr : HR ρ g w) {t : TypeId} {agg : Option Nat} (ha : aggOf P t = some agg) {a o : Nat} {v : AV} (h : ldA g agg a o = some v) {l : Loc} (hl : ρ a = some l) :
    ∃ V, VR ρ v V ∧ (loadVar t ⟨l.blk, l.off + o, none⟩).run P w = .ok V w := by
  unfold ldA at h
  split at h
  · rename_i cells len e hg
    split at h
    · obtain ⟨V, k1, k2, k3⟩ := cell_of hr hg hl h
      exact ⟨V, k1, by simp only [loadVar, Sem.run_bind, run_isAgg ha, Result.andThen_ok, Option.isSome, Bool.false_eq_true, if_false]; exact load_cell k3 _⟩
    · rename_i n
      split at h
      · rename_i vs hvs
        simp at h; subst h
        obtain ⟨Vs, k1, k2, k3, k4⟩ := cells_of hr hg hl hvs
        refine ⟨.agg Vs.toArray, ⟨Vs, k1, rfl⟩, ?_⟩
        have := load_list (P := P) (w := w) (a := ⟨l.blk, l.off + o, none⟩) (n := n) k2 rfl k4
        simp [loadVar, run_isAgg ha, run_sizeOf (aggOf_size ha), this]
      · simp at h
  · rename_i cells hg
    split at h
    · obtain ⟨_, c, e, f, h1, h2⟩ := hr.obj a _ _ hg rfl hl
      obtain ⟨V, k1, k2, k3⟩ := h2 o v h
      refine ⟨V, k1, ?_⟩
      have hc : w.cell? ⟨l.blk, l.off + o, none⟩ = some V := by
        unfold World.cell?
        rw [h1]
        simpa using k3
      simp only [loadVar, Sem.run_bind, run_isAgg ha, Result.andThen_ok, Option.isSome, Bool.false_eq_true, if_false]
      exact load_cell hc _
    · rename_i n
      split at h
      · rename_i vs hvs
        simp at h; subst h
        obtain ⟨Vs, k1, k2, k3, k4⟩ := cells_of_tab hr hg hl hvs
        refine ⟨.agg Vs.toArray, ⟨Vs, k1, rfl⟩, ?_⟩
        have := load_list (P := P) (w := w) (a := ⟨l.blk, l.off + o, none⟩) (n := n) k2 rfl k4
        simp [loadVar, run_isAgg ha, run_sizeOf (aggOf_size ha), this]
      · simp at h
  · simp at h

theorem evR_sound {P : Program} {o : Oper} {c : ROp} {tm : T AV} {v : AV} {ρ : Rho} {a : Act} {g : Nat → Option AO} {w : World} (hc : cR P o = some c) (h : evR tm g c = some v) (ht : TR ρ tm a.tmps) (hr : HR ρ g w) :
    ∃ V, VR ρ v V ∧ (execOp a.eval o).run P w = .ok (.value V) w := by
  obtain ⟨dst, op, type, pos, after, guard⟩ := o
  unfold cR at hc
  simp only [] at hc
  split at hc
  · rename_i t x
    split at hc
    · rename_i agg y hagg hy
      simp at hc; subst hc
      simp only [evR] at h
      split at h
      · rename_i p q hv
        have kk := evo_sound ht hy hv
        simp only [VR] at kk
        obtain ⟨l, hl, kk⟩ := kk
        obtain ⟨V, k1, k2⟩ := ldA_sound hr hagg h hl
        exact ⟨V, k1, by simp [execOp, kk, Instr.loadAt, Instr.sureAddr, k2]⟩
      · simp at h
    · simp at hc
  · rename_i op t x y _
    split at hc
    · rename_i e hu
      split at hc
      · rename_i n a1 b1 hs hx hy
        have main : ∀ {p q p' q' : Nat}, evo tm a1 = some (.ptr p q) → evo tm b1 = some (.ptr p' q') → ∀ {c1 c2 : T AV} {l1 l2 : Nat} {e1 e2 : TypeId}, g p = some (.row c1 l1 e1) → g p' = some (.row c2 l2 e2) →
            ∃ A B, a.eval x = .pointer (some A) ∧ a.eval y = .pointer (some B) ∧ (Op.equal t (.pointer (some A)) (.pointer (some B))).run P w = .ok (Nat.beq p p' && Nat.beq q q') w := by
          intro p q p' q' h1 h2 c1 c2 l1 l2 e1 e2 hg1 hg2
          have k1 := evo_sound ht hx h1
          have k2 := evo_sound ht hy h2
          simp only [VR] at k1 k2
          obtain ⟨l, hl, k1⟩ := k1
          obtain ⟨m, hm, k2⟩ := k2
          refine ⟨_, _, k1, k2, ?_⟩
          obtain ⟨b1, _, cc1, hh1, _⟩ := hr.row hg1 hl
          obtain ⟨b2, _, cc2, hh2, _⟩ := hr.row hg2 hm
          have ten : Op.maxDepth = 9999 + 1 := rfl
          unfold Op.equal
          rw [ten, Op.equalIn]
          simp only [Sem.run_bind, Go.Proofs.YtldmhpdjlgoenaaGreatDoor.Eo.run_underlying hu, Result.andThen_ok, run_sizeOf hs, ne_eq, Nat.add_eq_zero_iff, Nat.succ_ne_zero, and_false, not_false_eq_true, if_true]
          rw [beq_iff, beq_iff]
          by_cases e : p = p'
          · subst e
            rw [hl] at hm; simp at hm; subst hm
            simp only [sameAddr, beq_self_eq_true, if_true, Sem.run_pure, decide_true, Bool.true_and]
            congr 1
            rw [Bool.eq_iff_iff]
            simp [Addr.mk.injEq]
          · have hne : l.blk ≠ m.blk := fun hh => e (hr.inj p p' _ _ l m hg1 rfl hg2 rfl hl hm hh)
            have hb : (l.blk == m.blk) = false := by simpa using hne
            simp only [sameAddr, hb, Bool.false_eq_true, if_false]
            simp [World.frozen?, World.shape?, hh1, hh2, noView, viewAt, mayBeOne, stringish, e]
        split at hc
        · simp at hc; subst hc
          simp only [evR] at h
          split at h
          · rename_i p q p' q' h1 h2
            split at h
            · rename_i c1 l1 e1 c2 l2 e2 hg1 hg2
              simp at h; subst h
              obtain ⟨A, B, k1, k2, k3⟩ := main h1 h2 hg1 hg2
              refine ⟨_, rfl, ?_⟩
              simp [execOp, k1, k2, eqGuard, binOp, k3]
            · simp at h
          · simp at h
        · simp at hc; subst hc
          simp only [evR] at h
          split at h
          · rename_i p q p' q' h1 h2
            split at h
            · rename_i c1 l1 e1 c2 l2 e2 hg1 hg2
              simp at h; subst h
              obtain ⟨A, B, k1, k2, k3⟩ := main h1 h2 hg1 hg2
              refine ⟨_, rfl, ?_⟩
              simp [execOp, k1, k2, eqGuard, binOp, k3]
            · simp at h
          · simp at h
        · simp at hc
      · simp at hc
    · simp at hc
  · rename_i args ats
    split at hc
    · rename_i x t hargs hty
      have hargs' : args = #[x] := by apply Array.ext'; simpa using hargs
      subst hargs'
      split at hc
      · rename_i k e y hu hy
        simp at hc; subst hc
        simp only [evR] at h
        split at h
        · rename_i p hv
          split at h
          · rename_i es clock hg
            simp at h; subst h
            have kk := evo_sound ht hy hv
            simp only [VR] at kk
            obtain ⟨l, hl, kk⟩ := kk
            obtain ⟨h2, ES, h3, h4⟩ := hr.obj p _ l hg rfl hl
            have hlen : ∀ {es : List (AV × AV × Nat)} {ES : List MapEntry}, ERs ρ es ES → ES.length = es.length := by
              intro es
              induction es with
              | nil => intro ES h; simp only [ERs] at h; simp [h]
              | cons x xs ih => intro ES h; obtain ⟨E, M, _, _, _, h5, rfl⟩ := h; simp [ih h5]
            obtain ⟨cs, hb⟩ := run_builtin (P := P) (ρ := a.eval) (b := .len) (args := #[x]) (ats := ats) (dst := dst) (type := type) (pos := pos) (after := after) (guard := guard)
            refine ⟨_, rfl, ?_⟩
            rw [hb]
            simp [builtin, Builtin.len_, hty, kk, Go.Proofs.YtldmhpdjlgoenaaGreatDoor.Eo.run_underlying hu, goInt, getObj, Sem.run, h4, hlen h3]
          · simp at h
        · simp at h
      · simp at hc
    · simp at hc
  · simp at hc
end
end Go.Proofs.YtldmhpdjlgoenaaGreatDoor.Eo
