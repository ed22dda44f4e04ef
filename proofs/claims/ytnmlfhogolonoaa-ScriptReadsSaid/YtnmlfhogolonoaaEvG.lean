/-
  An evaluator of Go code over relative heaps, part G: the operations that read no memory do what the evaluator says.
-/
import Derived.Test.YtnmlfhogolonoaaEvF
import Derived.Laws.Tables
set_option linter.unusedVariables false
set_option linter.unusedSimpArgs false
namespace Go.Proofs.Ytnmlfhogolonoaa.Ev
noncomputable section

theorem oneA_one {ρ : Rho} {v : AV} {V : Value} (h : VR ρ v V) (ho : oneA v = true) : one V = true := by
  cases v with
  | agg l => simp [oneA] at ho
  | tup l => simp [oneA] at ho
  | sl a o len es cap =>
    cases cap with
    | some c => simp only [VR] at h; obtain ⟨l, _, _, rfl⟩ := h; rfl
    | none => simp only [VR] at h; obtain ⟨l, _, _, _, rfl | ⟨_, x, rfl⟩⟩ := h <;> rfl
  | ptr a o => simp only [VR] at h; obtain ⟨l, _, rfl⟩ := h; rfl
  | map a => simp only [VR] at h; obtain ⟨l, _, rfl⟩ := h; rfl
  | fn f x y => simp only [VR] at h; obtain ⟨F, C, _, _, rfl⟩ := h; rfl
  | ifc t u => simp only [VR] at h; obtain ⟨U, _, rfl⟩ := h; rfl
  | _ => simp only [VR] at h; subst h; rfl
theorem all_one {ρ : Rho} : ∀ {l : List AV} {L : List Value}, VRs ρ l L → l.all oneA = true → ∀ V ∈ L, one V = true
  | [], L, h, _ => by simp only [VRs] at h; subst h; simp
  | v :: l, L, h, ha => by
    simp only [VRs] at h
    obtain ⟨V, M, h1, h2, rfl⟩ := h
    simp only [List.all_cons, Bool.and_eq_true] at ha
    intro U hU
    rcases List.mem_cons.1 hU with rfl | hU
    · exact oneA_one h1 ha.1
    · exact all_one h2 ha.2 U hU
theorem cells_one {V : Value} (h : one V = true) : V.cells = #[V] := by cases V <;> first | rfl | simp [one] at h
theorem cellsA_sound {ρ : Rho} {v : AV} {V : Value} (h : VR ρ v V) {l : List AV} (hl : cellsA v = some l) : VRs ρ l V.cells.toList ∧ ∀ U ∈ V.cells.toList, one U = true := by
  cases v with
  | agg m =>
    simp only [VR] at h
    obtain ⟨L, h1, rfl⟩ := h
    cases hm : m.all oneA
    · simp [cellsA, hm] at hl
    · simp [cellsA, hm] at hl; subst hl
      exact ⟨by simpa [Value.cells] using h1, by simpa [Value.cells] using all_one h1 hm⟩
  | tup m => simp [cellsA] at hl
  | _ =>
    simp only [cellsA, Option.some.injEq] at hl; subst hl
    have ho := oneA_one h rfl
    rw [cells_one ho]
    exact ⟨⟨V, [], h, rfl, rfl⟩, by simpa using ho⟩

theorem layAt_sound {ρ : Rho} : ∀ {l : List AV} {L : List Value} (k : Nat) {zs : List AV} {Z : Array Value} (off : Nat), VRs ρ l L → VRs ρ zs Z.toList →
    VRs ρ (layAt (off + k) l zs) ((L.zipIdx k).foldl (fun cs (x : Value × Nat) => cs.setIfInBounds (off + x.2) x.1) Z).toList ∧ ((L.zipIdx k).foldl (fun cs (x : Value × Nat) => cs.setIfInBounds (off + x.2) x.1) Z).size = Z.size
  | [], L, k, zs, Z, off, h, hz => by simp only [VRs] at h; subst h; exact ⟨by simpa [layAt] using hz, rfl⟩
  | v :: l, L, k, zs, Z, off, h, hz => by
    simp only [VRs] at h
    obtain ⟨V, M, h1, h2, rfl⟩ := h
    simp only [List.zipIdx_cons, List.foldl_cons, layAt]
    have hz' : VRs ρ (zs.set (off + k) v) (Z.setIfInBounds (off + k) V).toList := by
      simpa using hz.set (off + k) h1
    obtain ⟨k1, k2⟩ := layAt_sound (k + 1) off h2 hz'
    refine ⟨?_, by simpa using k2⟩
    rw [show off + k + 1 = off + (k + 1) by omega]
    exact k1

theorem built_eq {P : Program} {t : TypeId} {parts : List (Nat × Value)} {i : TypeInfo} {z : Value} (hi : P.info? t = some i) (hz : i.zero = some z) (hk : canBuild P t = true) :
    P.built t parts = Instr.fill (plc P t) z.cells parts := by
  unfold canBuild at hk
  unfold Program.built
  split at hk
  · rename_i n e hu
    simp only [hi, hu]
    cases he : P.info? e with
    | none => simp [sz, he] at hk
    | some ie =>
      simp only [hz]
      congr 1
      funext j
      simp [plc, hu, sz, he]
  · rename_i fs hu
    simp only [hi, hu]
    cases hm : fs.toList.mapM (fun f => (P.info? f.type).map fun i => (f.offset, i.size)) with
    | none => rw [hm] at hk; simp at hk
    | some places =>
      simp only [hz]
      congr 1
      funext j
      simp [plc, hu, hm]
  · simp at hk

theorem fill_sound {pl : Nat → Option (Nat × Nat)} {ρ : Rho} {tm : T AV} {a : Act} (ht : TR ρ tm a.tmps) : ∀ {ps : List (Nat × Operand)} {cs : List (Nat × Nat × Opd)} {zs r : List AV} {Z : Array Value}, cParts pl ps = some cs → layAll tm cs zs = some r → VRs ρ zs Z.toList →
    ∃ R, Instr.fill pl Z (ps.map fun p => (p.1, a.eval p.2)) = some R ∧ VRs ρ r R.toList
  | [], cs, zs, r, Z, hc, hl, hz => by
    simp [cParts] at hc; subst hc
    simp [layAll] at hl; subst hl
    exact ⟨Z, by simp [Instr.fill], hz⟩
  | (i, x) :: ps, cs, zs, r, Z, hc, hl, hz => by
    unfold cParts at hc
    split at hc
    · rename_i off n y hp hy
      split at hc
      · rename_i m hm
        simp at hc; subst hc
        unfold layAll at hl
        split at hl
        · rename_i v hv
          split at hl
          · rename_i l hcl
            cases hb : (Nat.beq l.length n && Nat.ble (off + l.length) zs.length)
            · rw [hb] at hl; simp at hl
            · rw [hb, cond_true] at hl
              simp only [Bool.and_eq_true] at hb
              have hn := Nat.eq_of_beq_eq_true hb.1
              have hle := Nat.le_of_ble_eq_true hb.2
              have hV := evo_sound ht hy hv
              obtain ⟨k1, k2⟩ := cellsA_sound hV hcl
              have hlen := k1.length
              have hzl := hz.length
              simp only [Array.length_toList] at hlen hzl
              obtain ⟨j1, j2⟩ := layAt_sound (ρ := ρ) 0 off k1 hz
              rw [Nat.add_zero] at j1
              obtain ⟨R, e1, e2⟩ := fill_sound ht hm hl j1
              refine ⟨R, ?_, e2⟩
              simp only [List.map_cons, Instr.fill, hp]
              rw [if_neg (by simp; omega)]
              rw [← e1]
              congr 1
              rw [← Array.foldl_toList, Array.toList_zipIdx]
          · simp at hl
        · simp at hl
      · simp at hc
    · simp at hc
end
end Go.Proofs.Ytnmlfhogolonoaa.Ev
