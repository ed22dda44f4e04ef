/-
  An evaluator of Go code over relative heaps, part E: slices, fields, indexes: what reads no memory.
-/
import Derived.Test.YtnmlfhogolonoaaEvD
set_option linter.unusedVariables false
set_option linter.unusedSimpArgs false
namespace Go.Proofs.Ytnmlfhogolonoaa.Ev
noncomputable section

def bnd (y : Nat) : AV → Option Nat
  | .int _ (.ofNat m) => cond (Nat.ble m y) (some m) none
  | _ => none
theorem bnd_le {y m : Nat} {a : AV} (h : bnd y a = some m) : m ≤ y := by
  unfold bnd at h
  split at h
  · rename_i k m'
    cases hc : Nat.ble m' y
    · rw [hc] at h; simp at h
    · rw [hc] at h; simp at h; subst h; exact Nat.le_of_ble_eq_true hc
  · simp at h
theorem bnd_sound {P : Program} {ρ : Rho} {y z m : Nat} {a : AV} {A : Value} (ha : VR ρ a A) (h : bnd y a = some m) (hz : y ≤ z) (code : BoundsCode) (w : World) : (Instr.sliceBound A z code).run P w = .ok m w := by
  have hle := bnd_le h
  unfold bnd at h
  split at h
  · rename_i k m'
    cases hc : Nat.ble m' y
    · rw [hc] at h; simp at h
    · rw [hc] at h; simp at h; subst h
      simp only [VR] at ha; subst ha
      have h1 : (0 : Int) ≤ Int.ofNat m' ∧ Int.ofNat m' ≤ (z : Int) := by constructor <;> simp <;> omega
      simp only [Instr.sliceBound, Sem.run_bind, asIntOf, Sem.run_pure, Result.andThen_ok, if_pos h1]
      simp
  · simp at h
/-- a bound that may be left out -/
def bndo (y d : Nat) : Option AV → Option Nat
  | some v => bnd y v
  | none => some d
def OVR (ρ : Rho) : Option AV → Option Value → Prop
  | none, none => True
  | some v, some V => VR ρ v V
  | _, _ => False
theorem bndo_le {y d m : Nat} {a : Option AV} (h : bndo y d a = some m) (hd : d ≤ y) : m ≤ y := by
  cases a with
  | some v => exact bnd_le h
  | none => simp [bndo] at h; omega
theorem bndo_sound {P : Program} {ρ : Rho} {y z d m : Nat} {a : Option AV} {A : Option Value} (ha : OVR ρ a A) (h : bndo y d a = some m) (hz : y ≤ z) (code : BoundsCode) (w : World) :
    (match A with | some v => Instr.sliceBound v z code | none => pure d : Sem Nat).run P w = .ok m w := by
  cases a with
  | some v =>
    cases A with
    | some V => exact bnd_sound (ρ := ρ) ha h hz code w
    | none => exact False.elim ha
  | none =>
    cases A with
    | some V => exact False.elim ha
    | none => simp [bndo] at h; subst h; rfl
/-- the low, high and greatest bound: (l, h, m); m none: the capacity, which is not known -/
def bnds (len : Nat) (cap : Option Nat) (lo hi mx : Option AV) : Option (Nat × Nat × Option Nat) :=
  match mx with
  | some v => match bnd (cap.getD len) v with
    | some m => match hi with
      | some u => match bnd m u with
        | some h => match bndo h 0 lo with
          | some l => some (l, h, some m)
          | none => none
        | none => none
      | none => none
    | none => none
  | none => match bndo (cap.getD len) len hi with
    | some h => match bndo h 0 lo with
      | some l => some (l, h, cap)
      | none => none
    | none => none
theorem bnds_sound {P : Program} {ρ : Rho} {len : Nat} {cap : Option Nat} {lo hi mx : Option AV} {LO HI MX : Option Value} (h1 : OVR ρ lo LO) (h2 : OVR ρ hi HI) (h3 : OVR ρ mx MX) {l h : Nat} {m : Option Nat}
    (hb : bnds len cap lo hi mx = some (l, h, m)) {C : Nat} (hC : ∀ c, cap = some c → c = C) (hlen : len ≤ C) (s : Bool) (w : World) :
    (Instr.sliceBounds s len C LO HI MX).run P w = .ok (l, h, m.getD C) w ∧ l ≤ h ∧ (m = cap ∨ m.isSome = true) ∧ (∀ x, m = some x → h ≤ x ∧ x ≤ C) ∧ (cap = none → h ≤ len) ∧ (cap = none → ∀ x, m = some x → x ≤ len) := by
  have htop : cap.getD len ≤ C := by
    cases cap with
    | none => exact hlen
    | some c => have := hC c rfl; simp; omega
  have htop2 : len ≤ cap.getD len := by
    cases cap with
    | none => simp
    | some c => have := hC c rfl; simp; omega
  have htop3 : cap = none → cap.getD len = len := fun e => by rw [e]; rfl
  unfold bnds at hb
  cases mx with
  | some mv =>
    cases MX with
    | none => exact False.elim h3
    | some MV =>
      simp only [] at hb
      split at hb
      · rename_i m' hm
        split at hb
        · rename_i hv
          cases HI with
          | none => exact False.elim h2
          | some HV =>
            split at hb
            · rename_i h' hh
              split at hb
              · rename_i l' hl
                simp at hb
                obtain ⟨rfl, rfl, rfl⟩ := hb
                have e1 := bnd_sound (P := P) (ρ := ρ) h3 hm htop (if s then .slice3Acap else .slice3Alen) w
                have e2 := bnd_sound (P := P) (ρ := ρ) h2 hh (Nat.le_refl _) .slice3B w
                have k1 := bnd_le hm
                have k2 := bnd_le hh
                have k3 := bndo_le hl (Nat.zero_le _)
                have e3 := bndo_sound (P := P) h1 hl (Nat.le_refl _) .slice3C w
                refine ⟨?_, k3, .inr rfl, fun x hx => ?_, fun hc => ?_, fun hc x hx => ?_⟩
                · simp only [Instr.sliceBounds, Sem.run_bind, e1, Result.andThen_ok, e2]
                  cases LO with
                  | none => simp only [Sem.run_pure] at e3; injection e3 with e3; subst e3; simp
                  | some LV => simp only [] at e3; simp [e3]
                · simp at hx; omega
                · have := htop3 hc; omega
                · have := htop3 hc; simp at hx; omega
              · simp at hb
            · simp at hb
        · simp at hb
      · simp at hb
  | none =>
    cases MX with
    | some MV => exact False.elim h3
    | none =>
      simp only [] at hb
      split at hb
      · rename_i h' hh
        split at hb
        · rename_i l' hl
          simp at hb
          obtain ⟨rfl, rfl, rfl⟩ := hb
          have k2 := bndo_le hh htop2
          have k3 := bndo_le hl (Nat.zero_le _)
          have e2 := bndo_sound (P := P) h2 hh htop (if s then .sliceAcap else .sliceAlen) w
          have e3 := bndo_sound (P := P) h1 hl (Nat.le_refl _) .sliceB w
          refine ⟨?_, k3, .inl rfl, fun x hx => ?_, fun hc => ?_, fun hc x hx => ?_⟩
          · have hcap : cap.getD C = C := by
              cases cap with
              | none => rfl
              | some c => exact hC c rfl
            simp only [Instr.sliceBounds, Sem.run_bind, Sem.run_pure, Result.andThen_ok]
            cases HI with
            | none =>
              simp only [Sem.run_pure, Result.andThen_ok] at e2 ⊢
              injection e2 with e2; subst e2
              cases LO with
              | none => simp only [Sem.run_pure, Result.andThen_ok] at e3 ⊢; injection e3 with e3; subst e3; simp [hcap]
              | some LV => simp only [] at e3; simp [e3, hcap]
            | some HV =>
              simp only [] at e2
              cases LO with
              | none => simp only [Sem.run_pure] at e3; injection e3 with e3; subst e3; simp [e2, hcap]
              | some LV => simp only [] at e3; simp [e2, e3, hcap]
          · have := hC x hx; rw [hx] at k2; simp at k2; omega
          · have := htop3 hc; omega
          · rw [hc] at hx; simp at hx
        · simp at hb
      · simp at hb

/-- x[lo:hi:mx] of a slice; es: the size of an element -/
def evSlc (es : Nat) (x : AV) (lo hi mx : Option AV) : Option AV := match x with
  | .sl a o len es' cap => cond (Nat.beq es es')
    (match bnds len cap lo hi mx with
     | some (l, h, none) => some (.sl a (o + l * es) (h - l) es none)
     | some (l, h, some m) => cond (cap.isSome || Nat.blt 0 len) (some (.sl a (cond (Nat.beq m l) o (o + l * es)) (h - l) es (some (m - l)))) none
     | none => none) none
  | .nils => match bnds 0 (some 0) lo hi mx with
    | some _ => some .nils
    | none => none
  | _ => none
theorem evSlc_sound {P : Program} {t elem : TypeId} {es : Nat} (ht : P.underlying t = some (.slice elem)) (hs : sz P elem = some es) {ρ : Rho} {x v : AV} {lo hi mx : Option AV} {X : Value} {LO HI MX : Option Value}
    (hx : VR ρ x X) (h1 : OVR ρ lo LO) (h2 : OVR ρ hi HI) (h3 : OVR ρ mx MX) (h : evSlc es x lo hi mx = some v) : ∃ V, VR ρ v V ∧ ∀ w, (Instr.sliceAt t X LO HI MX).run P w = .ok V w := by
  unfold evSlc at h
  split at h
  · rename_i a o len es' cap
    cases he : Nat.beq es es'
    · rw [he] at h; simp at h
    · rw [he, cond_true] at h
      have he' : es = es' := Nat.eq_of_beq_eq_true he
      subst he'
      split at h
      · rename_i l hh hb
        simp at h; subst h
        cases cap with
        | some c =>
          -- an exact capacity never yields an unknown one
          exfalso
          have := (bnds_sound (P := P) h1 h2 h3 hb (C := max c len) (fun c' hc' => by simp at hc'; subst hc'; simp only [VR] at hx; obtain ⟨_, _, hle, _⟩ := hx; omega) (by omega) true default).2.2.1
          rcases this with hm | hm
          · simp at hm
          · simp at hm
        | none =>
          simp only [VR] at hx
          obtain ⟨loc, hr, hes, hroom, hX⟩ := hx
          have hlen : len ≤ (loc.room - o) / es := by
            rw [Nat.le_div_iff_mul_le hes]; omega
          rcases hX with rfl | ⟨rfl, x0, rfl⟩
          · obtain ⟨hrun, hlh, hm, _, hhl, _⟩ := bnds_sound (P := P) h1 h2 h3 hb (C := (loc.room - o) / es) (fun c hc => by simp at hc) hlen true default
            have hhle := hhl rfl
            have hcap : (loc.room - o) / es - l = (loc.room - (o + l * es)) / es := by
              rw [← Nat.sub_sub, Nat.mul_comm l es, Nat.sub_mul_div]
            refine ⟨.slice (some (if (loc.room - o) / es = l then ⟨loc.blk, loc.off + o, none⟩ else ⟨loc.blk, loc.off + o + l * es, none⟩)) (hh - l) ((loc.room - o) / es - l), ?_, fun w => ?_⟩
            · simp only [VR]
              have hmul : (hh - l) * es = hh * es - l * es := Nat.sub_mul _ _ _
              have hle1 : l * es ≤ hh * es := Nat.mul_le_mul_right _ hlh
              have hle2 : hh * es ≤ len * es := Nat.mul_le_mul_right _ hhle
              refine ⟨loc, hr, hes, by omega, ?_⟩
              by_cases hz : (loc.room - o) / es = l
              · have : hh - l = 0 := by omega
                right
                rw [this, if_pos hz]
                exact ⟨rfl, ⟨loc.blk, loc.off + o, none⟩, by rw [hz]; simp⟩
              · left
                rw [if_neg hz, hcap]
                simp [Nat.add_assoc]
            · obtain ⟨hrun, _⟩ := bnds_sound (P := P) h1 h2 h3 hb (C := (loc.room - o) / es) (fun c hc => by simp at hc) hlen true w
              simp only [Instr.sliceAt, Instr.slice, Sem.run_bind, Go.Proofs.Ytnmlfhogolonoaa.Ev.run_underlying ht, Result.andThen_ok, hrun, run_sizeOf hs, Sem.run_pure, Option.getD_none, Option.map_some, addr_add]
              split <;> simp_all
          · obtain ⟨hrun, hlh, hm, _, hhl, _⟩ := bnds_sound (P := P) h1 h2 h3 hb (C := 0) (fun c hc => by simp at hc) (Nat.le_refl _) true default
            have hhle := hhl rfl
            have l0 : l = 0 := by omega
            have h0 : hh = 0 := by omega
            subst l0 h0
            refine ⟨.slice (some x0) 0 0, ?_, fun w => ?_⟩
            · simp only [VR]
              exact ⟨loc, hr, hes, by simp; omega, .inr ⟨by simp, x0, by simp⟩⟩
            · obtain ⟨hrun, _⟩ := bnds_sound (P := P) h1 h2 h3 hb (C := 0) (fun c hc => by simp at hc) (Nat.le_refl _) true w
              simp only [Instr.sliceAt, Instr.slice, Sem.run_bind, Go.Proofs.Ytnmlfhogolonoaa.Ev.run_underlying ht, Result.andThen_ok, hrun, run_sizeOf hs, Sem.run_pure, Option.getD_none, if_true]
      · rename_i l hh m hb
        cases hcc : (cap.isSome || Nat.blt 0 len)
        · rw [hcc] at h; simp at h
        · rw [hcc, cond_true] at h
          simp only [Option.some.injEq] at h
          have key : ∃ loc C, ρ a = some loc ∧ X = .slice (some ⟨loc.blk, loc.off + o, none⟩) len C ∧ (∀ c, cap = some c → c = C) ∧ len ≤ C := by
            cases cap with
            | some c =>
              simp only [VR] at hx
              obtain ⟨loc, hr, hle, hX⟩ := hx
              exact ⟨loc, c, hr, hX, fun c' hc' => by simp at hc'; exact hc'.symm, hle⟩
            | none =>
              simp only [VR] at hx
              obtain ⟨loc, hr, hes, hroom, hX⟩ := hx
              simp [blt_iff] at hcc
              rcases hX with hX | ⟨h0, _⟩
              · exact ⟨loc, _, hr, hX, fun c hc => by simp at hc, by rw [Nat.le_div_iff_mul_le hes]; omega⟩
              · omega
          obtain ⟨loc, C, hr, rfl, hC, hlen⟩ := key
          obtain ⟨_, hlh, _, hmx, _⟩ := bnds_sound (P := P) h1 h2 h3 hb hC hlen true default
          have hm2 := hmx m rfl
          refine ⟨.slice (some (if m = l then ⟨loc.blk, loc.off + o, none⟩ else ⟨loc.blk, loc.off + o + l * es, none⟩)) (hh - l) (m - l), ?_, fun w => ?_⟩
          · subst h
            simp only [VR]
            refine ⟨loc, hr, by omega, ?_⟩
            rw [beq_iff]
            by_cases e : m = l <;> simp [e, Nat.add_assoc]
          · obtain ⟨hrun, _⟩ := bnds_sound (P := P) h1 h2 h3 hb hC hlen true w
            simp only [Instr.sliceAt, Instr.slice, Sem.run_bind, Go.Proofs.Ytnmlfhogolonoaa.Ev.run_underlying ht, Result.andThen_ok, hrun, run_sizeOf hs, Sem.run_pure, Option.getD_some, Option.map_some, addr_add]
            split <;> simp_all
      · simp at h
  · simp only [VR] at hx; subst hx
    split at h
    · rename_i b hb
      obtain ⟨l, hh, m⟩ := b
      simp at h; subst h
      refine ⟨.slice none 0 0, by simp [VR], fun w => ?_⟩
      obtain ⟨hrun, hlh, hm, hx, _, _⟩ := bnds_sound (P := P) h1 h2 h3 hb (C := 0) (fun c hc => by simpa using hc.symm) (Nat.le_refl _) true w
      have hm0 : m.getD 0 = 0 ∧ hh = 0 := by
        rcases hm with rfl | hm
        · have := hx 0 rfl; simp; omega
        · cases m with
          | none => simp at hm
          | some x => have := hx x rfl; simp; omega
      have hl0 : l = 0 := by omega
      simp only [Instr.sliceAt, Instr.slice, Sem.run_bind, Go.Proofs.Ytnmlfhogolonoaa.Ev.run_underlying ht, Result.andThen_ok, hrun, run_sizeOf hs, Sem.run_pure, hm0.1, hm0.2, hl0]
      simp
    · simp at h
  · simp at h
end
end Go.Proofs.Ytnmlfhogolonoaa.Ev
