/-
  An evaluator of Go code over relative heaps, part M: stores and appends are sound.
-/
import Derived.Test.YtnmlfhogolonoaaEvL
set_option linter.unusedVariables false
set_option linter.unusedSimpArgs false
namespace Go.Proofs.Ytnmlfhogolonoaa.Ev
noncomputable section

theorem zrun {P : Program} {e : TypeId} {z : List AV} (hz : zcells P e = some z) (ρ : Rho) : ∃ Z, (∀ w, (zeroValue e).run P w = .ok Z w) ∧ VRs ρ z Z.cells.toList ∧ ∀ V ∈ Z.cells.toList, one V = true := by
  obtain ⟨Z, k1, k2, k3⟩ := run_zeroValue hz ρ default
  refine ⟨Z, fun w => ?_, k2, k3⟩
  unfold zcells at hz
  split at hz
  · rename_i i hi
    split at hz
    · rename_i z' hz'
      simp [zeroValue, run_typeInfo hi, hz'] at k1 ⊢
      exact k1
    · simp at hz
  · simp at hz

/-- an append that makes a new row -/
theorem appNew_sound {P : Program} {ts tx e ex : TypeId} {ats : Array TypeId} {i : TypeInfo} {z : List AV} (h0 : ats[0]? = some ts) (h1 : ats[1]? = some tx) (hu : P.underlying ts = some (.slice e)) (hx : P.underlying tx = some (.slice ex)) (hi : P.info? e = some i)
    (hz : zcells P e = some z) (hzl : z.length = i.size) (hpos : 0 < i.size) {ρ : Rho} {t : T AO} {y : Nat} {w : World} (hr : HR ρ t.get w) (hf : Fresh ρ y)
    {p q : Option Addr} {len cap n c2 : Nat} {old src : List AV} {OLD SRC : List Value} (hfit : cap < len + n) (hVo : VRs ρ old OLD) (hVs : VRs ρ src SRC) (ho1 : ∀ V ∈ OLD, one V = true) (hs1 : ∀ V ∈ SRC, one V = true) (hol : old.length = len * i.size) (hsl : src.length = n * i.size)
    (hold : ∀ w' : World, w'.heap = w.heap → (Builtin.firstCells i.size len (.slice p len cap)).run P w' = .ok OLD.toArray w') (hsrc : ∀ w' : World, w'.heap = w.heap → (Builtin.firstCells i.size n (.slice q n c2)).run P w' = .ok SRC.toArray w')
    {v : AV} {h' : H} (hA : appNew y e i.size i.bytes n src len old t = some (v, h')) (type : TypeId) :
    ∃ ρ' w' V, (Builtin.append_ ats type #[.slice p len cap, .slice q n c2]).run P w = .ok V w' ∧ VR ρ' v V ∧ Way ρ ⟨y, t⟩ w ρ' h' w' := by
  unfold appNew at hA
  cases hb : (Nat.ble ((2 * (len + n) + 192) * i.bytes) 281474976710656 && Nat.ble (len + n) 281474976710656)
  · rw [hb] at hA; simp at hA
  · rw [hb, cond_true] at hA
    simp only [Bool.and_eq_true] at hb
    have b1 := Nat.le_of_ble_eq_true hb.1
    have b2 := Nat.le_of_ble_eq_true hb.2
    simp only [Option.some.injEq, Prod.mk.injEq] at hA
    obtain ⟨rfl, rfl⟩ := hA
    obtain ⟨Z, z1, z2, z3⟩ := zrun hz ρ
    have hZ : Z.cells.size = i.size := by have := z2.length; simp at this; omega
    obtain ⟨m, w', k1, k2, k3, k4⟩ := run_app_new h0 h1 hu hx hi rfl z1 hfit b1 b2 hold hsrc type
    have hL1 := hVo.length
    have hL2 := hVs.length
    have hsz : (OLD.toArray ++ SRC.toArray ++ Builtin.zeroCells Z.cells (m - (len + n))).size = m * i.size := by
      simp only [Array.size_append, zeroCells_size, hZ, List.size_toArray, hL1, hL2, hol, hsl, ← Nat.add_mul]
      congr 1; omega
    have hV := VRs.append hVo hVs
    have ho : ∀ V ∈ OLD ++ SRC, one V = true := fun V hV => by
      rcases List.mem_append.1 hV with h | h
      · exact ho1 V h
      · exact hs1 V h
    have hlen : (old ++ src).length = (len + n) * i.size := by simp [hol, hsl, Nat.add_mul]
    have hnew := nx_new (g' := (t.set y (.row (putList 0 (old ++ src) .e) (old ++ src).length e)).get) hr (a := y) (l := ⟨w.heap.size, 0, m * i.size⟩) (obj := .cells (OLD.toArray ++ SRC.toArray ++ Builtin.zeroCells Z.cells (m - (len + n))) e) (hf y (Nat.le_refl _)) rfl (fun b => T.get_set _ _ _ _)
      (row_in' (VRs.mono (upd_le hf (Nat.le_refl _)) _ _ hV) ho (c := OLD.toArray ++ SRC.toArray ++ Builtin.zeroCells Z.cells (m - (len + n))) (by show (w.heap.push _)[w.heap.size]? = _; simp) (by simp only [Nat.zero_add]; exact hsz.symm) (by
        rw [hlen]; exact Nat.mul_le_mul_right _ k1) (fun j V hj => by
          have hj' := List.getElem?_eq_some_iff.1 hj
          obtain ⟨hlt, _⟩ := hj'
          rw [Array.getElem?_append_left (by simp at hlt ⊢; omega)]
          simp only [Nat.zero_add]
          rw [List.append_toArray]
          simpa using hj))
    have hww : Nx (upd ρ y ⟨w.heap.size, 0, m * i.size⟩) (t.set y (.row (putList 0 (old ++ src) .e) (old ++ src).length e)).get (w.alloc (.cells (OLD.toArray ++ SRC.toArray ++ Builtin.zeroCells Z.cells (m - (len + n))) e)) _ _ w' :=
      Nx.drew hnew.rel k2 ⟨k3.os, k3.tape, k3.output⟩
    refine ⟨_, w', _, k4, ?_, way_new (h := ⟨y, t⟩) hf (hnew.trans hww)⟩
    simp only [VR]
    refine ⟨_, upd_same, hpos, ?_, .inl ?_⟩
    · simp only [Nat.zero_add]; exact Nat.mul_le_mul_right _ k1
    · simp only [Nat.sub_zero, Nat.mul_div_cancel _ hpos]

/-- an append -/
theorem appA_sound {P : Program} {ts tx e ex : TypeId} {ats : Array TypeId} {i : TypeInfo} {z : List AV} (h0 : ats[0]? = some ts) (h1 : ats[1]? = some tx) (hu : P.underlying ts = some (.slice e)) (hx : P.underlying tx = some (.slice ex)) (hi : P.info? e = some i)
    (hz : zcells P e = some z) (hzl : z.length = i.size) (hpos : 0 < i.size) {ρ : Rho} {h : H} {w : World} (hr : HR ρ h.t.get w) (hf : Fresh ρ h.next)
    {s : AV} {S : Value} (hs : VR ρ s S) {q : Option Addr} {n c2 : Nat} {src : List AV} {SRC : List Value} (hVs : VRs ρ src SRC) (hs1 : ∀ V ∈ SRC, one V = true) (hsl : src.length = n * i.size)
    (hsrc : ∀ w' : World, w'.heap = w.heap → (Builtin.firstCells i.size n (.slice q n c2)).run P w' = .ok SRC.toArray w')
    {v : AV} {h' : H} (hA : appA h e i.size i.bytes s n src = some (v, h')) (type : TypeId) :
    ∃ ρ' w' V, (Builtin.append_ ats type #[S, .slice q n c2]).run P w = .ok V w' ∧ VR ρ' v V ∧ Way ρ h w ρ' h' w' := by
  have hsz : sz P e = some i.size := by simp [sz, hi]
  have hroom : ∀ {room o len : Nat}, o + len * i.size ≤ room → len ≤ (room - o) / i.size := fun hh => (Nat.le_div_iff_mul_le hpos).2 (by omega)
  unfold appA at hA
  split at hA
  · -- nothing is appended
    have hS0 : SRC = [] := by
      have := hVs.length
      simp only [Nat.zero_mul] at hsl
      rw [hsl] at this
      exact List.length_eq_zero_iff.1 this
    subst hS0
    have key : ∀ (p : Option Addr) (len cap : Nat), len ≤ cap → (Builtin.append_ ats type #[.slice p len cap, .slice q 0 c2]).run P w = .ok (.slice p len cap) w := fun p len cap hc => by
      have := run_app_in (P := P) (p := p) h0 h1 hu hx hsz (n := 0) (len := len) (cap := cap) (q := q) (c2 := c2) (SRC := []) (w := w) (w' := w) (by omega) (hsrc w rfl) (by cases p <;> simp [storeCells]) type
      simpa using this
    split at hA
    · simp only [Option.some.injEq, Prod.mk.injEq] at hA
      obtain ⟨rfl, rfl⟩ := hA
      simp only [VR] at hs; subst hs
      exact ⟨ρ, w, _, key _ _ _ (Nat.le_refl _), rfl, Way.refl hr hf⟩
    · rename_i a o len es' cap
      simp only [Option.some.injEq, Prod.mk.injEq] at hA
      obtain ⟨rfl, rfl⟩ := hA
      have hs' := hs
      cases cap with
      | some c =>
        simp only [VR] at hs; obtain ⟨l, e1, e2, rfl⟩ := hs
        exact ⟨ρ, w, _, key _ _ _ e2, hs', Way.refl hr hf⟩
      | none =>
        simp only [VR] at hs; obtain ⟨l, e1, e2, e3, rfl | ⟨rfl, x, rfl⟩⟩ := hs
        · exact ⟨ρ, w, _, key _ _ _ ((Nat.le_div_iff_mul_le e2).2 (by omega)), hs', Way.refl hr hf⟩
        · exact ⟨ρ, w, _, key _ _ _ (Nat.le_refl _), hs', Way.refl hr hf⟩
    · simp at hA
  · rename_i hn
    have hn0 : 0 < n := Nat.pos_of_ne_zero hn
    split at hA
    · -- a nil slice
      simp only [VR] at hs; subst hs
      exact appNew_sound h0 h1 hu hx hi hz hzl hpos hr hf (p := none) (len := 0) (cap := 0) (old := []) (OLD := []) (by omega) rfl hVs (by simp) hs1 (by simp) hsl (fun w' _ => by simp [Builtin.firstCells]) hsrc hA type
    · rename_i a o len es' cap
      cases he : Nat.beq i.size es'
      · rw [he] at hA; simp at hA
      · rw [he, cond_true] at hA
        have he' := Nat.eq_of_beq_eq_true he
        subst he'
        split at hA
        · rename_i cells blen e' hg
          cases hee : Nat.beq e e'
          · rw [hee] at hA; simp at hA
          · rw [hee, cond_true] at hA
            have hee' := Nat.eq_of_beq_eq_true hee
            subst hee'
            have inplace : ∀ {l : Loc} {c : Nat}, ρ a = some l → len + n ≤ c → o + (len + n) * i.size ≤ blen →
                ∃ w', (Builtin.append_ ats type #[.slice (some ⟨l.blk, l.off + o, none⟩) len c, .slice q n c2]).run P w = .ok (.slice (some ⟨l.blk, l.off + o, none⟩) (len + n) c) w' ∧ Way ρ h w ρ ⟨h.next, h.t.set a (.row (putList (o + len * i.size) src cells) blen e)⟩ w' := by
              intro l c hl hc hb
              obtain ⟨w', j1, j2⟩ := nx_write hr hg hl hVs hs1 (o := o + len * i.size) (by rw [hsl]; rw [Nat.add_mul] at hb; omega) P
              refine ⟨w', run_app_in h0 h1 hu hx hsz hc (hsrc w rfl) ?_ type, way_set hf hl j2⟩
              simp only [addr_add]
              rw [show l.off + o + len * i.size = l.off + (o + len * i.size) by omega]
              exact j1
            split at hA
            · rename_i c
              have hs' := hs
              simp only [VR] at hs; obtain ⟨l, e1, e2, rfl⟩ := hs
              cases hc : Nat.ble (len + n) c
              · rw [hc, cond_false] at hA
                have hc' : c < len + n := by
                  rcases Nat.lt_or_ge c (len + n) with hlt | hge
                  · exact hlt
                  · rw [Nat.ble_eq_true_of_le hge] at hc; simp at hc
                split at hA
                · rename_i old hold
                  obtain ⟨OLD, k1, k2, k3, k4⟩ := getList_all (P := P) hr e1 hg hold
                  exact appNew_sound h0 h1 hu hx hi hz hzl hpos hr hf hc' k1 hVs k3 hs1 (by have := k1.length; omega) hsl (fun w' hw => by simpa [Builtin.firstCells] using k4 w' hw) hsrc hA type
                · simp at hA
              · rw [hc, cond_true] at hA
                have hc' := Nat.le_of_ble_eq_true hc
                cases hb : Nat.ble (o + (len + n) * i.size) blen
                · rw [hb] at hA; simp at hA
                · rw [hb, cond_true] at hA
                  simp only [Option.some.injEq, Prod.mk.injEq] at hA
                  obtain ⟨rfl, rfl⟩ := hA
                  obtain ⟨w', j1, j2⟩ := inplace e1 hc' (Nat.le_of_ble_eq_true hb)
                  exact ⟨ρ, w', _, j1, by simp only [VR]; exact ⟨l, e1, hc', rfl⟩, j2⟩
            · simp only [VR] at hs; obtain ⟨l, e1, e2, e3, hS⟩ := hs
              obtain ⟨hblk, hin⟩ := hr.row hg e1
              cases hb : (Nat.ble (o + (len + n) * i.size) blen && Nat.blt 0 len)
              · rw [hb, cond_false] at hA
                split at hA
                · rename_i old hold
                  obtain ⟨OLD, k1, k2, k3, k4⟩ := getList_all (P := P) hr e1 hg hold
                  have hol : old.length = len * i.size := by have := k1.length; omega
                  have hkill : Nx ρ h.t.get w ρ (h.t.set a .dead).get w := Nx.kill hr (fun b => T.get_set _ _ _ _)
                  have wkill : Way ρ h w ρ ⟨h.next, h.t.set a .dead⟩ w := way_set hf e1 hkill
                  rcases hS with rfl | ⟨rfl, x, rfl⟩
                  · rcases Nat.lt_or_ge ((l.room - o) / i.size) (len + n) with hlt | hge
                    · obtain ⟨ρ', w', V, m1, m2, m3⟩ := appNew_sound h0 h1 hu hx hi hz hzl hpos (t := h.t.set a .dead) hkill.rel hf (p := some ⟨l.blk, l.off + o, none⟩) hlt k1 hVs k3 hs1 hol hsl (fun w' hw => by simpa [Builtin.firstCells] using k4 w' hw) hsrc hA type
                      exact ⟨ρ', w', V, m1, m2, wkill.trans m3⟩
                    · -- it fits, unseen
                      have hfit : (len + n) * i.size ≤ l.room - o := (Nat.le_div_iff_mul_le hpos).1 hge
                      unfold appNew at hA
                      cases hbb : (Nat.ble ((2 * (len + n) + 192) * i.bytes) 281474976710656 && Nat.ble (len + n) 281474976710656)
                      · rw [hbb] at hA; simp at hA
                      · rw [hbb, cond_true] at hA
                        simp only [Option.some.injEq, Prod.mk.injEq] at hA
                        obtain ⟨rfl, rfl⟩ := hA
                        obtain ⟨hblen, c, hc, hroomc, hcells⟩ := hin
                        have hLs : SRC.length = n * i.size := by have := hVs.length; omega
                        have hLo : OLD.length = len * i.size := k2
                        have hmul : (len + n) * i.size = len * i.size + n * i.size := Nat.add_mul _ _ _
                        have hrun := run_storeCells_at (P := P) l.blk (l.off + o + len * i.size) e SRC 0 c w hc (by omega) (fun V hV => one_oneCell' (hs1 V hV))
                        rw [Nat.add_zero] at hrun
                        have hlen : (old ++ src).length = (len + n) * i.size := by simp [hol, hsl, Nat.add_mul]
                        have hy : ρ h.next = none := hf _ (Nat.le_refl _)
                        have hV := VRs.append k1 hVs
                        have ho : ∀ V ∈ OLD ++ SRC, one V = true := fun V hV => by
                          rcases List.mem_append.1 hV with hh | hh
                          · exact k3 V hh
                          · exact hs1 V hh
                        have hcl : c.toList.length = c.size := by simp
                        have hocell : ∀ j V, OLD[j]? = some V → c[l.off + o + j]? = some V := by
                          obtain ⟨Vs', q1, q2, q3, q4⟩ := cells_of hr hg e1 hold
                          have hloads := load_list (P := P) (w := w) (a := ⟨l.blk, l.off + o, none⟩) q2 rfl (fun j V hj => by simpa using q4 j V hj)
                          have hsame := k4 w rfl
                          rw [hloads] at hsame
                          simp only [Result.ok.injEq] at hsame
                          have hVV : Vs' = OLD := by simpa using hsame
                          subst hVV
                          intro j V hj
                          have := q4 j V hj
                          simpa [World.cell?, hc] using this
                        have hmv := nx_move (g' := ((h.t.set a .dead).set h.next (.row (putList 0 (old ++ src) .e) (old ++ src).length e)).get) (m := ⟨l.blk, l.off + o, l.room - o⟩) (w' := w.setRow l.blk (c.toList.take (l.off + o + len * i.size) ++ SRC ++ c.toList.drop (l.off + o + len * i.size + SRC.length)).toArray) hr hg rfl e1 hy rfl
                          (fun b => by rw [T.get_set, T.get_set]) (World.setRow_env _ _ _) (World.setRow_size _ _ _) (fun r hne => World.setRow_other _ _ _ hne)
                          (row_in' (VRs.mono (upd_le' hy) _ _ hV) ho (World.setRow_at _ _ _ hc) (by
                              simp only [List.size_toArray, List.length_append, List.length_take, List.length_drop, hcl]; omega) (by show _ ≤ l.room - o; omega) (fun j V hj => by
                            simp only [List.getElem?_toArray]
                            rcases Nat.lt_or_ge j OLD.length with hj1 | hj1
                            · rw [List.append_assoc, List.getElem?_append_left (by simp [hcl]; omega), List.getElem?_take, if_pos (by omega)]
                              rw [List.getElem?_append_left hj1] at hj
                              simpa using hocell j V hj
                            · rw [List.getElem?_append_right hj1] at hj
                              have hj2 : j - OLD.length < SRC.length := (List.getElem?_eq_some_iff.1 hj).1
                              rw [List.append_assoc, List.getElem?_append_right (by simp; omega), List.getElem?_append_left (by simp [hcl]; omega)]
                              rw [← hj]
                              congr 1
                              simp [hcl]; omega))
                        refine ⟨upd ρ h.next ⟨l.blk, l.off + o, l.room - o⟩, _, _, run_app_in (p := some ⟨l.blk, l.off + o, none⟩) h0 h1 hu hx hsz hge (hsrc w rfl) (by simp only [addr_add]; exact hrun) type, ?_, ?_⟩
                        · simp only [VR]
                          exact ⟨_, upd_same, hpos, by simp only [Nat.zero_add]; exact hfit, .inl (by simp)⟩
                        · refine ⟨hmv, upd_fresh hf, Nat.le_succ _, fun b hb hbn => ⟨by rw [upd_other (by omega)]; exact hbn, ?_⟩⟩
                          show ((h.t.set a .dead).set h.next _).get b = _
                          rw [T.get_set, if_neg (by omega), T.get_set, if_neg]
                          intro hba
                          rw [hba, e1] at hbn; simp at hbn
                  · obtain ⟨ρ', w', V, m1, m2, m3⟩ := appNew_sound h0 h1 hu hx hi hz hzl hpos (t := h.t.set a .dead) hkill.rel hf (p := some x) (len := 0) (cap := 0) (by omega) k1 hVs k3 hs1 hol hsl (fun w' hw => by
                      have : OLD = [] := by simpa using k2
                      subst this
                      simp [Builtin.firstCells, loadCells, loadCellsFrom]) hsrc hA type
                    exact ⟨ρ', w', V, m1, m2, wkill.trans m3⟩
                · simp at hA
              · rw [hb, cond_true] at hA
                simp only [Bool.and_eq_true] at hb
                have hb1 := Nat.le_of_ble_eq_true hb.1
                have hb2 : 0 < len := by
                  have := hb.2
                  exact Nat.le_of_ble_eq_true this
                simp only [Option.some.injEq, Prod.mk.injEq] at hA
                obtain ⟨rfl, rfl⟩ := hA
                rcases hS with rfl | ⟨rfl, _⟩
                · have hle : o + (len + n) * i.size ≤ l.room := Nat.le_trans hb1 hin.1
                  obtain ⟨w', j1, j2⟩ := inplace (c := (l.room - o) / i.size) e1 ((Nat.le_div_iff_mul_le hpos).2 (by omega)) hb1
                  exact ⟨ρ, w', _, j1, by simp only [VR]; exact ⟨l, e1, hpos, hle, .inl rfl⟩, j2⟩
                · omega
        · simp at hA
    · simp at hA

theorem evE_sound {P : Program} {o : Oper} {c : EOp} {tm : T AV} {h h' : H} {v : AV} {ρ : Rho} {a : Act} {w : World} (hc : cE P o = some c) (he : evE tm h c = some (v, h')) (ht : TR ρ tm a.tmps) (hr : HR ρ h.t.get w) (hf : Fresh ρ h.next) :
    EOut P (execOp a.eval o) ρ h w v h' := by
  obtain ⟨dst, op, type, pos, after, guard⟩ := o
  unfold cE at hc
  simp only [] at hc
  split at hc
  · rename_i t p x
    split at hc
    · rename_i n p' x' hs hp hx
      simp at hc; subst hc
      simp only [evE] at he
      split at he
      · rename_i b off v' hb hv
        split at he
        · rename_i cells len e l hg hl
          cases hk : (Nat.beq l.length n && Nat.ble (off + n) len)
          · rw [hk] at he; simp at he
          · rw [hk, cond_true] at he
            simp only [Bool.and_eq_true] at hk
            have k1 := Nat.eq_of_beq_eq_true hk.1
            have k2 := Nat.le_of_ble_eq_true hk.2
            simp only [Option.some.injEq, Prod.mk.injEq] at he
            obtain ⟨rfl, rfl⟩ := he
            have hB := evo_sound ht hp hb
            simp only [VR] at hB
            obtain ⟨lc, hlc, hB⟩ := hB
            obtain ⟨j1, j2⟩ := cellsA_sound (evo_sound ht hx hv) hl
            obtain ⟨w', m1, m2⟩ := nx_write hr hg hlc j1 j2 (o := off) (by omega) P
            refine ⟨ρ, w', undef, .inr ⟨?_, rfl⟩, ?_, way_set hf hlc m2⟩
            · have hsz : (a.eval x).cells.size = n := by have := j1.length; simp at this; omega
              simp [execOp, Instr.storeAt, hB, Instr.sureAddr, storeVar, run_sizeOf hs, hsz, m1]
            · simp only [VR]; exact ⟨[], rfl, rfl⟩
        · simp at he
      · simp at he
    · simp at hc
  · rename_i args ats
    split at hc
    · rename_i s x ts tx hargs h0 h1
      split at hc
      · rename_i e ex hu hx
        split at hc
        · rename_i i z s' x' hi hz hs hxx
          cases hb : (Nat.beq z.length i.size && Nat.blt 0 i.size)
          · rw [hb] at hc; simp at hc
          · rw [hb, cond_true] at hc
            simp only [Bool.and_eq_true] at hb
            simp at hc; subst hc
            have hzl := Nat.eq_of_beq_eq_true hb.1
            have hpos : 0 < i.size := Nat.le_of_ble_eq_true hb.2
            simp only [evE] at he
            split at he
            · rename_i sv xv hsv hxv
              split at he
              · rename_i n src hsrc
                obtain ⟨q, c2, SRC, hX, k1, k2, k3, k4⟩ := srcA_sound (P := P) hr hsrc (evo_sound ht hxx hxv)
                have hargs' : args = #[s, x] := by rw [← Array.toArray_toList (xs := args), hargs]
                subst hargs'
                obtain ⟨ρ', w', V, m1, m2, m3⟩ := appA_sound h0 h1 hu hx hi hz hzl hpos hr hf (evo_sound ht hs hsv) k1 k3 k2 (fun w' hw => by rw [← hX]; exact k4 w' hw) he type
                obtain ⟨cs, hbb⟩ := run_builtin (P := P) (ρ := a.eval) (b := .append) (args := #[s, x]) (ats := ats) (dst := dst) (type := type) (pos := pos) (after := after) (guard := guard)
                refine ⟨ρ', w', V, .inl ?_, m2, m3⟩
                rw [hbb]
                simp [builtin, hX, m1]
              · simp at he
            · simp at he
        · simp at hc
      · simp at hc
    · simp at hc
  · simp at hc
end
end Go.Proofs.Ytnmlfhogolonoaa.Ev
