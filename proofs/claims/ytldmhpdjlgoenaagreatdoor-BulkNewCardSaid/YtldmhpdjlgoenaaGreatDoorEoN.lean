/-
  An evaluator of Go code over relative heaps, part M: stores and appends are sound.
  An evaluator of Go code over relative heaps, part N: maps.
-/
import Derived.Test.YtldmhpdjlgoenaaGreatDoorEoL
import Derived.MapKept
set_option linter.unusedVariables false
set_option linter.unusedSimpArgs false
namespace Go.Proofs.YtldmhpdjlgoenaaGreatDoor.Eo
noncomputable section

theorem zrun {P : Program} {e : TypeId} {z : List AV} (hz : zcells P e = some z) (ρ : Rho) : ∃ Z, (∀ w, (zeroValue e).run P w = .ok Z w) ∧ VRs ρ z Z.cells.toList ∧ ∀ V ∈ Z.cells.toList, one V = true := by
  obtain ⟨Z, k1, k2, k3⟩ := run_zeroValue hz ρ default
  refine ⟨Z, fun w => ?_, k2, k3⟩
  unfold zcells at hz
  split at hz
  · rename_i i hi
    split at hz
    · rename_i z' hz'
      simp [zeroValue, run_typeInfo hi, hz'] at k1 ⊢
      exact k1
    · simp at hz
  · simp at hz

/-- an append that makes a new row -/
theorem appNew_sound {P : Program} {ts tx e ex : TypeId} {ats : Array TypeId} {i : TypeInfo} {z : List AV} (h0 : ats[0]? = some ts) (h1 : ats[1]? = some tx) (hu : P.underlying ts = some (.slice e)) (hx : P.underlying tx = some (.slice ex)) (hi : P.info? e = some i)
    (hz : zcells P e = some z) (hzl : z.length = i.size) (hpos : 0 < i.size) {ρ : Rho} {t : T AO} {y : Nat} {w : World} (hr : HR ρ t.get w) (hf : Fresh ρ y)
    {p q : Option Addr} {len cap n c2 : Nat} {old src : List AV} {OLD SRC : List Value} (hfit : cap < len + n) (hVo : VRs ρ old OLD) (hVs : VRs ρ src SRC) (ho1 : ∀ V ∈ OLD, one V = true) (hs1 : ∀ V ∈ SRC, one V = true) (hol : old.length = len * i.size) (hsl : src.length = n * i.size)
    (hold : ∀ w' : World, w'.heap = w.heap → (Builtin.firstCells i.size len (.slice p len cap)).run P w' = .ok OLD.toArray w') (hsrc : ∀ w' : World, w'.heap = w.heap → (Builtin.firstCells i.size n (.slice q n c2)).run P w' = .ok SRC.toArray w')
    {v : AV} {h' : H} {lim : Nat} (hlim : Builtin.nextslicecap (len + n) cap ≤ lim) (hA : appNew y e i.size i.bytes n src len old lim t = some (v, h')) (type : TypeId) :
    ∃ ρ' w' V, (Builtin.append_ ats type #[.slice p len cap, .slice q n c2]).run P w = .ok V w' ∧ VR ρ' v V ∧ Way ρ ⟨y, t⟩ w ρ' h' w' := by
  unfold appNew at hA
  cases hb : (Nat.ble (lim * i.bytes) 281474976710656 && Nat.ble (len + n) 281474976710656)
  · rw [hb] at hA; simp at hA
  · rw [hb, cond_true] at hA
    simp only [Bool.and_eq_true] at hb
    have b1 := Nat.le_of_ble_eq_true hb.1
    have b2 := Nat.le_of_ble_eq_true hb.2
    simp only [Option.some.injEq, Prod.mk.injEq] at hA
    obtain ⟨rfl, rfl⟩ := hA
    obtain ⟨Z, z1, z2, z3⟩ := zrun hz ρ
    have hZ : Z.cells.size = i.size := by have := z2.length; simp at this; omega
    obtain ⟨m, w', k1, k2, k3, k4⟩ := run_app_new h0 h1 hu hx hi rfl z1 hfit hlim b1 b2 hold hsrc type
    have hL1 := hVo.length
    have hL2 := hVs.length
    have hsz : (OLD.toArray ++ SRC.toArray ++ Builtin.zeroCells Z.cells (m - (len + n))).size = m * i.size := by
      simp only [Array.size_append, zeroCells_size, hZ, List.size_toArray, hL1, hL2, hol, hsl, ← Nat.add_mul]
      congr 1; omega
    have hV := VRs.append hVo hVs
    have ho : ∀ V ∈ OLD ++ SRC, one V = true := fun V hV => by
      rcases List.mem_append.1 hV with h | h
      · exact ho1 V h
      · exact hs1 V h
    have hlen : (old ++ src).length = (len + n) * i.size := by simp [hol, hsl, Nat.add_mul]
    have hnew := nx_new (g' := (t.set y (.row (putList 0 (old ++ src) .e) (old ++ src).length e)).get) hr (a := y) (l := ⟨w.heap.size, 0, m * i.size⟩) (obj := .cells (OLD.toArray ++ SRC.toArray ++ Builtin.zeroCells Z.cells (m - (len + n))) e) (hf y (Nat.le_refl _)) rfl (fun b => T.get_set _ _ _ _)
      (row_in' (VRs.mono (upd_le hf (Nat.le_refl _)) _ _ hV) ho (c := OLD.toArray ++ SRC.toArray ++ Builtin.zeroCells Z.cells (m - (len + n))) (by show (w.heap.push _)[w.heap.size]? = _; simp) (by simp only [Nat.zero_add]; exact hsz.symm) (by
        rw [hlen]; exact Nat.mul_le_mul_right _ k1) (fun j V hj => by
          have hj' := List.getElem?_eq_some_iff.1 hj
          obtain ⟨hlt, _⟩ := hj'
          rw [Array.getElem?_append_left (by simp at hlt ⊢; omega)]
          simp only [Nat.zero_add]
          rw [List.append_toArray]
          simpa using hj))
    have hww : Nx (upd ρ y ⟨w.heap.size, 0, m * i.size⟩) (t.set y (.row (putList 0 (old ++ src) .e) (old ++ src).length e)).get (w.alloc (.cells (OLD.toArray ++ SRC.toArray ++ Builtin.zeroCells Z.cells (m - (len + n))) e)) _ _ w' :=
      Nx.drew hnew.rel k2 ⟨k3.os, k3.tape, k3.output⟩
    refine ⟨_, w', _, k4, ?_, way_new (h := ⟨y, t⟩) hf (hnew.trans hww)⟩
    simp only [VR]
    refine ⟨_, upd_same (hf _ (Nat.le_refl _)), hpos, ?_, .inl ?_⟩
    · simp only [Nat.zero_add]; exact Nat.mul_le_mul_right _ k1
    · simp only [Nat.sub_zero, Nat.mul_div_cancel _ hpos]

/-- an append -/
theorem appA_sound {P : Program} {ts tx e ex : TypeId} {ats : Array TypeId} {i : TypeInfo} {z : List AV} (h0 : ats[0]? = some ts) (h1 : ats[1]? = some tx) (hu : P.underlying ts = some (.slice e)) (hx : P.underlying tx = some (.slice ex)) (hi : P.info? e = some i)
    (hz : zcells P e = some z) (hzl : z.length = i.size) (hpos : 0 < i.size) {ρ : Rho} {h : H} {w : World} (hr : HR ρ h.t.get w) (hf : Fresh ρ h.next)
    {s : AV} {S : Value} (hs : VR ρ s S) {q : Option Addr} {n c2 : Nat} {src : List AV} {SRC : List Value} (hVs : VRs ρ src SRC) (hs1 : ∀ V ∈ SRC, one V = true) (hsl : src.length = n * i.size)
    (hsrc : ∀ w' : World, w'.heap = w.heap → (Builtin.firstCells i.size n (.slice q n c2)).run P w' = .ok SRC.toArray w')
    {v : AV} {h' : H} (hA : appA h e i.size i.bytes s n src = some (v, h')) (type : TypeId) :
    ∃ ρ' w' V, (Builtin.append_ ats type #[S, .slice q n c2]).run P w = .ok V w' ∧ VR ρ' v V ∧ Way ρ h w ρ' h' w' := by
  have hsz : sz P e = some i.size := by simp [sz, hi]
  have hroom : ∀ {room o len : Nat}, o + len * i.size ≤ room → len ≤ (room - o) / i.size := fun hh => (Nat.le_div_iff_mul_le hpos).2 (by omega)
  unfold appA at hA
  split at hA
  · -- nothing is appended
    have hS0 : SRC = [] := by
      have := hVs.length
      simp only [Nat.zero_mul] at hsl
      rw [hsl] at this
      exact List.length_eq_zero_iff.1 this
    subst hS0
    have key : ∀ (p : Option Addr) (len cap : Nat), len ≤ cap → (Builtin.append_ ats type #[.slice p len cap, .slice q 0 c2]).run P w = .ok (.slice p len cap) w := fun p len cap hc => by
      have := run_app_in (P := P) (p := p) h0 h1 hu hx hsz (n := 0) (len := len) (cap := cap) (q := q) (c2 := c2) (SRC := []) (w := w) (w' := w) (by omega) (hsrc w rfl) (by cases p <;> simp [storeCells]) type
      simpa using this
    split at hA
    · simp only [Option.some.injEq, Prod.mk.injEq] at hA
      obtain ⟨rfl, rfl⟩ := hA
      simp only [VR] at hs; subst hs
      exact ⟨ρ, w, _, key _ _ _ (Nat.le_refl _), rfl, Way.refl hr hf⟩
    · rename_i a o len es' cap
      simp only [Option.some.injEq, Prod.mk.injEq] at hA
      obtain ⟨rfl, rfl⟩ := hA
      have hs' := hs
      cases cap with
      | some c =>
        simp only [VR] at hs; obtain ⟨l, e1, e2, rfl⟩ := hs
        exact ⟨ρ, w, _, key _ _ _ e2, hs', Way.refl hr hf⟩
      | none =>
        simp only [VR] at hs; obtain ⟨l, e1, e2, e3, rfl | ⟨rfl, x, rfl⟩⟩ := hs
        · exact ⟨ρ, w, _, key _ _ _ ((Nat.le_div_iff_mul_le e2).2 (by omega)), hs', Way.refl hr hf⟩
        · exact ⟨ρ, w, _, key _ _ _ (Nat.le_refl _), hs', Way.refl hr hf⟩
    · simp at hA
  · rename_i hn
    have hn0 : 0 < n := Nat.pos_of_ne_zero hn
    split at hA
    · -- a nil slice
      simp only [VR] at hs; subst hs
      exact appNew_sound h0 h1 hu hx hi hz hzl hpos hr hf (p := none) (len := 0) (cap := 0) (old := []) (OLD := []) (by omega) rfl hVs (by simp) hs1 (by simp) hsl (fun w' _ => by simp [Builtin.firstCells]) hsrc (next_nul n hn0) hA type
    · rename_i a o len es' cap
      cases he : Nat.beq i.size es'
      · rw [he] at hA; simp at hA
      · rw [he, cond_true] at hA
        have he' := Nat.eq_of_beq_eq_true he
        subst he'
        split at hA
        · rename_i cells blen e' hg
          cases hee : Nat.beq e e'
          · rw [hee] at hA; simp at hA
          · rw [hee, cond_true] at hA
            have hee' := Nat.eq_of_beq_eq_true hee
            subst hee'
            have inplace : ∀ {l : Loc} {c : Nat}, ρ a = some l → len + n ≤ c → o + (len + n) * i.size ≤ blen →
                ∃ w', (Builtin.append_ ats type #[.slice (some ⟨l.blk, l.off + o, none⟩) len c, .slice q n c2]).run P w = .ok (.slice (some ⟨l.blk, l.off + o, none⟩) (len + n) c) w' ∧ Way ρ h w ρ ⟨h.next, h.t.set a (.row (putList (o + len * i.size) src cells) blen e)⟩ w' := by
              intro l c hl hc hb
              obtain ⟨w', j1, j2⟩ := nx_write hr hg hl hVs hs1 (o := o + len * i.size) (by rw [hsl]; rw [Nat.add_mul] at hb; omega) P
              refine ⟨w', run_app_in h0 h1 hu hx hsz hc (hsrc w rfl) ?_ type, way_set hf hl j2⟩
              simp only [addr_add]
              rw [show l.off + o + len * i.size = l.off + (o + len * i.size) by omega]
              exact j1
            split at hA
            · rename_i c
              have hs' := hs
              simp only [VR] at hs; obtain ⟨l, e1, e2, rfl⟩ := hs
              cases hc : Nat.ble (len + n) c
              · rw [hc, cond_false] at hA
                have hc' : c < len + n := by
                  rcases Nat.lt_or_ge c (len + n) with hlt | hge
                  · exact hlt
                  · rw [Nat.ble_eq_true_of_le hge] at hc; simp at hc
                split at hA
                · rename_i old hold
                  obtain ⟨OLD, k1, k2, k3, k4⟩ := getList_all (P := P) hr e1 hg hold
                  exact appNew_sound h0 h1 hu hx hi hz hzl hpos hr hf hc' k1 hVs k3 hs1 (by have := k1.length; omega) hsl (fun w' hw => by simpa [Builtin.firstCells] using k4 w' hw) hsrc (next_le _ _ hc') hA type
                · simp at hA
              · rw [hc, cond_true] at hA
                have hc' := Nat.le_of_ble_eq_true hc
                cases hb : Nat.ble (o + (len + n) * i.size) blen
                · rw [hb] at hA; simp at hA
                · rw [hb, cond_true] at hA
                  simp only [Option.some.injEq, Prod.mk.injEq] at hA
                  obtain ⟨rfl, rfl⟩ := hA
                  obtain ⟨w', j1, j2⟩ := inplace e1 hc' (Nat.le_of_ble_eq_true hb)
                  exact ⟨ρ, w', _, j1, by simp only [VR]; exact ⟨l, e1, hc', rfl⟩, j2⟩
            · simp only [VR] at hs; obtain ⟨l, e1, e2, e3, hS⟩ := hs
              obtain ⟨hblk, hin⟩ := hr.row hg e1
              cases hb : (Nat.ble (o + (len + n) * i.size) blen && Nat.blt 0 len)
              · rw [hb, cond_false] at hA
                split at hA
                · rename_i old hold
                  obtain ⟨OLD, k1, k2, k3, k4⟩ := getList_all (P := P) hr e1 hg hold
                  have hol : old.length = len * i.size := by have := k1.length; omega
                  have hkill : Nx ρ h.t.get w ρ (h.t.set a .dead).get w := Nx.kill hr (fun b => T.get_set _ _ _ _)
                  have wkill : Way ρ h w ρ ⟨h.next, h.t.set a .dead⟩ w := way_set hf e1 hkill
                  rcases hS with rfl | ⟨rfl, x, rfl⟩
                  · rcases Nat.lt_or_ge ((l.room - o) / i.size) (len + n) with hlt | hge
                    · obtain ⟨ρ', w', V, m1, m2, m3⟩ := appNew_sound h0 h1 hu hx hi hz hzl hpos (t := h.t.set a .dead) hkill.rel hf (p := some ⟨l.blk, l.off + o, none⟩) hlt k1 hVs k3 hs1 hol hsl (fun w' hw => by simpa [Builtin.firstCells] using k4 w' hw) hsrc (next_le _ _ hlt) hA type
                      exact ⟨ρ', w', V, m1, m2, wkill.trans m3⟩
                    · -- it fits, unseen
                      have hfit : (len + n) * i.size ≤ l.room - o := (Nat.le_div_iff_mul_le hpos).1 hge
                      unfold appNew at hA
                      cases hbb : (Nat.ble ((2 * (len + n) + 192) * i.bytes) 281474976710656 && Nat.ble (len + n) 281474976710656)
                      · rw [hbb] at hA; simp at hA
                      · rw [hbb, cond_true] at hA
                        simp only [Option.some.injEq, Prod.mk.injEq] at hA
                        obtain ⟨rfl, rfl⟩ := hA
                        obtain ⟨hblen, c, hc, hroomc, hcells⟩ := hin
                        have hLs : SRC.length = n * i.size := by have := hVs.length; omega
                        have hLo : OLD.length = len * i.size := k2
                        have hmul : (len + n) * i.size = len * i.size + n * i.size := Nat.add_mul _ _ _
                        have hrun := run_storeCells_at (P := P) l.blk (l.off + o + len * i.size) e SRC 0 c w hc (by omega) (fun V hV => one_oneCell' (hs1 V hV))
                        rw [Nat.add_zero] at hrun
                        have hlen : (old ++ src).length = (len + n) * i.size := by simp [hol, hsl, Nat.add_mul]
                        have hy : ρ h.next = none := hf _ (Nat.le_refl _)
                        have hV := VRs.append k1 hVs
                        have ho : ∀ V ∈ OLD ++ SRC, one V = true := fun V hV => by
                          rcases List.mem_append.1 hV with hh | hh
                          · exact k3 V hh
                          · exact hs1 V hh
                        have hcl : c.toList.length = c.size := by simp
                        have hocell : ∀ j V, OLD[j]? = some V → c[l.off + o + j]? = some V := by
                          obtain ⟨Vs', q1, q2, q3, q4⟩ := cells_of hr hg e1 hold
                          have hloads := load_list (P := P) (w := w) (a := ⟨l.blk, l.off + o, none⟩) q2 rfl (fun j V hj => by simpa using q4 j V hj)
                          have hsame := k4 w rfl
                          rw [hloads] at hsame
                          simp only [Result.ok.injEq] at hsame
                          have hVV : Vs' = OLD := by simpa using hsame
                          subst hVV
                          intro j V hj
                          have := q4 j V hj
                          simpa [World.cell?, hc] using this
                        have hmv := nx_move (g' := ((h.t.set a .dead).set h.next (.row (putList 0 (old ++ src) .e) (old ++ src).length e)).get) (m := ⟨l.blk, l.off + o, l.room - o⟩) (w' := w.setRow l.blk (c.toList.take (l.off + o + len * i.size) ++ SRC ++ c.toList.drop (l.off + o + len * i.size + SRC.length)).toArray) hr hg rfl e1 hy rfl
                          (fun b => by rw [T.get_set, T.get_set]) (World.setRow_env _ _ _) (World.setRow_size _ _ _) (fun r hne => World.setRow_other _ _ _ hne)
                          (row_in' (VRs.mono (upd_le' hy) _ _ hV) ho (World.setRow_at _ _ _ hc) (by
                              simp only [List.size_toArray, List.length_append, List.length_take, List.length_drop, hcl]; omega) (by show _ ≤ l.room - o; omega) (fun j V hj => by
                            simp only [List.getElem?_toArray]
                            rcases Nat.lt_or_ge j OLD.length with hj1 | hj1
                            · rw [List.append_assoc, List.getElem?_append_left (by simp [hcl]; omega), List.getElem?_take, if_pos (by omega)]
                              rw [List.getElem?_append_left hj1] at hj
                              simpa using hocell j V hj
                            · rw [List.getElem?_append_right hj1] at hj
                              have hj2 : j - OLD.length < SRC.length := (List.getElem?_eq_some_iff.1 hj).1
                              rw [List.append_assoc, List.getElem?_append_right (by simp; omega), List.getElem?_append_left (by simp [hcl]; omega)]
                              rw [← hj]
                              congr 1
                              simp [hcl]; omega))
                        refine ⟨upd ρ h.next ⟨l.blk, l.off + o, l.room - o⟩, _, _, run_app_in (p := some ⟨l.blk, l.off + o, none⟩) h0 h1 hu hx hsz hge (hsrc w rfl) (by simp only [addr_add]; exact hrun) type, ?_, ?_⟩
                        · simp only [VR]
                          exact ⟨_, upd_same (hf _ (Nat.le_refl _)), hpos, by simp only [Nat.zero_add]; exact hfit, .inl (by simp)⟩
                        · refine ⟨hmv, upd_fresh hf, Nat.le_succ _, fun b hb hbn => ⟨by rw [upd_other (by omega)]; exact hbn, ?_⟩⟩
                          show ((h.t.set a .dead).set h.next _).get b = _
                          rw [T.get_set, if_neg (by omega), T.get_set, if_neg]
                          intro hba
                          rw [hba, e1] at hbn; simp at hbn
                  · obtain ⟨ρ', w', V, m1, m2, m3⟩ := appNew_sound h0 h1 hu hx hi hz hzl hpos (t := h.t.set a .dead) hkill.rel hf (p := some x) (len := 0) (cap := 0) (by omega) k1 hVs k3 hs1 hol hsl (fun w' hw => by
                      have : OLD = [] := by simpa using k2
                      subst this
                      simp [Builtin.firstCells, loadCells, loadCellsFrom]) hsrc (next_le _ _ (by omega)) hA type
                    exact ⟨ρ', w', V, m1, m2, wkill.trans m3⟩
                · simp at hA
              · rw [hb, cond_true] at hA
                simp only [Bool.and_eq_true] at hb
                have hb1 := Nat.le_of_ble_eq_true hb.1
                have hb2 : 0 < len := by
                  have := hb.2
                  exact Nat.le_of_ble_eq_true this
                simp only [Option.some.injEq, Prod.mk.injEq] at hA
                obtain ⟨rfl, rfl⟩ := hA
                rcases hS with rfl | ⟨rfl, _⟩
                · have hle : o + (len + n) * i.size ≤ l.room := Nat.le_trans hb1 hin.1
                  obtain ⟨w', j1, j2⟩ := inplace (c := (l.room - o) / i.size) e1 ((Nat.le_div_iff_mul_le hpos).2 (by omega)) hb1
                  exact ⟨ρ, w', _, j1, by simp only [VR]; exact ⟨l, e1, hpos, hle, .inl rfl⟩, j2⟩
                · omega
        · simp at hA
    · simp at hA

/-- zero elements, appended to nothing -/
theorem appz_sound {P : Program} {ts tx e : TypeId} {ats : Array TypeId} {k k' : IntKind} {i : TypeInfo} {z : List AV} (h0 : ats[0]? = some ts) (h1 : ats[1]? = some tx) (hu : P.underlying ts = some (.slice e)) (hx : P.underlying tx = some (.int k)) (hi : P.info? e = some i)
    (hz : zcells P e = some z) (hzl : z.length = i.size) (hpos : 0 < i.size) {ρ : Rho} {t : T AO} {y : Nat} {w : World} (hr : HR ρ t.get w) (hf : Fresh ρ y) {n : Nat} (hn : 0 < n)
    {v : AV} {h' : H} (hA : appNew y e i.size i.bytes n (repl z n) 0 [] (2 * (0 + n) + 192) t = some (v, h')) (type : TypeId) :
    ∃ ρ' w' V, (Builtin.append_ ats type #[.slice none 0 0, .int k' n]).run P w = .ok V w' ∧ VR ρ' v V ∧ Way ρ ⟨y, t⟩ w ρ' h' w' := by
  unfold appNew at hA
  cases hb : (Nat.ble ((2 * (0 + n) + 192) * i.bytes) 281474976710656 && Nat.ble (0 + n) 281474976710656)
  · rw [hb] at hA; simp at hA
  · rw [hb, cond_true] at hA
    simp only [Bool.and_eq_true] at hb
    have b1 := Nat.le_of_ble_eq_true hb.1
    have b2 := Nat.le_of_ble_eq_true hb.2
    simp only [Option.some.injEq, Prod.mk.injEq, Nat.zero_add, List.nil_append] at hA
    obtain ⟨rfl, rfl⟩ := hA
    obtain ⟨Z, z1, z2, z3⟩ := zrun hz ρ
    have hZ : Z.cells.size = i.size := by have := z2.length; simp at this; omega
    obtain ⟨m, w', k1, k2, k3, k4⟩ := run_app_zero (k' := k') h0 h1 hu hx hi rfl hpos z1 hn b1 b2 type
    have hV := repl_sound z2 n
    have ho : ∀ V ∈ (Builtin.zeroCells Z.cells n).toList, one V = true := by
      have : ∀ n, ∀ V ∈ (Builtin.zeroCells Z.cells n).toList, one V = true := by
        intro n
        induction n with
        | zero => simp [Builtin.zeroCells]
        | succ n ih =>
          intro V hV
          rw [zeroCells_succ] at hV
          rcases List.mem_append.1 hV with h | h
          · exact z3 V h
          · exact ih V h
      exact this n
    have hlen : (repl z n).length = n * i.size := by have := hV.length; simp [zeroCells_size, hZ] at this; omega
    have hsz : (Builtin.zeroCells Z.cells n ++ Builtin.zeroCells Z.cells (m - n)).size = m * i.size := by
      simp only [Array.size_append, zeroCells_size, hZ, ← Nat.add_mul]
      congr 1; omega
    have hnew := nx_new (g' := (t.set y (.row (putList 0 (repl z n) .e) (repl z n).length e)).get) hr (a := y) (l := ⟨w.heap.size, 0, m * i.size⟩) (obj := .cells (Builtin.zeroCells Z.cells n ++ Builtin.zeroCells Z.cells (m - n)) e) (hf y (Nat.le_refl _)) rfl (fun b => T.get_set _ _ _ _)
      (row_in' (VRs.mono (upd_le hf (Nat.le_refl _)) _ _ hV) ho (c := Builtin.zeroCells Z.cells n ++ Builtin.zeroCells Z.cells (m - n)) (by show (w.heap.push _)[w.heap.size]? = _; simp) (by simp only [Nat.zero_add]; exact hsz.symm) (by
        rw [hlen]; exact Nat.mul_le_mul_right _ k1) (fun j V hj => by
          have hj' := List.getElem?_eq_some_iff.1 hj
          obtain ⟨hlt, _⟩ := hj'
          rw [Array.getElem?_append_left (by simp at hlt ⊢; omega)]
          simp only [Nat.zero_add]
          simpa using hj))
    have hww : Nx (upd ρ y ⟨w.heap.size, 0, m * i.size⟩) (t.set y (.row (putList 0 (repl z n) .e) (repl z n).length e)).get (w.alloc (.cells (Builtin.zeroCells Z.cells n ++ Builtin.zeroCells Z.cells (m - n)) e)) _ _ w' :=
      Nx.drew hnew.rel k2 ⟨k3.os, k3.tape, k3.output⟩
    refine ⟨_, w', _, k4, ?_, way_new (h := ⟨y, t⟩) hf (hnew.trans hww)⟩
    simp only [VR]
    refine ⟨_, upd_same (hf _ (Nat.le_refl _)), hpos, ?_, .inl ?_⟩
    · simp only [Nat.zero_add]; exact Nat.mul_le_mul_right _ k1
    · simp only [Nat.sub_zero, Nat.mul_div_cancel _ hpos]

theorem evE_sound {P : Program} {o : Oper} {c : EOp} {tm : T AV} {h h' : H} {v : AV} {ρ : Rho} {a : Act} {w : World} (hc : cE P o = some c) (he : evE tm h c = some (v, h')) (ht : TR ρ tm a.tmps) (hr : HR ρ h.t.get w) (hf : Fresh ρ h.next) :
    EOut P (execOp a.eval o) ρ h w v h' := by
  obtain ⟨dst, op, type, pos, after, guard⟩ := o
  unfold cE at hc
  simp only [] at hc
  split at hc
  · rename_i t p x
    split at hc
    · rename_i n p' x' hs hp hx
      simp at hc; subst hc
      simp only [evE] at he
      split at he
      · rename_i b off v' hb hv
        split at he
        · rename_i cells len e l hg hl
          cases hk : (Nat.beq l.length n && Nat.ble (off + n) len)
          · rw [hk] at he; simp at he
          · rw [hk, cond_true] at he
            simp only [Bool.and_eq_true] at hk
            have k1 := Nat.eq_of_beq_eq_true hk.1
            have k2 := Nat.le_of_ble_eq_true hk.2
            simp only [Option.some.injEq, Prod.mk.injEq] at he
            obtain ⟨rfl, rfl⟩ := he
            have hB := evo_sound ht hp hb
            simp only [VR] at hB
            obtain ⟨lc, hlc, hB⟩ := hB
            obtain ⟨j1, j2⟩ := cellsA_sound (evo_sound ht hx hv) hl
            obtain ⟨w', m1, m2⟩ := nx_write hr hg hlc j1 j2 (o := off) (by omega) P
            refine ⟨ρ, w', undef, .inr ⟨?_, rfl⟩, ?_, way_set hf hlc m2⟩
            · have hsz : (a.eval x).cells.size = n := by have := j1.length; simp at this; omega
              simp [execOp, Instr.storeAt, hB, Instr.sureAddr, storeVar, run_sizeOf hs, hsz, m1]
            · simp only [VR]; exact ⟨[], rfl, rfl⟩
        · simp at he
      · simp at he
    · simp at hc
  · rename_i args ats
    split at hc
    · rename_i s x ts tx hargs h0 h1
      split at hc
      · rename_i e ex hu hx
        split at hc
        · rename_i i z s' x' hi hz hs hxx
          cases hb : (Nat.beq z.length i.size && Nat.blt 0 i.size)
          · rw [hb] at hc; simp at hc
          · rw [hb, cond_true] at hc
            simp only [Bool.and_eq_true] at hb
            simp at hc; subst hc
            have hzl := Nat.eq_of_beq_eq_true hb.1
            have hpos : 0 < i.size := Nat.le_of_ble_eq_true hb.2
            simp only [evE] at he
            split at he
            · rename_i sv xv hsv hxv
              split at he
              · rename_i n src hsrc
                obtain ⟨q, c2, SRC, hX, k1, k2, k3, k4⟩ := srcA_sound (P := P) hr hsrc (evo_sound ht hxx hxv)
                have hargs' : args = #[s, x] := by rw [← Array.toArray_toList (xs := args), hargs]
                subst hargs'
                obtain ⟨ρ', w', V, m1, m2, m3⟩ := appA_sound h0 h1 hu hx hi hz hzl hpos hr hf (evo_sound ht hs hsv) k1 k3 k2 (fun w' hw => by rw [← hX]; exact k4 w' hw) he type
                obtain ⟨cs, hbb⟩ := run_builtin (P := P) (ρ := a.eval) (b := .append) (args := #[s, x]) (ats := ats) (dst := dst) (type := type) (pos := pos) (after := after) (guard := guard)
                refine ⟨ρ', w', V, .inl ?_, m2, m3⟩
                rw [hbb]
                simp [builtin, hX, m1]
              · simp at he
            · simp at he
        · simp at hc
      · rename_i e kk hu hx
        split at hc
        · rename_i i z s' x' hi hz hs hxx
          cases hb : (Nat.beq z.length i.size && Nat.blt 0 i.size)
          · rw [hb] at hc; simp at hc
          · rw [hb, cond_true] at hc
            simp only [Bool.and_eq_true] at hb
            simp at hc; subst hc
            have hzl := Nat.eq_of_beq_eq_true hb.1
            have hpos : 0 < i.size := Nat.le_of_ble_eq_true hb.2
            simp only [evE] at he
            split at he
            · rename_i k' m hsv hxv
              split at he
              · rename_i n
                split at he
                · simp at he
                · rename_i hn0
                  have hn : 0 < n := Nat.pos_of_ne_zero hn0
                  have hargs' : args = #[s, x] := by rw [← Array.toArray_toList (xs := args), hargs]
                  subst hargs'
                  have hS := evo_sound ht hs hsv
                  have hX := evo_sound ht hxx hxv
                  simp only [VR] at hS hX
                  obtain ⟨ρ', w', V, m1, m2, m3⟩ := appz_sound (k' := k') h0 h1 hu hx hi hz hzl hpos hr hf hn he type
                  obtain ⟨cs, hbb⟩ := run_builtin (P := P) (ρ := a.eval) (b := .append) (args := #[s, x]) (ats := ats) (dst := dst) (type := type) (pos := pos) (after := after) (guard := guard)
                  refine ⟨ρ', w', V, .inl ?_, m2, m3⟩
                  rw [hbb]
                  have hX' : a.eval x = .int k' (n : Int) := hX
                  simp [builtin, hS, hX', m1]
              · simp at he
            · simp at he
        · simp at hc
      · simp at hc
    · simp at hc
  · simp at hc
end
end Go.Proofs.YtldmhpdjlgoenaaGreatDoor.Eo

namespace Go.Proofs.YtldmhpdjlgoenaaGreatDoor.Eo
noncomputable section

def kindOf : TypeDesc → Option Nat
  | .int _ => some 0
  | .string => some 1
  | .bool => some 2
  | _ => none
def keyEq (kd : Nat) (x y : AV) : Option Bool := match x, y with
  | .int k a, .int k' b => cond (Nat.beq kd 0 && decide (k = k')) (some (iEq a b)) none
  | .str a, .str b => cond (Nat.beq kd 1) (some (strEq a b)) none
  | .bool a, .bool b => cond (Nat.beq kd 2) (some (a == b)) none
  | _, _ => none
def findA (kd : Nat) (k : AV) : List (AV × AV × Nat) → Nat → Option (Option (Nat × AV))
  | [], _ => some none
  | e :: es, i => match keyEq kd k e.1 with
    | some true => some (some (i, e.2.1))
    | some false => findA kd k es (i + 1)
    | none => none

theorem keyEq_sound {ρ : Rho} {kd : Nat} {d : TypeDesc} (hd : kindOf d = some kd) {x y : AV} {X Y : Value} {b : Bool} (h : keyEq kd x y = some b) (hx : VR ρ x X) (hy : VR ρ y Y) :
    Instr.sameNow d X Y = some b ∧ (b = true → Instr.sameBits 10000 Y X = true) ∧ ∀ (P : Program) (em : Bool) (t : TypeId), P.underlying t = some d → ∀ w, (Instr.checkKey em 10000 t X).run P w = .ok () w := by
  have hc : ∀ (V : Value), (∀ t v, V ≠ .iface t v) → (∀ c, V ≠ .agg c) → V ≠ .nilIface → ∀ (P : Program) (em : Bool) (t : TypeId), P.underlying t = some d → ∀ w, (Instr.checkKey em 10000 t V).run P w = .ok () w := by
    intro V h1 h2 h3 P em t ht w
    unfold Instr.checkKey
    simp only [Sem.run_bind, Go.Proofs.YtldmhpdjlgoenaaGreatDoor.Eo.run_underlying ht, Result.andThen_ok]
    cases d <;> simp only [kindOf] at hd <;> first
      | (simp at hd; done)
      | simp
  unfold keyEq at h
  split at h
  · rename_i k a k' c
    cases hb : (Nat.beq kd 0 && decide (k = k'))
    · rw [hb] at h; simp at h
    · rw [hb, cond_true] at h
      simp only [Bool.and_eq_true, decide_eq_true_eq] at hb
      obtain ⟨hb1, rfl⟩ := hb
      have hb1 := Nat.eq_of_beq_eq_true hb1
      subst hb1
      simp at h; subst h
      simp only [VR] at hx hy; subst hx hy
      refine ⟨?_, ?_, hc _ (by simp) (by simp) (by simp)⟩
      · cases d <;> simp only [kindOf] at hd <;> first
          | (simp at hd; done)
          | simp [Instr.sameNow, iEq_eq]
      · rw [iEq_eq]; intro he; simp at he; subst he; simp [Instr.sameBits]
  · rename_i a c
    cases hb : Nat.beq kd 1
    · rw [hb] at h; simp at h
    · rw [hb, cond_true] at h
      have hb1 := Nat.eq_of_beq_eq_true hb
      subst hb1
      simp at h; subst h
      simp only [strEq_eq]
      simp only [VR] at hx hy; subst hx hy
      refine ⟨?_, ?_, hc _ (by simp) (by simp) (by simp)⟩
      · cases d <;> simp only [kindOf] at hd <;> first
          | (simp at hd; done)
          | simp [Instr.sameNow]
      · intro he; have : a = c := (Go.MapKept.bytes_beq a c).1 he
        subst this; simp only [Instr.sameBits]; exact he
  · rename_i a c
    cases hb : Nat.beq kd 2
    · rw [hb] at h; simp at h
    · rw [hb, cond_true] at h
      have hb1 := Nat.eq_of_beq_eq_true hb
      subst hb1
      simp at h; subst h
      simp only [VR] at hx hy; subst hx hy
      refine ⟨?_, ?_, hc _ (by simp) (by simp) (by simp)⟩
      · cases d <;> simp only [kindOf] at hd <;> first
          | (simp at hd; done)
          | simp [Instr.sameNow]
      · intro he; have : a = c := by simpa using he
        subst this; simp [Instr.sameBits]
  · simp at h

/-- what a search in a map finds -/
def FR (ρ : Rho) (es : List (AV × AV × Nat)) (K : Value) (ES : List MapEntry) (i : Nat) : Option (Nat × AV) → Option (Nat × Value) → Prop
  | none, R => R = none
  | some (j, v), R => ∃ V E, R = some (j, V) ∧ VR ρ v V ∧ i ≤ j ∧ ES[j - i]? = some E ∧ Instr.sameBits 10000 E.key K = true
theorem findA_sound {ρ : Rho} {kd : Nat} {d : TypeDesc} (hd : kindOf d = some kd) {k : AV} {K : Value} (hk : VR ρ k K) : ∀ {es : List (AV × AV × Nat)} {ES : List MapEntry} {i : Nat} {r : Option (Nat × AV)}, findA kd k es i = some r → ERs ρ es ES →
    ∃ R, Instr.findNow d K ES i = some R ∧ FR ρ es K ES i r R
  | [], ES, i, r, h, he => by
    simp [findA] at h; subst h
    simp only [ERs] at he; subst he
    exact ⟨none, rfl, rfl⟩
  | e :: es, ES, i, r, h, he => by
    obtain ⟨E, M, h1, h2, h3, h4, rfl⟩ := he
    unfold findA at h
    split at h
    · rename_i hq
      simp at h; subst h
      obtain ⟨q1, q2, _⟩ := keyEq_sound hd hq hk h1
      exact ⟨some (i, E.val), by simp [Instr.findNow, q1], E.val, E, rfl, h2, Nat.le_refl _, by simp, q2 rfl⟩
    · rename_i hq
      obtain ⟨q1, _, _⟩ := keyEq_sound hd hq hk h1
      obtain ⟨R, j1, j2⟩ := findA_sound hd hk h h4
      refine ⟨R, by simp [Instr.findNow, q1, j1], ?_⟩
      cases r with
      | none => exact j2
      | some jv =>
        obtain ⟨j, v⟩ := jv
        obtain ⟨V, E', m1, m2, m3, m4, m5⟩ := j2
        exact ⟨V, E', m1, m2, by omega, by rw [show j - i = (j - (i + 1)) + 1 by omega]; simpa using m4, m5⟩
    · simp at h

/-- a key of a kind that can be seen -/
def keyA (kd : Nat) : AV → Bool
  | .int _ _ => Nat.beq kd 0
  | .str _ => Nat.beq kd 1
  | .bool _ => Nat.beq kd 2
  | _ => false
theorem keyA_check {ρ : Rho} {kd : Nat} {d : TypeDesc} (hd : kindOf d = some kd) {k : AV} {K : Value} (h : keyA kd k = true) (hk : VR ρ k K) (P : Program) (em : Bool) (t : TypeId) (ht : P.underlying t = some d) (w : World) : (Instr.checkKey em 10000 t K).run P w = .ok () w := by
  have hq : ∃ b, keyEq kd k k = some b := by
    unfold keyA at h
    unfold keyEq
    split at h
    · simp only [h, decide_true, Bool.and_self, cond_true]; exact ⟨_, rfl⟩
    · simp only [h, cond_true]; exact ⟨_, rfl⟩
    · simp only [h, cond_true]; exact ⟨_, rfl⟩
    · simp at h
  obtain ⟨b, hb⟩ := hq
  exact (keyEq_sound hd hb hk hk).2.2 P em t ht w

theorem run_findKey {P : Program} {t : TypeId} {d : TypeDesc} (ht : P.underlying t = some d) {K : Value} {ES : List MapEntry} {R : Option (Nat × Value)} (h : Instr.findNow d K ES 0 = some R) (w : World) : (Instr.findKey t K ES).run P w = .ok R w := by
  simp [Instr.findKey, Go.Proofs.YtldmhpdjlgoenaaGreatDoor.Eo.run_underlying ht, h]

/-- an operation that changes a map -/
inductive MOp where
  | upd (kd : Nat) (m k v : Opd)
  | del (kd : Nat) (m k : Opd)
/-- a search in a map -/
structure LOp where
  kd : Nat
  m : Opd
  k : Opd
  z : AV
  ok : Bool

def evM (tm : T AV) (h : H) : MOp → Option (AV × H)
  | .upd kd m k v => match evo tm m, evo tm k, evo tm v with
    | some (.map a), some k, some v => match h.t.get a with
      | some (.map es clock) => cond (keyA kd k) (match findA kd k es 0 with
        | some none => some (.tup [], ⟨h.next, h.t.set a (.map (es ++ [(k, v, clock)]) (clock + 1))⟩)
        | some (some (i, _)) => some (.tup [], ⟨h.next, h.t.set a (.map (es.modify i fun e => (k, v, e.2.2)) clock)⟩)
        | none => none) none
      | _ => none
    | _, _, _ => none
  | .del kd m k => match evo tm m, evo tm k with
    | some (.map a), some k => match h.t.get a with
      | some (.map es clock) => cond (keyA kd k) (match findA kd k es 0 with
        | some none => some (.tup [], ⟨h.next, h.t.set a (.map es clock)⟩)
        | some (some (i, _)) => some (.tup [], ⟨h.next, h.t.set a (.map (es.eraseIdx i) clock)⟩)
        | none => none) none
      | _ => none
    | _, _ => none
def evL (tm : T AV) (g : Nat → Option AO) (o : LOp) : Option AV :=
  let res (v : AV) (ok : Bool) : Option AV := some (cond o.ok (.tup [v, .bool ok]) v)
  match evo tm o.m, evo tm o.k with
  | some .nilm, some k => cond (keyA o.kd k) (res o.z false) none
  | some (.map a), some k => match g a with
    | some (.map es _) => cond (keyA o.kd k) (match findA o.kd k es 0 with
      | some none => res o.z false
      | some (some (_, v)) => res v true
      | none => none) none
    | _ => none
  | _, _ => none
def zval (P : Program) (t : TypeId) : Option AV :=
  match P.info? t with
  | some i => match i.zero with
    | some z => cv z
    | none => none
  | none => none
def cL (P : Program) (o : Oper) : Option LOp := match o.op with
  | .lookup t x ix ok => match P.underlying t with
    | some (.map kt e) => match P.underlying kt, zval P e, cOpd x, cOpd ix with
      | some d, some z, some m, some k => match kindOf d with
        | some kd => some ⟨kd, m, k, z, ok⟩
        | none => none
      | _, _, _, _ => none
    | _ => none
  | _ => none
def cUpd (P : Program) (t : TypeId) (m k x : Operand) : Option MOp := match P.underlying t with
    | some (.map kt _) => match P.underlying kt, cOpd m, cOpd k, cOpd x with
      | some d, some m, some k, some x => match kindOf d with
        | some kd => some (.upd kd m k x)
        | none => none
      | _, _, _, _ => none
    | _ => none
def cM (P : Program) (o : Oper) : Option MOp := match o.op with
  | .mapUpdate t m k x => cUpd P t m k x
  | .insert t m k x => cUpd P t m k x
  | .call { callee := .builtin .delete, args, argTypes } => match args.toList, argTypes[0]? with
    | [m, k], some t => match P.underlying t with
      | some (.map kt _) => match P.underlying kt, cOpd m, cOpd k with
        | some d, some m, some k => match kindOf d with
          | some kd => some (.del kd m k)
          | none => none
        | _, _, _ => none
      | _ => none
    | _, _ => none
  | _ => none

theorem zval_sound {P : Program} {t : TypeId} {v : AV} (h : zval P t = some v) (ρ : Rho) : ∃ V, VR ρ v V ∧ ∀ w, (zeroValue t).run P w = .ok V w := by
  unfold zval at h
  split at h
  · rename_i i hi
    split at h
    · rename_i z hz
      exact ⟨z, cv_sound h, fun w => by simp [zeroValue, run_typeInfo hi, hz]⟩
    · simp at h
  · simp at h

theorem evL_sound {P : Program} {o : Oper} {c : LOp} {tm : T AV} {v : AV} {ρ : Rho} {a : Act} {g : Nat → Option AO} {w : World} (hc : cL P o = some c) (h : evL tm g c = some v) (ht : TR ρ tm a.tmps) (hr : HR ρ g w) :
    ∃ V, VR ρ v V ∧ (execOp a.eval o).run P w = .ok (.value V) w := by
  obtain ⟨dst, op, type, pos, after, guard⟩ := o
  unfold cL at hc
  simp only [] at hc
  split at hc
  · rename_i t x ix ok
    split at hc
    · rename_i kt e hu
      split at hc
      · rename_i d z m k hd hz hm hk
        split at hc
        · rename_i kd hkd
          simp at hc; subst hc
          obtain ⟨Z, z1, z2⟩ := zval_sound hz ρ
          have hres : ∀ {u v : AV} {U : Value} {b : Bool}, some (cond ok (AV.tup [u, .bool b]) u) = some v → VR ρ u U → VR ρ v (if ok then .tuple #[U, .bool b] else U) := by
            intro u v U b hv hU
            simp at hv; subst hv
            cases ok
            · simpa using hU
            · simp only [cond_true, if_true, VR]
              exact ⟨[U, .bool b], ⟨U, [.bool b], hU, ⟨.bool b, [], by simp [VR], rfl, rfl⟩, rfl⟩, rfl⟩
          unfold evL at h
          simp only [] at h
          split at h
          · rename_i k' hm' hk'
            cases hka : keyA kd k'
            · rw [hka] at h; simp at h
            · rw [hka, cond_true] at h
              have hM := evo_sound ht hm hm'
              simp only [VR] at hM
              have hK := evo_sound ht hk hk'
              have hck := keyA_check hkd hka hK P true kt hd w
              refine ⟨_, hres h z1, ?_⟩
              simp [execOp, Instr.lookup, Go.Proofs.YtldmhpdjlgoenaaGreatDoor.Eo.run_underlying hu, hM, hck, run_findKey hd (K := a.eval ix) (ES := []) (R := none) rfl, z2]
          · rename_i p k' hm' hk'
            split at h
            · rename_i es clock hg
              cases hka : keyA kd k'
              · rw [hka] at h; simp at h
              · rw [hka, cond_true] at h
                have hM := evo_sound ht hm hm'
                simp only [VR] at hM
                obtain ⟨l, hl, hM⟩ := hM
                have hK := evo_sound ht hk hk'
                obtain ⟨_, ES, he, hh⟩ := hr.obj p _ l hg rfl hl
                have hck := fun em => keyA_check hkd hka hK P em kt hd w
                split at h
                · rename_i hf
                  obtain ⟨R, f1, f2⟩ := findA_sound hkd hK hf he
                  simp only [FR] at f2; subst f2
                  refine ⟨_, hres h z1, ?_⟩
                  simp [execOp, Instr.lookup, Go.Proofs.YtldmhpdjlgoenaaGreatDoor.Eo.run_underlying hu, hM, hck, run_findKey hd f1, z2, getObj, Sem.run, hh]
                · rename_i j u hf
                  obtain ⟨R, f1, f2⟩ := findA_sound hkd hK hf he
                  simp only [FR] at f2
                  obtain ⟨V, E, rfl, m2, _⟩ := f2
                  refine ⟨_, hres h m2, ?_⟩
                  simp [execOp, Instr.lookup, Go.Proofs.YtldmhpdjlgoenaaGreatDoor.Eo.run_underlying hu, hM, hck, run_findKey hd f1, getObj, Sem.run, hh]
                · simp at h
            · simp at h
          · simp at h
        · simp at hc
      · simp at hc
    · simp at hc
  · simp at hc

theorem ERs.app {ρ : Rho} : ∀ {l m : List (AV × AV × Nat)} {L M : List MapEntry}, ERs ρ l L → ERs ρ m M → ERs ρ (l ++ m) (L ++ M)
  | [], m, L, M, h, h' => by simp only [ERs] at h; subst h; simpa using h'
  | e :: l, m, L, M, h, h' => by
    obtain ⟨E, N, h1, h2, h3, h4, rfl⟩ := h
    exact ⟨E, N ++ M, h1, h2, h3, ERs.app h4 h', rfl⟩
theorem ERs.mod {ρ : Rho} {k v : AV} {K V : Value} (hk : VR ρ k K) (hv : VR ρ v V) : ∀ {l : List (AV × AV × Nat)} {L : List MapEntry} (i : Nat), ERs ρ l L → ERs ρ (l.modify i fun e => (k, v, e.2.2)) (L.modify i fun e => { e with key := K, val := V })
  | [], L, i, h => by simp only [ERs] at h; subst h; simp [ERs]
  | e :: l, L, 0, h => by
    obtain ⟨E, N, h1, h2, h3, h4, rfl⟩ := h
    exact ⟨{ E with key := K, val := V }, N, hk, hv, h3, h4, rfl⟩
  | e :: l, L, i + 1, h => by
    obtain ⟨E, N, h1, h2, h3, h4, rfl⟩ := h
    exact ⟨E, _, h1, h2, h3, ERs.mod hk hv i h4, rfl⟩
theorem ERs.erase {ρ : Rho} : ∀ {l : List (AV × AV × Nat)} {L : List MapEntry} (i : Nat), ERs ρ l L → ERs ρ (l.eraseIdx i) (L.eraseIdx i)
  | [], L, i, h => by simp only [ERs] at h; subst h; simp [ERs]
  | e :: l, L, 0, h => by
    obtain ⟨E, N, h1, h2, h3, h4, rfl⟩ := h
    exact h4
  | e :: l, L, i + 1, h => by
    obtain ⟨E, N, h1, h2, h3, h4, rfl⟩ := h
    exact ⟨E, _, h1, h2, h3, ERs.erase i h4, rfl⟩

/-- A map is changed. -/
theorem way_map {P : Program} {ρ : Rho} {h : H} {w : World} (hr : HR ρ h.t.get w) (hf : Fresh ρ h.next) {a : Nat} {l : Loc} {es es' : List (AV × AV × Nat)} {clock clock' : Nat} {ES' : List MapEntry} (hg : h.t.get a = some (.map es clock)) (hl : ρ a = some l) (he : ERs ρ es' ES') :
    ∃ w', (setObj l.blk (.map ES'.toArray clock')).run P w = .ok () w' ∧ Way ρ h w ρ ⟨h.next, h.t.set a (.map es' clock')⟩ w' := by
  obtain ⟨hb, ES, h1, h2⟩ := hr.obj a _ l hg rfl hl
  refine ⟨{ w with heap := w.heap.setIfInBounds l.blk (.map ES'.toArray clock') }, by simp [setObj, Sem.run, h2], way_set hf hl (nx_set hr hg rfl hl (fun b => T.get_set _ _ _ _) ⟨rfl, rfl, rfl⟩ (by simp) (fun r hne => ?_) rfl ⟨ES', he, ?_⟩)⟩
  · simp only [Array.getElem?_setIfInBounds_ne (Ne.symm hne)]
  · simp [hb]

theorem upd_sound {P : Program} {t : TypeId} {m k x : Operand} {c : MOp} {tm : T AV} {h h' : H} {v : AV} {ρ : Rho} {a : Act} {w : World} (hc : cUpd P t m k x = some c) (he : evM tm h c = some (v, h')) (ht : TR ρ tm a.tmps) (hr : HR ρ h.t.get w) (hf : Fresh ρ h.next) :
    v = .tup [] ∧ ∃ w', (Instr.mapUpdate t (a.eval m) (a.eval k) (a.eval x)).run P w = .ok () w' ∧ Way ρ h w ρ h' w' := by
  unfold cUpd at hc
  split at hc
  · rename_i kt et hu
    split at hc
    · rename_i d m' k' x' hd hm hk hx
      split at hc
      · rename_i kd hkd
        simp at hc; subst hc
        simp only [evM] at he
        split at he
        · rename_i p kv xv hm' hk' hx'
          split at he
          · rename_i es clock hg
            cases hka : keyA kd kv
            · rw [hka] at he; simp at he
            · rw [hka, cond_true] at he
              have hM := evo_sound ht hm hm'
              simp only [VR] at hM
              obtain ⟨l, hl, hM⟩ := hM
              have hK := evo_sound ht hk hk'
              have hX := evo_sound ht hx hx'
              obtain ⟨_, ES, hes, hh⟩ := hr.obj p _ l hg rfl hl
              have hck := fun em => keyA_check hkd hka hK P em kt hd w
              split at he
              · rename_i hfd
                obtain ⟨R, f1, f2⟩ := findA_sound hkd hK hfd hes
                simp only [FR] at f2; subst f2
                simp only [Option.some.injEq, Prod.mk.injEq] at he
                obtain ⟨rfl, rfl⟩ := he
                obtain ⟨w', j1, j2⟩ := way_map (P := P) (clock' := clock + 1) hr hf hg hl (ERs.app hes (m := [(kv, xv, clock)]) (M := [{ key := a.eval k, val := a.eval x, born := clock }]) ⟨_, [], hK, hX, rfl, rfl, rfl⟩)
                refine ⟨rfl, w', ?_, j2⟩
                have e : ({ toList := ES } : Array MapEntry).push ({ key := a.eval k, val := a.eval x, born := clock } : MapEntry) = (ES ++ [({ key := a.eval k, val := a.eval x, born := clock } : MapEntry)]).toArray := by simp
                simp only [Instr.mapUpdate, Sem.run_bind, Go.Proofs.YtldmhpdjlgoenaaGreatDoor.Eo.run_underlying hu, Result.andThen_ok, hM, getObj, Sem.run, hh, hck, run_findKey hd f1, e, j1]
              · rename_i j u hfd
                obtain ⟨R, f1, f2⟩ := findA_sound hkd hK hfd hes
                simp only [FR] at f2
                obtain ⟨V, E, rfl, m2, _, m4, m5⟩ := f2
                simp only [Option.some.injEq, Prod.mk.injEq] at he
                obtain ⟨rfl, rfl⟩ := he
                obtain ⟨w', j1, j2⟩ := way_map (P := P) (clock' := clock) hr hf hg hl (ERs.mod hK hX j hes)
                refine ⟨rfl, w', ?_, j2⟩
                have m4' : ES[j]? = some E := by simpa using m4
                have e : (({ toList := ES } : Array MapEntry).modify j fun e => { e with key := a.eval k, val := a.eval x }) = (ES.modify j fun e => { e with key := a.eval k, val := a.eval x }).toArray := by simp
                simp only [Instr.mapUpdate, Sem.run_bind, Go.Proofs.YtldmhpdjlgoenaaGreatDoor.Eo.run_underlying hu, Result.andThen_ok, hM, getObj, Sem.run, hh, hck, run_findKey hd f1, Instr.keyThatStays, List.getElem?_toArray, m4', Option.map_some, Option.getD_some, m5, if_true, Sem.run_pure, e, j1]
              · simp at he
          · simp at he
        · simp at he
      · simp at hc
    · simp at hc
  · simp at hc

theorem evM_sound {P : Program} {o : Oper} {c : MOp} {tm : T AV} {h h' : H} {v : AV} {ρ : Rho} {a : Act} {w : World} (hc : cM P o = some c) (he : evM tm h c = some (v, h')) (ht : TR ρ tm a.tmps) (hr : HR ρ h.t.get w) (hf : Fresh ρ h.next) :
    EOut P (execOp a.eval o) ρ h w v h' := by
  obtain ⟨dst, op, type, pos, after, guard⟩ := o
  unfold cM at hc
  simp only [] at hc
  split at hc
  · obtain ⟨rfl, w', k1, k2⟩ := upd_sound hc he ht hr hf
    exact ⟨ρ, w', undef, .inr ⟨by simp [execOp, k1], rfl⟩, by simp only [VR]; exact ⟨[], rfl, rfl⟩, k2⟩
  · obtain ⟨rfl, w', k1, k2⟩ := upd_sound hc he ht hr hf
    exact ⟨ρ, w', undef, .inr ⟨by simp [execOp, k1], rfl⟩, by simp only [VR]; exact ⟨[], rfl, rfl⟩, k2⟩
  · rename_i args ats
    split at hc
    · rename_i m k t hargs h0
      have hargs' : args = #[m, k] := by rw [← Array.toArray_toList (xs := args), hargs]
      subst hargs'
      split at hc
      · rename_i kt et hu
        split at hc
        · rename_i d m' k' hd hm hk
          split at hc
          · rename_i kd hkd
            simp at hc; subst hc
            simp only [evM] at he
            split at he
            · rename_i p kv hm' hk'
              split at he
              · rename_i es clock hg
                cases hka : keyA kd kv
                · rw [hka] at he; simp at he
                · rw [hka, cond_true] at he
                  have hM := evo_sound ht hm hm'
                  simp only [VR] at hM
                  obtain ⟨l, hl, hM⟩ := hM
                  have hK := evo_sound ht hk hk'
                  obtain ⟨_, ES, hes, hh⟩ := hr.obj p _ l hg rfl hl
                  have hck := fun em => keyA_check hkd hka hK P em kt hd w
                  obtain ⟨cs, hbb⟩ := run_builtin (P := P) (ρ := a.eval) (b := .delete) (args := #[m, k]) (ats := ats) (dst := dst) (type := type) (pos := pos) (after := after) (guard := guard)
                  split at he
                  · rename_i hfd
                    obtain ⟨R, f1, f2⟩ := findA_sound hkd hK hfd hes
                    simp only [FR] at f2; subst f2
                    simp only [Option.some.injEq, Prod.mk.injEq] at he
                    obtain ⟨rfl, rfl⟩ := he
                    obtain ⟨w', j1, j2⟩ := way_map (P := P) (clock' := clock) hr hf hg hl hes
                    refine ⟨ρ, w', undef, .inl ?_, by simp only [VR]; exact ⟨[], rfl, rfl⟩, j2⟩
                    rw [hbb]
                    simp [builtin, Builtin.delete_, h0, Go.Proofs.YtldmhpdjlgoenaaGreatDoor.Eo.run_underlying hu, hM, getObj, Sem.run, hh, hck, run_findKey hd f1, j1, undef]
                  · rename_i j u hfd
                    obtain ⟨R, f1, f2⟩ := findA_sound hkd hK hfd hes
                    simp only [FR] at f2
                    obtain ⟨V, E, rfl, m2, _, m4, m5⟩ := f2
                    simp only [Option.some.injEq, Prod.mk.injEq] at he
                    obtain ⟨rfl, rfl⟩ := he
                    obtain ⟨w', j1, j2⟩ := way_map (P := P) (clock' := clock) hr hf hg hl (ERs.erase j hes)
                    refine ⟨ρ, w', undef, .inl ?_, by simp only [VR]; exact ⟨[], rfl, rfl⟩, j2⟩
                    rw [hbb]
                    have e : ({ toList := ES } : Array MapEntry).eraseIdxIfInBounds j = (ES.eraseIdx j).toArray := by simp
                    simp [builtin, Builtin.delete_, h0, Go.Proofs.YtldmhpdjlgoenaaGreatDoor.Eo.run_underlying hu, hM, getObj, Sem.run, hh, hck, run_findKey hd f1, e, j1, undef]
                  · simp at he
              · simp at he
            · simp at he
          · simp at hc
        · simp at hc
      · simp at hc
    · simp at hc
  · simp at hc
end
end Go.Proofs.YtldmhpdjlgoenaaGreatDoor.Eo
