/-
  An evaluator of Go code over relative heaps, part Z: regions whose operations are not wholly ordered: their evaluation is sound.
  An evaluator of Go code over relative heaps, part Za: the whole region.
  An evaluator of Go code over relative heaps, part Zb: one more operation of a region.
  An evaluator of Go code over relative heaps, part Zc: regions whose operations are not wholly ordered.
  An evaluator of Go code over relative heaps, part Zd: the evaluation of regions is sound.
-/
import Derived.Test.YtldmhpdjlgoenaaGreatDoorEoY
import Derived.Orders
set_option linter.unusedVariables false
set_option linter.unusedSimpArgs false
namespace Go.Proofs.YtldmhpdjlgoenaaGreatDoor.Eo
noncomputable section

abbrev On (listed : Array Bool) (i : Nat) : Prop := listed.getD i false = true

/-- what stands while a region is run: k effects have been, hk is the heap of that phase -/
structure Inv (ops : Array Oper) (N : Nat) (es : List Nat) (F : T Rec) (h0 : H) (ρ0 : Rho) (w0 : World) (a0 : Act) (listed : Array Bool) (k : Nat) (hk : H) (ρ : Rho) (a : Act) (w : World) : Prop where
  lsize : listed.size = ops.size
  down : Down ops.toList (On listed)
  effs : ∀ l e, es[l]? = some e → (On listed e ↔ l < k)
  kle : k ≤ es.length
  nx : Nx ρ0 h0.t.get w0 ρ hk.t.get w
  fresh : Fresh ρ hk.next
  kp : Kp ρ0 h0 ρ hk
  al : ∀ i v b o p, F.get i = some (.alloc v b o p) → ¬ On listed i → ρ b = none ∧ (p ≤ k → hk.t.get b = some o ∧ b < hk.next)
  slots : ∀ t, (∃ j r o, ops[j]? = some o ∧ o.dst = some t ∧ On listed j ∧ F.get j = some r ∧ (∀ j' o', ops[j']? = some o' → o'.dst = some t → On listed j' → j' ≤ j) ∧ t < N ∧ VR ρ r.val (a.tmps.getD t undef)) ∨
    ((∀ j o, ops[j]? = some o → o.dst = some t → ¬ On listed j) ∧ a.tmps.getD t undef = a0.tmps.getD t undef)
  tsize : a.tmps.size = N
  defers : a.defers = a0.defers

theorem looksOf_mem {ops : List Oper} {m : OT Nat} {i : Nat} : ∀ {ts : List Nat} {lk : List (Nat × Option Nat)}, looksOf ops m i ts = some lk → ∀ t r, (t, r) ∈ lk → lookOf ops m i t = some r
  | [], lk, h, t, r, hm => by simp [looksOf] at h; subst h; simp at hm
  | s :: ts, lk, h, t, r, hm => by
    unfold looksOf at h
    split at h
    · rename_i r' hr
      split at h
      · rename_i rs hrs
        simp at h; subst h
        rcases List.mem_cons.1 hm with e | hm
        · simp at e; obtain ⟨rfl, rfl⟩ := e; exact hr
        · exact looksOf_mem hrs t r hm
      · simp at h
    · simp at h

section
variable {ops : Array Oper} {N : Nat} {es : List Nat} {F : T Rec} {h0 : H} {ρ0 : Rho} {w0 : World} {a0 : Act} {listed : Array Bool} {k : Nat} {hk : H} {ρ : Rho} {a : Act} {w : World}

/-- operation i may come next -/
structure Next (ops : Array Oper) (listed : Array Bool) (i : Nat) (o : Oper) : Prop where
  op : ops[i]? = some o
  new : ¬ On listed i
  pre : ∀ e ∈ o.after.toList, Region.binds .any e = true → On listed e.on
theorem Next.down (hd : Down ops.toList (On listed)) {i : Nat} {o : Oper} (hn : Next ops listed i o) : Down ops.toList (fun j => On listed j ∨ j = i) := by
  intro j oj hj hS e he hb
  rcases hS with hS | rfl
  · exact .inl (hd j oj hj hS e he hb)
  · have : ops[j]? = some oj := by simpa using hj
    rw [hn.op] at this; simp at this; subst this
    exact .inl (hn.pre e he hb)
theorem Next.bef_on (hd : Down ops.toList (On listed)) (hok : edgesOk ops.toList 0 = true) {i : Nat} {o : Oper} (hn : Next ops listed i o) {j : Nat} (hb : bef (preds ops.toList) i j = true) : On listed j := by
  obtain ⟨h1, h2⟩ := bef_sound hok hb
  rcases h2 _ (hn.down hd) (.inr rfl) with h | h
  · exact h
  · omega
theorem Next.not_bef (hd : Down ops.toList (On listed)) (hok : edgesOk ops.toList 0 = true) {i : Nat} {o : Oper} (hn : Next ops listed i o) {j : Nat} (hj : On listed j) : bef (preds ops.toList) j i = false := by
  cases hb : bef (preds ops.toList) j i with
  | false => rfl
  | true => exact absurd ((bef_sound hok hb).2 _ hd hj) hn.new

theorem localTm_sound (hI : Inv ops N es F h0 ρ0 w0 a0 listed k hk ρ a w) (hok : edgesOk ops.toList 0 = true) {tm0 : T AV} (ht0 : TR ρ0 tm0 a0.tmps) (hN0 : a0.tmps.size = N) {i : Nat} {o : Oper} (hn : Next ops listed i o) {tm : T AV}
    (h : localTm ops.toList (preds ops.toList) N tm0 F i o = some tm) : TR ρ tm a.tmps := by
  unfold localTm at h
  split at h
  · split at h
    · rename_i lk hlk
      have key : ∀ (lk' : List (Nat × Option Nat)) tm, (∀ t r, (t, r) ∈ lk' → lookOf ops.toList (preds ops.toList) i t = some r) → mkTm tm0 F lk' = some tm → TR ρ tm a.tmps := by
        intro lk'
        induction lk' with
        | nil => intro tm _ h; simp [mkTm_nil] at h; subst h; intro t v hv; simp [T.get_e] at hv
        | cons x l ih =>
          obtain ⟨t, r⟩ := x
          intro tm hlk h
          have ih' := fun tm => ih tm (fun t r hm => hlk t r (List.mem_cons_of_mem _ hm))
          have hl := hlk t r (List.mem_cons_self ..)
          unfold lookOf at hl
          obtain ⟨c1, c2⟩ := lookGo_sound hl writersFrom_sorted (by simp)
          have wr : ∀ j oj, ops[j]? = some oj → oj.dst = some t → j ∈ writersFrom t ops.toList 0 := fun j oj hj hd => writersFrom_mem.2 ⟨Nat.zero_le _, oj, by simpa using hj, hd⟩
          -- a listed writer comes before i
          have lw : ∀ j oj, ops[j]? = some oj → oj.dst = some t → On listed j → j ≠ i ∧ bef (preds ops.toList) i j = true := by
            intro j oj hj hd hon
            have hne : j ≠ i := by rintro rfl; exact hn.new hon
            rcases c1 j (wr j oj hj hd) with rfl | hb | hb
            · exact absurd rfl hne
            · exact ⟨hne, hb⟩
            · rw [hn.not_bef hI.down hok hon] at hb; simp at hb
          cases r with
          | none =>
            rw [mkTm_none] at h
            split at h
            · rename_i tm' h1
              have hno : ∀ j oj, ops[j]? = some oj → oj.dst = some t → ¬ On listed j := by
                intro j oj hj hd hon
                obtain ⟨l1, l2⟩ := lw j oj hj hd hon
                have := c2.2 j (wr j oj hj hd) l1
                rw [l2] at this; simp at this
              split at h
              · rename_i v hv
                simp at h; subst h
                have hT := ih' tm' h1
                rcases hI.slots t with ⟨j, r, oj, s1, s2, s3, _⟩ | ⟨_, s2⟩
                · exact absurd s3 (hno j oj s1 s2)
                · obtain ⟨z1, z2⟩ := ht0 t v hv
                  intro s u hu
                  rw [T.get_set] at hu
                  by_cases e : s = t
                  · subst e
                    rw [if_pos rfl] at hu; simp at hu; subst hu
                    exact ⟨by rw [hI.tsize, ← hN0]; exact z1, by rw [s2]; exact VR.mono hI.nx.le _ _ z2⟩
                  · rw [if_neg e] at hu; exact hT s u hu
              · simp at h; subst h; exact ih' _ h1
            · simp at h
          | some j =>
            rw [mkTm_some] at h
            split at h
            · rename_i tm' h1
              split at h
              · rename_i r hr
                simp at h; subst h
                have hT := ih' tm' h1
                obtain ⟨d1, d2, _⟩ := c2
                obtain ⟨w1, w2, w3⟩ := d1.resolve_left (by simp)
                obtain ⟨_, oj, w4, w5⟩ := writersFrom_mem.1 w1
                have w4' : ops[j]? = some oj := by simpa using w4
                have hjon := hn.bef_on hI.down hok w3
                rcases hI.slots t with ⟨j', r', oj', s1, s2, s3, s4, s5, s6, s7⟩ | ⟨s1, _⟩
                · obtain ⟨l1, l2⟩ := lw j' oj' s1 s2 s3
                  have e1 := d2 j' (wr j' oj' s1 s2) l1 l2
                  have e2 := s5 j oj w4' w5 hjon
                  have e3 : j' = j := by omega
                  subst e3
                  rw [hr] at s4; simp at s4; subst s4
                  intro s u hu
                  rw [T.get_set] at hu
                  by_cases e : s = t
                  · subst e
                    rw [if_pos rfl] at hu; simp at hu; subst hu
                    exact ⟨by rw [hI.tsize]; exact s6, s7⟩
                  · rw [if_neg e] at hu; exact hT s u hu
                · exact absurd hjon (s1 j oj w4' w5)
              · simp at h
            · simp at h
      exact key lk tm (fun t r hm => looksOf_mem hlk t r hm) h
    · simp at h
  · simp at h

theorem on_set {listed : Array Bool} {i j : Nat} (hi : i < listed.size) : On (listed.setIfInBounds i true) j ↔ On listed j ∨ j = i := by
  unfold On
  by_cases e : i = j
  · subst e; simp [hi]
  · rw [getD_set_ne false e]
    constructor
    · exact .inl
    · rintro (h | rfl)
      · exact h
      · exact absurd rfl e

theorem put_getD_ne {a : Act} {dst : Option Nat} {V : Value} {t : Nat} (h : dst ≠ some t) : (a.put dst V).tmps.getD t undef = a.tmps.getD t undef := by
  cases dst with
  | none => rfl
  | some d =>
    have hne : d ≠ t := fun e => h (by rw [e])
    simp [Act.put, Array.getElem?_setIfInBounds_ne hne]

theorem Inv.next (hI : Inv ops N es F h0 ρ0 w0 a0 listed k hk ρ a w) (hok : edgesOk ops.toList 0 = true) {i : Nat} {o : Oper} (hn : Next ops listed i o) {r : Rec} (hr : F.get i = some r) (hd : dstOk ops.toList (preds ops.toList) N i o.dst = true)
    {k' : Nat} {hk' : H} {ρ' : Rho} {w' : World} {V : Value} (hV : VR ρ' r.val V) (hle : Le ρ ρ') (nx' : Nx ρ0 h0.t.get w0 ρ' hk'.t.get w') (fresh' : Fresh ρ' hk'.next) (kp' : Kp ρ0 h0 ρ' hk')
    (effs' : ∀ l e, es[l]? = some e → (On listed e ∨ e = i ↔ l < k')) (kle' : k' ≤ es.length)
    (al' : ∀ j v b o p, F.get j = some (.alloc v b o p) → ¬ On listed j → j ≠ i → ρ' b = none ∧ (p ≤ k' → hk'.t.get b = some o ∧ b < hk'.next)) :
    Inv ops N es F h0 ρ0 w0 a0 (listed.setIfInBounds i true) k' hk' ρ' (a.put o.dst V) w' := by
  have hi : i < listed.size := by rw [hI.lsize]; exact (Array.getElem?_eq_some_iff.1 hn.op).1
  have hon := fun j => on_set (j := j) hi
  refine ⟨by simp [hI.lsize], fun j oj hj hS e he hb => ?_, fun l e hl => by rw [hon]; exact effs' l e hl, kle', nx', fresh', kp', fun j v b o p hj hno => ?_, fun t => ?_, ?_, ?_⟩
  · rw [hon] at hS ⊢
    exact hn.down hI.down j oj hj hS e he hb
  · have : ¬ (On listed j ∨ j = i) := fun hh => hno ((hon j).2 hh)
    exact al' j v b o p hj (fun hh => this (.inl hh)) (fun hh => this (.inr hh))
  · by_cases ht : o.dst = some t
    · left
      unfold dstOk at hd
      rw [ht] at hd
      simp only [] at hd
      split at hd
      · rename_i rr hlook
        have htN := Nat.le_of_ble_eq_true hd
        unfold lookOf at hlook
        obtain ⟨c1, _⟩ := lookGo_sound hlook writersFrom_sorted (by simp)
        refine ⟨i, r, o, hn.op, ht, (hon i).2 (.inr rfl), hr, fun j' o' hj' hd' hon' => ?_, by omega, ?_⟩
        · rcases (hon j').1 hon' with hj1 | rfl
          · have hm : j' ∈ writersFrom t ops.toList 0 := writersFrom_mem.2 ⟨Nat.zero_le _, o', by simpa using hj', hd'⟩
            rcases c1 j' hm with rfl | hb | hb
            · exact Nat.le_refl _
            · exact Nat.le_of_lt (bef_sound hok hb).1
            · rw [hn.not_bef hI.down hok hj1] at hb; simp at hb
          · exact Nat.le_refl _
        · have : (a.put o.dst V).tmps.getD t undef = V := by
            rw [ht]
            have hlt : t < a.tmps.size := by rw [hI.tsize]; omega
            simp [Act.put, hlt]
          rw [this]; exact hV
      · simp at hd
    · rw [put_getD_ne ht]
      rcases hI.slots t with ⟨j, r', oj, s1, s2, s3, s4, s5, s6, s7⟩ | ⟨s1, s2⟩
      · refine .inl ⟨j, r', oj, s1, s2, (hon j).2 (.inl s3), s4, fun j' o' hj' hd' hon' => ?_, s6, VR.mono hle _ _ s7⟩
        rcases (hon j').1 hon' with hj1 | rfl
        · exact s5 j' o' hj' hd' hj1
        · rw [hn.op] at hj'; simp at hj'; subst hj'; exact absurd hd' ht
      · refine .inr ⟨fun j oj hj hd' hon' => ?_, s2⟩
        rcases (hon j).1 hon' with hj1 | rfl
        · exact s1 j oj hj hd' hj1
        · rw [hn.op] at hj; simp at hj; subst hj; exact absurd hd' ht
  · cases o.dst <;> simp [Act.put, hI.tsize]
  · cases o.dst <;> simp [Act.put, hI.defers]

theorem cCall_inv {o : Oper} {c : COp} (h : cCall o = some c) : (∃ f as, c = .cv f as) ∨ ∃ r n as, c = .ci r n as := by
  unfold cCall at h
  split at h
  · split at h
    · simp at h; subst h; exact .inl ⟨_, _, rfl⟩
    · simp at h
  · split at h
    · simp at h; subst h; exact .inr ⟨_, _, _, rfl⟩
    · simp at h
  · simp at h
theorem cOp_p {P : Program} {o : Oper} {x : POp} (h : cOp P o = some (.p x)) : cP P o = some x := by
  unfold cOp at h
  repeat' split at h
  all_goals first
    | (simp at h; subst h; assumption)
    | (simp at h; done)
    | (rename_i hc; simp at h; subst h; rcases cCall_inv hc with ⟨f, as, e⟩ | ⟨r, n, as, e⟩ <;> simp at e)
theorem cOp_r {P : Program} {o : Oper} {x : ROp} (h : cOp P o = some (.r x)) : cR P o = some x := by
  unfold cOp at h
  repeat' split at h
  all_goals first
    | (simp at h; subst h; assumption)
    | (simp at h; done)
    | (rename_i hc; simp at h; subst h; rcases cCall_inv hc with ⟨f, as, e⟩ | ⟨r, n, as, e⟩ <;> simp at e)
theorem cOp_l {P : Program} {o : Oper} {x : LOp} (h : cOp P o = some (.l x)) : cL P o = some x := by
  unfold cOp at h
  repeat' split at h
  all_goals first
    | (simp at h; subst h; assumption)
    | (simp at h; done)
    | (rename_i hc; simp at h; subst h; rcases cCall_inv hc with ⟨f, as, e⟩ | ⟨r, n, as, e⟩ <;> simp at e)
theorem cOp_s {P : Program} {o : Oper} {x : SOp} (h : cOp P o = some (.s x)) : cS P o = some x := by
  unfold cOp at h
  repeat' split at h
  all_goals first
    | (simp at h; subst h; assumption)
    | (simp at h; done)
    | (rename_i hc; simp at h; subst h; rcases cCall_inv hc with ⟨f, as, e⟩ | ⟨r, n, as, e⟩ <;> simp at e)
theorem cOp_n {P : Program} {o : Oper} {x : NOp} (h : cOp P o = some (.n x)) : cN P o = some x := by
  unfold cOp at h
  repeat' split at h
  all_goals first
    | (simp at h; subst h; assumption)
    | (simp at h; done)
    | (rename_i hc; simp at h; subst h; rcases cCall_inv hc with ⟨f, as, e⟩ | ⟨r, n, as, e⟩ <;> simp at e)
theorem localTm_dst {ops' : List Oper} {m : OT Nat} {tm0 tm : T AV} {i : Nat} {o : Oper} (h : localTm ops' m N tm0 F i o = some tm) : dstOk ops' m N i o.dst = true := by
  unfold localTm at h
  split at h
  · assumption
  · simp at h

theorem stepQ {P : Program} {Q : Exit → Act → World → Prop} {K : Act → World → Prop} (hI : Inv ops N es F h0 ρ0 w0 a0 listed k hk ρ a w) (hok : edgesOk ops.toList 0 = true) {tm0 : T AV} (ht0 : TR ρ0 tm0 a0.tmps) (hN0 : a0.tmps.size = N) {i : Nat} {o : Oper} (hn : Next ops listed i o)
    {ph : Nat} {h h' : H} {r : Rec} (hq : opQ P ops.toList (preds ops.toList) N tm0 ph F h i o = some (r, h')) (hr : F.get i = some r) (hes : ∀ l : Nat, es[l]? ≠ some i)
    (hread : ∀ v, r = .read v → ∀ tm, localTm ops.toList (preds ops.toList) N tm0 F i o = some tm → readAt P tm hk o = some v)
    (halloc : ∀ v b ao p, r = .alloc v b ao p → p ≤ k ∧ h0.next ≤ b ∧ ∀ j v' ao' p', F.get j = some (.alloc v' b ao' p') → j = i)
    (hK : ∀ ρ' a' w', Inv ops N es F h0 ρ0 w0 a0 (listed.setIfInBounds i true) k hk ρ' a' w' → K a' w') : wpOp P ops Q i K a w := by
  have hee : ∀ l e, es[l]? = some e → (On listed e ∨ e = i ↔ l < k) := by
    intro l e hl
    rw [← hI.effs l e hl]
    constructor
    · rintro (h | rfl)
      · exact h
      · exact absurd hl (hes l)
    · exact .inl
  unfold opQ at hq
  split at hq
  · rename_i tm htm
    have hT := localTm_sound hI hok ht0 hN0 hn htm
    have hd := localTm_dst htm
    -- a value, and memory as it was
    have still : ∀ V, VR ρ r.val V → Inv ops N es F h0 ρ0 w0 a0 (listed.setIfInBounds i true) k hk ρ (a.put o.dst V) w := fun V hV =>
      hI.next hok hn hr hd hV (Le.refl _) hI.nx hI.fresh hI.kp hee hI.kle (fun j v b o p hj hno _ => hI.al j v b o p hj hno)
    unfold wpOp
    simp only [hn.op]
    split at hq
    · rename_i hw
      rw [wantA_sound hw hT, if_neg (by simp)]
      simp at hq; obtain ⟨rfl, rfl⟩ := hq
      exact hK _ _ _ (still undef (by simp only [Rec.val, VR]; exact ⟨[], rfl, rfl⟩))
    · rename_i hw
      rw [wantA_sound hw hT, if_pos rfl]
      left
      have fin : ∀ {v : AV} {V : Value}, r.val = v → VR ρ v V → (execOp a.eval o).run P w = .ok (.value V) w → o.wp P a w K Q := by
        intro v V hv hV hrun
        unfold Oper.wp
        rw [hrun]
        exact hK _ _ _ (still V (by rw [hv]; exact hV))
      split at hq
      · rename_i x hc
        split at hq
        · rename_i v hv
          simp at hq; obtain ⟨rfl, rfl⟩ := hq
          obtain ⟨V, k1, k2⟩ := evP_sound (cOp_p hc) hv hT
          exact fin rfl k1 (k2 w)
        · simp at hq
      · rename_i x hc
        split at hq
        · rename_i v hv
          simp at hq; obtain ⟨rfl, rfl⟩ := hq
          have := hread v rfl tm htm
          unfold readAt at this
          rw [hc] at this
          obtain ⟨V, k1, k2⟩ := evR_sound (cOp_r hc) this hT hI.nx.rel
          exact fin rfl k1 k2
        · simp at hq
      · rename_i x hc
        split at hq
        · rename_i v hv
          simp at hq; obtain ⟨rfl, rfl⟩ := hq
          have := hread v rfl tm htm
          unfold readAt at this
          rw [hc] at this
          obtain ⟨V, k1, k2⟩ := evL_sound (cOp_l hc) this hT hI.nx.rel
          exact fin rfl k1 k2
        · simp at hq
      · rename_i x hc
        split at hq
        · rename_i v hv
          simp at hq; obtain ⟨rfl, rfl⟩ := hq
          have := hread v rfl tm htm
          unfold readAt at this
          rw [hc] at this
          obtain ⟨V, k1, k2⟩ := evS_sound (cOp_s hc) this hT hI.nx.rel
          exact fin rfl k1 k2
        · simp at hq
      · rename_i x hc
        split at hq
        · rename_i ao f hv
          simp at hq; obtain ⟨rfl, rfl⟩ := hq
          obtain ⟨m1, m2, m3⟩ := halloc _ _ _ _ rfl
          obtain ⟨hρ, hk2⟩ := hI.al i _ _ _ _ hr hn.new
          obtain ⟨hget, hlt⟩ := hk2 m1
          obtain ⟨hl, obj, room, k1, k2⟩ := evN_sound (cOp_n hc) hv hT
          obtain ⟨V, j1, j2⟩ := k1 w
          have hnx := nx_new (g' := hk.t.get) hI.nx.rel (a := h.next) (l := ⟨w.heap.size, 0, room⟩) (o := ao) (obj := obj) hρ rfl (fun b => by
            by_cases e : b = h.next
            · rw [if_pos e, e]; exact hget
            · rw [if_neg e]) (k2 _ _ _ (upd_le' hρ) (by show (w.heap.push _)[w.heap.size]? = _; simp))
          unfold Oper.wp
          rw [j1]
          refine hK (upd ρ h.next ⟨w.heap.size, 0, room⟩) _ _ (hI.next hok hn hr hd (V := V) (j2 _ _ (upd_same hρ)) (upd_le' hρ) (hI.nx.trans hnx) (fun c hc => ?_) ⟨hI.kp.1, fun c hc e => ?_⟩ hee hI.kle (fun j v b o p hj hno hji => ?_))
          · rw [upd_other (by omega)]; exact hI.fresh c hc
          · obtain ⟨e1, e2⟩ := hI.kp.2 c hc e
            exact ⟨by rw [upd_other (by omega)]; exact e1, e2⟩
          · have hne : b ≠ h.next := by
              rintro rfl
              exact hji (m3 j _ _ _ hj)
            obtain ⟨e1, e2⟩ := hI.al j v b o p hj hno
            exact ⟨by rw [upd_other hne]; exact e1, e2⟩
        · simp at hq
      · simp at hq
    · simp at hq
  · simp at hq

/-- the heap at a phase's beginning, seen at its end -/
theorem HR.ext {ρ : Rho} {g g' : Nat → Option AO} {w : World} {n : Nat} (h : HR ρ g w) (hf : Fresh ρ n) (hold : ∀ b, b < n → g' b = g b) : HR ρ g' w := by
  have key : ∀ a l o, g' a = some o → ρ a = some l → g a = some o := by
    intro a l o ho hl
    rcases Nat.lt_or_ge a n with hlt | hge
    · rw [← hold a hlt]; exact ho
    · rw [hf a hge] at hl; simp at hl
  exact ⟨fun a o l ho hv hl => h.obj a o l (key a l o ho hl) hv hl, fun a b o p l m ha ho hb hp hl hm => h.inj a b o p l m (key a l o ha hl) ho (key b m p hb hm) hp hl hm⟩
theorem Nx.ext {ρ ρ' : Rho} {g g1 g' : Nat → Option AO} {w w' : World} {n : Nat} (h : Nx ρ g w ρ' g1 w') (hf : Fresh ρ' n) (hold : ∀ b, b < n → g' b = g1 b) : Nx ρ g w ρ' g' w' := by
  refine ⟨h.rel.ext hf hold, h.le, h.env, h.size, h.frame, fun a o l ha ho hl hlt => ?_⟩
  refine h.back a o l ?_ ho hl hlt
  rcases Nat.lt_or_ge a n with hl1 | hge
  · rw [← hold a hl1]; exact ha
  · rw [hf a hge] at hl; simp at hl

theorem stepF {P : Program} {call : CallE} (hcall : CallOK false P call) {Q : Exit → Act → World → Prop} {K : Act → World → Prop} (hI : Inv ops N es F h0 ρ0 w0 a0 listed k hk ρ a w) (hok : edgesOk ops.toList 0 = true) {tm0 : T AV} (ht0 : TR ρ0 tm0 a0.tmps) (hN0 : a0.tmps.size = N) {i : Nat} {o : Oper} (hn : Next ops listed i o)
    (hki : es[k]? = some i) (huniq : ∀ l : Nat, es[l]? = some i → l = k) {v : AV} {h2 hk' : H} (hr : F.get i = some (.eff v)) (hq : opF P call ops.toList (preds ops.toList) N tm0 F hk i o = some (v, h2))
    (hph : PhF P ops.toList (preds ops.toList) N tm0 (k + 1) F h2 hk') (hlow : LowP F (k + 1) h2)
    (hK : ∀ ρ' a' w', Inv ops N es F h0 ρ0 w0 a0 (listed.setIfInBounds i true) (k + 1) hk' ρ' a' w' → K a' w') : wpOp P ops Q i K a w := by
  have hlt : k < es.length := (List.getElem?_eq_some_iff.1 hki).1
  have hee : ∀ l e, es[l]? = some e → (On listed e ∨ e = i ↔ l < k + 1) := by
    intro l e hl
    rw [hI.effs l e hl]
    constructor
    · rintro (h | rfl)
      · omega
      · have := huniq l hl; omega
    · intro h
      rcases Nat.lt_or_ge l k with h1 | h1
      · exact .inl h1
      · have : l = k := by omega
        subst this
        rw [hki] at hl; simp at hl
        exact .inr hl.symm
  unfold opF at hq
  split at hq
  · rename_i tm htm
    have hT := localTm_sound hI hok ht0 hN0 hn htm
    have hd := localTm_dst htm
    have fin : ∀ ρ' w' V, VR ρ' v V → Way ρ hk w ρ' h2 w' → K (a.put o.dst V) w' := by
      intro ρ' w' V hV hw
      have hnx := (hI.nx.trans hw.nx).ext hw.fresh hph.old
      refine hK _ _ _ (hI.next hok hn hr hd hV hw.nx.le hnx (fun c hc => hw.fresh c (Nat.le_trans hph.next hc)) ?_ hee hlt ?_)
      · refine ⟨Nat.le_trans (hI.kp.trans hw.kp).1 hph.next, fun c hc e => ?_⟩
        obtain ⟨e1, e2⟩ := (hI.kp.trans hw.kp).2 c hc e
        exact ⟨e1, by rw [hph.old c (Nat.lt_of_lt_of_le hc (hI.kp.trans hw.kp).1)]; exact e2⟩
      · intro j v' b oj p hj hno hji
        obtain ⟨e1, e2⟩ := hI.al j v' b oj p hj hno
        rcases Nat.lt_or_ge k p with hp | hp
        · have hb := hlow j v' b oj p hj hp
          refine ⟨hw.fresh b hb, fun hp' => ?_⟩
          have : p = k + 1 := by omega
          subst this
          obtain ⟨_, q2, q3⟩ := hph.at_ j v' b oj hj
          exact ⟨q3, q2⟩
        · obtain ⟨q1, q2⟩ := e2 hp
          obtain ⟨r1, r2⟩ := hw.kp.2 b q2 e1
          have hb2 : b < h2.next := Nat.lt_of_lt_of_le q2 hw.kp.1
          exact ⟨r1, fun _ => ⟨by rw [hph.old b hb2, r2]; exact q1, Nat.lt_of_lt_of_le hb2 hph.next⟩⟩
    unfold wpOp
    simp only [hn.op]
    split at hq
    · rename_i hw
      rw [wantA_sound hw hT, if_neg (by simp)]
      simp at hq; obtain ⟨rfl, rfl⟩ := hq
      exact fin ρ w undef (by simp only [VR]; exact ⟨[], rfl, rfl⟩) (Way.refl hI.nx.rel hI.fresh)
    · rename_i hw
      rw [wantA_sound hw hT, if_pos rfl]
      split at hq
      · rename_i c hc
        exact .inl ((evOp_sound hcall hc hq hT hI.nx.rel hI.fresh).wp fin)
      · simp at hq
    · simp at hq
  · simp at hq
end
end
end Go.Proofs.YtldmhpdjlgoenaaGreatDoor.Eo

namespace Go.Proofs.YtldmhpdjlgoenaaGreatDoor.Eo
noncomputable section

theorem certAt {P : Program} {call : CallE} {ops : List Oper} {m : OT Nat} {N n : Nat} {tm0 : T AV} {F : T Rec} {es : List Nat} : ∀ {es' : List Nat} {k0 : Nat} {h : H} {hs : List H}, CertP P call ops m N tm0 F k0 (phasesOf m es n k0 es') h hs →
    hs.length = es'.length + 1 ∧ (∃ hk, hs[0]? = some hk ∧ PhF P ops m N tm0 k0 F h hk ∧ LowP F k0 h) ∧
    ∀ l e, es'[l]? = some e → ∃ hk v h2 hk' o, hs[l]? = some hk ∧ ops[e]? = some o ∧ F.get e = some (.eff v) ∧ opF P call ops m N tm0 F hk e o = some (v, h2) ∧ hs[l + 1]? = some hk' ∧
      PhF P ops m N tm0 (k0 + l + 1) F h2 hk' ∧ LowP F (k0 + l + 1) h2
  | [], k0, h, hs, hc => by
    simp only [phasesOf, CertP] at hc
    obtain ⟨c0, h1, rfl, c2⟩ := hc
    exact ⟨rfl, ⟨h1, rfl, c2, c0⟩, fun l e he => by simp at he⟩
  | x :: es', k0, h, hs, hc => by
    simp only [phasesOf, CertP] at hc
    obtain ⟨c0, h1, hs', v, h2, o, rfl, c2, c3, c4, c5, c6, c7⟩ := hc
    obtain ⟨i1, ⟨hk', i2, i3, i4⟩, i5⟩ := certAt c7
    refine ⟨by simp [i1], ⟨h1, rfl, c2, c0⟩, fun l e he => ?_⟩
    cases l with
    | zero =>
      simp at he; subst he
      exact ⟨h1, v, h2, hk', o, rfl, c3, c4, c5, by simpa using i2, i3, i4⟩
    | succ l =>
      simp at he
      obtain ⟨hk, v', h3, hk2, o', j1, j2, j3, j4, j5, j6, j7⟩ := i5 l e he
      exact ⟨hk, v', h3, hk2, o', by simpa using j1, j2, j3, j4, by simpa using j5, by rw [show k0 + (l + 1) + 1 = k0 + 1 + l + 1 by omega]; exact j6, by rw [show k0 + (l + 1) + 1 = k0 + 1 + l + 1 by omega]; exact j7⟩
theorem lastH_at : ∀ {hs : List H} {h : H} {n : Nat}, lastH hs = some h → hs.length = n + 1 → hs[n]? = some h
  | [], h, n, e, hl => by simp [lastH] at e
  | [x], h, n, e, hl => by
    simp [lastH] at e; subst e
    simp at hl; subst hl; rfl
  | x :: y :: hs, h, n, e, hl => by
    cases n with
    | zero => simp at hl
    | succ n =>
      simp only [lastH] at e
      simpa using lastH_at (hs := y :: hs) e (by simpa using hl)

theorem mayAt_ok {m : OT Nat} {i : Nat} : ∀ {es : List Nat} {k : Nat}, (∀ (l e : Nat), es[l]? = some e → l < k → bef m e i = false) → (∀ (l e : Nat), es[l]? = some e → k ≤ l → bef m i e = false) → mayAt m i es k = true
  | [], k, _, _ => by simp [mayAt]
  | e :: es, 0, h1, h2 => by
    simp only [mayAt, Bool.and_eq_true, Bool.not_eq_true']
    exact ⟨h2 0 e rfl (Nat.le_refl _), mayAt_ok (fun l e' he hl => by omega) (fun l e' he _ => h2 (l + 1) e' (by simpa using he) (by omega))⟩
  | e :: es, k + 1, h1, h2 => by
    simp only [mayAt, Bool.and_eq_true, Bool.not_eq_true']
    exact ⟨h1 0 e rfl (by omega), mayAt_ok (fun l e' he hl => h1 (l + 1) e' (by simpa using he) (by omega)) (fun l e' he hl => h2 (l + 1) e' (by simpa using he) (by omega))⟩
theorem chain_spec {m : OT Nat} : ∀ {es : List Nat}, chainOk m es = true → ∀ (k l e f : Nat), es[k]? = some e → es[l]? = some f → k < l → bef m f e = true
  | [], _, k, l, e, f, h, _, _ => by simp at h
  | x :: es, hc, k, l, e, f, he, hf, hlt => by
    simp only [chainOk, Bool.and_eq_true, List.all_eq_true] at hc
    cases l with
    | zero => omega
    | succ l =>
      simp at hf
      cases k with
      | zero =>
        simp at he; subst he
        exact hc.1 f (List.mem_of_getElem? hf)
      | succ k =>
        simp at he
        exact chain_spec hc.2 k l e f he hf (by omega)

end
end Go.Proofs.YtldmhpdjlgoenaaGreatDoor.Eo

namespace Go.Proofs.YtldmhpdjlgoenaaGreatDoor.Eo
noncomputable section

end
end Go.Proofs.YtldmhpdjlgoenaaGreatDoor.Eo

namespace Go.Proofs.YtldmhpdjlgoenaaGreatDoor.Eo
noncomputable section

theorem edgesOk_spec : ∀ {l : List Oper} {i0 : Nat}, edgesOk l i0 = true → ∀ j o, l[j]? = some o → ∀ e ∈ o.after.toList, Region.binds .any e = true → e.on < i0 + j
  | [], i0, _, j, o, h => by simp at h
  | x :: l, i0, hc, j, o, h => by
    rw [edgesOk_cons] at hc
    simp only [Bool.and_eq_true, List.all_eq_true] at hc
    cases j with
    | zero =>
      simp at h; subst h
      intro e he hb
      have := hc.1 e he
      rw [hb] at this
      simpa using this
    | succ j =>
      simp at h
      intro e he hb
      have := edgesOk_spec hc.2 j o h e he hb
      omega

theorem all_on {ops : Array Oper} {listed : Array Bool} (hok : edgesOk ops.toList 0 = true) (hsz : listed.size = ops.size) (hr : Region.ready .any ops listed = []) : ∀ i, i < ops.size → On listed i := by
  intro i
  induction i using Nat.strongRecOn with
  | _ i ih =>
    intro hi
    apply Classical.byContradiction
    intro hno
    have : i ∈ Region.ready .any ops listed := by
      rw [mem_ready]
      refine ⟨?_, ops[i], by simp [hi], fun e he hb => ?_⟩
      · have hl : i < listed.size := by omega
        unfold On at hno
        simp [hl] at hno ⊢
        exact hno
      · have hlt := edgesOk_spec hok i ops[i] (by simp [hi]) e (by simpa using he) hb
        exact ih e.on (by omega) (by omega)
    rw [hr] at this
    simp at this

theorem finalTm_get {F : T Rec} : ∀ {l : List Oper} {i0 : Nat} {tm : T AV} {t : Nat} {v : AV}, (finalTm F l i0 tm).get t = some v →
    (∃ j o r, l[j]? = some o ∧ o.dst = some t ∧ F.get (i0 + j) = some r ∧ v = r.val ∧ ∀ (j' : Nat) o', l[j']? = some o' → o'.dst = some t → (∃ r', F.get (i0 + j') = some r') → j' ≤ j) ∨
    (tm.get t = some v ∧ ∀ (j' : Nat) o', l[j']? = some o' → o'.dst = some t → F.get (i0 + j') = none)
  | [], i0, tm, t, v, h => .inr ⟨h, fun j' o' h' => by simp at h'⟩
  | x :: l, i0, tm, t, v, h => by
    rw [finalTm_cons] at h
    have shift : ∀ j, i0 + 1 + j = i0 + (j + 1) := fun j => by omega
    split at h
    · rename_i d r hd hr
      rcases finalTm_get h with ⟨j, o, r', k1, k2, k3, k4, k5⟩ | ⟨k1, k2⟩
      · refine .inl ⟨j + 1, o, r', by simpa using k1, k2, by rw [← shift]; exact k3, k4, fun j' o' h1 h2 h3 => ?_⟩
        cases j' with
        | zero => omega
        | succ j' =>
          rw [← shift] at h3
          have := k5 j' o' (by simpa using h1) h2 h3
          omega
      · rw [T.get_set] at k1
        by_cases e : t = d
        · subst e
          rw [if_pos rfl] at k1; simp at k1
          refine .inl ⟨0, x, r, rfl, hd, hr, k1.symm, fun j' o' h1 h2 h3 => ?_⟩
          cases j' with
          | zero => omega
          | succ j' =>
            obtain ⟨r', h3⟩ := h3
            rw [← shift] at h3
            rw [k2 j' o' (by simpa using h1) h2] at h3
            simp at h3
        · rw [if_neg e] at k1
          refine .inr ⟨k1, fun j' o' h1 h2 => ?_⟩
          cases j' with
          | zero =>
            simp at h1; subst h1
            rw [hd] at h2; simp at h2
            exact absurd h2.symm e
          | succ j' => rw [← shift]; exact k2 j' o' (by simpa using h1) h2
    · rename_i hne
      have h0 : x.dst = some t → F.get i0 = none := by
        intro hd
        cases hF : F.get i0 with
        | none => rfl
        | some r => exact absurd hF (hne t r hd)
      rcases finalTm_get h with ⟨j, o, r', k1, k2, k3, k4, k5⟩ | ⟨k1, k2⟩
      · refine .inl ⟨j + 1, o, r', by simpa using k1, k2, by rw [← shift]; exact k3, k4, fun j' o' h1 h2 h3 => ?_⟩
        cases j' with
        | zero => omega
        | succ j' =>
          rw [← shift] at h3
          have := k5 j' o' (by simpa using h1) h2 h3
          omega
      · refine .inr ⟨k1, fun j' o' h1 h2 => ?_⟩
        cases j' with
        | zero =>
          simp at h1; subst h1
          simpa using h0 h2
        | succ j' => rw [← shift]; exact k2 j' o' (by simpa using h1) h2

theorem count_lt {p q : Nat → Bool} : ∀ {l : List Nat} {x : Nat}, x ∈ l → p x = true → q x = false → (∀ y, q y = true → p y = true) → l.countP q < l.countP p
  | [], x, h, _, _, _ => by simp at h
  | y :: l, x, h, hp, hq, himp => by
    have hle : l.countP q ≤ l.countP p := List.countP_mono_left fun z _ hz => himp z hz
    rw [List.countP_cons, List.countP_cons]
    rcases List.mem_cons.1 h with rfl | h
    · rw [hp, hq]; simp; omega
    · have := count_lt h hp hq himp
      by_cases hy : q y = true
      · rw [hy, himp y hy]; simp; omega
      · simp only [Bool.not_eq_true] at hy
        rw [hy]; simp; split <;> omega
theorem end_tr {ops : Array Oper} {N : Nat} {es : List Nat} {F : T Rec} {h0 : H} {ρ0 : Rho} {w0 : World} {a0 : Act} {listed : Array Bool} {k : Nat} {hk : H} {ρ : Rho} {a : Act} {w : World} {tm0 : T AV}
    (hI : Inv ops N es F h0 ρ0 w0 a0 listed k hk ρ a w) (ht0 : TR ρ0 tm0 a0.tmps) (hN0 : a0.tmps.size = N) (hall : ∀ i, i < ops.size → On listed i) (hF : ∀ i o, ops[i]? = some o → ∃ r, F.get i = some r) : TR ρ (finalTm F ops.toList 0 tm0) a.tmps := by
  intro t v hv
  rcases finalTm_get hv with ⟨j, o, r, k1, k2, k3, k4, k5⟩ | ⟨k1, k2⟩
  · rw [Nat.zero_add] at k3
    have k1' : ops[j]? = some o := by simpa using k1
    have hj : On listed j := hall j (Array.getElem?_eq_some_iff.1 k1').1
    rcases hI.slots t with ⟨j', r', oj, s1, s2, s3, s4, s5, s6, s7⟩ | ⟨s1, _⟩
    · have a1 := s5 j o k1' k2 hj
      have a2 := k5 j' oj (by simpa using s1) s2 ⟨r', by rw [Nat.zero_add]; exact s4⟩
      have : j' = j := by omega
      subst this
      rw [k3] at s4; simp at s4; subst s4
      rw [k4]
      exact ⟨by rw [hI.tsize]; exact s6, s7⟩
    · exact absurd hj (s1 j o k1' k2)
  · rcases hI.slots t with ⟨j', r', oj, s1, s2, s3, s4, _⟩ | ⟨_, s2⟩
    · have := k2 j' oj (by simpa using s1) s2
      rw [Nat.zero_add, s4] at this; simp at this
    · obtain ⟨z1, z2⟩ := ht0 t v k1
      exact ⟨by rw [hI.tsize, ← hN0]; exact z1, by rw [s2]; exact VR.mono hI.nx.le _ _ z2⟩
end
end Go.Proofs.YtldmhpdjlgoenaaGreatDoor.Eo

namespace Go.Proofs.YtldmhpdjlgoenaaGreatDoor.Eo
noncomputable section

theorem noDefer_at {ops : Array Oper} (h : noDefer ops.toList = true) (i : Nat) (o : Oper) (hi : ops[i]? = some o) (c : Call) : o.op ≠ .defer c := by
  intro e
  unfold noDefer at h
  have := List.all_eq_true.1 h o (by simpa using Array.mem_of_getElem? hi)
  rw [e] at this
  simp at this
/-- what holds of operations in any machine holds of them in a round -/
theorem wpOps_in {r : Option Nat} {P : Program} {ops : Array Oper} {Q : Exit → Act → World → Prop} (hd : ∀ (i : Nat) (o : Oper), ops[i]? = some o → ∀ c : Call, o.op ≠ Op.defer c) (hL : ¬ LetsOut Q) : ∀ (l : List Nat) (a : Act) (w : World), wpOps P ops Q l a w → wpOpsIn (Fnc r) 0 P ops Q l a w
  | [], a, w, h => h
  | i :: l, a, w, h => by
    rw [wpOps_cons] at h
    rw [wpOpsIn_cons]
    unfold wpOp at h
    unfold wpOpIn
    have ih := wpOps_in (r := r) (P := P) hd hL l
    cases hi : ops[i]? with
    | none => rw [hi] at h; exact ih _ _ h
    | some o =>
      rw [hi] at h
      simp only at h ⊢
      split
      · rename_i hw
        rw [if_pos hw] at h
        rcases h with h | ⟨_, h⟩
        · refine ⟨fun _ _ => trivial, ?_⟩
          rw [Oper.semAt_eq _ _ _ (hd i o hi)]
          unfold Oper.wp at h
          generalize (execOp a.eval o).run P w = res at h
          cases res with
          | ok nx w' =>
            cases nx with
            | value v => exact ih _ _ h
            | skip => exact ih _ _ h
            | defer d => exact ih _ _ h
            | enter f args =>
              refine ⟨fun hh => by simp [Fnc, Fence.wide] at hh, callsIn_Fnc (Calls.mono h fun e w'' hh => ?_)⟩
              cases e with
              | returned v => exact ih _ _ hh
              | panicked chain => exact hh
              | outgrown => exact hh
            | row row args =>
              refine ⟨fun hh => by simp [Fnc, Fence.wide] at hh, fun c cs _ => ?_⟩
              obtain ⟨v, w2, k1, k2⟩ := h c cs
              exact ⟨v, w2, ih _ _ k1, stepsIn_wide.2 k2⟩
            | _ => exact h.elim
          | halt x w' =>
            cases x with
            | panic v => exact h
            | _ => exact h.elim
        · exact absurd h hL
      · rename_i hw
        rw [if_neg hw] at h
        exact ⟨fun _ _ => trivial, ih _ _ h⟩

end
end Go.Proofs.YtldmhpdjlgoenaaGreatDoor.Eo
