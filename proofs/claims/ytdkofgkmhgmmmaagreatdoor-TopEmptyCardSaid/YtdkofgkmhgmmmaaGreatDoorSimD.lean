/- The ideal machine's operations on bare values: slice expressions, lengths, least and greatest, built structs. -/
import Derived.Test.YtdkofgkmhgmmmaaGreatDoorSimC
namespace Go.Ideal
set_option linter.all false
set_option linter.unusedSimpArgs false
set_option linter.unusedVariables false
noncomputable section
open Go Go.RowKit
set_option maxHeartbeats 1000000

/-- Options of values. -/
inductive VO (β : Bij) : Option Value → Option Value → Prop where
  | none : VO β none none
  | some {v v' : Value} : V β v v' → VO β (some v) (some v')

section
variable {P : Program} {E : Env} {β : Bij} {w : World}

theorem bnd_cases {v v' : Option Value} {d lim n : Nat} (h : bndV v d lim = some n) (hv : VO β v v') :
    (v = none ∧ v' = none ∧ n = d) ∨ (∃ k, v = some (.int k (Int.ofNat n)) ∧ v' = some (.int k (Int.ofNat n)) ∧ n ≤ lim) := by
  unfold bndV at h
  split at h
  · cases hv; cases h; exact .inl ⟨rfl, rfl, rfl⟩
  · rename_i k m
    cases hv with
    | some hv =>
    cases hv
    cases hb : Nat.ble m lim with
    | false => rw [hb] at h; cases h
    | true => rw [hb] at h; cases h; exact .inr ⟨k, rfl, rfl, ble_iff.1 hb⟩
  · cases h

theorem run_bound {k : IntKind} {n y : Nat} (code : BoundsCode) (h : n ≤ y) : (Instr.sliceBound (.int k (Int.ofNat n)) y code).run P w = .ok n w := by
  have hc : (0 : Int) ≤ Int.ofNat n ∧ Int.ofNat n ≤ (y : Int) := ⟨Int.natCast_nonneg n, by simpa using h⟩
  simp only [Instr.sliceBound, asIntOf, Sem.run_bind, Sem.run_pure, Result.andThen_ok, if_pos hc]
  rfl

theorem sim_bnds {sl : Bool} {len cap cap' l h m : Nat} {lo hi mx lo' hi' mx' : Option Value} (e : bndsV len cap lo hi mx = some (l, h, m)) (hcap : cap ≤ cap')
    (h1 : VO β lo lo') (h2 : VO β hi hi') (h3 : VO β mx mx') :
    ∃ m', (Instr.sliceBounds sl len cap' lo' hi' mx').run P w = .ok (l, h, m') w ∧ (mx = none → m' = cap' ∧ m = cap) ∧ (mx ≠ none → m' = m) ∧ l ≤ h ∧ (hi = none → h = len) ∧
      (hi ≠ none → h ≤ m) ∧ m ≤ cap := by
  unfold bndsV at e
  cases hm : bndV mx cap cap with
  | none => rw [hm] at e; cases e
  | some m0 =>
    rw [hm] at e; simp only at e
    rcases bnd_cases hm h3 with ⟨rfl, rfl, rfl⟩ | ⟨k3, rfl, rfl, hle3⟩
    · have e' : (match bndV hi len m0 with | none => none | some h => match bndV lo 0 h with | none => none | some l => some (l, h, m0)) = some (l, h, m) := by
        cases hi <;> exact e
      cases hh : bndV hi len m0 with
      | none => rw [hh] at e'; cases e'
      | some h0 =>
        rw [hh] at e'; simp only at e'
        cases hl : bndV lo 0 h0 with
        | none => rw [hl] at e'; cases e'
        | some l0 =>
          rw [hl] at e'; cases e'
          refine ⟨cap', ?_, fun _ => ⟨rfl, rfl⟩, fun h => absurd rfl h, ?_, ?_, ?_, Nat.le_refl _⟩
          · rcases bnd_cases hh h2 with ⟨rfl, rfl, rfl⟩ | ⟨k2, rfl, rfl, hle2⟩
            · rcases bnd_cases hl h1 with ⟨rfl, rfl, rfl⟩ | ⟨k1, rfl, rfl, hle1⟩
              · simp [Instr.sliceBounds]
              · simp only [Instr.sliceBounds, Sem.run_bind, Sem.run_pure, Result.andThen_ok, run_bound _ hle1]
            · rcases bnd_cases hl h1 with ⟨rfl, rfl, rfl⟩ | ⟨k1, rfl, rfl, hle1⟩
              · simp only [Instr.sliceBounds, Sem.run_bind, Sem.run_pure, Result.andThen_ok, run_bound _ (Nat.le_trans hle2 hcap)]
              · simp only [Instr.sliceBounds, Sem.run_bind, Sem.run_pure, Result.andThen_ok, run_bound _ (Nat.le_trans hle2 hcap), run_bound _ hle1]
          · rcases bnd_cases hl h1 with ⟨rfl, rfl, rfl⟩ | ⟨k1, rfl, rfl, hle1⟩
            · omega
            · exact hle1
          · intro hn; subst hn; simp [bndV] at hh; exact hh.symm
          · intro hn
            rcases bnd_cases hh h2 with ⟨rfl, rfl, rfl⟩ | ⟨k2, rfl, rfl, hle2⟩
            · exact absurd rfl hn
            · exact hle2
    · cases hi with
      | none => cases e
      | some hi =>
        cases h2 with
        | some h2 =>
        simp only at e
        cases hh : bndV (some hi) len m0 with
        | none => rw [hh] at e; cases e
        | some h0 =>
          rw [hh] at e; simp only at e
          cases hl : bndV lo 0 h0 with
          | none => rw [hl] at e; cases e
          | some l0 =>
            rw [hl] at e; cases e
            refine ⟨m, ?_, fun h => absurd h (by simp), fun _ => rfl, ?_, fun h => absurd h (by simp), ?_, hle3⟩
            · rcases bnd_cases hh (.some h2) with ⟨h, _, _⟩ | ⟨k2, hA, hB, hle2⟩
              · cases h
              · cases hA; cases hB
                rcases bnd_cases hl h1 with ⟨rfl, rfl, rfl⟩ | ⟨k1, rfl, rfl, hle1⟩
                · simp only [Instr.sliceBounds, Sem.run_bind, Sem.run_pure, Result.andThen_ok, run_bound _ (Nat.le_trans hle3 hcap), run_bound _ hle2]
                · simp only [Instr.sliceBounds, Sem.run_bind, Sem.run_pure, Result.andThen_ok, run_bound _ (Nat.le_trans hle3 hcap), run_bound _ hle2, run_bound _ hle1]
            · rcases bnd_cases hl h1 with ⟨rfl, rfl, rfl⟩ | ⟨k1, rfl, rfl, hle1⟩
              · omega
              · exact hle1
            · intro _
              rcases bnd_cases hh (.some h2) with ⟨h, _, _⟩ | ⟨k2, hA, hB, hle2⟩
              · cases h
              · exact hle2

theorem extract_eq (s : ByteArray) (l h : Nat) : s.extract l h = mkS (((bl s).drop l).take (h - l)) := by
  apply ByteArray.ext
  apply Array.ext'
  simp [mkS, bl, List.extract_eq_take_drop]

theorem sim_slice (hE : EnvOK P E) {t : TypeId} {a a' v : Value} {lo hi mx lo' hi' mx' : Option Value} (h : sliceV E t a lo hi mx = some v) (ha : V β a a')
    (h1 : VO β lo lo') (h2 : VO β hi hi') (h3 : VO β mx mx') :
    ∃ v', (Instr.sliceAt t a' lo' hi' mx').run P w = .ok v' w ∧ V β v v' := by
  unfold sliceV at h
  cases hi0 : E.ti t with
  | none => rw [hi0] at h; cases h
  | some i =>
    rw [hi0] at h; simp only at h
    have hu := (hE.ti _ _ hi0).under
    split at h
    · -- a string
      rename_i s hd
      cases ha
      rw [hd] at hu
      cases h3 with
      | some _ => cases h
      | none =>
      simp only at h
      cases hb : bndsV (bl s).length (bl s).length lo hi none with
      | none => rw [hb] at h; cases h
      | some p =>
        obtain ⟨l, hh, m⟩ := p
        rw [hb] at h; cases h
        obtain ⟨m', r, -, -, hle, -, -, -⟩ := sim_bnds (P := P) (w := w) (sl := false) hb (Nat.le_refl _) h1 h2 .none
        rw [bl_size] at r
        refine ⟨.string (s.extract l hh), ?_, ?_⟩
        · simp only [Instr.sliceAt, Sem.run_bind, rU hu, Result.andThen_ok, Instr.slice, r, Option.isSome, Bool.false_eq_true, if_false, Sem.run_pure]
        · rw [extract_eq]; exact .string _
    · -- a slice
      rename_i e a0 len cap hd
      rw [hd] at hu
      cases hj : E.ti e with
      | none => rw [hj] at h; cases h
      | some j =>
        rw [hj] at h; simp only at h
        have hz := rS (w := w) (hE.ti _ _ hj)
        cases hk : Nat.blt cap UNK with
        | true =>
          rw [hk] at h; simp only [cond_true] at h
          have hlt := blt_iff.1 hk
          cases hb : bndsV len cap lo hi mx with
          | none => rw [hb] at h; cases h
          | some p =>
            obtain ⟨l, hh, m⟩ := p
            rw [hb] at h; simp only at h
            cases ha with
            | nilsl =>
              cases h
              obtain ⟨m', r, q1, q2, hle, q3, q4, q5⟩ := sim_bnds (P := P) (w := w) (sl := true) hb (Nat.le_refl _) h1 h2 h3
              have : m' = m := by cases h3 with | none => have := q1 rfl; omega | some _ => exact q2 (by simp)
              subst this
              have hh0 : hh = 0 := by
                cases h2 with
                | none => exact q3 rfl
                | some _ => have := q4 (by simp); omega
              have : l = 0 ∧ m' = 0 := by omega
              obtain ⟨rfl, rfl⟩ := this
              subst hh0
              refine ⟨.slice none 0 0, ?_, .nilsl⟩
              simp only [Instr.sliceAt, Sem.run_bind, rU hu, Result.andThen_ok, Instr.slice, r, hz, if_true, Sem.run_pure, Nat.sub_zero]
            | sl0 A A' =>
              obtain ⟨m', r, q1, q2, hle, q3, q4, q5⟩ := sim_bnds (P := P) (w := w) (sl := true) hb (Nat.le_refl _) h1 h2 h3
              have : m' = m := by cases h3 with | none => have := q1 rfl; omega | some _ => exact q2 (by simp)
              subst this
              have hh0 : hh = 0 := by
                cases h2 with
                | none => exact q3 rfl
                | some _ => have := q4 (by simp); omega
              have : l = 0 ∧ m' = 0 := by omega
              obtain ⟨rfl, rfl⟩ := this
              subst hh0
              refine ⟨.slice (some A') 0 0, ?_, ?_⟩
              · simp only [Instr.sliceAt, Sem.run_bind, rU hu, Result.andThen_ok, Instr.slice, r, hz, if_true, Sem.run_pure, Nat.sub_zero]
              · split at h
                · rename_i hA; cases hA
                · cases h; exact .sl0 _ _
                · cases h
            | slz A A' h1 _ => omega
            | sl hb0 hcap =>
              have hc := hcap.known hlt
              subst hc
              obtain ⟨m', r, q1, q2, hle, q3, q4, q5⟩ := sim_bnds (P := P) (w := w) (sl := true) hb (Nat.le_refl _) h1 h2 h3
              have : m' = m := by cases h3 with | none => have := q1 rfl; omega | some _ => exact q2 (by simp)
              subst this
              cases h
              have hlen := hcap.len
              have hhm : hh ≤ m' := by
                cases h2 with
                | none =>
                  have e1 := q3 rfl
                  cases h3 with
                  | none => have := (q1 rfl).2; omega
                  | some _ => simp only [bndsV] at hb; split at hb <;> cases hb
                | some _ => exact q4 (by simp)
              simp only [Instr.sliceAt, Sem.run_bind, rU hu, Result.andThen_ok, Instr.slice, r, hz, Sem.run_pure]
              refine ⟨_, rfl, ?_⟩
              by_cases hml : m' = l
              · have e1 : Nat.beq m' l = true := by rw [hml]; simp
                rw [if_pos hml, e1]
                simp only [cond_true]
                exact .sl hb0 ⟨fun _ => rfl, fun h => by omega, fun h => by omega, fun h => by omega, by omega⟩
              · rw [if_neg hml, beq_ff hml]
                simp only [cond_false, Option.map_some, add_at, Nat.add_assoc]
                exact .sl hb0 ⟨fun _ => rfl, fun h => by omega, fun h => by omega, fun h => by omega, by omega⟩
        | false =>
          rw [hk] at h; simp only [cond_false] at h
          have hge : UNK ≤ cap := by
            rcases Nat.lt_or_ge cap UNK with h' | h'
            · rw [blt_iff.2 h'] at hk; cases hk
            · exact h'
          split at h
          · rename_i b off
            cases hes : Nat.beq j.size (esOf cap) with
            | false => rw [hes] at h; cases h
            | true =>
            rw [hes] at h; simp only [cond_true] at h
            have hes' := Nat.eq_of_beq_eq_true hes
            cases hb : bndsV len (lbOf cap) lo hi mx with
            | none => rw [hb] at h; cases h
            | some p =>
              obtain ⟨l, hh, m⟩ := p
              rw [hb] at h; simp only at h
              have hlbs : lbOf cap < UNK := Nat.mod_lt _ (by unfold UNK; omega)
              cases ha with
              | sl0 A A' => unfold UNK at hge; omega
              | slz A A' _ hlb =>
                obtain ⟨m', r, q1, q2, hle, q3, q4, q5⟩ := sim_bnds (P := P) (w := w) (sl := true) hb (Nat.le_of_eq hlb) h1 h2 h3
                have hm0 : m = 0 := by omega
                have hm' : m' = 0 := by cases h3 with | none => exact (q1 rfl).1 | some _ => have := q2 (by simp); omega
                have hh0 : hh = 0 := by
                  cases h2 with
                  | none => exact q3 rfl
                  | some _ => have := q4 (by simp); omega
                have hl0 : l = 0 := by omega
                subst hm0 hm' hh0 hl0
                refine ⟨.slice (some A') 0 0, ?_, ?_⟩
                · simp only [Instr.sliceAt, Sem.run_bind, rU hu, Result.andThen_ok, Instr.slice, r, hz, if_true, Sem.run_pure, Nat.sub_zero]
                · cases h3 with
                  | none => cases h; exact .slz _ _ (capOf_unk _ _) (by rw [lbOf_capOf (by omega)]; omega)
                  | some _ => cases h; exact .sl0 _ _
              | sl hb0 hcap =>
                rename_i cap' L
                have hleast := hcap.least hge
                have hfits := hcap.fits hge
                have hsmall := hcap.small hge
                have hlen := hcap.len
                obtain ⟨m', r, q1, q2, hle, q3, q4, q5⟩ := sim_bnds (P := P) (w := w) (sl := true) hb hleast h1 h2 h3
                simp only [Instr.sliceAt, Sem.run_bind, rU hu, Result.andThen_ok, Instr.slice, r, hz, Sem.run_pure]
                refine ⟨_, rfl, ?_⟩
                cases h3 with
                | none =>
                  cases h
                  obtain ⟨e1, e2⟩ := q1 rfl
                  subst e1 e2
                  have hhm : hh ≤ m' := by
                    cases h2 with
                    | none => have := q3 rfl; omega
                    | some _ => have := q4 (by simp); omega
                  have hll : lbOf cap - l < UNK := by omega
                  by_cases hml : m' = l
                  · rw [if_pos hml]
                    have : hh = l := by omega
                    subst this
                    rw [Nat.sub_self, hml, Nat.sub_self]
                    exact .slz _ _ (capOf_unk _ _) (by rw [lbOf_capOf hll]; omega)
                  · rw [if_neg hml]
                    simp only [Option.map_some, add_at, Nat.add_assoc]
                    refine .sl hb0 ⟨fun h => ?_, fun _ => ?_, fun _ => ?_, fun _ => by omega, by omega⟩
                    · have := capOf_unk (lbOf cap - l) j.size; omega
                    · rw [lbOf_capOf hll]; omega
                    · rw [esOf_capOf hll]
                      have e1 : (m' - l) * j.size = m' * j.size - l * j.size := Nat.sub_mul _ _ _
                      have e2 : l * j.size ≤ m' * j.size := Nat.mul_le_mul_right _ (by omega)
                      rw [← hes'] at hfits
                      omega
                | some h3 =>
                  cases h
                  have hm := q2 (by simp)
                  subst hm
                  have hhm : hh ≤ m' := by
                    cases h2 with
                    | none => simp only [bndsV] at hb; split at hb <;> cases hb
                    | some _ => exact q4 (by simp)
                  by_cases hml : m' = l
                  · have e1 : Nat.beq m' l = true := by rw [hml]; simp
                    rw [if_pos hml, e1]
                    simp only [cond_true]
                    exact .sl hb0 ⟨fun _ => rfl, fun h => by omega, fun h => by omega, fun h => by omega, by omega⟩
                  · rw [if_neg hml, beq_ff hml]
                    simp only [cond_false, Option.map_some, add_at, Nat.add_assoc]
                    exact .sl hb0 ⟨fun _ => rfl, fun h => by omega, fun h => by omega, fun h => by omega, by omega⟩
          · cases h
    · -- an array behind a pointer
      rename_i n e b off hd
      cases ha with
      | ptr hb0 =>
      rw [hd] at hu
      cases hj : E.ti e with
      | none => rw [hj] at h; cases h
      | some j =>
        rw [hj] at h; simp only at h
        have hz := rS (w := w) (hE.ti _ _ hj)
        cases hnu : Nat.blt n UNK with
        | false => rw [hnu] at h; cases h
        | true =>
        rw [hnu] at h; simp only [cond_true] at h
        have hn := blt_iff.1 hnu
        cases hb : bndsV n n lo hi mx with
        | none => rw [hb] at h; cases h
        | some p =>
          obtain ⟨l, hh, m⟩ := p
          rw [hb] at h; cases h
          obtain ⟨m', r, q1, q2, hle, q3, q4, q5⟩ := sim_bnds (P := P) (w := w) (sl := false) hb (Nat.le_refl _) h1 h2 h3
          have : m' = m := by cases h3 with | none => have := q1 rfl; omega | some _ => exact q2 (by simp)
          subst this
          simp only [Instr.sliceAt, Sem.run_bind, rU hu, Result.andThen_ok, Instr.sureAddr, r, hz, Sem.run_pure]
          refine ⟨_, rfl, ?_⟩
          have hhm : hh ≤ m' := by
            cases h2 with
            | none => have := q3 rfl; cases h3 with | none => have := (q1 rfl).2; omega | some _ => simp only [bndsV] at hb; split at hb <;> cases hb
            | some _ => exact q4 (by simp)
          by_cases hml : m' = l
          · have e1 : Nat.beq m' l = true := by rw [hml]; simp
            rw [if_pos hml, e1]
            simp only [cond_true]
            exact .sl hb0 ⟨fun _ => rfl, fun h => by omega, fun h => by omega, fun h => by omega, by omega⟩
          · rw [if_neg hml, beq_ff hml]
            simp only [cond_false, add_at, Nat.add_assoc]
            exact .sl hb0 ⟨fun _ => rfl, fun h => by omega, fun h => by omega, fun h => by omega, by omega⟩
    · cases h

theorem sim_len (hE : EnvOK P E) {t : TypeId} {a a' v : Value} (h : lenV E t a = some v) (ha : V β a a') (ty : TypeId) {ts : Array TypeId} (ht : ts[0]? = some t) :
    (Builtin.len_ ts ty #[a']).run P w = .ok v w := by
  unfold lenV at h
  cases hi0 : E.ti t with
  | none => rw [hi0] at h; cases h
  | some i =>
    rw [hi0] at h; simp only at h
    have hu := (hE.ti _ _ hi0).under
    split at h <;> first | (cases h; done) | skip
    · rename_i s hd; cases ha; cases h; rw [hd] at hu
      simp [Builtin.len_, ht, rU hu, goInt, bl_size]
    · rename_i n e x hd; cases h; rw [hd] at hu
      simp [Builtin.len_, ht, rU hu, goInt]
    · rename_i e a0 n c hd; rw [hd] at hu
      cases ha <;> (cases h; simp [Builtin.len_, ht, rU hu, goInt])
    · rename_i k e hd; cases ha; cases h; rw [hd] at hu
      simp [Builtin.len_, ht, rU hu, goInt]

theorem sim_cap (hE : EnvOK P E) {t : TypeId} {a a' v : Value} (h : capV E t a = some v) (ha : V β a a') (ty : TypeId) {ts : Array TypeId} (ht : ts[0]? = some t) :
    (Builtin.cap_ ts ty #[a']).run P w = .ok v w := by
  unfold capV at h
  cases hi0 : E.ti t with
  | none => rw [hi0] at h; cases h
  | some i =>
    rw [hi0] at h; simp only at h
    have hu := (hE.ti _ _ hi0).under
    split at h
    · rename_i e a0 n c hd; rw [hd] at hu
      cases hc : Nat.blt c UNK with
      | false => rw [hc] at h; cases h
      | true =>
        rw [hc] at h
        have hlt := blt_iff.1 hc
        cases ha with
        | nilsl => cases h; simp [Builtin.cap_, ht, rU hu, goInt]
        | sl0 A A' => cases h; simp [Builtin.cap_, ht, rU hu, goInt]
        | slz A A' h1 _ => omega
        | sl hb hcap =>
          have := hcap.known hlt
          subst this
          cases h; simp [Builtin.cap_, ht, rU hu, goInt]
    · cases h

theorem sim_foldV {f : Value → Value → Option Value} {g : Value → Value → Sem Value}
    (hf : ∀ {x y x' y' v : Value}, f x y = some v → V β x x' → V β y y' → ∃ v', (g x' y').run P w = .ok v' w ∧ V β v v') :
    ∀ (l : List Value) (x x' v : Value) (l' : List Value), foldV f x l = some v → V β x x' → VL β l l' → ∃ v', (l'.foldlM g x').run P w = .ok v' w ∧ V β v v' := by
  intro l
  induction l with
  | nil => intro x x' v l' h hx hl; cases hl; simp only [foldV] at h; cases h; exact ⟨x', by simp, hx⟩
  | cons y r ih =>
    intro x x' v l' h hx hl
    cases hl with
    | cons hy hr =>
    simp only [foldV] at h
    cases hz : f x y with
    | none => rw [hz] at h; cases h
    | some z =>
      rw [hz] at h; simp only at h
      obtain ⟨z', r1, hz'⟩ := hf hz hx hy
      obtain ⟨v', r2, hv⟩ := ih _ _ _ _ h hz' hr
      exact ⟨v', by simp only [List.foldlM_cons, Sem.run_bind, r1, Result.andThen_ok, r2], hv⟩

theorem sim_min2 {x y x' y' v : Value} (h : min2 x y = some v) (hx : V β x x') (hy : V β y y') : ∃ v', (Builtin.min2 x' y').run P w = .ok v' w ∧ V β v v' := by
  unfold min2 at h
  split at h
  · simp only [ltI_eq, cond_eq_ite, decide_eq_true_eq] at h
    cases hx; cases hy; cases h; exact ⟨_, rfl, .int _ _⟩
  · cases h

theorem sim_max2 {x y x' y' v : Value} (h : max2 x y = some v) (hx : V β x x') (hy : V β y y') : ∃ v', (Builtin.max2 x' y').run P w = .ok v' w ∧ V β v v' := by
  unfold max2 at h
  split at h
  · simp only [ltI_eq, cond_eq_ite, decide_eq_true_eq] at h
    cases hx; cases hy; cases h; exact ⟨_, rfl, .int _ _⟩
  · cases h

/-- Parts, by place. -/
inductive PL (β : Bij) : List (Nat × Value) → List (Nat × Value) → Prop where
  | nil : PL β [] []
  | cons {i : Nat} {x x' : Value} {r r' : List (Nat × Value)} : V β x x' → PL β r r' → PL β ((i, x) :: r) ((i, x') :: r')

theorem over_toList (c : Array Value) (off : Nat) (vs : List Value) (h : off + vs.length ≤ c.size) : (over c off vs).toList = splice c.toList off vs := by
  apply List.ext_getElem?
  intro i
  rw [splice_get _ _ _ (by simpa using h), Array.getElem?_toList, over_get _ _ _ h]
  simp only [Array.getElem?_toList]

theorem fold_over (ys : List Value) : ∀ (off k : Nat) (c : Array Value), (ys.zipIdx k).foldl (fun cs (p : Value × Nat) => cs.setIfInBounds (off + p.2) p.1) c = over c (off + k) ys := by
  induction ys with
  | nil => intro off k c; rfl
  | cons y r ih => intro off k c; simp only [List.zipIdx_cons, List.foldl_cons, over]; rw [ih]; rfl

theorem zipIdx_over (ys : Array Value) (off : Nat) (c : Array Value) : ys.zipIdx.foldl (fun cs (p : Value × Nat) => cs.setIfInBounds (off + p.2) p.1) c = over c off ys.toList := by
  rw [← Array.foldl_toList, Array.toList_zipIdx, fold_over]; rfl

theorem sim_fill {place place' : Nat → Option (Nat × Nat)} (hp : ∀ i p, place i = some p → place' i = some p) :
    ∀ (parts parts' : List (Nat × Value)) (cells : List Value) (cells' : Array Value) (out : List Value), fillL place cells parts = some out → PL β parts parts' →
      VL β cells cells'.toList → ∃ out', Instr.fill place' cells' parts' = some out' ∧ VL β out out'.toList ∧ out.length = cells.length := by
  intro parts
  induction parts with
  | nil => intro parts' cells cells' out h hl hc; cases hl; simp only [fillL] at h; cases h; exact ⟨cells', rfl, hc, rfl⟩
  | cons p r ih =>
    intro parts' cells cells' out h hl hc
    obtain ⟨i, v⟩ := p
    cases hl with
    | cons hv hr =>
    rename_i v' r'
    simp only [fillL] at h
    cases hpl : place i with
    | none => rw [hpl] at h; cases h
    | some q =>
      obtain ⟨off, size⟩ := q
      rw [hpl] at h; simp only at h
      cases hb : (Nat.beq (cellsL v).length size && Nat.ble (off + size) cells.length) with
      | false => rw [hb] at h; cases h
      | true =>
        rw [hb] at h; simp only [cond_true] at h
        simp only [Bool.and_eq_true] at hb
        have e1 := Nat.eq_of_beq_eq_true hb.1
        have e2 := ble_iff.1 hb.2
        have hcl := hc.length
        have hvc := hv.cells
        have hvl := hvc.length
        rw [cellsL_eq v'] at hvl hvc
        have hlen : (splice cells off (cellsL v)).length = cells.length := splice_length _ _ _ (by omega)
        have hrel : VL β (splice cells off (cellsL v)) (over cells' off v'.cells.toList).toList := by
          rw [over_toList _ _ _ (by simp at hcl hvl ⊢; omega), splice_eq _ _ _ (by omega), splice_eq _ _ _ (by omega), hvl]
          exact ((hc.take off).append hvc).append (hc.drop _)
        obtain ⟨out', x, y, z⟩ := ih r' _ _ out h hr hrel
        refine ⟨out', ?_, y, by omega⟩
        simp only [Instr.fill, hp _ _ hpl]
        have c1 : ¬ (v'.cells.size ≠ size ∨ off + v'.cells.size > cells'.size) := by simp at hcl hvl ⊢; omega
        have c2 : (decide (v'.cells.size ≠ size) || decide (off + v'.cells.size > cells'.size)) = false := by
          simp only [Bool.or_eq_false_iff, decide_eq_false_iff_not]
          exact ⟨fun h => c1 (.inl h), fun h => c1 (.inr h)⟩
        rw [zipIdx_over]
        simp only [Bool.or_eq_true, decide_eq_true_eq, c1, if_false]
        exact x

theorem run_places : ∀ (l : List Field) (fs : List (Nat × Nat)), fieldsOf P l = some fs →
    (l.mapM fun f => (do pure (f.offset, ← sizeOf f.type) : Sem (Nat × Nat))).run P w = .ok fs w := by
  intro l
  induction l with
  | nil => intro fs h; simp only [fieldsOf] at h; cases h; simp
  | cons f r ih =>
    intro fs h
    simp only [fieldsOf] at h
    cases hi : P.info? f.type with
    | none => rw [hi] at h; cases h
    | some info =>
      rw [hi] at h; simp only at h
      cases hr : fieldsOf P r with
      | none => rw [hr] at h; cases h
      | some l' =>
        rw [hr] at h; cases h
        simp only [List.mapM_cons, Sem.run_bind, sizeOf, typeInfo, run_program, Result.andThen_ok, hi, Sem.run_pure]
        have := ih l' hr
        simp only [sizeOf, typeInfo] at this
        rw [this]; rfl

theorem sim_build (hE : EnvOK P E) {t : TypeId} {parts parts' : List (Nat × Value)} {v : Value} (h : buildV E t parts = some v) (hp : PL β parts parts') :
    ∃ v', (Instr.build t parts'.toArray).run P w = .ok v' w ∧ V β v v' := by
  unfold buildV at h
  cases hi0 : E.ti t with
  | none => rw [hi0] at h; cases h
  | some i =>
    rw [hi0] at h; simp only at h
    have hti := hE.ti _ _ hi0
    have hu := hti.under
    have hz : VL β (cellsL i.zero) i.zero.cells.toList := by rw [← cellsL_eq]; exact VL.of_simple hti.zero
    split at h
    · rename_i fields hd
      rw [hd] at hu
      cases hf : fillL (fun j => nth i.fs j) (cellsL i.zero) parts with
      | none => rw [hf] at h; cases h
      | some out =>
        rw [hf] at h; cases h
        obtain ⟨out', x, y, -⟩ := sim_fill (place' := fun j => i.fs.toArray[j]?) (fun j p hj => by simpa [nth_eq] using hj) _ _ _ _ _ hf hp hz
        refine ⟨.agg out', ?_, .agg y⟩
        have hr := run_places (w := w) _ _ (hti.fs _ hd)
        simp only [Instr.build, Sem.run_bind, rZ hti, Result.andThen_ok, rU hu, Array.mapM_eq_mapM_toList, Sem.run_map]
        rw [hr]
        simp only [Result.andThen_ok]
        rw [x]; rfl
    · rename_i n e hd
      rw [hd] at hu
      cases hj : E.ti e with
      | none => rw [hj] at h; cases h
      | some j =>
        rw [hj] at h; simp only at h
        cases hf : fillL (fun n => some (n * j.size, j.size)) (cellsL i.zero) parts with
        | none => rw [hf] at h; cases h
        | some out =>
          rw [hf] at h; cases h
          obtain ⟨out', x, y, -⟩ := sim_fill (place' := fun n => some (n * j.size, j.size)) (fun j p hj => hj) _ _ _ _ _ hf hp hz
          refine ⟨.agg out', ?_, .agg y⟩
          simp only [Instr.build, Sem.run_bind, rZ hti, Result.andThen_ok, rU hu, rS (hE.ti _ _ hj)]
          rw [x]; rfl
    · cases h

end
end
end Go.Ideal
