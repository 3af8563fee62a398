/- The ideal machine's operations: copy, clear, the built-in functions together. -/
import Derived.Test.YtdkofgkmhgmmmaaGreatDoorSimJ
namespace Go.Ideal
set_option linter.all false
set_option linter.unusedSimpArgs false
set_option linter.unusedVariables false
noncomputable section
open Go Go.RowKit
set_option maxHeartbeats 1000000

section
variable {P : Program} {E : Env} {N0 : Nat → Prop} {β : Bij} {w : World} {s s' : S}

theorem sim_lenM (hE : EnvOK P E) (hI : Inv N0 β s.h.get w) {t ty : TypeId} {ts : Array TypeId} (ht : ts[0]? = some t) {x x' v : Value} (h : lenM E t x s = some (v, s')) (hx : V β x x') :
    ∃ v', (Builtin.len_ ts ty #[x']).run P w = .ok v' w ∧ V β v v' ∧ s'.h = s.h := by
  have main : ∀ v, lenV E t x = some v → V β v v := by
    intro v hv
    unfold lenV at hv
    cases hi : E.ti t with
    | none => rw [hi] at hv; cases hv
    | some i => rw [hi] at hv; simp only at hv; split at hv <;> first | (cases hv; done) | (cases hv; exact .int _ _)
  cases hx with
  | map hL =>
    rename_i b L
    simp only [lenM] at h
    cases hi : E.ti t with
    | none => rw [hi] at h; exact (fail_some.1 h).elim
    | some i =>
      rw [hi] at h; simp only at h
      have hu := (hE.ti _ _ hi).under
      cases hd : i.desc with
      | map k e =>
        rw [hd] at h hu; simp only at h
        obtain ⟨o, s1, h1, h2⟩ := bind_some.1 h
        obtain ⟨hb, hg, rfl⟩ := rd_some.1 h1
        cases o with
        | map es clock =>
          obtain ⟨rfl, rfl⟩ := pure_some.1 h2
          obtain ⟨es', q1, q2, q3⟩ := hI.map hg hL
          have hl := q2.length
          refine ⟨.int .i64 es'.size, ?_, ?_, rfl⟩
          · simp [Builtin.len_, ht, rU hu, run_getMap q1, goInt]
          · rw [hl]; simp; exact .int _ _
        | _ => exact (fail_some.1 h2).elim
      | _ => rw [hd] at h; exact (fail_some.1 h).elim
  | nilmap => simp only [lenM] at h; obtain ⟨hv, rfl⟩ := liftO_some.1 h; exact ⟨v, sim_len (β := β) hE hv .nilmap ty ht, main v hv, rfl⟩
  | bool b => simp only [lenM] at h; obtain ⟨hv, rfl⟩ := liftO_some.1 h; exact ⟨v, sim_len (β := β) hE hv (.bool b) ty ht, main v hv, rfl⟩
  | int k n => simp only [lenM] at h; obtain ⟨hv, rfl⟩ := liftO_some.1 h; exact ⟨v, sim_len (β := β) hE hv (.int k n) ty ht, main v hv, rfl⟩
  | string q => simp only [lenM] at h; obtain ⟨hv, rfl⟩ := liftO_some.1 h; exact ⟨v, sim_len (β := β) hE hv (.string q) ty ht, main v hv, rfl⟩
  | nilptr => simp only [lenM] at h; obtain ⟨hv, rfl⟩ := liftO_some.1 h; exact ⟨v, sim_len (β := β) hE hv .nilptr ty ht, main v hv, rfl⟩
  | ptr e => simp only [lenM] at h; obtain ⟨hv, rfl⟩ := liftO_some.1 h; exact ⟨v, sim_len (β := β) hE hv (.ptr e) ty ht, main v hv, rfl⟩
  | nilsl => simp only [lenM] at h; obtain ⟨hv, rfl⟩ := liftO_some.1 h; exact ⟨v, sim_len (β := β) hE hv .nilsl ty ht, main v hv, rfl⟩
  | sl e c => simp only [lenM] at h; obtain ⟨hv, rfl⟩ := liftO_some.1 h; exact ⟨v, sim_len (β := β) hE hv (.sl e c) ty ht, main v hv, rfl⟩
  | slz A A' a b => simp only [lenM] at h; obtain ⟨hv, rfl⟩ := liftO_some.1 h; exact ⟨v, sim_len (β := β) hE hv (.slz A A' a b) ty ht, main v hv, rfl⟩
  | sl0 A A' => simp only [lenM] at h; obtain ⟨hv, rfl⟩ := liftO_some.1 h; exact ⟨v, sim_len (β := β) hE hv (.sl0 A A') ty ht, main v hv, rfl⟩
  | nilfunc => simp only [lenM] at h; obtain ⟨hv, rfl⟩ := liftO_some.1 h; exact ⟨v, sim_len (β := β) hE hv .nilfunc ty ht, main v hv, rfl⟩
  | func f a b => simp only [lenM] at h; obtain ⟨hv, rfl⟩ := liftO_some.1 h; exact ⟨v, sim_len (β := β) hE hv (.func f a b) ty ht, main v hv, rfl⟩
  | nilif => simp only [lenM] at h; obtain ⟨hv, rfl⟩ := liftO_some.1 h; exact ⟨v, sim_len (β := β) hE hv .nilif ty ht, main v hv, rfl⟩
  | iface t' e => simp only [lenM] at h; obtain ⟨hv, rfl⟩ := liftO_some.1 h; exact ⟨v, sim_len (β := β) hE hv (.iface t' e) ty ht, main v hv, rfl⟩
  | agg e => simp only [lenM] at h; obtain ⟨hv, rfl⟩ := liftO_some.1 h; exact ⟨v, sim_len (β := β) hE hv (.agg e) ty ht, main v hv, rfl⟩
  | tuple e => simp only [lenM] at h; obtain ⟨hv, rfl⟩ := liftO_some.1 h; exact ⟨v, sim_len (β := β) hE hv (.tuple e) ty ht, main v hv, rfl⟩

theorem run_lenOf {x x' : Value} {m : Nat} (h : lenOfV x = some m) (hx : V β x x') (w : World) : (Builtin.lenOf x').run P w = .ok m w := by
  unfold lenOfV at h
  split at h
  · cases h; cases hx <;> rfl
  · cases h; cases hx; simp [Builtin.lenOf, bl_size]
  · cases h

theorem sim_copyM (hE : EnvOK P E) (hI : Inv N0 β s.h.get w) {t ty : TypeId} {ts : Array TypeId} (ht : ts[0]? = some t) {d d' x x' v : Value} (h : copyM E t d x s = some (v, s')) (hd : V β d d') (hx : V β x x') :
    ∃ w' v', (Builtin.copy_ ts ty #[d', x']).run P w = .ok v' w' ∧ V β v v' ∧ Out N0 β s w s' β w' := by
  unfold copyM at h
  cases hi : E.ti t with
  | none => rw [hi] at h; exact (fail_some.1 h).elim
  | some i =>
  rw [hi] at h; simp only at h
  have hu := (hE.ti _ _ hi).under
  obtain ⟨m, hm, h⟩ : ∃ m : M Value, m = _ ∧ m s = some (v, s') := ⟨_, rfl, h⟩
  split at hm
  · rename_i e base len c hdd
    subst hm
    rw [hdd] at hu
    cases hj : E.ti e with
    | none => rw [hj] at h; exact (fail_some.1 h).elim
    | some j =>
      rw [hj] at h; simp only at h
      have htj := hE.ti _ _ hj
      obtain ⟨q, s1, h1, h2⟩ := bind_some.1 h
      obtain ⟨hlen, rfl⟩ := liftO_some.1 h1
      have hmin : cond (Nat.ble q len) q len = Nat.min q len := by
        by_cases hq : q ≤ len
        · rw [ble_iff.2 hq]; exact (Nat.min_eq_left hq).symm
        · rw [ble_ff hq]; exact (Nat.min_eq_right (Nat.le_of_lt (Nat.lt_of_not_le hq))).symm
      simp only [hmin] at h2
      obtain ⟨ys, s2, h3, h4⟩ := bind_some.1 h2
      obtain ⟨cs, r, hv, hl, e1, e2⟩ := sim_firstM (P := P) hI h3 hx
      have hI2 : Inv N0 β s2.h.get w := by rw [e1]; exact hI
      have hbase : ∃ base' cap', d' = .slice base' len cap' := by cases hd <;> exact ⟨_, _, rfl⟩
      obtain ⟨base', cap', rfl⟩ := hbase
      have hhead : ∀ (w' : World), (match base' with | some a => storeCells a cs.toList | none => pure () : Sem Unit).run P w = .ok () w' →
          (Builtin.copy_ ts ty #[.slice base' len cap', x']).run P w = .ok (.int .i64 (Nat.min q len)) w' := by
        intro w' hst
        have a0 : (#[Value.slice base' len cap', x'] : Array Value)[0]? = some (.slice base' len cap') := rfl
        have a1 : (#[Value.slice base' len cap', x'] : Array Value)[1]? = some x' := rfl
        simp only [Builtin.copy_, ht, a0, a1, Sem.run_bind, rU hu, Result.andThen_ok, run_lenOf hlen hx, rS htj, r w rfl]
        cases base' with
        | none => simp only [Sem.run_pure] at hst ⊢; cases hst; rfl
        | some a => simp only [Sem.run_bind]; simp only at hst; rw [hst]; rfl
      cases ys with
      | nil =>
        obtain ⟨rfl, rfl⟩ := pure_some.1 h4
        have hcs : cs.toList = [] := by have := hv.length; exact List.eq_nil_of_length_eq_zero (by simpa using this.symm)
        refine ⟨w, _, hhead w ?_, .int _ _, Out.same hI e1⟩
        cases base' <;> simp [hcs, storeCells]
      | cons y0 yr =>
        cases hd with
        | @sl b off _ _ _ L hL hcap =>
          simp only at h4
          obtain ⟨_, s3, h5, h6⟩ := bind_some.1 h4
          obtain ⟨rfl, rfl⟩ := pure_some.1 h6
          obtain ⟨w', r', ho⟩ := sim_putCells (P := P) hI2 h5 hL hv
          exact ⟨w', _, hhead w' r', .int _ _, ⟨Ext.refl _ _ _, ho.inv, ho.below⟩⟩
        | nilsl => exact (fail_some.1 h4).elim
        | slz A A' u1 u2 =>
          simp only [List.length_cons] at hl
          have : Nat.min q 0 = 0 := Nat.min_zero q
          rw [this] at hl; simp at hl
        | sl0 A A' =>
          simp only [List.length_cons] at hl
          have : Nat.min q 0 = 0 := Nat.min_zero q
          rw [this] at hl; simp at hl
  · subst hm; exact (fail_some.1 h).elim

theorem sim_clearM (hE : EnvOK P E) (hI : Inv N0 β s.h.get w) {t ty : TypeId} {ts : Array TypeId} (ht : ts[0]? = some t) {x x' v : Value} (h : clearM E t x s = some (v, s')) (hx : V β x x') :
    ∃ w' v', (Builtin.clear_ ts ty #[x']).run P w = .ok v' w' ∧ V β v v' ∧ Out N0 β s w s' β w' := by
  unfold clearM at h
  cases hi : E.ti t with
  | none => rw [hi] at h; exact (fail_some.1 h).elim
  | some i =>
  rw [hi] at h; simp only at h
  have hu := (hE.ti _ _ hi).under
  obtain ⟨m, hm, h⟩ : ∃ m : M Value, m = _ ∧ m s = some (v, s') := ⟨_, rfl, h⟩
  split at hm
  · rename_i e base n c hdd
    subst hm
    rw [hdd] at hu
    cases hn : Nat.beq n 0 with
    | true =>
      rw [hn] at h
      obtain ⟨rfl, rfl⟩ := pure_some.1 h
      have := Nat.eq_of_beq_eq_true hn; subst this
      refine ⟨w, .tuple #[], ?_, .tuple .nil, Out.same hI rfl⟩
      cases hx <;> simp [Builtin.clear_, ht, rU hu]
    | false =>
      rw [hn] at h; simp only [cond_false] at h
      cases hj : E.ti e with
      | none => rw [hj] at h; exact (fail_some.1 h).elim
      | some j =>
        rw [hj] at h
        have htj := hE.ti _ _ hj
        cases hx with
        | @sl b off _ _ _ L hL hcap =>
          simp only at h
          obtain ⟨_, s1, h1, h2⟩ := bind_some.1 h
          obtain ⟨rfl, rfl⟩ := pure_some.1 h2
          have hz : VL β (repL (cellsL j.zero) n) (Builtin.zeroCells j.zero.cells n).toList := by
            unfold Builtin.zeroCells; rw [zeros_eq, ← cellsL_eq]; exact VL.repL htj.zero _
          obtain ⟨w', r, ho⟩ := sim_putCells (P := P) hI h1 hL hz
          refine ⟨w', .tuple #[], ?_, .tuple .nil, ho⟩
          have hn0 : n ≠ 0 := fun e => by subst e; simp at hn
          obtain ⟨n, rfl⟩ : ∃ q, n = q + 1 := ⟨n - 1, by omega⟩
          simp [Builtin.clear_, ht, rU hu, rZ htj, r]
        | nilsl => simp at hn
        | slz A A' u1 u2 => simp at hn
        | sl0 A A' => simp at hn
  · subst hm; exact (fail_some.1 h).elim

end
end
end Go.Ideal
