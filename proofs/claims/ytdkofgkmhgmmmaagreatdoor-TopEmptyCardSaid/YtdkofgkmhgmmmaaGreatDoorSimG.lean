/- The ideal machine's operations on memory: maps, ranging over a string, '=='. -/
import Derived.Test.YtdkofgkmhgmmmaaGreatDoorSimF
namespace Go.Ideal
set_option linter.all false
set_option linter.unusedSimpArgs false
set_option linter.unusedVariables false
noncomputable section
open Go Go.RowKit
set_option maxHeartbeats 1000000

section
variable {P : Program} {E : Env} {N0 : Nat → Prop} {β : Bij} {w : World} {s s' : S}

theorem keyD_cases {d : TypeDesc} {k k' : Value} (h : keyD d k = true) (hv : V β k k') : k' = k ∧ ((∃ j q n, d = .int j ∧ k = .int q n) ∨ (∃ x, d = .string ∧ k = .string x)) := by
  unfold keyD at h
  split at h
  · cases hv; exact ⟨rfl, .inl ⟨_, _, _, rfl, rfl⟩⟩
  · cases hv; exact ⟨rfl, .inr ⟨_, rfl, rfl⟩⟩
  · cases h

theorem run_checkKey {t : TypeId} {d : TypeDesc} {k : Value} (hu : P.underlying t = some d) (h : keyD d k = true) (b : Bool) : (Instr.checkKey b 10000 t k).run P w = .ok () w := by
  unfold keyD at h
  show (Instr.checkKey b (9999 + 1) t k).run P w = _
  generalize 9999 = n
  split at h
  · simp [Instr.checkKey, rU hu]
  · simp [Instr.checkKey, rU hu]
  · cases h

theorem sameNow_eq {d : TypeDesc} {k a a' : Value} {r : Bool} (hk : keyD d k = true) (h : keyEq k a = some r) (ha : V β a a') : Instr.sameNow d k a' = some r := by
  unfold keyEq at h
  split at h
  · rename_i q x q' y
    cases ha
    unfold keyD at hk
    split at hk
    · rename_i heq; cases heq
      cases hs : sameK q q' with
      | false => rw [hs] at h; cases h
      | true =>
        rw [hs] at h; cases h
        have := sameK_iff.1 hs; subst this
        simp only [Instr.sameNow, if_true]
        rw [Bool.beq_eq_decide_eq]
    · rename_i heq; cases heq
    · cases hk
  · rename_i x y
    cases ha; cases h
    unfold keyD at hk
    split at hk
    · rename_i heq; cases heq
    · simp only [Instr.sameNow]; rw [bl_beq]
    · cases hk
  · cases h

theorem findNow_eq {d : TypeDesc} {k : Value} (hk : keyD d k = true) : ∀ {es : List (Value × Value × Nat)} {es' : List MapEntry} {i : Nat} {r : Option (Nat × Value)},
    findK k es i = some r → EL β es es' → ∃ r', Instr.findNow d k es' i = some r' ∧
      (r = none → r' = none) ∧ (∀ j v, r = some (j, v) → ∃ v', r' = some (j, v') ∧ V β v v' ∧ i ≤ j ∧ j < i + es.length) := by
  intro es
  induction es with
  | nil => intro es' i r h he; cases he; simp only [findK] at h; cases h; exact ⟨none, rfl, fun _ => rfl, fun _ _ h => by cases h⟩
  | cons e rest ih =>
    intro es' i r h he
    obtain ⟨a, v, n⟩ := e
    cases he with
    | cons ha hv hn hr =>
    simp only [findK] at h
    cases hq : keyEq k a with
    | none => rw [hq] at h; cases h
    | some q =>
      rw [hq] at h
      have hs := sameNow_eq hk hq ha
      cases q with
      | true =>
        cases h
        rename_i e' _
        refine ⟨some (i, e'.val), by simp only [Instr.findNow, hs], (fun h => nomatch h), fun j u hj => ?_⟩
        cases hj
        exact ⟨_, rfl, hv, Nat.le_refl _, by simp⟩
      | false =>
        obtain ⟨r', a1, a2, a3⟩ := ih h hr
        refine ⟨r', by simp only [Instr.findNow, hs]; exact a1, a2, fun j u hj => ?_⟩
        obtain ⟨v', b1, b2, b3, b4⟩ := a3 j u hj
        exact ⟨v', b1, b2, by omega, by simp; omega⟩

theorem Inv.map {g : Nat → Option Blk} (h : Inv N0 β g w) {b : Nat} {es : List (Value × Value × Nat)} {clock : Nat} {L : Loc}
    (hb : g b = some (.map es clock)) (hL : β b = some L) : ∃ es', w.heap[L.r]? = some (.map es' clock) ∧ EL β es es'.toList ∧ N0 L.r := by
  obtain ⟨L', hL', hs⟩ := h.live b _ hb
  rw [hL] at hL'; cases hL'
  exact hs

theorem run_getMap {r clock : Nat} {es : Array MapEntry} (h : w.heap[r]? = some (.map es clock)) : (getObj r).run P w = .ok (.map es clock) w := by
  simp [getObj, Sem.run, h]

theorem run_setMap {r clock clock' : Nat} {es es' : Array MapEntry} (h : w.heap[r]? = some (.map es clock)) : (setObj r (.map es' clock')).run P w = .ok () (setBlk w r (.map es' clock')) := by
  simp [setObj, Sem.run, h, setBlk]

theorem EL.length {l : List (Value × Value × Nat)} {l' : List MapEntry} (h : EL β l l') : l.length = l'.length := by
  induction h with
  | nil => rfl
  | cons _ _ _ _ ih => simp [ih]

theorem sim_findKey {t : TypeId} {d : TypeDesc} (hu : P.underlying t = some d) {k : Value} (hk : keyD d k = true) {es : List (Value × Value × Nat)} {es' : List MapEntry} {r : Option (Nat × Value)}
    (h : findK k es 0 = some r) (he : EL β es es') : ∃ r', (Instr.findKey t k es').run P w = .ok r' w ∧ (r = none → r' = none) ∧ (∀ j v, r = some (j, v) → ∃ v', r' = some (j, v') ∧ V β v v' ∧ j < es.length) := by
  obtain ⟨r', a1, a2, a3⟩ := findNow_eq (β := β) hk h he
  refine ⟨r', by simp only [Instr.findKey, Sem.run_bind, rU hu, Result.andThen_ok, a1, Sem.run_pure], a2, fun j v hj => ?_⟩
  obtain ⟨v', b1, b2, b3, b4⟩ := a3 j v hj
  exact ⟨v', b1, b2, by omega⟩

theorem sim_lookupM (hE : EnvOK P E) (hI : Inv N0 β s.h.get w) {t : TypeId} {x x' k k' v : Value} {ok : Bool} (h : lookupM E t x k ok s = some (v, s')) (hx : V β x x') (hk : V β k k') :
    ∃ v', (Instr.lookup t x' k' ok).run P w = .ok v' w ∧ V β v v' ∧ s'.h = s.h ∧ s'.nx = s.nx := by
  unfold lookupM at h
  cases hi : E.ti t with
  | none => rw [hi] at h; exact (fail_some.1 h).elim
  | some i =>
  rw [hi] at h; simp only at h
  have hu := (hE.ti _ _ hi).under
  cases hd : i.desc with
  | map kt et =>
    rw [hd] at h hu; simp only at h
    cases hki : E.ti kt with
    | none => rw [hki] at h; exact (fail_some.1 h).elim
    | some ki =>
    cases hei : E.ti et with
    | none => rw [hki, hei] at h; exact (fail_some.1 h).elim
    | some ei =>
      rw [hki, hei] at h; simp only at h
      have huk := (hE.ti _ _ hki).under
      obtain ⟨_, s1, h1, h2⟩ := bind_some.1 h
      obtain ⟨hkd, rfl⟩ := guardM_some.1 h1
      obtain ⟨es, s2, h3, h4⟩ := bind_some.1 h2
      obtain ⟨rfl, -⟩ := keyD_cases hkd hk
      have key : ∃ es' : Array MapEntry, ((x' = .map none ∧ es' = #[]) ∨ (∃ r clock, x' = .map (some r) ∧ w.heap[r]? = some (.map es' clock))) ∧ EL β es es'.toList ∧ s2.h = s1.h ∧ s2.nx = s1.nx := by
        cases hx with
        | nilmap => simp only [entriesM] at h3; obtain ⟨rfl, rfl⟩ := pure_some.1 h3; exact ⟨#[], .inl ⟨rfl, rfl⟩, .nil, rfl, rfl⟩
        | map hL =>
          simp only [entriesM] at h3
          obtain ⟨o, s3, h5, h6⟩ := bind_some.1 h3
          obtain ⟨hb, hg, rfl⟩ := rd_some.1 h5
          cases o with
          | map es0 clock =>
            obtain ⟨rfl, rfl⟩ := pure_some.1 h6
            obtain ⟨es', q1, q2, q3⟩ := hI.map hg hL
            exact ⟨es', .inr ⟨_, _, rfl, q1⟩, q2, rfl, rfl⟩
          | _ => exact (fail_some.1 h6).elim
        | _ => simp only [entriesM] at h3; exact (fail_some.1 h3).elim
      obtain ⟨es', hform, hel, e1, e2⟩ := key
      obtain ⟨fr, s3, h5, h6⟩ := bind_some.1 h4
      obtain ⟨hfind, rfl⟩ := liftO_some.1 h5
      obtain ⟨r', g1, g2, g3⟩ := sim_findKey (P := P) (w := w) huk hkd hfind hel
      have hz := V.zero (hE.ti _ _ hei) β
      cases fr with
      | none =>
        obtain ⟨rfl, rfl⟩ := pure_some.1 h6
        have := g2 rfl; subst this
        refine ⟨if ok then .tuple #[ei.zero, .bool false] else ei.zero, ?_, by cases ok <;> first | exact hz | exact .tuple (.cons hz (.cons (.bool _) .nil)), e1, e2⟩
        rcases hform with ⟨rfl, rfl⟩ | ⟨r, clock, rfl, hr⟩
        · simp only [Instr.lookup, Sem.run_bind, rU hu, Result.andThen_ok, run_checkKey huk hkd, g1, rZ (hE.ti _ _ hei), Sem.run_pure]
        · simp only [Instr.lookup, Sem.run_bind, rU hu, Result.andThen_ok, run_getMap hr, run_checkKey huk hkd, g1, rZ (hE.ti _ _ hei), Sem.run_pure]
      | some p =>
        obtain ⟨j, u⟩ := p
        obtain ⟨rfl, rfl⟩ := pure_some.1 h6
        obtain ⟨u', b1, b2, b3⟩ := g3 j u rfl
        subst b1
        refine ⟨if ok then .tuple #[u', .bool true] else u', ?_, by cases ok <;> first | exact b2 | exact .tuple (.cons b2 (.cons (.bool _) .nil)), e1, e2⟩
        rcases hform with ⟨rfl, rfl⟩ | ⟨r, clock, rfl, hr⟩
        · simp only [Instr.lookup, Sem.run_bind, rU hu, Result.andThen_ok, run_checkKey huk hkd, g1, Sem.run_pure]
        · simp only [Instr.lookup, Sem.run_bind, rU hu, Result.andThen_ok, run_getMap hr, run_checkKey huk hkd, g1, Sem.run_pure]
  | _ => rw [hd] at h; exact (fail_some.1 h).elim

theorem EL.setNth {l : List (Value × Value × Nat)} {l' : List MapEntry} (h : EL β l l') {k v v' : Value} (hk : V β k k) (hv : V β v v') : ∀ (j : Nat),
    EL β (Ideal.setNth l j fun e => (k, v, e.2.2)) (l'.modify j fun e => { e with key := k, val := v' }) := by
  induction h with
  | nil => intro j; cases j <;> exact .nil
  | cons a b c r ih =>
    intro j
    cases j with
    | zero => exact .cons hk hv c r
    | succ j => exact .cons a b c (ih j)

theorem EL.delNth {l : List (Value × Value × Nat)} {l' : List MapEntry} (h : EL β l l') : ∀ (j : Nat), EL β (Ideal.delNth l j) (l'.eraseIdx j) := by
  induction h with
  | nil => intro j; cases j <;> exact .nil
  | cons a b c r ih =>
    intro j
    cases j with
    | zero => exact r
    | succ j => exact .cons a b c (ih j)

theorem EL.snoc {l : List (Value × Value × Nat)} {l' : List MapEntry} (h : EL β l l') {k v : Value} {n : Nat} {e : MapEntry} (hk : V β k e.key) (hv : V β v e.val) (hn : n = e.born) :
    EL β (l ++ [(k, v, n)]) (l' ++ [e]) := by
  induction h with
  | nil => exact .cons hk hv hn .nil
  | cons a b c _ ih => exact .cons a b c ih

/-- The key that is found is the key that was asked for. -/
theorem findNow_key {d : TypeDesc} {k : Value} (_hk : keyD d k = true) : ∀ (es : List MapEntry) (i j : Nat) (v : Value), Instr.findNow d k es i = some (some (j, v)) →
    ∃ e, es[j - i]? = some e ∧ i ≤ j ∧ Instr.sameNow d k e.key = some true := by
  intro es
  induction es with
  | nil => intro i j v h; simp [Instr.findNow] at h
  | cons e r ih =>
    intro i j v h
    simp only [Instr.findNow] at h
    split at h
    · rename_i hs; cases h; exact ⟨e, by simp, Nat.le_refl _, hs⟩
    · obtain ⟨e', a, b, c⟩ := ih _ _ _ h
      refine ⟨e', ?_, by omega, c⟩
      rw [show j - i = (j - (i + 1)) + 1 by omega]; simpa using a
    · cases h

theorem sameNow_bits {d : TypeDesc} {k a : Value} (hk : keyD d k = true) (h : Instr.sameNow d k a = some true) : Instr.sameBits 10000 a k = true := by
  unfold keyD at hk
  split at hk
  · cases a with
    | int q m =>
      simp only [Instr.sameNow] at h
      split at h
      · rename_i e
        subst e
        have h := Option.some.inj h
        show Instr.sameBits (9999 + 1) _ _ = true
        simp only [Instr.sameBits, Bool.and_eq_true, beq_iff_eq] at h ⊢
        exact ⟨trivial, h.symm⟩
      · cases h
    | _ => simp only [Instr.sameNow] at h; cases h
  · cases a with
    | string q =>
      simp only [Instr.sameNow] at h
      have h := Option.some.inj h
      show Instr.sameBits (9999 + 1) _ _ = true
      simp only [Instr.sameBits, bl_beq, bytesEq_iff] at h ⊢
      rw [beq_iff_eq] at h ⊢
      exact h.symm
    | _ => simp only [Instr.sameNow] at h; cases h
  · cases hk

theorem sim_mapUpdateM (hE : EnvOK P E) (hI : Inv N0 β s.h.get w) {t : TypeId} {x x' k k' y y' v : Value} (h : mapUpdateM E t x k y s = some (v, s')) (hx : V β x x') (hk : V β k k') (hy : V β y y') :
    ∃ w', (Instr.mapUpdate t x' k' y').run P w = .ok () w' ∧ v = undef ∧ Out N0 β s w s' β w' := by
  unfold mapUpdateM at h
  cases hi : E.ti t with
  | none => rw [hi] at h; exact (fail_some.1 h).elim
  | some i =>
  rw [hi] at h; simp only at h
  have hu := (hE.ti _ _ hi).under
  cases hd : i.desc with
  | map kt et =>
    rw [hd] at h hu; simp only at h
    cases hki : E.ti kt with
    | none => rw [hki] at h; exact (fail_some.1 h).elim
    | some ki =>
      rw [hki] at h; simp only at h
      have huk := (hE.ti _ _ hki).under
      obtain ⟨_, s1, h1, h2⟩ := bind_some.1 h
      obtain ⟨hkd, rfl⟩ := guardM_some.1 h1
      obtain ⟨rfl, -⟩ := keyD_cases hkd hk
      cases hx with
      | map hL =>
        obtain ⟨o, s2, h3, h4⟩ := bind_some.1 h2
        obtain ⟨hb, hg, rfl⟩ := rd_some.1 h3
        cases o with
        | map es clock =>
          obtain ⟨es', q1, q2, q3⟩ := hI.map hg hL
          obtain ⟨fr, s3, h5, h6⟩ := bind_some.1 h4
          obtain ⟨hfind, rfl⟩ := liftO_some.1 h5
          have hel := q2
          obtain ⟨r', a1, a2, a3⟩ := findNow_eq (β := β) hkd hfind hel
          have hr : (Instr.findKey kt k' es'.toList).run P w = .ok r' w := by simp only [Instr.findKey, Sem.run_bind, rU huk, Result.andThen_ok, a1, Sem.run_pure]
          have hlt : _ := (Array.getElem?_eq_some_iff.1 q1).1
          cases fr with
          | none =>
            have := a2 rfl; subst this
            obtain ⟨_, s4, h7, h8⟩ := bind_some.1 h6
            obtain ⟨_, rfl⟩ := wr_some.1 h7
            obtain ⟨rfl, rfl⟩ := pure_some.1 h8
            refine ⟨setBlk w _ (.map (es'.push { key := k', val := y', born := clock }) (clock + 1)), ?_, rfl, Ext.refl _ _ _, ?_, setBlk_below q3⟩
            · simp only [Instr.mapUpdate, Sem.run_bind, rU hu, Result.andThen_ok, run_getMap q1, run_checkKey huk hkd, hr]
              exact run_setMap q1
            · refine hI.write (o' := .map (es ++ [(k', y, clock)]) (clock + 1)) hg rfl rfl hL (fun n => by simp only [Tr.get_set]) ?_
              exact ⟨_, setBlk_same hlt, by rw [Array.toList_push]; exact q2.snoc (e := { key := k', val := y', born := clock }) hk hy rfl, q3⟩
          | some p =>
            obtain ⟨j, u⟩ := p
            obtain ⟨u', rfl, b2, b3, b4⟩ := a3 j u rfl
            obtain ⟨_, s4, h7, h8⟩ := bind_some.1 h6
            obtain ⟨_, rfl⟩ := wr_some.1 h7
            obtain ⟨rfl, rfl⟩ := pure_some.1 h8
            obtain ⟨e, c1, -, c3⟩ := findNow_key hkd _ _ _ _ a1
            rw [Nat.sub_zero, Array.getElem?_toList] at c1
            have hst : (Instr.keyThatStays (((es'[j]?).map (·.key)).getD k') k').run P w = .ok k' w := by
              simp only [c1, Option.map_some, Option.getD_some, Instr.keyThatStays, sameNow_bits hkd c3, if_true, Sem.run_pure]
            refine ⟨setBlk w _ (.map (es'.modify j fun e => { e with key := k', val := y' }) clock), ?_, rfl, Ext.refl _ _ _, ?_, setBlk_below q3⟩
            · simp only [Instr.mapUpdate, Sem.run_bind, rU hu, Result.andThen_ok, run_getMap q1, run_checkKey huk hkd, hr, hst]
              exact run_setMap q1
            · refine hI.write (o' := .map (Ideal.setNth es j fun e => (k', y, e.2.2)) clock) hg rfl rfl hL (fun n => by simp only [Tr.get_set]) ?_
              exact ⟨_, setBlk_same hlt, by rw [Array.toList_modify]; exact q2.setNth hk hy j, q3⟩
        | _ => exact (fail_some.1 h4).elim
      | _ => exact (fail_some.1 h2).elim
  | _ => rw [hd] at h; exact (fail_some.1 h).elim

theorem sim_deleteM (hE : EnvOK P E) (hI : Inv N0 β s.h.get w) {t : TypeId} {x x' k k' v : Value} (h : deleteM E t x k s = some (v, s')) (hx : V β x x') (hk : V β k k') (ty : TypeId) (ts : Array TypeId) (ht : ts[0]? = some t) :
    ∃ w' v', (Builtin.delete_ ts ty #[x', k']).run P w = .ok v' w' ∧ V β v v' ∧ Out N0 β s w s' β w' := by
  unfold deleteM at h
  cases hi : E.ti t with
  | none => rw [hi] at h; exact (fail_some.1 h).elim
  | some i =>
  rw [hi] at h; simp only at h
  have hu := (hE.ti _ _ hi).under
  cases hd : i.desc with
  | map kt et =>
    rw [hd] at h hu; simp only at h
    cases hki : E.ti kt with
    | none => rw [hki] at h; exact (fail_some.1 h).elim
    | some ki =>
      rw [hki] at h; simp only at h
      have huk := (hE.ti _ _ hki).under
      obtain ⟨_, s1, h1, h2⟩ := bind_some.1 h
      obtain ⟨hkd, rfl⟩ := guardM_some.1 h1
      obtain ⟨rfl, -⟩ := keyD_cases hkd hk
      cases hx with
      | nilmap =>
        obtain ⟨rfl, rfl⟩ := pure_some.1 h2
        refine ⟨w, .tuple #[], ?_, .tuple .nil, Out.same hI rfl⟩
        simp [Builtin.delete_, ht, rU hu, run_checkKey huk hkd]
      | map hL =>
        obtain ⟨o, s2, h3, h4⟩ := bind_some.1 h2
        obtain ⟨hb, hg, rfl⟩ := rd_some.1 h3
        cases o with
        | map es clock =>
          obtain ⟨es', q1, q2, q3⟩ := hI.map hg hL
          obtain ⟨fr, s3, h5, h6⟩ := bind_some.1 h4
          obtain ⟨hfind, rfl⟩ := liftO_some.1 h5
          obtain ⟨r', a1, a2, a3⟩ := findNow_eq (β := β) hkd hfind q2
          have hr : (Instr.findKey kt k' es'.toList).run P w = .ok r' w := by simp only [Instr.findKey, Sem.run_bind, rU huk, Result.andThen_ok, a1, Sem.run_pure]
          have hlt : _ := (Array.getElem?_eq_some_iff.1 q1).1
          cases fr with
          | none =>
            have := a2 rfl; subst this
            obtain ⟨_, s4, h7, h8⟩ := bind_some.1 h6
            obtain ⟨_, rfl⟩ := wr_some.1 h7
            obtain ⟨rfl, rfl⟩ := pure_some.1 h8
            refine ⟨setBlk w _ (.map es' clock), .tuple #[], ?_, .tuple .nil, Ext.refl _ _ _, ?_, setBlk_below q3⟩
            · simp [Builtin.delete_, ht, rU hu, run_getMap q1, run_checkKey huk hkd, hr, run_setMap q1]
            · refine hI.write (o' := .map es clock) hg rfl rfl hL (fun n => by simp only [Tr.get_set]) ?_
              exact ⟨_, setBlk_same hlt, q2, q3⟩
          | some p =>
            obtain ⟨j, u⟩ := p
            obtain ⟨u', rfl, b2, b3, b4⟩ := a3 j u rfl
            obtain ⟨_, s4, h7, h8⟩ := bind_some.1 h6
            obtain ⟨_, rfl⟩ := wr_some.1 h7
            obtain ⟨rfl, rfl⟩ := pure_some.1 h8
            refine ⟨setBlk w _ (.map (es'.eraseIdxIfInBounds j) clock), .tuple #[], ?_, .tuple .nil, Ext.refl _ _ _, ?_, setBlk_below q3⟩
            · simp [Builtin.delete_, ht, rU hu, run_getMap q1, run_checkKey huk hkd, hr, run_setMap q1]
            · refine hI.write (o' := .map (Ideal.delNth es j) clock) hg rfl rfl hL (fun n => by simp only [Tr.get_set]) ?_
              refine ⟨_, setBlk_same hlt, ?_, q3⟩
              have hj : j < es'.size := by have := q2.length; simp at this; omega
              have : (es'.eraseIdxIfInBounds j).toList = es'.toList.eraseIdx j := by
                unfold Array.eraseIdxIfInBounds; rw [dif_pos hj, Array.toList_eraseIdx]
              rw [this]
              exact q2.delNth j
        | _ => exact (fail_some.1 h4).elim
      | _ => exact (fail_some.1 h2).elim
  | _ => rw [hd] at h; exact (fail_some.1 h).elim

theorem lift_bind' {α β : Type} {o : Option α} {f : α → M β} {b : β} {s s' : S} (h : (liftO o >>= f) s = some (b, s')) : ∃ a, o = some a ∧ f a s = some (b, s') := by
  obtain ⟨a, s1, h1, h2⟩ := bind_some.1 h
  obtain ⟨ha, rfl⟩ := liftO_some.1 h1
  exact ⟨a, ha, h2⟩

theorem hasN_eq : ∀ (l : List Nat) (n : Nat), hasN l n = l.contains n
  | [], n => by simp [hasN]
  | a :: r, n => by
    unfold hasN
    rw [hasN_eq r n, List.contains_cons]
    by_cases h : a = n
    · subst h; simp
    · have h' : ¬ n = a := fun e => h e.symm
      rw [beq_ff h]; simp [h']

theorem EL.left {es : List (Value × Value × Nat)} {es' : List MapEntry} (h : EL β es es') (seen : List Nat) :
    EL β (leftE es seen) (es'.filter fun e => !seen.toArray.contains e.born) := by
  induction h with
  | nil => exact .nil
  | cons a b c _ ih =>
    rename_i k v n e r r' _
    have hc : seen.toArray.contains e.born = hasN seen n := by rw [hasN_eq, c]; simp
    unfold leftE
    rw [List.filter_cons, hc]
    cases hasN seen n with
    | true => simpa using ih
    | false => exact .cons a b c ih

theorem EL.young {es : List (Value × Value × Nat)} {es' : List MapEntry} (h : EL β es es') {last : Nat} (he : elder es last = true) :
    (es'.all fun e => decide (e.born ≥ last)) = false := by
  induction h with
  | nil => cases he
  | cons a b c _ ih =>
    rename_i k v n e r r' _
    unfold elder at he
    rw [List.all_cons]
    cases hb : Nat.blt n last with
    | true =>
      have := blt_iff.1 hb
      have : decide (e.born ≥ last) = false := by
        have hne : ¬ (e.born ≥ last) := by rw [← c]; omega
        simp [hne]
      rw [this]; rfl
    | false =>
      rw [hb, Bool.false_or] at he
      rw [ih he, Bool.and_false]

theorem lastN_eq : ∀ (l : List Nat), lastN l = l.toArray.back?
  | [] => rfl
  | [a] => rfl
  | a :: b :: r => by
    unfold lastN
    rw [lastN_eq (b :: r)]
    simp

theorem EL.born {es : List (Value × Value × Nat)} {es' : List MapEntry} (h : EL β es es') {n : Nat} {p : Value × Value} (hb : bornE es n = some p) :
    ∃ e, es'.find? (·.born == n) = some e ∧ V β p.1 e.key ∧ V β p.2 e.val := by
  induction h with
  | nil => cases hb
  | cons a b c _ ih =>
    rename_i k v m e r r' _
    unfold bornE at hb
    rw [List.find?_cons]
    cases hc : Nat.beq m n with
    | true =>
      rw [hc] at hb; cases hb
      have := Nat.eq_of_beq_eq_true hc
      have : (e.born == n) = true := by rw [← c]; simpa using this
      rw [this]
      exact ⟨e, rfl, a, b⟩
    | false =>
      rw [hc] at hb
      have hne : ¬ m = n := by intro e; subst e; rw [Nat.beq_refl] at hc; cases hc
      have : (e.born == n) = false := by rw [← c]; simpa using hne
      rw [this]
      exact ih hb

theorem sim_rangeM (hE : EnvOK P E) (hI : Inv N0 β s.h.get w) {t : TypeId} {x x' v : Value} (h : rangeM E t x s = some (v, s')) (hf : Fresh β s.nx s'.nx) (hx : V β x x') :
    ∃ β' w' v', (Instr.range t x').run P w = .ok v' w' ∧ V β' v v' ∧ Out N0 β s w s' β' w' := by
  unfold rangeM at h
  cases hi : E.ti t with
  | none => rw [hi] at h; exact (fail_some.1 h).elim
  | some i =>
    have hu := (hE.ti _ _ hi).under
    cases hx with
    | string q =>
      rw [hi] at h; simp only at h
      cases hd : i.desc with
      | string =>
        rw [hd] at h hu; simp only at h
        obtain ⟨b, s1, h1, h2⟩ := bind_some.1 h
        obtain ⟨rfl, rfl⟩ := pure_some.1 h2
        obtain ⟨rfl, rfl⟩ := new_some.1 h1
        have hn : β s.nx = none := hf _ (Nat.le_refl _) (by simp)
        refine ⟨addB β s.nx ⟨w.heap.size, 0, 0⟩, pushW w (.stringIter q 0), .pointer (some ⟨w.heap.size, 0, none⟩), ?_, .ptr (L := ⟨w.heap.size, 0, 0⟩) (off := 0) (addB_same _ _ _), addB_ext hn (Nat.le_refl _) (by simp), ?_, pushW_below hI.size⟩
        · simp only [Instr.range, Sem.run_bind, rU hu, Result.andThen_ok, Sem.run_pure, run_newObj]; rfl
        · refine hI.push (o' := .iter q 0) hn rfl (fun n => by simp only [Tr.get_set]) ?_
          exact ⟨pushW_new, hI.size _ (Nat.le_refl _), rfl⟩
      | _ => rw [hd] at h; exact (fail_some.1 h).elim
    | nilmap =>
      rw [hi] at h; simp only at h
      cases hd : i.desc with
      | map kt et =>
        rw [hd] at h hu; simp only [rangeMapM] at h
        obtain ⟨b, s1, h1, h2⟩ := bind_some.1 h
        obtain ⟨rfl, rfl⟩ := pure_some.1 h2
        obtain ⟨rfl, rfl⟩ := new_some.1 h1
        have hn : β s.nx = none := hf _ (Nat.le_refl _) (by simp)
        refine ⟨addB β s.nx ⟨w.heap.size, 0, 0⟩, pushW w (.mapIter none 0 #[] 0), .pointer (some ⟨w.heap.size, 0, none⟩), ?_, .ptr (L := ⟨w.heap.size, 0, 0⟩) (off := 0) (addB_same _ _ _), addB_ext hn (Nat.le_refl _) (by simp), ?_, pushW_below hI.size⟩
        · simp only [Instr.range, Sem.run_bind, rU hu, Result.andThen_ok, Sem.run_pure, run_newObj]; rfl
        · refine hI.push (o' := .miter none 0 [] 0) hn rfl (fun n => by simp only [Tr.get_set]) ?_
          exact ⟨⟨none, trivial, pushW_new⟩, hI.size _ (Nat.le_refl _), rfl⟩
      | _ => rw [hd] at h; exact (fail_some.1 h).elim
    | map hL =>
      rename_i mb L
      rw [hi] at h; simp only at h
      cases hd : i.desc with
      | map kt et =>
        rw [hd] at h hu; simp only [rangeMapM] at h
        obtain ⟨o, s0, h0, h⟩ := bind_some.1 h
        obtain ⟨hb, hg, rfl⟩ := rd_some.1 h0
        cases o with
        | map es clock =>
          obtain ⟨L', hL', es', q1, q2, q3⟩ := hI.live mb _ hg
          rw [hL] at hL'; cases hL'
          simp only at h
          obtain ⟨b, s1, h1, h2⟩ := bind_some.1 h
          obtain ⟨rfl, rfl⟩ := pure_some.1 h2
          obtain ⟨rfl, rfl⟩ := new_some.1 h1
          have hget : (getObj L.r).run P w = .ok (.map es' clock) w := by simp [getObj, Sem.run, q1]
          have hn : β s.nx = none := hf _ (Nat.le_refl _) (by simp)
          refine ⟨addB β s.nx ⟨w.heap.size, 0, 0⟩, pushW w (.mapIter (some L.r) clock #[] clock), .pointer (some ⟨w.heap.size, 0, none⟩), ?_, .ptr (L := ⟨w.heap.size, 0, 0⟩) (off := 0) (addB_same _ _ _), addB_ext hn (Nat.le_refl _) (by simp), ?_, pushW_below hI.size⟩
          · simp only [Instr.range, Sem.run_bind, rU hu, Result.andThen_ok, hget, Sem.run_pure, run_newObj]; rfl
          · refine hI.push (o' := .miter (some mb) clock [] clock) hn rfl (fun n => by simp only [Tr.get_set]) ?_
            exact ⟨⟨some L.r, ⟨L, addB_keep hn _ _ hL, rfl⟩, pushW_new⟩, hI.size _ (Nat.le_refl _), rfl⟩
        | _ => exact (fail_some.1 h).elim
      | _ => rw [hd] at h; exact (fail_some.1 h).elim
    | _ => rw [hi] at h; exact (fail_some.1 h).elim

theorem sim_nextMapM (hI : Inv N0 β s.h.get w) {b0 : Nat} {L : Loc} {m : Option Nat} {since last : Nat} {seen : List Nat} {v : Value} {ty : TypeId} (hL : β b0 = some L) (hlt0 : b0 < s.nx)
    (hg : s.h.get b0 = some (.miter m since seen last)) (h : nextMapM b0 m since seen last s = some (v, s')) :
    ∃ w' v', (Instr.next (.pointer (some ⟨L.r, 0, none⟩)) false ty).run P w = .ok v' w' ∧ V β v v' ∧ Out N0 β s w s' β w' := by
  obtain ⟨L', hL', ⟨m', q1, q2⟩, q3, q4⟩ := hI.live b0 _ hg
  rw [hL] at hL'; cases hL'
  have hget : (getObj L.r).run P w = .ok (.mapIter m' since seen.toArray last) w := by simp [getObj, Sem.run, q2]
  have hlt : L.r < w.heap.size := (Array.getElem?_eq_some_iff.1 q2).1
  have hset : ∀ o, (setObj L.r o).run P w = .ok () (setBlk w L.r o) := by intro o; simp [setObj, Sem.run, q2, setBlk]
  cases m with
  | none =>
    cases m' with
    | some _ => exact q1.elim
    | none =>
      simp only [nextMapM] at h
      obtain ⟨rfl, rfl⟩ := pure_some.1 h
      refine ⟨w, .tuple #[.bool false], ?_, .tuple (.cons (.bool _) .nil), Out.same hI rfl⟩
      simp only [Instr.next, Sem.run_bind, hget, Result.andThen_ok, Sem.run_pure]
  | some mb =>
    cases m' with
    | none => exact q1.elim
    | some r' =>
      obtain ⟨Lm, hLm, rfl⟩ := q1
      simp only [nextMapM] at h
      obtain ⟨o, s0, h0, h⟩ := bind_some.1 h
      obtain ⟨hb, hgm, rfl⟩ := rd_some.1 h0
      cases o with
      | map es clock =>
        obtain ⟨L', hL', es', p1, p2, p3⟩ := hI.live mb _ hgm
        rw [hLm] at hL'; cases hL'
        have hget2 : (getObj Lm.r).run P w = .ok (.map es' clock) w := by simp [getObj, Sem.run, p1]
        simp only at h
        obtain ⟨_, s2, h3, h4⟩ := bind_some.1 h
        obtain ⟨hyo, rfl⟩ := guardM_some.1 h3
        have hy : (!seen.toArray.isEmpty && !es'.isEmpty && es'.all fun e => decide (e.born ≥ last)) = false := by
          cases hs : isNilL seen with
          | true => cases seen with
            | nil => simp
            | cons _ _ => cases hs
          | false =>
            cases he : isNilL es with
            | true =>
              cases es with
              | nil =>
                have : es'.toList = [] := by generalize es'.toList = l at p2; cases p2; rfl
                have : es' = #[] := Array.toList_eq_nil_iff.1 this
                subst this; simp
              | cons _ _ => cases he
            | false =>
              rw [hs, he, Bool.false_or, Bool.false_or] at hyo
              have := p2.young hyo
              rw [← Array.all_toList, this, Bool.and_false]
        have hF := p2.left seen
        have hFe : (es'.filter fun e => !seen.toArray.contains e.born).toList = es'.toList.filter fun e => !seen.toArray.contains e.born := Array.toList_filter ..
        rw [← hFe] at hF
        generalize hG : (es'.filter fun e => !seen.toArray.contains e.born) = F at hF
        cases hl : leftE es seen with
        | nil =>
          rw [hl] at h4 hF; simp only at h4
          obtain ⟨rfl, rfl⟩ := pure_some.1 h4
          have hF0 : F = #[] := by
            have : F.toList = [] := by generalize F.toList = l at hF; cases hF; rfl
            exact Array.toList_eq_nil_iff.1 this
          subst hF0
          refine ⟨w, .tuple #[.bool false], ?_, .tuple (.cons (.bool _) .nil), Out.same hI rfl⟩
          simp only [Instr.next, Sem.run_bind, hget, hget2, Result.andThen_ok, hy, Bool.false_eq_true, if_false, hG]
          simp [Question.forced]
        | cons e r =>
          cases r with
          | cons _ _ => rw [hl] at h4; exact (fail_some.1 h4).elim
          | nil =>
            rw [hl] at h4 hF; simp only at h4
            obtain ⟨_, s3, h5, h6⟩ := bind_some.1 h4
            obtain ⟨hsi, rfl⟩ := guardM_some.1 h5
            obtain ⟨_, s4, h7, h8⟩ := bind_some.1 h6
            obtain ⟨_, rfl⟩ := wr_some.1 h7
            obtain ⟨rfl, rfl⟩ := pure_some.1 h8
            have hsi := blt_iff.1 hsi
            obtain ⟨e', hF1, k1, k2, k3⟩ : ∃ e', F = #[e'] ∧ V β e.1 e'.key ∧ V β e.2.1 e'.val ∧ e.2.2 = e'.born := by
              obtain ⟨F⟩ := F
              simp only at hF
              cases hF with
              | cons a b c d => cases d; exact ⟨_, rfl, a, b, c⟩
            subst hF1
            have hb1 : e'.born < since := by rw [← k3]; exact hsi
            have hb2 : ¬ e'.born ≥ since := by omega
            refine ⟨setBlk w L.r (.mapIter (some Lm.r) since (seen.toArray.push e'.born) clock), .tuple #[.bool true, e'.key, e'.val], ?_,
              .tuple (.cons (.bool _) (.cons k1 (.cons k2 .nil))), Ext.refl _ _ _, ?_, setBlk_below q3⟩
            · simp only [Instr.next, Sem.run_bind, hget, hget2, Result.andThen_ok, hy, Bool.false_eq_true, if_false, hG]
              simp [Question.forced, hb1, hb2, hset]
            · refine hI.write (o' := .miter (some mb) since (seen ++ [e.2.2]) clock) hg rfl rfl hL (fun n => by simp only [Tr.get_set]) ?_
              refine ⟨⟨some Lm.r, ⟨Lm, hLm, rfl⟩, ?_⟩, q3, q4⟩
              rw [setBlk_same hlt, k3]; simp
      | _ => exact (fail_some.1 h).elim

theorem sim_entryM (hI : Inv N0 β s.h.get w) {x x' v : Value} (h : entryM x s = some (v, s')) (hx : V β x x') :
    ∃ v', (Instr.entry x').run P w = .ok v' w ∧ V β v v' ∧ s'.h = s.h := by
  cases hx with
  | ptr hL =>
    rename_i b0 off L
    cases off with
    | succ n => simp only [entryM] at h; exact (fail_some.1 h).elim
    | zero =>
      simp only [entryM] at h
      obtain ⟨o, s1, h1, h2⟩ := bind_some.1 h
      obtain ⟨hb, hg, rfl⟩ := rd_some.1 h1
      cases o with
      | miter m since seen last =>
        cases m with
        | none => exact (fail_some.1 h2).elim
        | some mb =>
          simp only at h2
          obtain ⟨n, hn, h2⟩ := lift_bind' h2
          obtain ⟨o, s3, h3, h4⟩ := bind_some.1 h2
          obtain ⟨hb3, hg3, rfl⟩ := rd_some.1 h3
          cases o with
          | map es clock =>
            simp only at h4
            obtain ⟨_, s5, h5, h6⟩ := bind_some.1 h4
            obtain ⟨hcl, rfl⟩ := guardM_some.1 h5
            obtain ⟨p, hp, h6⟩ := lift_bind' h6
            obtain ⟨rfl, rfl⟩ := pure_some.1 h6
            obtain ⟨L', hL', ⟨m', q1, q2⟩, q3, q4⟩ := hI.live b0 _ hg
            rw [hL] at hL'; cases hL'
            cases m' with
            | none => exact q1.elim
            | some r' =>
              obtain ⟨Lm, hLm, rfl⟩ := q1
              obtain ⟨L', hL', es', p1, p2, p3⟩ := hI.live mb _ hg3
              rw [hLm] at hL'; cases hL'
              have hget : (getObj L.r).run P w = .ok (.mapIter (some Lm.r) since seen.toArray last) w := by simp [getObj, Sem.run, q2]
              have hget2 : (getObj Lm.r).run P w = .ok (.map es' clock) w := by simp [getObj, Sem.run, p1]
              have hadr : (⟨L.r, L.sh + 0, none⟩ : Addr) = ⟨L.r, 0, none⟩ := by rw [q4]
              rw [hadr]
              have hcl := Nat.eq_of_beq_eq_true hcl
              obtain ⟨e, hf, k1, k2⟩ := p2.born hp
              rw [Array.find?_toList] at hf
              rw [lastN_eq] at hn
              refine ⟨.tuple #[e.key, e.val], ?_, .tuple (.cons k1 (.cons k2 .nil)), rfl⟩
              simp only [Instr.entry, Sem.run_bind, hget, hn, hget2, Result.andThen_ok, hcl, bne_self_eq_false, Bool.false_eq_true, if_false, hf, Sem.run_pure]
          | _ => exact (fail_some.1 h4).elim
      | _ => exact (fail_some.1 h2).elim
  | _ => simp only [entryM] at h; exact (fail_some.1 h).elim

theorem sim_nextM (hI : Inv N0 β s.h.get w) {x x' v : Value} {b : Bool} {ty : TypeId} (h : nextM x b s = some (v, s')) (hx : V β x x') :
    ∃ w' v', (Instr.next x' b ty).run P w = .ok v' w' ∧ V β v v' ∧ Out N0 β s w s' β w' := by
  cases hx with
  | ptr hL =>
    rename_i b0 off L
    cases off with
    | succ n => simp only [nextM] at h; exact (fail_some.1 h).elim
    | zero =>
      cases b with
      | false =>
        simp only [nextM] at h
        obtain ⟨o, s1, h1, h2⟩ := bind_some.1 h
        obtain ⟨hb, hg, rfl⟩ := rd_some.1 h1
        cases o with
        | miter m since seen last =>
          obtain ⟨L', hL', q1, q3, q4⟩ := hI.live b0 _ hg
          rw [hL] at hL'; cases hL'
          have hadr : (⟨L.r, L.sh + 0, none⟩ : Addr) = ⟨L.r, 0, none⟩ := by rw [q4]
          rw [hadr]
          obtain ⟨w', v', r, hv, ho⟩ := sim_nextMapM (P := P) (ty := ty) (s := ⟨s.h, s.nx, s.r ||| bit b0, s.w⟩) hI hL hb hg h2
          exact ⟨w', v', r, hv, ho.ext, ho.inv, ho.below⟩
        | _ => exact (fail_some.1 h2).elim
      | true =>
        simp only [nextM] at h
        obtain ⟨o, s1, h1, h2⟩ := bind_some.1 h
        obtain ⟨hb, hg, rfl⟩ := rd_some.1 h1
        cases o with
        | iter q pos =>
          obtain ⟨L', hL', q1, q2, q3⟩ := hI.live b0 _ hg
          rw [hL] at hL'; cases hL'
          have hadr : (⟨L.r, L.sh + 0, none⟩ : Addr) = ⟨L.r, 0, none⟩ := by rw [q3]
          rw [hadr]
          have hget : (getObj L.r).run P w = .ok (.stringIter q pos) w := by simp [getObj, Sem.run, q1]
          have hlt : L.r < w.heap.size := (Array.getElem?_eq_some_iff.1 q1).1
          have hset : ∀ o, (setObj L.r o).run P w = .ok () (setBlk w L.r o) := by intro o; simp [setObj, Sem.run, q1, setBlk]
          simp only at h2
          cases hc : nth (bl q) pos with
          | none =>
            rw [hc] at h2
            obtain ⟨rfl, rfl⟩ := pure_some.1 h2
            rw [nth_eq] at hc
            have hge : ¬ pos < q.size := by
              intro hlt; rw [List.getElem?_eq_getElem (by rw [bl_size]; exact hlt)] at hc; cases hc
            refine ⟨w, .tuple #[.bool false], ?_, .tuple (.cons (.bool _) .nil), Out.same hI rfl⟩
            simp only [Instr.next, Sem.run_bind, hget, Result.andThen_ok, hge, if_false, Sem.run_pure]
          | some c =>
            rw [hc] at h2
            simp only [nextAt] at h2
            obtain ⟨_, s2, h3, h4⟩ := bind_some.1 h2
            obtain ⟨hasc, rfl⟩ := guardM_some.1 h3
            obtain ⟨_, s3, h5, h6⟩ := bind_some.1 h4
            obtain ⟨_, rfl⟩ := wr_some.1 h5
            obtain ⟨rfl, rfl⟩ := pure_some.1 h6
            have hasc := blt_iff.1 hasc
            rw [nth_eq] at hc
            have hlt' : pos < q.size := by
              rcases Nat.lt_or_ge pos q.size with h | h
              · exact h
              · rw [List.getElem?_eq_none (by rw [bl_size]; exact h)] at hc; cases hc
            have hgb : q.get! (pos + 0) = c := by
              have hlt2 : pos < q.data.size := hlt'
              have : q.data[pos]? = some c := by rw [← Array.getElem?_toList]; exact hc
              simp only [ByteArray.get!, Nat.add_zero]
              rw [getElem!_pos q.data pos hlt2]
              rw [Array.getElem?_eq_getElem hlt2] at this
              exact Option.some.inj this
            have hdec : Utf8.decode q pos = (c.toNat, 1) := by
              simp only [Utf8.decode, hgb]
              rw [if_pos (by simpa using hasc)]
            refine ⟨setBlk w L.r (.stringIter q (pos + 1)), .tuple #[.bool true, .int .i64 (Int.ofNat pos), .int .i32 (Int.ofNat c.toNat)], ?_,
              .tuple (.cons (.bool _) (.cons (.int _ _) (.cons (.int _ _) .nil))), Ext.refl _ _ _, ?_, setBlk_below q2⟩
            · simp only [Instr.next, Sem.run_bind, hget, Result.andThen_ok, hlt', if_true, hdec, hset, Sem.run_pure]; rfl
            · refine hI.write (o' := .iter q (pos + 1)) hg rfl rfl hL (fun n => by simp only [Tr.get_set]) ?_
              exact ⟨setBlk_same hlt, q2, q3⟩
        | _ => exact (fail_some.1 h2).elim
  | _ => simp only [nextM] at h; exact (fail_some.1 h).elim

end
end
end Go.Ideal
