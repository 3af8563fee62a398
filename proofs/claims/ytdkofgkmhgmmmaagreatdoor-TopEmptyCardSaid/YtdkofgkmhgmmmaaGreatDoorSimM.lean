/- Every operation of the ideal machine that is no call of a function: the dispatch. -/
import Derived.Test.YtdkofgkmhgmmmaaGreatDoorSimL
namespace Go.Ideal
set_option linter.all false
set_option linter.unusedSimpArgs false
set_option linter.unusedVariables false
noncomputable section
open Go Go.RowKit
set_option maxHeartbeats 1000000

section
variable {P : Program} {E : Env} {N0 : Nat → Prop} {β : Bij} {w : World} {s s' : S} {ev : Operand → Option Value} {ρ : Operand → Value}

theorem lift_bind {α β : Type} {o : Option α} {f : α → M β} {b : β} {s s' : S} (h : (liftO o >>= f) s = some (b, s')) : ∃ a, o = some a ∧ f a s = some (b, s') := by
  obtain ⟨a, s1, h1, h2⟩ := bind_some.1 h
  obtain ⟨ha, rfl⟩ := liftO_some.1 h1
  exact ⟨a, ha, h2⟩

theorem map_arr {α β : Type} (f : α → β) (a : Array α) : a.map f = (a.toList.map f).toArray := by
  apply Array.ext'; simp

theorem sim_pure {m : Sem Value} {v v' : Value} (hI : Inv N0 β s.h.get w) (r : m.run P w = .ok v' w) (hv : V β v v') (e : s'.h = s.h) :
    ∃ β' w' nx v', (do pure (Next.value (← m)) : Sem Next).run P w = .ok nx w' ∧ Yield nx v' ∧ V β' v v' ∧ Out N0 β s w s' β' w' :=
  ⟨β, w, .value v', v', by simp only [Sem.run_bind, r, Result.andThen_ok, Sem.run_pure], .inl rfl, hv, Out.same hI e⟩

theorem sim_step {m : Sem Value} {v v' : Value} {β' : Bij} {w' : World} (r : m.run P w = .ok v' w') (hv : V β' v v') (ho : Out N0 β s w s' β' w') :
    ∃ β' w' nx v', (do pure (Next.value (← m)) : Sem Next).run P w = .ok nx w' ∧ Yield nx v' ∧ V β' v v' ∧ Out N0 β s w s' β' w' :=
  ⟨β', w', .value v', v', by simp only [Sem.run_bind, r, Result.andThen_ok, Sem.run_pure], .inl rfl, hv, ho⟩

theorem sim_unit {m : Sem Unit} {v : Value} {w' : World} (r : m.run P w = .ok () w') (hv : v = undef) (ho : Out N0 β s w s' β w') :
    ∃ β' w' nx v', (do m; pure Next.skip : Sem Next).run P w = .ok nx w' ∧ Yield nx v' ∧ V β' v v' ∧ Out N0 β s w s' β' w' :=
  ⟨β, w', .skip, undef, by simp only [Sem.run_bind, r, Result.andThen_ok, Sem.run_pure], .inr ⟨rfl, rfl⟩, hv ▸ undef_V β, ho⟩

theorem sim_opM (hE : EnvOK P E) (hI : Inv N0 β s.h.get w) (hρ : ∀ x v, ev x = some v → V β v (ρ x)) {o : Oper} {v : Value}
    (h : opM E ev o.op s = some (v, s')) (hf : Fresh β s.nx s'.nx) :
    ∃ β' w' nx v', (execOp ρ o).run P w = .ok nx w' ∧ Yield nx v' ∧ V β' v v' ∧ Out N0 β s w s' β' w' := by
  obtain ⟨dst, op, ty, pos, after, guard⟩ := o
  cases op <;> simp only [opM, o1, o2, o3, oP, oL, oO, oS, oPick, oFn, oCall, lO1, lO2] at h <;> first | exact (fail_some.1 h).elim | skip
  case move x =>
    obtain ⟨hv, rfl⟩ := liftO_some.1 h
    exact ⟨β, w, .value (ρ x), ρ x, rfl, .inl rfl, hρ x v hv, Out.same hI rfl⟩
  case assign x =>
    obtain ⟨hv, rfl⟩ := liftO_some.1 h
    exact ⟨β, w, .value (ρ x), ρ x, rfl, .inl rfl, hρ x v hv, Out.same hI rfl⟩
  case pick c a b =>
    obtain ⟨q, hq, h⟩ := lift_bind h
    have hc := hρ c q hq
    generalize hr : ρ c = q' at hc
    cases hc <;> simp only at h <;> first | exact (fail_some.1 h).elim | skip
    rename_i t
    cases t with
    | true =>
      obtain ⟨hv, rfl⟩ := liftO_some.1 h
      exact ⟨β, w, .value (ρ a), ρ a, by simp only [execOp, hr]; rfl, .inl rfl, hρ a v hv, Out.same hI rfl⟩
    | false =>
      obtain ⟨hv, rfl⟩ := liftO_some.1 h
      exact ⟨β, w, .value (ρ b), ρ b, by simp only [execOp, hr]; rfl, .inl rfl, hρ b v hv, Out.same hI rfl⟩
  case alloc t =>
    obtain ⟨β', w', v', r, hv, ho⟩ := sim_allocM hE hI h hf
    exact sim_step r hv ho
  case box t x =>
    obtain ⟨a, ha, h⟩ := lift_bind h
    obtain ⟨β', w', v', r, hv, ho⟩ := sim_boxM (P := P) hI h hf (hρ x a ha)
    exact sim_step r hv ho
  case build t ps =>
    obtain ⟨l, hl, h⟩ := lift_bind h
    obtain ⟨hv, rfl⟩ := liftO_some.1 h
    obtain ⟨v', r, hv⟩ := sim_build (w := w) hE hv (evalP_rel hρ hl)
    rw [← map_arr] at r
    exact sim_pure hI r hv rfl
  case buildSlice t n ps =>
    obtain ⟨l, hl, h⟩ := lift_bind h
    obtain ⟨β', w', v', r, hv, ho⟩ := sim_buildSliceM hE hI h hf (evalP_rel hρ hl)
    rw [← map_arr] at r
    exact sim_step r hv ho
  case load t a =>
    obtain ⟨p, hp, h⟩ := lift_bind h
    obtain ⟨v', r, hv, e, _⟩ := sim_loadM hE hI h (hρ a p hp)
    exact sim_pure hI r hv e
  case store t a x =>
    obtain ⟨p, hp, h⟩ := lift_bind h
    obtain ⟨q, hq, h⟩ := lift_bind h
    obtain ⟨w', r, hv, ho⟩ := sim_storeM hE hI h (hρ a p hp) (hρ x q hq)
    exact sim_unit r hv ho
  case nilCheck x =>
    obtain ⟨p, hp, h⟩ := lift_bind h
    obtain ⟨hv, rfl⟩ := liftO_some.1 h
    obtain ⟨v', r, hv⟩ := sim_nilCheck (P := P) (w := w) hv (hρ x p hp) ρ x rfl dst ty pos after guard
    exact ⟨β, w, .value v', v', r, .inl rfl, hv, Out.same hI rfl⟩
  case binOp op t x y z =>
    obtain ⟨p, hp, h⟩ := lift_bind h
    obtain ⟨q, hq, h⟩ := lift_bind h
    obtain ⟨v', r, hv, e, _⟩ := sim_binM hE hI h (hρ x p hp) (hρ y q hq)
    exact sim_pure hI r hv e
  case unOp op t x =>
    obtain ⟨p, hp, h⟩ := lift_bind h
    obtain ⟨hv, rfl⟩ := liftO_some.1 h
    obtain ⟨v', r, hv⟩ := sim_unV (P := P) (w := w) hv (hρ x p hp)
    exact sim_pure hI r hv rfl
  case convert a b x =>
    obtain ⟨p, hp, h⟩ := lift_bind h
    obtain ⟨β', w', v', r, hv, ho⟩ := sim_convertM hE hI h hf (hρ x p hp)
    exact sim_step r hv ho
  case makeInterface t x =>
    obtain ⟨p, hp, h⟩ := lift_bind h
    obtain ⟨hv, rfl⟩ := liftO_some.1 h
    obtain ⟨v', r, hv⟩ := sim_mkIface (w := w) hE hv (hρ x p hp)
    exact sim_pure hI r hv rfl
  case makeFunc fn a c =>
    obtain ⟨p, hp, h⟩ := lift_bind h
    obtain ⟨q, hq, h⟩ := lift_bind h
    obtain ⟨rfl, rfl⟩ := pure_some.1 h
    refine sim_pure (v' := .func fn (a.map ρ) (c.map ρ)) hI rfl (.func fn ?_ ?_) rfl
    · rw [Array.toList_map]; exact evalL_rel hρ hp
    · rw [Array.toList_map]; exact evalL_rel hρ hq
  case makeMap t r =>
    obtain ⟨p, hp, h⟩ := lift_bind h
    obtain ⟨β', w', v', r, hv, ho⟩ := sim_makeMapM (P := P) (t := t) hI h hf (evalO_rel hρ hp)
    exact sim_step r hv ho
  case makeSlice t l c =>
    obtain ⟨p, hp, h⟩ := lift_bind h
    obtain ⟨q, hq, h⟩ := lift_bind h
    obtain ⟨β', w', v', r, hv, ho⟩ := sim_makeSliceM hE hI h hf (hρ l p hp) (hρ c q hq)
    exact sim_step r hv ho
  case slice t x lo hi mx =>
    obtain ⟨p, hp, h⟩ := lift_bind h
    obtain ⟨q1, hq1, h⟩ := lift_bind h
    obtain ⟨q2, hq2, h⟩ := lift_bind h
    obtain ⟨q3, hq3, h⟩ := lift_bind h
    obtain ⟨hv, rfl⟩ := liftO_some.1 h
    obtain ⟨v', r, hv⟩ := sim_slice (w := w) hE hv (hρ x p hp) (evalO_rel hρ hq1) (evalO_rel hρ hq2) (evalO_rel hρ hq3)
    exact sim_pure hI r hv rfl
  case fieldAddr t x f =>
    obtain ⟨p, hp, h⟩ := lift_bind h
    obtain ⟨hv, rfl⟩ := liftO_some.1 h
    obtain ⟨v', r, hv⟩ := sim_fieldAddr (w := w) hE hv (hρ x p hp)
    exact sim_pure hI r hv rfl
  case field t x f =>
    obtain ⟨p, hp, h⟩ := lift_bind h
    obtain ⟨hv, rfl⟩ := liftO_some.1 h
    obtain ⟨v', r, hv⟩ := sim_field (w := w) hE hv (hρ x p hp)
    exact sim_pure hI r hv rfl
  case indexAddr t x i =>
    obtain ⟨p, hp, h⟩ := lift_bind h
    obtain ⟨q, hq, h⟩ := lift_bind h
    obtain ⟨hv, rfl⟩ := liftO_some.1 h
    obtain ⟨v', r, hv⟩ := sim_indexAddr (w := w) hE hv (hρ x p hp) (hρ i q hq)
    exact sim_pure hI r hv rfl
  case index t x i =>
    obtain ⟨p, hp, h⟩ := lift_bind h
    obtain ⟨q, hq, h⟩ := lift_bind h
    obtain ⟨hv, rfl⟩ := liftO_some.1 h
    obtain ⟨v', r, hv⟩ := sim_index (w := w) hE hv (hρ x p hp) (hρ i q hq)
    exact sim_pure hI r hv rfl
  case lookup t x k ok =>
    obtain ⟨p, hp, h⟩ := lift_bind h
    obtain ⟨q, hq, h⟩ := lift_bind h
    obtain ⟨v', r, hv, e, _⟩ := sim_lookupM hE hI h (hρ x p hp) (hρ k q hq)
    exact sim_pure hI r hv e
  case mapUpdate t m k x =>
    obtain ⟨p, hp, h⟩ := lift_bind h
    obtain ⟨q, hq, h⟩ := lift_bind h
    obtain ⟨y, hy, h⟩ := lift_bind h
    obtain ⟨w', r, hv, ho⟩ := sim_mapUpdateM hE hI h (hρ m p hp) (hρ k q hq) (hρ x y hy)
    exact sim_unit r hv ho
  case insert t m k x =>
    obtain ⟨p, hp, h⟩ := lift_bind h
    obtain ⟨q, hq, h⟩ := lift_bind h
    obtain ⟨y, hy, h⟩ := lift_bind h
    obtain ⟨w', r, hv, ho⟩ := sim_mapUpdateM hE hI h (hρ m p hp) (hρ k q hq) (hρ x y hy)
    exact sim_unit r hv ho
  case range t x =>
    obtain ⟨p, hp, h⟩ := lift_bind h
    obtain ⟨β', w', v', r, hv, ho⟩ := sim_rangeM hE hI h hf (hρ x p hp)
    exact sim_step r hv ho
  case next x b =>
    obtain ⟨p, hp, h⟩ := lift_bind h
    obtain ⟨w', v', r, hv, ho⟩ := sim_nextM (P := P) (ty := ty) hI h (hρ x p hp)
    exact sim_step r hv ho
  case entry x =>
    obtain ⟨p, hp, h⟩ := lift_bind h
    obtain ⟨v', r, hv, e⟩ := sim_entryM (P := P) hI h (hρ x p hp)
    exact sim_pure hI r hv e
  case typeAssert x xt t ok =>
    obtain ⟨p, hp, h⟩ := lift_bind h
    obtain ⟨hv, rfl⟩ := liftO_some.1 h
    obtain ⟨v', r, hv⟩ := sim_typeAssert (xt := xt) (w := w) hE hv (hρ x p hp)
    exact sim_pure hI r hv rfl
  case extract x n =>
    obtain ⟨p, hp, h⟩ := lift_bind h
    obtain ⟨hv, rfl⟩ := liftO_some.1 h
    obtain ⟨v', r, hv⟩ := sim_extract (P := P) (w := w) hv (hρ x p hp)
    exact sim_pure hI r hv rfl
  case call c =>
    obtain ⟨callee, args, ats⟩ := c
    cases callee <;> simp only at h <;> first | exact (fail_some.1 h).elim | skip
    rename_i b
    obtain ⟨l, hl, h⟩ := lift_bind h
    have hl' := evalL_rel hρ hl
    rw [← Array.toList_map] at hl'
    obtain ⟨β', w', v', r, hv, ho⟩ := sim_builtin (P := P) (ty := ty) (cs := args.map fun | .const _ => true | _ => false) hE hI h hf hl'
    refine ⟨β', w', .value v', v', ?_, .inl rfl, hv, ho⟩
    simp only [execOp, resolve, invoke, Sem.run_bind, Sem.run_pure, Result.andThen_ok]
    exact r

end
end
end Go.Ideal
