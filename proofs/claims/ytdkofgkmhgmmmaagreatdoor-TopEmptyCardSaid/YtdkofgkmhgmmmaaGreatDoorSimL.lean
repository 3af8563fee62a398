/- Every operation of the ideal machine that is no call of a function comes to what the model's operation comes to. -/
import Derived.Test.YtdkofgkmhgmmmaaGreatDoorSimK
namespace Go.Ideal
set_option linter.all false
set_option linter.unusedSimpArgs false
set_option linter.unusedVariables false
noncomputable section
open Go Go.RowKit
set_option maxHeartbeats 1000000

theorem undef_V (β : Bij) : V β undef undef := .tuple .nil

/-- What an operation hands back. -/
def Yield (n : Next) (v : Value) : Prop := n = .value v ∨ (n = .skip ∧ v = undef)

section
variable {P : Program} {E : Env} {N0 : Nat → Prop} {β : Bij} {w : World} {s s' : S} {ev : Operand → Option Value} {ρ : Operand → Value}

theorem evalL_rel (hρ : ∀ x v, ev x = some v → V β v (ρ x)) : ∀ {l : List Operand} {vs : List Value}, evalL ev l = some vs → VL β vs (l.map ρ)
  | [], vs, h => by simp only [evalL] at h; cases h; exact .nil
  | x :: r, vs, h => by
    simp only [evalL] at h
    cases hx : ev x with
    | none => rw [hx] at h; cases h
    | some v =>
      rw [hx] at h; simp only at h
      cases hr : evalL ev r with
      | none => rw [hr] at h; cases h
      | some l => rw [hr] at h; cases h; exact .cons (hρ x v hx) (evalL_rel hρ hr)

theorem evalP_rel (hρ : ∀ x v, ev x = some v → V β v (ρ x)) : ∀ {l : List (Nat × Operand)} {vs : List (Nat × Value)}, evalP ev l = some vs → PL β vs (l.map fun (i, x) => (i, ρ x))
  | [], vs, h => by simp only [evalP] at h; cases h; exact .nil
  | (i, x) :: r, vs, h => by
    simp only [evalP] at h
    cases hx : ev x with
    | none => rw [hx] at h; cases h
    | some v =>
      rw [hx] at h; simp only at h
      cases hr : evalP ev r with
      | none => rw [hr] at h; cases h
      | some l => rw [hr] at h; cases h; exact .cons (hρ x v hx) (evalP_rel hρ hr)

theorem evalO_rel (hρ : ∀ x v, ev x = some v → V β v (ρ x)) {o : Option Operand} {vo : Option Value} (h : evalO ev o = some vo) : VO β vo (o.map ρ) := by
  cases o with
  | none => simp only [evalO] at h; cases h; exact .none
  | some x =>
    simp only [evalO] at h
    cases hx : ev x with
    | none => rw [hx] at h; cases h
    | some v => rw [hx] at h; cases h; exact .some (hρ x v hx)

theorem sim_builtin (hE : EnvOK P E) (hI : Inv N0 β s.h.get w) {b : Builtin} {ts : Array TypeId} {ty : TypeId} {cs : Array Bool} {args : List Value} {args' : Array Value} {v : Value}
    (h : builtinM E b ts.toList args s = some (v, s')) (hf : Fresh β s.nx s'.nx) (ha : VL β args args'.toList) :
    ∃ β' w' v', (builtin b ts ty cs args').run P w = .ok (.value v') w' ∧ V β' v v' ∧ Out N0 β s w s' β' w' := by
  have nth0 : ∀ i, nth ts.toList i = ts[i]? := fun i => by rw [nth_eq, Array.getElem?_toList]
  have hd : ∀ {t r}, ts.toList = t :: r → ts[0]? = some t := by
    intro t r e; rw [← Array.getElem?_toList, e]; rfl
  have two : ∀ {x y : Value}, args = [x, y] → ∃ x' y', args' = #[x', y'] ∧ V β x x' ∧ V β y y' := by
    rintro x y rfl
    obtain ⟨l⟩ := args'
    cases ha with
    | cons h1 h2 => cases h2 with
      | cons h2 h3 => cases h3; exact ⟨_, _, rfl, h1, h2⟩
  have one1 : ∀ {x : Value}, args = [x] → ∃ x', args' = #[x'] ∧ V β x x' := by
    rintro x rfl
    obtain ⟨l⟩ := args'
    cases ha with
    | cons h1 h2 => cases h2; exact ⟨_, rfl, h1⟩
  unfold builtinM at h
  obtain ⟨m, hm, h⟩ : ∃ m : M Value, m = _ ∧ m s = some (v, s') := ⟨_, rfl, h⟩
  split at hm
  · subst hm
    obtain ⟨x', y', rfl, hx, hy⟩ := two rfl
    rw [nth0, nth0] at h
    obtain ⟨β', w', v', r, hv, ho⟩ := sim_appendM (P := P) (ty := ty) hE hI h hf hx hy
    exact ⟨β', w', v', by simp only [builtin, Sem.run_bind, r, Result.andThen_ok, Sem.run_pure], hv, ho⟩
  · obtain ⟨x', rfl, hx⟩ := one1 rfl
    split at hm
    · rename_i t r e; subst hm
      obtain ⟨v', r, hv, he⟩ := sim_lenM (ty := ty) hE hI (hd e) h hx
      exact ⟨β, w, v', by simp only [builtin, Sem.run_bind, r, Result.andThen_ok, Sem.run_pure], hv, Out.same hI he⟩
    · subst hm; exact (fail_some.1 h).elim
  · obtain ⟨x', rfl, hx⟩ := one1 rfl
    split at hm
    · rename_i t r e; subst hm
      obtain ⟨hv, rfl⟩ := liftO_some.1 h
      have r := sim_cap (w := w) hE hv hx ty (hd e)
      refine ⟨β, w, v, by simp only [builtin, Sem.run_bind, r, Result.andThen_ok, Sem.run_pure], ?_, Out.same hI rfl⟩
      unfold capV at hv
      cases hi : E.ti t with
      | none => rw [hi] at hv; cases hv
      | some i =>
        rw [hi] at hv; simp only at hv
        split at hv
        · rename_i e1 a1 n1 c hd1 hd2
          cases hc : Nat.blt c UNK with
          | false => rw [hc] at hv; cases hv
          | true => rw [hc] at hv; cases hv; exact .int _ _
        · cases hv
    · subst hm; exact (fail_some.1 h).elim
  · rename_i x r; subst hm
    obtain ⟨hv, rfl⟩ := liftO_some.1 h
    obtain ⟨l⟩ := args'
    cases ha with
    | cons h1 h2 =>
    obtain ⟨v', rr, hv'⟩ := sim_foldV (P := P) (w := w) (g := Builtin.min2) (fun a b c => sim_min2 a b c) _ _ _ _ _ hv h1 h2
    exact ⟨β, w, v', by simp only [builtin, Builtin.min_, Sem.run_bind, rr, Result.andThen_ok, Sem.run_pure], hv', Out.same hI rfl⟩
  · rename_i x r; subst hm
    obtain ⟨hv, rfl⟩ := liftO_some.1 h
    obtain ⟨l⟩ := args'
    cases ha with
    | cons h1 h2 =>
    obtain ⟨v', rr, hv'⟩ := sim_foldV (P := P) (w := w) (g := Builtin.max2) (fun a b c => sim_max2 a b c) _ _ _ _ _ hv h1 h2
    exact ⟨β, w, v', by simp only [builtin, Builtin.max_, Sem.run_bind, rr, Result.andThen_ok, Sem.run_pure], hv', Out.same hI rfl⟩
  · obtain ⟨x', y', rfl, hx, hy⟩ := two rfl
    split at hm
    · rename_i t r e; subst hm
      obtain ⟨w', v', r, hv, ho⟩ := sim_copyM (ty := ty) hE hI (hd e) h hx hy
      exact ⟨β, w', v', by simp only [builtin, Sem.run_bind, r, Result.andThen_ok, Sem.run_pure], hv, ho⟩
    · subst hm; exact (fail_some.1 h).elim
  · obtain ⟨x', y', rfl, hx, hy⟩ := two rfl
    split at hm
    · rename_i t r e; subst hm
      obtain ⟨w', v', r, hv, ho⟩ := sim_deleteM hE hI h hx hy ty ts (hd e)
      exact ⟨β, w', v', by simp only [builtin, Sem.run_bind, r, Result.andThen_ok, Sem.run_pure], hv, ho⟩
    · subst hm; exact (fail_some.1 h).elim
  · obtain ⟨x', rfl, hx⟩ := one1 rfl
    split at hm
    · rename_i t r e; subst hm
      obtain ⟨w', v', r, hv, ho⟩ := sim_clearM (ty := ty) hE hI (hd e) h hx
      exact ⟨β, w', v', by simp only [builtin, Sem.run_bind, r, Result.andThen_ok, Sem.run_pure], hv, ho⟩
    · subst hm; exact (fail_some.1 h).elim
  · subst hm; exact (fail_some.1 h).elim

end
end
end Go.Ideal
