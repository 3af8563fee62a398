/- Calls: what the ideal machine's call hands back, the model's call hands back. -/
import Derived.Test.YtdkofgkmhgmmmaaGreatDoorSimQ
namespace Go.Ideal
set_option linter.all false
set_option linter.unusedSimpArgs false
set_option linter.unusedVariables false
noncomputable section
open Go Go.RowKit
set_option maxHeartbeats 1000000

section
variable {P : Program} {E : Env} {N0 : Nat → Prop} {n : Nat}

theorem argsT_get : ∀ (l : List Value) (i : Nat) (t : Tr Value) (j : Nat), (argsT l i t).get j = if i ≤ j ∧ j < i + l.length then l[j - i]? else t.get j
  | [], i, t, j => by
    have : ¬ (i ≤ j ∧ j < i + ([] : List Value).length) := by simp
    rw [if_neg this]; rfl
  | v :: r, i, t, j => by
    unfold argsT
    rw [argsT_get r (i + 1) _ j, Tr.get_set]
    by_cases e : i = j
    · subst e
      have h1 : ¬ (i + 1 ≤ i ∧ i < i + 1 + r.length) := by omega
      have h2 : i ≤ i ∧ i < i + (v :: r).length := by simp
      rw [if_neg h1, if_pos rfl, if_pos h2]; simp
    · rw [if_neg e]
      by_cases h1 : i + 1 ≤ j ∧ j < i + 1 + r.length
      · have h2 : i ≤ j ∧ j < i + (v :: r).length := by simp; omega
        rw [if_pos h1, if_pos h2]
        have : j - i = (j - (i + 1)) + 1 := by omega
        rw [this]; rfl
      · have h2 : ¬ (i ≤ j ∧ j < i + (v :: r).length) := by simp; omega
        rw [if_neg h1, if_neg h2]

theorem sim_loadVarM (hE : EnvOK P E) {β : Bij} {s s' : S} {w : World} (hI : Inv N0 β s.h.get w) {t : TypeId} {a a' v : Value} (h : loadM E t a s = some (v, s')) (ha : V β a a') :
    ∃ v', (do loadVar t (← asAddr a') : Sem Value).run P w = .ok v' w ∧ V β v v' ∧ s'.h = s.h ∧ s'.nx = s.nx := by
  obtain ⟨v', r, hv, e1, e2⟩ := sim_loadM hE hI h ha
  refine ⟨v', ?_, hv, e1, e2⟩
  cases hi : E.ti t with
  | none => simp only [loadM, hi] at h; exact (fail_some.1 h).elim
  | some i =>
  cases ha with
  | ptr hL => simpa only [Instr.loadAt, Sem.run_bind, Instr.sureAddr, asAddr, Sem.run_pure, Result.andThen_ok] using r
  | _ => simp only [loadM, hi] at h; exact (fail_some.1 h).elim

/-- What a result variable holds. -/
def resF (tmps : Array Value) : ResultVar → Sem Value
  | .tmp t => pure (tmps.getD t undef)
  | .cell a t => do loadVar t (← asAddr (tmps.getD a undef))

theorem sim_results (hE : EnvOK P E) {β : Bij} {w : World} {tm : Tr Value} {a : Act} (ht : TS β n tm a) : ∀ (l : List ResultVar) (s : S) (vs : List Value) (s' : S),
    resultsM E tm l s = some (vs, s') → Inv N0 β s.h.get w → ∃ vs', (l.mapM (resF a.tmps)).run P w = .ok vs' w ∧ VL β vs vs' ∧ s'.h = s.h ∧ s'.nx = s.nx
  | [], s, vs, s', h, hI => by
    obtain ⟨rfl, rfl⟩ := pure_some.1 h
    exact ⟨[], by simp, .nil, rfl, rfl⟩
  | .tmp t :: r, s, vs, s', h, hI => by
    unfold resultsM at h
    obtain ⟨v, hv, h⟩ := lift_bind h
    obtain ⟨vs1, s1, h1, h2⟩ := bind_some.1 h
    obtain ⟨rfl, rfl⟩ := pure_some.1 h2
    obtain ⟨vs', r', hvl, e1, e2⟩ := sim_results hE ht r s vs1 s' h1 hI
    obtain ⟨v', h3, h4⟩ := ht.rel t v hv
    refine ⟨v' :: vs', ?_, .cons h4 hvl, e1, e2⟩
    simp only [List.mapM_cons, Sem.run_bind, resF, Sem.run_pure, Result.andThen_ok, r', Array.getD_eq_getD_getElem?, h3, Option.getD_some]
  | .cell x t :: r, s, vs, s', h, hI => by
    unfold resultsM at h
    obtain ⟨p, hp, h⟩ := lift_bind h
    obtain ⟨v, s1, h1, h⟩ := bind_some.1 h
    obtain ⟨vs1, s2, h2, h3⟩ := bind_some.1 h
    obtain ⟨rfl, rfl⟩ := pure_some.1 h3
    obtain ⟨p', h4, h5⟩ := ht.rel x p hp
    obtain ⟨v', r1, hv, e1, e2⟩ := sim_loadVarM hE hI h1 h5
    have hI1 : Inv N0 β s1.h.get w := by rw [e1]; exact hI
    obtain ⟨vs', r', hvl, e3, e4⟩ := sim_results hE ht r s1 vs1 s' h2 hI1
    refine ⟨v' :: vs', ?_, .cons hv hvl, by rw [e3, e1], by rw [e4, e2]⟩
    rw [List.mapM_cons, Sem.run_bind]
    have : (resF a.tmps (.cell x t)).run P w = .ok v' w := by
      have e : a.tmps.getD x undef = p' := by rw [Array.getD_eq_getD_getElem?, h4]; rfl
      show (do loadVar t (← asAddr (a.tmps.getD x undef)) : Sem Value).run P w = .ok v' w
      rw [e]
      exact r1
    rw [this]
    simp only [Result.andThen_ok, Sem.run_bind, r', Sem.run_pure]

theorem run_results {fn : Func} {tmps : Array Value} {w : World} {vs' : List Value} (h : (fn.results.toList.mapM (resF tmps)).run P w = .ok vs' w) :
    (results fn tmps).run P w = .ok (oneOf vs') w := by
  have e : results fn tmps = (do let vs ← fn.results.mapM (resF tmps); pure (if h : vs.size = 1 then vs[0] else .tuple vs)) := by
    unfold results
    congr 1
  rw [e, Array.mapM_eq_mapM_toList, map_eq_pure_bind]
  simp only [Sem.run_bind, h, Result.andThen_ok, Sem.run_pure]
  match vs' with
  | [] => rfl
  | [v] => rfl
  | v :: u :: r => 
    have : ¬ ((v :: u :: r).toArray.size = 1) := by simp
    rw [dif_neg this]; rfl

theorem VL.oneOf {β : Bij} {l l' : List Value} (h : VL β l l') : V β (oneOf l) (oneOf l') := by
  cases h with
  | nil => exact .tuple .nil
  | cons h1 h2 => cases h2 with
    | nil => exact h1
    | cons h2 h3 => exact .tuple (.cons h1 (.cons h2 h3))

theorem sim_call (hE : EnvOK P E) (hX : LinkOK P N0 E) (hR : EnvResp E) : ∀ k, CallOK P N0 E (callM E k) := by
  intro k
  induction k with
  | zero => intro f l s v s' β w l' h; exact (fail_some.1 h).elim
  | succ k ih =>
    intro f l s v s' β w l' h hI hf hg hl
    have hr := resp_callM hR k
    unfold callM at h
    cases hi : E.intr f with
    | some g =>
      rw [hi] at h
      exact hX.intr f g hi l s v s' β w l' h hI hf hg hl
    | none =>
      rw [hi] at h; simp only at h
      cases hfn : E.fn f with
      | none => rw [hfn] at h; exact (fail_some.1 h).elim
      | some fn =>
        rw [hfn] at h; simp only at h
        cases hb : fn.body with
        | none => rw [hb] at h; exact (fail_some.1 h).elim
        | some c =>
          rw [hb] at h; simp only at h
          refine ⟨⟨fn, hE.fn f fn hfn, hX.name f fn hfn, by rw [hb]; rfl⟩, ?_⟩
          obtain ⟨_, s0, h0, h'⟩ := bind_some.1 h
          obtain ⟨hle, rfl⟩ := guardM_some.1 h0
          obtain ⟨⟨e, tm⟩, s1, h1, h2⟩ := bind_some.1 h'
          have hll : l.length = l'.size := by rw [VL.length hl, Array.length_toList]
          have hle := ble_iff.1 hle
          have hts : TS β fn.ntmps (argsT l 0 .nil) { tmps := l' ++ Array.replicate (fn.ntmps - l'.size) undef, defers := [] } := by
            refine ⟨by simp; omega, rfl, fun i u hu => ?_⟩
            rw [argsT_get] at hu
            by_cases hc : 0 ≤ i ∧ i < 0 + l.length
            · rw [if_pos hc, Nat.sub_zero] at hu
              obtain ⟨u', h3, h4⟩ := VL.get hl hu
              refine ⟨u', ?_, h4⟩
              rw [Array.getElem?_append_left (by omega)]
              rw [Array.getElem?_toList] at h3
              exact h3
            · rw [if_neg hc] at hu; cases hu
          have n1 := Resp.mono_nx (resp_exec hR hr fn.ntmps E.fuel c _) h1
          have key : ∀ vs, resultsM E tm fn.results.toList s1 = some (vs, s') → v = oneOf vs → (match e with | .exit _ => False | _ => True) →
              Calls P f l' w fun e w' => ∃ v', e = .returned v' ∧ ∃ β', V β' v v' ∧ Out N0 β s0 w s' β' w' := by
            intro vs hvs hv he
            have n2 := Resp.mono_nx (resp_resultsM (E := E) tm fn.results.toList) hvs
            refine calls_of_wp (hE.fn f fn hfn) hb ?_
            refine wp_mono (sim_exec hE hX hR ih hr E.fuel c _ s0 e tm s1 β w _ h1 hI (hf.left n2) hg hts).1 ?_
            rintro ex a1 w1 ⟨hx, β1, ht1, ho1⟩
            obtain ⟨vs', r, hvl, e1, e2⟩ := sim_results hE ht1 fn.results.toList s1 vs s' hvs ho1.inv
            have fin : ∃ v', (results fn a1.tmps).run P w1 = .ok v' w1 ∧ ∃ v'', Ending.returned v' = .returned v'' ∧ ∃ β', V β' v v'' ∧ Out N0 β s0 w s' β' w1 := by
              refine ⟨oneOf vs', run_results r, _, rfl, β1, by rw [hv]; exact hvl.oneOf, ?_⟩
              exact ho1.trans (Out.same ho1.inv e1) n1 n2
            cases e with
            | exit i => exact he.elim
            | normal => cases ex <;> simp only [ExR] at hx; exact ⟨ht1.defers, fin⟩
            | ret => cases ex <;> simp only [ExR] at hx; exact ⟨ht1.defers, fin⟩
          cases e with
          | exit i => exact (fail_some.1 h2).elim
          | normal =>
            obtain ⟨vs, s2, h3, h4⟩ := bind_some.1 h2
            obtain ⟨rfl, rfl⟩ := pure_some.1 h4
            exact key vs h3 rfl trivial
          | ret =>
            obtain ⟨vs, s2, h3, h4⟩ := bind_some.1 h2
            obtain ⟨rfl, rfl⟩ := pure_some.1 h4
            exact key vs h3 rfl trivial

end
end
end Go.Ideal
