/- One operation of a region, calls included, and a region in its own order. -/
import Derived.Test.YtdkofgkmhgmmmaaGreatDoorSimM
import Derived.Orders
namespace Go.Ideal
set_option linter.all false
set_option linter.unusedSimpArgs false
set_option linter.unusedVariables false
noncomputable section
open Go Go.RowKit
set_option maxHeartbeats 1000000

/-- A function that a call enters. -/
def Enters (P : Program) (f : FuncId) : Prop := ∃ fn, P.funcs[f]? = some fn ∧ (fn.name == "runtime.NumGoroutine") = false ∧ fn.body.isNone = false

/-- The blocks of the package variables that may be named. -/
def Globs (E : Env) (β : Bij) : Prop := ∀ g, E.glob g = true → ∃ L, β g = some L ∧ L.r = g ∧ L.sh = 0

def FunOK (P : Program) (N0 : Nat → Prop) (E : Env) (f : FuncId) (g : List Value → M Value) : Prop :=
  ∀ (l : List Value) (s : S) (v : Value) (s' : S) (β : Bij) (w : World) (l' : Array Value), g l s = some (v, s') → Inv N0 β s.h.get w → Fresh β s.nx s'.nx →
    Globs E β → VL β l l'.toList →
    Enters P f ∧ Calls P f l' w fun e w' => ∃ v', e = .returned v' ∧ ∃ β', V β' v v' ∧ Out N0 β s w s' β' w'

def ExtOK (P : Program) (N0 : Nat → Prop) (f : FuncId) (g : List Value → M Value) : Prop :=
  ∀ (l : List Value) (s : S) (v : Value) (s' : S) (β : Bij) (w : World) (l' : Array Value), g l s = some (v, s') → Inv N0 β s.h.get w → Fresh β s.nx s'.nx →
    VL β l l'.toList → ∃ β' w' v', (callFunc f l').run P w = .ok (.value v') w' ∧ V β' v v' ∧ Out N0 β s w s' β' w'

def CallOK (P : Program) (N0 : Nat → Prop) (E : Env) (call : CallM) : Prop := ∀ f, FunOK P N0 E f (call f)

structure LinkOK (P : Program) (N0 : Nat → Prop) (E : Env) : Prop where
  ext : ∀ f g, E.ext f = some g → ExtOK P N0 f g
  intr : ∀ f g, E.intr f = some g → FunOK P N0 E f g
  name : ∀ f fn, E.fn f = some fn → (fn.name == "runtime.NumGoroutine") = false

/-- The temporaries of an activation. -/
structure TS (β : Bij) (n : Nat) (tm : Tr Value) (a : Act) : Prop where
  size : a.tmps.size = n
  defers : a.defers = []
  rel : ∀ i v, tm.get i = some v → ∃ v', a.tmps[i]? = some v' ∧ V β v v'

section
variable {P : Program} {E : Env} {N0 : Nat → Prop} {β : Bij} {w : World} {s s' : S} {n : Nat} {tm tm' : Tr Value} {a : Act} {ops : Array Oper}

theorem Globs.mono {β β' : Bij} (h : Globs E β) (k : ∀ b L, β b = some L → β' b = some L) : Globs E β' := fun g hg =>
  let ⟨L, h1, h2⟩ := h g hg; ⟨L, k _ _ h1, h2⟩

theorem TS.mono {β β' : Bij} (h : TS β n tm a) (k : ∀ b L, β b = some L → β' b = some L) : TS β' n tm a :=
  ⟨h.size, h.defers, fun i v e => let ⟨v', h1, h2⟩ := h.rel i v e; ⟨v', h1, V.mono k h2⟩⟩

theorem TS.eval (h : TS β n tm a) (hg : Globs E β) : ∀ x v, evalI E tm x = some v → V β v (a.eval x) := by
  intro x v e
  cases x with
  | tmp t =>
    obtain ⟨v', h1, h2⟩ := h.rel t v e
    simpa [Act.eval, h1] using h2
  | const c =>
    simp only [evalI] at e
    cases hc : simple c with
    | false => rw [hc] at e; cases e
    | true => rw [hc] at e; cases e; exact V.of_simple hc
  | global g =>
    simp only [evalI] at e
    cases hc : E.glob g with
    | false => rw [hc] at e; cases e
    | true =>
      rw [hc] at e; cases e
      obtain ⟨L, h1, h2, h3⟩ := hg g hc
      have := V.ptr (off := 0) h1
      rw [h2, h3] at this
      exact this
  | func f => cases e; exact .func _ .nil .nil

theorem TS.put (h : TS β n tm a) {dst : Option Tmp} {v v' : Value} (hp : putT n tm dst v = some tm') (hv : V β v v') : TS β n tm' (a.put dst v') := by
  cases dst with
  | none => cases hp; exact h
  | some d =>
    simp only [putT] at hp
    cases hd : Nat.blt d n with
    | false => rw [hd] at hp; cases hp
    | true =>
      rw [hd] at hp; cases hp
      have hd := blt_iff.1 hd
      refine ⟨by simp [Act.put, h.size], h.defers, fun i u hu => ?_⟩
      rw [Tr.get_set] at hu
      split at hu
      · rename_i e; subst e
        cases hu
        exact ⟨v', by simp [Act.put, h.size, hd], hv⟩
      · rename_i e
        obtain ⟨u', h1, h2⟩ := h.rel i u hu
        exact ⟨u', by simp [Act.put, Array.getElem?_setIfInBounds_ne e, h1], h2⟩

theorem TS.wanted (h : TS β n tm a) {o : Oper} {b : Bool} (e : wantedI ops tm o = some b) : Region.wanted o (yielded ops a.tmps) = b := by
  unfold wantedI at e
  unfold Region.wanted
  cases hg : o.guard with
  | none => rw [hg] at e; cases e; rfl
  | some p =>
    obtain ⟨j, want⟩ := p
    rw [hg] at e
    simp only at e ⊢
    cases hd : (ops[j]?).bind (·.dst) with
    | none => rw [hd] at e; cases e
    | some d =>
      rw [hd] at e; simp only at e
      unfold yielded
      rw [hd]
      simp only [Option.bind_some]
      cases ht : tm.get d with
      | none => rw [ht] at e; cases e
      | some v =>
        rw [ht] at e
        obtain ⟨v', h1, h2⟩ := h.rel d v ht
        rw [h1]
        cases h2 <;> (try simp only at e) <;> first | (cases e; done) | skip
        · rename_i t; cases e; simp
        · rename_i c c' hl
          obtain ⟨c⟩ := c
          cases c with
          | cons _ _ => cases e
          | nil => cases e; rfl

theorem callFunc_enter {f : FuncId} (h : Enters P f) (args : Array Value) (w : World) : (callFunc f args).run P w = .ok (.enter f args) w := by
  obtain ⟨fn, h1, h2, h3⟩ := h
  simp only [callFunc, Sem.run_bind, run_program, Result.andThen_ok, h1, h2, h3]
  rfl

theorem sim_stepM (hE : EnvOK P E) (hX : LinkOK P N0 E) {call : CallM} (hc : CallOK P N0 E call) {i : Nat} {o : Oper} (ho : ops[i]? = some o)
    (h : stepM E call n ops o tm s = some (tm', s')) (hI : Inv N0 β s.h.get w) (hf : Fresh β s.nx s'.nx) (hg : Globs E β) (ht : TS β n tm a)
    {K : Act → World → Prop} {Q : Exit → Act → World → Prop}
    (hK : ∀ β' w' a', TS β' n tm' a' → Out N0 β s w s' β' w' → K a' w') : wpOp P ops Q i K a w := by
  unfold stepM at h
  obtain ⟨b, hb, h⟩ := lift_bind h
  have hw := ht.wanted hb
  unfold wpOp
  rw [ho]
  simp only [hw]
  cases b with
  | false =>
    obtain ⟨hp, rfl⟩ := liftO_some.1 h
    exact hK β w _ (ht.put hp (undef_V β)) (Out.same hI rfl)
  | true =>
    obtain ⟨v, s1, h1, h2⟩ := bind_some.1 h
    obtain ⟨hp, rfl⟩ := liftO_some.1 h2
    left
    have hρ := ht.eval hg
    have key : opM E (evalI E tm) o.op s = some (v, s') → o.wp P a w K Q := by
      intro h1
      obtain ⟨β', w', nx, v', r, y, hv, hout⟩ := sim_opM hE hI hρ h1 hf
      unfold Oper.wp
      rw [r]
      have k := hout.ext.keep
      rcases y with rfl | ⟨rfl, rfl⟩
      · exact hK β' w' _ ((ht.mono k).put hp hv) hout
      · exact hK β' w' _ ((ht.mono k).put hp hv) hout
    cases hop : o.op with
    | call c =>
      rw [hop] at h1
      cases hcal : c.callee with
      | value f =>
        unfold operM at h1
        simp only [hcal] at h1
        obtain ⟨fv, hfv, h1⟩ := lift_bind h1
        obtain ⟨args, hargs, h1⟩ := lift_bind h1
        obtain ⟨⟨g, l⟩, htg, h1⟩ := lift_bind h1
        have hvf := hρ f fv hfv
        have hva := evalL_rel hρ hargs
        cases fv <;> try (cases htg; done)
        rename_i fn first cap _
        cases fn <;> try (cases htg; done)
        rename_i g'
        · cases htg
          cases hv' : a.eval f <;> rw [hv'] at hvf <;> cases hvf
          rename_i first' cap' hfirst hcap
          have hvl : VL β (first.toList ++ args ++ cap.toList) ((first' ++ c.args.map a.eval) ++ cap').toList := by
            simp only [Array.toList_append, Array.toList_map]
            exact (hfirst.append hva).append hcap
          have run : ∀ r w', (callFunc g ((first' ++ c.args.map a.eval) ++ cap')).run P w = .ok r w' → (execOp a.eval o).run P w = .ok r w' := by
            intro r w' hr
            unfold execOp
            simp only [hop, resolve, hcal, hv', Deferred.ofValue, invoke, Sem.run_bind, Sem.run_pure, Result.andThen_ok]
            exact hr
          cases hx : E.ext g with
          | some e =>
            simp only [hx] at h1
            obtain ⟨β', w', v', r, hv, hout⟩ := hX.ext g e hx _ _ _ _ _ _ _ h1 hI hf hvl
            unfold Oper.wp
            rw [run _ _ r]
            exact hK β' w' _ ((ht.mono hout.ext.keep).put hp hv) hout
          | none =>
            simp only [hx] at h1
            obtain ⟨hen, hcall⟩ := hc g _ _ _ _ _ _ _ h1 hI hf hg hvl
            unfold Oper.wp
            rw [run _ _ (callFunc_enter hen _ w), Oper.upon_enter]
            refine hcall.mono ?_
            rintro e w' ⟨v', rfl, β', hv, hout⟩
            exact hK β' w' _ ((ht.mono hout.ext.keep).put hp hv) hout
      | builtin b => exact key (by rw [hop]; unfold operM at h1; simpa only [hcal] using h1)
      | invoke r m => exact key (by rw [hop]; unfold operM at h1; simpa only [hcal] using h1)
    | _ => exact key (by rw [hop] at h1 ⊢; simpa only [operM] using h1)

end
end
end Go.Ideal
