/- Two runs of one body, of which some temporaries are the same but for a remainder: the same comes out. -/
import Derived.Test.YtdkofgkmhgmmmaaGreatDoorPost
namespace Go.Ideal
set_option linter.all false
set_option linter.unusedSimpArgs false
set_option linter.unusedVariables false
noncomputable section
open Go Go.RowKit
set_option maxHeartbeats 1000000

/-- How much is known of a temporary: 0: all; else its remainder. -/
def tauOf : List (Nat × Nat) → Nat → Nat
  | [], _ => 0
  | (t, m) :: r, x => cond (Nat.beq t x) m (tauOf r x)

def cleanX (τ : Nat → Nat) : Operand → Bool
  | .tmp t => Nat.beq (τ t) 0
  | _ => true

def cleanD (τ : Nat → Nat) : Option Tmp → Bool
  | some d => Nat.beq (τ d) 0
  | none => true

def cleanG (τ : Nat → Nat) (ops : Array Oper) (o : Oper) : Bool :=
  match o.guard with
  | none => true
  | some (j, _) => match (ops[j]?).bind (·.dst) with
    | some d => Nat.beq (τ d) 0
    | none => true

def special (τ : Nat → Nat) (d : Tmp) : Op → Bool
  | .move (.tmp x) => Nat.beq (τ d) (τ x)
  | .binOp .rem _ (.tmp x) (.const (.int _ (.ofNat m))) _ => Nat.beq (τ d) 0 && Nat.beq (τ x) m
  | _ => false

def specialD (τ : Nat → Nat) (o : Oper) : Bool :=
  match o.dst with
  | some d => special τ d o.op
  | none => false

def taintOp (τ : Nat → Nat) (ops : Array Oper) (o : Oper) : Bool :=
  cleanG τ ops o && ((o.op.operands.toList.all (cleanX τ) && cleanD τ o.dst) || (o.guard.isNone && specialD τ o))

def taintC (τ : Nat → Nat) : Code → Bool
  | .region _ ops _ => ops.toList.all (taintOp τ ops)
  | .seq a b => taintC τ a && taintC τ b
  | .cond c a b => cleanX τ c && taintC τ a && taintC τ b
  | .block _ c | .loop c | .scope c => taintC τ c
  | .skip | .label _ | .exit _ | .ret => true
  | _ => false

/-- Of one value, or of two numbers with one remainder. -/
def RV (m : Nat) (x y : Option Value) : Prop := x = y ∨ (m ≠ 0 ∧ ∃ k a b, x = some (.int k a) ∧ y = some (.int k b) ∧ a.tmod (m : Int) = b.tmod (m : Int))

def RT (τ : Nat → Nat) (tm tm' : Tr Value) : Prop := ∀ t, RV (τ t) (tm.get t) (tm'.get t)

section
variable {E : Env} {call : CallM} {n : Nat} {τ : Nat → Nat} {ops : Array Oper}

theorem RV.clean {x y : Option Value} (h : RV 0 x y) : x = y := by
  rcases h with h | ⟨h, _⟩
  · exact h
  · exact absurd rfl h

theorem RT.eval {tm tm' : Tr Value} (h : RT τ tm tm') {x : Operand} (hx : cleanX τ x = true) : evalI E tm x = evalI E tm' x := by
  cases x with
  | tmp t =>
    have := h t
    rw [Nat.eq_of_beq_eq_true hx] at this
    exact this.clean
  | _ => rfl

theorem RT.wanted {tm tm' : Tr Value} (h : RT τ tm tm') {o : Oper} (hg : cleanG τ ops o = true) : wantedI ops tm o = wantedI ops tm' o := by
  unfold wantedI
  unfold cleanG at hg
  cases ho : o.guard with
  | none => rfl
  | some p =>
    obtain ⟨j, want⟩ := p
    rw [ho] at hg
    simp only at hg ⊢
    cases hd : (ops[j]?).bind (·.dst) with
    | none => rfl
    | some d =>
      rw [hd] at hg
      have := h d
      rw [Nat.eq_of_beq_eq_true hg] at this
      simp only [this.clean]

theorem RT.put {tm tm' : Tr Value} (h : RT τ tm tm') {dst : Option Tmp} {v v' : Value} {t1 : Tr Value} (hp : putT n tm dst v = some t1)
    (hv : ∀ d, dst = some d → RV (τ d) (some v) (some v')) : ∃ t2, putT n tm' dst v' = some t2 ∧ RT τ t1 t2 := by
  cases dst with
  | none => cases hp; exact ⟨tm', rfl, h⟩
  | some d =>
    simp only [putT] at hp ⊢
    cases hd : Nat.blt d n with
    | false => rw [hd] at hp; cases hp
    | true =>
      rw [hd] at hp; cases hp
      refine ⟨_, rfl, fun t => ?_⟩
      rw [Tr.get_set, Tr.get_set]
      by_cases e : d = t
      · subst e; rw [if_pos rfl, if_pos rfl]; exact hv d rfl
      · rw [if_neg e, if_neg e]; exact h t

theorem stepM_taint {tm tm' : Tr Value} (h : RT τ tm tm') {o : Oper} (ho : taintOp τ ops o = true) {s s' : S} {t1 : Tr Value}
    (hs : stepM E call n ops o tm s = some (t1, s')) : ∃ t2, stepM E call n ops o tm' s = some (t2, s') ∧ RT τ t1 t2 := by
  unfold taintOp at ho
  simp only [Bool.and_eq_true, Bool.or_eq_true] at ho
  obtain ⟨hg, ho⟩ := ho
  unfold stepM at hs ⊢
  rw [← h.wanted hg]
  obtain ⟨b, hb, hs⟩ := lift_bind hs
  have bindL : ∀ {α β : Type} {x : Option α} {a : α} {f : α → M β}, x = some a → ((liftO x >>= f) s) = f a s := by
    intro α β x a f e; subst e; rfl
  rw [bindL hb]
  cases b with
  | false =>
    obtain ⟨hp, rfl⟩ := liftO_some.1 hs
    obtain ⟨t2, h2, h3⟩ := h.put hp (v' := undef) fun d _ => .inl rfl
    exact ⟨t2, liftO_some.2 ⟨h2, rfl⟩, h3⟩
  | true =>
    obtain ⟨v, s1, h1, h2⟩ := bind_some.1 hs
    obtain ⟨hp, rfl⟩ := liftO_some.1 h2
    have fin : ∀ v', operM E call (evalI E tm') o.op s = some (v', s') → (∀ d, o.dst = some d → RV (τ d) (some v) (some v')) →
        ∃ t2, (do let v ← operM E call (evalI E tm') o.op; liftO (putT n tm' o.dst v) : M (Tr Value)) s = some (t2, s') ∧ RT τ t1 t2 := by
      intro v' hv' hr
      obtain ⟨t2, h3, h4⟩ := h.put hp hr
      exact ⟨t2, bind_some.2 ⟨v', s', hv', liftO_some.2 ⟨h3, rfl⟩⟩, h4⟩
    rcases ho with ⟨hcl, _⟩ | ho
    · refine fin v ?_ fun d _ => .inl rfl
      rw [operM_congr (ev := evalI E tm') (ev' := evalI E tm)]
      · exact h1
      · intro x hx
        exact (h.eval (List.all_eq_true.1 hcl x (by simpa using hx))).symm
    · obtain ⟨_, ho⟩ := ho
      obtain ⟨d, hd, ho⟩ : ∃ d, o.dst = some d ∧ special τ d o.op = true := by
        unfold specialD at ho
        split at ho
        · rename_i d hd; exact ⟨d, hd, ho⟩
        · cases ho
      have two : (∃ x, o.op = .move (.tmp x) ∧ Nat.beq (τ d) (τ x) = true) ∨
          (∃ ty x k m yt, o.op = .binOp .rem ty (.tmp x) (.const (.int k (.ofNat m))) yt ∧ Nat.beq (τ d) 0 = true ∧ Nat.beq (τ x) m = true) := by
        unfold special at ho
        split at ho
        · rename_i x e; exact .inl ⟨x, e, ho⟩
        · rename_i ty x k m yt e
          simp only [Bool.and_eq_true] at ho
          exact .inr ⟨ty, x, k, m, yt, e, ho.1, ho.2⟩
        · cases ho
      rcases two with ⟨t, hop, hτ⟩ | ⟨ty, t, k, m, yt, hop, h0, hm⟩
      · have hτ := Nat.eq_of_beq_eq_true hτ
        have hv : tm.get t = some v ∧ s' = s := by
          rw [hop] at h1
          exact liftO_some.1 h1
        obtain ⟨hv, rfl⟩ := hv
        have hr := h t
        rw [hv] at hr
        obtain ⟨v', hv'⟩ : ∃ v', tm'.get t = some v' := by
          rcases hr with e | ⟨_, k, a, b, _, e, _⟩
          · exact ⟨v, e.symm⟩
          · exact ⟨_, e⟩
        rw [hv'] at hr
        refine fin v' ?_ fun d' hd' => ?_
        · rw [hop]; exact liftO_some.2 ⟨hv', rfl⟩
        · rw [hd] at hd'; cases hd'
          rw [hτ]; exact hr
      · have h0 := Nat.eq_of_beq_eq_true h0
        have hm := Nat.eq_of_beq_eq_true hm
        refine fin v ?_ fun d' hd' => by rw [hd] at hd'; cases hd'; exact .inl rfl
        rw [hop] at h1 ⊢
        have h1 : opM E (evalI E tm) (.binOp .rem ty (.tmp t) (.const (.int k (.ofNat m))) yt) s = some (v, s') := h1
        show opM E (evalI E tm') (.binOp .rem ty (.tmp t) (.const (.int k (.ofNat m))) yt) s = some (v, s')
        have hr := h t
        rw [hm] at hr
        simp only [opM, o1, o2, o3, oP, oL, oO, oS, oPick, oFn, oCall, lO1, lO2] at h1 ⊢
        obtain ⟨a, ha, h1⟩ := lift_bind h1
        obtain ⟨c, hc, h1⟩ := lift_bind h1
        have ha : tm.get t = some a := ha
        rw [ha] at hr
        cases hc
        rcases hr with e | ⟨hne, k', a', b', e1, e2, e3⟩
        · exact bind_some.2 ⟨a, s, liftO_some.2 ⟨e.symm, rfl⟩, bind_some.2 ⟨_, s, liftO_some.2 ⟨rfl, rfl⟩, h1⟩⟩
        · cases e1
          refine bind_some.2 ⟨_, s, liftO_some.2 ⟨e2, rfl⟩, bind_some.2 ⟨_, s, liftO_some.2 ⟨rfl, rfl⟩, ?_⟩⟩
          rw [← h1]
          simp only [binM, intOp, Int.ofNat_eq_natCast]
          rw [← e3]
          rfl

theorem runOps_taint : ∀ (l : List Oper) {tm tm' : Tr Value} {s s' : S} {t1 : Tr Value}, RT τ tm tm' → l.all (taintOp τ ops) = true →
    runOps E call n ops l tm s = some (t1, s') → ∃ t2, runOps E call n ops l tm' s = some (t2, s') ∧ RT τ t1 t2
  | [], tm, tm', s, s', t1, h, _, hs => by
    obtain ⟨rfl, rfl⟩ := pure_some.1 hs
    exact ⟨tm', rfl, h⟩
  | o :: r, tm, tm', s, s', t1, h, hl, hs => by
    simp only [List.all_cons, Bool.and_eq_true] at hl
    obtain ⟨tm1, s1, h1, h2⟩ := bind_some.1 hs
    obtain ⟨tm2, h3, h4⟩ := stepM_taint h hl.1 h1
    obtain ⟨t2, h5, h6⟩ := runOps_taint r h4 hl.2 h2
    exact ⟨t2, bind_some.2 ⟨tm2, s1, h3, h5⟩, h6⟩

theorem runDraw_taint : ∀ (l : List Oper) {i : Nat} {seen : Seen} {tm tm' : Tr Value} {s s' : S} {t1 : Tr Value}, RT τ tm tm' → l.all (taintOp τ ops) = true →
    runDraw E call n ops l i seen tm s = some (t1, s') → ∃ t2, runDraw E call n ops l i seen tm' s = some (t2, s') ∧ RT τ t1 t2
  | [], i, seen, tm, tm', s, s', t1, h, _, hs => by
    obtain ⟨rfl, rfl⟩ := pure_some.1 hs
    exact ⟨tm', rfl, h⟩
  | o :: r, i, seen, tm, tm', s, s', t1, h, hl, hs => by
    simp only [List.all_cons, Bool.and_eq_true] at hl
    rw [runDraw_cons] at hs
    obtain ⟨⟨tm1, r1, w1⟩, s1, h1, h2⟩ := bind_some.1 hs
    obtain ⟨_, s2, h3, h4⟩ := bind_some.1 h2
    have hst : ∃ tm2, iso (stepM E call n ops o tm') s = some ((tm2, r1, w1), s1) ∧ RT τ tm1 tm2 := by
      unfold iso at h1 ⊢
      cases hm : stepM E call n ops o tm ⟨s.h, s.nx, 0, 0⟩ with
      | none => rw [hm] at h1; cases h1
      | some q =>
        obtain ⟨q, s3⟩ := q
        rw [hm] at h1; cases h1
        obtain ⟨tm2, e1, e2⟩ := stepM_taint h hl.1 hm
        exact ⟨tm2, by rw [e1], e2⟩
    obtain ⟨tm2, e1, e2⟩ := hst
    obtain ⟨t2, h5, h6⟩ := runDraw_taint r e2 hl.2 h4
    refine ⟨t2, ?_, h6⟩
    rw [runDraw_cons]
    exact bind_some.2 ⟨_, s1, e1, bind_some.2 ⟨_, s2, h3, h5⟩⟩

theorem exec_taint : ∀ (k : Nat) {c : Code} {tm tm' : Tr Value} {s s' : S} {e : Ex} {t1 : Tr Value}, RT τ tm tm' → taintC τ c = true →
    exec E call n k c tm s = some ((e, t1), s') → ∃ t2, exec E call n k c tm' s = some ((e, t2), s') ∧ RT τ t1 t2 := by
  intro k
  induction k with
  | zero => intro c tm tm' s s' e t1 _ _ h; exact (fail_some.1 (show (fail : M (Ex × Tr Value)) s = some ((e, t1), s') from h)).elim
  | succ k ih =>
    intro c tm tm' s s' e t1 h hc hs
    rw [exec_succ] at hs ⊢
    cases c <;> simp only [execF, xRegion, xSeq, xCond, xBlock, xLoop] at hs ⊢ <;> simp only [taintC] at hc <;> try (cases hc; done)
    case skip => obtain ⟨e1, rfl⟩ := pure_some.1 hs; cases e1; exact ⟨tm', rfl, h⟩
    case label l => obtain ⟨e1, rfl⟩ := pure_some.1 hs; cases e1; exact ⟨tm', rfl, h⟩
    case exit id => obtain ⟨e1, rfl⟩ := pure_some.1 hs; cases e1; exact ⟨tm', rfl, h⟩
    case ret => obtain ⟨e1, rfl⟩ := pure_some.1 hs; cases e1; exact ⟨tm', rfl, h⟩
    case region id ops d =>
      obtain ⟨tm1, s1, h1, h2⟩ := bind_some.1 hs
      obtain ⟨e1, rfl⟩ := pure_some.1 h2; cases e1
      have : ∃ t2, runRegion E call n ops d tm' s = some (t2, s') ∧ RT τ t1 t2 := by
        unfold runRegion at h1 ⊢
        cases d with
        | false => exact runOps_taint _ h hc h1
        | true =>
          obtain ⟨u, s2, h3, h4⟩ := bind_some.1 h1
          obtain ⟨t2, h5, h6⟩ := runDraw_taint _ h hc h4
          exact ⟨t2, bind_some.2 ⟨u, s2, h3, h5⟩, h6⟩
      obtain ⟨t2, h3, h4⟩ := this
      exact ⟨t2, bind_some.2 ⟨t2, s', h3, pure_some.2 ⟨rfl, rfl⟩⟩, h4⟩
    case seq a b =>
      simp only [Bool.and_eq_true] at hc
      obtain ⟨⟨e1, tm1⟩, s1, h1, h2⟩ := bind_some.1 hs
      obtain ⟨tm2, h3, h4⟩ := ih h hc.1 h1
      cases e1 with
      | normal =>
        simp only at h2
        obtain ⟨t2, h5, h6⟩ := ih h4 hc.2 h2
        exact ⟨t2, bind_some.2 ⟨_, s1, h3, h5⟩, h6⟩
      | exit i =>
        obtain ⟨e1, rfl⟩ := pure_some.1 h2; cases e1
        exact ⟨tm2, bind_some.2 ⟨_, s', h3, pure_some.2 ⟨rfl, rfl⟩⟩, h4⟩
      | ret =>
        obtain ⟨e1, rfl⟩ := pure_some.1 h2; cases e1
        exact ⟨tm2, bind_some.2 ⟨_, s', h3, pure_some.2 ⟨rfl, rfl⟩⟩, h4⟩
    case cond c a b =>
      simp only [Bool.and_eq_true] at hc
      obtain ⟨q, hq, hs⟩ := lift_bind hs
      rw [h.eval hc.1.1] at hq
      cases q <;> simp only at hs <;> try (exact (fail_some.1 hs).elim)
      rename_i t
      cases t with
      | true => obtain ⟨t2, h5, h6⟩ := ih h hc.1.2 hs; exact ⟨t2, bind_some.2 ⟨_, s, liftO_some.2 ⟨hq, rfl⟩, h5⟩, h6⟩
      | false => obtain ⟨t2, h5, h6⟩ := ih h hc.2 hs; exact ⟨t2, bind_some.2 ⟨_, s, liftO_some.2 ⟨hq, rfl⟩, h5⟩, h6⟩
    case block id x =>
      obtain ⟨⟨e1, tm1⟩, s1, h1, h2⟩ := bind_some.1 hs
      obtain ⟨tm2, h3, h4⟩ := ih h hc h1
      cases e1 with
      | normal =>
        obtain ⟨e1, rfl⟩ := pure_some.1 h2; cases e1
        exact ⟨tm2, bind_some.2 ⟨_, s', h3, pure_some.2 ⟨rfl, rfl⟩⟩, h4⟩
      | ret =>
        obtain ⟨e1, rfl⟩ := pure_some.1 h2; cases e1
        exact ⟨tm2, bind_some.2 ⟨_, s', h3, pure_some.2 ⟨rfl, rfl⟩⟩, h4⟩
      | exit i =>
        simp only at h2
        cases hb : Nat.beq i id with
        | true =>
          rw [hb] at h2
          obtain ⟨e1, rfl⟩ := pure_some.1 h2; cases e1
          refine ⟨tm2, bind_some.2 ⟨_, s', h3, ?_⟩, h4⟩
          simp only [hb]; rfl
        | false =>
          rw [hb] at h2
          obtain ⟨e1, rfl⟩ := pure_some.1 h2; cases e1
          refine ⟨tm2, bind_some.2 ⟨_, s', h3, ?_⟩, h4⟩
          simp only [hb]; rfl
    case loop x =>
      obtain ⟨⟨e1, tm1⟩, s1, h1, h2⟩ := bind_some.1 hs
      obtain ⟨tm2, h3, h4⟩ := ih h hc h1
      cases e1 with
      | normal =>
        simp only at h2
        obtain ⟨t2, h5, h6⟩ := ih (c := .loop x) h4 (by simpa only [taintC] using hc) h2
        exact ⟨t2, bind_some.2 ⟨_, s1, h3, h5⟩, h6⟩
      | exit i =>
        obtain ⟨e1, rfl⟩ := pure_some.1 h2; cases e1
        exact ⟨tm2, bind_some.2 ⟨_, s', h3, pure_some.2 ⟨rfl, rfl⟩⟩, h4⟩
      | ret =>
        obtain ⟨e1, rfl⟩ := pure_some.1 h2; cases e1
        exact ⟨tm2, bind_some.2 ⟨_, s', h3, pure_some.2 ⟨rfl, rfl⟩⟩, h4⟩
    case scope x =>
      exact ih h hc hs

end
end
end Go.Ideal
