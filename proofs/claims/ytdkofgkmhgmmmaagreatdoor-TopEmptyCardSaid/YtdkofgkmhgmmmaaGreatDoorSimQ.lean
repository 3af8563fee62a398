/- Code, and calls. -/
import Derived.Test.YtdkofgkmhgmmmaaGreatDoorSimP
import Derived.Scope
namespace Go.Ideal
set_option linter.all false
set_option linter.unusedSimpArgs false
set_option linter.unusedVariables false
noncomputable section
open Go Go.RowKit
set_option maxHeartbeats 1000000

/-- Code of a loop, behind its head. -/
def LoopWp (P : Program) (c : Code) (Q : Exit → Act → World → Prop) (a : Act) (w : World) : Prop :=
  ∀ (b : Frame) (k : List Item) (cs : List Frame), ∃ e a' w', Q e a' w' ∧ Arrives P (lone (b.at a (.code c :: .inLoop c :: k)) cs w) b k cs e a' w'

section
variable {P : Program} {E : Env} {N0 : Nat → Prop} {n : Nat} {call : CallM}

theorem LoopWp.wp {c : Code} {Q : Exit → Act → World → Prop} {a : Act} {w : World} (h : LoopWp P c Q a w) : (Code.loop c).wp P Q a w :=
  fun b k cs => let ⟨e, a', w', hq, harr⟩ := h b k cs; ⟨e, a', w', hq, .of_steps (.one step_loop) harr⟩

theorem LoopWp.round {c : Code} {Q : Exit → Act → World → Prop} {a : Act} {w : World} (h : c.wp P (Exit.then (LoopWp P c Q) Q) a w) : LoopWp P c Q a w := by
  intro b k cs
  obtain ⟨e, a₁, w₁, hq, harr⟩ := h b (.inLoop c :: k) cs
  cases e with
  | normal =>
    obtain ⟨e₂, a₂, w₂, hq₂, harr₂⟩ := hq b k cs
    exact ⟨e₂, a₂, w₂, hq₂, .of_steps (Steps.trans harr (.one step_inLoop)) harr₂⟩
  | exit id => exact ⟨_, a₁, w₁, hq, .pass (x := .inLoop c) rfl (fun _ _ => .inl (by simp)) harr⟩
  | goto l => exact ⟨_, a₁, w₁, hq, .pass (x := .inLoop c) rfl (fun _ _ => .inl (by simp)) harr⟩
  | ret => exact ⟨_, a₁, w₁, hq, .pass (x := .inLoop c) rfl (fun _ _ => .inl (by simp)) harr⟩
  | panic ch => exact ⟨_, a₁, w₁, hq, .pass (x := .inLoop c) rfl (fun _ _ => .inl (by simp)) harr⟩
  | outgrown => exact ⟨_, a₁, w₁, hq, .pass (x := .inLoop c) rfl (fun _ _ => .inl (by simp)) harr⟩

def ExR : Exit → Ex → Prop
  | .normal, .normal => True
  | .exit i, .exit j => i = j
  | .ret, .ret => True
  | _, _ => False

/-- Where a piece of code comes to. -/
def Post (N0 : Nat → Prop) (n : Nat) (β : Bij) (s : S) (w : World) (e : Ex) (tm' : Tr Value) (s' : S) : Exit → Act → World → Prop :=
  fun ex a' w' => ExR ex e ∧ ∃ β', TS β' n tm' a' ∧ Out N0 β s w s' β' w'

theorem sim_exec (hE : EnvOK P E) (hX : LinkOK P N0 E) (hR : EnvResp E) (hc : CallOK P N0 E call) (hr : ∀ f l, Resp (call f l)) :
    ∀ (k : Nat) (c : Code) (tm : Tr Value) (s : S) (e : Ex) (tm' : Tr Value) (s' : S) (β : Bij) (w : World) (a : Act),
      exec E call n k c tm s = some ((e, tm'), s') → Inv N0 β s.h.get w → Fresh β s.nx s'.nx → Globs E β → TS β n tm a →
      c.wp P (Post N0 n β s w e tm' s') a w ∧ ∀ c', c = .loop c' → LoopWp P c' (Post N0 n β s w e tm' s') a w := by
  intro k
  induction k with
  | zero => intro c tm s e tm' s' β w a h; exact (fail_some.1 (show (fail : M (Ex × Tr Value)) s = some ((e, tm'), s') from h)).elim
  | succ k ih =>
    intro c tm s e tm' s' β w a h hI hf hg ht
    have me : Post N0 n β s w e tm' s' = Post N0 n β s w e tm' s' := rfl
    -- a piece, and what comes behind it
    have chain : ∀ {e1 : Ex} {tm1 : Tr Value} {s1 : S} {c1 : Code}, exec E call n k c1 tm s = some ((e1, tm1), s1) → s1.nx ≤ s'.nx →
        ∀ {Q : Exit → Act → World → Prop}, (∀ ex β1 w1 a1, ExR ex e1 → TS β1 n tm1 a1 → Out N0 β s w s1 β1 w1 → Fresh β1 s1.nx s'.nx → Globs E β1 → Q ex a1 w1) → c1.wp P Q a w := by
      intro e1 tm1 s1 c1 h1 hn Q hq
      have n1 := Resp.mono_nx (resp_exec hR hr n k c1 tm) h1
      refine wp_mono (ih c1 tm s e1 tm1 s1 β w a h1 hI (hf.left hn) hg ht).1 ?_
      rintro ex a1 w1 ⟨hx, β1, ht1, ho1⟩
      exact hq ex β1 w1 a1 hx ht1 ho1 (hf.right ho1 n1) (hg.mono ho1.ext.keep)
    rw [exec_succ] at h
    cases c <;> simp only [execF, xRegion, xSeq, xCond, xBlock, xLoop] at h <;> first | exact (fail_some.1 h).elim | skip
    case skip =>
      obtain ⟨e1, rfl⟩ := pure_some.1 h; cases e1
      exact ⟨wp_skip ⟨trivial, β, ht, Out.same hI rfl⟩, fun c' e => by cases e⟩
    case label l =>
      obtain ⟨e1, rfl⟩ := pure_some.1 h; cases e1
      exact ⟨wp_label ⟨trivial, β, ht, Out.same hI rfl⟩, fun c' e => by cases e⟩
    case exit id =>
      obtain ⟨e1, rfl⟩ := pure_some.1 h; cases e1
      exact ⟨wp_exit ⟨rfl, β, ht, Out.same hI rfl⟩, fun c' e => by cases e⟩
    case ret =>
      obtain ⟨e1, rfl⟩ := pure_some.1 h; cases e1
      exact ⟨wp_ret ⟨trivial, β, ht, Out.same hI rfl⟩, fun c' e => by cases e⟩
    case region id ops d =>
      obtain ⟨tm1, s1, h1, h2⟩ := bind_some.1 h
      obtain ⟨e1, rfl⟩ := pure_some.1 h2; cases e1
      exact ⟨sim_region hE hX hR hc hr h1 hI hf hg ht fun β' w' a' ht' ho' => ⟨trivial, β', ht', ho'⟩, fun c' e => by cases e⟩
    case seq x y =>
      refine ⟨wp_seq ?_, fun c' e => by cases e⟩
      obtain ⟨⟨e1, tm1⟩, s1, h1, h2⟩ := bind_some.1 h
      have n1 := Resp.mono_nx (resp_exec hR hr n k x tm) h1
      cases e1 with
      | normal =>
        simp only at h2
        have n2 := Resp.mono_nx (resp_exec hR hr n k y tm1) h2
        refine chain h1 n2 ?_
        intro ex β1 w1 a1 hx ht1 ho1 hf1 hg1
        cases ex <;> simp only [ExR] at hx
        show y.wp P _ a1 w1
        refine wp_mono (ih y tm1 s1 e tm' s' β1 w1 a1 h2 ho1.inv hf1 hg1 ht1).1 ?_
        rintro ex a2 w2 ⟨hx2, β2, ht2, ho2⟩
        exact ⟨hx2, β2, ht2, ho1.trans ho2 n1 n2⟩
      | exit i =>
        obtain ⟨e1, rfl⟩ := pure_some.1 h2; cases e1
        refine chain h1 (Nat.le_refl _) ?_
        intro ex β1 w1 a1 hx ht1 ho1 hf1 hg1
        cases ex <;> simp only [ExR] at hx
        exact ⟨hx, β1, ht1, ho1⟩
      | ret =>
        obtain ⟨e1, rfl⟩ := pure_some.1 h2; cases e1
        refine chain h1 (Nat.le_refl _) ?_
        intro ex β1 w1 a1 hx ht1 ho1 hf1 hg1
        cases ex <;> simp only [ExR] at hx
        exact ⟨trivial, β1, ht1, ho1⟩
    case cond c x y =>
      refine ⟨?_, fun c' e => by cases e⟩
      obtain ⟨q, hq, h⟩ := lift_bind h
      have hv := ht.eval hg c q hq
      cases q <;> simp only at h <;> first | exact (fail_some.1 h).elim | skip
      rename_i t
      generalize hr' : a.eval c = q' at hv
      cases hv
      refine wp_cond hr' ?_
      cases t with
      | true => exact (ih x tm s e tm' s' β w a h hI hf hg ht).1
      | false => exact (ih y tm s e tm' s' β w a h hI hf hg ht).1
    case block id x =>
      refine ⟨wp_block ?_, fun c' e => by cases e⟩
      obtain ⟨⟨e1, tm1⟩, s1, h1, h2⟩ := bind_some.1 h
      cases e1 with
      | normal =>
        obtain ⟨e1, rfl⟩ := pure_some.1 h2; cases e1
        refine chain h1 (Nat.le_refl _) ?_
        intro ex β1 w1 a1 hx ht1 ho1 hf1 hg1
        cases ex <;> simp only [ExR] at hx
        exact ⟨trivial, β1, ht1, ho1⟩
      | ret =>
        obtain ⟨e1, rfl⟩ := pure_some.1 h2; cases e1
        refine chain h1 (Nat.le_refl _) ?_
        intro ex β1 w1 a1 hx ht1 ho1 hf1 hg1
        cases ex <;> simp only [ExR] at hx
        exact ⟨trivial, β1, ht1, ho1⟩
      | exit i =>
        simp only at h2
        cases hb : Nat.beq i id with
        | true =>
          rw [hb] at h2
          obtain ⟨e1, rfl⟩ := pure_some.1 h2; cases e1
          have hb := Nat.eq_of_beq_eq_true hb
          refine chain h1 (Nat.le_refl _) ?_
          intro ex β1 w1 a1 hx ht1 ho1 hf1 hg1
          cases ex <;> simp only [ExR] at hx
          simp only [Exit.inBlock, hx, hb, if_true]
          exact ⟨trivial, β1, ht1, ho1⟩
        | false =>
          rw [hb] at h2
          obtain ⟨e1, rfl⟩ := pure_some.1 h2; cases e1
          have hb : ¬ i = id := by intro e; subst e; rw [Nat.beq_refl] at hb; cases hb
          refine chain h1 (Nat.le_refl _) ?_
          intro ex β1 w1 a1 hx ht1 ho1 hf1 hg1
          cases ex <;> simp only [ExR] at hx
          simp only [Exit.inBlock, hx, hb, if_false]
          exact ⟨rfl, β1, ht1, ho1⟩
    case loop x =>
      have key : LoopWp P x (Post N0 n β s w e tm' s') a w := by
        refine LoopWp.round ?_
        obtain ⟨⟨e1, tm1⟩, s1, h1, h2⟩ := bind_some.1 h
        have n1 := Resp.mono_nx (resp_exec hR hr n k x tm) h1
        cases e1 with
        | normal =>
          simp only at h2
          have n2 := Resp.mono_nx (resp_exec hR hr n k (.loop x) tm1) h2
          refine chain h1 n2 ?_
          intro ex β1 w1 a1 hx ht1 ho1 hf1 hg1
          cases ex <;> simp only [ExR] at hx
          intro b kk cs
          obtain ⟨ex, a2, w2, ⟨hx2, β2, ht2, ho2⟩, harr⟩ := (ih (.loop x) tm1 s1 e tm' s' β1 w1 a1 h2 ho1.inv hf1 hg1 ht1).2 x rfl b kk cs
          exact ⟨ex, a2, w2, ⟨hx2, β2, ht2, ho1.trans ho2 n1 n2⟩, harr⟩
        | exit i =>
          obtain ⟨e1, rfl⟩ := pure_some.1 h2; cases e1
          refine chain h1 (Nat.le_refl _) ?_
          intro ex β1 w1 a1 hx ht1 ho1 hf1 hg1
          cases ex <;> simp only [ExR] at hx
          exact ⟨hx, β1, ht1, ho1⟩
        | ret =>
          obtain ⟨e1, rfl⟩ := pure_some.1 h2; cases e1
          refine chain h1 (Nat.le_refl _) ?_
          intro ex β1 w1 a1 hx ht1 ho1 hf1 hg1
          cases ex <;> simp only [ExR] at hx
          exact ⟨trivial, β1, ht1, ho1⟩
      exact ⟨key.wp, fun c' e => by cases e; exact key⟩
    case scope x =>
      refine ⟨wp_scope_straight ?_, fun c' e => by cases e⟩
      refine chain h (Nat.le_refl _) ?_
      intro ex β1 w1 a1 hx ht1 ho1 hf1 hg1
      cases ex with
      | goto l => exact hx.elim
      | _ => exact ⟨hx, β1, ht1, ho1⟩

end
end
end Go.Ideal
