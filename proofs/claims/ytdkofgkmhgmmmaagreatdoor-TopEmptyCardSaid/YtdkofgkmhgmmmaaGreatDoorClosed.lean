/- A closed function that answers true, taken as one step; a call whose arguments count by their remainders alone. -/
import Derived.Test.YtdkofgkmhgmmmaaGreatDoorTaint
namespace Go.Ideal
set_option linter.all false
set_option linter.unusedSimpArgs false
set_option linter.unusedVariables false
noncomputable section
open Go Go.RowKit
set_option maxHeartbeats 1000000

section
variable {P : Program} {E : Env} {N0 : Nat → Prop}

theorem Inv.old {β : Bij} {g : Nat → Option Blk} {w w' : World} (h : Inv N0 β g w) (hb : RowKit.Below w.heap.size w w') : Inv N0 β g w' := by
  refine ⟨fun b o ho => ?_, h.alone, fun r hr => h.size r (Nat.le_trans hb.size hr)⟩
  obtain ⟨L, h1, h2⟩ := h.live b o ho
  refine ⟨L, h1, ?_⟩
  cases hl : o.live with
  | true => exact h2.mono (fun _ _ e => e) (hb.block _ (h2.lt hl))
  | false => cases o <;> first | trivial | (cases hl)

def yesM : List Value → M Value
  | [] => pure (.bool true)
  | _ => fail

theorem resp_yesM (l : List Value) : Resp (yesM l) := by
  cases l with
  | nil => exact Resp.pure _
  | cons _ _ => exact Resp.fail

theorem intr_closed {f : FuncId} (he : Enters P f) (h : ∀ w, Calls P f #[] w fun e w' => e = .returned (.bool true) ∧ RowKit.Below w.heap.size w w') : FunOK P N0 E f yesM := by
  intro l s v s' β w l' hs hI hf hg hl
  cases l with
  | cons _ _ =>
    have hs : (fail : M Value) s = some (v, s') := hs
    exact (fail_some.1 hs).elim
  | nil =>
    obtain ⟨rfl, rfl⟩ := pure_some.1 hs
    obtain ⟨l'⟩ := l'
    cases hl
    refine ⟨he, (h w).mono ?_⟩
    rintro e w' ⟨rfl, hb⟩
    exact ⟨_, rfl, β, .bool true, Ext.refl _ _ _, hI.old hb, Below.out hI.size hb⟩

def cleanR (τ : Nat → Nat) : ResultVar → Bool
  | .tmp t => Nat.beq (τ t) 0
  | .cell a _ => Nat.beq (τ a) 0

theorem resultsM_taint {τ : Nat → Nat} {tm tm' : Tr Value} (h : RT τ tm tm') : ∀ (l : List ResultVar), l.all (cleanR τ) = true → resultsM E tm l = resultsM E tm' l
  | [], _ => rfl
  | .tmp t :: r, hl => by
    simp only [List.all_cons, Bool.and_eq_true, cleanR] at hl
    have := h t
    rw [Nat.eq_of_beq_eq_true hl.1] at this
    unfold resultsM
    rw [this.clean, resultsM_taint h r hl.2]
  | .cell a t :: r, hl => by
    simp only [List.all_cons, Bool.and_eq_true, cleanR] at hl
    have := h a
    rw [Nat.eq_of_beq_eq_true hl.1] at this
    unfold resultsM
    rw [this.clean, resultsM_taint h r hl.2]

theorem call_taint {τ : Nat → Nat} {k : Nat} {f : FuncId} {fn : Func} {c : Code} (hi : E.intr f = none) (hfn : E.fn f = some fn) (hb : fn.body = some c) (hc : taintC τ c = true)
    (hr : fn.results.toList.all (cleanR τ) = true) {l l' : List Value} (hlen : l.length = l'.length) (hl : ∀ i : Nat, RV (τ i) l[i]? l'[i]?) {s s' : S} {v : Value}
    (h : callM E (k + 1) f l s = some (v, s')) : callM E (k + 1) f l' s = some (v, s') := by
  unfold callM at h ⊢
  rw [hi] at h ⊢
  simp only at h ⊢
  rw [hfn] at h ⊢
  simp only at h ⊢
  rw [hb] at h ⊢
  simp only at h ⊢
  obtain ⟨u, s1, h1, h2⟩ := bind_some.1 h
  obtain ⟨⟨e, tm⟩, s2, h3, h4⟩ := bind_some.1 h2
  have hrt : RT τ (argsT l 0 .nil) (argsT l' 0 .nil) := by
    intro t
    rw [argsT_get, argsT_get, hlen]
    split
    · rw [Nat.sub_zero]; exact hl t
    · exact .inl rfl
  obtain ⟨t2, h5, h6⟩ := exec_taint E.fuel hrt hc h3
  refine bind_some.2 ⟨u, s1, by rw [← hlen]; exact h1, bind_some.2 ⟨_, s2, h5, ?_⟩⟩
  cases e with
  | exit i => exact h4
  | normal => simp only at h4 ⊢; rw [← resultsM_taint h6 _ hr]; exact h4
  | ret => simp only at h4 ⊢; rw [← resultsM_taint h6 _ hr]; exact h4

end
end
end Go.Ideal
