/- From a run of the ideal machine to the model's call. -/
import Derived.Test.YtdkofgkmhgmmmaaGreatDoorSimS
import Derived.RowKit3
namespace Go.Ideal
set_option linter.all false
set_option linter.unusedSimpArgs false
set_option linter.unusedVariables false
noncomputable section
open Go Go.RowKit
set_option maxHeartbeats 1000000

section
variable {P : Program} {E : Env}

theorem resp_mkEnv {glob : Nat → Bool} {intr ext : FuncId → Option (List Value → M Value)} (hi : ∀ f g, intr f = some g → ∀ l, Resp (g l)) (hx : ∀ f g, ext f = some g → ∀ l, Resp (g l)) :
    EnvResp (mkEnv P glob intr ext) := ⟨hi, hx⟩

/-- No block, no variable: what the machine starts from. -/
theorem run_law (hE : EnvOK P E) (hR : EnvResp E) {w : World} (hX : LinkOK P (fun k => w.heap.size ≤ k) E) (hg : ∀ g, E.glob g = false) {k : Nat} {f : FuncId} {l : List Value} {l' : Array Value} {v : Value} {s' : S}
    (h : callM E k f l S0 = some (v, s')) (hl : VL (fun _ => none) l l'.toList) :
    Calls P f l' w fun e w' => ∃ v', e = .returned v' ∧ (∃ β, V β v v') ∧ RowKit.Below w.heap.size w w' := by
  have hI : Inv (fun k => w.heap.size ≤ k) (fun _ => none) S0.h.get w :=
    ⟨fun b o hb => (by cases hb), fun b1 b2 o1 o2 L1 L2 _ hb => (by cases hb), fun _ h => h⟩
  refine (sim_call hE hX hR k f l S0 v s' _ w l' h hI (fun _ _ _ => rfl) (fun g hg' => by rw [hg g] at hg'; cases hg') hl).2.mono ?_
  rintro e w' ⟨v', he, β, hv, ho⟩
  exact ⟨v', he, ⟨β, hv⟩, ho.below.num⟩

theorem isTrue_some {r : Option (Value × S)} (h : isTrue r = true) : ∃ s', r = some (.bool true, s') := by
  unfold isTrue at h
  split at h
  · exact ⟨_, rfl⟩
  · cases h

/-- A law that the ideal machine finds true, at plain arguments. -/
theorem law_true (hE : EnvOK P E) (hR : EnvResp E) {w : World} (hX : LinkOK P (fun k => w.heap.size ≤ k) E) (hg : ∀ g, E.glob g = false) {k : Nat} {f : FuncId} {l : List Value}
    (h : isTrue (callM E k f l S0) = true) (hl : l.all simple = true) {l' : Array Value} (e : l' = l.toArray) :
    Calls P f l' w fun e w' => e = .returned (.bool true) ∧ RowKit.Below w.heap.size w w' := by
  obtain ⟨s', h⟩ := isTrue_some h
  subst e
  refine (run_law hE hR hX hg h (VL.of_simple hl)).mono ?_
  rintro e w' ⟨v', he, ⟨β, hv⟩, hb⟩
  cases hv
  exact ⟨he, hb⟩

end
end
end Go.Ideal
