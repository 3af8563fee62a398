/- A function of the program as one step of the machine, by its own contract. -/
import Derived.Test.YtmmplhfimnhcpaaGreatDoorLayer
namespace Go.Ideal
set_option linter.all false
set_option linter.unusedSimpArgs false
set_option linter.unusedVariables false
noncomputable section
open Go Go.RowKit

theorem Good.intr {P : Program} {glob : Nat → Bool} {base ext : FuncId → Option (List Value → M Value)} (h : Good P (mkEnv P glob base ext)) {k : FuncId} {g : List Value → M Value} (hr : ∀ l, Resp (g l))
    (hf : ∀ N0 E, FunOK P N0 E k g) : Good P (mkEnv P glob (fun f => cond (Nat.beq k f) (some g) (base f)) ext) := by
  have key : ∀ {f g'}, cond (Nat.beq k f) (some g) (base f) = some g' → (k = f ∧ g' = g) ∨ base f = some g' := by
    intro f g' hg
    cases hk : Nat.beq k f with
    | true => rw [hk] at hg; cases hg; exact .inl ⟨Nat.eq_of_beq_eq_true hk, rfl⟩
    | false => rw [hk] at hg; exact .inr hg
  refine ⟨mkEnv_ok h.env.mixed, ⟨fun f g' hg => ?_, h.resp.ext⟩, fun N0 => ⟨(h.link N0).ext, fun f g' hg => ?_, (h.link N0).name⟩, h.glob⟩
  · rcases key hg with ⟨rfl, rfl⟩ | hg
    · exact hr
    · exact h.resp.intr f g' hg
  · rcases key hg with ⟨rfl, rfl⟩ | hg
    · exact hf _ _
    · intro l s v s' β w l' a1 a2 a3 a4 a5
      exact (h.link N0).intr f g' hg l s v s' β w l' a1 a2 a3 a4 a5

end
end Go.Ideal
