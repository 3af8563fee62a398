/- The law's own run (playForms). -/
import Derived.Test.YtepchpbcgcebgaaGreatDoorLb
namespace Go.Proofs.YtepchpbcgcebgaaGreatDoor
set_option linter.all false
set_option linter.unusedSimpArgs false
set_option linter.unusedVariables false
open Go Go.Ideal
set_option maxRecDepth 100000

noncomputable def playFormsMs : List (FuncId × List Memo) := [(29, [memo29x210, memo29x1485, memo29x1]), (75, [memo75x1310])]
noncomputable def playFormsE : Env := mkEnv Tryz.prog (fun _ => false) (pickF y28Intr (callM y28E 100) playFormsMs) zExt
theorem playFormsGood : Ideal.Good Tryz.prog playFormsE := by
  refine Good.layer (show Ideal.Good Tryz.prog (mkEnv Tryz.prog (fun _ => false) y28Intr zExt) from y28Good) 100 fun k l h m hm => ?_
  simp only [playFormsMs, List.mem_cons, List.not_mem_nil, or_false, Prod.mk.injEq] at h
  rcases h with ⟨rfl, rfl⟩ | ⟨rfl, rfl⟩ <;> simp only [List.mem_cons, List.not_mem_nil, or_false] at hm
  · rcases hm with rfl | rfl | rfl
    · exact memo29x210_ok
    · exact memo29x1485_ok
    · exact memo29x1_ok
  · subst hm; exact memo75x1310_ok

noncomputable def playFormsRun : Bool := isTrue (callM playFormsE 100 6 [] S0)
theorem playFormsRan : playFormsRun = true := by kernel_rfl

theorem playForms_true (w : World) : Calls Tryz.prog 6 #[] w fun e w' => e = .returned (.bool true) ∧ RowKit.Below w.heap.size w w' :=
  zTrue playFormsGood (l := []) playFormsRan rfl rfl

end Go.Proofs.YtepchpbcgcebgaaGreatDoor
