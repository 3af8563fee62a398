/- The closed function 16 answers true. -/
import Derived.Test.YtepchpbcgcebgaaGreatDoorPa
namespace Go.Proofs.YtepchpbcgcebgaaGreatDoor
set_option linter.all false
set_option linter.unusedSimpArgs false
set_option linter.unusedVariables false
open Go Go.Ideal
set_option maxRecDepth 100000

noncomputable def m16Ms : List (FuncId × List Memo) := [(33, [memo33x274]), (17, [memo17x1024])]
noncomputable def m16E : Env := mkEnv Tryz.prog (fun _ => false) (pickF zIntr (callM zE 100) m16Ms) zExt
theorem m16Good : Ideal.Good Tryz.prog m16E := by
  refine Good.layer (show Ideal.Good Tryz.prog (mkEnv Tryz.prog (fun _ => false) zIntr zExt) from zGood) 100 fun k l h m hm => ?_
  simp only [m16Ms, List.mem_cons, List.not_mem_nil, or_false, Prod.mk.injEq] at h
  rcases h with ⟨rfl, rfl⟩ | ⟨rfl, rfl⟩ <;> simp only [List.mem_cons, List.not_mem_nil, or_false] at hm
  · subst hm; exact memo33x274_ok
  · subst hm; exact memo17x1024_ok

noncomputable def run16 : Bool := isTrue (callM m16E 100 16 [] S0)
theorem ran16 : run16 = true := by kernel_rfl

theorem yes16 (w : World) : Calls Tryz.prog 16 #[] w fun e w' => e = .returned (.bool true) ∧ RowKit.Below w.heap.size w w' :=
  zTrue m16Good (l := []) ran16 rfl rfl

noncomputable def y16Intr : FuncId → Option (List Value → M Value) := fun f => cond (Nat.beq 16 f) (some yesM) (zIntr f)
noncomputable def y16E : Env := mkEnv Tryz.prog (fun _ => false) y16Intr zExt
theorem y16Good : Ideal.Good Tryz.prog y16E :=
  Good.closed (show Ideal.Good Tryz.prog (mkEnv Tryz.prog (fun _ => false) zIntr zExt) from zGood) (enters Tryz.func16 (by kernel_rfl) (by kernel_rfl)) yes16

end Go.Proofs.YtepchpbcgcebgaaGreatDoor
