/- The closed function 28 answers true. -/
import Derived.Test.YtepchpbcgcebgaaGreatDoorZ
namespace Go.Proofs.YtepchpbcgcebgaaGreatDoor
set_option linter.all false
set_option linter.unusedSimpArgs false
set_option linter.unusedVariables false
open Go Go.Ideal
set_option maxRecDepth 100000


noncomputable def run28 : Bool := isTrue (callM zE 100 28 [] S0)
theorem ran28 : run28 = true := by kernel_rfl

theorem yes28 (w : World) : Calls Tryz.prog 28 #[] w fun e w' => e = .returned (.bool true) ∧ RowKit.Below w.heap.size w w' :=
  zTrue zGood (l := []) ran28 rfl rfl

noncomputable def y28Intr : FuncId → Option (List Value → M Value) := fun f => cond (Nat.beq 28 f) (some yesM) (zIntr f)
noncomputable def y28E : Env := mkEnv Tryz.prog (fun _ => false) y28Intr zExt
theorem y28Good : Ideal.Good Tryz.prog y28E :=
  Good.closed (show Ideal.Good Tryz.prog (mkEnv Tryz.prog (fun _ => false) zIntr zExt) from zGood) (enters Tryz.func28 (by kernel_rfl) (by kernel_rfl)) yes28

end Go.Proofs.YtepchpbcgcebgaaGreatDoor
