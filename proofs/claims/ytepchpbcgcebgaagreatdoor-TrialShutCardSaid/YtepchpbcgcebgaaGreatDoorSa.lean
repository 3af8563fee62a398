/- The closed function 23 answers true. -/
import Derived.Test.YtepchpbcgcebgaaGreatDoorZ
namespace Go.Proofs.YtepchpbcgcebgaaGreatDoor
set_option linter.all false
set_option linter.unusedSimpArgs false
set_option linter.unusedVariables false
open Go Go.Ideal
set_option maxRecDepth 100000


noncomputable def run23 : Bool := isTrue (callM zE 100 23 [] S0)
theorem ran23 : run23 = true := by kernel_rfl

theorem yes23 (w : World) : Calls Tryz.prog 23 #[] w fun e w' => e = .returned (.bool true) ∧ RowKit.Below w.heap.size w w' :=
  zTrue zGood (l := []) ran23 rfl rfl

noncomputable def y23Intr : FuncId → Option (List Value → M Value) := fun f => cond (Nat.beq 23 f) (some yesM) (zIntr f)
noncomputable def y23E : Env := mkEnv Tryz.prog (fun _ => false) y23Intr zExt
theorem y23Good : Ideal.Good Tryz.prog y23E :=
  Good.closed (show Ideal.Good Tryz.prog (mkEnv Tryz.prog (fun _ => false) zIntr zExt) from zGood) (enters Tryz.func23 (by kernel_rfl) (by kernel_rfl)) yes23

end Go.Proofs.YtepchpbcgcebgaaGreatDoor
