/- The closed function 32 answers true. -/
import Derived.Test.YtmmplhfimnhcpaaGreatDoorZ
namespace Go.Proofs.YtmmplhfimnhcpaaGreatDoor
set_option linter.all false
set_option linter.unusedSimpArgs false
set_option linter.unusedVariables false
open Go Go.Ideal
set_option maxRecDepth 100000


noncomputable def run32 : Bool := isTrue (callM zE 100 32 [] S0)
theorem ran32 : run32 = true := by kernel_rfl

theorem yes32 (w : World) : Calls Tryz.prog 32 #[] w fun e w' => e = .returned (.bool true) ∧ RowKit.Below w.heap.size w w' :=
  zTrue zGood (l := []) ran32 rfl rfl

noncomputable def y32Intr : FuncId → Option (List Value → M Value) := fun f => cond (Nat.beq 32 f) (some yesM) (zIntr f)
noncomputable def y32E : Env := mkEnv Tryz.prog (fun _ => false) y32Intr zExt
theorem y32Good : Ideal.Good Tryz.prog y32E :=
  Good.closed (show Ideal.Good Tryz.prog (mkEnv Tryz.prog (fun _ => false) zIntr zExt) from zGood) (enters Tryz.func32 (by kernel_rfl) (by kernel_rfl)) yes32

end Go.Proofs.YtmmplhfimnhcpaaGreatDoor
