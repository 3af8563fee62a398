/- The closed function 19 answers true. -/
import Derived.Test.YtmmplhfimnhcpaaGreatDoorU
namespace Go.Proofs.YtmmplhfimnhcpaaGreatDoor
set_option linter.all false
set_option linter.unusedSimpArgs false
set_option linter.unusedVariables false
open Go Go.Ideal
set_option maxRecDepth 100000


noncomputable def run19 : Bool := isTrue (callM uE 100 19 [] S0)
theorem ran19 : run19 = true := by kernel_rfl

theorem yes19 (w : World) : Calls Tryz.prog 19 #[] w fun e w' => e = .returned (.bool true) ∧ RowKit.Below w.heap.size w w' :=
  zTrue uGood (l := []) ran19 rfl rfl

noncomputable def y19Intr : FuncId → Option (List Value → M Value) := fun f => cond (Nat.beq 19 f) (some yesM) (uIntr f)
noncomputable def y19E : Env := mkEnv Tryz.prog (fun _ => false) y19Intr zExt
theorem y19Good : Ideal.Good Tryz.prog y19E :=
  Good.closed (show Ideal.Good Tryz.prog (mkEnv Tryz.prog (fun _ => false) uIntr zExt) from uGood) (enters Tryz.func19 (by kernel_rfl) (by kernel_rfl)) yes19

end Go.Proofs.YtmmplhfimnhcpaaGreatDoor
