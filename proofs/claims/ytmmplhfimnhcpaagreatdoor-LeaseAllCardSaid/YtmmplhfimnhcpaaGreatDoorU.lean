/- The machine with (*lease.Leases).Uses as one step. -/
import Derived.Test.YtmmplhfimnhcpaaGreatDoorZ
import Derived.Test.YtmmplhfimnhcpaaGreatDoorGi
import Derived.Test.YtmmplhfimnhcpaaGreatDoorUsesW
namespace Go.Proofs.YtmmplhfimnhcpaaGreatDoor
set_option linter.all false
set_option linter.unusedSimpArgs false
set_option linter.unusedVariables false
open Go Go.Ideal

noncomputable def uIntr : FuncId → Option (List Value → M Value) := fun f => cond (Nat.beq 27 f) (some usesM) (zIntr f)
noncomputable def uE : Env := mkEnv Tryz.prog (fun _ => false) uIntr zExt
theorem uGood : Ideal.Good Tryz.prog uE :=
  Good.intr (show Ideal.Good Tryz.prog (mkEnv Tryz.prog (fun _ => false) zIntr zExt) from zGood) resp_usesM fun _ _ => uses_ok (enters Tryz.func27 (by kernel_rfl) (by kernel_rfl)) usesAt

end Go.Proofs.YtmmplhfimnhcpaaGreatDoor
