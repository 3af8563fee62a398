/- db.Name: the machine with the library's table of powers of ten; the name's own paths. -/
import Derived.Test.YtmmplhfimnhcpaaGreatDoorZ
import Derived.Test.YtmmplhfimnhcpaaGreatDoorPath
import Derived.Test.YtmmplhfimnhcpaaGreatDoorRo
namespace Go.Proofs.YtmmplhfimnhcpaaGreatDoor
set_option linter.all false
set_option linter.unusedSimpArgs false
set_option linter.unusedVariables false
open Go Go.Ideal
set_option maxRecDepth 100000
set_option maxHeartbeats 2000000

def powL : Nat → Nat → List Value
  | 0, _ => []
  | k + 1, n => .int .u64 (.ofNat n) :: powL k (n * 10)
/-- The table: block 1, only read. -/
noncomputable def SG (e : TypeId) : S := ⟨(Tr.nil : Tr Blk).set depth 1 (.cells (powL 20 1) e .ro), 2, 0, 0⟩
noncomputable def gE : Env := mkEnv Tryz.prog (fun g => Nat.beq g 1) zIntr zExt
noncomputable def nmP (n : Nat) (e : TypeId) (sc : List (Nat × Turn)) : Option (Value × PS) := callP gE noWays 100 false 18 [.int .u64 (.ofNat n)] ⟨SG e, 0, sc, true⟩

end Go.Proofs.YtmmplhfimnhcpaaGreatDoor
