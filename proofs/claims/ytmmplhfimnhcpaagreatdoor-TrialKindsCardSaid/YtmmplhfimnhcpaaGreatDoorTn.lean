/- TrialKinds: the environment with its memos. -/
import Derived.Test.YtmmplhfimnhcpaaGreatDoorTm
import Derived.Test.YtmmplhfimnhcpaaGreatDoorPath
import Derived.Test.YtmmplhfimnhcpaaGreatDoorRo
namespace Go.Proofs.YtmmplhfimnhcpaaGreatDoor
set_option linter.all false
set_option linter.unusedSimpArgs false
set_option linter.unusedVariables false
open Go Go.Ideal

noncomputable def tkMs : List (FuncId × List Memo) := [(33, [memo33x1]), (34, [memo34x282, memo34x927, memo34x278, memo34x923]), (141, [memo141x647, memo141x643])]
noncomputable def tkE : Env := mkEnv Tryz.prog (fun _ => false) (pickF y32Intr (callM y32E 100) tkMs) zExt
theorem tkGood : Ideal.Good Tryz.prog tkE := by
  refine Good.layer (show Ideal.Good Tryz.prog (mkEnv Tryz.prog (fun _ => false) y32Intr zExt) from y32Good) 100 fun k l h m hm => ?_
  simp only [tkMs, List.mem_cons, List.not_mem_nil, or_false, Prod.mk.injEq] at h
  rcases h with ⟨rfl, rfl⟩ | ⟨rfl, rfl⟩ | ⟨rfl, rfl⟩ <;> simp only [List.mem_cons, List.not_mem_nil, or_false] at hm
  · subst hm; exact memo33x1_ok
  · rcases hm with rfl | rfl | rfl | rfl
    · exact memo34x282_ok
    · exact memo34x927_ok
    · exact memo34x278_ok
    · exact memo34x923_ok
  · rcases hm with rfl | rfl
    · exact memo141x647_ok
    · exact memo141x643_ok

noncomputable def tkX : Ways := ⟨waysF y32E noWays 100 tkMs, noWays.ext⟩
theorem tkX_ok : WaysOK tkE tkX := waysF_ok (P := Tryz.prog) (noWaysOK _) 100 tkMs

end Go.Proofs.YtmmplhfimnhcpaaGreatDoor
