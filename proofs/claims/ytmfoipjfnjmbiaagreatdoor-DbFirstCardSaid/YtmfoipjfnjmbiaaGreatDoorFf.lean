/- The closed function 4 answers true. -/
import Derived.Test.YtmfoipjfnjmbiaaGreatDoorFm
namespace Go.Proofs.YtmfoipjfnjmbiaaGreatDoor
set_option linter.all false
set_option linter.unusedSimpArgs false
set_option linter.unusedVariables false
open Go Go.Ideal
set_option maxRecDepth 100000

noncomputable def m4Ms : List (FuncId × List Memo) := [(12, [memo12x265])]
noncomputable def m4E : Env := mkEnv Tryz.prog (fun _ => false) (pickF zIntr (callM zE 100) m4Ms) zExt
theorem m4Good : Ideal.Good Tryz.prog m4E := by
  refine Good.layer (show Ideal.Good Tryz.prog (mkEnv Tryz.prog (fun _ => false) zIntr zExt) from zGood) 100 fun k l h m hm => ?_
  simp only [m4Ms, List.mem_cons, List.not_mem_nil, or_false, Prod.mk.injEq] at h
  rcases h with ⟨rfl, rfl⟩
  simp only [List.mem_cons, List.not_mem_nil, or_false] at hm
  · subst hm; exact memo12x265_ok

noncomputable def run4 : Bool := isTrue (callM m4E 100 4 [] S0)
theorem ran4 : run4 = true := by kernel_rfl

theorem yes4 (w : World) : Calls Tryz.prog 4 #[] w fun e w' => e = .returned (.bool true) ∧ RowKit.Below w.heap.size w w' :=
  zTrue m4Good (l := []) ran4 rfl rfl

noncomputable def y4Intr : FuncId → Option (List Value → M Value) := fun f => cond (Nat.beq 4 f) (some yesM) (zIntr f)
noncomputable def y4E : Env := mkEnv Tryz.prog (fun _ => false) y4Intr zExt
theorem y4Good : Ideal.Good Tryz.prog y4E :=
  Good.closed (show Ideal.Good Tryz.prog (mkEnv Tryz.prog (fun _ => false) zIntr zExt) from zGood) (enters Tryz.func4 (by kernel_rfl) (by kernel_rfl)) yes4

end Go.Proofs.YtmfoipjfnjmbiaaGreatDoor
