/- The closed function 7 answers true. -/
import Derived.Test.YtepchpbcgcebgaaGreatDoorVa
namespace Go.Proofs.YtepchpbcgcebgaaGreatDoor
set_option linter.all false
set_option linter.unusedSimpArgs false
set_option linter.unusedVariables false
open Go Go.Ideal
set_option maxRecDepth 100000

noncomputable def m7Ms : List (FuncId × List Memo) := [(33, [memo33x265]), (9, [memo9x1212])]
noncomputable def m7E : Env := mkEnv Tryz.prog (fun _ => false) (pickF zIntr (callM zE 100) m7Ms) zExt
theorem m7Good : Ideal.Good Tryz.prog m7E := by
  refine Good.layer (show Ideal.Good Tryz.prog (mkEnv Tryz.prog (fun _ => false) zIntr zExt) from zGood) 100 fun k l h m hm => ?_
  simp only [m7Ms, List.mem_cons, List.not_mem_nil, or_false, Prod.mk.injEq] at h
  rcases h with ⟨rfl, rfl⟩ | ⟨rfl, rfl⟩ <;> simp only [List.mem_cons, List.not_mem_nil, or_false] at hm
  · subst hm; exact memo33x265_ok
  · subst hm; exact memo9x1212_ok

noncomputable def run7 : Bool := isTrue (callM m7E 100 7 [] S0)
theorem ran7 : run7 = true := by kernel_rfl

theorem yes7 (w : World) : Calls Tryz.prog 7 #[] w fun e w' => e = .returned (.bool true) ∧ RowKit.Below w.heap.size w w' :=
  zTrue m7Good (l := []) ran7 rfl rfl

noncomputable def y7Intr : FuncId → Option (List Value → M Value) := fun f => cond (Nat.beq 7 f) (some yesM) (zIntr f)
noncomputable def y7E : Env := mkEnv Tryz.prog (fun _ => false) y7Intr zExt
theorem y7Good : Ideal.Good Tryz.prog y7E :=
  Good.closed (show Ideal.Good Tryz.prog (mkEnv Tryz.prog (fun _ => false) zIntr zExt) from zGood) (enters Tryz.func7 (by kernel_rfl) (by kernel_rfl)) yes7

end Go.Proofs.YtepchpbcgcebgaaGreatDoor
