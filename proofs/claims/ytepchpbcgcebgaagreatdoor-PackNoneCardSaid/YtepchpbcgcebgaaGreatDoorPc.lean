/- The law's own runs: its number is looked at for being above nought alone. -/
import Derived.Test.YtepchpbcgcebgaaGreatDoorPb
namespace Go.Proofs.YtepchpbcgcebgaaGreatDoor
set_option linter.all false
set_option linter.unusedSimpArgs false
set_option linter.unusedVariables false
open Go Go.Ideal
set_option maxRecDepth 100000

noncomputable def runPack (a : Int) : Bool := isTrue (callM y16E 100 4 [.int .i64 a] S0)
theorem ranPack0 : runPack (Int.ofNat 0) = true := by kernel_rfl
theorem ranPackS (n : Nat) : runPack (Int.ofNat (n + 1)) = true := by kernel_rfl
theorem ranPackN (n : Nat) : runPack (Int.negSucc n) = true := by kernel_rfl

theorem ranPack : ∀ a, runPack a = true
  | .ofNat 0 => ranPack0
  | .ofNat (n + 1) => ranPackS n
  | .negSucc n => ranPackN n

theorem packNone_true (a0 : Int) {p0 : Prop} (w0 : p0) (w : World) :
    Calls Tryz.prog 4 #[.int .i64 a0] w fun e w' => e = .returned (.bool true) ∧ RowKit.Below w.heap.size w w' :=
  zTrue y16Good (l := [.int .i64 a0]) (ranPack a0) rfl rfl

end Go.Proofs.YtepchpbcgcebgaaGreatDoor
