/- The law's own run: its three arguments are never looked at. -/
import Derived.Test.YtepchpbcgcebgaaGreatDoorVb
namespace Go.Proofs.YtepchpbcgcebgaaGreatDoor
set_option linter.all false
set_option linter.unusedSimpArgs false
set_option linter.unusedVariables false
open Go Go.Ideal
set_option maxRecDepth 100000

noncomputable def runView (s : ByteArray) (a b : Int) : Bool := isTrue (callM y7E 100 3 [.string s, .int .i64 a, .int .i64 b] S0)
theorem ranView (s : ByteArray) (a b : Int) : runView s a b = true := by kernel_rfl

theorem viewNone_true (s0 : ByteArray) {p0 : Prop} (w0 : p0) (a1 : Int) {p1 : Prop} (w1 : p1) (a2 : Int) {p2 : Prop} (w2 : p2) (w : World) :
    Calls Tryz.prog 3 #[.string s0, .int .i64 a1, .int .i64 a2] w fun e w' => e = .returned (.bool true) ∧ RowKit.Below w.heap.size w w' :=
  zTrue y7Good (l := [.string s0, .int .i64 a1, .int .i64 a2]) (ranView s0 a1 a2) rfl rfl

end Go.Proofs.YtepchpbcgcebgaaGreatDoor
