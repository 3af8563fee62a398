/- DbFirst: the machine that runs it. -/
import Derived.Test.YtmfoipjfnjmbiaaGreatDoorFf
namespace Go.Proofs.YtmfoipjfnjmbiaaGreatDoor
set_option linter.all false
set_option linter.unusedSimpArgs false
set_option linter.unusedVariables false
open Go Go.Ideal
noncomputable def dfE : Env := y4E
theorem dfGood : Ideal.Good Tryz.prog dfE := y4Good
end Go.Proofs.YtmfoipjfnjmbiaaGreatDoor
