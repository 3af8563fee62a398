import Derived.Test.YtfelkchmeiijfaaQ6
import Derived.Test.YtfelkchmeiijfaaRb
namespace Go.Proofs.Ytfelkchmeiijfaa.Pure
open Go.RowKit Go.Proofs.Ytfelkchmeiijfaa.P2 Go.Proofs.YtfelkchmeiijfaaW.PrintWords Go.Proofs.YtfelkchmeiijfaaW.PrintLast

/-- YOURS: ∀ (l0 : List Int) (a1 : Int) (a2 : Int), l0.length ≤ maxLen → l0.length * 1 ≤ 140737488351232 → (∀ x ∈ l0, (Lit.int .u8 x).wf = true) → (Lit.int .u32 a1).wf = true → (Lit.int .u16 a2).wf = true → ∃ k, pandectlaw17_PlanRises.f k l0 a1 a2 = some true
What it reaches (each with k first where it has rounds; `.mono`: more rounds tell the same; `.l0`, ..: its loops, with `.mono_l`): pandectlaw17_begun.f, pandectplay_Made.f, pandectplay_Picks_Num.f, pandectplay_Picks_Name.f, pandectplay_Picks_Kind.f, pandectplay_Picks_Data.f, pandectplay_Picks_Commit.f, plan_MayCommit.f, plan_wrong.f, slices_Clone_byte_byte.f, plan_Events.f, pandectlaw17_PlanRises.f -/
theorem PlanRises : pandectlaw17_PlanRises.Pure := Go.Proofs.Ytfelkchmeiijfaa.P2.rises

end Go.Proofs.Ytfelkchmeiijfaa.Pure
