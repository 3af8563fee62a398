/- Law 3's runs at every two remainders. -/
import Derived.Test.YtalgnffcdmbkfaaPlanB
namespace Go.Proofs.Ytalgnffcdmbkfaa
open Go Go.Ideal
set_option maxHeartbeats 1000000

noncomputable def overRun (a n : Nat) : Bool := isTrue (callM idF 100 4 [.int .u8 (Int.ofNat a), .int .u8 (Int.ofNat n)] S0)

theorem run0 : (List.range 5).all (overRun 0) = true := by kernel_rfl
theorem run1 : (List.range 5).all (overRun 1) = true := by kernel_rfl
theorem run2 : (List.range 5).all (overRun 2) = true := by kernel_rfl
theorem run3 : (List.range 5).all (overRun 3) = true := by kernel_rfl
theorem run4 : (List.range 5).all (overRun 4) = true := by kernel_rfl
theorem run5 : (List.range 5).all (overRun 5) = true := by kernel_rfl
theorem run6 : (List.range 5).all (overRun 6) = true := by kernel_rfl
theorem run7 : (List.range 5).all (overRun 7) = true := by kernel_rfl

end Go.Proofs.Ytalgnffcdmbkfaa
