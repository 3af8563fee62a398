/- The ideal machine at the program of the plans' laws. -/
import Derived.Test.YtelifilabbadmaaProg
import Derived.Test.YtelifilabbadmaaLayer
import Derived.Test.YtelifilabbadmaaGi
import Derived.Test.YtelifilabbadmaaArg
namespace Go.Proofs.Ytelifilabbadmaa
set_option linter.all false
set_option linter.unusedSimpArgs false
set_option linter.unusedVariables false
open Go Go.Ideal

noncomputable def pExt : FuncId → Option (List Value → M Value) := fun f => cond (Nat.beq f 43) (some compareM) none
noncomputable def pE0 : Env := mkEnv Try.prog (fun _ => false) (fun _ => none) pExt
theorem pMixed : Try.prog.follows .mixedOrders = true := by kernel_rfl
theorem pNames : (Try.prog.funcs.toList.all fun fn => !(fn.name == "runtime.NumGoroutine")) = true := by kernel_rfl
theorem pExt_cases {f : FuncId} {g : List Value → M Value} (h : pExt f = some g) : f = 43 ∧ g = compareM := by
  unfold pExt at h
  cases h1 : Nat.beq f 43 with
  | true => rw [h1] at h; cases h; exact ⟨Nat.eq_of_beq_eq_true h1, rfl⟩
  | false => rw [h1] at h; cases h
theorem enters {f : FuncId} {fn : Func} (h : Try.prog.funcs[f]? = some fn) (h1 : (fn.name == "runtime.NumGoroutine") = false) (h2 : fn.body.isNone = false) : Ideal.Enters Try.prog f := ⟨fn, h, h1, h2⟩
theorem pGood0 : Ideal.Good Try.prog pE0 := by
  refine ⟨mkEnv_ok pMixed, ⟨fun f g h => (by cases h), fun f g h => ?_⟩, fun N0 => ⟨fun f g h => ?_, fun f g h => (by cases h), names_ok pNames⟩, fun _ => rfl⟩
  · obtain ⟨rfl, rfl⟩ := pExt_cases h; exact resp_compareM
  · obtain ⟨rfl, rfl⟩ := pExt_cases h
    exact ext_compare Try.func43 (by kernel_rfl) (by kernel_rfl) (by kernel_rfl) (by kernel_rfl)

end Go.Proofs.Ytelifilabbadmaa
