/- PlanKeys: the machine for its paths. -/
import Derived.Test.YtelifilabbadmaaSoW
import Derived.Test.YtelifilabbadmaaPath
namespace Go.Proofs.Ytelifilabbadmaa
set_option linter.all false
set_option linter.unusedSimpArgs false
set_option linter.unusedVariables false
open Go Go.Ideal
set_option maxRecDepth 100000

noncomputable def pBegun : Bool := isTrue (callM pE0 100 5 [] S0)
theorem pBegun_true : pBegun = true := by kernel_rfl
theorem pYes (w : World) : Calls Try.prog 5 #[] w fun e w' => e = .returned (.bool true) ∧ RowKit.Below w.heap.size w w' :=
  law_true pGood0.env pGood0.resp (pGood0.link _) pGood0.glob (l := []) pBegun_true rfl rfl

noncomputable def pIntr : FuncId → Option (List Value → M Value) := fun f => cond (Nat.beq 31 f) (some (sortM 32)) (cond (Nat.beq 5 f) (some yesM) none)
noncomputable def pE : Env := mkEnv Try.prog (fun _ => false) pIntr pExt
theorem pGood : Ideal.Good Try.prog pE :=
  Good.intr (base := fun f => cond (Nat.beq 5 f) (some yesM) none)
    (Good.closed (base := fun _ => none) (show Ideal.Good Try.prog (mkEnv Try.prog (fun _ => false) (fun _ => none) pExt) from pGood0) (enters Try.func5 (by kernel_rfl) (by kernel_rfl)) pYes)
    (resp_sortM _) fun _ _ => sort_ok (enters Try.func31 (by kernel_rfl) (by kernel_rfl)) sortAt

noncomputable def pkP (xs : List Value) (len cap : Nat) (e : TypeId) (nx : Int) (sc : List (Nat × Turn)) : Option (Value × PS) :=
  callP pE noWays 100 false 4 [.slice (some ⟨0, 0, none⟩) len cap, .int .u32 nx] ⟨SR xs e, 0, sc, true⟩
noncomputable def pkQ (nx : Int) (sc : List (Nat × Turn)) : Option (Value × PS) :=
  callP pE noWays 100 false 4 [.slice none 0 0, .int .u32 nx] ⟨⟨.nil, 1, 0, 0⟩, 0, sc, true⟩
noncomputable def pkR (cap : Nat) (nx : Int) (sc : List (Nat × Turn)) : Option (Value × PS) :=
  callP pE noWays 100 false 4 [.slice (some ⟨0, 0, none⟩) 0 cap, .int .u32 nx] ⟨⟨.nil, 1, 0, 0⟩, 0, sc, true⟩
end Go.Proofs.Ytelifilabbadmaa
