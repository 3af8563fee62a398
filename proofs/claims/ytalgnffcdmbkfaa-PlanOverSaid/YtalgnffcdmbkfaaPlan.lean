/- The ideal machine at the program of laws 2 to 5 (plans). -/
import Derived.Test.YtalgnffcdmbkfaaRows
import Derived.Test.YtalgnffcdmbkfaaPost
import Derived.WalkKit
import Derived.ProofKit
import Derived.OpenShut
namespace Go.Proofs.Ytalgnffcdmbkfaa
open Go Go.Ideal

noncomputable def idE : Env := mkEnv Try.prog (fun _ => false) (fun _ => none) (fun f => cond (Nat.beq f 45) (some compareM) none)

theorem idOK : EnvOK Try.prog idE := mkEnv_ok (by kernel_rfl)

theorem idResp : EnvResp idE := by
  refine resp_mkEnv (fun f g h => by cases h) fun f g h => ?_
  cases hf : Nat.beq f 45 with
  | false => rw [hf] at h; cases h
  | true => rw [hf] at h; cases h; exact resp_compareM

theorem idNames : (Try.prog.funcs.toList.all fun fn => !(fn.name == "runtime.NumGoroutine")) = true := by kernel_rfl

theorem idLink (N0 : Nat) : LinkOK Try.prog N0 idE := by
  refine ⟨fun f g h => ?_, fun f g h => (by cases h), names_ok idNames⟩
  have h : cond (Nat.beq f 45) (some compareM) none = some g := h
  cases hf : Nat.beq f 45 with
  | false => rw [hf] at h; cases h
  | true =>
    rw [hf] at h; cases h
    have := Nat.eq_of_beq_eq_true hf
    subst this
    exact ext_compare Try.func45 (by kernel_rfl) (by kernel_rfl) (by kernel_rfl) (by kernel_rfl)

theorem idTrue {w : World} {f : FuncId} {l : List Value} (h : isTrue (callM idE 100 f l S0) = true) (hl : l.all simple = true) {l' : Array Value} (e : l' = l.toArray) :
    Calls Try.prog f l' w fun e w' => e = .returned (.bool true) ∧ RowKit.Below w.heap.size w w' :=
  law_true idOK idResp (idLink _) (fun _ => rfl) h hl e

end Go.Proofs.Ytalgnffcdmbkfaa
