/- The ideal machine at the program of laws 2 to 5, where 'begun' is one step. -/
import Derived.Test.YtalgnffcdmbkfaaPlan
import Derived.Test.YtalgnffcdmbkfaaClosed
namespace Go.Proofs.Ytalgnffcdmbkfaa
open Go Go.Ideal

theorem begun_true (w : World) : Calls Try.prog 7 #[] w fun e w' => e = .returned (.bool true) ∧ RowKit.Below w.heap.size w w' :=
  idTrue (l := []) (by kernel_rfl) rfl rfl

noncomputable def idF : Env := mkEnv Try.prog (fun _ => false) (fun f => cond (Nat.beq f 7) (some yesM) none) (fun f => cond (Nat.beq f 45) (some compareM) none)

theorem idFOK : EnvOK Try.prog idF := mkEnv_ok (by kernel_rfl)

theorem idFResp : EnvResp idF := by
  refine resp_mkEnv (fun f g h => ?_) fun f g h => ?_
  · cases hf : Nat.beq f 7 with
    | false => rw [hf] at h; cases h
    | true => rw [hf] at h; cases h; exact resp_yesM
  · cases hf : Nat.beq f 45 with
    | false => rw [hf] at h; cases h
    | true => rw [hf] at h; cases h; exact resp_compareM

theorem idFLink (N0 : Nat) : LinkOK Try.prog N0 idF := by
  refine ⟨(idLink N0).ext, fun f g h => ?_, names_ok idNames⟩
  have h : cond (Nat.beq f 7) (some yesM) none = some g := h
  cases hf : Nat.beq f 7 with
  | false => rw [hf] at h; cases h
  | true =>
    rw [hf] at h; cases h
    have := Nat.eq_of_beq_eq_true hf
    subst this
    exact intr_closed ⟨_, Try.func7, by kernel_rfl, by kernel_rfl⟩ begun_true

theorem idFTrue {w : World} {f : FuncId} {l : List Value} (h : isTrue (callM idF 100 f l S0) = true) (hl : l.all simple = true) {l' : Array Value} (e : l' = l.toArray) :
    Calls Try.prog f l' w fun e w' => e = .returned (.bool true) ∧ RowKit.Below w.heap.size w w' :=
  law_true idFOK idFResp (idFLink _) (fun _ => rfl) h hl e

end Go.Proofs.Ytalgnffcdmbkfaa
