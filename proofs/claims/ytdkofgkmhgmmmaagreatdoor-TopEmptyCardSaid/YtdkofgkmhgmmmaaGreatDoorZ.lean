/- The ideal machine at this program: the library's sorting of keys, the disk's room, the sum of bytes, each as one step. -/
import Derived.Test.YtdkofgkmhgmmmaaGreatDoorProg
import Derived.Test.YtdkofgkmhgmmmaaGreatDoorSortW
import Derived.Test.YtdkofgkmhgmmmaaGreatDoorSumW
import Derived.Test.YtdkofgkmhgmmmaaGreatDoorFitsW
import Derived.Test.YtdkofgkmhgmmmaaGreatDoorClone
import Derived.Test.YtdkofgkmhgmmmaaGreatDoorLayer
namespace Go.Proofs.YtdkofgkmhgmmmaaGreatDoor
set_option linter.all false
set_option linter.unusedSimpArgs false
set_option linter.unusedVariables false
open Go Go.Ideal

noncomputable def zE0 : Env := mkEnv Tryz.prog (fun _ => false) (fun _ => none) (fun _ => none)

noncomputable def zIntr : FuncId → Option (List Value → M Value) := fun f =>
  cond (Nat.beq f 31) (some (sortedM 85 9)) (cond (Nat.beq f 237) (some (fitsM zE0 115)) (cond (Nat.beq f 203) (some sumM) none))

noncomputable def zExt : FuncId → Option (List Value → M Value) := fun f =>
  cond (Nat.beq f 313) (some compareM) (cond (Nat.beq f 175) (some cloneM) none)

noncomputable def zE : Env := mkEnv Tryz.prog (fun _ => false) zIntr zExt

theorem zMixed : Tryz.prog.follows .mixedOrders = true := by kernel_rfl
theorem zNames : (Tryz.prog.funcs.toList.all fun fn => !(fn.name == "runtime.NumGoroutine")) = true := by kernel_rfl

theorem zIntr_cases {f : FuncId} {g : List Value → M Value} (h : zIntr f = some g) : (f = 31 ∧ g = sortedM 85 9) ∨ (f = 237 ∧ g = fitsM zE0 115) ∨ (f = 203 ∧ g = sumM) := by
  unfold zIntr at h
  cases h1 : Nat.beq f 31 with
  | true => rw [h1] at h; cases h; exact .inl ⟨Nat.eq_of_beq_eq_true h1, rfl⟩
  | false =>
    rw [h1] at h
    cases h2 : Nat.beq f 237 with
    | true => rw [h2] at h; cases h; exact .inr (.inl ⟨Nat.eq_of_beq_eq_true h2, rfl⟩)
    | false =>
      rw [h2] at h
      cases h3 : Nat.beq f 203 with
      | true => rw [h3] at h; cases h; exact .inr (.inr ⟨Nat.eq_of_beq_eq_true h3, rfl⟩)
      | false => rw [h3] at h; cases h

theorem zExt_cases {f : FuncId} {g : List Value → M Value} (h : zExt f = some g) : (f = 313 ∧ g = compareM) ∨ (f = 175 ∧ g = cloneM) := by
  unfold zExt at h
  cases h1 : Nat.beq f 313 with
  | true => rw [h1] at h; cases h; exact .inl ⟨Nat.eq_of_beq_eq_true h1, rfl⟩
  | false =>
    rw [h1] at h
    cases h2 : Nat.beq f 175 with
    | true => rw [h2] at h; cases h; exact .inr ⟨Nat.eq_of_beq_eq_true h2, rfl⟩
    | false => rw [h2] at h; cases h

theorem enters {f : FuncId} {fn : Func} (h : Tryz.prog.funcs[f]? = some fn) (h1 : (fn.name == "runtime.NumGoroutine") = false) (h2 : fn.body.isNone = false) : Ideal.Enters Tryz.prog f := ⟨fn, h, h1, h2⟩

theorem zGood : Ideal.Good Tryz.prog zE := by
  refine ⟨mkEnv_ok zMixed, ⟨fun f g h => ?_, fun f g h => ?_⟩, fun N0 => ⟨fun f g h => ?_, fun f g h => ?_, names_ok zNames⟩, fun _ => rfl⟩
  · rcases zIntr_cases h with ⟨rfl, rfl⟩ | ⟨rfl, rfl⟩ | ⟨rfl, rfl⟩
    · exact resp_sortedM _ _
    · exact resp_fitsM _
    · exact resp_sumM
  · rcases zExt_cases h with ⟨rfl, rfl⟩ | ⟨rfl, rfl⟩
    · exact resp_compareM
    · exact resp_cloneM
  · rcases zExt_cases h with ⟨rfl, rfl⟩ | ⟨rfl, rfl⟩
    · exact ext_compare Tryz.func313 (by kernel_rfl) (by kernel_rfl) (by kernel_rfl) (by kernel_rfl)
    · exact ext_clone Tryz.func175 (by kernel_rfl) (by kernel_rfl) (by kernel_rfl) (by kernel_rfl)
  · rcases zIntr_cases h with ⟨rfl, rfl⟩ | ⟨rfl, rfl⟩ | ⟨rfl, rfl⟩
    · exact sorted_ok Tryz.underlying9 (enters Tryz.func31 (by kernel_rfl) (by kernel_rfl)) Tryz.sortedAt
    · exact fits_ok (E := zE0) (mkEnv_ok zMixed) (enters Tryz.func237 (by kernel_rfl) (by kernel_rfl)) fitsAt
    · exact sum_ok (enters Tryz.func203 (by kernel_rfl) (by kernel_rfl)) sumAt

/-- A law that the machine finds true under some memos. -/
theorem zTrue {E : Env} (hG : Ideal.Good Tryz.prog E) {w : World} {f : FuncId} {l : List Value} (h : isTrue (callM E 100 f l S0) = true) (hl : l.all simple = true) {l' : Array Value} (e : l' = l.toArray) :
    Calls Tryz.prog f l' w fun e w' => e = .returned (.bool true) ∧ RowKit.Below w.heap.size w w' :=
  law_true hG.env hG.resp (hG.link _) hG.glob h hl e

end Go.Proofs.YtdkofgkmhgmmmaaGreatDoor
