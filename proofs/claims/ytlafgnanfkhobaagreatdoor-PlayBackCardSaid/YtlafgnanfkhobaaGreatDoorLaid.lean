/- A world for the witness: the package variables that the rows list, as their initialisers lay them. -/
import Derived.Test.YtlafgnanfkhobaaGreatDoorRows
import Derived.Test.YtlafgnanfkhobaaGreatDoorCards
import Derived.Test.YtlafgnanfkhobaaGreatDoorTie
import Derived.WalkKit
import Derived.ProofKit
import Derived.OpenShut
import Derived.Deep.DeepHandedRow
import Derived.Deep.DeepWitnessRowRef
import Derived.Lib.LaidTab
import Derived.Lib.LaidIn
namespace Go.Proofs.YtlafgnanfkhobaaGreatDoor
set_option linter.all false
set_option linter.unusedSimpArgs false
set_option linter.unusedVariables false
open Go Go.ChangeShapes Go.WideShapes Go.ChangeAt Go.RowKit
theorem zOwn : ownKnob Tryz.prog.godebug = none :=by kernel_rfl
noncomputable def litsOf : DataW Unit → List Value
 | .agg l => l.map fun d => match d with
  | .lit (.int k n) => Value.int k n
  | _ => undef
 | _ => []
noncomputable def laidWorld (os : Os) : World :=
 let N :=(World.settled Tryz.prog os).heap.size
 let w0 :=World.holding Tryz.prog os ⟨#[.cells #[.string ⟨#[118,97,108,117,101,32,111,117,116,32,111,102,32,114,97,110,103,101]⟩] 513,
  .cells #[.string ⟨#[105,110,118,97,108,105,100,32,115,121,110,116,97,120]⟩] 513],#[],[]⟩
 let put (h : Array Obj) (g : Nat) (cs : Array Value) : Array Obj :=h.modify g fun
  | .cells _ t frozen => .cells cs t frozen
  | o => o
 let h0 :=put (put w0.heap 5 #[.iface 511 (.pointer (some ⟨N,0,none⟩))]) 4 #[.iface 511 (.pointer (some ⟨N + 1,0,none⟩))]
 let h1 :=put h0 2 (litsOf Rows.laid_math_bits_deBruijn32tab).toArray
 let h2 :=put h1 3 (litsOf Rows.laid_math_bits_deBruijn64tab).toArray
 let h3 :=put h2 0 (litsOf Rows.laid_internal_strconv_uint64pow10).toArray
 { w0 with heap :=h3 }
noncomputable abbrev N0 : Nat :=(World.settled Tryz.prog default).heap.size
theorem zLooks : true = Tryz.pinned.checked.prog.looks [] :=by kernel_rfl
theorem no_goes {P : Program} (h : (P.funcs.toList.all fun fn => !fn.goes) = true) {st : Start} (hs : st = .entering) {func : String} : P.goesAt st func = false :=by
 have h1 : ∀ fn ∈ P.funcs.toList,fn.goes = false :=fun fn hm => by simpa using List.all_eq_true.1 h fn hm
 have h2 : ∀ g : FuncId,(P.funcs[g]?).any Func.goes = false :=fun g => by
  cases hg : P.funcs[g]? with
  | none => rfl
  | some fn => exact h1 fn (by rw [← Array.getElem?_toList] at hg;exact List.mem_of_getElem? hg)
 have h3 : P.funcs.any Func.goes = false :=by
  rw [← Array.any_toList]
  exact List.any_eq_false.2 fun fn hm => by rw [h1 fn hm];decide
 subst hs
 unfold Program.goesAt Program.goesFrom
 have h4 : ∀ f,P.goes f = false :=fun f => by
  unfold Program.goes
  rw [h3,Bool.and_false,Bool.or_false]
  exact List.any_eq_false.2 fun g _ => by rw [h2 g];decide
 cases P.funcNamed func with
 | none => rfl
 | some f => show (P.goes f || false) = false;rw [h4];rfl
theorem all_cut {α : Type} (l : List α) (p : α → Bool) (n : Nat) (h1 : (l.take n).all p = true) (h2 : (l.drop n).all p = true) : l.all p = true :=by
 rw [← List.take_append_drop n l,List.all_append,h1,h2];rfl
noncomputable def fnsFrom (n : Nat) : List Func :=Tryz.pinned.checked.prog.funcs.toList.drop n
theorem fns_cut (n : Nat) (h1 : ((fnsFrom n).take 70).all (fun fn => !fn.goes) = true) (h2 : (fnsFrom (n + 70)).all (fun fn => !fn.goes) = true) : (fnsFrom n).all (fun fn => !fn.goes) = true :=
 all_cut _ _ 70 h1 (by rw [show (fnsFrom n).drop 70 = fnsFrom (n + 70) by unfold fnsFrom;rw [List.drop_drop]];exact h2)
theorem go0 : ((fnsFrom 0).take 70).all (fun fn => !fn.goes) = true :=by kernel_rfl
theorem go1 : ((fnsFrom 70).take 70).all (fun fn => !fn.goes) = true :=by kernel_rfl
theorem go2 : ((fnsFrom 140).take 70).all (fun fn => !fn.goes) = true :=by kernel_rfl
theorem go3 : ((fnsFrom 210).take 70).all (fun fn => !fn.goes) = true :=by kernel_rfl
theorem go4 : ((fnsFrom 280).take 70).all (fun fn => !fn.goes) = true :=by kernel_rfl
theorem go5 : ((fnsFrom 350).take 70).all (fun fn => !fn.goes) = true :=by kernel_rfl
theorem go6 : ((fnsFrom 420).take 70).all (fun fn => !fn.goes) = true :=by kernel_rfl
theorem go7 : (fnsFrom 490).all (fun fn => !fn.goes) = true :=by kernel_rfl
theorem noGoes : (Tryz.pinned.checked.prog.funcs.toList.all fun fn => !fn.goes) = true :=
 fns_cut 0 go0 (fns_cut 70 go1 (fns_cut 140 go2 (fns_cut 210 go3 (fns_cut 280 go4 (fns_cut 350 go5 (fns_cut 420 go6 go7))))))
end Go.Proofs.YtlafgnanfkhobaaGreatDoor
