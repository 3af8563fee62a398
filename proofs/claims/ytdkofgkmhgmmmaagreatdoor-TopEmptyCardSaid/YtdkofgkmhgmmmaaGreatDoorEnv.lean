/- The tables of a program, as the ideal machine reads them. -/
import Derived.Test.YtdkofgkmhgmmmaaGreatDoorDef
namespace Go.Ideal
set_option linter.all false
set_option linter.unusedSimpArgs false
set_option linter.unusedVariables false
noncomputable section
open Go Go.RowKit

def mkTI (P : Program) (t : TypeId) : Option TI :=
  match P.info? t, P.underlying t with
  | some i, some d => match i.zero with
    | some z => cond ((cellsL z).all simple && Nat.beq (cellsL z).length i.size)
      (match d with
       | .struct fs => match fieldsOf P fs.toList with
         | some l => some ⟨d, i.size, i.bytes, z, l, eqOK P t d⟩
         | none => none
       | d => some ⟨d, i.size, i.bytes, z, [], eqOK P t d⟩)
      none
    | none => none
  | _, _ => none

def mkEnv (P : Program) (glob : Nat → Bool) (intr ext : FuncId → Option (List Value → M Value)) : Env :=
  { ti := mkTI P, fn := fun f => P.funcs[f]?, glob, intr, ext, fuel := 1000000000 }

def S0 : S := ⟨.nil, 0, 0, 0⟩

def isTrue : Option (Value × S) → Bool
  | some (.bool true, _) => true
  | _ => false

end
end Go.Ideal
