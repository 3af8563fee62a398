-- Words that the kit's print.sh wrote for this claim; programs of this session (trim.py, squeeze.py, short.py) have dropped what the claim does not use and have shortened names and blanks.
import Derived.Test.YtlafgnanfkhobaaGreatDoorWApart
import Derived.Test.YtlafgnanfkhobaaGreatDoorWArr
namespace Go.Proofs.YtlafgnanfkhobaaGreatDoorW.PrintWords
open Go.RowKit
section
variable {P : Program}
end
namespace Kd
section
variable {P : Program} {ops : Array Oper} {rest : List Oper} {o : Oper} {a : Act} {Q : Exit → Act → World → Prop} {Kc : Act → World → Prop} {α : Type}
end
section
variable {α : Type} {d : Kd α} {e : Nat} {w : World} {base : Nat} {ok : Nat → Prop} {v : Value} {xs : List α}
end
section
variable {P : Program} {ops : Array Oper} {rest : List Oper} {o : Oper} {a : Act} {Q : Exit → Act → World → Prop} {Kc : Act → World → Prop} {α : Type}
end
end Kd
end Go.Proofs.YtlafgnanfkhobaaGreatDoorW.PrintWords
