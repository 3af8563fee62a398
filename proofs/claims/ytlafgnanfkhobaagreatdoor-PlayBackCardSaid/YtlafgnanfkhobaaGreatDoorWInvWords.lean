-- Words that the kit's print.sh wrote for this claim; programs of this session (trim.py, squeeze.py, short.py) have dropped what the claim does not use and have shortened names and blanks.
import Derived.Test.YtlafgnanfkhobaaGreatDoorWInv
import Derived.Test.YtlafgnanfkhobaaGreatDoorWFootNe
namespace Go.Proofs.YtlafgnanfkhobaaGreatDoorW.PrintWords
open Go.RowKit
end Go.Proofs.YtlafgnanfkhobaaGreatDoorW.PrintWords
namespace Go.Proofs.YtlafgnanfkhobaaGreatDoorW.PrintLast
section
variable {ops : Array Oper} {a : Act} {o og : Oper} {g : Nat} {t : Tmp} {u : Bool}
end
end Go.Proofs.YtlafgnanfkhobaaGreatDoorW.PrintLast
