-- Words that the kit's print.sh wrote for this claim; programs of this session (trim.py, squeeze.py, short.py) have dropped what the claim does not use and have shortened names and blanks.
import Derived.Test.YtlafgnanfkhobaaGreatDoorWWords
import Derived.Laws.StructEq
namespace Go.Proofs.YtlafgnanfkhobaaGreatDoorW.PrintWords
open Go.RowKit
section
variable {P : Program} {d : Nat} {xs ys : Array Value} {f : Field} {fs : List Field} {a b : Value} {r s : Bool} {w : World}
end
end Go.Proofs.YtlafgnanfkhobaaGreatDoorW.PrintWords
