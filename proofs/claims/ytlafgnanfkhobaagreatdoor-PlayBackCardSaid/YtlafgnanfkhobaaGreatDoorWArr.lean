-- Words that the kit's print.sh wrote for this claim; programs of this session (trim.py, squeeze.py, short.py) have dropped what the claim does not use and have shortened names and blanks.
import Derived.Test.YtlafgnanfkhobaaGreatDoorWWords
namespace Go.Proofs.YtlafgnanfkhobaaGreatDoorW.PrintWords
open Go.RowKit
namespace Kd
section
variable {α : Type} {n : Nat} {d : Kd α} {hs : 0 < d.sz} {w : World} {base : Nat} {ok : Nat → Prop} {xs : List α} {cs : List Value}
end
section
variable {α : Type} {n : Nat} {enc : α → Value} {h1 : ∀ x,(enc x).oneCell' = true} {hs : 0 < (scalar enc h1).sz} {w : World} {base : Nat} {ok : Nat → Prop} {xs : List α} {cs : List Value}
end
end Kd
end Go.Proofs.YtlafgnanfkhobaaGreatDoorW.PrintWords
