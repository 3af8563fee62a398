-- Words that the kit's print.sh wrote for this claim; programs of this session (trim.py, squeeze.py, short.py) have dropped what the claim does not use and have shortened names and blanks.
import Derived.Test.YtlafgnanfkhobaaGreatDoorWN
namespace Go.Proofs.YtlafgnanfkhobaaGreatDoorW.PrintWords
open Go.RowKit
namespace Kd
section
variable {α : Type} {d : Kd α} {W : World} {g n : Nat} {S ok : Nat → Prop} {A : Option Addr} {ad : Addr} {xs : List α}
end
end Kd
end Go.Proofs.YtlafgnanfkhobaaGreatDoorW.PrintWords
