/- Texts of the claim ElementFiles, joined: WInvWords. -/
import Derived.Test.YtdaijpjjilmkkaaGreatDoorZElementFiles17
import Derived.Test.YtdaijpjjilmkkaaGreatDoorZElementFiles13
namespace Go.Proofs.YtdaijpjjilmkkaaGreatDoorW.PrintWords
open Go.RowKit
end Go.Proofs.YtdaijpjjilmkkaaGreatDoorW.PrintWords
namespace Go.Proofs.YtdaijpjjilmkkaaGreatDoorW.PrintLast
section
variable {ops : Array Oper} {a : Act} {o og : Oper} {g : Nat} {t : Tmp} {u : Bool}
end
end Go.Proofs.YtdaijpjjilmkkaaGreatDoorW.PrintLast
