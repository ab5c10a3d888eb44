/- Texts of the claim ElementReads, joined: WInvWords. -/
import Derived.Test.YtdaijpjjilmkkaaGreatDoorZElementReads16
import Derived.Test.YtdaijpjjilmkkaaGreatDoorZElementReads12
namespace Go.Proofs.YtdaijpjjilmkkaaGreatDoorW.PrintWords
open Go.RowKit
end Go.Proofs.YtdaijpjjilmkkaaGreatDoorW.PrintWords
namespace Go.Proofs.YtdaijpjjilmkkaaGreatDoorW.PrintLast
section
variable {ops : Array Oper} {a : Act} {o og : Oper} {g : Nat} {t : Tmp} {u : Bool}
end
end Go.Proofs.YtdaijpjjilmkkaaGreatDoorW.PrintLast
