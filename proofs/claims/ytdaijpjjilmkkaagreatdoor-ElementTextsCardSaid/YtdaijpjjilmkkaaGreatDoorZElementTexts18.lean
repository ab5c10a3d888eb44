/- Texts of the claim ElementTexts, joined: WInvWords. -/
import Derived.Test.YtdaijpjjilmkkaaGreatDoorZElementTexts17
import Derived.Test.YtdaijpjjilmkkaaGreatDoorZElementTexts13
-- PRINTED BY print.sh 35421559b90ae4d0a3588c463048766b98c2df88dd9212a6774a882060cdf62d: not written by this session
namespace Go.Proofs.YtdaijpjjilmkkaaGreatDoorW.PrintWords
open Go.RowKit
end Go.Proofs.YtdaijpjjilmkkaaGreatDoorW.PrintWords
namespace Go.Proofs.YtdaijpjjilmkkaaGreatDoorW.PrintLast
section
variable {ops : Array Oper} {a : Act} {o og : Oper} {g : Nat} {t : Tmp} {u : Bool}
end
end Go.Proofs.YtdaijpjjilmkkaaGreatDoorW.PrintLast
