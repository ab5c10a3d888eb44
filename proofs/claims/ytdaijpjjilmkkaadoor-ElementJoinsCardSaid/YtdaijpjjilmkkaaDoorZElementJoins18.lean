/- Texts of the claim ElementJoins, joined: WInvWords. -/
import Derived.Test.YtdaijpjjilmkkaaDoorZElementJoins17
import Derived.Test.YtdaijpjjilmkkaaDoorZElementJoins13
-- PRINTED BY print.sh 35421559b90ae4d0a3588c463048766b98c2df88dd9212a6774a882060cdf62d: not written by this session
namespace Go.Proofs.YtdaijpjjilmkkaaDoorW.PrintWords
open Go.RowKit
end Go.Proofs.YtdaijpjjilmkkaaDoorW.PrintWords
namespace Go.Proofs.YtdaijpjjilmkkaaDoorW.PrintLast
section
variable {ops : Array Oper} {a : Act} {o og : Oper} {g : Nat} {t : Tmp} {u : Bool}
end
end Go.Proofs.YtdaijpjjilmkkaaDoorW.PrintLast
