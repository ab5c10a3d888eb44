/- Texts of the claim ElementReads, joined: WSized. -/
import Derived.SizedLaws
import Derived.ChangeSlices
namespace Go.Proofs.YtdaijpjjilmkkaaGreatDoorW.PrintWords
open Go.ChangeShapes Go.WideShapes
end Go.Proofs.YtdaijpjjilmkkaaGreatDoorW.PrintWords
