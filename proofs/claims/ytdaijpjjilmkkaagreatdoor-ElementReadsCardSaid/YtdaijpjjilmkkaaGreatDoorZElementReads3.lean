/- Texts of the claim ElementReads, joined: WFour. -/
import Derived.Test.YtdaijpjjilmkkaaGreatDoorZElementReads2
namespace Go.Proofs.YtdaijpjjilmkkaaGreatDoorW.PrintLast
section
variable {P : Program} {ops : Array Oper} {Q : Exit → Act → World → Prop} {md : Region.Mode} {S : World → Prop} {ds : List Nat} {T : Bool × List (List Nat × List Nat)}
end
end Go.Proofs.YtdaijpjjilmkkaaGreatDoorW.PrintLast
