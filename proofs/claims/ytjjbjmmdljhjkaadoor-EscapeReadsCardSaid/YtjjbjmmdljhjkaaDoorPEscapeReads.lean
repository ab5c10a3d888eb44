/- EscapeReads: the pure statement. -/
import Derived.Test.YtjjbjmmdljhjkaaDoorUDig
import Derived.Test.YtjjbjmmdljhjkaaDoorPrx10
namespace Go.Proofs.YtjjbjmmdljhjkaaDoor.Pr
open Go.RowKit Go.Proofs.YtjjbjmmdljhjkaaDoorW.PrintWords Go.Proofs.YtjjbjmmdljhjkaaDoorW.PrintLast Go.Proofs.YtjjbjmmdljhjkaaDoorW.PrintMore
set_option linter.unusedVariables false
set_option linter.unusedSimpArgs false

theorem EscapeReads_pure : unicodetextlaw05_EscapeReads.Pure := by
  intro s _
  obtain ⟨KA, hA⟩ := alive_at
  obtain ⟨l, rfl, hl⟩ := ofL_of s
  by_cases h : ((ofL l).size : Int) > 400
  · refine ⟨KA, ?_⟩
    unfold unicodetextlaw05_EscapeReads.f
    rw [if_pos h, hA KA (by omega)]
  · have hlen := readCodes_len l
    obtain ⟨K1, h1⟩ := pcodes l (by omega)
    obtain ⟨K2, h2⟩ := rcodes l (by omega)
    obtain ⟨K3, h3⟩ := equal_self (readCodes l).1 (by omega)
    dsimp only at h1 h2 h3
    refine ⟨KA + K1 + K2 + K3, ?_⟩
    unfold unicodetextlaw05_EscapeReads.f
    rw [if_neg h, h1 _ (by omega), Option.bind_some, h2 _ (by omega), Option.bind_some, h3 _ (by omega), Option.bind_some, if_pos (by trivial), if_pos (by trivial), hA _ (by omega)]

end Go.Proofs.YtjjbjmmdljhjkaaDoor.Pr
