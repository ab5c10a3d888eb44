/- EscapeCodes: the pure statement. -/
import Derived.Test.YtjjbjmmdljhjkaaDoorUDig
import Derived.Test.YtjjbjmmdljhjkaaDoorPrx14
namespace Go.Proofs.YtjjbjmmdljhjkaaDoor.Pr
open Go.RowKit Go.Proofs.YtjjbjmmdljhjkaaDoorW.PrintWords Go.Proofs.YtjjbjmmdljhjkaaDoorW.PrintLast Go.Proofs.YtjjbjmmdljhjkaaDoorW.PrintMore
set_option linter.unusedVariables false
set_option linter.unusedSimpArgs false

theorem EscapeCodes_pure : unicodetextlaw05_EscapeCodes.Pure := by
  intro xs _ _ _
  obtain ⟨KA, hA⟩ := alive_at
  by_cases h : (xs.length : Int) > 40
  · refine ⟨KA, ?_⟩
    unfold unicodetextlaw05_EscapeCodes.f
    rw [if_pos h, hA KA (by omega)]
  · obtain ⟨K1, h1⟩ := refcodes_ev xs (by omega)
    obtain ⟨K2, h2⟩ := codes_ev xs (by omega)
    dsimp only at h1 h2
    refine ⟨KA + K1 + K2, ?_⟩
    unfold unicodetextlaw05_EscapeCodes.f
    rw [if_neg h, h2 _ (by omega), Option.bind_some, h1 _ (by omega), Option.bind_some, if_pos (by trivial), if_pos (by trivial), hA _ (by omega)]

end Go.Proofs.YtjjbjmmdljhjkaaDoor.Pr
