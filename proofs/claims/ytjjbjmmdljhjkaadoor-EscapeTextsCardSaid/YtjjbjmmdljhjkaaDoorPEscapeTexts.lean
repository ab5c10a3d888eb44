/- EscapeTexts: the pure statement. -/
import Derived.Test.YtjjbjmmdljhjkaaDoorUDig
import Derived.Test.YtjjbjmmdljhjkaaDoorPrx10
namespace Go.Proofs.YtjjbjmmdljhjkaaDoor.Pr
open Go.RowKit Go.Proofs.YtjjbjmmdljhjkaaDoorW.PrintWords Go.Proofs.YtjjbjmmdljhjkaaDoorW.PrintLast Go.Proofs.YtjjbjmmdljhjkaaDoorW.PrintMore
set_option linter.unusedVariables false
set_option linter.unusedSimpArgs false

theorem EscapeTexts_pure : unicodetextlaw05_EscapeTexts.Pure := by
  intro xs _ _ _
  obtain ⟨KA, hA⟩ := alive_at
  by_cases h : (xs.length : Int) > 40
  · refine ⟨KA, ?_⟩
    unfold unicodetextlaw05_EscapeTexts.f
    rw [if_pos h, hA KA (by omega)]
  · obtain ⟨K1, h1⟩ := ref_text xs (by omega)
    dsimp only at h1
    refine ⟨KA + K1, ?_⟩
    unfold unicodetextlaw05_EscapeTexts.f
    rw [if_neg h, text_f xs (by omega), Option.bind_some, h1 _ (by omega), Option.bind_some, if_pos (by trivial), if_pos (by trivial), hA _ (by omega)]

end Go.Proofs.YtjjbjmmdljhjkaaDoor.Pr
