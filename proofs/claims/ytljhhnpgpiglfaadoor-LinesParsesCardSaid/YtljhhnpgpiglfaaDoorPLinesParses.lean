/- LinesParses: the pure statement. -/
import Derived.Test.YtljhhnpgpiglfaaDoorLAlive
import Derived.Test.YtljhhnpgpiglfaaDoorPrx12
namespace Go.Proofs.YtljhhnpgpiglfaaDoor.Pr
open Go.RowKit Go.Proofs.YtljhhnpgpiglfaaDoorW.PrintWords Go.Proofs.YtljhhnpgpiglfaaDoorW.PrintLast Go.Proofs.YtljhhnpgpiglfaaDoorW.PrintMore
set_option linter.unusedVariables false
set_option linter.unusedSimpArgs false

theorem LinesParses_pure : unicodetextlaw09_LinesParses.Pure := by
  intro s _
  obtain ⟨KA, hA⟩ := alive_at
  obtain ⟨l, rfl, hl⟩ := ofL_of s
  by_cases h : ((ofL l).size : Int) > 2000
  · refine ⟨KA, ?_⟩
    unfold unicodetextlaw09_LinesParses.f
    rw [if_pos h, hA KA (by omega)]
  · obtain ⟨hz, hf⟩ := parseT_fields l (by omega)
    obtain ⟨K1, h1⟩ := ref_parseT l (by omega)
    obtain ⟨K2, h2⟩ := same_self (parseT l).1 (by omega) (fun x hx => Nat.le_trans (hf x hx) (by omega))
    dsimp only at h1 h2
    refine ⟨KA + K1 + K2, ?_⟩
    unfold unicodetextlaw09_LinesParses.f
    rw [if_neg h, parse_f, Option.bind_some, h1 _ (by omega), Option.bind_some, h2 _ (by omega), Option.bind_some, if_pos rfl, if_pos (by simp), hA _ (by omega)]

end Go.Proofs.YtljhhnpgpiglfaaDoor.Pr
