/- EscapeBack: the pure statement. -/
import Derived.Test.YtjjbjmmdljhjkaaDoorUDig
import Derived.Test.YtjjbjmmdljhjkaaDoorPrx15
namespace Go.Proofs.YtjjbjmmdljhjkaaDoor.Pr
open Go.RowKit Go.Proofs.YtjjbjmmdljhjkaaDoorW.PrintWords Go.Proofs.YtjjbjmmdljhjkaaDoorW.PrintLast Go.Proofs.YtjjbjmmdljhjkaaDoorW.PrintMore
set_option linter.unusedVariables false
set_option linter.unusedSimpArgs false

theorem EscapeBack_pure : unicodetextlaw05_EscapeBack.Pure := by
  intro xs _ _ _
  obtain ⟨KA, hA⟩ := alive_at
  by_cases h : (xs.length : Int) > 40
  · refine ⟨KA, ?_⟩
    unfold unicodetextlaw05_EscapeBack.f
    rw [if_pos h, hA KA (by omega)]
  · obtain ⟨K1, h1⟩ := codes_ev xs (by omega)
    dsimp only at h1
    by_cases hv : xs.all validB = true
    · obtain ⟨K2, h2⟩ := parse_ev (textL xs)
      obtain ⟨K3, h3⟩ := pcodes (Lib.join (xs.map hxL) [32]) (by have := join_size xs; omega)
      obtain ⟨K4, h4⟩ := equal_self xs (by omega)
      rw [parse_text xs hv (by omega)] at h2
      rw [read_codes xs hv] at h3
      dsimp only at h2 h3 h4
      refine ⟨KA + K1 + K2 + K3 + K4 + 1, ?_⟩
      unfold unicodetextlaw05_EscapeBack.f
      rw [if_neg h, text_f xs (by omega), if_pos hv, Option.bind_some, h1 _ (by omega), Option.bind_some]
      unfold codesL
      rw [if_pos hv]
      dsimp only
      rw [if_pos (by trivial), if_pos (by trivial)]
      simp only [unicodetextlaw05_EscapeBack.j0]
      rw [if_neg (by decide), if_pos (by trivial), h2 _ (by omega), Option.bind_some, h3 _ (by omega), Option.bind_some, h4 _ (by omega), Option.bind_some, if_pos (by trivial)]
      rw [if_pos (by rfl), Option.bind_some, if_pos (by trivial), if_pos (by trivial), hA _ (by omega)]
    · refine ⟨KA + K1 + 1, ?_⟩
      unfold unicodetextlaw05_EscapeBack.f
      rw [if_neg h, text_f xs (by omega), if_neg hv, Option.bind_some, h1 _ (by omega), Option.bind_some]
      unfold codesL
      rw [if_neg hv]
      dsimp only
      have e : ((ofL []).toList != ([] : List UInt8)) = false := by rw [ofL_toList]; rfl
      rw [if_pos (by trivial), if_neg (by decide), if_pos (by trivial), if_pos (ofL_toList []), e]
      simp only [unicodetextlaw05_EscapeBack.j0]
      rw [if_neg (by decide), if_neg (by decide), hA _ (by omega)]

end Go.Proofs.YtjjbjmmdljhjkaaDoor.Pr
