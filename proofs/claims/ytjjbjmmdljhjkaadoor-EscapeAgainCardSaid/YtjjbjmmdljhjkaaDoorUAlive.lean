/- Plain laws: the examples of the chapter; the laws EscapeTexts, EscapeCodes, EscapeReads as pure statements. -/
import Derived.Test.YtjjbjmmdljhjkaaDoorUParse
import Derived.Test.YtjjbjmmdljhjkaaDoorUCodes
import Derived.Test.YtjjbjmmdljhjkaaDoorPrx10
namespace Go.Proofs.YtjjbjmmdljhjkaaDoor.Pr
open Go.RowKit Go.Proofs.YtjjbjmmdljhjkaaDoorW.PrintWords Go.Proofs.YtjjbjmmdljhjkaaDoorW.PrintLast Go.Proofs.YtjjbjmmdljhjkaaDoorW.PrintMore
set_option linter.unusedVariables false
set_option linter.unusedSimpArgs false

theorem alive_ev : Ev (fun k => unicodetextlaw05_alive.f k) true := by
  obtain ⟨K1, h1⟩ := parse_ev [34, 97]
  obtain ⟨K2, h2⟩ := parse_ev [34, 92, 110, 34]
  obtain ⟨K3, h3⟩ := pcodes [48, 48, 52, 49, 32, 48, 51, 48, 65] (by decide)
  obtain ⟨K4, h4⟩ := equal_self [65, 778] (by decide)
  refine ⟨K1 + K2 + K3 + K4, fun k hk => ?_⟩
  have ht := text_f [65, 34, 769] (by decide)
  have e0 : (if ([65, 34, 769] : List Int).all validB then (ofL (textL [65, 34, 769]), 0) else (ofL [], 1)) = ((ofL [34, 65, 92, 34, 92, 117, 123, 51, 48, 49, 125, 34], 0) : ByteArray × Int) := by decide +kernel
  have e1 : parseL [34, 97] = ([], 3, 2) := by decide +kernel
  have e2 : parseL [34, 92, 110, 34] = ([], 3, 1) := by decide +kernel
  have e3 : readCodes [48, 48, 52, 49, 32, 48, 51, 48, 65] = ([65, 778], 0) := by decide +kernel
  have g1 := h1 k (by omega)
  have g2 := h2 k (by omega)
  have g3 := h3 k (by omega)
  have g4 := h4 k (by omega)
  rw [e1] at g1
  rw [e2] at g2
  rw [e3] at g3
  dsimp only at g1 g2 g3 g4
  rw [e0] at ht
  show unicodetextlaw05_alive.f k = some true
  unfold unicodetextlaw05_alive.f
  rw [ht, Option.bind_some, g1, Option.bind_some, g2, Option.bind_some, g3, Option.bind_some]
  dsimp only
  rw [if_pos (ofL_toList _), if_pos rfl, if_pos (by decide), if_pos (by decide), if_pos rfl, g4]
  rfl

theorem alive_at : ∃ K, ∀ k, K ≤ k → ((unicodetextlaw05_alive.f k).bind fun t => some t) = some true := by
  obtain ⟨K, h⟩ := alive_ev
  refine ⟨K, fun k hk => ?_⟩
  have g := h k hk
  dsimp only at g
  rw [g]
  rfl

theorem ofL_of (s : ByteArray) : ∃ l, s = ofL l ∧ s.size = l.length := ⟨s.data.toList, (ofL_eq s).symm, by simp⟩

end Go.Proofs.YtjjbjmmdljhjkaaDoor.Pr
