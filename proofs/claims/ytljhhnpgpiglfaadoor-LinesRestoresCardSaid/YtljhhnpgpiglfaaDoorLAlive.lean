/- The example of the chapter (alive), and the bounds of what is parsed. -/
import Derived.Test.YtljhhnpgpiglfaaDoorLRef
import Derived.Test.YtljhhnpgpiglfaaDoorPrx12
namespace Go.Proofs.YtljhhnpgpiglfaaDoor.Pr
open Go.RowKit Go.Proofs.YtljhhnpgpiglfaaDoorW.PrintWords Go.Proofs.YtljhhnpgpiglfaaDoorW.PrintLast Go.Proofs.YtljhhnpgpiglfaaDoorW.PrintMore
set_option linter.unusedVariables false
set_option linter.unusedSimpArgs false

theorem ofL_of (s : ByteArray) : ∃ l, s = ofL l ∧ s.size = l.length := ⟨s.data.toList, (ofL_eq s).symm, by simp⟩

theorem alive_ev : Ev (fun k => unicodetextlaw09_alive.f k) true := by
  obtain ⟨K1, g1⟩ := strings_self [ofL [76, 117]] (by simp)
  have e0 : parseT [10, 48, 48, 52, 49, 46, 46, 48, 48, 53, 65, 59, 32, 76, 117, 32, 35, 32, 108, 101, 116, 116, 101, 114, 115, 10] = ([⟨2, 65, 90, [ofL [76, 117]], ofL [108, 101, 116, 116, 101, 114, 115]⟩], 0, 0) := by kernel_rfl
  have e1 : lines_Check.f 12 2 65 90 [ofL [76, 117]] (ofL [108, 101, 116, 116, 101, 114, 115]) = some 0 := by kernel_rfl
  have g2 := fun k (hk : 12 ≤ k) => at_rounds (fun k => lines_Check.mono 2 65 90 [ofL [76, 117]] (ofL [108, 101, 116, 116, 101, 114, 115]) k) hk e1
  dsimp only at g1
  refine ⟨K1 + 12, fun k hk => ?_⟩
  show unicodetextlaw09_alive.f k = some true
  unfold unicodetextlaw09_alive.f
  rw [parse_f, Option.bind_some, e0]
  dsimp only
  rw [if_pos (by decide), if_pos (by decide), if_pos (by decide)]
  rw [show rd_T35 [(⟨2, 65, 90, [ofL [76, 117]], ofL [108, 101, 116, 116, 101, 114, 115]⟩ : S35)] 0 = ⟨2, 65, 90, [ofL [76, 117]], ofL [108, 101, 116, 116, 101, 114, 115]⟩ from rfl]
  dsimp only
  rw [if_pos rfl, if_pos rfl, if_pos rfl, show (⟨#[76, 117]⟩ : ByteArray) = ofL [76, 117] from rfl, g1 k (by omega), Option.bind_some, if_pos rfl, if_pos (ofL_toList _), g2 k (by omega), Option.bind_some]
  rfl

theorem alive_at : ∃ K, ∀ k, K ≤ k → ((unicodetextlaw09_alive.f k).bind fun t => some t) = some true := by
  obtain ⟨K, h⟩ := alive_ev
  refine ⟨K, fun k hk => ?_⟩
  have g := h k hk
  dsimp only at g
  rw [g]
  rfl

theorem parseT_fields (l : List UInt8) (hl : l.length ≤ 65536) : (parseT l).1.length ≤ l.length + 1 ∧ ∀ x ∈ (parseT l).1, x.f3.length ≤ l.length := by
  unfold parseT
  rw [if_neg (by omega)]
  rcases parses_cases (numL 1 (cutAt 10 l)) [] with ⟨zs, h1, h2⟩ | ⟨-, x, -, -, h2⟩
  · rw [h2]
    refine ⟨?_, fun z hz => acc_fields l 1 zs h1 z (by simpa using hz)⟩
    have := acc_len _ _ h1
    rw [numL_length] at this
    have h3 := cutAt_len 10 l
    simp
    omega
  · rw [h2]
    exact ⟨by simp, fun z hz => by simp at hz⟩

end Go.Proofs.YtljhhnpgpiglfaaDoor.Pr
