/- LinesTexts: the pure statement. -/
import Derived.Test.YtljhhnpgpiglfaaDoorLText
import Derived.Test.YtljhhnpgpiglfaaDoorPrx18
namespace Go.Proofs.YtljhhnpgpiglfaaDoor.Pr
open Go.RowKit Go.Proofs.YtljhhnpgpiglfaaDoorW.PrintWords Go.Proofs.YtljhhnpgpiglfaaDoorW.PrintLast Go.Proofs.YtljhhnpgpiglfaaDoorW.PrintMore
set_option linter.unusedVariables false
set_option linter.unusedSimpArgs false

theorem texts_loop (all : List S35) (hT : smallT all = true) : ∀ (r p : List S35), all = p ++ r → Ev (fun k => unicodetextlaw09_LinesTexts.l0 k all (p.length : Int)) true
  | [], p, h => by
    obtain ⟨KA, hA⟩ := alive_at
    obtain ⟨K1, g1⟩ := text_ev all hT
    dsimp only at g1
    refine ⟨KA + K1 + 1, fun k hk => ?_⟩
    obtain ⟨k, rfl⟩ : ∃ m, k = m + 1 := ⟨k - 1, by omega⟩
    show unicodetextlaw09_LinesTexts.l0 (k + 1) all (p.length : Int) = some true
    simp only [unicodetextlaw09_LinesTexts.l0]
    rw [if_neg (by rw [h]; simp)]
    unfold lines_Text.f
    rw [if_pos hT, Option.bind_some, g1 k (by omega), Option.bind_some, if_pos rfl, if_pos rfl, hA k (by omega)]
  | x :: r, p, h => by
    have hall := hT
    unfold smallT at hall
    simp only [Bool.and_eq_true, decide_eq_true_eq] at hall
    have hlt : p.length < all.length := by rw [h]; simp
    have hat : all[p.length]'hlt = x := by simp [h]
    obtain ⟨⟨K1, g1⟩, ⟨K2, g2⟩⟩ := small_check x (List.all_eq_true.1 hall.2 x (by rw [h]; simp))
    obtain ⟨K3, g3⟩ := texts_loop all hT r (p ++ [x]) (by rw [h]; simp)
    dsimp only at g1 g2 g3
    rw [List.length_append, List.length_singleton] at g3
    refine ⟨K1 + K2 + K3 + 1, fun k hk => ?_⟩
    obtain ⟨k, rfl⟩ : ∃ m, k = m + 1 := ⟨k - 1, by omega⟩
    show unicodetextlaw09_LinesTexts.l0 (k + 1) all (p.length : Int) = some true
    simp only [unicodetextlaw09_LinesTexts.l0]
    rw [if_pos (by omega), if_pos (by omega), rd_at all _ hlt, hat, g2 k (by omega), Option.bind_some, g1 k (by omega), Option.bind_some, if_pos rfl, wrap_succ _ (by omega), g3 k (by omega)]
theorem LinesTexts_pure (l0 : List S35) : ∃ k, unicodetextlaw09_LinesTexts.f k l0 = some true := by
  obtain ⟨KA, hA⟩ := alive_at
  obtain ⟨K1, g1⟩ := few_ev l0
  dsimp only at g1
  cases hs : smallT l0 with
  | false =>
    rw [hs] at g1
    refine ⟨KA + K1, ?_⟩
    unfold unicodetextlaw09_LinesTexts.f
    rw [g1 _ (by omega), Option.bind_some, if_neg (by decide), hA _ (by omega)]
  | true =>
    rw [hs] at g1
    obtain ⟨K2, g2⟩ := texts_loop l0 hs l0 [] rfl
    refine ⟨K1 + K2, ?_⟩
    unfold unicodetextlaw09_LinesTexts.f
    rw [g1 _ (by omega), Option.bind_some, if_pos rfl]
    exact g2 _ (by omega)

end Go.Proofs.YtljhhnpgpiglfaaDoor.Pr
