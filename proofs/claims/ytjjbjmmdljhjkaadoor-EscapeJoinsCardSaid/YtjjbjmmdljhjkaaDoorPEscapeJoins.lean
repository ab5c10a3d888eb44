/- EscapeJoins: the pure statement. -/
import Derived.Test.YtjjbjmmdljhjkaaDoorUDig
import Derived.Test.YtjjbjmmdljhjkaaDoorPrx12
namespace Go.Proofs.YtjjbjmmdljhjkaaDoor.Pr
open Go.RowKit Go.Proofs.YtjjbjmmdljhjkaaDoorW.PrintWords Go.Proofs.YtjjbjmmdljhjkaaDoorW.PrintLast Go.Proofs.YtjjbjmmdljhjkaaDoorW.PrintMore
set_option linter.unusedVariables false
set_option linter.unusedSimpArgs false

theorem text_join (a b : List Int) : textL (a ++ b) = (textL a).take ((textL a).length - 1) ++ (textL b).drop 1 := by
  unfold textL
  rw [List.flatMap_append]
  have e : (([34] ++ a.flatMap pieceL ++ [34]).take (([34] ++ a.flatMap pieceL ++ [34]).length - 1) : List UInt8) = [34] ++ a.flatMap pieceL := by
    rw [List.take_append_of_le_length (by simp only [List.length_append, List.length_cons, List.length_nil]; omega)]
    exact List.take_of_length_le (by simp only [List.length_append, List.length_cons, List.length_nil]; omega)
  rw [e]
  simp

theorem EscapeJoins_pure : unicodetextlaw05_EscapeJoins.Pure := by
  intro a b _ _ _ _ _ _
  obtain ⟨KA, hA⟩ := alive_at
  have hj0 : ∀ x, x = true → unicodetextlaw05_EscapeJoins.j0 (KA + 1) a b x = some true := by
    rintro x rfl
    simp only [unicodetextlaw05_EscapeJoins.j0]
    rw [if_pos (by trivial), hA KA (by omega)]
  by_cases h : (a.length : Int) > 20
  · refine ⟨KA + 1, ?_⟩
    unfold unicodetextlaw05_EscapeJoins.f
    rw [if_pos h, hj0 _ rfl]
  · by_cases h' : (b.length : Int) > 20
    · refine ⟨KA + 1, ?_⟩
      unfold unicodetextlaw05_EscapeJoins.f
      rw [if_neg h, hj0 _ (decide_eq_true h')]
    · refine ⟨KA + 2, ?_⟩
      have hpa := pieces_len a
      have hpb := pieces_len b
      have hsa : (textL a).length = (a.flatMap pieceL).length + 2 := by unfold textL; simp only [List.length_append, List.length_cons, List.length_nil]; omega
      have hsb : (textL b).length = (b.flatMap pieceL).length + 2 := by unfold textL; simp only [List.length_append, List.length_cons, List.length_nil]; omega
      unfold unicodetextlaw05_EscapeJoins.f
      rw [if_neg h, decide_eq_false h']
      simp only [unicodetextlaw05_EscapeJoins.j0]
      rw [if_neg (by decide), text_f a (by omega), Option.bind_some, text_f b (by omega), Option.bind_some, Option.bind_some]
      simp only [List.length_nil, List.nil_append, Option.bind_some]
      rw [if_pos (by omega), if_pos (by omega), text_f (a ++ b) (by rw [List.length_append]; omega), Option.bind_some, List.all_append]
      have far : ∀ (x5 x7 x9 : ByteArray) (x10 : Int) (x : Bool), x = true → x10 = 1 → unicodetextlaw05_EscapeJoins.j1 (KA + 1) x5 x7 x9 x10 x = some true := by
        rintro x5 x7 x9 x10 x rfl rfl
        simp only [unicodetextlaw05_EscapeJoins.j1]
        rw [if_pos (by trivial), if_pos (by trivial), hA KA (by omega)]
      by_cases hv : a.all validB = true
      · by_cases hw : b.all validB = true
        · rw [if_pos hv, if_pos hw, if_pos (show (a.all validB && b.all validB) = true by rw [hv, hw]; rfl)]
          dsimp only
          rw [if_pos (by trivial)]
          have e : ((0 : Int) != 0) = false := rfl
          rw [e]
          simp only [unicodetextlaw05_EscapeJoins.j1]
          have hw1 : wrap64 ((((ofL (textL a)).size : Nat) : Int) - 1) = (((textL a).length - 1 : Nat) : Int) := by rw [ofL_size, wrap_id (by omega) (by omega)]; omega
          rw [if_neg (by decide), hw1, Int.toNat_natCast]
          have e1 : (ofL (textL a)).extract 0 ((textL a).length - 1) = ofL ((textL a).take ((textL a).length - 1)) := by rw [ofL_extract]; simp
          have e2 : (ofL (textL b)).extract 1 (ofL (textL b)).size = ofL ((textL b).drop 1) := by rw [ofL_extract, ofL_size, List.take_of_length_le (by simp)]
          rw [e1, e2, ofL_append, ← text_join]
          simp only [ofL_size]
          rw [if_neg (by omega), if_neg (by omega), if_pos (by trivial), if_pos (by omega), if_pos (by omega), if_pos (by omega), if_pos (by rw [List.length_take, List.length_drop]; omega), if_pos (by trivial), hA KA (by omega)]
        · rw [if_pos hv, if_neg hw, if_neg (show ¬ ((a.all validB && b.all validB) = true) by rw [hv]; simpa using hw)]
          dsimp only
          rw [if_pos (by trivial)]
          exact far _ _ _ _ _ rfl rfl
      · have hvb : a.all validB = false := Bool.eq_false_iff.2 hv
        rw [if_neg hv, if_neg (show ¬ ((a.all validB && b.all validB) = true) by rw [hvb]; simp)]
        dsimp only
        rw [if_neg (by decide)]
        exact far _ _ _ _ _ rfl rfl

end Go.Proofs.YtjjbjmmdljhjkaaDoor.Pr
