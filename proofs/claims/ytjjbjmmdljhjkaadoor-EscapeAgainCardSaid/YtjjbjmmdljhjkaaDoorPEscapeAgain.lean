/- EscapeAgain: the pure statement. -/
import Derived.Test.YtjjbjmmdljhjkaaDoorUDig
import Derived.Test.YtjjbjmmdljhjkaaDoorPrx16
namespace Go.Proofs.YtjjbjmmdljhjkaaDoor.Pr
open Go.RowKit Go.Proofs.YtjjbjmmdljhjkaaDoorW.PrintWords Go.Proofs.YtjjbjmmdljhjkaaDoorW.PrintLast Go.Proofs.YtjjbjmmdljhjkaaDoorW.PrintMore
set_option linter.unusedVariables false
set_option linter.unusedSimpArgs false

theorem again_codes (l : List UInt8) (hl : l.length ≤ 1000) (KA : Nat) (hA : ∀ k, KA ≤ k → ((unicodetextlaw05_alive.f k).bind fun t => some t) = some true) :
    ∃ K, ∀ k, K ≤ k → ((escape_ParseCodes.f k (ofL l)).bind fun bt336 => ((escape_Codes.f k bt336.1).bind fun bt340 => (if bt336.2 = 0 then (if bt340.2 = 0 then (if bt340.1.toList = (ofL l).toList then ((unicodetextlaw05_alive.f k).bind fun t342 => (some t342)) else (some false)) else (some false)) else (if (bt336.1.length : Int) = 0 then ((unicodetextlaw05_alive.f k).bind fun t343 => (some t343)) else (some false))))) = some true := by
  have hlen := readCodes_len l
  obtain ⟨K1, h1⟩ := pcodes l (by omega)
  obtain ⟨K2, h2⟩ := codes_ev (readCodes l).1 (by omega)
  dsimp only at h1 h2
  refine ⟨KA + K1 + K2, fun k hk => ?_⟩
  rw [h1 k (by omega), Option.bind_some, h2 k (by omega), Option.bind_some]
  rcases readCodes_bad l with h | h
  · rw [if_pos h, codes_read l (readCodes l).1 (by rw [← h]), if_pos (by trivial), if_pos (by trivial), hA k (by omega)]
  · rw [h, if_neg (by decide), if_pos (by decide), hA k (by omega)]

theorem EscapeAgain_pure : unicodetextlaw05_EscapeAgain.Pure := by
  intro s codes _ _
  obtain ⟨KA, hA⟩ := alive_at
  obtain ⟨l, rfl, hl⟩ := ofL_of s
  obtain ⟨c, rfl, hc⟩ := ofL_of codes
  have hj0 : ∀ x, x = true → unicodetextlaw05_EscapeAgain.j0 (KA + 1) (ofL l) (ofL c) x = some true := by
    rintro x rfl
    simp only [unicodetextlaw05_EscapeAgain.j0]
    rw [if_pos (by trivial), hA KA (by omega)]
  by_cases h : ((ofL l).size : Int) > 400
  · refine ⟨KA + 1, ?_⟩
    unfold unicodetextlaw05_EscapeAgain.f
    rw [if_pos h, hj0 _ rfl]
  · by_cases h' : ((ofL c).size : Int) > 400
    · refine ⟨KA + 1, ?_⟩
      unfold unicodetextlaw05_EscapeAgain.f
      rw [if_neg h, hj0 _ (decide_eq_true h')]
    · obtain ⟨KC, hC⟩ := again_codes c (by omega) KA hA
      have hs := parse_sound l
      have hp := pieces_len (parseL l).1
      obtain ⟨K1, h1⟩ := parse_ev l
      obtain ⟨K2, h2⟩ := parse_ev (textL (parseL l).1)
      obtain ⟨K3, h3⟩ := equal_self (parseL l).1 (by omega)
      rw [parse_text _ hs.1 (by omega)] at h2
      dsimp only at h1 h2 h3
      refine ⟨KA + KC + K1 + K2 + K3 + 2, ?_⟩
      unfold unicodetextlaw05_EscapeAgain.f
      rw [if_neg h, decide_eq_false h']
      simp only [unicodetextlaw05_EscapeAgain.j0]
      rw [if_neg (by decide), h1 _ (by omega), Option.bind_some]
      by_cases h0 : (parseL l).2.1 = 0
      · rw [if_pos h0, text_f _ (by omega), if_pos hs.1, Option.bind_some, h2 _ (by omega), Option.bind_some]
        dsimp only
        rw [if_pos (by trivial), if_pos (by trivial), h3 _ (by omega), Option.bind_some]
        simp only [unicodetextlaw05_EscapeAgain.j1, Bool.not_true]
        rw [if_neg (by decide)]
        exact hC _ (by omega)
      · rw [if_neg h0]
        exact hC _ (by omega)

end Go.Proofs.YtjjbjmmdljhjkaaDoor.Pr
