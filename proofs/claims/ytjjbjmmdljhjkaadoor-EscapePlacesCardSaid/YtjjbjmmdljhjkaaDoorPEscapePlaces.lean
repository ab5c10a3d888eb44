/- EscapePlaces: the pure statement. -/
import Derived.Test.YtjjbjmmdljhjkaaDoorUDig
import Derived.Test.YtjjbjmmdljhjkaaDoorPrx14
namespace Go.Proofs.YtjjbjmmdljhjkaaDoor.Pr
open Go.RowKit Go.Proofs.YtjjbjmmdljhjkaaDoorW.PrintWords Go.Proofs.YtjjbjmmdljhjkaaDoorW.PrintLast Go.Proofs.YtjjbjmmdljhjkaaDoorW.PrintMore
set_option linter.unusedVariables false
set_option linter.unusedSimpArgs false

theorem parse_places (l : List UInt8) (hl : l.length ≤ 400) :
    ((parseL l).2.1 = 0 ∧ (parseL l).2.2 = 0) ∨ ((parseL l).2.1 = 3 ∧ (parseL l).1 = [] ∧ ∃ q : Nat, (parseL l).2.2 = q ∧ q ≤ l.length ∧
      (((parseL (l.take q)).2.1 = 0 ∧ (parseL (l.take q)).2.2 = 0) ∨ ((parseL (l.take q)).2.1 = 3 ∧ (parseL (l.take q)).2.2 = q))) := by
  match l, hl with
  | [], _ => exact Or.inr ⟨rfl, rfl, 0, rfl, by simp, Or.inr ⟨rfl, rfl⟩⟩
  | b :: t, hl =>
    have hb : ¬ 65536 < (b :: t).length := by omega
    by_cases h34 : b = 34
    · have hp : parseL (b :: t) = parsL t.length t [] 1 := by unfold parseL; rw [if_neg hb]; simp [h34]
      rw [hp]
      rcases pars_errno t.length t [] 1 with h | h
      · exact Or.inl h
      · right
        obtain ⟨q, e1, e2, e3⟩ := pars_prefix t.length t [] 1 (Nat.le_refl _) h.1
        refine ⟨h.1, h.2, 1 + q, e1, by simp; omega, ?_⟩
        have hq : parseL ((b :: t).take (1 + q)) = parsL (t.take q).length (t.take q) [] 1 := by
          rw [show 1 + q = q + 1 by omega, List.take_succ_cons]
          unfold parseL
          rw [if_neg (by rw [List.length_cons, List.length_take]; simp at hb ⊢; omega)]
          simp [h34]
        rw [hq]
        exact e3 _ (by rw [List.length_take]; omega)
    · have hp : parseL (b :: t) = ([], 3, 0) := by unfold parseL; rw [if_neg hb]; simp [h34]
      rw [hp]
      exact Or.inr ⟨rfl, rfl, 0, rfl, by simp, Or.inr ⟨rfl, rfl⟩⟩

theorem EscapePlaces_pure : unicodetextlaw05_EscapePlaces.Pure := by
  intro s _
  obtain ⟨KA, hA⟩ := alive_at
  obtain ⟨l, rfl, hl⟩ := ofL_of s
  by_cases h : ((ofL l).size : Int) > 400
  · refine ⟨KA, ?_⟩
    unfold unicodetextlaw05_EscapePlaces.f
    rw [if_pos h, hA KA (by omega)]
  · obtain ⟨K1, h1⟩ := parse_ev l
    dsimp only at h1
    rcases parse_places l (by omega) with ⟨e1, e2⟩ | ⟨e1, e2, q, e3, e4, e5⟩
    · refine ⟨KA + K1, ?_⟩
      unfold unicodetextlaw05_EscapePlaces.f
      rw [if_neg h, h1 _ (by omega), Option.bind_some, if_pos e1, if_pos e2, hA _ (by omega)]
    · obtain ⟨K2, h2⟩ := parse_ev (l.take q)
      dsimp only at h2
      refine ⟨KA + K1 + K2 + 1, ?_⟩
      unfold unicodetextlaw05_EscapePlaces.f
      rw [if_neg h, h1 _ (by omega), Option.bind_some, e1, e2, e3, if_neg (by decide), if_pos (by trivial), if_neg (by omega), if_neg (by rw [ofL_size]; omega)]
      have ed : decide ((([] : List Int).length : Int) > 0) = false := by decide
      rw [ed]
      simp only [unicodetextlaw05_EscapePlaces.j0]
      have ex : (ofL l).extract 0 q = ofL (l.take q) := by rw [ofL_extract]; simp
      rw [if_neg (by decide), if_pos (by omega), if_pos (by rw [ofL_size]; omega), Int.toNat_natCast, ex, h2 _ (by omega), Option.bind_some]
      rcases e5 with ⟨g1, g2⟩ | ⟨g1, g2⟩
      · rw [g1, g2, if_pos (by decide), hA _ (by omega)]
      · rw [g1, g2, if_neg (by simp), if_pos (by simp), hA _ (by omega)]

end Go.Proofs.YtjjbjmmdljhjkaaDoor.Pr
