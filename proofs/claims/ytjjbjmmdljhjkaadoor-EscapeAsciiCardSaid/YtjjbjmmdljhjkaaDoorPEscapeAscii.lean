/- EscapeAscii: the pure statement. -/
import Derived.Test.YtjjbjmmdljhjkaaDoorUDig
import Derived.Test.YtjjbjmmdljhjkaaDoorPrx11
namespace Go.Proofs.YtjjbjmmdljhjkaaDoor.Pr
open Go.RowKit Go.Proofs.YtjjbjmmdljhjkaaDoorW.PrintWords Go.Proofs.YtjjbjmmdljhjkaaDoorW.PrintLast Go.Proofs.YtjjbjmmdljhjkaaDoorW.PrintMore
set_option linter.unusedVariables false
set_option linter.unusedSimpArgs false

theorem piece_ascii (c : Int) (h : validB c = true) : ∀ b ∈ pieceL c, 32 ≤ b.toNat ∧ b.toNat ≤ 126 := by
  obtain ⟨n, rfl, hn⟩ := valid_nat c h
  intro b hb
  by_cases hp : plainB n = true
  · have hbd := plainB_bd n hp
    rw [piece_plain _ hp, Int.toNat_natCast, List.mem_singleton] at hb
    subst hb
    rw [UInt8.toNat_ofNat']
    have : n % 2 ^ 8 = n := Nat.mod_eq_of_lt (by omega)
    omega
  · have hp : plainB n = false := Bool.eq_false_iff.2 hp
    by_cases hq : (n : Int) = 34 ∨ (n : Int) = 92
    · rw [piece_quote _ hp hq, Int.toNat_natCast] at hb
      rcases hq with e | e
      · obtain rfl : n = 34 := by omega
        revert b; decide
      · obtain rfl : n = 92 := by omega
        revert b; decide
    · rw [piece_else _ hp hq] at hb
      rcases List.mem_append.1 hb with hb | hb
      · rcases List.mem_append.1 hb with hb | hb
        · exact (by decide : ∀ b ∈ ([92, 117, 123] : List UInt8), 32 ≤ b.toNat ∧ b.toNat ≤ 126) b hb
        · rcases short_mem n hn b hb with rfl | h
          · decide
          · have := hexL_ascii n b h; omega
      · rw [List.mem_singleton] at hb; subst hb; decide
theorem text_ascii (xs : List Int) (h : xs.all validB = true) : ∀ b ∈ textL xs, 32 ≤ b.toNat ∧ b.toNat ≤ 126 := by
  intro b hb
  unfold textL at hb
  rcases List.mem_append.1 hb with hb | hb
  · rcases List.mem_append.1 hb with hb | hb
    · rw [List.mem_singleton] at hb; subst hb; decide
    · obtain ⟨c, hc, hb⟩ := List.mem_flatMap.1 hb
      exact piece_ascii c (List.all_eq_true.1 h c hc) b hb
  · rw [List.mem_singleton] at hb; subst hb; decide

theorem ascii_loop (l : List UInt8) (hl : l.length ≤ 1000000) (ha : ∀ b ∈ l, 32 ≤ b.toNat ∧ b.toNat ≤ 126) (KA : Nat) (hA : ∀ k, KA ≤ k → ((unicodetextlaw05_alive.f k).bind fun t => some t) = some true) (d : Nat) :
    ∀ (i k : Nat), i + d = l.length → KA + d + 1 ≤ k → unicodetextlaw05_EscapeAscii.l0 k (ofL l) (i : Int) = some true := by
  induction d with
  | zero =>
    intro i k hi hk
    obtain ⟨k, rfl⟩ : ∃ m, k = m + 1 := ⟨k - 1, by omega⟩
    simp only [unicodetextlaw05_EscapeAscii.l0]
    rw [if_neg (by rw [ofL_size]; omega), hA k (by omega)]
  | succ d ih =>
    intro i k hi hk
    obtain ⟨k, rfl⟩ : ∃ m, k = m + 1 := ⟨k - 1, by omega⟩
    have hlt : i < l.length := by omega
    have hb := ha l[i] (List.getElem_mem hlt)
    simp only [unicodetextlaw05_EscapeAscii.l0]
    rw [if_pos (by rw [ofL_size]; omega), if_pos (by omega), bt_ofL l i hlt, if_neg (by omega), if_neg (by omega), wrap_succ i (by omega)]
    exact ih (i + 1) k (by omega) (by omega)

theorem EscapeAscii_pure : unicodetextlaw05_EscapeAscii.Pure := by
  intro xs _ _ _
  obtain ⟨KA, hA⟩ := alive_at
  by_cases h : (xs.length : Int) > 40
  · refine ⟨KA, ?_⟩
    unfold unicodetextlaw05_EscapeAscii.f
    rw [if_pos h, hA KA (by omega)]
  · have hp := pieces_len xs
    by_cases hv : xs.all validB = true
    · have hsz : (textL xs).length = (xs.flatMap pieceL).length + 2 := by unfold textL; simp only [List.length_append, List.length_cons, List.length_nil]; omega
      have ht := text_ascii xs hv
      have h0 : bt (ofL (textL xs)) ((0 : Nat) : Int) = 34 := by
        rw [bt_ofL (textL xs) 0 (by omega)]
        rfl
      have h1 : bt (ofL (textL xs)) (((textL xs).length - 1 : Nat) : Int) = 34 := by
        rw [bt_ofL (textL xs) _ (by omega)]
        have : (textL xs)[(textL xs).length - 1]'(by omega) = 34 := by
          unfold textL
          simp
        rw [this]
        rfl
      refine ⟨KA + (textL xs).length + 2, ?_⟩
      unfold unicodetextlaw05_EscapeAscii.f
      rw [if_neg h, text_f xs (by omega), if_pos hv, Option.bind_some]
      dsimp only
      rw [if_pos (by trivial), ofL_size, if_neg (by omega), wrap_id (x := 10 * _) (by omega) (by omega), wrap_id (x := 2 + _) (by omega) (by omega), if_neg (by omega), if_pos (by omega), show (0 : Int) = ((0 : Nat) : Int) from rfl, if_pos h0,
        wrap_id (by omega) (by omega), show ((textL xs).length : Int) - 1 = (((textL xs).length - 1 : Nat) : Int) by omega, if_pos (by omega), if_pos (by omega), h1]
      have e : ((34 : Int) != 34) = false := rfl
      rw [e, show KA + (textL xs).length + 2 = (KA + (textL xs).length + 1) + 1 from rfl]
      simp only [unicodetextlaw05_EscapeAscii.j0]
      rw [if_neg (by decide)]
      exact ascii_loop (textL xs) (by omega) ht KA hA (textL xs).length 0 _ (by omega) (by omega)
    · refine ⟨KA, ?_⟩
      unfold unicodetextlaw05_EscapeAscii.f
      rw [if_neg h, text_f xs (by omega), if_neg hv, Option.bind_some]
      dsimp only
      rw [if_neg (by decide), hA KA (by omega)]

end Go.Proofs.YtjjbjmmdljhjkaaDoor.Pr
