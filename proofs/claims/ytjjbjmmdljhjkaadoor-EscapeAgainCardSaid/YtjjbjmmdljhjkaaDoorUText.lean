/- Plain laws: the reference's Text is the program's Text. -/
import Derived.Test.YtjjbjmmdljhjkaaDoorUBase
import Derived.Test.YtjjbjmmdljhjkaaDoorHText
import Derived.Test.YtjjbjmmdljhjkaaDoorPrx6
namespace Go.Proofs.YtjjbjmmdljhjkaaDoor.Pr
open Go.RowKit Go.Proofs.YtjjbjmmdljhjkaaDoorW.PrintWords Go.Proofs.YtjjbjmmdljhjkaaDoorW.PrintLast Go.Proofs.YtjjbjmmdljhjkaaDoorW.PrintMore
set_option linter.unusedVariables false
set_option linter.unusedSimpArgs false

theorem rd_at (xs : List Int) (i : Nat) (h : i < xs.length) : rd xs (i : Int) = xs[i] := by simp [rd, h]

/-- Digits without leading zeros. -/
def trim0 (l : List UInt8) : List UInt8 := if Lib.trimLeftB l 48 = [] then [48] else Lib.trimLeftB l 48
theorem shortL_trim (c : Int) : shortL c = trim0 (hexOf c).data.toList := rfl
theorem u8_eq (b : UInt8) (n : Nat) (h : n < 256) : ((b.toNat : Int) = (n : Int)) ↔ b = UInt8.ofNat n := by
  constructor
  · intro e
    have : b.toNat = n := by omega
    apply UInt8.toNat_inj.1
    rw [this, UInt8.toNat_ofNat']
    exact (Nat.mod_eq_of_lt h).symm
  · rintro rfl
    rw [UInt8.toNat_ofNat']
    have := Nat.mod_eq_of_lt (show n < 2 ^ 8 from h)
    omega

theorem u8_32 (b : UInt8) : ((b.toNat : Int) = 32) ↔ b = 32 := u8_eq b 32 (by decide)
theorem u8_34 (b : UInt8) : ((b.toNat : Int) = 34) ↔ b = 34 := u8_eq b 34 (by decide)
theorem u8_48 (b : UInt8) : ((b.toNat : Int) = 48) ↔ b = 48 := u8_eq b 48 (by decide)
theorem u8_92 (b : UInt8) : ((b.toNat : Int) = 92) ↔ b = 92 := u8_eq b 92 (by decide)
theorem u8_117 (b : UInt8) : ((b.toNat : Int) = 117) ↔ b = 117 := u8_eq b 117 (by decide)
theorem u8_123 (b : UInt8) : ((b.toNat : Int) = 123) ↔ b = 123 := u8_eq b 123 (by decide)
theorem u8_125 (b : UInt8) : ((b.toNat : Int) = 125) ↔ b = 125 := u8_eq b 125 (by decide)

theorem digits_loop : ∀ (l : List UInt8) (k : Nat), l ≠ [] → l.length < k → l.length ≤ 1000 → unicodetextref05_digits.l0 k (ofL l) = some (ofL (trim0 l))
  | [], _, h, _, _ => absurd rfl h
  | [b], k, _, hk, _ => by
    obtain ⟨k, rfl⟩ : ∃ m, k = m + 1 := ⟨k - 1, by omega⟩
    simp only [unicodetextref05_digits.l0]
    rw [if_neg (by rw [ofL_size]; simp)]
    congr 2
    unfold trim0 Lib.trimLeftB
    by_cases hb : b = 48
    · subst hb; rfl
    · rw [List.dropWhile_cons_of_neg (by simpa using hb)]; rfl
  | b :: c :: t, k, _, hk, hl => by
    obtain ⟨k, rfl⟩ : ∃ m, k = m + 1 := ⟨k - 1, by omega⟩
    have h1 : ((ofL (b :: c :: t)).size : Int) > 1 := by rw [ofL_size]; simp; omega
    have hb0 : bt (ofL (b :: c :: t)) 0 = (b.toNat : Int) := bt_ofL (b :: c :: t) 0 (by simp)
    simp only [unicodetextref05_digits.l0]
    rw [if_pos h1, if_pos (by omega), hb0]
    by_cases hb : b = 48
    · subst hb
      rw [if_pos (by decide), if_pos (by omega), ofL_extract, ofL_size]
      have e : ((48 :: c :: t).drop 1).take ((48 :: c :: t).length - 1) = c :: t := by simp
      rw [e, digits_loop (c :: t) k (by simp) (by simp at hk ⊢; omega) (by simp at hl ⊢; omega)]
      rfl
    · rw [if_neg (fun e => hb ((u8_48 b).1 e))]
      congr 2
      unfold trim0 Lib.trimLeftB
      rw [List.dropWhile_cons_of_neg (by simpa using hb)]
      rfl

theorem hexOf_short (c : Int) (h : 0 ≤ c ∧ c ≤ 1114111) : (hexOf c).data.toList ≠ [] ∧ (hexOf c).data.toList.length ≤ 6 := by
  obtain ⟨n, rfl⟩ := Int.eq_ofNat_of_zero_le h.1
  rw [hexOf_ofL n (by omega), ofL_list]
  have := hexLen_le n
  have hl := hexL_length n
  exact ⟨fun e => by rw [e] at hl; simp at hl; omega, by omega⟩

theorem ref_digits (c : Int) (h : 0 ≤ c ∧ c ≤ 1114111) (k : Nat) (hk : 7 ≤ k) : unicodetextref05_digits.f k c = some (ofL (shortL c)) := by
  have hs := hexOf_short c h
  unfold unicodetextref05_digits.f
  rw [at_rounds (fun k => unicodetextref01_Hex.mono _ k) hk (ref_hex c), Option.bind_some, ← ofL_eq (hexOf c), digits_loop _ k hs.1 (by omega) (by omega)]
  rfl

theorem ref_text_one (xs : List Int) (A : List UInt8) (i k : Nat) (c : Int) (h : 0 ≤ c ∧ c ≤ 1114111) (hk : 7 ≤ k) (hA : A.length ≤ 100000000) (hi : i ≤ 1000000) :
    (if c < 32 then unicodetextref05_Text.j1 (k + 1) xs (ofL A) i c true else unicodetextref05_Text.j1 (k + 1) xs (ofL A) i c (decide (c > 126))) = unicodetextref05_Text.l0 k xs (ofL (A ++ pieceL c)) ((i + 1 : Nat) : Int) := by
  have hsl := short_len c
  have far : c < 32 ∨ c > 126 → unicodetextref05_Text.j1 (k + 1) xs (ofL A) i c true = unicodetextref05_Text.l0 k xs (ofL (A ++ pieceL c)) ((i + 1 : Nat) : Int) := by
    intro hf
    have hp : plainB c = false := by unfold plainB; simp; intros; omega
    simp only [unicodetextref05_Text.j1]
    rw [if_pos trivial, ref_digits c h k hk, Option.bind_some, show (⟨#[92, 117, 123]⟩ : ByteArray) = ofL [92, 117, 123] from rfl, show (⟨#[125]⟩ : ByteArray) = ofL [125] from rfl, ofL_append, ofL_append, ofL_append, wrap_succ i (by omega), piece_else c hp (by omega)]
    simp only [ofL_size, List.length_append, List.length_cons, List.length_nil]
    rw [if_pos (by omega), if_pos (by omega), if_pos (by omega)]
    simp only [List.append_assoc]
  by_cases h1 : c < 32
  · rw [if_pos h1]; exact far (Or.inl h1)
  · rw [if_neg h1]
    by_cases h2 : c > 126
    · rw [decide_eq_true h2]; exact far (Or.inr h2)
    · rw [decide_eq_false h2]
      have e256 : c % 256 = c := by omega
      simp only [unicodetextref05_Text.j1, e256, Option.bind_some, strOfNums_ofL, List.map_cons, List.map_nil]
      rw [if_neg (by decide)]
      by_cases hq : c = 34
      · have hp : plainB c = false := by unfold plainB; simp; intros; omega
        rw [if_pos hq, show (⟨#[92]⟩ : ByteArray) = ofL [92] from rfl, ofL_append, ofL_append, wrap_succ i (by omega), piece_quote c hp (Or.inl hq)]
        simp only [ofL_size, List.length_append, List.length_cons, List.length_nil]
        rw [if_pos (by omega), if_pos (by omega)]
        simp only [List.append_assoc, List.cons_append, List.nil_append]
      · rw [if_neg hq]
        by_cases hs : c = 92
        · have hp : plainB c = false := by unfold plainB; simp; intros; omega
          rw [if_pos hs, show (⟨#[92]⟩ : ByteArray) = ofL [92] from rfl, ofL_append, ofL_append, wrap_succ i (by omega), piece_quote c hp (Or.inr hs)]
          simp only [ofL_size, List.length_append, List.length_cons, List.length_nil]
          rw [if_pos (by omega), if_pos (by omega)]
          simp only [List.append_assoc, List.cons_append, List.nil_append]
        · have hp : plainB c = true := by unfold plainB; simp; omega
          rw [if_neg hs, ofL_append, wrap_succ i (by omega), piece_plain c hp]
          simp only [ofL_size, List.length_append, List.length_cons, List.length_nil]
          rw [if_pos (by omega)]

theorem ref_text_loop (xs : List Int) (hx : xs.length ≤ 1000000) (d : Nat) : ∀ (i k : Nat) (A : List UInt8), i + d = xs.length → 2 * d + 12 ≤ k → A.length ≤ 10 * i + 1 →
    unicodetextref05_Text.l0 k xs (ofL A) (i : Int) = some (if (xs.drop i).all validB then (ofL (A ++ (xs.drop i).flatMap pieceL ++ [34]), 0) else (ofL [], 1)) := by
  induction d with
  | zero =>
    intro i k A hi hk hA
    obtain ⟨k, rfl⟩ : ∃ m, k = m + 1 := ⟨k - 1, by omega⟩
    simp only [unicodetextref05_Text.l0]
    rw [if_neg (by omega), Option.bind_some, strOfNums_ofL, ofL_append, List.drop_of_length_le (by omega)]
    simp only [ofL_size, List.length_cons, List.length_nil, List.map_cons, List.map_nil]
    rw [if_pos (by omega)]
    simp
  | succ d ih =>
    intro i k A hi hk hA
    obtain ⟨k, rfl⟩ : ∃ m, k = m + 2 := ⟨k - 2, by omega⟩
    have hlt : i < xs.length := by omega
    obtain ⟨c, hc⟩ : ∃ c, xs[i] = c := ⟨_, rfl⟩
    have hd : xs.drop i = c :: xs.drop (i + 1) := by rw [List.drop_eq_getElem_cons hlt, hc]
    have hpl := piece_len c
    simp only [unicodetextref05_Text.l0]
    rw [if_pos (by omega), if_pos (by omega), rd_at xs i hlt, hc, ref_valid, Option.bind_some, hd]
    by_cases hv : 0 ≤ c ∧ c ≤ 1114111
    · have hB : validB c = true := by unfold validB; exact decide_eq_true hv
      rw [if_pos (decide_eq_true hv), ref_text_one xs A i k c hv (by omega) (by omega) (by omega), ih (i + 1) k _ (by omega) (by omega) (by rw [List.length_append]; omega)]
      simp only [List.all_cons, hB, Bool.true_and, List.flatMap_cons, List.append_assoc]
    · have hB : validB c = false := by unfold validB; exact decide_eq_false hv
      rw [if_neg (by rw [decide_eq_false hv]; decide)]
      simp only [List.all_cons, hB, Bool.false_and]
      rfl

theorem ref_text (xs : List Int) (hx : xs.length ≤ 1000000) : Ev (fun k => unicodetextref05_Text.f k xs) (if xs.all validB then (ofL (textL xs), 0) else (ofL [], 1)) := by
  refine Ev.of (fun k => unicodetextref05_Text.mono _ k) (k := 2 * xs.length + 12) ?_
  unfold unicodetextref05_Text.f
  exact ref_text_loop xs hx xs.length 0 _ [34] (by omega) (by omega) (by simp)

theorem text_f (xs : List Int) (hx : xs.length ≤ 1000000) : escape_Text.f xs = some (if xs.all validB then (ofL (textL xs), 0) else (ofL [], 1)) := by
  unfold escape_Text.f
  rw [if_pos hx]

end Go.Proofs.YtjjbjmmdljhjkaaDoor.Pr
