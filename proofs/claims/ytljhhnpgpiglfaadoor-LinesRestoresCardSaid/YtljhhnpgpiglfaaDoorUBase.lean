/- Plain laws of the notation of code points: the digits of a code point, their reading, and lists of bytes; the reference's functions and the program's compute them. -/
import Derived.Test.YtljhhnpgpiglfaaDoorPrx3
import Derived.Test.YtljhhnpgpiglfaaDoorPrx3
import Derived.Test.YtljhhnpgpiglfaaDoorPrx10
import Derived.Test.YtljhhnpgpiglfaaDoorHHex
import Derived.Lib.Strings
namespace Go.Proofs.YtljhhnpgpiglfaaDoor.Pr
open Go.RowKit Go.Proofs.YtljhhnpgpiglfaaDoorW.PrintWords Go.Proofs.YtljhhnpgpiglfaaDoorW.PrintLast Go.Proofs.YtljhhnpgpiglfaaDoorW.PrintMore
set_option linter.unusedVariables false
set_option linter.unusedSimpArgs false

/-! ### numbers, bytes, lists -/
theorem wrap_id {x : Int} (h0 : -9223372036854775808 ≤ x) (h1 : x ≤ 9223372036854775807) : wrap64 x = x := by unfold wrap64; omega
theorem wrap_succ (i : Nat) (h : i < 9223372036854775807) : wrap64 ((i : Int) + 1) = ((i + 1 : Nat) : Int) := by unfold wrap64; omega

/-- A string by its list of bytes. -/
abbrev ofL (l : List UInt8) : ByteArray := ⟨l.toArray⟩
theorem ofL_eq (s : ByteArray) : ofL s.data.toList = s := by apply ByteArray.ext; simp
theorem ofL_list (l : List UInt8) : (ofL l).data.toList = l := by simp
theorem ofL_size (l : List UInt8) : (ofL l).size = l.length := rfl
theorem ofL_toList (l : List UInt8) : (ofL l).toList = l := by rw [Lib.toList_data]
theorem ofL_append (a b : List UInt8) : ofL a ++ ofL b = ofL (a ++ b) := by apply ByteArray.ext; simp
theorem ofL_inj {a b : List UInt8} : ofL a = ofL b ↔ a = b := ⟨fun h => by have := congrArg (fun s : ByteArray => s.data.toList) h; simpa using this, fun h => by rw [h]⟩
theorem ofL_extract (l : List UInt8) (i j : Nat) : (ofL l).extract i j = ofL ((l.drop i).take (j - i)) := by
  rw [← ofL_eq ((ofL l).extract i j), Lib.extract_data]
theorem bt_ofL (l : List UInt8) (i : Nat) (h : i < l.length) : bt (ofL l) (i : Int) = ((l[i]).toNat : Int) := by
  unfold bt
  have : ((i : Int)).toNat < (ofL l).size := by rw [ofL_size]; simpa using h
  rw [dif_pos this]
  rfl
theorem strOfNums_ofL (xs : List Int) : strOfNums xs = ofL (xs.map fun n => UInt8.ofNat n.toNat) := rfl

/-! ### the digits of a code point -/
def hexL (n : Nat) : List UInt8 := (hexNums n).map fun d => UInt8.ofNat d.toNat
theorem hexL_length (n : Nat) : (hexL n).length = hexLen n := by simp [hexL, hexNums]
theorem hexL_at (n j : Nat) (h : j < hexLen n) : (hexL n)[j]? = some (UInt8.ofNat (hexDig (n / 16 ^ (hexLen n - 1 - j) % 16)).toNat) := by
  simp [hexL, hexNums, h]
theorem hexOf_ofL (n : Nat) (h : n ≤ 1114111) : hexOf (n : Int) = ofL (hexL n) := by
  unfold hexOf
  rw [if_pos (by omega), Int.toNat_natCast]
  rfl

theorem digit_cut (d : Nat) (h : d < 16) : (⟨#[48, 49, 50, 51, 52, 53, 54, 55, 56, 57, 65, 66, 67, 68, 69, 70]⟩ : ByteArray).extract d (d + 1) = ofL [UInt8.ofNat (hexDig d).toNat] := by
  match d, h with
  | 0, _ | 1, _ | 2, _ | 3, _ | 4, _ | 5, _ | 6, _ | 7, _ | 8, _ | 9, _ | 10, _ | 11, _ | 12, _ | 13, _ | 14, _ | 15, _ => rfl
  | n + 16, h => omega

theorem ref_hex_step (n : Nat) (hn : n ≤ 1114111) (d : Nat) : ∀ (j k : Nat), j + d = hexLen n → d < k →
    unicodetextref01_Hex.l0 k ((n / 16 ^ j : Nat) : Int) (ofL ((hexL n).drop d)) = some (ofL (hexL n)) := by
  have hL := hexLen_le n
  induction d with
  | zero =>
    intro j k hj hk
    obtain ⟨k, rfl⟩ : ∃ m, k = m + 1 := ⟨k - 1, by omega⟩
    obtain rfl : j = hexLen n := by omega
    simp only [unicodetextref01_Hex.l0]
    rw [hexLen_stop n hn, List.drop_zero, ofL_size, hexL_length, if_neg (by omega), if_neg (by decide)]
  | succ d ih =>
    intro j k hj hk
    obtain ⟨k, rfl⟩ : ∃ m, k = m + 1 := ⟨k - 1, by omega⟩
    have hjl : j < hexLen n := by omega
    have hsz : (ofL ((hexL n).drop (d + 1))).size = j := by rw [ofL_size, List.length_drop, hexL_length]; omega
    have hq1 : n / 16 ^ (j + 1) = n / 16 ^ j / 16 := by rw [Nat.pow_succ, ← Nat.div_div_eq_div_mul]
    have hle : n / 16 ^ j ≤ 1114111 := Nat.le_trans (Nat.div_le_self _ _) hn
    have hd : (hexL n).drop d = UInt8.ofNat (hexDig (n / 16 ^ j % 16)).toNat :: (hexL n).drop (d + 1) := by
      have hdl : d < (hexL n).length := by rw [hexL_length]; omega
      have := hexL_at n d (by omega)
      rw [List.getElem?_eq_getElem hdl, show hexLen n - 1 - d = j by omega] at this
      rw [List.drop_eq_getElem_cons hdl, Option.some.inj this]
    have hpos : 4 ≤ j → 0 < n / 16 ^ j := fun h => hexLen_go n j hn hjl h
    have hih := ih (j + 1) k (by omega) (by omega)
    rw [hd, hq1] at hih
    obtain ⟨q, hq⟩ : ∃ q, n / 16 ^ j = q := ⟨_, rfl⟩
    rw [hq] at hle hpos hih ⊢
    have hmod : Int.tmod (q : Int) 16 = ((q % 16 : Nat) : Int) := by
      rw [Int.tmod_eq_emod_of_nonneg (by omega)]; rfl
    have hdiv : Int.tdiv (q : Int) 16 = ((q / 16 : Nat) : Int) := by
      rw [Int.tdiv_eq_ediv_of_nonneg (by omega)]; rfl
    have hlt : q % 16 < 16 := Nat.mod_lt _ (by decide)
    have hcut := digit_cut _ hlt
    simp only [unicodetextref01_Hex.l0, hmod, hdiv]
    rw [wrap_succ _ (by omega), wrap_id (by omega) (by omega), Int.toNat_natCast, Int.toNat_natCast, hcut, ofL_append, hsz, ofL_size]
    have hone : [UInt8.ofNat (hexDig (q % 16)).toNat].length = 1 := rfl
    rw [hone]
    by_cases h4 : j < 4
    · rw [if_pos (by omega), if_pos (by omega), if_pos (by omega), if_pos (by omega), if_pos (by omega)]
      exact hih
    · have := hpos (by omega)
      rw [if_neg (by omega), if_pos (by omega), if_pos (by omega), if_pos (by omega), if_pos (by omega), if_pos (by omega)]
      exact hih

theorem ref_valid (c : Int) : unicodetextref01_Valid.f c = some (decide (0 ≤ c ∧ c ≤ 1114111)) := by
  unfold unicodetextref01_Valid.f
  by_cases h0 : c ≥ 0
  · rw [if_pos h0]; congr 1; simp [h0]
  · rw [if_neg h0]; congr 1; simp; omega
theorem ref_hex (c : Int) : unicodetextref01_Hex.f 7 c = some (hexOf c) := by
  unfold unicodetextref01_Hex.f
  rw [ref_valid, Option.bind_some]
  by_cases h : 0 ≤ c ∧ c ≤ 1114111
  · rw [if_pos (by simpa using h)]
    obtain ⟨n, rfl⟩ := Int.eq_ofNat_of_zero_le h.1
    have hn : n ≤ 1114111 := by omega
    have hL := hexLen_le n
    have := ref_hex_step n hn (hexLen n) 0 7 (by omega) (by omega)
    rw [List.drop_of_length_le (by rw [hexL_length]; omega)] at this
    rw [hexOf_ofL n hn, ← this]
    simp
  · rw [if_neg (by simpa using h)]
    unfold hexOf
    rw [if_neg h]

/-! ### reading digits -/
def hv (b : Nat) : Int := if 48 ≤ b ∧ b ≤ 57 then (b : Int) - 48 else if 65 ≤ b ∧ b ≤ 70 then (b : Int) - 55 else -1
theorem hv_bd (b : Nat) : -1 ≤ hv b ∧ hv b ≤ 15 := by unfold hv; (repeat' split) <;> omega
theorem ref_digit_all : (List.range 256).all (fun b => unicodetextref01_digit.f 17 (b : Int) == some (hv b)) = true := by decide +kernel
theorem ref_digit (b : UInt8) (k : Nat) (hk : 17 ≤ k) : unicodetextref01_digit.f k (b.toNat : Int) = some (hv b.toNat) := by
  have h := List.all_eq_true.1 ref_digit_all b.toNat (List.mem_range.2 b.toNat_lt)
  exact at_rounds (fun k => unicodetextref01_digit.mono _ k) hk (by simpa using h)

def valL : List UInt8 → Int → Option Int
  | [], a => some a
  | b :: t, a => if hv b.toNat < 0 then none else valL t (16 * a + hv b.toNat)
def readV (l : List UInt8) : Option Int → Int × Int
  | none => (0, 3)
  | some v => if hexOf v = ofL l then (v, 0) else (0, 3)
theorem readV_some (l : List UInt8) (v : Int) : readV l (some v) = if hexOf v = ofL l then (v, 0) else (0, 3) := rfl
theorem valL_nil (a : Int) : valL [] a = some a := rfl
/-- The code point with some digits, or the error. -/
def parseS (l : List UInt8) : Int × Int := if 4 ≤ l.length ∧ l.length ≤ 6 then readV l (valL l 0) else (0, 3)

theorem hexOf_eq (v : Int) (l : List UInt8) : ((hexOf v).toList = (ofL l).toList) ↔ hexOf v = ofL l := by
  rw [Lib.toList_data, Lib.toList_data]
  constructor
  · intro h; rw [← ofL_eq (hexOf v), h, ofL_eq]
  · intro h; rw [h]

theorem pow_le6 (i : Nat) (h : i ≤ 6) : (16 : Int) ^ i ≤ 16777216 := by
  match i, h with
  | 0, _ | 1, _ | 2, _ | 3, _ | 4, _ | 5, _ | 6, _ => decide
  | n + 7, h => omega

theorem ref_parse_loop (l : List UInt8) (h6 : l.length ≤ 6) (d : Nat) : ∀ (i k : Nat) (a : Int), i + d = l.length → d + 20 ≤ k → 0 ≤ a → a < 16 ^ i →
    unicodetextref01_Parse.l0 k (ofL l) a (i : Int) = some (readV l (valL (l.drop i) a)) := by
  induction d with
  | zero =>
    intro i k a hi hk h0 h1
    obtain ⟨k, rfl⟩ : ∃ m, k = m + 1 := ⟨k - 1, by omega⟩
    simp only [unicodetextref01_Parse.l0]
    rw [if_neg (by rw [ofL_size]; omega), List.drop_of_length_le (by omega), at_rounds (fun k => unicodetextref01_Hex.mono _ k) (show 7 ≤ k by omega) (ref_hex a), Option.bind_some]
    rw [valL_nil, readV_some]
    by_cases h : hexOf a = ofL l
    · rw [if_pos ((hexOf_eq a l).2 h), if_pos h]
    · rw [if_neg (fun h' => h ((hexOf_eq a l).1 h')), if_neg h]
  | succ d ih =>
    intro i k a hi hk h0 h1
    obtain ⟨k, rfl⟩ : ∃ m, k = m + 1 := ⟨k - 1, by omega⟩
    have hlt : i < l.length := by omega
    have hp := pow_le6 i (by omega)
    have hb := hv_bd (l[i]).toNat
    simp only [unicodetextref01_Parse.l0]
    rw [if_pos (by rw [ofL_size]; omega), if_pos (by omega), bt_ofL l i hlt, ref_digit _ k (by omega), List.drop_eq_getElem_cons hlt]
    simp only [Option.bind_some, valL]
    by_cases hneg : hv (l[i]).toNat < 0
    · rw [if_pos hneg, if_pos hneg]; rfl
    · rw [if_neg hneg, if_neg hneg, wrap_id (x := 16 * a) (by omega) (by omega), wrap_id (by omega) (by omega), wrap_succ _ (by omega)]
      exact ih (i + 1) k _ (by omega) (by omega) (by omega) (by rw [Int.pow_succ]; omega)

theorem ref_parse (l : List UInt8) : Ev (fun k => unicodetextref01_Parse.f k (ofL l)) (parseS l) := by
  refine Ev.of (fun k => unicodetextref01_Parse.mono _ k) (k := l.length + 30) ?_
  unfold unicodetextref01_Parse.f parseS
  simp only [unicodetextref01_Parse.j0, ofL_size]
  by_cases h4 : l.length < 4
  · rw [if_pos (by omega), if_pos trivial, if_neg (by omega)]
  · rw [if_neg (by omega)]
    by_cases h6 : l.length ≤ 6
    · rw [if_neg (by simp; omega), if_pos ⟨by omega, h6⟩]
      exact ref_parse_loop l h6 l.length 0 _ 0 (by omega) (by omega) (by omega) (by simp)
    · rw [if_pos (by simp; omega), if_neg (by omega)]

theorem prog_parse_loop (l : List UInt8) (h6 : l.length ≤ 6) (hne : l ≠ []) (d : Nat) : ∀ (i k : Nat) (a : Int), i + d = l.length → 2 * d + 2 ≤ k → 0 ≤ a → a < 16 ^ i →
    codepoint_Parse.l0 k (ofL l) a (l.length : Int) (i : Int) = some (readV l (valL (l.drop i) a)) := by
  induction d with
  | zero =>
    intro i k a hi hk h0 h1
    obtain ⟨k, rfl⟩ : ∃ m, k = m + 1 := ⟨k - 1, by omega⟩
    simp only [codepoint_Parse.l0, codepoint_Hex.f]
    rw [if_neg (by omega), List.drop_of_length_le (by omega), if_neg (by rw [ofL_toList]; exact hne), Option.bind_some]
    rw [valL_nil, readV_some]
    by_cases h : hexOf a = ofL l
    · rw [if_pos ((hexOf_eq a l).2 h), if_pos h]
    · rw [if_neg (fun h' => h ((hexOf_eq a l).1 h')), if_neg h]
  | succ d ih =>
    intro i k a hi hk h0 h1
    obtain ⟨k, rfl⟩ : ∃ m, k = m + 2 := ⟨k - 2, by omega⟩
    have hlt : i < l.length := by omega
    have hp := pow_le6 i (by omega)
    have hih := fun v hv0 hv1 => ih (i + 1) k v (by omega) (by omega) hv0 hv1
    have hb256 := (l[i]).toNat_lt
    have hd : l.drop i = l[i] :: l.drop (i + 1) := List.drop_eq_getElem_cons hlt
    simp only [codepoint_Parse.l0, codepoint_Parse.j1]
    rw [if_pos (by omega), if_pos (by omega), if_pos (by rw [ofL_size]; omega), bt_ofL l i hlt, hd]
    simp only [valL]
    obtain ⟨b, hb⟩ : ∃ b, (l[i]).toNat = b := ⟨_, rfl⟩
    rw [hb] at hb256 ⊢
    by_cases h48 : 48 ≤ b
    · rw [if_pos (by omega)]
      by_cases h57 : b ≤ 57
      · have hh : hv b = (b : Int) - 48 := by unfold hv; rw [if_pos ⟨h48, h57⟩]
        rw [if_pos (by simp; omega), hh, if_neg (by omega), wrap_id (x := a * 16) (by omega) (by omega), wrap_id (by omega) (by omega), wrap_succ _ (by omega)]
        have := hih (16 * a + ((b : Int) - 48)) (by omega) (by rw [Int.pow_succ]; omega)
        rw [show a * 16 + ((b : Int) - 48) % 256 = 16 * a + ((b : Int) - 48) by omega]
        exact this
      · rw [if_neg (by simp; omega)]
        by_cases h65 : 65 ≤ b
        · rw [if_pos (by omega)]
          by_cases h70 : b ≤ 70
          · have hh : hv b = (b : Int) - 55 := by unfold hv; rw [if_neg (by omega), if_pos ⟨h65, h70⟩]
            rw [if_pos (by omega), hh, if_neg (by omega), wrap_id (x := a * 16) (by omega) (by omega), wrap_id (x := a * 16 + _) (by omega) (by omega), wrap_id (by omega) (by omega), wrap_succ _ (by omega)]
            have := hih (16 * a + ((b : Int) - 55)) (by omega) (by rw [Int.pow_succ]; omega)
            rw [show a * 16 + ((b : Int) - 65) % 256 + 10 = 16 * a + ((b : Int) - 55) by omega]
            exact this
          · have hh : hv b = -1 := by unfold hv; rw [if_neg (by omega), if_neg (by omega)]
            rw [if_neg (by omega), hh, if_pos (by decide)]; rfl
        · have hh : hv b = -1 := by unfold hv; rw [if_neg (by omega), if_neg (by omega)]
          rw [if_neg (by omega), hh, if_pos (by decide)]; rfl
    · have hh : hv b = -1 := by unfold hv; rw [if_neg (by omega), if_neg (by omega)]
      rw [if_neg (by omega), if_neg (by decide), if_neg (by omega), hh, if_pos (by decide)]; rfl

theorem hexOf_size (v : Int) : (hexOf v).size = 0 ∨ 4 ≤ (hexOf v).size := by
  unfold hexOf
  split
  · right
    rw [strOfNums_size]
    simp [hexNums]
    exact (hexLen_le _).1
  · left; rfl

theorem prog_parse (l : List UInt8) : Ev (fun k => codepoint_Parse.f k (ofL l)) (parseS l) := by
  refine Ev.of (fun k => codepoint_Parse.mono _ k) (k := 2 * l.length + 2) ?_
  unfold codepoint_Parse.f parseS
  rw [ofL_size]
  by_cases h6 : l.length ≤ 6
  · rw [if_neg (by omega)]
    by_cases hne : l = []
    · subst hne
      simp only [codepoint_Parse.l0, List.length_nil, ofL_toList]
      simp
    · have hpos : 0 < l.length := List.length_pos_iff.2 hne
      have := prog_parse_loop l h6 hne l.length 0 (2 * l.length + 2) 0 (by omega) (by omega) (by omega) (by simp)
      rw [List.drop_zero] at this
      refine Eq.trans this ?_
      by_cases h4 : 4 ≤ l.length
      · rw [if_pos ⟨h4, h6⟩]
      · rw [if_neg (by omega)]
        cases hv : valL l 0 with
        | none => rfl
        | some v =>
          rw [readV_some, if_neg]
          intro h
          have hs := hexOf_size v
          rw [h, ofL_size] at hs
          omega
  · rw [if_pos (by omega), if_neg (by omega)]

end Go.Proofs.YtljhhnpgpiglfaaDoor.Pr
