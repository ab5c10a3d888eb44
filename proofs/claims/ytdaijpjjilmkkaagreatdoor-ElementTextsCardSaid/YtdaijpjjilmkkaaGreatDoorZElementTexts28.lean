/- Texts of the claim ElementTexts, joined: EEval, HFile, ELaw. -/
import Derived.Test.YtdaijpjjilmkkaaGreatDoorZElementTexts26
import Derived.Test.YtdaijpjjilmkkaaGreatDoorZElementTexts25
import Derived.Test.YtdaijpjjilmkkaaGreatDoorZElementTexts23
import Derived.Test.YtdaijpjjilmkkaaGreatDoorZElementTexts24
import Derived.Test.YtdaijpjjilmkkaaGreatDoorZElementTexts27
import Derived.Lib.Hide
import Derived.Lib.ItoaLen
import Derived.WalkMore
/- Plain laws: what the printed functions of the program compute: Check, checkAll, Text, Parse, Codes, ParseCodes, checkFile. -/
namespace Go.Proofs.YtdaijpjjilmkkaaGreatDoor.Pr
open Go.RowKit Go.Proofs.YtdaijpjjilmkkaaGreatDoorW.PrintWords Go.Proofs.YtdaijpjjilmkkaaGreatDoorW.PrintLast Go.Proofs.YtdaijpjjilmkkaaGreatDoorW.PrintMore
set_option linter.unusedVariables false
set_option linter.unusedSimpArgs false
theorem check_ev (x : S44) : Ev (fun k => element_Check.f k x.f0 x.f1 x.f2 x.f3) (checkE x) := by
  obtain ⟨a, b, c, d⟩ := x
  refine Ev.of (fun k => element_Check.mono _ _ _ _ k) (k := 1) ?_
  dsimp only
  by_cases h : (0 ≤ a ∧ a ≤ 65535) ∧ (0 ≤ b ∧ b ≤ 65535) ∧ (0 ≤ c ∧ c ≤ 65535)
  · have e1 : ¬ mn (mn a b) c < 0 := by unfold mn; (repeat' split) <;> omega
    have e2 : decide (mx (mx a b) c > 65535) = false := decide_eq_false (by unfold mx; (repeat' split) <;> omega)
    have e3 : wrap64 (a + b) = a + b := by unfold wrap64; omega
    have e4 : (mn (a + b) 1 > c) ↔ (c = 0 ∧ a + b ≠ 0) := by unfold mn; split <;> omega
    unfold element_Check.f checkE
    simp only [element_Check.j0]
    rw [if_neg e1, e2, if_neg (by decide), if_pos h, e3]
    by_cases ha : a = 0
    · rw [if_pos ha]
      by_cases hm : mn (a + b) 1 > c
      · rw [if_pos hm, if_pos (by have := e4.1 hm; right; left; omega)]
      · rw [if_neg hm]
        have hn : ¬ (c = 0 ∧ a + b ≠ 0) := fun e => hm (e4.2 e)
        cases d with
        | true => rw [if_pos rfl, if_pos (.inr (.inr ⟨rfl, ha⟩))]
        | false => rw [if_neg (by decide), if_neg (by rintro (⟨h1, _⟩ | ⟨h1, h2⟩ | ⟨h1, _⟩); exact h1 ha; exact hn ⟨h2, by omega⟩; cases h1)]
    · rw [if_neg ha]
      by_cases hb : b = 0
      · rw [if_pos hb, if_pos (.inl ⟨ha, .inl hb⟩)]
      · rw [if_neg hb]
        by_cases hm : mn (a + b) 1 > c
        · rw [if_pos hm, if_pos (.inl ⟨ha, .inr (e4.1 hm).1⟩)]
        · rw [if_neg hm]
          have hn : c ≠ 0 := fun e => hm (e4.2 ⟨e, by omega⟩)
          rw [show (if d = true then some (0 : Int) else some 0) = some 0 by cases d <;> rfl, if_neg (by rintro (⟨_, h1 | h1⟩ | ⟨_, h2⟩ | ⟨_, h1⟩); exact hb h1; exact hn h1; exact hn h2; exact ha h1)]
  · unfold element_Check.f checkE
    simp only [element_Check.j0]
    rw [if_neg h]
    by_cases h1 : mn (mn a b) c < 0
    · rw [if_pos h1, if_pos trivial]
    · have h2 : decide (mx (mx a b) c > 65535) = true := decide_eq_true (by
        unfold mn at h1
        unfold mx
        (repeat' split at h1) <;> (repeat' split) <;> omega)
      rw [if_neg h1, h2, if_pos rfl]
theorem checkAll_loop (l : List S44) (hl : l.length ≤ 2000000) (d : Nat) : ∀ i : Nat, i + d = l.length → Ev (fun k => element_checkAll.l0 k l (l.length : Int) (i : Int)) (errE (l.drop i)) := by
  induction d with
  | zero =>
    intro i hi
    refine ⟨1, fun k hk => ?_⟩
    (try dsimp only)
    obtain ⟨k, rfl⟩ : ∃ m, k = m + 1 := ⟨k - 1, by omega⟩
    simp only [element_checkAll.l0]
    rw [if_neg (by omega), List.drop_of_length_le (by omega)]
    rfl
  | succ d ih =>
    intro i hi
    have hlt : i < l.length := by omega
    have hd : l.drop i = l[i] :: l.drop (i + 1) := List.drop_eq_getElem_cons hlt
    obtain ⟨K1, h1⟩ := check_ev l[i]
    (try dsimp only at h1)
    obtain ⟨K2, h2⟩ := ih (i + 1) (by omega)
    (try dsimp only at h2)
    refine ⟨K1 + K2 + 1, fun k hk => ?_⟩
    (try dsimp only)
    obtain ⟨k, rfl⟩ : ∃ m, k = m + 1 := ⟨k - 1, by omega⟩
    simp only [element_checkAll.l0]
    rw [if_pos (by omega), if_pos (by omega), if_pos (by omega), rdE_at l i hlt, h1 k (by omega), Option.bind_some, hd, errE]
    by_cases h0 : checkE l[i] = 0
    · rw [if_pos h0, if_pos h0, wrap_succ i (by omega), h2 k (by omega)]
    · rw [if_neg h0, if_neg h0]
theorem checkAll_ev (l : List S44) (hl : l.length ≤ 2000000) : Ev (fun k => element_checkAll.f k l) (errE l) := by
  have := checkAll_loop l hl l.length 0 (by omega)
  rw [List.drop_zero] at this
  exact this
theorem text_ev (l : List S44) (hl : l.length ≤ 1000000) : Ev (fun k => element_Text.f k l) (if errE l = 0 then (ofL (l.flatMap elT), 0) else (ofL [], errE l)) := by
  refine Ev.bind (checkAll_ev l (by omega)) (Ev.congr (f := fun _ => some (if errE l = 0 then (ofL (l.flatMap elT), 0) else (ofL [], errE l))) (fun k => ?_) (Ev.now _))
  unfold element_text.f
  by_cases h : errE l = 0
  · rw [if_pos h, if_pos hl, Option.bind_some, if_pos h]
  · rw [if_neg h, if_neg h]
theorem one_f (t : List UInt8) (h : t.length = 17) : element_one.f (ofL t) = some ((oneP t).1.f0, (oneP t).1.f1, (oneP t).1.f2, (oneP t).1.f3, (oneP t).2) := by
  unfold element_one.f
  rw [if_pos (by rw [ofL_size]; exact h), ofL_list]
theorem read_loop : ∀ (n : Nat) (l : List UInt8) (acc : List S44), l.length ≤ n → acc.length + l.length ≤ 1000000 → Ev (fun k => element_read.l0 k (ofL l) acc) (match readN n l with | some r => (acc ++ r, true) | none => ([], false))
  | 0, l, acc, hl, ha => by
    have : l = [] := List.eq_nil_of_length_eq_zero (by omega)
    subst this
    refine ⟨1, fun k hk => ?_⟩
    (try dsimp only)
    obtain ⟨k, rfl⟩ : ∃ m, k = m + 1 := ⟨k - 1, by omega⟩
    simp only [element_read.l0]
    rw [if_pos (by rw [ofL_toList])]
    simp [readN]
  | n + 1, l, acc, hl, ha => by
    by_cases h0 : l = []
    · subst h0
      refine ⟨1, fun k hk => ?_⟩
      (try dsimp only)
      obtain ⟨k, rfl⟩ : ∃ m, k = m + 1 := ⟨k - 1, by omega⟩
      simp only [element_read.l0]
      rw [if_pos (by rw [ofL_toList])]
      simp [readN]
    · by_cases h17 : l.length < 17
      · refine ⟨1, fun k hk => ?_⟩
        (try dsimp only)
        obtain ⟨k, rfl⟩ : ∃ m, k = m + 1 := ⟨k - 1, by omega⟩
        simp only [element_read.l0]
        rw [if_neg (by rw [ofL_toList]; exact h0), if_pos (by rw [ofL_size]; omega), readN, if_neg h0, if_pos h17]
      · have hx : (ofL l).extract 0 17 = ofL (l.take 17) := by rw [ofL_extract]; simp
        have hy : (ofL l).extract 17 (ofL l).size = ofL (l.drop 17) := by
          rw [ofL_extract, ofL_size, List.take_of_length_le (by simp)]
        have ht : (l.take 17).length = 17 := by simp; omega
        obtain ⟨K, hK⟩ := read_loop n (l.drop 17) (acc ++ [(oneP (l.take 17)).1]) (by simp; omega) (by simp; omega)
        (try dsimp only at hK)
        refine ⟨K + 1, fun k hk => ?_⟩
        (try dsimp only)
        obtain ⟨k, rfl⟩ : ∃ m, k = m + 1 := ⟨k - 1, by omega⟩
        simp only [element_read.l0]
        rw [if_neg (by rw [ofL_toList]; exact h0), if_neg (by rw [ofL_size]; omega), if_pos (by decide), if_pos (by rw [ofL_size]; omega), hx, one_f _ ht, Option.bind_some, hy, readN, if_neg h0, if_neg h17, oneP_ok]
        dsimp only
        by_cases hb : (oneP (l.take 17)).2 = true
        · rw [if_pos hb, if_pos hb, if_pos (by omega), hK k (by omega), Option.bind_some]
          cases readN n (l.drop 17) with
          | none => rfl
          | some r => simp
        · rw [if_neg hb, if_neg hb]
          rfl
def readR (l : List UInt8) : List S44 × Bool := match readE l with | some r => (r, true) | none => ([], false)
theorem read_ev (l : List UInt8) (hl : l.length ≤ 1000000) : Ev (fun k => element_read.f k (ofL l)) (readR l) := by
  have := read_loop l.length l [] (Nat.le_refl _) (by simpa using hl)
  simp only [List.nil_append] at this
  exact this
theorem readN_len : ∀ (n : Nat) (l : List UInt8) (r : List S44), readN n l = some r → r.length ≤ n
  | 0, l, r, h => by
    unfold readN at h
    split at h
    · cases h; simp
    · cases h
  | n + 1, l, r, h => by
    unfold readN at h
    split at h
    · cases h; simp
    · split at h
      · cases h
      · obtain ⟨e, -, h⟩ := Option.bind_eq_some_iff.1 h
        obtain ⟨r', h1, rfl⟩ := Option.map_eq_some_iff.1 h
        have := readN_len n _ _ h1
        simp
        omega
theorem readE_len {l : List UInt8} {r : List S44} (h : readE l = some r) : r.length ≤ l.length := readN_len _ _ _ h
theorem rdI_at (xs : List Int) (i : Nat) (h : i < xs.length) : rd xs (i : Int) = xs[i] := by simp [rd, h]
theorem valid_ev (xs : List Int) (hlen : xs.length ≤ 1000000) : Ev (fun k => escape_valid.f k xs) (xs.all validB) := by
  refine Ev.of (fun k => escape_valid.mono _ k) (k := xs.length + 1) ?_
  have step : ∀ (d : Nat) (i k : Nat), i + d = xs.length → d < k → escape_valid.l0 k xs (xs.length : Int) (i : Int) = some ((xs.drop i).all validB) := by
    intro d
    induction d with
    | zero =>
      intro i k hi hk
      obtain ⟨k, rfl⟩ : ∃ m, k = m + 1 := ⟨k - 1, by omega⟩
      simp only [escape_valid.l0]
      rw [if_neg (by omega), List.drop_of_length_le (by omega)]
      rfl
    | succ d ih =>
      intro i k hi hk
      obtain ⟨k, rfl⟩ : ∃ m, k = m + 1 := ⟨k - 1, by omega⟩
      have hlt : i < xs.length := by omega
      have hr : rd xs (i : Int) = xs[i] := by simp [rd, hlt]
      have hf : codepoint_Valid.f xs[i] = some (validB xs[i]) := by
        unfold codepoint_Valid.f validB
        by_cases h0 : xs[i] ≥ 0
        · rw [if_pos h0]; congr 1; simp [h0]
        · rw [if_neg h0]; congr 1; simp; omega
      have hd : xs.drop i = xs[i] :: xs.drop (i + 1) := List.drop_eq_getElem_cons hlt
      simp only [escape_valid.l0]
      rw [if_pos (by omega), if_pos (by omega), if_pos (by omega), hr, hf, hd, List.all_cons]
      simp only [Option.bind_some]
      cases hb : validB xs[i] with
      | true =>
        rw [if_pos rfl, show wrap64 ((i : Int) + 1) = ((i + 1 : Nat) : Int) by unfold wrap64; omega, ih (i + 1) k (by omega) (by omega)]
        simp
      | false => rw [if_neg (by decide)]; simp
  unfold escape_valid.f
  have := step xs.length 0 (xs.length + 1) (by omega) (by omega)
  simpa using this
theorem join_size (xs : List Int) : (codesT xs).length ≤ 7 * xs.length := by
  unfold codesT
  cases xs with
  | nil => simp [Lib.join_nil]
  | cons x r =>
    have hx := hexT_len x
    have hl : ∀ r : List Int, Lib.lens (r.map hexT) ≤ 6 * r.length := by
      intro r
      induction r with
      | nil => simp [Lib.lens]
      | cons y r ih => have := hexT_len y; simp [Lib.lens] at ih ⊢; omega
    have h := hl (x :: r)
    rw [List.map_cons] at h
    rw [List.map_cons, Lib.join_length]
    simp at h ⊢
    omega
theorem codes_loop (xs : List Int) (hx : xs.length ≤ 1000000) (d : Nat) : ∀ (i k : Nat) (acc : List ByteArray), i + d = xs.length → d + 1 ≤ k → acc = (xs.take i).map hexOf →
    escape_Codes.l0 k acc xs (xs.length : Int) (i : Int) = some (ofL (codesT xs), 0) := by
  induction d with
  | zero =>
    intro i k acc hi hk ha
    obtain ⟨k, rfl⟩ : ∃ m, k = m + 1 := ⟨k - 1, by omega⟩
    have hj := join_size xs
    unfold codesT at hj ⊢
    have he : acc.map (fun s : ByteArray => s.data.toList) = xs.map hexT := by rw [ha, List.take_of_length_le (by omega), List.map_map]; rfl
    have hal : acc.length = xs.length := by rw [ha]; simp; omega
    simp only [escape_Codes.l0, strings_Join.f]
    rw [if_neg (by omega), he, if_pos ⟨by omega, by omega⟩]
    rfl
  | succ d ih =>
    intro i k acc hi hk ha
    obtain ⟨k, rfl⟩ : ∃ m, k = m + 1 := ⟨k - 1, by omega⟩
    have hlt : i < xs.length := by omega
    have hal : acc.length = i := by rw [ha]; simp; omega
    simp only [escape_Codes.l0, codepoint_Hex.f]
    rw [if_pos (by omega), if_pos (by omega), if_pos (by omega), Option.bind_some, if_pos (by omega), wrap_succ i (by omega), rdI_at xs i hlt]
    exact ih (i + 1) k _ (by omega) (by omega) (by rw [ha, List.take_succ_eq_append_getElem hlt, List.map_append]; rfl)
theorem codes_ev (xs : List Int) (hx : xs.length ≤ 1000000) : Ev (fun k => escape_Codes.f k xs) (codesL xs) := by
  refine Ev.bind (valid_ev xs hx) ?_
  unfold codesL
  by_cases h : xs.all validB = true
  · rw [if_pos h]
    refine ⟨xs.length + 1, fun k hk => ?_⟩
    (try dsimp only)
    rw [if_pos h]
    exact codes_loop xs hx xs.length 0 k [] (by omega) (by omega) (by simp)
  · rw [if_neg h]
    exact ⟨0, fun k _ => if_neg h⟩
theorem pcodes_loop (ps : List (List UInt8)) (hps : ps.length ≤ 2000000) (d : Nat) : ∀ (i : Nat) (acc : List Int), i + d = ps.length → acc.length ≤ i →
    Ev (fun k => escape_ParseCodes.l0 k acc (ps.map ofL) (ps.length : Int) (i : Int)) (codesP (ps.drop i) acc) := by
  induction d with
  | zero =>
    intro i acc hi ha
    refine ⟨1, fun k hk => ?_⟩
    (try dsimp only)
    obtain ⟨k, rfl⟩ : ∃ m, k = m + 1 := ⟨k - 1, by omega⟩
    simp only [escape_ParseCodes.l0]
    rw [if_neg (by omega), List.drop_of_length_le (by omega)]
    rfl
  | succ d ih =>
    intro i acc hi ha
    have hlt : i < ps.length := by omega
    have hd : ps.drop i = ps[i] :: ps.drop (i + 1) := List.drop_eq_getElem_cons hlt
    obtain ⟨K1, h1⟩ := prog_parse ps[i]
    (try dsimp only at h1)
    by_cases h0 : (parseS ps[i]).2 = 0
    · obtain ⟨K2, h2⟩ := ih (i + 1) (acc ++ [(parseS ps[i]).1]) (by omega) (by simp; omega)
      (try dsimp only at h2)
      refine ⟨K1 + K2 + 1, fun k hk => ?_⟩
      (try dsimp only)
      obtain ⟨k, rfl⟩ : ∃ m, k = m + 1 := ⟨k - 1, by omega⟩
      simp only [escape_ParseCodes.l0]
      rw [if_pos (by omega), if_pos (by omega), if_pos (by rw [List.length_map]; omega), rdc_at ps i hlt, h1 k (by omega), Option.bind_some, if_pos h0, if_pos (by omega), wrap_succ i (by omega), h2 k (by omega), hd]
      simp only [codesP]
      rw [if_pos h0]
    · refine ⟨K1 + 1, fun k hk => ?_⟩
      obtain ⟨k, rfl⟩ : ∃ m, k = m + 1 := ⟨k - 1, by omega⟩
      simp only [escape_ParseCodes.l0]
      rw [if_pos (by omega), if_pos (by omega), if_pos (by rw [List.length_map]; omega), rdc_at ps i hlt, h1 k (by omega), Option.bind_some, if_neg h0, hd]
      simp only [codesP]
      rw [if_neg h0]
theorem pcodes_ev (l : List UInt8) (hl : l.length ≤ 1000000) : Ev (fun k => escape_ParseCodes.f k (ofL l)) (readCodes l) := by
  unfold readCodes
  by_cases h : l = []
  · subst h
    refine ⟨0, fun k _ => ?_⟩
    (try dsimp only)
    unfold escape_ParseCodes.f
    rw [if_pos (ofL_toList []), if_pos rfl]
  · rw [if_neg h]
    have hc := cutAt_len 32 l
    refine Ev.congr (f := fun k => escape_ParseCodes.l0 k [] ((cutAt 32 l).map ofL) ((cutAt 32 l).length : Int) ((0 : Nat) : Int)) (fun k => ?_) (pcodes_loop (cutAt 32 l) (by omega) (cutAt 32 l).length 0 [] (by omega) (by simp))
    unfold escape_ParseCodes.f
    rw [if_neg (by rw [ofL_toList]; exact h), show (⟨#[32]⟩ : ByteArray) = ofL [32] from rfl, splitc_f 32 l (by omega), Option.bind_some, List.length_map]
    rfl
theorem negative_ev (xs : List Int) (hx : xs.length ≤ 2000000) : Ev (fun k => element_negative.f k xs) (xs.any fun n => decide (n < 0)) := by
  refine Ev.of (fun k => element_negative.mono _ k) (k := xs.length + 1) ?_
  have step : ∀ (d : Nat) (i k : Nat), i + d = xs.length → d < k → element_negative.l0 k xs (xs.length : Int) (i : Int) = some ((xs.drop i).any fun n => decide (n < 0)) := by
    intro d
    induction d with
    | zero =>
      intro i k hi hk
      obtain ⟨k, rfl⟩ : ∃ m, k = m + 1 := ⟨k - 1, by omega⟩
      simp only [element_negative.l0]
      rw [if_neg (by omega), List.drop_of_length_le (by omega)]
      rfl
    | succ d ih =>
      intro i k hi hk
      obtain ⟨k, rfl⟩ : ∃ m, k = m + 1 := ⟨k - 1, by omega⟩
      have hlt : i < xs.length := by omega
      have hd : xs.drop i = xs[i] :: xs.drop (i + 1) := List.drop_eq_getElem_cons hlt
      simp only [element_negative.l0]
      rw [if_pos (by omega), if_pos (by omega), if_pos (by omega), rdI_at xs i hlt, hd, List.any_cons]
      by_cases hb : xs[i] < 0
      · rw [if_pos hb, decide_eq_true hb]; rfl
      · rw [if_neg hb, decide_eq_false hb, wrap_succ i (by omega), ih (i + 1) k (by omega) (by omega)]
        simp
  unfold element_negative.f
  have := step xs.length 0 (xs.length + 1) (by omega) (by omega)
  simpa using this
theorem rdG_at (xs : List S46) (i : Nat) (h : i < xs.length) : rd_T46 xs (i : Int) = xs[i] := by simp [rd_T46, h]
theorem rdX_at (xs : List S49) (i : Nat) (h : i < xs.length) : rd_T49 xs (i : Int) = xs[i] := by simp [rd_T49, h]
theorem errE_append (l m : List S44) : errE (l ++ m) = if errE l = 0 then errE m else errE l := by
  induction l with
  | nil => simp [errE]
  | cons x r ih =>
    rw [List.cons_append, errE, errE, ih]
    by_cases h : checkE x = 0
    · rw [if_pos h, if_pos h]
    · rw [if_neg h, if_neg h, if_neg h]
theorem cf_l3 (xs : List S49) (hx : xs.length ≤ 100000) (hs : ∀ x ∈ xs, x.f1.length ≤ 100000) (d : Nat) : ∀ i : Nat, i + d = xs.length → Ev (fun k => element_checkFile.l3 k xs (xs.length : Int) (i : Int)) (errE ((xs.drop i).flatMap (·.f1))) := by
  induction d with
  | zero =>
    intro i hi
    refine ⟨1, fun k hk => ?_⟩
    (try dsimp only)
    obtain ⟨k, rfl⟩ : ∃ m, k = m + 1 := ⟨k - 1, by omega⟩
    simp only [element_checkFile.l3]
    rw [if_neg (by omega), List.drop_of_length_le (by omega)]
    rfl
  | succ d ih =>
    intro i hi
    have hlt : i < xs.length := by omega
    have hd : xs.drop i = xs[i] :: xs.drop (i + 1) := List.drop_eq_getElem_cons hlt
    obtain ⟨K1, h1⟩ := checkAll_ev xs[i].f1 (by have := hs xs[i] (List.getElem_mem hlt); omega)
    (try dsimp only at h1)
    obtain ⟨K2, h2⟩ := ih (i + 1) (by omega)
    (try dsimp only at h2)
    refine ⟨K1 + K2 + 1, fun k hk => ?_⟩
    (try dsimp only)
    obtain ⟨k, rfl⟩ : ∃ m, k = m + 1 := ⟨k - 1, by omega⟩
    simp only [element_checkFile.l3]
    rw [if_pos (by omega), if_pos (by omega), if_pos (by omega), rdX_at xs i hlt, h1 k (by omega), Option.bind_some, hd, List.flatMap_cons, errE_append]
    by_cases h0 : errE xs[i].f1 = 0
    · rw [if_pos h0, if_pos h0, wrap_succ i (by omega), h2 k (by omega)]
    · rw [if_neg h0, if_neg h0]
theorem cf_l2 (xs : List S49) (ys : List S46) (a b c : Int) (hx : xs.length ≤ 100000) (hs : ∀ x ∈ xs, x.f0.length ≤ 100000 ∧ x.f1.length ≤ 100000) (d : Nat) : ∀ i : Nat, i + d = xs.length → Ev (fun k => element_checkFile.l2 k xs (xs.length : Int) (i : Int) xs ys a b c) (if (xs.drop i).all (fun x => x.f0.all validB) = true then errE (xs.flatMap (·.f1)) else 1) := by
  induction d with
  | zero =>
    intro i hi
    have h3 := cf_l3 xs hx (fun x hx => (hs x hx).2) xs.length 0 (by omega)
    rw [List.drop_zero] at h3
    rw [List.drop_of_length_le (show xs.length ≤ i by omega), List.all_nil, if_pos rfl]
    refine Ev.step (fun k => ?_) h3
    simp only [element_checkFile.l2]
    rw [if_neg (by omega)]
    rfl
  | succ d ih =>
    intro i hi
    have hlt : i < xs.length := by omega
    have hd : xs.drop i = xs[i] :: xs.drop (i + 1) := List.drop_eq_getElem_cons hlt
    obtain ⟨K1, h1⟩ := codes_ev xs[i].f0 (by have := (hs xs[i] (List.getElem_mem hlt)).1; omega)
    (try dsimp only at h1)
    obtain ⟨K2, h2⟩ := ih (i + 1) (by omega)
    (try dsimp only at h2)
    refine ⟨K1 + K2 + 1, fun k hk => ?_⟩
    (try dsimp only)
    obtain ⟨k, rfl⟩ : ∃ m, k = m + 1 := ⟨k - 1, by omega⟩
    simp only [element_checkFile.l2]
    rw [if_pos (by omega), if_pos (by omega), if_pos (by omega), rdX_at xs i hlt, h1 k (by omega), Option.bind_some, hd, List.all_cons]
    unfold codesL
    cases hv : xs[i].f0.all validB with
    | true =>
      rw [if_pos rfl]
      dsimp only
      rw [if_pos rfl, wrap_succ i (by omega), h2 k (by omega), Bool.true_and]
    | false =>
      rw [if_neg (show ¬ (false = true) by decide)]
      dsimp only
      rw [if_neg (show ¬ ((1 : Int) = 0) by decide), Bool.false_and, if_neg (show ¬ (false = true) by decide)]
theorem cf_l1 (xs : List S49) (ys : List S46) (a b c : Int) (hx : xs.length ≤ 100000) (hy : ys.length ≤ 100000) (hs : ∀ x ∈ xs, x.f0.length ≤ 100000 ∧ x.f1.length ≤ 100000) (d : Nat) : ∀ i : Nat, i + d = ys.length → Ev (fun k => element_checkFile.l1 k ys (ys.length : Int) (i : Int) xs ys a b c) (if (ys.drop i).all (fun g => nameB g.f0.data.toList) = true then (if xs.all (fun x => x.f0.all validB) = true then errE (xs.flatMap (·.f1)) else 1) else 6) := by
  induction d with
  | zero =>
    intro i hi
    have h3 := cf_l2 xs ys a b c hx hs xs.length 0 (by omega)
    rw [List.drop_zero] at h3
    rw [List.drop_of_length_le (by omega), List.all_nil, if_pos rfl]
    refine Ev.step (fun k => ?_) h3
    simp only [element_checkFile.l1]
    rw [if_neg (by omega)]
    rfl
  | succ d ih =>
    intro i hi
    have hlt : i < ys.length := by omega
    have hd : ys.drop i = ys[i] :: ys.drop (i + 1) := List.drop_eq_getElem_cons hlt
    obtain ⟨K2, h2⟩ := ih (i + 1) (by omega)
    (try dsimp only at h2)
    refine ⟨K2 + 1, fun k hk => ?_⟩
    (try dsimp only)
    obtain ⟨k, rfl⟩ : ∃ m, k = m + 1 := ⟨k - 1, by omega⟩
    simp only [element_checkFile.l1, element_isName.f]
    rw [if_pos (by omega), if_pos (by omega), if_pos (by omega), rdG_at ys i hlt, Option.bind_some, hd, List.all_cons]
    cases hv : nameB ys[i].f0.data.toList with
    | true => rw [if_pos rfl, wrap_succ i (by omega), h2 k (by omega), Bool.true_and]
    | false => rw [if_neg (show ¬ (false = true) by decide), Bool.false_and, if_neg (show ¬ (false = true) by decide)]
def numsG (ys : List S46) : List Int := ys.flatMap fun g => [g.f1, g.f2]
theorem numsG_len (ys : List S46) : (numsG ys).length = 2 * ys.length := by
  induction ys with
  | nil => rfl
  | cons g r ih => unfold numsG at ih ⊢; rw [List.flatMap_cons, List.length_append, ih, List.length_cons]; simp; omega
theorem numsG_neg (ys : List S46) : (numsG ys).any (fun n => decide (n < 0)) = ys.any (fun g => decide (g.f1 < 0) || decide (g.f2 < 0)) := by
  induction ys with
  | nil => rfl
  | cons g r ih => unfold numsG at ih ⊢; rw [List.flatMap_cons, List.any_append, ih]; simp
theorem cf_l0 (xs : List S49) (ys : List S46) (a b c : Int) (hx : xs.length ≤ 100000) (hy : ys.length ≤ 100000) (hs : ∀ x ∈ xs, x.f0.length ≤ 100000 ∧ x.f1.length ≤ 100000) (d : Nat) : ∀ (i : Nat) (acc : List Int), i + d = ys.length → acc = [a, b, c] ++ numsG (ys.take i) → Ev (fun k => element_checkFile.l0 k acc ys (ys.length : Int) (i : Int) xs ys a b c) (errF xs ys a b c) := by
  induction d with
  | zero =>
    intro i acc hi hacc
    have h1 := cf_l1 xs ys a b c hx hy hs ys.length 0 (by omega)
    rw [List.drop_zero] at h1
    have h0 := negative_ev acc (by rw [hacc, List.length_append, numsG_len, List.length_take]; simp; omega)
    rw [hacc, List.take_of_length_le (by omega), List.any_append, numsG_neg] at h0
    have hn : (([a, b, c] : List Int).any (fun n => decide (n < 0)) || ys.any (fun g => decide (g.f1 < 0) || decide (g.f2 < 0))) = negF ys a b c := by
      unfold negF
      simp only [List.any_cons, List.any_nil, Bool.or_false, Bool.or_assoc]
    rw [hn] at h0
    refine Ev.step (f := fun k => (element_negative.f k acc).bind fun t => if t = true then some 1 else element_checkFile.l1 k ys (ys.length : Int) 0 xs ys a b c) (fun k => ?_) ?_
    · simp only [element_checkFile.l0]
      rw [if_neg (by omega)]
    · rw [hacc, List.take_of_length_le (by omega)]
      refine Ev.bind h0 ?_
      unfold errF
      by_cases hneg : negF ys a b c = true
      · rw [if_pos hneg]
        exact ⟨0, fun k _ => if_pos hneg⟩
      · rw [if_neg hneg]
        refine Ev.congr (fun k => ?_) h1
        exact if_neg hneg
  | succ d ih =>
    intro i acc hi hacc
    have hlt : i < ys.length := by omega
    have hal : acc.length ≤ 200003 := by rw [hacc, List.length_append, numsG_len, List.length_take]; simp; omega
    refine Ev.step (f := fun k => element_checkFile.l0 k (acc ++ [ys[i].f1, ys[i].f2]) ys (ys.length : Int) ((i + 1 : Nat) : Int) xs ys a b c) (fun k => ?_) (ih (i + 1) _ (by omega) ?_)
    · simp only [element_checkFile.l0]
      rw [if_pos (by omega), if_pos (by omega), if_pos (by omega), Option.bind_some, rdG_at ys i hlt, if_pos (by simp; omega), wrap_succ i (by omega)]
    · rw [hacc, List.take_succ_eq_append_getElem hlt]
      unfold numsG
      rw [List.flatMap_append]
      simp
theorem smallF_parts {l0 : List S49} {l1 : List S46} {a b c : Int} (h : smallF l0 l1 a b c = true) :
    (l0.length ≤ 100000 ∧ l1.length ≤ 100000 ∧ (∀ x ∈ l0, x.f0.length ≤ 100000 ∧ x.f1.length ≤ 100000)) ∧ (∀ g ∈ l1, g.f0.size ≤ 100000 ∧ (-9223372036854775808 ≤ g.f1 ∧ g.f1 ≤ 9223372036854775807) ∧ (-9223372036854775808 ≤ g.f2 ∧ g.f2 ≤ 9223372036854775807)) ∧ (-9223372036854775808 ≤ a ∧ a ≤ 9223372036854775807) ∧ (-9223372036854775808 ≤ b ∧ b ≤ 9223372036854775807) ∧ (-9223372036854775808 ≤ c ∧ c ≤ 9223372036854775807) := by
  unfold smallF smallX smallG i64B at h
  simp only [Bool.and_eq_true, decide_eq_true_eq, List.all_eq_true] at h
  obtain ⟨⟨⟨⟨⟨⟨h1, h2⟩, h3⟩, h4⟩, h5⟩, h6⟩, h7⟩ := h
  exact ⟨⟨h1, h2, h3⟩, fun g hg => ⟨(h4 g hg).1.1, (h4 g hg).1.2, (h4 g hg).2⟩, h5, h6, h7⟩
theorem checkFile_ev (xs : List S49) (ys : List S46) (a b c : Int) (h : smallF xs ys a b c = true) : Ev (fun k => element_checkFile.f k xs ys a b c) (errF xs ys a b c) := by
  obtain ⟨⟨h1, h2, h3⟩, -⟩ := smallF_parts h
  exact cf_l0 xs ys a b c h1 h2 h3 ys.length 0 _ (by omega) (by simp [numsG])
theorem words4_f (p q r t : List UInt8) (h : p.length + q.length + r.length + t.length ≤ 1000000) : element_words.f [ofL p, ofL q, ofL r, ofL t] = some (ofL (wordsT [p, q, r, t])) := by
  have e : ([ofL p, ofL q, ofL r, ofL t].map fun s : ByteArray => s.data.toList) = [p, q, r, t] := by simp
  have hl : (Lib.join [p, q, r, t] [32]).length = p.length + q.length + r.length + t.length + 3 := by
    simp [Lib.join, Lib.joinTail]
    omega
  unfold element_words.f strings_Join.f
  rw [show (⟨#[32]⟩ : ByteArray).data.toList = [32] from rfl, e, if_pos ⟨by simp, by omega⟩, Option.bind_some, if_pos (by show (ofL (Lib.join [p, q, r, t] [32])).size + 1 ≤ _; rw [ofL_size]; omega)]
  rw [show (⟨#[10]⟩ : ByteArray) = ofL [10] from rfl]
  exact congrArg some (ofL_append _ _)
theorem wordsT_len (p q r t : List UInt8) : (wordsT [p, q, r, t]).length = p.length + q.length + r.length + t.length + 4 := by
  unfold wordsT
  simp [Lib.join, Lib.joinTail]
  omega
end Go.Proofs.YtdaijpjjilmkkaaGreatDoor.Pr

/- The contract of element.FileText (lists of at most 100,000): it returns the lines of a collation, or the first error. Written by wip/gen_file.py. -/
namespace Go.Proofs.YtdaijpjjilmkkaaGreatDoor.Pr
open Go.RowKit Go.Shelf Go.Proofs.YtdaijpjjilmkkaaGreatDoorW.PrintWords Go.Proofs.YtdaijpjjilmkkaaGreatDoorW.PrintLast Go.Proofs.YtdaijpjjilmkkaaGreatDoorW.PrintMore
set_option linter.unusedVariables false
set_option linter.unusedSimpArgs false
def element_FileText.f (l0 : List S49) (l1 : List S46) (a b c : Int) : Option (ByteArray × Int) :=
  if smallF l0 l1 a b c = true then some (if errF l0 l1 a b c = 0 then (ofL (fileT l0 l1 a b c), 0) else (ofL [], errF l0 l1 a b c)) else none
def element_FileText.T5 : Bool × List (List Nat × List Nat) := (true, [([], []), ([0], [0]), ([1], [1]), ([], []), ([3], [3]), ([4, 2], [4]), ([], []), ([6], [6]), ([7, 5], [7]), ([2, 5, 8], [2, 5, 8]), ([9, 8], [9]), ([10, 10], [10])])
def element_FileText.B5 : List Nat := [0, 1, 3, 0, 8, 31, 0, 64, 255, 511, 1023, 2047]
theorem element_FileText.tab5 : rtab .any (opsOf Tryz.f15 5) = element_FileText.T5 := by kernel_rfl
theorem element_FileText.bits5 : waitsOk element_FileText.T5.2 element_FileText.B5 = true := by kernel_rfl
def element_FileText.T9 : Bool × List (List Nat × List Nat) := (true, [([], []), ([0], [0]), ([], []), ([2], [2]), ([3], [3]), ([], []), ([5], [5]), ([6, 4], [6]), ([1, 4, 7], [1, 4, 7]), ([8, 7], [8]), ([9, 9], [9])])
def element_FileText.B9 : List Nat := [0, 1, 0, 4, 12, 0, 32, 124, 255, 511, 1023]
theorem element_FileText.tab9 : rtab .any (opsOf Tryz.f15 9) = element_FileText.T9 := by kernel_rfl
theorem element_FileText.bits9 : waitsOk element_FileText.T9.2 element_FileText.B9 = true := by kernel_rfl
theorem itoa_len (n : Int) (h : -9223372036854775808 ≤ n ∧ n ≤ 9223372036854775807) : (Lib.itoa n).length ≤ 64 := by
  have := Lib.itoa_length_le n h.1 h.2
  omega
theorem baseT_len' (a b c : Int) (h0 : -9223372036854775808 ≤ a ∧ a ≤ 9223372036854775807) (h1 : -9223372036854775808 ≤ b ∧ b ≤ 9223372036854775807) (h2 : -9223372036854775808 ≤ c ∧ c ≤ 9223372036854775807) : (baseT a b c).length ≤ 300 := by
  have := itoa_len a h0
  have := itoa_len b h1
  have := itoa_len c h2
  unfold baseT
  rw [wordsT_len]
  simp [baseW]
  omega
theorem groupT_len (g : S46) (h : g.f0.size ≤ 100000 ∧ (-9223372036854775808 ≤ g.f1 ∧ g.f1 ≤ 9223372036854775807) ∧ (-9223372036854775808 ≤ g.f2 ∧ g.f2 ≤ 9223372036854775807)) : (groupT g).length ≤ 100300 := by
  have := itoa_len g.f1 h.2.1
  have := itoa_len g.f2 h.2.2
  have e : g.f0.data.toList.length = g.f0.size := by simp
  unfold groupT
  rw [wordsT_len, e]
  simp [groupW]
  omega
theorem groupsT_len : ∀ l : List S46, (∀ g ∈ l, g.f0.size ≤ 100000 ∧ (-9223372036854775808 ≤ g.f1 ∧ g.f1 ≤ 9223372036854775807) ∧ (-9223372036854775808 ≤ g.f2 ∧ g.f2 ≤ 9223372036854775807)) → (l.flatMap groupT).length ≤ 100300 * l.length
  | [], _ => by simp
  | g :: r, h => by
    have ih := groupsT_len r (fun x hx => h x (by simp [hx]))
    have := groupT_len g (h g (by simp))
    rw [List.flatMap_cons, List.length_append, List.length_cons]
    omega
theorem entryT_len (x : S49) (h : x.f0.length ≤ 100000 ∧ x.f1.length ≤ 100000) : (entryT x).length ≤ 4000000 := by
  have := join_size x.f0
  have := elsT_len x.f1
  unfold entryT
  simp only [List.length_append, List.length_cons, List.length_nil]
  omega
theorem entriesT_len : ∀ l : List S49, (∀ x ∈ l, x.f0.length ≤ 100000 ∧ x.f1.length ≤ 100000) → (l.flatMap entryT).length ≤ 4000000 * l.length
  | [], _ => by simp
  | x :: r, h => by
    have ih := entriesT_len r (fun y hy => h y (by simp [hy]))
    have := entryT_len x (h x (by simp))
    rw [List.flatMap_cons, List.length_append, List.length_cons]
    omega
theorem errF_codes {l0 : List S49} {l1 : List S46} {a b c : Int} (h : errF l0 l1 a b c = 0) (x : S49) (hx : x ∈ l0) : x.f0.all validB = true := by
  unfold errF at h
  split at h
  · cases h
  · split at h
    · split at h
      · next h2 => exact List.all_eq_true.1 h2 x hx
      · cases h
    · cases h
set_option maxRecDepth 100000 in
set_option maxHeartbeats 8000000 in
theorem element_FileText.calls (A0_0 : Option Addr) (c0_0 : Nat) (l0_0 : List S49) (A0_1 : Option Addr) (c0_1 : Nat) (l0_1 : List S46) (a0_2 a0_3 a0_4 : Int) (r1 : ByteArray) (r2 : Int) (w : World) (hr0_0 : Kd.C k49 w A0_0 l0_0.length l0_0) (hc0_0 : l0_0.length ≤ c0_0) (hr0_1 : Kd.C k46 w A0_1 l0_1.length l0_1) (hc0_1 : l0_1.length ≤ c0_1) (h : element_FileText.f l0_0 l0_1 a0_2 a0_3 a0_4 = some (r1, r2)) (hG : GW w) :
    Calls Tryz.prog 15 #[.agg #[.slice A0_0 l0_0.length c0_0, .slice A0_1 l0_1.length c0_1, .int .i64 a0_2, .int .i64 a0_3, .int .i64 a0_4]] w fun e w' => e = .returned (.tuple #[.string r1, .int .i64 r2]) ∧ Below w.heap.size w w' := by
  unfold element_FileText.f at h
  by_cases hs : smallF l0_0 l0_1 a0_2 a0_3 a0_4 = true
  case neg => rw [if_neg hs] at h; cases h
  rw [if_pos hs] at h
  have H := Aside0.mk (Option.some.inj h)
  have HG := Aside0.mk hG
  have HR0 := Aside0.mk hr0_0
  have HR1 := Aside0.mk hr0_1
  obtain ⟨K, hK⟩ := checkFile_ev l0_0 l0_1 a0_2 a0_3 a0_4 hs
  have HS := Aside0.mk (smallF_parts hs)
  have CK := Aside0.mk (hK K (Nat.le_refl _))
  clear h hG hr0_0 hr0_1 hK hs
  have h00 := HS.out.1.1
  have h01 := HS.out.1.2.1
  have hu39 := Tryz.underlying35
  have hu49 := Tryz.underlying46
  have hu52 := Tryz.underlying49
  obtain ⟨E, hE⟩ : ∃ E, errF l0_0 l0_1 a0_2 a0_3 a0_4 = E := ⟨_, rfl⟩
  have HE := Aside0.mk hE
  rw [hE] at H
  clear hE
  go_enter Tryz.func15, Tryz.ntmps15
  go_wp2_with fail
  refine (element_checkFile.calls K _ _ l0_0 _ _ l0_1 a0_2 a0_3 a0_4 E _ (Kd.C_alloc HR0.out _) hc0_0 (Kd.C_alloc HR1.out _) hc0_1 (CK.out.trans (congrArg some HE.out))).mono ?_
  rintro e W1 ⟨rfl, hb⟩
  have hX1 : W1.heap[w.heap.size]? = some (.cells #[.slice A0_0 l0_0.length c0_0, .slice A0_1 l0_1.length c0_1, .int .i64 a0_2, .int .i64 a0_3, .int .i64 a0_4] 35 (0, 0)) := (hb.block _ (by simp)).trans (heap_alloc_new w _)
  have hw1 : Below w.heap.size w W1 := (below_alloc (Below.refl _ _) _).trans (hb.mono (by simp))
  clear hb
  by_cases he : E = 0
  case neg =>
    have heb : (E != 0) = true := bne_iff_ne.2 he
    have hH := H.out
    rw [if_neg he] at hH
    simp only [Prod.mk.injEq] at hH
    obtain ⟨rfl, rfl⟩ := hH
    clear H HE CK
    go_wp2
    go_ret2
    exact ⟨rfl, hw1⟩
  have heb : (E != 0) = false := bne_eq_false_iff_eq.2 he
  have hH := H.out
  rw [if_pos he] at hH
  simp only [Prod.mk.injEq] at hH
  have HH := Aside0.mk hH
  have hcodes : ∀ x ∈ l0_0, x.f0.all validB = true := errF_codes (HE.out.trans he)
  have HV := Aside0.mk hcodes
  clear hH H CK hcodes
  go_wp2_with fail
  have HX := Aside0.mk (blk_drew (blk_alloc hX1 (.cells #[.pointer none, .slice none 0 0] 59)))
  have HI : Aside0 (Bd.Is W1.heap.size W1.heap.size [] (W1.alloc (.cells #[.pointer none, .slice none 0 0] 59)).drew) := ⟨Bd.kept (Bd.fresh W1) (grown_of (below_drew (Below.refl _ _))) (by simp)⟩
  have HB : Aside0 (Below W1.heap.size W1 (W1.alloc (.cells #[.pointer none, .slice none 0 0] 59)).drew) := ⟨below_drew (below_alloc (Below.refl _ _) _)⟩
  have hwB : Below w.heap.size w W1 := hw1
  have hX1lt : w.heap.size < W1.heap.size := blk_lt hX1
  have HW5 : Aside0 (element_words.f [(⟨#[64, 98, 97, 115, 101]⟩ : ByteArray), (⟨(Lib.itoa a0_2).toArray⟩ : ByteArray), (⟨(Lib.itoa a0_3).toArray⟩ : ByteArray), (⟨(Lib.itoa a0_4).toArray⟩ : ByteArray)] = some (ofL (baseT a0_2 a0_3 a0_4))) := ⟨words4_f baseW (Lib.itoa a0_2) (Lib.itoa a0_3) (Lib.itoa a0_4) (by have := itoa_len a0_2 HS.out.2.2.1; have := itoa_len a0_3 HS.out.2.2.2.1; have := itoa_len a0_4 HS.out.2.2.2.2; simp [baseW]; omega)⟩
  have baseT_len := fun (_ _ _ : Int) => baseT_len' a0_2 a0_3 a0_4 HS.out.2.2.1 HS.out.2.2.2.1 HS.out.2.2.2.2
  refine start_ (n := 12) (S := fun w' => w'.cell? ⟨w.heap.size, 2, none⟩ = some (.int .i64 a0_2) ∧ w'.cell? ⟨w.heap.size, 3, none⟩ = some (.int .i64 a0_3) ∧ w'.cell? ⟨w.heap.size, 4, none⟩ = some (.int .i64 a0_4)) (ds := []) #[false, false, false, false, false, false, false, false, false, false, false, false] (by kernel_rfl) rfl rfl ⟨(blk_cell HX.out 2).trans rfl, (blk_cell HX.out 3).trans rfl, (blk_cell HX.out 4).trans rfl⟩ (fun hHeld => ?_); refine with_tabW element_FileText.tab5 element_FileText.bits5 (fun HT_ HW_ => ?_)
  refine pure_ (i := 0) (N := some 17) (v := ?_) (a' := ?_) #[true, false, false, false, false, false, false, false, false, false, false, false] rfl rfl (any_of HT_.out (by kernel_rfl)) (fun _ _ _ h => h) (Or.inl ⟨by rfl, ?_⟩) ?_ ?_
  rotate_left
  · intro w'
    go_simp
    with_reducible rfl
  rotate_left
  · simp only [Act.put, List.setIfInBounds_toArray, List.set_cons_zero, List.set_cons_succ, i64_w, i32_w]
    rfl
  refine take_ (i := 1) (N := some 18) (v := ?_) (a' := ?_) #[true, true, false, false, false, false, false, false, false, false, false, false] rfl rfl (take_ofW HT_.out HW_.out (by kernel_rfl)) (fun _ _ _ h => h) (Or.inl ⟨by rfl, ?_⟩) hHeld ?_ ?_
  rotate_left
  · rintro w' ⟨s0, s1, s2⟩
    go_simp
    with_reducible rfl
  rotate_left
  · simp only [Act.put, List.setIfInBounds_toArray, List.set_cons_zero, List.set_cons_succ, i64_w, i32_w]
    rfl
  refine pure_ (i := 3) (N := some 20) (v := ?_) (a' := ?_) #[true, true, false, true, false, false, false, false, false, false, false, false] rfl rfl (any_of HT_.out (by kernel_rfl)) (fun _ _ _ h => h) (Or.inl ⟨by rfl, ?_⟩) ?_ ?_
  rotate_left
  · intro w'
    go_simp
    with_reducible rfl
  rotate_left
  · simp only [Act.put, List.setIfInBounds_toArray, List.set_cons_zero, List.set_cons_succ, i64_w, i32_w]
    rfl
  refine take_ (i := 4) (N := some 21) (v := ?_) (a' := ?_) #[true, true, false, true, true, false, false, false, false, false, false, false] rfl rfl (take_ofW HT_.out HW_.out (by kernel_rfl)) (fun _ _ _ h => h) (Or.inl ⟨by rfl, ?_⟩) hHeld ?_ ?_
  rotate_left
  · rintro w' ⟨s0, s1, s2⟩
    go_simp
    with_reducible rfl
  rotate_left
  · simp only [Act.put, List.setIfInBounds_toArray, List.set_cons_zero, List.set_cons_succ, i64_w, i32_w]
    rfl
  refine pure_ (i := 6) (N := some 23) (v := ?_) (a' := ?_) #[true, true, false, true, true, false, true, false, false, false, false, false] rfl rfl (any_of HT_.out (by kernel_rfl)) (fun _ _ _ h => h) (Or.inl ⟨by rfl, ?_⟩) ?_ ?_
  rotate_left
  · intro w'
    go_simp
    with_reducible rfl
  rotate_left
  · simp only [Act.put, List.setIfInBounds_toArray, List.set_cons_zero, List.set_cons_succ, i64_w, i32_w]
    rfl
  refine take_ (i := 7) (N := some 24) (v := ?_) (a' := ?_) #[true, true, false, true, true, false, true, true, false, false, false, false] rfl rfl (take_ofW HT_.out HW_.out (by kernel_rfl)) (fun _ _ _ h => h) (Or.inl ⟨by rfl, ?_⟩) hHeld ?_ ?_
  rotate_left
  · rintro w' ⟨s0, s1, s2⟩
    go_simp
    with_reducible rfl
  rotate_left
  · simp only [Act.put, List.setIfInBounds_toArray, List.set_cons_zero, List.set_cons_succ, i64_w, i32_w]
    rfl
  refine one_ (i := 2) (N := some 19) #[true, true, true, true, true, false, true, true, false, false, false, false] rfl rfl (one_of HT_.out (by kernel_rfl)) (by decide) (fun K hK => ?_)
  refine goes_ Tryz.func29 (by kernel_rfl) rfl #[.int .i64 a0_2] (by rfl) rfl rfl (by (try simp only [List.map_toArray, List.map_cons, List.map_nil]); first | done | rfl) ?_
  with_reducible refine (strconv_Itoa.calls a0_2 _ _ (by unfold strconv_Itoa.f; rw [if_pos HS.out.2.2.1]) (GW.below HG.out ((hwB.trans (HB.out.mono hwB.size))))).mono ?_
  rintro e W5 ⟨rfl, hb⟩
  refine ⟨_, rfl, ?_⟩
  have n0_ := Aside0.mk ((hb.block _ (blk_lt HX.out)).trans HX.out)
  have n1_ := Aside0.mk (Bd.kept HI.out (grown_of hb) (by simp))
  have n2_ := Aside0.mk (HB.out.trans (hb.mono HB.out.size))
  clear HX HI HB hb
  have HX := n0_
  have HI := n1_
  have HB := n2_
  clear n0_ n1_ n2_
  refine hK.out _ _ ⟨(blk_cell HX.out 2).trans rfl, (blk_cell HX.out 3).trans rfl, (blk_cell HX.out 4).trans rfl⟩ (fun hHeld => ?_)
  clear hK K
  refine norm_ (a' := ?_) ?_ ?_
  rotate_left
  · show Act.put _ (some 19) _ = _
    simp only [Act.put, List.setIfInBounds_toArray, List.set_cons_zero, List.set_cons_succ, i64_w, i32_w]
    rfl
  refine one_ (i := 5) (N := some 22) #[true, true, true, true, true, true, true, true, false, false, false, false] rfl rfl (one_of HT_.out (by kernel_rfl)) (by decide) (fun K hK => ?_)
  refine goes_ Tryz.func29 (by kernel_rfl) rfl #[.int .i64 a0_3] (by rfl) rfl rfl (by (try simp only [List.map_toArray, List.map_cons, List.map_nil]); first | done | rfl) ?_
  with_reducible refine (strconv_Itoa.calls a0_3 _ _ (by unfold strconv_Itoa.f; rw [if_pos HS.out.2.2.2.1]) (GW.below HG.out ((hwB.trans (HB.out.mono hwB.size))))).mono ?_
  rintro e W6 ⟨rfl, hb⟩
  refine ⟨_, rfl, ?_⟩
  have n0_ := Aside0.mk ((hb.block _ (blk_lt HX.out)).trans HX.out)
  have n1_ := Aside0.mk (Bd.kept HI.out (grown_of hb) (by simp))
  have n2_ := Aside0.mk (HB.out.trans (hb.mono HB.out.size))
  clear HX HI HB hb
  have HX := n0_
  have HI := n1_
  have HB := n2_
  clear n0_ n1_ n2_
  refine hK.out _ _ ⟨(blk_cell HX.out 2).trans rfl, (blk_cell HX.out 3).trans rfl, (blk_cell HX.out 4).trans rfl⟩ (fun hHeld => ?_)
  clear hK K
  refine norm_ (a' := ?_) ?_ ?_
  rotate_left
  · show Act.put _ (some 22) _ = _
    simp only [Act.put, List.setIfInBounds_toArray, List.set_cons_zero, List.set_cons_succ, i64_w, i32_w]
    rfl
  refine one_ (i := 8) (N := some 25) #[true, true, true, true, true, true, true, true, true, false, false, false] rfl rfl (one_of HT_.out (by kernel_rfl)) (by decide) (fun K hK => ?_)
  refine goes_ Tryz.func29 (by kernel_rfl) rfl #[.int .i64 a0_4] (by rfl) rfl rfl (by (try simp only [List.map_toArray, List.map_cons, List.map_nil]); first | done | rfl) ?_
  with_reducible refine (strconv_Itoa.calls a0_4 _ _ (by unfold strconv_Itoa.f; rw [if_pos HS.out.2.2.2.2]) (GW.below HG.out ((hwB.trans (HB.out.mono hwB.size))))).mono ?_
  rintro e W7 ⟨rfl, hb⟩
  refine ⟨_, rfl, ?_⟩
  have n0_ := Aside0.mk ((hb.block _ (blk_lt HX.out)).trans HX.out)
  have n1_ := Aside0.mk (Bd.kept HI.out (grown_of hb) (by simp))
  have n2_ := Aside0.mk (HB.out.trans (hb.mono HB.out.size))
  clear HX HI HB hb
  have HX := n0_
  have HI := n1_
  have HB := n2_
  clear n0_ n1_ n2_
  refine hK.out _ _ ⟨(blk_cell HX.out 2).trans rfl, (blk_cell HX.out 3).trans rfl, (blk_cell HX.out 4).trans rfl⟩ (fun hHeld => ?_)
  clear hK K
  refine norm_ (a' := ?_) ?_ ?_
  rotate_left
  · show Act.put _ (some 25) _ = _
    simp only [Act.put, List.setIfInBounds_toArray, List.set_cons_zero, List.set_cons_succ, i64_w, i32_w]
    rfl
  refine one_ (i := 9) (N := some 26) #[true, true, true, true, true, true, true, true, true, true, false, false] rfl rfl (one_of HT_.out (by kernel_rfl)) (by decide) (fun K hK => ?_)
  refine Kd.R_lit_step Kd.string _ 9 ?hg (N := 26) ?hd (xs := ([(⟨#[64, 98, 97, 115, 101]⟩ : ByteArray), (⟨(Lib.itoa a0_2).toArray⟩ : ByteArray), (⟨(Lib.itoa a0_3).toArray⟩ : ByteArray), (⟨(Lib.itoa a0_4).toArray⟩ : ByteArray)] : List ByteArray)) (inner := [.string (⟨#[64, 98, 97, 115, 101]⟩ : ByteArray), .string (⟨(Lib.itoa a0_2).toArray⟩ : ByteArray), .string (⟨(Lib.itoa a0_3).toArray⟩ : ByteArray), .string (⟨(Lib.itoa a0_4).toArray⟩ : ByteArray)]) (ok := fun _ => True) (okp := fun _ => True) ?hr ?hp (fun _ hk => hk) trivial (Below.refl _ _) (Nat.le_refl _) (by simp) ?_; (case hd => rfl); (case hg => rfl); (case hr => first | (go_simp; done) | (go_simp; rfl)); (case hp => exact (Reps.one (show Kd.M Kd.string _ _ _ (⟨#[64, 98, 97, 115, 101]⟩ : ByteArray) [.string (⟨#[64, 98, 97, 115, 101]⟩ : ByteArray)] from rfl) (Reps.one (show Kd.M Kd.string _ _ _ (⟨(Lib.itoa a0_2).toArray⟩ : ByteArray) [.string (⟨(Lib.itoa a0_2).toArray⟩ : ByteArray)] from rfl) (Reps.one (show Kd.M Kd.string _ _ _ (⟨(Lib.itoa a0_3).toArray⟩ : ByteArray) [.string (⟨(Lib.itoa a0_3).toArray⟩ : ByteArray)] from rfl) (Reps.one (show Kd.M Kd.string _ _ _ (⟨(Lib.itoa a0_4).toArray⟩ : ByteArray) [.string (⟨(Lib.itoa a0_4).toArray⟩ : ByteArray)] from rfl) (Reps.none _ _))))))
  intro v1 W8 hR hb hg_ hnew_
  clear hg_ hnew_
  have n0_ := Aside0.mk ((hb.block _ (blk_lt HX.out)).trans HX.out)
  have n1_ := Aside0.mk (Bd.kept HI.out (grown_of hb) (by simp))
  have n2_ := Aside0.mk (HB.out.trans (hb.mono HB.out.size))
  clear HX HI HB hb
  have HX := n0_
  have HI := n1_
  have HB := n2_
  clear n0_ n1_ n2_
  obtain ⟨Av, cv, rfl⟩ := Kd.R_slice hR
  have HR := Aside0.mk hR
  clear hR
  refine hK.out _ _ ⟨(blk_cell HX.out 2).trans rfl, (blk_cell HX.out 3).trans rfl, (blk_cell HX.out 4).trans rfl⟩ (fun hHeld => ?_)
  clear hK K
  refine norm_ (a' := ?_) ?_ ?_
  rotate_left
  · show Act.put _ (some 26) _ = _
    simp only [Act.put, List.setIfInBounds_toArray, List.set_cons_zero, List.set_cons_succ, i64_w, i32_w]
    rfl
  refine one_ (i := 10) (N := some 27) #[true, true, true, true, true, true, true, true, true, true, true, false] rfl rfl (one_of HT_.out (by kernel_rfl)) (by decide) (fun K hK => ?_)
  refine goes_ Tryz.func28 (by kernel_rfl) rfl #[.slice Av ([(⟨#[64, 98, 97, 115, 101]⟩ : ByteArray), (⟨(Lib.itoa a0_2).toArray⟩ : ByteArray), (⟨(Lib.itoa a0_3).toArray⟩ : ByteArray), (⟨(Lib.itoa a0_4).toArray⟩ : ByteArray)] : List ByteArray).length cv] (by rfl) rfl rfl (by (try simp only [List.map_toArray, List.map_cons, List.map_nil]); first | done | rfl) ?_
  with_reducible refine (element_words.calls _ _ [(⟨#[64, 98, 97, 115, 101]⟩ : ByteArray), (⟨(Lib.itoa a0_2).toArray⟩ : ByteArray), (⟨(Lib.itoa a0_3).toArray⟩ : ByteArray), (⟨(Lib.itoa a0_4).toArray⟩ : ByteArray)] (ofL (baseT a0_2 a0_3 a0_4)) _ (Kd.R_reads' HR.out).2.2 (Kd.R_reads' HR.out).2.1 HW5.out).mono ?_
  rintro e W9 ⟨rfl, hb⟩
  refine ⟨_, rfl, ?_⟩
  have n0_ := Aside0.mk ((hb.block _ (blk_lt HX.out)).trans HX.out)
  have n1_ := Aside0.mk (Bd.kept HI.out (grown_of hb) (by simp))
  have n2_ := Aside0.mk (HB.out.trans (hb.mono HB.out.size))
  clear HX HI HB hb
  have HX := n0_
  have HI := n1_
  have HB := n2_
  clear n0_ n1_ n2_
  refine hK.out _ _ ⟨(blk_cell HX.out 2).trans rfl, (blk_cell HX.out 3).trans rfl, (blk_cell HX.out 4).trans rfl⟩ (fun hHeld => ?_)
  clear hK K
  refine norm_ (a' := ?_) ?_ ?_
  rotate_left
  · show Act.put _ (some 27) _ = _
    simp only [Act.put, List.setIfInBounds_toArray, List.set_cons_zero, List.set_cons_succ, i64_w, i32_w]
    rfl
  refine one_ (i := 11) (N := some 28) #[true, true, true, true, true, true, true, true, true, true, true, true] rfl rfl (one_of HT_.out (by kernel_rfl)) (by decide) (fun K hK => ?_)
  refine goes_ Tryz.func27 (by kernel_rfl) rfl #[.pointer (some ⟨W1.heap.size, 0, none⟩), .string (ofL (baseT a0_2 a0_3 a0_4))] (by rfl) rfl rfl (by (try simp only [List.map_toArray, List.map_cons, List.map_nil]); first | done | rfl) ?_
  with_reducible refine (Bd.WriteString W1.heap.size W1.heap.size [] (ofL (baseT a0_2 a0_3 a0_4)) _ HI.out (by rw [ofL_size]; have := baseT_len a0_2 a0_3 a0_4; simp; omega) HB.out.size).mono ?_
  rintro e W10 ⟨rfl, hI, hb, hk⟩
  refine ⟨_, rfl, ?_⟩
  have n0_ := Aside0.mk ((hb.block _ hX1lt).trans HX.out)
  have n1_ := Aside0.mk (cells_more [] (baseT a0_2 a0_3 a0_4) (baseT a0_2 a0_3 a0_4 ++ ([] : List S46).flatMap groupT) _ (ofL_list _) (by simp) hI)
  have n2_ := Aside0.mk (HB.out.trans hb)
  clear HX HI HB hb hI hk HR
  have HX := n0_
  have HI := n1_
  have HB := n2_
  clear n0_ n1_ n2_
  refine hK.out _ _ ⟨(blk_cell HX.out 2).trans rfl, (blk_cell HX.out 3).trans rfl, (blk_cell HX.out 4).trans rfl⟩ (fun hHeld => ?_)
  clear hK K
  refine norm_ (a' := ?_) ?_ ?_
  rotate_left
  · show Act.put _ (some 28) _ = _
    simp only [Act.put, List.setIfInBounds_toArray, List.set_cons_zero, List.set_cons_succ, i64_w, i32_w]
    rfl
  refine done_ (done_of HT_.out (by kernel_rfl)) ?_
  have e0 := blk_cell HX.out 0
  have e1 := blk_cell HX.out 1
  go_wp2_with fail
  go_loopg [32] l0_1.length (fun g v wx => ∃ i : Nat, i ≤ l0_1.length ∧ v = .int .i64 (i : Int) ∧ i + g = l0_1.length ∧ Aside0 (Bd.Is W1.heap.size W1.heap.size (Lib.byteCells (baseT a0_2 a0_3 a0_4 ++ (l0_1.take i).flatMap groupT)) wx) ∧ Aside0 (Below W1.heap.size W1 wx))
  case atStart => exact ⟨0, by omega, rfl, by omega, ⟨HI.out⟩, ⟨HB.out⟩⟩
  case round =>
    clear HX HI HB
    obtain ⟨i, hile, rfl, hig, HI, HB⟩ := hrel
    have HBw : Aside0 (Below w.heap.size w wr) := ⟨hwB.trans (HB.out.mono hwB.size)⟩
    have HXr : Aside0 (wr.heap[w.heap.size]? = some (.cells #[.slice A0_0 l0_0.length c0_0, .slice A0_1 l0_1.length c0_1, .int .i64 a0_2, .int .i64 a0_3, .int .i64 a0_4] 35 (0, 0))) := ⟨(HB.out.block _ hX1lt).trans hX1⟩
    cases gk with
    | zero =>
      obtain rfl : i = l0_1.length := by omega
      rw [List.take_length] at HI
      have e0 := blk_cell HXr.out 0
      go_wp2_with fail
      go_loopg [51] l0_0.length (fun g v wx => ∃ i : Nat, i ≤ l0_0.length ∧ v = .int .i64 (i : Int) ∧ i + g = l0_0.length ∧ Aside0 (Bd.Is W1.heap.size W1.heap.size (Lib.byteCells (baseT a0_2 a0_3 a0_4 ++ l0_1.flatMap groupT ++ (l0_0.take i).flatMap entryT)) wx) ∧ Aside0 (Below W1.heap.size W1 wx))
      case atStart => exact ⟨0, by omega, rfl, by omega, ⟨by simpa using HI.out⟩, ⟨HB.out⟩⟩
      case round =>
        clear HI HB HBw HXr
        obtain ⟨i, hile, rfl, hig, HI, HB⟩ := hrel
        cases gk with
        | zero =>
          obtain rfl : i = l0_0.length := by omega
          rw [List.take_length] at HI
          obtain ⟨T, hT⟩ : ∃ T, fileT l0_0 l0_1 a0_2 a0_3 a0_4 = T := ⟨_, rfl⟩
          have HJ : Aside0 (Bd.Is W1.heap.size W1.heap.size (Lib.byteCells T) wr) := ⟨by rw [← hT]; exact HI.out⟩
          rw [hT] at HH
          clear hT HI
          go_wp2_with fail
          refine (Tryz.Builder_String_any_k W1.heap.size W1.heap.size T _ HJ.out HB.out.size).mono ?_
          rintro e W9 ⟨rfl, hI9, hB9, hk9⟩
          go_wp2
          go_ret2
          obtain ⟨rfl, rfl⟩ := HH.out
          exact ⟨rfl, (hwB.trans (HB.out.mono hwB.size)).trans (hB9.mono hwB.size)⟩
        | succ g =>
          have hi : i < l0_0.length := by omega
          have HBw : Aside0 (Below w.heap.size w wr) := ⟨hwB.trans (HB.out.mono hwB.size)⟩
          obtain ⟨ad, B0, d0, B1, d1, rfl, hx0, hx1, hl0, hi0, hl1, hi1⟩ := at_T49 (Kd.C_below HR0.out HBw.out) (i : Int) (by omega) (by omega)
          obtain ⟨x, hx⟩ : ∃ x, l0_0[i]'hi = x := ⟨_, rfl⟩
          rw [rdX_at l0_0 i hi, hx] at hx0 hx1 hl0 hi0 hl1 hi1
          rw [Int.toNat_natCast] at hx0 hx1
          have HC0 := Aside0.mk hi0
          have HC1 := Aside0.mk hi1
          have hxm : x ∈ l0_0 := by rw [← hx]; exact List.getElem_mem hi
          have hxs := HS.out.1.2.2 x hxm
          have hva := HV.out x hxm
          have HF : Aside0 (∀ N : List UInt8, N = entryT x → (baseT a0_2 a0_3 a0_4 ++ l0_1.flatMap groupT ++ (l0_0.take i).flatMap entryT) ++ N = baseT a0_2 a0_3 a0_4 ++ l0_1.flatMap groupT ++ (l0_0.take (i + 1)).flatMap entryT) := ⟨fun N hN => by
            rw [List.take_succ_eq_append_getElem hi, List.flatMap_append, hx, hN]
            simp⟩
          obtain ⟨T, hT⟩ : ∃ T, baseT a0_2 a0_3 a0_4 ++ l0_1.flatMap groupT ++ (l0_0.take i).flatMap entryT = T := ⟨_, rfl⟩
          have hTl : T.length ≤ 500000000000 := by
            rw [← hT, List.length_append, List.length_append]
            have h1 := baseT_len' a0_2 a0_3 a0_4 HS.out.2.2.1 HS.out.2.2.2.1 HS.out.2.2.2.2
            have h2 := groupsT_len l0_1 HS.out.2.1
            have h3 := entriesT_len (l0_0.take i) (fun y hy => HS.out.1.2.2 y (List.mem_of_mem_take hy))
            rw [List.length_take] at h3
            omega
          rw [hT] at HF HI
          clear hT hx hi0 hi1
          have hct := join_size x.f0
          have het := elsT_len x.f1
          have htx : element_text.f x.f1 = some (ofL (x.f1.flatMap elT)) := by unfold element_text.f; rw [if_pos (by omega)]
          have heq : codesT x.f0 ++ ([59, 32] ++ (x.f1.flatMap elT ++ [10])) = entryT x := rfl
          obtain ⟨TX, hTX⟩ : ∃ TX, x.f1.flatMap elT = TX := ⟨_, rfl⟩
          rw [hTX] at het htx heq
          have HTX := Aside0.mk htx
          have HEQ := Aside0.mk heq
          clear hTX htx heq
          have hcs : (ofL (codesT x.f0)).size = (codesT x.f0).length := rfl
          have hes : (ofL TX).size = TX.length := rfl
          have hbig1 : (9223372036854775807 < (codesT x.f0).length + 2) = False := eq_false (by omega)
          have hbig2 : (9223372036854775807 < (codesT x.f0).length + 2 + TX.length) = False := eq_false (by omega)
          have hbig3 : (9223372036854775807 < (codesT x.f0).length + 2 + TX.length + 1) = False := eq_false (by omega)
          obtain ⟨K2, hK2⟩ := codes_ev x.f0 (by omega)
          have CK2 : Aside0 (escape_Codes.f K2 x.f0 = some (ofL (codesT x.f0), 0)) := ⟨by
            have := hK2 K2 (Nat.le_refl _)
            unfold codesL at this
            rw [if_pos hva] at this
            exact this⟩
          clear hK2
          have q0 : (0 ≤ (i : Int)) = True := eq_true (by omega)
          have q1 : ((i : Int) < (l0_0.length : Int)) = True := eq_true (by omega)
          have hsz := HB.out.size
          go_wp2_with fail
          refine (escape_Codes.calls K2 B0 d0 x.f0 _ _ _ (Kd.C_alloc HC0.out _) hl0 CK2.out).mono ?_
          rintro e W2 ⟨rfl, hb⟩
          have hX2 : W2.heap[wr.heap.size]? = some (.cells #[.slice B0 x.f0.length d0, .slice B1 x.f1.length d1] 49 (0, 0)) := (hb.block _ (by simp)).trans (heap_alloc_new wr _)
          have hbr : Below wr.heap.size wr W2 := (below_alloc (Below.refl _ _) _).trans (hb.mono (by simp))
          have hI2 : Bd.Is W1.heap.size W1.heap.size (Lib.byteCells T) W2 := Bd.kept HI.out (grown_of hbr) (by simp)
          have hB2 : Below W1.heap.size W1 W2 := HB.out.trans (hbr.mono hsz)
          have hC2 := Kd.C_below HC1.out hbr
          clear hb hx0 hx1
          have y1 := blk_cell hX2 1
          go_wp2_with fail
          refine (element_text.calls B1 d1 x.f1 _ _ hC2 hl1 HTX.out).mono ?_
          rintro e W3 ⟨rfl, hb⟩
          have hI3 : Bd.Is W1.heap.size W1.heap.size (Lib.byteCells T) W3 := Bd.kept hI2 (grown_of hb) (by simp)
          have hB3 : Below W1.heap.size W1 W3 := hB2.trans (hb.mono hB2.size)
          clear hb hI2 hB2 hC2 hbr y1 hX2
          go_wp2_with fail
          have hS : ofL (codesT x.f0) ++ (⟨#[59, 32]⟩ : ByteArray) ++ ofL TX ++ (⟨#[10]⟩ : ByteArray) = ofL (entryT x) := by
            rw [show (⟨#[59, 32]⟩ : ByteArray) = ofL [59, 32] from rfl, show (⟨#[10]⟩ : ByteArray) = ofL [10] from rfl, ofL_append, ofL_append, ofL_append, ← HEQ.out]
            simp
          rw [hS]
          refine (Bd.WriteString W1.heap.size W1.heap.size _ (ofL (entryT x)) _ hI3 (by rw [bcells_len, ofL_size]; have := entryT_len x hxs; omega) hB3.size).mono ?_
          rintro e W4 ⟨rfl, hI4', hb4, hk4⟩
          have hI4 := cells_more _ (entryT x) _ _ (ofL_list _) (HF.out _ rfl) hI4'
          have hB4 : Below W1.heap.size W1 W4 := hB3.trans hb4
          clear hI4' hb4 hk4
          go_wp2_with fail
          go_roundg g
          case measure => omega
          case rel => exact ⟨i + 1, by omega, by simp, by omega, ⟨hI4⟩, ⟨hB4⟩⟩
    | succ g =>
      have hi : i < l0_1.length := by omega
      obtain ⟨ad, rfl, hx0, hx1, hx2⟩ := at_T46 (Kd.C_below HR1.out HBw.out) (i : Int) (by omega) (by omega)
      obtain ⟨x, hx⟩ : ∃ x, l0_1[i]'hi = x := ⟨_, rfl⟩
      rw [rdG_at l0_1 i hi, hx, Int.toNat_natCast] at hx0 hx1 hx2
      have hxm : x ∈ l0_1 := by rw [← hx]; exact List.getElem_mem hi
      have hxs := HS.out.2.1 x hxm
      have HF : Aside0 (∀ N : List UInt8, N = groupT x → (baseT a0_2 a0_3 a0_4 ++ (l0_1.take i).flatMap groupT) ++ N = baseT a0_2 a0_3 a0_4 ++ (l0_1.take (i + 1)).flatMap groupT) := ⟨fun N hN => by
        rw [List.take_succ_eq_append_getElem hi, List.flatMap_append, hx, hN]
        simp⟩
      obtain ⟨T, hT⟩ : ∃ T, baseT a0_2 a0_3 a0_4 ++ (l0_1.take i).flatMap groupT = T := ⟨_, rfl⟩
      have hTl : T.length ≤ 500000000000 := by
        rw [← hT, List.length_append]
        have h1 := baseT_len' a0_2 a0_3 a0_4 HS.out.2.2.1 HS.out.2.2.2.1 HS.out.2.2.2.2
        have h2 := groupsT_len (l0_1.take i) (fun y hy => HS.out.2.1 y (List.mem_of_mem_take hy))
        rw [List.length_take] at h2
        omega
      rw [hT] at HF HI
      clear hT hx
      have hgl := groupT_len x hxs
      have hbz : W1.heap.size < wr.heap.size := by
        rcases HI.out with h | h
        · exact h.lt
        · exact h.lt
      have q0 : (0 ≤ (i : Int)) = True := eq_true (by omega)
      have q1 : ((i : Int) < (l0_1.length : Int)) = True := eq_true (by omega)
      have hsz := HB.out.size
      have HW9 : Aside0 (element_words.f [(⟨#[64, 103, 114, 111, 117, 112]⟩ : ByteArray), x.f0, (⟨(Lib.itoa x.f1).toArray⟩ : ByteArray), (⟨(Lib.itoa x.f2).toArray⟩ : ByteArray)] = some (ofL (groupT x))) := ⟨by
        have e : x.f0.data.toList.length = x.f0.size := by simp
        have := words4_f groupW x.f0.data.toList (Lib.itoa x.f1) (Lib.itoa x.f2) (by have := itoa_len x.f1 hxs.2.1; have := itoa_len x.f2 hxs.2.2; rw [e]; simp [groupW]; omega)
        rw [ofL_eq] at this
        exact this⟩
      go_wp2_with fail
      have hW2d : ∀ W2, wr.alloc (.cells #[.string x.f0, .int .i64 x.f1, .int .i64 x.f2] 46) = W2 → Aside0 (W2.drew.heap[wr.heap.size]? = some (.cells #[.string x.f0, .int .i64 x.f1, .int .i64 x.f2] 46 (0, 0))) ∧ Aside0 (Bd.Is W1.heap.size W1.heap.size (Lib.byteCells T) W2.drew) ∧ Aside0 (Below W1.heap.size W1 W2.drew) := by
        rintro W2 rfl
        exact ⟨⟨blk_drew (heap_alloc_new wr _)⟩, ⟨Bd.kept HI.out (grown_of (below_drew (below_alloc (Below.refl _ _) _))) (by simp)⟩, ⟨below_drew (below_alloc HB.out _)⟩⟩
      clear HI HB
      obtain ⟨HX, HI, HB⟩ := hW2d _ rfl
      refine start_ (n := 11) (S := fun w' => w'.cell? ⟨wr.heap.size, 0, none⟩ = some (.string x.f0) ∧ w'.cell? ⟨wr.heap.size, 1, none⟩ = some (.int .i64 x.f1) ∧ w'.cell? ⟨wr.heap.size, 2, none⟩ = some (.int .i64 x.f2)) (ds := []) #[false, false, false, false, false, false, false, false, false, false, false] (by kernel_rfl) rfl rfl ⟨(blk_cell HX.out 0).trans rfl, (blk_cell HX.out 1).trans rfl, (blk_cell HX.out 2).trans rfl⟩ (fun hHeld => ?_); refine with_tabW element_FileText.tab9 element_FileText.bits9 (fun HT_ HW_ => ?_)
      refine pure_ (i := 0) (N := some 36) (v := ?_) (a' := ?_) #[true, false, false, false, false, false, false, false, false, false, false] rfl rfl (any_of HT_.out (by kernel_rfl)) (fun _ _ _ h => h) (Or.inl ⟨by rfl, ?_⟩) ?_ ?_
      rotate_left
      · intro w'
        go_simp
        with_reducible rfl
      rotate_left
      · simp only [Act.put, List.setIfInBounds_toArray, List.set_cons_zero, List.set_cons_succ, i64_w, i32_w]
        rfl
      refine take_ (i := 1) (N := some 37) (v := ?_) (a' := ?_) #[true, true, false, false, false, false, false, false, false, false, false] rfl rfl (take_ofW HT_.out HW_.out (by kernel_rfl)) (fun _ _ _ h => h) (Or.inl ⟨by rfl, ?_⟩) hHeld ?_ ?_
      rotate_left
      · rintro w' ⟨s0, s1, s2⟩
        go_simp
        with_reducible rfl
      rotate_left
      · simp only [Act.put, List.setIfInBounds_toArray, List.set_cons_zero, List.set_cons_succ, i64_w, i32_w]
        rfl
      refine pure_ (i := 2) (N := some 38) (v := ?_) (a' := ?_) #[true, true, true, false, false, false, false, false, false, false, false] rfl rfl (any_of HT_.out (by kernel_rfl)) (fun _ _ _ h => h) (Or.inl ⟨by rfl, ?_⟩) ?_ ?_
      rotate_left
      · intro w'
        go_simp
        with_reducible rfl
      rotate_left
      · simp only [Act.put, List.setIfInBounds_toArray, List.set_cons_zero, List.set_cons_succ, i64_w, i32_w]
        rfl
      refine take_ (i := 3) (N := some 39) (v := ?_) (a' := ?_) #[true, true, true, true, false, false, false, false, false, false, false] rfl rfl (take_ofW HT_.out HW_.out (by kernel_rfl)) (fun _ _ _ h => h) (Or.inl ⟨by rfl, ?_⟩) hHeld ?_ ?_
      rotate_left
      · rintro w' ⟨s0, s1, s2⟩
        go_simp
        with_reducible rfl
      rotate_left
      · simp only [Act.put, List.setIfInBounds_toArray, List.set_cons_zero, List.set_cons_succ, i64_w, i32_w]
        rfl
      refine pure_ (i := 5) (N := some 41) (v := ?_) (a' := ?_) #[true, true, true, true, false, true, false, false, false, false, false] rfl rfl (any_of HT_.out (by kernel_rfl)) (fun _ _ _ h => h) (Or.inl ⟨by rfl, ?_⟩) ?_ ?_
      rotate_left
      · intro w'
        go_simp
        with_reducible rfl
      rotate_left
      · simp only [Act.put, List.setIfInBounds_toArray, List.set_cons_zero, List.set_cons_succ, i64_w, i32_w]
        rfl
      refine take_ (i := 6) (N := some 42) (v := ?_) (a' := ?_) #[true, true, true, true, false, true, true, false, false, false, false] rfl rfl (take_ofW HT_.out HW_.out (by kernel_rfl)) (fun _ _ _ h => h) (Or.inl ⟨by rfl, ?_⟩) hHeld ?_ ?_
      rotate_left
      · rintro w' ⟨s0, s1, s2⟩
        go_simp
        with_reducible rfl
      rotate_left
      · simp only [Act.put, List.setIfInBounds_toArray, List.set_cons_zero, List.set_cons_succ, i64_w, i32_w]
        rfl
      refine one_ (i := 4) (N := some 40) #[true, true, true, true, true, true, true, false, false, false, false] rfl rfl (one_of HT_.out (by kernel_rfl)) (by decide) (fun K hK => ?_)
      refine goes_ Tryz.func29 (by kernel_rfl) rfl #[.int .i64 x.f1] (by rfl) rfl rfl (by (try simp only [List.map_toArray, List.map_cons, List.map_nil]); first | done | rfl) ?_
      with_reducible refine (strconv_Itoa.calls x.f1 _ _ (by unfold strconv_Itoa.f; rw [if_pos hxs.2.1]) (GW.below HG.out ((hwB.trans (HB.out.mono hwB.size))))).mono ?_
      rintro e W5 ⟨rfl, hb⟩
      refine ⟨_, rfl, ?_⟩
      have n0_ := Aside0.mk ((hb.block _ (blk_lt HX.out)).trans HX.out)
      have n1_ := Aside0.mk (Bd.kept HI.out (grown_of hb) (by simp))
      have n2_ := Aside0.mk (HB.out.trans (hb.mono HB.out.size))
      clear HX HI HB hb
      have HX := n0_
      have HI := n1_
      have HB := n2_
      clear n0_ n1_ n2_
      refine hK.out _ _ ⟨(blk_cell HX.out 0).trans rfl, (blk_cell HX.out 1).trans rfl, (blk_cell HX.out 2).trans rfl⟩ (fun hHeld => ?_)
      clear hK K
      refine norm_ (a' := ?_) ?_ ?_
      rotate_left
      · show Act.put _ (some 40) _ = _
        simp only [Act.put, List.setIfInBounds_toArray, List.set_cons_zero, List.set_cons_succ, i64_w, i32_w]
        rfl
      refine one_ (i := 7) (N := some 43) #[true, true, true, true, true, true, true, true, false, false, false] rfl rfl (one_of HT_.out (by kernel_rfl)) (by decide) (fun K hK => ?_)
      refine goes_ Tryz.func29 (by kernel_rfl) rfl #[.int .i64 x.f2] (by rfl) rfl rfl (by (try simp only [List.map_toArray, List.map_cons, List.map_nil]); first | done | rfl) ?_
      with_reducible refine (strconv_Itoa.calls x.f2 _ _ (by unfold strconv_Itoa.f; rw [if_pos hxs.2.2]) (GW.below HG.out ((hwB.trans (HB.out.mono hwB.size))))).mono ?_
      rintro e W6 ⟨rfl, hb⟩
      refine ⟨_, rfl, ?_⟩
      have n0_ := Aside0.mk ((hb.block _ (blk_lt HX.out)).trans HX.out)
      have n1_ := Aside0.mk (Bd.kept HI.out (grown_of hb) (by simp))
      have n2_ := Aside0.mk (HB.out.trans (hb.mono HB.out.size))
      clear HX HI HB hb
      have HX := n0_
      have HI := n1_
      have HB := n2_
      clear n0_ n1_ n2_
      refine hK.out _ _ ⟨(blk_cell HX.out 0).trans rfl, (blk_cell HX.out 1).trans rfl, (blk_cell HX.out 2).trans rfl⟩ (fun hHeld => ?_)
      clear hK K
      refine norm_ (a' := ?_) ?_ ?_
      rotate_left
      · show Act.put _ (some 43) _ = _
        simp only [Act.put, List.setIfInBounds_toArray, List.set_cons_zero, List.set_cons_succ, i64_w, i32_w]
        rfl
      refine one_ (i := 8) (N := some 44) #[true, true, true, true, true, true, true, true, true, false, false] rfl rfl (one_of HT_.out (by kernel_rfl)) (by decide) (fun K hK => ?_)
      refine Kd.R_lit_step Kd.string _ 9 ?hg (N := 44) ?hd (xs := ([(⟨#[64, 103, 114, 111, 117, 112]⟩ : ByteArray), x.f0, (⟨(Lib.itoa x.f1).toArray⟩ : ByteArray), (⟨(Lib.itoa x.f2).toArray⟩ : ByteArray)] : List ByteArray)) (inner := [.string (⟨#[64, 103, 114, 111, 117, 112]⟩ : ByteArray), .string x.f0, .string (⟨(Lib.itoa x.f1).toArray⟩ : ByteArray), .string (⟨(Lib.itoa x.f2).toArray⟩ : ByteArray)]) (ok := fun _ => True) (okp := fun _ => True) ?hr ?hp (fun _ hk => hk) trivial (Below.refl _ _) (Nat.le_refl _) (by simp) ?_; (case hd => rfl); (case hg => rfl); (case hr => first | (go_simp; done) | (go_simp; rfl)); (case hp => exact (Reps.one (show Kd.M Kd.string _ _ _ (⟨#[64, 103, 114, 111, 117, 112]⟩ : ByteArray) [.string (⟨#[64, 103, 114, 111, 117, 112]⟩ : ByteArray)] from rfl) (Reps.one (show Kd.M Kd.string _ _ _ x.f0 [.string x.f0] from rfl) (Reps.one (show Kd.M Kd.string _ _ _ (⟨(Lib.itoa x.f1).toArray⟩ : ByteArray) [.string (⟨(Lib.itoa x.f1).toArray⟩ : ByteArray)] from rfl) (Reps.one (show Kd.M Kd.string _ _ _ (⟨(Lib.itoa x.f2).toArray⟩ : ByteArray) [.string (⟨(Lib.itoa x.f2).toArray⟩ : ByteArray)] from rfl) (Reps.none _ _))))))
      intro v1 W8 hR hb hg_ hnew_
      clear hg_ hnew_
      have n0_ := Aside0.mk ((hb.block _ (blk_lt HX.out)).trans HX.out)
      have n1_ := Aside0.mk (Bd.kept HI.out (grown_of hb) (by simp))
      have n2_ := Aside0.mk (HB.out.trans (hb.mono HB.out.size))
      clear HX HI HB hb
      have HX := n0_
      have HI := n1_
      have HB := n2_
      clear n0_ n1_ n2_
      obtain ⟨Av, cv, rfl⟩ := Kd.R_slice hR
      have HR := Aside0.mk hR
      clear hR
      refine hK.out _ _ ⟨(blk_cell HX.out 0).trans rfl, (blk_cell HX.out 1).trans rfl, (blk_cell HX.out 2).trans rfl⟩ (fun hHeld => ?_)
      clear hK K
      refine norm_ (a' := ?_) ?_ ?_
      rotate_left
      · show Act.put _ (some 44) _ = _
        simp only [Act.put, List.setIfInBounds_toArray, List.set_cons_zero, List.set_cons_succ, i64_w, i32_w]
        rfl
      refine one_ (i := 9) (N := some 45) #[true, true, true, true, true, true, true, true, true, true, false] rfl rfl (one_of HT_.out (by kernel_rfl)) (by decide) (fun K hK => ?_)
      refine goes_ Tryz.func28 (by kernel_rfl) rfl #[.slice Av ([(⟨#[64, 103, 114, 111, 117, 112]⟩ : ByteArray), x.f0, (⟨(Lib.itoa x.f1).toArray⟩ : ByteArray), (⟨(Lib.itoa x.f2).toArray⟩ : ByteArray)] : List ByteArray).length cv] (by rfl) rfl rfl (by (try simp only [List.map_toArray, List.map_cons, List.map_nil]); first | done | rfl) ?_
      with_reducible refine (element_words.calls _ _ [(⟨#[64, 103, 114, 111, 117, 112]⟩ : ByteArray), x.f0, (⟨(Lib.itoa x.f1).toArray⟩ : ByteArray), (⟨(Lib.itoa x.f2).toArray⟩ : ByteArray)] (ofL (groupT x)) _ (Kd.R_reads' HR.out).2.2 (Kd.R_reads' HR.out).2.1 HW9.out).mono ?_
      rintro e W9 ⟨rfl, hb⟩
      refine ⟨_, rfl, ?_⟩
      have n0_ := Aside0.mk ((hb.block _ (blk_lt HX.out)).trans HX.out)
      have n1_ := Aside0.mk (Bd.kept HI.out (grown_of hb) (by simp))
      have n2_ := Aside0.mk (HB.out.trans (hb.mono HB.out.size))
      clear HX HI HB hb
      have HX := n0_
      have HI := n1_
      have HB := n2_
      clear n0_ n1_ n2_
      refine hK.out _ _ ⟨(blk_cell HX.out 0).trans rfl, (blk_cell HX.out 1).trans rfl, (blk_cell HX.out 2).trans rfl⟩ (fun hHeld => ?_)
      clear hK K
      refine norm_ (a' := ?_) ?_ ?_
      rotate_left
      · show Act.put _ (some 45) _ = _
        simp only [Act.put, List.setIfInBounds_toArray, List.set_cons_zero, List.set_cons_succ, i64_w, i32_w]
        rfl
      refine one_ (i := 10) (N := some 46) #[true, true, true, true, true, true, true, true, true, true, true] rfl rfl (one_of HT_.out (by kernel_rfl)) (by decide) (fun K hK => ?_)
      refine goes_ Tryz.func27 (by kernel_rfl) rfl #[.pointer (some ⟨W1.heap.size, 0, none⟩), .string (ofL (groupT x))] (by rfl) rfl rfl (by (try simp only [List.map_toArray, List.map_cons, List.map_nil]); first | done | rfl) ?_
      with_reducible refine (Bd.WriteString W1.heap.size W1.heap.size _ (ofL (groupT x)) _ HI.out (by rw [bcells_len, ofL_size]; omega) HB.out.size).mono ?_
      rintro e W10 ⟨rfl, hI, hb, hk⟩
      refine ⟨_, rfl, ?_⟩
      have n0_ := Aside0.mk (hk _ _ HX.out (by intro e; have := Option.some.inj e; omega) (by rintro c fz h; cases h))
      have n1_ := Aside0.mk (cells_more _ (groupT x) _ _ (ofL_list _) (HF.out _ rfl) hI)
      have n2_ := Aside0.mk (HB.out.trans hb)
      clear HX HI HB hb hI hk HR
      have HX := n0_
      have HI := n1_
      have HB := n2_
      clear n0_ n1_ n2_
      refine hK.out _ _ ⟨(blk_cell HX.out 0).trans rfl, (blk_cell HX.out 1).trans rfl, (blk_cell HX.out 2).trans rfl⟩ (fun hHeld => ?_)
      clear hK K
      refine norm_ (a' := ?_) ?_ ?_
      rotate_left
      · show Act.put _ (some 46) _ = _
        simp only [Act.put, List.setIfInBounds_toArray, List.set_cons_zero, List.set_cons_succ, i64_w, i32_w]
        rfl
      refine done_ (done_of HT_.out (by kernel_rfl)) ?_
      go_wp2_with fail
      go_roundg g
      case measure => omega
      case rel => exact ⟨i + 1, by omega, by simp, by omega, HI, HB⟩
end Go.Proofs.YtdaijpjjilmkkaaGreatDoor.Pr

/- Plain laws of collations: what FileText writes, ParseFile reads back; what ParseFile read, FileText writes. -/
namespace Go.Proofs.YtdaijpjjilmkkaaGreatDoor.Pr
open Go.RowKit Go.Proofs.YtdaijpjjilmkkaaGreatDoorW.PrintWords Go.Proofs.YtdaijpjjilmkkaaGreatDoorW.PrintLast Go.Proofs.YtdaijpjjilmkkaaGreatDoorW.PrintMore
set_option linter.unusedVariables false
set_option linter.unusedSimpArgs false
theorem okW_of (x : S44) (h : checkE x = 0) : okW x := by
  unfold checkE at h
  unfold okW
  split at h
  · next hc => exact hc
  · cases h
theorem errE_mem : ∀ (l : List S44), errE l = 0 → ∀ x ∈ l, checkE x = 0
  | [], _, x, hx => by cases hx
  | y :: r, h, x, hx => by
    rw [errE] at h
    by_cases hy : checkE y = 0
    · rw [if_pos hy] at h
      rcases List.mem_cons.1 hx with rfl | hx
      · exact hy
      · exact errE_mem r h x hx
    · rw [if_neg hy] at h; exact absurd h hy
theorem linesOf_of {s : List UInt8} {ls : List (List UInt8)} {r : List UInt8} (h : cutAt 10 s = ls ++ [r]) : linesOf s = if r = [] then ls else ls ++ [r] := by
  have hl : (ls ++ [r]).getLastD [] = r := by simp
  unfold linesOf
  rw [h, hl]
  by_cases hr : r = []
  · rw [if_pos hr, if_pos hr]; simp
  · rw [if_neg hr, if_neg hr]
def in64 (n : Int) : Prop := 0 ≤ n ∧ n ≤ 9223372036854775807
def okG (g : S46) : Prop := nameB g.f0.data.toList = true ∧ in64 g.f1 ∧ in64 g.f2
def okX (x : S49) : Prop := x.f0.all validB = true ∧ ∀ e ∈ x.f1, okW e
structure okF (l0 : List S49) (l1 : List S46) (a b c : Int) : Prop where
  g : ∀ g ∈ l1, okG g
  x : ∀ x ∈ l0, okX x
  e : ∀ x ∈ l0, errE x.f1 = 0
  n1 : in64 a
  n2 : in64 b
  n3 : in64 c
end Go.Proofs.YtdaijpjjilmkkaaGreatDoor.Pr
