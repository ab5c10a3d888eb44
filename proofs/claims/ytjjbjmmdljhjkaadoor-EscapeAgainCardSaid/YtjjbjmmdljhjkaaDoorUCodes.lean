/- Plain laws: Codes and ParseCodes, the reference's and the program's; Equal of a list and itself. -/
import Derived.Test.YtjjbjmmdljhjkaaDoorUText
import Derived.Test.YtjjbjmmdljhjkaaDoorPrx9
import Derived.Test.YtjjbjmmdljhjkaaDoorPrx9
import Derived.Test.YtjjbjmmdljhjkaaDoorPrx8
import Derived.Test.YtjjbjmmdljhjkaaDoorPrx8
import Derived.Test.YtjjbjmmdljhjkaaDoorPrx2
import Derived.Lib.SplitLaws
namespace Go.Proofs.YtjjbjmmdljhjkaaDoor.Pr
open Go.RowKit Go.Proofs.YtjjbjmmdljhjkaaDoorW.PrintWords Go.Proofs.YtjjbjmmdljhjkaaDoorW.PrintLast Go.Proofs.YtjjbjmmdljhjkaaDoorW.PrintMore
set_option linter.unusedVariables false
set_option linter.unusedSimpArgs false

/-! ### equality -/
theorem compare_loop (a : List Int) (ha : a.length < 140737488355328) (d : Nat) : ∀ (i k : Nat), i + d = a.length → 2 * d + 2 ≤ k → unicodetextref01_Compare.l0 k a a (i : Int) = some 0 := by
  induction d with
  | zero =>
    intro i k hi hk
    obtain ⟨k, rfl⟩ : ∃ m, k = m + 2 := ⟨k - 2, by omega⟩
    simp only [unicodetextref01_Compare.l0, unicodetextref01_Compare.j1]
    rw [if_neg (by omega), if_neg (by decide), if_neg (by omega), if_neg (by omega)]
  | succ d ih =>
    intro i k hi hk
    obtain ⟨k, rfl⟩ : ∃ m, k = m + 2 := ⟨k - 2, by omega⟩
    simp only [unicodetextref01_Compare.l0, unicodetextref01_Compare.j1]
    rw [if_pos (by omega), if_pos (by simp; omega), if_pos (by omega), if_pos (by omega), if_pos (by omega), if_neg (by omega), if_neg (by omega), wrap_succ i (by omega)]
    exact ih (i + 1) k (by omega) (by omega)
theorem equal_self (a : List Int) (ha : a.length < 140737488355328) : Ev (fun k => unicodetextref01_Equal.f k a a) true := by
  refine Ev.of (fun k => unicodetextref01_Equal.mono _ _ k) (k := 2 * a.length + 2) ?_
  unfold unicodetextref01_Equal.f unicodetextref01_Compare.f
  have := compare_loop a ha a.length 0 (2 * a.length + 2) (by omega) (by omega)
  rw [show ((0 : Nat) : Int) = 0 from rfl] at this
  rw [this]
  rfl

/-! ### cut at blanks -/
def cutL : List UInt8 → List (List UInt8)
  | [] => [[]]
  | b :: t => if b = 32 then [] :: cutL t else match cutL t with
    | [] => [[b]]
    | p :: r => (b :: p) :: r
def consP (p : List UInt8) : List (List UInt8) → List (List UInt8)
  | [] => [p]
  | q :: r => (p ++ q) :: r
theorem cutL_ne (l : List UInt8) : cutL l ≠ [] := by
  cases l with
  | nil => simp [cutL]
  | cons b t => 
    unfold cutL
    split
    · simp
    · split <;> simp
theorem cutL_len (l : List UInt8) : (cutL l).length ≤ l.length + 1 := by
  induction l with
  | nil => simp [cutL]
  | cons b t ih =>
    unfold cutL
    split
    · simp; exact ih
    · split
      · simp
      · next p r h => rw [h] at ih; simp at ih ⊢; omega
theorem cutL_hit (t : List UInt8) : cutL (32 :: t) = [] :: cutL t := by simp [cutL]
theorem cutL_miss (b : UInt8) (t : List UInt8) (h : b ≠ 32) : cutL (b :: t) = consP [b] (cutL t) := by
  rw [cutL, if_neg h]
  cases cutL t <;> rfl
theorem consP_nil (x : List (List UInt8)) (h : x ≠ []) : consP [] x = x := by
  cases x with
  | nil => exact absurd rfl h
  | cons _ _ => rfl
theorem consP_consP (p q : List UInt8) (x : List (List UInt8)) : consP p (consP q x) = consP (p ++ q) x := by
  cases x <;> simp [consP]

theorem split_cut : ∀ l : List UInt8, Lib.splitK [32] 0 (Lib.count l [32]) l = cutL l
  | [] => by rw [Lib.count_miss (by simp [Lib.index])]; rfl
  | b :: t => by
    have ih := split_cut t
    by_cases h : b = 32
    · subst h
      have hix : Lib.index (32 :: t) [32] = ((0 : Nat) : Int) := by rw [Lib.index]; simp [List.isPrefixOf]
      rw [Lib.count_cons_eq, Nat.add_comm, Lib.splitK, if_neg (by rw [hix]; decide), hix, cutL_hit, ← ih]
      simp
    · have hp : ([32] : List UInt8).isPrefixOf (b :: t) = false := by simp [List.isPrefixOf, Ne.symm h]
      have hix : Lib.index (b :: t) [32] = if Lib.index t [32] == -1 then -1 else Lib.index t [32] + 1 := by rw [Lib.index, hp]; simp
      rw [Lib.count_cons_ne b 32 t h, cutL_miss b t h, ← ih]
      by_cases hm : Lib.index t [32] = -1
      · rw [Lib.count_miss hm]; rfl
      · have hge := Lib.index_ge t [32]
        obtain ⟨j, hj⟩ : ∃ j : Nat, Lib.index t [32] = j := ⟨(Lib.index t [32]).toNat, by omega⟩
        have hc := Lib.count_hit (s := t) (sub := [32]) (i := j) (by simp) hj
        have hix' : Lib.index (b :: t) [32] = ((j + 1 : Nat) : Int) := by rw [hix, if_neg (fun e => hm (beq_iff_eq.1 e)), hj]; omega
        rw [hc, Nat.add_comm, Lib.splitK, Lib.splitK, hix', hj, if_neg (by first | (simp; done) | (simp; omega)), if_neg (by first | (simp; done) | (simp; omega))]
        simp only [Int.toNat_natCast, List.length_cons, List.length_nil, consP]
        rw [show j + 1 + (0 + 1) = (j + (0 + 1)) + 1 by omega, List.drop_succ_cons]
        simp

theorem split_f (l : List UInt8) (hl : l.length < 4294967281) : strings_Split.f (ofL l) (⟨#[32]⟩ : ByteArray) = some ((cutL l).map ofL) := by
  unfold strings_Split.f
  rw [if_pos ⟨by rw [ofL_size]; exact hl, by decide⟩]
  have h := Lib.splitB_data (⟨#[32]⟩ : ByteArray) 0 (Lib.countB (ofL l) (⟨#[32]⟩ : ByteArray)) (ofL l)
  have hc : Lib.countB (ofL l) (⟨#[32]⟩ : ByteArray) = Lib.count l [32] := by unfold Lib.countB; simp
  rw [hc] at h ⊢
  have h2 : Lib.splitK (⟨#[32]⟩ : ByteArray).data.toList 0 (Lib.count l [32]) (ofL l).data.toList = cutL l := by rw [ofL_list]; exact split_cut l
  rw [h2] at h
  rw [← h, List.map_map]
  congr 1
  refine (List.map_id _).symm.trans (List.map_congr_left fun s _ => ?_)
  exact (ofL_eq s).symm

theorem ref_cut_loop (l : List UInt8) (hl : l.length ≤ 1000000) (d : Nat) : ∀ (i k from_ : Nat) (acc : List ByteArray), i + d = l.length → d + 1 ≤ k → from_ ≤ i → acc.length ≤ i →
    unicodetextref02_Cut.l0 k (ofL l) 32 acc (from_ : Int) (i : Int) = some (acc ++ (consP ((l.drop from_).take (i - from_)) (cutL (l.drop i))).map ofL) := by
  induction d with
  | zero =>
    intro i k from_ acc hi hk hf ha
    obtain ⟨k, rfl⟩ : ∃ m, k = m + 1 := ⟨k - 1, by omega⟩
    simp only [unicodetextref02_Cut.l0]
    rw [if_neg (by rw [ofL_size]; omega), if_pos (by omega), if_pos (by rw [ofL_size]; omega), if_pos (by omega), ofL_extract, ofL_size, Int.toNat_natCast, List.drop_of_length_le (show l.length ≤ i by omega)]
    simp [cutL, consP, show l.length = i by omega]
  | succ d ih =>
    intro i k from_ acc hi hk hf ha
    obtain ⟨k, rfl⟩ : ∃ m, k = m + 1 := ⟨k - 1, by omega⟩
    have hlt : i < l.length := by omega
    obtain ⟨b, hb⟩ : ∃ b, l[i] = b := ⟨_, rfl⟩
    have hd : l.drop i = b :: l.drop (i + 1) := by rw [List.drop_eq_getElem_cons hlt, hb]
    simp only [unicodetextref02_Cut.l0]
    rw [if_pos (by rw [ofL_size]; omega), if_pos (by omega), bt_ofL l i hlt, hb]
    by_cases h : b = 32
    · rw [if_pos ((u8_32 b).2 h), if_pos (by omega), if_pos (by omega), if_pos (by rw [ofL_size]; omega), if_pos (by omega), wrap_succ i (by omega), ih (i + 1) k (i + 1) _ (by omega) (by omega) (by omega) (by simp; omega), hd, h, cutL_hit, ofL_extract]
      rw [show i + 1 - (i + 1) = 0 by omega, List.take_zero, consP_nil _ (cutL_ne _)]
      simp [consP]
    · rw [if_neg (fun e => h ((u8_32 b).1 e)), wrap_succ i (by omega), ih (i + 1) k from_ acc (by omega) (by omega) (by omega) (by omega), hd, cutL_miss b _ h, consP_consP]
      congr 5
      have h1 : i - from_ < (l.drop from_).length := by rw [List.length_drop]; omega
      have h2 : (l.drop from_)[i - from_] = b := by rw [List.getElem_drop, ← hb]; congr 1; omega
      rw [show i + 1 - from_ = (i - from_) + 1 by omega, List.take_succ_eq_append_getElem h1, h2]

theorem ref_cut (l : List UInt8) (hl : l.length ≤ 1000000) : Ev (fun k => unicodetextref02_Cut.f k (ofL l) 32) ((cutL l).map ofL) := by
  refine Ev.of (fun k => unicodetextref02_Cut.mono _ _ k) (k := l.length + 1) ?_
  unfold unicodetextref02_Cut.f
  have := ref_cut_loop l hl l.length 0 (l.length + 1) 0 [] (by omega) (by omega) (by omega) (by simp)
  rw [show ((0 : Nat) : Int) = 0 from rfl] at this
  rw [this]
  simp [consP_nil _ (cutL_ne _)]

/-! ### ParseCodes -/
def codesP : List (List UInt8) → List Int → List Int × Int
  | [], acc => (acc, 0)
  | p :: r, acc => if (parseS p).2 = 0 then codesP r (acc ++ [(parseS p).1]) else ([], 3)
theorem rdOf_at (ps : List (List UInt8)) (i : Nat) (h : i < ps.length) : rdOf ByteArray.empty (ps.map ofL) (i : Int) = ofL ps[i] := by simp [rdOf, h]

theorem pcodes_loop (ps : List (List UInt8)) (hps : ps.length ≤ 1000000) (d : Nat) : ∀ (i : Nat) (acc : List Int), i + d = ps.length → acc.length ≤ i →
    Ev (fun k => escape_ParseCodes.l0 k acc (ps.map ofL) (ps.length : Int) (i : Int)) (codesP (ps.drop i) acc) := by
  induction d with
  | zero =>
    intro i acc hi ha
    refine ⟨1, fun k hk => ?_⟩
    (try dsimp only)
    obtain ⟨k, rfl⟩ : ∃ m, k = m + 1 := ⟨k - 1, by omega⟩
    simp only [escape_ParseCodes.l0]
    rw [if_neg (by omega), List.drop_of_length_le (by omega)]
    rfl
  | succ d ih =>
    intro i acc hi ha
    have hlt : i < ps.length := by omega
    have hd : ps.drop i = ps[i] :: ps.drop (i + 1) := List.drop_eq_getElem_cons hlt
    obtain ⟨K1, h1⟩ := prog_parse ps[i]
    (try dsimp only at h1)
    by_cases h0 : (parseS ps[i]).2 = 0
    · obtain ⟨K2, h2⟩ := ih (i + 1) (acc ++ [(parseS ps[i]).1]) (by omega) (by simp; omega)
      (try dsimp only at h2)
      refine ⟨K1 + K2 + 1, fun k hk => ?_⟩
      (try dsimp only)
      obtain ⟨k, rfl⟩ : ∃ m, k = m + 1 := ⟨k - 1, by omega⟩
      simp only [escape_ParseCodes.l0]
      rw [if_pos (by omega), if_pos (by omega), if_pos (by rw [List.length_map]; omega), rdOf_at ps i hlt, h1 k (by omega), Option.bind_some, if_pos h0, if_pos (by omega), wrap_succ i (by omega), h2 k (by omega), hd]
      simp only [codesP]
      rw [if_pos h0]
    · refine ⟨K1 + 1, fun k hk => ?_⟩
      obtain ⟨k, rfl⟩ : ∃ m, k = m + 1 := ⟨k - 1, by omega⟩
      simp only [escape_ParseCodes.l0]
      rw [if_pos (by omega), if_pos (by omega), if_pos (by rw [List.length_map]; omega), rdOf_at ps i hlt, h1 k (by omega), Option.bind_some, if_neg h0, hd]
      simp only [codesP]
      rw [if_neg h0]

def readCodes (l : List UInt8) : List Int × Int := if l = [] then ([], 0) else codesP (cutL l) []
theorem pcodes (l : List UInt8) (hl : l.length ≤ 1000) : Ev (fun k => escape_ParseCodes.f k (ofL l)) (readCodes l) := by
  unfold readCodes
  by_cases h : l = []
  · subst h
    refine ⟨0, fun k _ => ?_⟩
    (try dsimp only)
    unfold escape_ParseCodes.f
    rw [if_pos (ofL_toList []), if_pos rfl]
  · rw [if_neg h]
    have hc := cutL_len l
    refine Ev.congr (f := fun k => escape_ParseCodes.l0 k [] ((cutL l).map ofL) ((cutL l).length : Int) ((0 : Nat) : Int)) (fun k => ?_) (pcodes_loop (cutL l) (by omega) (cutL l).length 0 [] (by omega) (by simp))
    unfold escape_ParseCodes.f
    rw [if_neg (by rw [ofL_toList]; exact h), split_f l (by omega), Option.bind_some, List.length_map]
    rfl

theorem rcodes_loop (l : List UInt8) (hne : l ≠ []) (ps : List (List UInt8)) (hps : ps.length ≤ 1000000) (d : Nat) : ∀ (i : Nat) (acc : List Int), i + d = ps.length → acc.length ≤ i →
    Ev (fun k => unicodetextref05_ParseCodes.l0 k (ofL l) acc (ps.map ofL) (i : Int)) (codesP (ps.drop i) acc) := by
  have hb : ((ofL l).toList != ([] : List UInt8)) = true := by rw [ofL_toList]; simpa using hne
  induction d with
  | zero =>
    intro i acc hi ha
    refine ⟨2, fun k hk => ?_⟩
    (try dsimp only)
    obtain ⟨k, rfl⟩ : ∃ m, k = m + 2 := ⟨k - 2, by omega⟩
    simp only [unicodetextref05_ParseCodes.l0, unicodetextref05_ParseCodes.j1]
    rw [if_neg (by rw [List.length_map]; omega), if_neg (by decide), List.drop_of_length_le (by omega)]
    rfl
  | succ d ih =>
    intro i acc hi ha
    have hlt : i < ps.length := by omega
    have hd : ps.drop i = ps[i] :: ps.drop (i + 1) := List.drop_eq_getElem_cons hlt
    obtain ⟨K1, h1⟩ := ref_parse ps[i]
    (try dsimp only at h1)
    by_cases h0 : (parseS ps[i]).2 = 0
    · obtain ⟨K2, h2⟩ := ih (i + 1) (acc ++ [(parseS ps[i]).1]) (by omega) (by simp; omega)
      (try dsimp only at h2)
      refine ⟨K1 + K2 + 2, fun k hk => ?_⟩
      (try dsimp only)
      obtain ⟨k, rfl⟩ : ∃ m, k = m + 2 := ⟨k - 2, by omega⟩
      simp only [unicodetextref05_ParseCodes.l0, unicodetextref05_ParseCodes.j1]
      rw [if_pos (by rw [List.length_map]; omega), hb, if_pos rfl, if_pos (by omega), if_pos (by rw [List.length_map]; omega), rdOf_at ps i hlt, h1 k (by omega), Option.bind_some, if_pos h0, if_pos (by omega), wrap_succ i (by omega), h2 k (by omega), hd]
      simp only [codesP]
      rw [if_pos h0]
    · refine ⟨K1 + 2, fun k hk => ?_⟩
      obtain ⟨k, rfl⟩ : ∃ m, k = m + 2 := ⟨k - 2, by omega⟩
      simp only [unicodetextref05_ParseCodes.l0, unicodetextref05_ParseCodes.j1]
      rw [if_pos (by rw [List.length_map]; omega), hb, if_pos rfl, if_pos (by omega), if_pos (by rw [List.length_map]; omega), rdOf_at ps i hlt, h1 k (by omega), Option.bind_some, if_neg h0, hd]
      simp only [codesP]
      rw [if_neg h0]

theorem rcodes (l : List UInt8) (hl : l.length ≤ 1000) : Ev (fun k => unicodetextref05_ParseCodes.f k (ofL l)) (readCodes l) := by
  have hc := cutL_len l
  refine Ev.bind (ref_cut l (by omega)) ?_
  unfold readCodes
  by_cases h : l = []
  · subst h
    refine ⟨2, fun k hk => ?_⟩
    (try dsimp only)
    obtain ⟨k, rfl⟩ : ∃ m, k = m + 2 := ⟨k - 2, by omega⟩
    simp only [unicodetextref05_ParseCodes.l0, unicodetextref05_ParseCodes.j1]
    rw [if_pos (by decide), show ((ofL []).toList != ([] : List UInt8)) = false by rw [ofL_toList]; rfl, if_neg (by decide), if_pos trivial]
  · rw [if_neg h]
    exact rcodes_loop l h (cutL l) (by omega) (cutL l).length 0 [] (by omega) (by simp)

/-! ### Codes -/
def hxL (c : Int) : List UInt8 := (hexOf c).data.toList
def codesL (xs : List Int) : ByteArray × Int := if xs.all validB then (ofL (Lib.join (xs.map hxL) [32]), 0) else (ofL [], 1)
theorem hxL_len (c : Int) : (hxL c).length ≤ 6 := hexOf_len c
theorem join_size (xs : List Int) : (Lib.join (xs.map hxL) [32]).length ≤ 7 * xs.length := by
  cases xs with
  | nil => simp [Lib.join_nil]
  | cons x r =>
    have hx := hxL_len x
    have hl : ∀ r : List Int, Lib.lens (r.map hxL) ≤ 6 * r.length := by
      intro r
      induction r with
      | nil => simp [Lib.lens]
      | cons y r ih => have := hxL_len y; simp [Lib.lens] at ih ⊢; omega
    have h := hl (x :: r)
    rw [List.map_cons] at h
    rw [List.map_cons, Lib.join_length]
    simp at h ⊢
    omega

theorem codes_loop (xs : List Int) (hx : xs.length ≤ 1000000) (d : Nat) : ∀ (i k : Nat) (acc : List ByteArray), i + d = xs.length → d + 1 ≤ k → acc = (xs.take i).map hexOf →
    escape_Codes.l0 k acc xs (xs.length : Int) (i : Int) = some (ofL (Lib.join (xs.map hxL) [32]), 0) := by
  induction d with
  | zero =>
    intro i k acc hi hk ha
    obtain ⟨k, rfl⟩ : ∃ m, k = m + 1 := ⟨k - 1, by omega⟩
    have hj := join_size xs
    have he : acc.map (fun s : ByteArray => s.data.toList) = xs.map hxL := by rw [ha, List.take_of_length_le (by omega), List.map_map]; rfl
    have hal : acc.length = xs.length := by rw [ha]; simp; omega
    simp only [escape_Codes.l0, strings_Join.f]
    rw [if_neg (by omega), he, if_pos ⟨by omega, by omega⟩]
    rfl
  | succ d ih =>
    intro i k acc hi hk ha
    obtain ⟨k, rfl⟩ : ∃ m, k = m + 1 := ⟨k - 1, by omega⟩
    have hlt : i < xs.length := by omega
    have hal : acc.length = i := by rw [ha]; simp; omega
    simp only [escape_Codes.l0, codepoint_Hex.f]
    rw [if_pos (by omega), if_pos (by omega), if_pos (by omega), Option.bind_some, if_pos (by omega), wrap_succ i (by omega), rd_at xs i hlt]
    exact ih (i + 1) k _ (by omega) (by omega) (by rw [ha, List.take_succ_eq_append_getElem hlt, List.map_append]; rfl)

theorem codes_ev (xs : List Int) (hx : xs.length ≤ 1000000) : Ev (fun k => escape_Codes.f k xs) (codesL xs) := by
  refine Ev.of (fun k => escape_Codes.mono _ k) (k := xs.length + 1) ?_
  unfold escape_Codes.f codesL
  rw [valid_f xs hx, Option.bind_some]
  by_cases h : xs.all validB = true
  · rw [if_pos h, if_pos h]
    exact codes_loop xs hx xs.length 0 _ [] (by omega) (by omega) (by simp)
  · rw [if_neg h, if_neg h]

theorem joinTail_cons (y : List UInt8) (r : List (List UInt8)) : Lib.joinTail [32] (y :: r) = [32] ++ y ++ Lib.joinTail [32] r := by simp [Lib.joinTail]

theorem refcodes_loop (xs : List Int) (hx : xs.length ≤ 1000000) (d : Nat) : ∀ (i k : Nat) (A : List UInt8), i + d = xs.length → 0 < i → d + 8 ≤ k → A.length ≤ 7 * i →
    unicodetextref05_Codes.l0 k xs (ofL A) (i : Int) = some (if (xs.drop i).all validB then (ofL (A ++ Lib.joinTail [32] ((xs.drop i).map hxL)), 0) else (ofL [], 1)) := by
  induction d with
  | zero =>
    intro i k A hi h0 hk hA
    obtain ⟨k, rfl⟩ : ∃ m, k = m + 1 := ⟨k - 1, by omega⟩
    simp only [unicodetextref05_Codes.l0]
    rw [if_neg (by omega), List.drop_of_length_le (by omega)]
    simp [Lib.joinTail]
  | succ d ih =>
    intro i k A hi h0 hk hA
    obtain ⟨k, rfl⟩ : ∃ m, k = m + 1 := ⟨k - 1, by omega⟩
    have hlt : i < xs.length := by omega
    obtain ⟨c, hc⟩ : ∃ c, xs[i] = c := ⟨_, rfl⟩
    have hd : xs.drop i = c :: xs.drop (i + 1) := by rw [List.drop_eq_getElem_cons hlt, hc]
    have hh := hxL_len c
    have hhx : hexOf c = ofL (hxL c) := (ofL_eq _).symm
    simp only [unicodetextref05_Codes.l0]
    rw [if_pos (by omega), if_pos (by omega), rd_at xs i hlt, hc, ref_valid, Option.bind_some, hd]
    by_cases hv : 0 ≤ c ∧ c ≤ 1114111
    · have hB : validB c = true := by unfold validB; exact decide_eq_true hv
      rw [if_pos (decide_eq_true hv), if_pos (by omega), at_rounds (fun k => unicodetextref01_Hex.mono _ k) (show 7 ≤ k by omega) (ref_hex c), Option.bind_some, hhx, show (⟨#[32]⟩ : ByteArray) = ofL [32] from rfl, ofL_append, ofL_append]
      simp only [ofL_size, List.length_append, List.length_cons, List.length_nil]
      rw [if_pos (by omega), if_pos (by omega), wrap_succ i (by omega), ih (i + 1) k _ (by omega) (by omega) (by omega) (by simp; omega)]
      simp only [List.all_cons, hB, Bool.true_and, List.map_cons, joinTail_cons, List.append_assoc]
    · have hB : validB c = false := by unfold validB; exact decide_eq_false hv
      rw [if_neg (by rw [decide_eq_false hv]; decide)]
      simp only [List.all_cons, hB, Bool.false_and]
      rfl

theorem refcodes_ev (xs : List Int) (hx : xs.length ≤ 1000000) : Ev (fun k => unicodetextref05_Codes.f k xs) (codesL xs) := by
  refine Ev.of (fun k => unicodetextref05_Codes.mono _ k) (k := xs.length + 9) ?_
  unfold unicodetextref05_Codes.f codesL
  match xs, hx with
  | [], _ => rfl
  | c :: r, hx =>
    have hh := hxL_len c
    have hhx : hexOf c = ofL (hxL c) := (ofL_eq _).symm
    have hr0 : rd (c :: r) 0 = c := rfl
    obtain ⟨K, hK⟩ : ∃ K, (c :: r).length + 9 = K + 1 := ⟨_, rfl⟩
    have hKl : K = r.length + 9 := by simp at hK; omega
    rw [hK]
    simp only [unicodetextref05_Codes.l0]
    rw [if_pos (by first | (simp; done) | (simp; omega)), if_pos (by omega), hr0, ref_valid, Option.bind_some]
    by_cases hv : 0 ≤ c ∧ c ≤ 1114111
    · have hB : validB c = true := by unfold validB; exact decide_eq_true hv
      rw [if_pos (decide_eq_true hv), if_neg (by omega), at_rounds (fun k => unicodetextref01_Hex.mono _ k) (show 7 ≤ _ by omega) (ref_hex c), Option.bind_some, hhx, show (⟨#[]⟩ : ByteArray) = ofL [] from rfl, ofL_append]
      simp only [ofL_size, List.length_append, List.length_cons, List.length_nil]
      rw [if_pos (by omega)]
      have := refcodes_loop (c :: r) hx r.length 1 K ([] ++ hxL c) (by simp; omega) (by omega) (by omega) (by simp; omega)
      rw [show wrap64 (0 + 1) = ((1 : Nat) : Int) from by unfold wrap64; decide]
      refine Eq.trans this ?_
      simp only [List.drop_succ_cons, List.drop_zero, List.all_cons, hB, Bool.true_and, List.map_cons, Lib.join_cons, List.nil_append]
    · have hB : validB c = false := by unfold validB; exact decide_eq_false hv
      rw [if_neg (by rw [decide_eq_false hv]; decide)]
      simp only [List.all_cons, hB, Bool.false_and]
      rfl

end Go.Proofs.YtjjbjmmdljhjkaaDoor.Pr
