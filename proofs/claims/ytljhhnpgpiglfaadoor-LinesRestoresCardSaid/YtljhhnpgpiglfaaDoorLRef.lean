/- Plain laws of the reference of the lines: Split, Trim, comment, spanned, Strings, Same, Parse. -/
import Derived.Test.YtljhhnpgpiglfaaDoorLPure
import Derived.Test.YtljhhnpgpiglfaaDoorPrx2
import Derived.Test.YtljhhnpgpiglfaaDoorPrx3
import Derived.Test.YtljhhnpgpiglfaaDoorPrx4
import Derived.Test.YtljhhnpgpiglfaaDoorPrx5
namespace Go.Proofs.YtljhhnpgpiglfaaDoor.Pr
open Go.RowKit Go.Proofs.YtljhhnpgpiglfaaDoorW.PrintWords Go.Proofs.YtljhhnpgpiglfaaDoorW.PrintLast Go.Proofs.YtljhhnpgpiglfaaDoorW.PrintMore
set_option linter.unusedVariables false
set_option linter.unusedSimpArgs false

/-! ### Split -/
def glue (p : List UInt8) : List (List UInt8) → List (List UInt8)
  | [] => [p]
  | q :: r => (p ++ q) :: r
theorem glue_cons (p q : List UInt8) (r : List (List UInt8)) : glue p (q :: r) = (p ++ q) :: r := rfl
theorem glue_nil {xs : List (List UInt8)} (h : xs ≠ []) : glue [] xs = xs := by cases xs with | nil => exact absurd rfl h | cons => rfl
theorem cutAt_hit (c : UInt8) (t : List UInt8) : cutAt c (c :: t) = [] :: cutAt c t := by rw [cutAt, if_pos rfl]
theorem cutAt_miss (c b : UInt8) (t : List UInt8) (h : b ≠ c) : cutAt c (b :: t) = glue [b] (cutAt c t) := by
  rw [cutAt, if_neg h]
  cases cutAt c t <;> rfl
theorem glue_glue (p q : List UInt8) (xs : List (List UInt8)) : glue p (glue q xs) = glue (p ++ q) xs := by cases xs <;> simp [glue]

theorem ref_split_loop (c : UInt8) (l : List UInt8) (hl : l.length ≤ 1000000) (d : Nat) : ∀ (i from_ k : Nat) (acc : List ByteArray), i + d = l.length → from_ ≤ i → d < k → acc.length ≤ i →
    unicodetextref09_Split.l0 k (ofL l) (c.toNat : Int) acc (from_ : Int) (i : Int) = some (acc ++ (glue ((l.drop from_).take (i - from_)) (cutAt c (l.drop i))).map ofL) := by
  induction d with
  | zero =>
    intro i from_ k acc hi hf hk ha
    obtain ⟨k, rfl⟩ : ∃ m, k = m + 1 := ⟨k - 1, by omega⟩
    simp only [unicodetextref09_Split.l0]
    rw [if_neg (by rw [ofL_size]; omega), if_pos (by omega), if_pos (by rw [ofL_size]; omega), if_pos (by omega), show l.drop i = [] from List.drop_of_length_le (by omega), ofL_extract, show cutAt c [] = [[]] from rfl, glue_cons]
    simp only [Int.toNat_natCast, ofL_size, List.append_nil, List.map_cons, List.map_nil]
    rw [show i = l.length by omega]
  | succ d ih =>
    intro i from_ k acc hi hf hk ha
    obtain ⟨k, rfl⟩ : ∃ m, k = m + 1 := ⟨k - 1, by omega⟩
    have hlt : i < l.length := by omega
    have hd : l.drop i = l[i] :: l.drop (i + 1) := List.drop_eq_getElem_cons hlt
    simp only [unicodetextref09_Split.l0]
    rw [if_pos (by rw [ofL_size]; omega), if_pos (by omega), bt_ofL l i hlt, hd]
    by_cases hc : l[i] = c
    · rw [if_pos (by rw [hc]), if_pos (by omega), if_pos (by omega), if_pos (by rw [ofL_size]; omega), if_pos (by omega), wrap_succ _ (by omega), ofL_extract, hc, cutAt_hit,
        ih (i + 1) (i + 1) k _ (by omega) (by omega) (by omega) (by rw [List.length_append]; simp; omega)]
      simp only [Int.toNat_natCast, Nat.sub_self, List.take_zero, glue_nil (cutAt_ne _ _), glue_cons, List.append_nil, List.map_cons, List.append_assoc, List.cons_append, List.nil_append]
    · rw [if_neg (fun h => hc (UInt8.toNat_inj.1 (by omega))), wrap_succ _ (by omega), cutAt_miss _ _ _ hc, ih (i + 1) from_ k _ (by omega) (by omega) (by omega) (by omega), glue_glue]
      congr 4
      rw [show i + 1 - from_ = (i - from_) + 1 by omega, List.take_add_one, List.getElem?_drop, show from_ + (i - from_) = i by omega, List.getElem?_eq_getElem hlt]
      rfl

theorem ref_split (c : UInt8) (l : List UInt8) (hl : l.length ≤ 1000000) : Ev (fun k => unicodetextref09_Split.f k (ofL l) (c.toNat : Int)) ((cutAt c l).map ofL) := by
  refine ⟨l.length + 1, fun k hk => ?_⟩
  show unicodetextref09_Split.f k (ofL l) (c.toNat : Int) = _
  unfold unicodetextref09_Split.f
  have h := ref_split_loop c l hl l.length 0 0 k [] (by omega) (by omega) (by omega) (by simp)
  simp only [List.drop_zero, Nat.sub_self, List.take_zero, glue_nil (cutAt_ne _ _), List.nil_append] at h
  exact h

/-! ### Trim -/
theorem ref_blank_all : (List.range 256).all (fun b => unicodetextref09_Blank.f (b : Int) == some (([32, 9, 13] : List UInt8).contains (UInt8.ofNat b))) = true := by decide +kernel
theorem ref_blank (b : UInt8) : unicodetextref09_Blank.f (b.toNat : Int) = some (([32, 9, 13] : List UInt8).contains b) := by
  have h := List.all_eq_true.1 ref_blank_all b.toNat (List.mem_range.2 b.toNat_lt)
  rw [beq_iff_eq, UInt8.ofNat_toNat] at h
  exact h

/-- Both sides, in the other order. -/
theorem trim_comm (p : UInt8 → Bool) : ∀ l : List UInt8, ((l.dropWhile p).reverse.dropWhile p).reverse = ((l.reverse.dropWhile p).reverse).dropWhile p
  | [] => rfl
  | b :: t => by
    have ih := trim_comm p t
    rw [List.reverse_cons, List.dropWhile_append]
    by_cases hb : p b = true
    · rw [List.dropWhile_cons_of_pos hb, ih]
      by_cases he : (List.dropWhile p t.reverse).isEmpty = true
      · rw [if_pos he, List.isEmpty_iff.1 he]
        simp [List.dropWhile, hb]
      · rw [if_neg he, List.reverse_append, List.reverse_singleton, List.singleton_append, List.dropWhile_cons_of_pos hb]
    · rw [List.dropWhile_cons_of_neg hb, List.reverse_cons, List.dropWhile_append]
      split
      · simp [List.dropWhile, hb]
      · rw [List.reverse_append, List.reverse_singleton, List.singleton_append, List.dropWhile_cons_of_neg hb]

abbrev blk : UInt8 → Bool := fun b => ([32, 9, 13] : List UInt8).contains b
theorem trimL_two (l : List UInt8) : trimL l = ((l.dropWhile blk).reverse.dropWhile blk).reverse := (trim_comm blk l).symm

theorem ref_trim_right : ∀ l : List UInt8, l.length ≤ 1000000 → Ev (fun k => unicodetextref09_Trim.l1 k (ofL l.reverse)) (ofL (l.dropWhile blk).reverse)
  | [], _ => by
    refine Ev.step (f := fun _ => some (ofL [])) (fun k => ?_) (Ev.now _)
    simp only [unicodetextref09_Trim.l1]
    rfl
  | b :: t, h => by
    have hlen : t.length + 1 ≤ 1000000 := h
    have hsz : ((ofL (b :: t).reverse).size : Int) = (t.length : Int) + 1 := by rw [ofL_size]; simp
    have hat : bt (ofL (b :: t).reverse) (wrap64 ((t.length : Int) + 1 - 1)) = (b.toNat : Int) := by
      rw [wrap_id (by omega) (by omega), show (t.length : Int) + 1 - 1 = ((t.length : Nat) : Int) by omega, bt_ofL _ t.length (by simp)]
      simp
    have hw : wrap64 ((t.length : Int) + 1 - 1) = (t.length : Int) := by rw [wrap_id (by omega) (by omega)]; omega
    by_cases hb : blk b = true
    · refine Ev.step (f := fun k => unicodetextref09_Trim.l1 k (ofL t.reverse)) (fun k => ?_) ?_
      · simp only [unicodetextref09_Trim.l1]
        rw [hsz, if_pos (by omega), hat, ref_blank, hw, if_pos (by omega), if_pos (by omega), Option.bind_some, if_pos hb, if_pos (by omega), ofL_extract]
        congr 2
        simp
      · rw [List.dropWhile_cons_of_pos hb]
        exact ref_trim_right t (by omega)
    · refine Ev.step (f := fun _ => some (ofL (b :: t).reverse)) (fun k => ?_) ?_
      · simp only [unicodetextref09_Trim.l1]
        rw [hsz, if_pos (by omega), hat, ref_blank, hw, if_pos (by omega), if_pos (by omega), Option.bind_some, if_neg hb]
      · rw [List.dropWhile_cons_of_neg hb]
        exact Ev.now _

theorem ref_trim_left (r : ByteArray) : ∀ l : List UInt8, l.length ≤ 1000000 → Ev (fun k => unicodetextref09_Trim.l1 k (ofL (l.dropWhile blk))) r → Ev (fun k => unicodetextref09_Trim.l0 k (ofL l)) r
  | [], _, h => by
    refine Ev.step (f := fun k => unicodetextref09_Trim.j1 k (ofL [])) (fun k => ?_) (Ev.step (f := fun k => unicodetextref09_Trim.l1 k (ofL [])) (fun k => ?_) h)
    · simp only [unicodetextref09_Trim.l0]
      rfl
    · simp only [unicodetextref09_Trim.j1]
  | b :: t, hl, h => by
    have hlen : t.length + 1 ≤ 1000000 := hl
    have hsz : ((ofL (b :: t)).size : Int) = (t.length : Int) + 1 := by rw [ofL_size]; simp
    have hat : bt (ofL (b :: t)) 0 = (b.toNat : Int) := bt_ofL (b :: t) 0 (by simp)
    by_cases hb : blk b = true
    · rw [List.dropWhile_cons_of_pos hb] at h
      refine Ev.step (f := fun k => unicodetextref09_Trim.l0 k (ofL t)) (fun k => ?_) (ref_trim_left r t (by omega) h)
      simp only [unicodetextref09_Trim.l0]
      rw [hsz, if_pos (by omega), if_pos (by omega), hat, ref_blank, Option.bind_some, if_pos hb, if_pos (by omega), ofL_extract, ofL_size]
      congr 2
      simp
    · rw [List.dropWhile_cons_of_neg hb] at h
      refine Ev.step (f := fun k => unicodetextref09_Trim.j1 k (ofL (b :: t))) (fun k => ?_) (Ev.step (f := fun k => unicodetextref09_Trim.l1 k (ofL (b :: t))) (fun k => ?_) h)
      · simp only [unicodetextref09_Trim.l0]
        rw [hsz, if_pos (by omega), if_pos (by omega), hat, ref_blank, Option.bind_some, if_neg hb]
      · simp only [unicodetextref09_Trim.j1]

theorem ref_trim (l : List UInt8) (h : l.length ≤ 1000000) : Ev (fun k => unicodetextref09_Trim.f k (ofL l)) (ofL (trimL l)) := by
  refine ref_trim_left _ l h ?_
  rw [trimL_two]
  have := ref_trim_right (l.dropWhile blk).reverse (by rw [List.length_reverse]; exact Nat.le_trans (List.dropWhile_suffix _).length_le h)
  rw [List.reverse_reverse] at this
  exact this

/-! ### comment -/
theorem cut_at (c : UInt8) (l : List UInt8) : (Lib.cut l [c] = (l, [], false) ∧ c ∉ l) ∨ ∃ a b, l = a ++ c :: b ∧ c ∉ a ∧ Lib.cut l [c] = (a, b, true) := by
  unfold Lib.cut
  induction l with
  | nil => left; refine ⟨?_, by simp⟩; rw [if_neg (by simp [Lib.index])]
  | cons x t ih =>
    by_cases h : x = c
    · subst h
      right
      have hix : Lib.index (x :: t) [x] = ((0 : Nat) : Int) := by rw [Lib.index]; simp [List.isPrefixOf]
      refine ⟨[], t, rfl, by simp, ?_⟩
      rw [hix]
      simp
    · have hp : ([c] : List UInt8).isPrefixOf (x :: t) = false := by simp [List.isPrefixOf, Ne.symm h]
      have hix : Lib.index (x :: t) [c] = if Lib.index t [c] == -1 then -1 else Lib.index t [c] + 1 := by rw [Lib.index, hp]; simp
      have hge := Lib.index_ge t [c]
      by_cases hm : Lib.index t [c] = -1
      · rw [hix, hm]
        rw [hm] at ih
        rcases ih with ⟨-, h2⟩ | ⟨a, b, -, -, h3⟩
        · left
          exact ⟨by rw [if_neg (by decide)], by simp [Ne.symm h, h2]⟩
        · rw [if_neg (by decide)] at h3
          simp at h3
      · obtain ⟨j, hj⟩ : ∃ j : Nat, Lib.index t [c] = j := ⟨(Lib.index t [c]).toNat, by omega⟩
        have hix' : Lib.index (x :: t) [c] = ((j + 1 : Nat) : Int) := by rw [hix, if_neg (fun e => hm (beq_iff_eq.1 e)), hj]; omega
        rw [hix', if_pos (by omega)]
        rw [hj, if_pos (by omega)] at ih
        rcases ih with ⟨h1, -⟩ | ⟨a, b, h1, h2, h3⟩
        · simp at h1
        · right
          simp only [Prod.mk.injEq, and_true] at h3
          refine ⟨x :: a, b, by rw [h1]; rfl, by simp [Ne.symm h, h2], ?_⟩
          rw [← h3.1, ← h3.2]
          simp

theorem cut_uniq {a b a' b' : List UInt8} (h : a' ++ 35 :: b' = a ++ 35 :: b) (h1 : 35 ∉ a') (h2 : 35 ∉ a) : a' = a ∧ b' = b := by
  induction a' generalizing a with
  | nil =>
    cases a with
    | nil => simp at h; exact ⟨rfl, h⟩
    | cons y a => simp at h; exact absurd (by rw [← h.1]; simp) h2
  | cons z a' ih =>
    cases a with
    | nil => simp at h; exact absurd (by rw [h.1]; simp) h1
    | cons y a =>
      simp at h h1 h2
      have := ih h.2 h1.2 h2.2
      exact ⟨by rw [h.1, this.1], this.2⟩

theorem ref_comment_loop (l : List UInt8) (hl : l.length ≤ 1000000) : ∀ (b a : List UInt8), l = a ++ b → 35 ∉ a →
    Ev (fun k => unicodetextref09_comment.l0 k (ofL l) (a.length : Int)) (ofL (dataL l), ofL (noteL l))
  | [], a, h, hn => by
    have hd : dataL l = l ∧ noteL l = [] := by
      rw [List.append_nil] at h
      rcases cut_at 35 l with ⟨h1, -⟩ | ⟨a', b', h1, -, -⟩
      · unfold dataL noteL; rw [h1]; exact ⟨rfl, rfl⟩
      · exact absurd (by rw [← h, h1]; simp) hn
    rw [hd.1, hd.2]
    refine Ev.step (f := fun _ => some (ofL l, ofL [])) (fun k => ?_) (Ev.now _)
    simp only [unicodetextref09_comment.l0]
    rw [if_neg (by rw [ofL_size, h]; simp)]
  | x :: b, a, h, hn => by
    have hlen : a.length + (b.length + 1) = l.length := by rw [h]; simp
    have hx : l[a.length]'(by omega) = x := by simp [h]
    by_cases hc : x = 35
    · subst hc
      have hd : dataL l = a ∧ noteL l = trimL b := by
        rcases cut_at 35 l with ⟨h1, h2⟩ | ⟨a', b', h1, h2, h3⟩
        · exact absurd (by rw [h]; simp) h2
        · have he : a' = a ∧ b' = b := by
            rw [h1] at h
            exact cut_uniq h h2 hn
          unfold dataL noteL; rw [h3, he.1, he.2]; exact ⟨rfl, rfl⟩
      have ht : Ev (fun k => (unicodetextref09_Trim.f k (ofL b)).bind fun t => some (ofL a, t)) (ofL a, ofL (trimL b)) := Ev.bind (ref_trim b (by omega)) (Ev.now _)
      rw [hd.1, hd.2]
      refine Ev.step (fun k => ?_) ht
      simp only [unicodetextref09_comment.l0]
      rw [wrap_succ _ (by omega), if_pos (by rw [ofL_size]; omega), if_pos (by omega), bt_ofL l _ (by omega), hx, if_pos (by decide), if_pos (by rw [ofL_size]; omega), if_pos (by omega), if_pos (by rw [ofL_size]; omega),
        ofL_extract, ofL_extract, Int.toNat_natCast, Int.toNat_natCast, ofL_size, List.drop_zero, Nat.sub_zero,
        show (l.drop (a.length + 1)).take (l.length - (a.length + 1)) = b by rw [h, List.take_of_length_le (by simp; omega), ← List.drop_drop, List.drop_left]; rfl, show l.take a.length = a by rw [h, List.take_left]]
    · have ih := ref_comment_loop l hl b (a ++ [x]) (by rw [h]; simp) (by simp [hn, Ne.symm hc])
      refine Ev.step (fun k => ?_) ih
      simp only [unicodetextref09_comment.l0]
      rw [wrap_succ _ (by omega), if_pos (by rw [ofL_size]; omega), if_pos (by omega), bt_ofL l _ (by omega), hx, if_neg (fun e => hc (UInt8.toNat_inj.1 (by rw [show (35 : UInt8).toNat = 35 from rfl]; omega)))]
      simp
theorem ref_comment (l : List UInt8) (hl : l.length ≤ 1000000) : Ev (fun k => unicodetextref09_comment.f k (ofL l)) (ofL (dataL l), ofL (noteL l)) := ref_comment_loop l hl l [] rfl (by simp)

end Go.Proofs.YtljhhnpgpiglfaaDoor.Pr

/- Plain laws of the reference of the lines: spanned, Strings, Same, Parse. -/
namespace Go.Proofs.YtljhhnpgpiglfaaDoor.Pr
open Go.RowKit Go.Proofs.YtljhhnpgpiglfaaDoorW.PrintWords Go.Proofs.YtljhhnpgpiglfaaDoorW.PrintLast Go.Proofs.YtljhhnpgpiglfaaDoorW.PrintMore
set_option linter.unusedVariables false
set_option linter.unusedSimpArgs false

/-! ### spanned -/
def spanR (l : List UInt8) : Int × Int × Bool :=
  if (Lib.cut l [46, 46]).2.2 = true then
    (if (parseS (Lib.cut l [46, 46]).1).2 = 0 then
      (if (parseS (Lib.cut l [46, 46]).2.1).2 = 0 then ((parseS (Lib.cut l [46, 46]).1).1, (parseS (Lib.cut l [46, 46]).2.1).1, decide ((parseS (Lib.cut l [46, 46]).1).1 ≤ (parseS (Lib.cut l [46, 46]).2.1).1))
       else ((parseS (Lib.cut l [46, 46]).1).1, (parseS (Lib.cut l [46, 46]).2.1).1, false))
     else ((parseS (Lib.cut l [46, 46]).1).1, (parseS (Lib.cut l [46, 46]).2.1).1, false))
  else ((parseS (Lib.cut l [46, 46]).1).1, (parseS (Lib.cut l [46, 46]).1).1, (parseS (Lib.cut l [46, 46]).1).2 == 0)

theorem span_same (l : List UInt8) : (spanR l).2.2 = (spanL l).2.2 ∧ ((spanL l).2.2 = true → spanR l = spanL l) := by
  unfold spanR spanL
  split
  · by_cases h1 : (parseS (Lib.cut l [46, 46]).1).2 = 0
    · rw [if_pos h1, if_pos h1]
      by_cases h2 : (parseS (Lib.cut l [46, 46]).2.1).2 = 0
      · rw [if_pos h2, if_pos h2]; exact ⟨rfl, fun _ => rfl⟩
      · rw [if_neg h2, if_neg h2]; exact ⟨rfl, fun h => by simp at h⟩
    · rw [if_neg h1, if_neg h1]
      by_cases h2 : (parseS (Lib.cut l [46, 46]).2.1).2 = 0
      · rw [if_pos h2]; exact ⟨rfl, fun h => by simp at h⟩
      · rw [if_neg h2]; exact ⟨rfl, fun h => by simp at h⟩
  · by_cases h1 : (parseS (Lib.cut l [46, 46]).1).2 = 0
    · rw [if_pos h1, h1]; simp
    · rw [if_neg h1]; simp [h1]

theorem spanned_none (l : List UInt8) (hl : l.length ≤ 1000000) (a : List UInt8) (hb : l.length ≤ a.length + 1) (ha : a.length ≤ l.length) (hx : Lib.index l [46, 46] = -1) :
    Ev (fun k => unicodetextref09_spanned.l0 k (ofL l) (a.length : Int)) (spanR l) := by
  obtain ⟨K, g⟩ := ref_parse l
  dsimp only at g
  have hc : Lib.cut l [46, 46] = (l, [], false) := by unfold Lib.cut; rw [hx, if_neg (by decide)]
  refine ⟨K + 1, fun k hk => ?_⟩
  obtain ⟨k, rfl⟩ : ∃ m, k = m + 1 := ⟨k - 1, by omega⟩
  show unicodetextref09_spanned.l0 (k + 1) (ofL l) (a.length : Int) = _
  unfold spanR
  rw [hc]
  simp only [unicodetextref09_spanned.l0]
  rw [wrap_succ _ (by omega), if_neg (by rw [ofL_size]; omega), g k (by omega), Option.bind_some, if_neg (by decide)]

theorem ref_spanned_loop (l : List UInt8) (hl : l.length ≤ 1000000) : ∀ (b a : List UInt8), l = a ++ b → Lib.index l [46, 46] = (if Lib.index b [46, 46] = -1 then -1 else (a.length : Int) + Lib.index b [46, 46]) →
    Ev (fun k => unicodetextref09_spanned.l0 k (ofL l) (a.length : Int)) (spanR l)
  | [], a, h, hx => by
    rw [if_pos (by simp [Lib.index])] at hx
    exact spanned_none l hl a (by rw [h]; simp) (by rw [h]; simp) hx
  | [x], a, h, hx => by
    rw [if_pos (by simp [Lib.index, List.isPrefixOf])] at hx
    exact spanned_none l hl a (by rw [h]; simp) (by rw [h]; simp) hx
  | x :: y :: t, a, h, hx => by
    have hlen : a.length + (t.length + 2) = l.length := by rw [h]; simp
    have h0 : l[a.length]'(by omega) = x := by simp [h]
    have h1 : l[a.length + 1]'(by omega) = y := by simp [h]
    have hb : bt (ofL l) (a.length : Int) = (x.toNat : Int) := by rw [bt_ofL l _ (by omega), h0]
    have hb' : bt (ofL l) (((a.length + 1 : Nat)) : Int) = (y.toNat : Int) := by rw [bt_ofL l _ (by omega), h1]
    by_cases hd : x = 46 ∧ y = 46
    · obtain ⟨rfl, rfl⟩ := hd
      have hi0 : Lib.index ((46 : UInt8) :: 46 :: t) [46, 46] = ((0 : Nat) : Int) := by rw [Lib.index]; simp [List.isPrefixOf]
      rw [hi0, if_neg (by decide)] at hx
      have hc : Lib.cut l [46, 46] = (a, t, true) := by
        unfold Lib.cut
        rw [if_pos (by omega), hx, show ((a.length : Int) + ((0 : Nat) : Int)).toNat = a.length by omega, h]
        simp [← List.drop_drop]
      obtain ⟨K1, g1⟩ := ref_parse a
      obtain ⟨K2, g2⟩ := ref_parse t
      dsimp only at g1 g2
      refine ⟨K1 + K2 + 2, fun k hk => ?_⟩
      obtain ⟨k, rfl⟩ : ∃ m, k = m + 2 := ⟨k - 2, by omega⟩
      show unicodetextref09_spanned.l0 (k + 2) (ofL l) (a.length : Int) = _
      unfold spanR
      rw [hc]
      simp only [unicodetextref09_spanned.l0, unicodetextref09_spanned.j1]
      rw [wrap_succ _ (by omega), if_pos (by rw [ofL_size]; omega), if_pos (by omega), if_pos (by rw [ofL_size]; omega), hb, hb', if_pos (by decide), if_pos (by omega), if_pos (by decide), if_pos (by omega), if_pos (by rw [ofL_size]; omega),
        wrap_id (x := (a.length : Int) + 2) (by omega) (by omega), ofL_extract, Int.toNat_natCast, ofL_extract, ofL_size, show ((a.length : Int) + 2).toNat = a.length + 2 by omega, List.drop_zero, Nat.sub_zero,
        show l.take a.length = a by rw [h, List.take_left], show (l.drop (a.length + 2)).take (l.length - (a.length + 2)) = t by rw [h, List.take_of_length_le (by simp; omega), ← List.drop_drop, List.drop_left]; rfl,
        g1 k (by omega), Option.bind_some, if_pos (by omega), if_pos (by omega), g2 k (by omega), Option.bind_some]
      simp only [if_true]
      split
      · split <;> rfl
      · rfl
    · have hp : ([46, 46] : List UInt8).isPrefixOf (x :: y :: t) = false := by
        simp only [List.isPrefixOf, Bool.and_true, Bool.and_eq_false_iff, beq_eq_false_iff_ne]
        by_cases e : x = 46
        · exact Or.inr (fun e' => hd ⟨e, e'.symm⟩)
        · exact Or.inl (Ne.symm e)
      have hix : Lib.index (x :: y :: t) [46, 46] = if Lib.index (y :: t) [46, 46] == -1 then -1 else Lib.index (y :: t) [46, 46] + 1 := by rw [Lib.index, hp]; simp
      have hge := Lib.index_ge (y :: t) [46, 46]
      have ih := ref_spanned_loop l hl (y :: t) (a ++ [x]) (by rw [h]; simp) (by
        rw [hx, hix]
        by_cases hm : Lib.index (y :: t) [46, 46] = -1
        · rw [hm]; simp
        · rw [if_neg (fun e => hm (beq_iff_eq.1 e)), if_neg (by omega), if_neg hm, List.length_append]
          simp
          omega)
      obtain ⟨K, g⟩ := ih
      refine ⟨K + 2, fun k hk => ?_⟩
      obtain ⟨k, rfl⟩ : ∃ m, k = m + 2 := ⟨k - 2, by omega⟩
      have g' := g k (by omega)
      dsimp only at g'
      rw [List.length_append, List.length_singleton] at g'
      have g'' := g (k + 1) (by omega)
      dsimp only at g''
      rw [List.length_append, List.length_singleton] at g''
      show unicodetextref09_spanned.l0 (k + 2) (ofL l) (a.length : Int) = _
      simp only [unicodetextref09_spanned.l0, unicodetextref09_spanned.j1]
      rw [wrap_succ _ (by omega), if_pos (by rw [ofL_size]; omega), if_pos (by omega), if_pos (by rw [ofL_size]; omega), hb, hb']
      by_cases e : x = 46
      · have hy : ¬ y = 46 := fun e' => hd ⟨e, e'⟩
        rw [if_pos (by rw [e]; decide), if_pos (by omega), if_neg (by rw [beq_iff_eq]; exact fun e' => hy (UInt8.toNat_inj.1 (by rw [show (46 : UInt8).toNat = 46 from rfl]; omega)))]
        exact g'
      · rw [if_neg (fun e' => e (UInt8.toNat_inj.1 (by rw [show (46 : UInt8).toNat = 46 from rfl]; omega))), if_neg (by decide)]
        exact g'
theorem ref_spanned (l : List UInt8) (hl : l.length ≤ 1000000) : Ev (fun k => unicodetextref09_spanned.f k (ofL l)) (spanR l) := by
  refine ref_spanned_loop l hl l [] rfl ?_
  by_cases h : Lib.index l [46, 46] = -1
  · rw [if_pos h, h]
  · rw [if_neg h]; simp

/-! ### Strings and Same -/
theorem strings_self_loop (xs : List ByteArray) (h : xs.length ≤ 4611686018427387904) (d : Nat) : ∀ (i k : Nat), i + d = xs.length → d < k → unicodetextref09_Strings.l0 k xs xs (i : Int) = some true := by
  induction d with
  | zero =>
    intro i k hi hk
    obtain ⟨k, rfl⟩ : ∃ m, k = m + 1 := ⟨k - 1, by omega⟩
    simp only [unicodetextref09_Strings.l0]
    rw [if_neg (by omega)]
  | succ d ih =>
    intro i k hi hk
    obtain ⟨k, rfl⟩ : ∃ m, k = m + 1 := ⟨k - 1, by omega⟩
    simp only [unicodetextref09_Strings.l0]
    rw [if_pos (by omega), if_pos (by omega), if_pos (by omega), if_pos trivial, wrap_succ _ (by omega), ih (i + 1) k (by omega) (by omega)]
theorem strings_self (xs : List ByteArray) (h : xs.length ≤ 4611686018427387904) : Ev (fun k => unicodetextref09_Strings.f k xs xs) true := by
  refine ⟨xs.length + 1, fun k hk => ?_⟩
  show unicodetextref09_Strings.f k xs xs = some true
  unfold unicodetextref09_Strings.f
  rw [if_pos rfl]
  exact strings_self_loop xs h xs.length 0 k (by omega) (by omega)

def shiftS (d : Int) (x : S35) : S35 := ⟨x.f0 + d, x.f1, x.f2, x.f3, x.f4⟩
theorem rd_at (xs : List S35) (i : Nat) (h : i < xs.length) : rd_T35 xs (i : Int) = xs[i] := by simp [rd_T35, h]
theorem shift_zero (xs : List S35) : xs.map (shiftS 0) = xs := by
  refine (List.map_congr_left fun x _ => ?_).trans (List.map_id _)
  unfold shiftS
  simp
/-! ### Parse -/
theorem ref_fields (R : List S35 × Int × Int) (acc : List S35) (x5 : List ByteArray) (i : Int) (lo hi : Int) (note : ByteArray) (ps : List (List UInt8)) (hm : ∀ q ∈ ps, q.length ≤ 1000000) (hn : ps.length ≤ 1000001)
    (ha : acc.length ≤ 1000001) : ∀ (r p : List (List UInt8)) (fs : List ByteArray), ps = p ++ r → fs.length ≤ p.length →
    Ev (fun k => unicodetextref09_Parse.l0 k (acc ++ [⟨wrap64 (i + 1), lo, hi, fs ++ r.map (fun q => ofL (trimL q)), note⟩]) x5 (wrap64 (i + 1))) R →
    Ev (fun k => unicodetextref09_Parse.l1 k acc x5 i (ps.map ofL) (p.length : Int) (wrap64 (i + 1)) lo hi fs note) R
  | [], p, fs, h, hfs, hR => by
    refine Ev.step (fun k => ?_) hR
    simp only [unicodetextref09_Parse.l1]
    rw [if_neg (by rw [h]; simp), if_pos (by omega), List.map_nil, List.append_nil]
  | q :: r, p, fs, h, hfs, hR => by
    have hlen : p.length + (r.length + 1) = ps.length := by rw [h]; simp
    have hq : ps[p.length]'(by omega) = q := by simp [h]
    obtain ⟨K1, g1⟩ := ref_trim q (hm q (by rw [h]; simp))
    have ih := ref_fields R acc x5 i lo hi note ps hm hn ha r (p ++ [q]) (fs ++ [ofL (trimL q)]) (by rw [h]; simp) (by simp; omega) (by
      rw [List.append_assoc]
      exact hR)
    obtain ⟨K2, g2⟩ := ih
    dsimp only at g1 g2
    rw [List.length_append, List.length_singleton] at g2
    refine ⟨K1 + K2 + 1, fun k hk => ?_⟩
    obtain ⟨k, rfl⟩ : ∃ m, k = m + 1 := ⟨k - 1, by omega⟩
    show unicodetextref09_Parse.l1 (k + 1) acc x5 i (ps.map ofL) (p.length : Int) (wrap64 (i + 1)) lo hi fs note = some R
    simp only [unicodetextref09_Parse.l1]
    rw [if_pos (by rw [List.length_map]; omega), if_pos (by omega), rdOf_at ps _ (by omega), hq, g1 k (by omega), Option.bind_some, if_pos (by omega), wrap_succ p.length (by omega)]
    exact g2 k (by omega)

theorem ref_lines (ps : List (List UInt8)) (hm : ∀ q ∈ ps, q.length ≤ 1000000) (hn : ps.length ≤ 1000001) : ∀ (r p : List (List UInt8)) (acc : List S35), ps = p ++ r → acc.length ≤ p.length →
    Ev (fun k => unicodetextref09_Parse.l0 k acc (ps.map ofL) (p.length : Int)) (parsesL (numL (p.length + 1) r) acc)
  | [], p, acc, h, ha => by
    refine Ev.step (f := fun _ => some (acc, 0, 0)) (fun k => ?_) (Ev.now _)
    simp only [unicodetextref09_Parse.l0]
    rw [if_neg (by rw [h]; simp)]
  | q :: r, p, acc, h, ha => by
    have hlen : p.length + (r.length + 1) = ps.length := by rw [h]; simp
    have hq : ps[p.length]'(by omega) = q := by simp [h]
    have hql : q.length ≤ 1000000 := hm q (by rw [h]; simp)
    have hdl : (dataL q).length ≤ 1000000 := by
      refine Nat.le_trans ?_ hql
      unfold dataL
      rcases cut_at 35 q with ⟨h1, -⟩ | ⟨a, b, h1, -, h3⟩
      · rw [h1]; exact Nat.le_refl _
      · rw [h3, h1]; simp
    obtain ⟨K1, g1⟩ := ref_comment q hql
    obtain ⟨K2, g2⟩ := ref_trim (dataL q) hdl
    dsimp only at g1 g2
    have hw := wrap_succ p.length (by omega)
    by_cases hb : trimL (dataL q) = []
    · obtain ⟨K3, g3⟩ := ref_lines ps hm hn r (p ++ [q]) acc (by rw [h]; simp) (by simp; omega)
      dsimp only at g3
      rw [List.length_append, List.length_singleton] at g3
      refine ⟨K1 + K2 + K3 + 1, fun k hk => ?_⟩
      obtain ⟨k, rfl⟩ : ∃ m, k = m + 1 := ⟨k - 1, by omega⟩
      show unicodetextref09_Parse.l0 (k + 1) acc (ps.map ofL) (p.length : Int) = _
      simp only [unicodetextref09_Parse.l0, numL, parsesL]
      rw [if_pos (by rw [List.length_map]; omega), if_pos (by omega), rdOf_at ps _ (by omega), hq, g1 k (by omega), Option.bind_some, g2 k (by omega), Option.bind_some, if_pos (by rw [ofL_toList, hb]), hw,
        show lineR (p.length + 1) q = some [] by unfold lineR; rw [if_pos hb]]
      rw [g3 k (by omega)]
      simp
    · obtain ⟨y, ys, hys⟩ : ∃ y ys, cutAt 59 (dataL q) = y :: ys := by
        cases hc : cutAt 59 (dataL q) with
        | nil => exact absurd hc (cutAt_ne _ _)
        | cons y ys => exact ⟨y, ys, rfl⟩
      have hyl : ∀ z ∈ y :: ys, z.length ≤ 1000000 := fun z hz => Nat.le_trans (cutAt_mem 59 (dataL q) z (by rw [hys]; exact hz)) hdl
      have hyn : (y :: ys).length ≤ 1000001 := by
        have := cutAt_len 59 (dataL q)
        rw [hys] at this
        omega
      obtain ⟨K3, g3⟩ := ref_split 59 (dataL q) hdl
      obtain ⟨K4, g4⟩ := ref_trim y (hyl y (by simp))
      obtain ⟨K5, g5⟩ := ref_spanned (trimL y) (Nat.le_trans (trimL_len y) (hyl y (by simp)))
      have hss := span_same (trimL y)
      dsimp only at g3 g4 g5
      rw [show ((59 : UInt8).toNat : Int) = 59 from rfl, hys] at g3
      by_cases hok : (spanL (trimL y)).2.2 = true
      · have hlr : lineR (p.length + 1) q = some [⟨((p.length + 1 : Nat) : Int), (spanL (trimL y)).1, (spanL (trimL y)).2.1, ys.map (fun q => ofL (trimL q)), ofL (noteL q)⟩] := by
          unfold lineR
          rw [if_neg hb, hys]
          dsimp only
          rw [if_pos hok]
        have ih := ref_lines ps hm hn r (p ++ [q]) (acc ++ [⟨((p.length + 1 : Nat) : Int), (spanL (trimL y)).1, (spanL (trimL y)).2.1, ys.map (fun q => ofL (trimL q)), ofL (noteL q)⟩]) (by rw [h]; simp) (by simp; omega)
        rw [List.length_append, List.length_singleton] at ih
        obtain ⟨K6, g6⟩ := ref_fields _ acc (ps.map ofL) (p.length : Int) (spanL (trimL y)).1 (spanL (trimL y)).2.1 (ofL (noteL q)) (y :: ys) hyl hyn (by omega) ys [y] [] rfl (by simp) (by
          rw [hw, List.nil_append]
          exact ih)
        dsimp only at g6
        refine ⟨K1 + K2 + K3 + K4 + K5 + K6 + 1, fun k hk => ?_⟩
        obtain ⟨k, rfl⟩ : ∃ m, k = m + 1 := ⟨k - 1, by omega⟩
        show unicodetextref09_Parse.l0 (k + 1) acc (ps.map ofL) (p.length : Int) = _
        simp only [unicodetextref09_Parse.l0, numL, parsesL]
        rw [if_pos (by rw [List.length_map]; omega), if_pos (by omega), rdOf_at ps _ (by omega), hq, g1 k (by omega), Option.bind_some, g2 k (by omega), Option.bind_some, if_neg (by rw [ofL_toList]; exact hb), g3 k (by omega), Option.bind_some,
          if_pos (by simp), show rdOf ByteArray.empty (List.map ofL (y :: ys)) 0 = ofL y from rfl, g4 k (by omega), Option.bind_some, g5 k (by omega), Option.bind_some, hss.2 hok, if_pos hok, hlr]
        exact g6 k (by omega)
      · have hlr : lineR (p.length + 1) q = none := by
          unfold lineR
          rw [if_neg hb, hys]
          dsimp only
          rw [if_neg hok]
        refine ⟨K1 + K2 + K3 + K4 + K5 + 1, fun k hk => ?_⟩
        obtain ⟨k, rfl⟩ : ∃ m, k = m + 1 := ⟨k - 1, by omega⟩
        show unicodetextref09_Parse.l0 (k + 1) acc (ps.map ofL) (p.length : Int) = _
        simp only [unicodetextref09_Parse.l0, numL, parsesL]
        rw [if_pos (by rw [List.length_map]; omega), if_pos (by omega), rdOf_at ps _ (by omega), hq, g1 k (by omega), Option.bind_some, g2 k (by omega), Option.bind_some, if_neg (by rw [ofL_toList]; exact hb), g3 k (by omega), Option.bind_some,
          if_pos (by simp), show rdOf ByteArray.empty (List.map ofL (y :: ys)) 0 = ofL y from rfl, g4 k (by omega), Option.bind_some, g5 k (by omega), Option.bind_some, if_neg (by rw [hss.1]; exact hok), hlr, hw]

/-- What both Parses of a text compute. -/
def parseT (l : List UInt8) : List S35 × Int × Int := if 65536 < l.length then ([], 2, 0) else parsesL (numL 1 (cutAt 10 l)) []
theorem parse_f (l : List UInt8) : lines_Parse.f (ofL l) = some (parseT l) := by
  unfold lines_Parse.f parseT
  rw [ofL_list, ofL_size]
theorem ref_parseT (l : List UInt8) (hl : l.length ≤ 1000000) : Ev (fun k => unicodetextref09_Parse.f k (ofL l)) (parseT l) := by
  unfold parseT
  by_cases hbig : 65536 < l.length
  · refine ⟨0, fun k _ => ?_⟩
    show unicodetextref09_Parse.f k (ofL l) = _
    unfold unicodetextref09_Parse.f
    rw [if_pos (by rw [ofL_size]; omega), if_pos hbig]
  · obtain ⟨K1, g1⟩ := ref_split 10 l hl
    obtain ⟨K2, g2⟩ := ref_lines (cutAt 10 l) (fun q hq => Nat.le_trans (cutAt_mem 10 l q hq) hl) (by have := cutAt_len 10 l; omega) (cutAt 10 l) [] [] rfl (by simp)
    dsimp only at g1 g2
    refine ⟨K1 + K2, fun k hk => ?_⟩
    show unicodetextref09_Parse.f k (ofL l) = _
    unfold unicodetextref09_Parse.f
    rw [if_neg (by rw [ofL_size]; omega), show (10 : Int) = ((10 : UInt8).toNat : Int) from rfl, g1 k (by omega), Option.bind_some, if_neg hbig]
    exact g2 k (by omega)

theorem parses_cases : ∀ (xs : List (Nat × List UInt8)) (acc : List S35), (∃ zs, accL xs = some zs ∧ parsesL xs acc = (acc ++ zs, 0, 0)) ∨
    (accL xs = none ∧ ∃ x, x ∈ xs ∧ lineR x.1 x.2 = none ∧ parsesL xs acc = ([], 3, (x.1 : Int)))
  | [], acc => Or.inl ⟨[], rfl, by simp [parsesL]⟩
  | x :: r, acc => by
    cases hx : lineR x.1 x.2 with
    | none => exact Or.inr ⟨by simp [accL, hx], x, by simp, hx, by simp [parsesL, hx]⟩
    | some ys =>
      rcases parses_cases r (acc ++ ys) with ⟨zs, h1, h2⟩ | ⟨h1, y, h2, h3, h4⟩
      · exact Or.inl ⟨ys ++ zs, by simp [accL, hx, h1], by simp [parsesL, hx, h2]⟩
      · exact Or.inr ⟨by simp [accL, hx, h1], y, by simp [h2], h3, by simp [parsesL, hx, h4]⟩
theorem lineR_mem (n : Nat) (l : List UInt8) (ys : List S35) (h : lineR n l = some ys) (z : S35) (hz : z ∈ ys) :
    ∃ p r, cutAt 59 (dataL l) = p :: r ∧ trimL (dataL l) ≠ [] ∧ (spanL (trimL p)).2.2 = true ∧ z = ⟨(n : Int), (spanL (trimL p)).1, (spanL (trimL p)).2.1, r.map (fun q => ofL (trimL q)), ofL (noteL l)⟩ := by
  unfold lineR at h
  split at h
  · cases h; cases hz
  · next hb =>
    split at h
    · cases h
    · next p r hr =>
      split at h
      · next hok =>
        cases h
        exact ⟨p, r, hr, hb, hok, List.mem_singleton.1 hz⟩
      · cases h
theorem acc_mem : ∀ (xs : List (Nat × List UInt8)) (zs : List S35), accL xs = some zs → ∀ z ∈ zs, ∃ x ∈ xs, ∃ ys, lineR x.1 x.2 = some ys ∧ z ∈ ys
  | [], zs, h, z, hz => by cases h; cases hz
  | x :: r, zs, h, z, hz => by
    simp only [accL] at h
    cases hx : lineR x.1 x.2 with
    | none => rw [hx] at h; cases h
    | some ys =>
      rw [hx, Option.bind_some] at h
      cases hr : accL r with
      | none => rw [hr] at h; cases h
      | some us =>
        rw [hr] at h
        cases h
        rcases List.mem_append.1 hz with hz | hz
        · exact ⟨x, by simp, ys, hx, hz⟩
        · obtain ⟨y, hy, h'⟩ := acc_mem r us hr z hz
          exact ⟨y, by simp [hy], h'⟩
theorem numL_mem : ∀ (n : Nat) (ps : List (List UInt8)) (x : Nat × List UInt8), x ∈ numL n ps → x.2 ∈ ps ∧ n ≤ x.1 ∧ x.1 < n + ps.length
  | _, [], x, h => by cases h
  | n, p :: r, x, h => by
    rcases List.mem_cons.1 h with rfl | h
    · simp
    · have := numL_mem (n + 1) r x h
      simp only [List.mem_cons, List.length_cons]
      exact ⟨Or.inr this.1, by omega, by omega⟩
theorem data_len (l : List UInt8) : (dataL l).length ≤ l.length := by
  unfold dataL
  rcases cut_at 35 l with ⟨h1, -⟩ | ⟨a, b, h1, -, h3⟩
  · rw [h1]; exact Nat.le_refl _
  · rw [h3, h1]; simp
theorem acc_fields (l : List UInt8) (n : Nat) (zs : List S35) (h : accL (numL n (cutAt 10 l)) = some zs) (z : S35) (hz : z ∈ zs) : z.f3.length ≤ l.length := by
  obtain ⟨x, hx, ys, h1, h2⟩ := acc_mem _ _ h z hz
  obtain ⟨p, r, h3, -, -, rfl⟩ := lineR_mem _ _ _ h1 z h2
  have h4 := cutAt_mem 10 l x.2 (numL_mem _ _ _ hx).1
  have h5 := cutAt_len 59 (dataL x.2)
  have h6 := data_len x.2
  rw [h3] at h5
  simp only [List.length_cons, List.length_map] at h5 ⊢
  omega

end Go.Proofs.YtljhhnpgpiglfaaDoor.Pr
