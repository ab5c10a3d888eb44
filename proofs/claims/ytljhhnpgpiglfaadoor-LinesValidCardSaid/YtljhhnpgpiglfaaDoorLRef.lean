/- Plain laws of the reference of the lines: Split, Trim, comment, spanned, Strings, Same, Parse. -/
import Derived.Test.YtljhhnpgpiglfaaDoorLPure
import Derived.Test.YtljhhnpgpiglfaaDoorPrx2
import Derived.Test.YtljhhnpgpiglfaaDoorPrx3
import Derived.Test.YtljhhnpgpiglfaaDoorPrx4
import Derived.Test.YtljhhnpgpiglfaaDoorPrx5
import Derived.Test.YtljhhnpgpiglfaaDoorPrx6
namespace Go.Proofs.YtljhhnpgpiglfaaDoor.Pr
open Go.RowKit Go.Proofs.YtljhhnpgpiglfaaDoorW.PrintWords Go.Proofs.YtljhhnpgpiglfaaDoorW.PrintLast Go.Proofs.YtljhhnpgpiglfaaDoorW.PrintMore
set_option linter.unusedVariables false
set_option linter.unusedSimpArgs false

/-! ### Split -/
def glue (p : List UInt8) : List (List UInt8) → List (List UInt8)
  | [] => [p]
  | q :: r => (p ++ q) :: r
theorem glue_cons (p q : List UInt8) (r : List (List UInt8)) : glue p (q :: r) = (p ++ q) :: r := rfl
theorem glue_nil {xs : List (List UInt8)} (h : xs ≠ []) : glue [] xs = xs := by cases xs with | nil => exact absurd rfl h | cons => rfl
theorem cutAt_hit (c : UInt8) (t : List UInt8) : cutAt c (c :: t) = [] :: cutAt c t := by rw [cutAt, if_pos rfl]
theorem cutAt_miss (c b : UInt8) (t : List UInt8) (h : b ≠ c) : cutAt c (b :: t) = glue [b] (cutAt c t) := by
  rw [cutAt, if_neg h]
  cases cutAt c t <;> rfl
theorem glue_glue (p q : List UInt8) (xs : List (List UInt8)) : glue p (glue q xs) = glue (p ++ q) xs := by cases xs <;> simp [glue]

theorem ref_split_loop (c : UInt8) (l : List UInt8) (hl : l.length ≤ 1000000) (d : Nat) : ∀ (i from_ k : Nat) (acc : List ByteArray), i + d = l.length → from_ ≤ i → d < k → acc.length ≤ i →
    unicodetextref09_Split.l0 k (ofL l) (c.toNat : Int) acc (from_ : Int) (i : Int) = some (acc ++ (glue ((l.drop from_).take (i - from_)) (cutAt c (l.drop i))).map ofL) := by
  induction d with
  | zero =>
    intro i from_ k acc hi hf hk ha
    obtain ⟨k, rfl⟩ : ∃ m, k = m + 1 := ⟨k - 1, by omega⟩
    simp only [unicodetextref09_Split.l0]
    rw [if_neg (by rw [ofL_size]; omega), if_pos (by omega), if_pos (by rw [ofL_size]; omega), if_pos (by omega), show l.drop i = [] from List.drop_of_length_le (by omega), ofL_extract, show cutAt c [] = [[]] from rfl, glue_cons]
    simp only [Int.toNat_natCast, ofL_size, List.append_nil, List.map_cons, List.map_nil]
    rw [show i = l.length by omega]
  | succ d ih =>
    intro i from_ k acc hi hf hk ha
    obtain ⟨k, rfl⟩ : ∃ m, k = m + 1 := ⟨k - 1, by omega⟩
    have hlt : i < l.length := by omega
    have hd : l.drop i = l[i] :: l.drop (i + 1) := List.drop_eq_getElem_cons hlt
    simp only [unicodetextref09_Split.l0]
    rw [if_pos (by rw [ofL_size]; omega), if_pos (by omega), bt_ofL l i hlt, hd]
    by_cases hc : l[i] = c
    · rw [if_pos (by rw [hc]), if_pos (by omega), if_pos (by omega), if_pos (by rw [ofL_size]; omega), if_pos (by omega), wrap_succ _ (by omega), ofL_extract, hc, cutAt_hit,
        ih (i + 1) (i + 1) k _ (by omega) (by omega) (by omega) (by rw [List.length_append]; simp; omega)]
      simp only [Int.toNat_natCast, Nat.sub_self, List.take_zero, glue_nil (cutAt_ne _ _), glue_cons, List.append_nil, List.map_cons, List.append_assoc, List.cons_append, List.nil_append]
    · rw [if_neg (fun h => hc (UInt8.toNat_inj.1 (by omega))), wrap_succ _ (by omega), cutAt_miss _ _ _ hc, ih (i + 1) from_ k _ (by omega) (by omega) (by omega) (by omega), glue_glue]
      congr 4
      rw [show i + 1 - from_ = (i - from_) + 1 by omega, List.take_add_one, List.getElem?_drop, show from_ + (i - from_) = i by omega, List.getElem?_eq_getElem hlt]
      rfl

theorem ref_split (c : UInt8) (l : List UInt8) (hl : l.length ≤ 1000000) : Ev (fun k => unicodetextref09_Split.f k (ofL l) (c.toNat : Int)) ((cutAt c l).map ofL) := by
  refine ⟨l.length + 1, fun k hk => ?_⟩
  show unicodetextref09_Split.f k (ofL l) (c.toNat : Int) = _
  unfold unicodetextref09_Split.f
  have h := ref_split_loop c l hl l.length 0 0 k [] (by omega) (by omega) (by omega) (by simp)
  simp only [List.drop_zero, Nat.sub_self, List.take_zero, glue_nil (cutAt_ne _ _), List.nil_append] at h
  exact h

/-! ### Trim -/
theorem ref_blank_all : (List.range 256).all (fun b => unicodetextref09_Blank.f (b : Int) == some (([32, 9, 13] : List UInt8).contains (UInt8.ofNat b))) = true := by decide +kernel
theorem ref_blank (b : UInt8) : unicodetextref09_Blank.f (b.toNat : Int) = some (([32, 9, 13] : List UInt8).contains b) := by
  have h := List.all_eq_true.1 ref_blank_all b.toNat (List.mem_range.2 b.toNat_lt)
  rw [beq_iff_eq, UInt8.ofNat_toNat] at h
  exact h

/-- Both sides, in the other order. -/
theorem trim_comm (p : UInt8 → Bool) : ∀ l : List UInt8, ((l.dropWhile p).reverse.dropWhile p).reverse = ((l.reverse.dropWhile p).reverse).dropWhile p
  | [] => rfl
  | b :: t => by
    have ih := trim_comm p t
    rw [List.reverse_cons, List.dropWhile_append]
    by_cases hb : p b = true
    · rw [List.dropWhile_cons_of_pos hb, ih]
      by_cases he : (List.dropWhile p t.reverse).isEmpty = true
      · rw [if_pos he, List.isEmpty_iff.1 he]
        simp [List.dropWhile, hb]
      · rw [if_neg he, List.reverse_append, List.reverse_singleton, List.singleton_append, List.dropWhile_cons_of_pos hb]
    · rw [List.dropWhile_cons_of_neg hb, List.reverse_cons, List.dropWhile_append]
      split
      · simp [List.dropWhile, hb]
      · rw [List.reverse_append, List.reverse_singleton, List.singleton_append, List.dropWhile_cons_of_neg hb]

abbrev blk : UInt8 → Bool := fun b => ([32, 9, 13] : List UInt8).contains b
theorem trimL_two (l : List UInt8) : trimL l = ((l.dropWhile blk).reverse.dropWhile blk).reverse := (trim_comm blk l).symm

theorem ref_trim_right : ∀ l : List UInt8, l.length ≤ 1000000 → Ev (fun k => unicodetextref09_Trim.l1 k (ofL l.reverse)) (ofL (l.dropWhile blk).reverse)
  | [], _ => by
    refine Ev.step (f := fun _ => some (ofL [])) (fun k => ?_) (Ev.now _)
    simp only [unicodetextref09_Trim.l1]
    rfl
  | b :: t, h => by
    have hlen : t.length + 1 ≤ 1000000 := h
    have hsz : ((ofL (b :: t).reverse).size : Int) = (t.length : Int) + 1 := by rw [ofL_size]; simp
    have hat : bt (ofL (b :: t).reverse) (wrap64 ((t.length : Int) + 1 - 1)) = (b.toNat : Int) := by
      rw [wrap_id (by omega) (by omega), show (t.length : Int) + 1 - 1 = ((t.length : Nat) : Int) by omega, bt_ofL _ t.length (by simp)]
      simp
    have hw : wrap64 ((t.length : Int) + 1 - 1) = (t.length : Int) := by rw [wrap_id (by omega) (by omega)]; omega
    by_cases hb : blk b = true
    · refine Ev.step (f := fun k => unicodetextref09_Trim.l1 k (ofL t.reverse)) (fun k => ?_) ?_
      · simp only [unicodetextref09_Trim.l1]
        rw [hsz, if_pos (by omega), hat, ref_blank, hw, if_pos (by omega), if_pos (by omega), Option.bind_some, if_pos hb, if_pos (by omega), ofL_extract]
        congr 2
        simp
      · rw [List.dropWhile_cons_of_pos hb]
        exact ref_trim_right t (by omega)
    · refine Ev.step (f := fun _ => some (ofL (b :: t).reverse)) (fun k => ?_) ?_
      · simp only [unicodetextref09_Trim.l1]
        rw [hsz, if_pos (by omega), hat, ref_blank, hw, if_pos (by omega), if_pos (by omega), Option.bind_some, if_neg hb]
      · rw [List.dropWhile_cons_of_neg hb]
        exact Ev.now _

theorem ref_trim_left (r : ByteArray) : ∀ l : List UInt8, l.length ≤ 1000000 → Ev (fun k => unicodetextref09_Trim.l1 k (ofL (l.dropWhile blk))) r → Ev (fun k => unicodetextref09_Trim.l0 k (ofL l)) r
  | [], _, h => by
    refine Ev.step (f := fun k => unicodetextref09_Trim.j1 k (ofL [])) (fun k => ?_) (Ev.step (f := fun k => unicodetextref09_Trim.l1 k (ofL [])) (fun k => ?_) h)
    · simp only [unicodetextref09_Trim.l0]
      rfl
    · simp only [unicodetextref09_Trim.j1]
  | b :: t, hl, h => by
    have hlen : t.length + 1 ≤ 1000000 := hl
    have hsz : ((ofL (b :: t)).size : Int) = (t.length : Int) + 1 := by rw [ofL_size]; simp
    have hat : bt (ofL (b :: t)) 0 = (b.toNat : Int) := bt_ofL (b :: t) 0 (by simp)
    by_cases hb : blk b = true
    · rw [List.dropWhile_cons_of_pos hb] at h
      refine Ev.step (f := fun k => unicodetextref09_Trim.l0 k (ofL t)) (fun k => ?_) (ref_trim_left r t (by omega) h)
      simp only [unicodetextref09_Trim.l0]
      rw [hsz, if_pos (by omega), if_pos (by omega), hat, ref_blank, Option.bind_some, if_pos hb, if_pos (by omega), ofL_extract, ofL_size]
      congr 2
      simp
    · rw [List.dropWhile_cons_of_neg hb] at h
      refine Ev.step (f := fun k => unicodetextref09_Trim.j1 k (ofL (b :: t))) (fun k => ?_) (Ev.step (f := fun k => unicodetextref09_Trim.l1 k (ofL (b :: t))) (fun k => ?_) h)
      · simp only [unicodetextref09_Trim.l0]
        rw [hsz, if_pos (by omega), if_pos (by omega), hat, ref_blank, Option.bind_some, if_neg hb]
      · simp only [unicodetextref09_Trim.j1]

theorem ref_trim (l : List UInt8) (h : l.length ≤ 1000000) : Ev (fun k => unicodetextref09_Trim.f k (ofL l)) (ofL (trimL l)) := by
  refine ref_trim_left _ l h ?_
  rw [trimL_two]
  have := ref_trim_right (l.dropWhile blk).reverse (by rw [List.length_reverse]; exact Nat.le_trans (List.dropWhile_suffix _).length_le h)
  rw [List.reverse_reverse] at this
  exact this

/-! ### comment -/
theorem cut_at (c : UInt8) (l : List UInt8) : (Lib.cut l [c] = (l, [], false) ∧ c ∉ l) ∨ ∃ a b, l = a ++ c :: b ∧ c ∉ a ∧ Lib.cut l [c] = (a, b, true) := by
  unfold Lib.cut
  induction l with
  | nil => left; refine ⟨?_, by simp⟩; rw [if_neg (by simp [Lib.index])]
  | cons x t ih =>
    by_cases h : x = c
    · subst h
      right
      have hix : Lib.index (x :: t) [x] = ((0 : Nat) : Int) := by rw [Lib.index]; simp [List.isPrefixOf]
      refine ⟨[], t, rfl, by simp, ?_⟩
      rw [hix]
      simp
    · have hp : ([c] : List UInt8).isPrefixOf (x :: t) = false := by simp [List.isPrefixOf, Ne.symm h]
      have hix : Lib.index (x :: t) [c] = if Lib.index t [c] == -1 then -1 else Lib.index t [c] + 1 := by rw [Lib.index, hp]; simp
      have hge := Lib.index_ge t [c]
      by_cases hm : Lib.index t [c] = -1
      · rw [hix, hm]
        rw [hm] at ih
        rcases ih with ⟨-, h2⟩ | ⟨a, b, -, -, h3⟩
        · left
          exact ⟨by rw [if_neg (by decide)], by simp [Ne.symm h, h2]⟩
        · rw [if_neg (by decide)] at h3
          simp at h3
      · obtain ⟨j, hj⟩ : ∃ j : Nat, Lib.index t [c] = j := ⟨(Lib.index t [c]).toNat, by omega⟩
        have hix' : Lib.index (x :: t) [c] = ((j + 1 : Nat) : Int) := by rw [hix, if_neg (fun e => hm (beq_iff_eq.1 e)), hj]; omega
        rw [hix', if_pos (by omega)]
        rw [hj, if_pos (by omega)] at ih
        rcases ih with ⟨h1, -⟩ | ⟨a, b, h1, h2, h3⟩
        · simp at h1
        · right
          simp only [Prod.mk.injEq, and_true] at h3
          refine ⟨x :: a, b, by rw [h1]; rfl, by simp [Ne.symm h, h2], ?_⟩
          rw [← h3.1, ← h3.2]
          simp

theorem cut_uniq {a b a' b' : List UInt8} (h : a' ++ 35 :: b' = a ++ 35 :: b) (h1 : 35 ∉ a') (h2 : 35 ∉ a) : a' = a ∧ b' = b := by
  induction a' generalizing a with
  | nil =>
    cases a with
    | nil => simp at h; exact ⟨rfl, h⟩
    | cons y a => simp at h; exact absurd (by rw [← h.1]; simp) h2
  | cons z a' ih =>
    cases a with
    | nil => simp at h; exact absurd (by rw [h.1]; simp) h1
    | cons y a =>
      simp at h h1 h2
      have := ih h.2 h1.2 h2.2
      exact ⟨by rw [h.1, this.1], this.2⟩

theorem ref_comment_loop (l : List UInt8) (hl : l.length ≤ 1000000) : ∀ (b a : List UInt8), l = a ++ b → 35 ∉ a →
    Ev (fun k => unicodetextref09_comment.l0 k (ofL l) (a.length : Int)) (ofL (dataL l), ofL (noteL l))
  | [], a, h, hn => by
    have hd : dataL l = l ∧ noteL l = [] := by
      rw [List.append_nil] at h
      rcases cut_at 35 l with ⟨h1, -⟩ | ⟨a', b', h1, -, -⟩
      · unfold dataL noteL; rw [h1]; exact ⟨rfl, rfl⟩
      · exact absurd (by rw [← h, h1]; simp) hn
    rw [hd.1, hd.2]
    refine Ev.step (f := fun _ => some (ofL l, ofL [])) (fun k => ?_) (Ev.now _)
    simp only [unicodetextref09_comment.l0]
    rw [if_neg (by rw [ofL_size, h]; simp)]
  | x :: b, a, h, hn => by
    have hlen : a.length + (b.length + 1) = l.length := by rw [h]; simp
    have hx : l[a.length]'(by omega) = x := by simp [h]
    by_cases hc : x = 35
    · subst hc
      have hd : dataL l = a ∧ noteL l = trimL b := by
        rcases cut_at 35 l with ⟨h1, h2⟩ | ⟨a', b', h1, h2, h3⟩
        · exact absurd (by rw [h]; simp) h2
        · have he : a' = a ∧ b' = b := by
            rw [h1] at h
            exact cut_uniq h h2 hn
          unfold dataL noteL; rw [h3, he.1, he.2]; exact ⟨rfl, rfl⟩
      have ht : Ev (fun k => (unicodetextref09_Trim.f k (ofL b)).bind fun t => some (ofL a, t)) (ofL a, ofL (trimL b)) := Ev.bind (ref_trim b (by omega)) (Ev.now _)
      rw [hd.1, hd.2]
      refine Ev.step (fun k => ?_) ht
      simp only [unicodetextref09_comment.l0]
      rw [wrap_succ _ (by omega), if_pos (by rw [ofL_size]; omega), if_pos (by omega), bt_ofL l _ (by omega), hx, if_pos (by decide), if_pos (by rw [ofL_size]; omega), if_pos (by omega), if_pos (by rw [ofL_size]; omega),
        ofL_extract, ofL_extract, Int.toNat_natCast, Int.toNat_natCast, ofL_size, List.drop_zero, Nat.sub_zero,
        show (l.drop (a.length + 1)).take (l.length - (a.length + 1)) = b by rw [h, List.take_of_length_le (by simp; omega), ← List.drop_drop, List.drop_left]; rfl, show l.take a.length = a by rw [h, List.take_left]]
    · have ih := ref_comment_loop l hl b (a ++ [x]) (by rw [h]; simp) (by simp [hn, Ne.symm hc])
      refine Ev.step (fun k => ?_) ih
      simp only [unicodetextref09_comment.l0]
      rw [wrap_succ _ (by omega), if_pos (by rw [ofL_size]; omega), if_pos (by omega), bt_ofL l _ (by omega), hx, if_neg (fun e => hc (UInt8.toNat_inj.1 (by rw [show (35 : UInt8).toNat = 35 from rfl]; omega)))]
      simp
theorem ref_comment (l : List UInt8) (hl : l.length ≤ 1000000) : Ev (fun k => unicodetextref09_comment.f k (ofL l)) (ofL (dataL l), ofL (noteL l)) := ref_comment_loop l hl l [] rfl (by simp)

end Go.Proofs.YtljhhnpgpiglfaaDoor.Pr
