/- Plain laws: digits between braces, and the reading of what Text and Codes write. -/
import Derived.Test.YtjjbjmmdljhjkaaDoorUAlive
namespace Go.Proofs.YtjjbjmmdljhjkaaDoor.Pr
open Go.RowKit Go.Proofs.YtjjbjmmdljhjkaaDoorW.PrintWords Go.Proofs.YtjjbjmmdljhjkaaDoorW.PrintLast Go.Proofs.YtjjbjmmdljhjkaaDoorW.PrintMore
set_option linter.unusedVariables false
set_option linter.unusedSimpArgs false

def valD : List UInt8 → Int → Int
  | [], v => v
  | d :: t, v => valD t (16 * v + dv d.toNat)
theorem valD_ge : ∀ (ds : List UInt8) (v : Int), (∀ d ∈ ds, 0 ≤ dv d.toNat) → 0 ≤ v → v ≤ valD ds v
  | [], v, _, _ => Int.le_refl _
  | d :: t, v, h, h0 => by
    have hd := h d (List.mem_cons_self ..)
    have := valD_ge t (16 * v + dv d.toNat) (fun x hx => h x (List.mem_cons_of_mem _ hx)) (by omega)
    simp only [valD]
    omega
theorem valD_append : ∀ (a b : List UInt8) (v : Int), valD (a ++ b) v = valD b (valD a v)
  | [], _, _ => rfl
  | d :: t, b, v => valD_append t b _

theorem digL_digits : ∀ (ds : List UInt8) (v : Int) (cnt : Nat) (rest : List UInt8), (∀ d ∈ ds, 0 ≤ dv d.toNat) → 0 ≤ v → valD ds v ≤ 1114111 → cnt + ds.length ≤ 6 →
    digL (ds ++ rest) v cnt = digL rest (valD ds v) (cnt + ds.length)
  | [], _, _, _, _, _, _, _ => rfl
  | d :: t, v, cnt, rest, h, h0, hm, hl => by
    have hd := h d (List.mem_cons_self ..)
    have ht := fun x hx => h x (List.mem_cons_of_mem d hx)
    have hge := valD_ge t (16 * v + dv d.toNat) ht (by omega)
    have hl' : cnt + 1 + t.length ≤ 6 := by simp at hl; omega
    have hne : ¬ (d = 125 ∧ 0 < cnt) := by
      rintro ⟨rfl, _⟩
      exact absurd hd (by decide)
    simp only [valD] at hm
    simp only [List.cons_append, digL, valD]
    rw [if_neg hne, if_neg (by omega), digL_digits t _ _ rest ht (by omega) hm hl']
    congr 1
    simp; omega

theorem digL_close (v : Int) (cnt : Nat) (rest : List UInt8) (h : 0 < cnt) : digL (125 :: rest) v cnt = .item v (cnt + 4) := by
  simp only [digL]
  rw [if_pos ⟨trivial, h⟩]
theorem digL_semi (v : Int) (cnt : Nat) (rest : List UInt8) : digL (59 :: rest) v cnt = .bad := by
  simp only [digL]
  rw [if_neg (by rintro ⟨h, _⟩; exact absurd h (by decide)), if_pos (Or.inl (by decide))]

theorem dv_dig (d : Nat) (h : d < 16) : dv (UInt8.ofNat (hexDig d).toNat).toNat = d ∧ hv (UInt8.ofNat (hexDig d).toNat).toNat = d := by
  match d, h with
  | 0, _ | 1, _ | 2, _ | 3, _ | 4, _ | 5, _ | 6, _ | 7, _ | 8, _ | 9, _ | 10, _ | 11, _ | 12, _ | 13, _ | 14, _ | 15, _ => decide
  | n + 16, h => omega

theorem hexL_mem (n : Nat) (d : UInt8) (h : d ∈ hexL n) : ∃ q, q < 16 ∧ d = UInt8.ofNat (hexDig q).toNat := by
  simp only [hexL, hexNums, List.map_map, List.mem_map, Function.comp] at h
  obtain ⟨j, _, rfl⟩ := h
  exact ⟨_, Nat.mod_lt _ (by decide), rfl⟩
theorem hexL_dv (n : Nat) (d : UInt8) (h : d ∈ hexL n) : 0 ≤ dv d.toNat := by
  obtain ⟨q, hq, rfl⟩ := hexL_mem n d h
  rw [(dv_dig q hq).1]; omega
theorem hexL_hv (n : Nat) (d : UInt8) (h : d ∈ hexL n) : hv d.toNat = dv d.toNat := by
  obtain ⟨q, hq, rfl⟩ := hexL_mem n d h
  rw [(dv_dig q hq).1, (dv_dig q hq).2]
theorem hexL_ascii (n : Nat) (d : UInt8) (h : d ∈ hexL n) : 48 ≤ d.toNat ∧ d.toNat ≤ 70 := by
  obtain ⟨q, hq, rfl⟩ := hexL_mem n d h
  match q, hq with
  | 0, _ | 1, _ | 2, _ | 3, _ | 4, _ | 5, _ | 6, _ | 7, _ | 8, _ | 9, _ | 10, _ | 11, _ | 12, _ | 13, _ | 14, _ | 15, _ => decide
  | n + 16, h => omega

theorem hexL_val_at (n : Nat) (m : Nat) : ∀ j, j + m = hexLen n → valD ((hexL n).drop j) ((n / 16 ^ m : Nat) : Int) = n := by
  induction m with
  | zero =>
    intro j hj
    rw [List.drop_of_length_le (by rw [hexL_length]; omega)]
    simp [valD]
  | succ m ih =>
    intro j hj
    have hlt : j < (hexL n).length := by rw [hexL_length]; omega
    have hat := hexL_at n j (by omega)
    rw [List.getElem?_eq_getElem hlt, show hexLen n - 1 - j = m by omega] at hat
    rw [List.drop_eq_getElem_cons hlt, Option.some.inj hat]
    have hq1 : n / 16 ^ (m + 1) = n / 16 ^ m / 16 := by rw [Nat.pow_succ, ← Nat.div_div_eq_div_mul]
    have hih := ih (j + 1) (by omega)
    rw [hq1]
    obtain ⟨q, hq⟩ : ∃ q, n / 16 ^ m = q := ⟨_, rfl⟩
    rw [hq] at hih ⊢
    simp only [valD]
    rw [(dv_dig (q % 16) (Nat.mod_lt _ (by decide))).1, show 16 * ((q / 16 : Nat) : Int) + ((q % 16 : Nat) : Int) = (q : Int) by omega]
    exact hih
theorem hexL_val (n : Nat) (hn : n ≤ 1114111) : valD (hexL n) 0 = n := by
  have h := hexL_val_at n (hexLen n) 0 (by omega)
  rw [hexLen_stop n hn, List.drop_zero] at h
  exact h

theorem valL_valD : ∀ (ds : List UInt8) (v : Int), (∀ d ∈ ds, hv d.toNat = dv d.toNat ∧ 0 ≤ dv d.toNat) → valL ds v = some (valD ds v)
  | [], _, _ => rfl
  | d :: t, v, h => by
    have hd := h d (List.mem_cons_self ..)
    simp only [valL, valD]
    rw [hd.1, if_neg (by omega), valL_valD t _ (fun x hx => h x (List.mem_cons_of_mem _ hx))]

theorem hxL_hexL (n : Nat) (h : n ≤ 1114111) : hxL (n : Int) = hexL n := by unfold hxL; rw [hexOf_ofL n h, ofL_list]

theorem valid_nat (c : Int) (h : validB c = true) : ∃ n : Nat, c = n ∧ n ≤ 1114111 := by
  have h := of_decide_eq_true h
  exact ⟨c.toNat, by omega, by omega⟩

/-- What Hex writes is read back. -/
theorem parseS_hx (c : Int) (h : validB c = true) : parseS (hxL c) = (c, 0) := by
  obtain ⟨n, rfl, hn⟩ := valid_nat c h
  have hl := hexLen_le n
  unfold parseS
  rw [hxL_hexL n hn, if_pos (by rw [hexL_length]; exact hl), valL_valD _ _ (fun d hd => ⟨hexL_hv n d hd, hexL_dv n d hd⟩), hexL_val n hn, readV_some, if_pos (hexOf_ofL n hn)]

/-! ### digits without leading zeros -/
theorem valD_trim : ∀ l : List UInt8, valD (Lib.trimLeftB l 48) 0 = valD l 0
  | [] => rfl
  | b :: t => by
    unfold Lib.trimLeftB
    by_cases hb : b = 48
    · subst hb
      rw [List.dropWhile_cons_of_pos (by decide)]
      exact valD_trim t
    · rw [List.dropWhile_cons_of_neg (by simpa using hb)]
theorem short_mem (n : Nat) (hn : n ≤ 1114111) (d : UInt8) (h : d ∈ shortL n) : d = 48 ∨ d ∈ hexL n := by
  rw [shortL_trim, hexOf_ofL n hn, ofL_list] at h
  unfold trim0 at h
  split at h
  · left; simpa using h
  · right
    exact (List.dropWhile_sublist _).subset h
theorem short_dv (n : Nat) (hn : n ≤ 1114111) (d : UInt8) (h : d ∈ shortL n) : 0 ≤ dv d.toNat := by
  rcases short_mem n hn d h with rfl | h
  · decide
  · exact hexL_dv n d h
theorem short_val (n : Nat) (hn : n ≤ 1114111) : valD (shortL n) 0 = n := by
  rw [shortL_trim, hexOf_ofL n hn, ofL_list]
  unfold trim0
  have ht := valD_trim (hexL n)
  rw [hexL_val n hn] at ht
  split
  · next e => rw [e] at ht; exact ht
  · exact ht
theorem short_pos (c : Int) : 0 < (shortL c).length := by
  rw [shortL_trim]
  unfold trim0
  split
  · decide
  · next h => exact List.length_pos_iff.2 h

theorem scan_braces (n : Nat) (ds t : List UInt8) (hd : ∀ d ∈ ds, 0 ≤ dv d.toNat) (hv : valD ds 0 = n) (hn : n ≤ 1114111) (h6 : ds.length ≤ 6) (h1 : 0 < ds.length) :
    scanL (117 :: 123 :: (ds ++ 125 :: t)) = .item n (ds.length + 4) := by
  simp only [scanL]
  rw [if_neg (by decide), if_pos trivial, if_pos trivial, digL_digits ds 0 0 _ hd (by omega) (by omega) (by omega), hv, digL_close _ _ _ (by omega)]
  congr 1
  omega

/-! ### one element of a literal -/
theorem pars_piece (c : Int) (h : validB c = true) (m : Nat) (t : List UInt8) (acc : List Int) (p : Nat) :
    parsL (m + 1) (pieceL c ++ t) acc p = parsL m t (acc ++ [c]) (p + (pieceL c).length) := by
  obtain ⟨n, rfl, hn⟩ := valid_nat c h
  by_cases hp : plainB n = true
  · have hb := plainB_bd n hp
    have hbyte : ((UInt8.ofNat n).toNat : Int) = n := by
      rw [UInt8.toNat_ofNat']
      have : n % 2 ^ 8 = n := Nat.mod_eq_of_lt (by omega)
      omega
    rw [piece_plain _ hp, Int.toNat_natCast]
    simp only [List.cons_append, List.nil_append, parsL, hbyte]
    have h34 : ¬ UInt8.ofNat n = 34 := by
      intro e
      have := (u8_34 _).2 e
      rw [hbyte] at this
      rw [this] at hp
      exact absurd hp (by decide)
    rw [if_neg h34, if_pos hp]
    rfl
  · have hp : plainB n = false := Bool.eq_false_iff.2 hp
    by_cases hq : (n : Int) = 34 ∨ (n : Int) = 92
    · rw [piece_quote _ hp hq, Int.toNat_natCast]
      rcases hq with e | e
      · obtain rfl : n = 34 := by omega
        simp only [List.cons_append, List.nil_append, parsL]
        rfl
      · obtain rfl : n = 92 := by omega
        simp only [List.cons_append, List.nil_append, parsL]
        rfl
    · rw [piece_else _ hp hq]
      have hs := scan_braces n (shortL n) t (short_dv n hn) (short_val n hn) hn (short_len n) (short_pos n)
      simp only [List.cons_append, List.nil_append, List.append_assoc, parsL]
      rw [if_neg (by decide), if_neg (by decide), if_pos trivial, hs]
      dsimp only
      have e : ((92 : UInt8) :: 117 :: 123 :: (shortL n ++ 125 :: t)).drop ((shortL n).length + 4) = t := by
        rw [show (92 : UInt8) :: 117 :: 123 :: (shortL n ++ 125 :: t) = (92 :: 117 :: 123 :: shortL n ++ [125]) ++ t by simp]
        exact List.drop_left' (by simp)
      rw [e]
      congr 1
      simp
      try omega

theorem piece_pos (c : Int) : 0 < (pieceL c).length := by
  by_cases hp : plainB c = true
  · rw [piece_plain _ hp]; simp
  · have hp : plainB c = false := Bool.eq_false_iff.2 hp
    by_cases hq : c = 34 ∨ c = 92
    · rw [piece_quote _ hp hq]; simp
    · rw [piece_else _ hp hq]; simp

theorem pars_body : ∀ (xs : List Int) (m : Nat) (acc : List Int) (p : Nat), xs.all validB = true → xs.length < m → parsL m (xs.flatMap pieceL ++ [34]) acc p = (acc ++ xs, 0, 0)
  | [], m, acc, p, _, h => by
    obtain ⟨m, rfl⟩ : ∃ j, m = j + 1 := ⟨m - 1, by simp at h; omega⟩
    simp [parsL]
  | x :: xs, m, acc, p, hv, h => by
    obtain ⟨m, rfl⟩ : ∃ j, m = j + 1 := ⟨m - 1, by simp at h; omega⟩
    simp only [List.all_cons, Bool.and_eq_true] at hv
    rw [List.flatMap_cons, List.append_assoc, pars_piece x hv.1, pars_body xs m _ _ hv.2 (by simp at h; omega)]
    simp

theorem pieces_ge : ∀ xs : List Int, xs.length ≤ (xs.flatMap pieceL).length
  | [] => by simp
  | x :: xs => by
    have := pieces_ge xs
    have := piece_pos x
    simp only [List.flatMap_cons, List.length_append, List.length_cons]
    omega

/-- Parse reads what Text writes. -/
theorem parse_text (xs : List Int) (hv : xs.all validB = true) (hx : xs.length ≤ 6000) : parseL (textL xs) = (xs, 0, 0) := by
  have hl := pieces_len xs
  have hg := pieces_ge xs
  unfold parseL textL
  rw [if_neg (by simp only [List.length_append, List.length_cons, List.length_nil]; omega)]
  simp only [List.cons_append, List.nil_append]
  rw [if_pos trivial, pars_body xs _ [] 1 hv (by simp only [List.length_append, List.length_cons, List.length_nil]; omega)]
  simp

/-- ParseCodes reads what Codes writes. -/
theorem cut_piece : ∀ (p r : List UInt8), (∀ b ∈ p, b ≠ 32) → cutL (p ++ 32 :: r) = p :: cutL r
  | [], r, _ => by simp [cutL]
  | b :: t, r, h => by
    rw [List.cons_append, cutL_miss b _ (h b (List.mem_cons_self ..)), cut_piece t r (fun x hx => h x (List.mem_cons_of_mem _ hx))]
    rfl
theorem cut_last : ∀ (p : List UInt8), (∀ b ∈ p, b ≠ 32) → cutL p = [p]
  | [], _ => rfl
  | b :: t, h => by
    rw [cutL_miss b _ (h b (List.mem_cons_self ..)), cut_last t (fun x hx => h x (List.mem_cons_of_mem _ hx))]
    rfl
theorem hx_no32 (c : Int) : ∀ b ∈ hxL c, b ≠ 32 := by
  intro b hb
  by_cases h : 0 ≤ c ∧ c ≤ 1114111
  · obtain ⟨n, rfl⟩ := Int.eq_ofNat_of_zero_le h.1
    rw [hxL_hexL n (by omega)] at hb
    have := hexL_ascii n b hb
    rintro rfl
    exact absurd this.1 (by decide)
  · unfold hxL hexOf at hb
    rw [if_neg h] at hb
    simp at hb
theorem cut_join : ∀ (x : Int) (xs : List Int), cutL (hxL x ++ Lib.joinTail [32] (xs.map hxL)) = hxL x :: xs.map hxL
  | x, [] => by
    rw [List.map_nil, show Lib.joinTail [32] [] = [] from rfl, List.append_nil]
    exact cut_last _ (hx_no32 x)
  | x, y :: ys => by
    rw [List.map_cons, joinTail_cons, List.append_assoc, List.singleton_append, cut_piece _ _ (hx_no32 x), cut_join y ys]
theorem codesP_hx : ∀ (xs : List Int) (acc : List Int), xs.all validB = true → codesP (xs.map hxL) acc = (acc ++ xs, 0)
  | [], acc, _ => by simp [codesP]
  | x :: xs, acc, h => by
    simp only [List.all_cons, Bool.and_eq_true] at h
    simp only [List.map_cons, codesP, parseS_hx x h.1]
    rw [if_pos trivial, codesP_hx xs _ h.2]
    simp
theorem read_codes (xs : List Int) (h : xs.all validB = true) : readCodes (Lib.join (xs.map hxL) [32]) = (xs, 0) := by
  match xs, h with
  | [], _ => rfl
  | x :: xs, h =>
    have hx : validB x = true := by simp only [List.all_cons, Bool.and_eq_true] at h; exact h.1
    have hne : hxL x ≠ [] := (hexOf_short x (of_decide_eq_true hx)).1
    unfold readCodes
    rw [List.map_cons, Lib.join_cons, if_neg (by simp [hne]), cut_join]
    have := codesP_hx (x :: xs) [] h
    rw [List.map_cons] at this
    exact this

/-- What is read as notations is what Codes writes. -/
theorem parseS_ok (p : List UInt8) (v : Int) (h : parseS p = (v, 0)) : hxL v = p ∧ validB v = true := by
  unfold parseS at h
  by_cases hl : 4 ≤ p.length ∧ p.length ≤ 6
  · rw [if_pos hl] at h
    cases hv : valL p 0 with
    | none => rw [hv] at h; cases h
    | some u =>
      rw [hv, readV_some] at h
      by_cases hu : hexOf u = ofL p
      · rw [if_pos hu] at h
        obtain rfl : u = v := congrArg Prod.fst h
        have he : hxL u = p := by unfold hxL; rw [hu, ofL_list]
        refine ⟨he, ?_⟩
        by_cases hc : 0 ≤ u ∧ u ≤ 1114111
        · exact decide_eq_true hc
        · unfold hxL hexOf at he
          rw [if_neg hc] at he
          rw [← he] at hl
          simp at hl
      · rw [if_neg hu] at h; cases h
  · rw [if_neg hl] at h; cases h
theorem codesP_ok : ∀ (ps : List (List UInt8)) (acc c : List Int), codesP ps acc = (c, 0) → ∃ ys, c = acc ++ ys ∧ ys.map hxL = ps ∧ ys.all validB = true
  | [], acc, c, h => ⟨[], by simpa [codesP, eq_comm] using h, rfl, rfl⟩
  | p :: r, acc, c, h => by
    simp only [codesP] at h
    by_cases h0 : (parseS p).2 = 0
    · rw [if_pos h0] at h
      obtain ⟨ys, e1, e2, e3⟩ := codesP_ok r _ c h
      obtain ⟨g1, g2⟩ := parseS_ok p (parseS p).1 (by rw [← h0])
      exact ⟨(parseS p).1 :: ys, by rw [e1]; simp, by rw [List.map_cons, g1, e2], by rw [List.all_cons, g2, e3]; rfl⟩
    · rw [if_neg h0] at h; cases h
theorem codesP_bad : ∀ (ps : List (List UInt8)) (acc : List Int), (codesP ps acc).2 = 0 ∨ codesP ps acc = ([], 3)
  | [], acc => Or.inl rfl
  | p :: r, acc => by
    simp only [codesP]
    split
    · exact codesP_bad r _
    · exact Or.inr rfl
theorem codesP_len : ∀ (ps : List (List UInt8)) (acc : List Int), (codesP ps acc).1.length ≤ acc.length + ps.length
  | [], acc => by simp [codesP]
  | p :: r, acc => by
    simp only [codesP]
    split
    · have := codesP_len r (acc ++ [(parseS p).1])
      simp at this ⊢
      omega
    · simp
theorem readCodes_len (l : List UInt8) : (readCodes l).1.length ≤ l.length + 1 := by
  unfold readCodes
  split
  · simp
  · have := codesP_len (cutL l) []
    have := cutL_len l
    simp at *
    omega
theorem join_cut : ∀ l : List UInt8, Lib.join (cutL l) [32] = l
  | [] => rfl
  | b :: t => by
    have ih := join_cut t
    by_cases h : b = 32
    · subst h
      rw [cutL_hit]
      cases hc : cutL t with
      | nil => exact absurd hc (cutL_ne t)
      | cons p r =>
        rw [hc, Lib.join_cons] at ih
        rw [Lib.join_cons, joinTail_cons, List.nil_append, List.append_assoc, ih]
        rfl
    · rw [cutL_miss b t h]
      cases hc : cutL t with
      | nil => exact absurd hc (cutL_ne t)
      | cons p r =>
        rw [hc, Lib.join_cons] at ih
        simp only [consP]
        rw [Lib.join_cons, List.append_assoc, ih]
        rfl
theorem codes_read (l : List UInt8) (c : List Int) (h : readCodes l = (c, 0)) : codesL c = (ofL l, 0) := by
  unfold readCodes at h
  unfold codesL
  by_cases hl : l = []
  · rw [if_pos hl] at h
    obtain rfl : [] = c := congrArg Prod.fst h
    subst hl
    rfl
  · rw [if_neg hl] at h
    obtain ⟨ys, e1, e2, e3⟩ := codesP_ok _ _ _ h
    rw [List.nil_append] at e1
    rw [e1, if_pos e3, e2, join_cut]
theorem readCodes_bad (l : List UInt8) : (readCodes l).2 = 0 ∨ readCodes l = ([], 3) := by
  unfold readCodes
  split
  · exact Or.inl rfl
  · exact codesP_bad _ _

/-! ### what Parse yields -/
theorem pars_sound : ∀ (n : Nat) (l : List UInt8) (acc : List Int) (p : Nat), acc.all validB = true → (parsL n l acc p).1.all validB = true ∧ (parsL n l acc p).1.length ≤ acc.length + n
  | 0, _, acc, _, _ => by simp [parsL]
  | n + 1, [], acc, _, _ => by simp [parsL]
  | n + 1, b :: t, acc, p, h => by
    simp only [parsL]
    split
    · split
      · exact ⟨h, by simp⟩
      · simp
    · split
      · have hb : validB (b.toNat : Int) = true := by have := b.toNat_lt; exact decide_eq_true (by omega)
        have := pars_sound n t (acc ++ [(b.toNat : Int)]) (p + 1) (by rw [List.all_append, h]; simp [hb])
        exact ⟨this.1, by have := this.2; simp at this ⊢; first | done | omega⟩
      · split
        · cases hs : scanL t with
          | item c m =>
            have hc := scanL_item t c m hs
            have hb : validB c = true := decide_eq_true ⟨hc.2.2.1, hc.2.2.2⟩
            have := pars_sound n ((b :: t).drop m) (acc ++ [c]) (p + m) (by rw [List.all_append, h]; simp [hb])
            exact ⟨this.1, by have := this.2; simp at this ⊢; first | done | omega⟩
          | part => simp
          | bad => simp
        · simp
theorem parse_sound (l : List UInt8) : (parseL l).1.all validB = true ∧ (parseL l).1.length ≤ l.length := by
  unfold parseL
  split
  · simp
  · match l with
    | [] => simp
    | b :: t =>
      simp only
      split
      · have := pars_sound t.length t [] 1 rfl
        exact ⟨this.1, by have := this.2; simp at this ⊢; first | done | omega⟩
      · simp

/-! ### a beginning -/
theorem digL_take : ∀ (l : List UInt8) (v : Int) (cnt : Nat) (c : Int) (n j : Nat), digL l v cnt = .item c n → n ≤ cnt + 3 + j → digL (l.take j) v cnt = .item c n
  | [], v, cnt, c, n, j, h, _ => by cases h
  | b :: t, v, cnt, c, n, j, h, hj => by
    simp only [digL] at h
    by_cases hb : b = 125 ∧ 0 < cnt
    · rw [if_pos hb] at h
      cases h
      obtain ⟨j, rfl⟩ : ∃ i, j = i + 1 := ⟨j - 1, by omega⟩
      simp only [List.take_succ_cons, digL]
      rw [if_pos hb]
    · rw [if_neg hb] at h
      by_cases hd : dv b.toNat < 0 ∨ 5 < cnt ∨ 1114111 < 16 * v + dv b.toNat
      · rw [if_pos hd] at h; cases h
      · rw [if_neg hd] at h
        have hge : cnt + 5 ≤ n := by
          have : ∀ (l : List UInt8) (v : Int) (cnt : Nat), digL l v cnt = .item c n → cnt + 4 ≤ n := by
            intro l
            induction l with
            | nil => intro v cnt h; cases h
            | cons b t ih =>
              intro v cnt h
              simp only [digL] at h
              split at h
              · cases h; omega
              · split at h
                · cases h
                · have := ih _ _ h; omega
          have := this _ _ _ h
          omega
        obtain ⟨j, rfl⟩ : ∃ i, j = i + 1 := ⟨j - 1, by omega⟩
        simp only [List.take_succ_cons, digL]
        rw [if_neg hb, if_neg hd]
        exact digL_take t _ _ c n j h (by omega)
theorem scanL_take (t : List UInt8) (c : Int) (n j : Nat) (h : scanL t = .item c n) (hj : n ≤ j + 1) : scanL (t.take j) = .item c n := by
  have hb := scanL_item t c n h
  match t, h, hb with
  | [], h, _ => cases h
  | b :: t, h, hb =>
    obtain ⟨j, rfl⟩ : ∃ i, j = i + 1 := ⟨j - 1, by omega⟩
    simp only [scanL] at h
    simp only [List.take_succ_cons, scanL]
    by_cases hq : b = 34 ∨ b = 92
    · rw [if_pos hq] at h ⊢
      exact h
    · rw [if_neg hq] at h ⊢
      by_cases hu : b = 117
      · rw [if_pos hu] at h ⊢
        match t, h, hb with
        | [], h, _ => cases h
        | b2 :: u, h, _ =>
          by_cases h2 : b2 = 123
          · simp only [h2, if_true] at h
            have h4 := digL_item u 0 0 c n (by omega) (by omega) h
            obtain ⟨j, rfl⟩ : ∃ i, j = i + 1 := ⟨j - 1, by omega⟩
            simp only [List.take_succ_cons, h2, if_true]
            exact digL_take u 0 0 c n j h (by omega)
          · simp only [h2, if_false] at h; cases h
      · rw [if_neg hu] at h; cases h

theorem pars_errno : ∀ (n : Nat) (l : List UInt8) (acc : List Int) (p : Nat), ((parsL n l acc p).2.1 = 0 ∧ (parsL n l acc p).2.2 = 0) ∨ ((parsL n l acc p).2.1 = 3 ∧ (parsL n l acc p).1 = [])
  | 0, _, acc, _ => by simp [parsL]
  | n + 1, [], acc, _ => by simp [parsL]
  | n + 1, b :: t, acc, p => by
    simp only [parsL]
    split
    · split
      · simp
      · simp
    · split
      · exact pars_errno n _ _ _
      · split
        · cases hs : scanL t with
          | item c m => exact pars_errno n _ _ _
          | part => simp
          | bad => simp
        · simp

theorem pars_prefix : ∀ (n : Nat) (l : List UInt8) (acc : List Int) (p : Nat), l.length ≤ n → (parsL n l acc p).2.1 = 3 →
    ∃ q : Nat, (parsL n l acc p).2.2 = ((p + q : Nat) : Int) ∧ q ≤ l.length ∧ ∀ m, q ≤ m → (((parsL m (l.take q) acc p).2.1 = 0 ∧ (parsL m (l.take q) acc p).2.2 = 0) ∨ ((parsL m (l.take q) acc p).2.1 = 3 ∧ (parsL m (l.take q) acc p).2.2 = ((p + q : Nat) : Int)))
  | 0, [], acc, p, _, _ => ⟨0, by simp [parsL], by simp, fun m _ => Or.inr (by rw [List.take_zero, parsL_nil]; simp)⟩
  | 0, _ :: _, _, _, h, _ => by simp at h
  | n + 1, [], acc, p, _, _ => ⟨0, by simp [parsL], by simp, fun m _ => Or.inr (by rw [List.take_zero, parsL_nil]; simp)⟩
  | n + 1, b :: t, acc, p, hl, h => by
    have hl' : t.length ≤ n := by simp at hl; omega
    simp only [parsL] at h ⊢
    by_cases h34 : b = 34
    · rw [if_pos h34] at h ⊢
      by_cases ht : t = []
      · rw [if_pos ht] at h; exact absurd (show (0 : Int) = 3 from h) (by decide)
      · rw [if_neg ht]
        refine ⟨1, rfl, by simp, fun m hm => Or.inl ?_⟩
        obtain ⟨m, rfl⟩ : ∃ i, m = i + 1 := ⟨m - 1, by omega⟩
        simp [parsL, h34]
    · rw [if_neg h34] at h ⊢
      by_cases hp : plainB b.toNat = true
      · rw [if_pos hp] at h ⊢
        obtain ⟨q, e1, e2, e3⟩ := pars_prefix n t _ _ hl' h
        refine ⟨q + 1, by rw [e1]; omega, by simp; omega, fun m hm => ?_⟩
        obtain ⟨m, rfl⟩ : ∃ i, m = i + 1 := ⟨m - 1, by omega⟩
        have := e3 m (by omega)
        simp only [List.take_succ_cons, parsL]
        rw [if_neg h34, if_pos hp, show p + (q + 1) = p + 1 + q by omega]
        exact this
      · rw [if_neg hp] at h ⊢
        by_cases h92 : b = 92
        · rw [if_pos h92] at h ⊢
          cases hs : scanL t with
          | item c k =>
            rw [hs] at h
            have hk := scanL_item t c k hs
            dsimp only at h ⊢
            obtain ⟨q, e1, e2, e3⟩ := pars_prefix n ((b :: t).drop k) _ _ (by simp; omega) h
            rw [List.length_drop, List.length_cons] at e2
            refine ⟨k + q, by rw [e1]; omega, by simp; omega, fun m hm => ?_⟩
            obtain ⟨m, rfl⟩ : ∃ i, m = i + 1 := ⟨m - 1, by omega⟩
            obtain ⟨j, hj⟩ : ∃ j, k + q = j + 1 := ⟨k + q - 1, by omega⟩
            have := e3 m (by omega)
            have hst := scanL_take t c k j hs (by omega)
            have hdt : (b :: t.take j).drop k = ((b :: t).drop k).take q := by
              rw [← List.take_succ_cons, ← hj, List.drop_take, show k + q - k = q by omega]
            rw [hj, List.take_succ_cons]
            simp only [parsL]
            rw [if_neg h34, if_neg hp, if_pos h92, hst]
            dsimp only
            rw [hdt, ← hj, show p + (k + q) = p + k + q by omega]
            exact this
          | part =>
            dsimp only
            refine ⟨t.length + 1, rfl, by simp, fun m hm => Or.inr ?_⟩
            obtain ⟨m, rfl⟩ : ∃ i, m = i + 1 := ⟨m - 1, by omega⟩
            rw [List.take_of_length_le (by simp)]
            simp only [parsL]
            rw [if_neg h34, if_neg hp, if_pos h92, hs]
            exact ⟨rfl, rfl⟩
          | bad =>
            dsimp only
            exact ⟨0, rfl, by simp, fun m _ => Or.inr (by rw [List.take_zero, parsL_nil]; simp)⟩
        · rw [if_neg h92]
          exact ⟨0, rfl, by simp, fun m _ => Or.inr (by rw [List.take_zero, parsL_nil]; simp)⟩

end Go.Proofs.YtjjbjmmdljhjkaaDoor.Pr
