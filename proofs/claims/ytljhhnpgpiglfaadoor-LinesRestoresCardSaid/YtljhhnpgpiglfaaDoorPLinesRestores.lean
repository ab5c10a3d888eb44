/- LinesRestores: the pure statement. -/
import Derived.Test.YtljhhnpgpiglfaaDoorLText
import Derived.Test.YtljhhnpgpiglfaaDoorPrx19
namespace Go.Proofs.YtljhhnpgpiglfaaDoor.Pr
open Go.RowKit Go.Proofs.YtljhhnpgpiglfaaDoorW.PrintWords Go.Proofs.YtljhhnpgpiglfaaDoorW.PrintLast Go.Proofs.YtljhhnpgpiglfaaDoorW.PrintMore
set_option linter.unusedVariables false
set_option linter.unusedSimpArgs false

/-! ### digits -/
theorem hv_dig (d : Nat) (h : d < 16) : hv (UInt8.ofNat (hexDig d).toNat).toNat = d := by
  match d, h with
  | 0, _ | 1, _ | 2, _ | 3, _ | 4, _ | 5, _ | 6, _ | 7, _ | 8, _ | 9, _ | 10, _ | 11, _ | 12, _ | 13, _ | 14, _ | 15, _ => decide
  | n + 16, h => omega
theorem hexL_mem (n : Nat) (d : UInt8) (h : d ∈ hexL n) : 48 ≤ d.toNat ∧ d.toNat ≤ 70 ∧ d.toNat ≠ 59 := by
  simp only [hexL, hexNums, List.map_map, List.mem_map, Function.comp] at h
  obtain ⟨j, _, rfl⟩ := h
  have key : ∀ q, q < 16 → 48 ≤ (UInt8.ofNat (hexDig q).toNat).toNat ∧ (UInt8.ofNat (hexDig q).toNat).toNat ≤ 70 ∧ (UInt8.ofNat (hexDig q).toNat).toNat ≠ 59 := by
    intro q hq
    match q, hq with
    | 0, _ | 1, _ | 2, _ | 3, _ | 4, _ | 5, _ | 6, _ | 7, _ | 8, _ | 9, _ | 10, _ | 11, _ | 12, _ | 13, _ | 14, _ | 15, _ => decide
    | n + 16, h => omega
  exact key _ (Nat.mod_lt _ (by decide))
theorem hexL_val_at (n : Nat) (m : Nat) : ∀ j, j + m = hexLen n → valL ((hexL n).drop j) ((n / 16 ^ m : Nat) : Int) = some (n : Int) := by
  induction m with
  | zero =>
    intro j hj
    rw [List.drop_of_length_le (by rw [hexL_length]; omega)]
    simp [valL]
  | succ m ih =>
    intro j hj
    have hlt : j < (hexL n).length := by rw [hexL_length]; omega
    have hat := hexL_at n j (by omega)
    rw [List.getElem?_eq_getElem hlt, show hexLen n - 1 - j = m by omega] at hat
    rw [List.drop_eq_getElem_cons hlt, Option.some.inj hat]
    have hq1 : n / 16 ^ (m + 1) = n / 16 ^ m / 16 := by rw [Nat.pow_succ, ← Nat.div_div_eq_div_mul]
    have hih := ih (j + 1) (by omega)
    rw [hq1]
    obtain ⟨q, hq⟩ : ∃ q, n / 16 ^ m = q := ⟨_, rfl⟩
    rw [hq] at hih ⊢
    simp only [valL]
    rw [hv_dig (q % 16) (Nat.mod_lt _ (by decide)), if_neg (by omega), show 16 * ((q / 16 : Nat) : Int) + ((q % 16 : Nat) : Int) = (q : Int) by omega]
    exact hih
theorem hexT_nat (n : Nat) (hn : n ≤ 1114111) : hexT (n : Int) = hexL n := by unfold hexT; rw [hexOf_ofL n hn, ofL_list]
theorem parse_hexT (c : Int) (h : 0 ≤ c ∧ c ≤ 1114111) : parseS (hexT c) = (c, 0) := by
  obtain ⟨n, rfl⟩ := Int.eq_ofNat_of_zero_le h.1
  have hn : n ≤ 1114111 := by omega
  have hL := hexLen_le n
  have hv := hexL_val_at n (hexLen n) 0 (by omega)
  rw [hexLen_stop n hn, List.drop_zero] at hv
  rw [hexT_nat n hn]
  unfold parseS
  rw [if_pos (by rw [hexL_length]; exact hL), show ((0 : Nat) : Int) = 0 from rfl] at *
  rw [hv, readV_some, if_pos (hexOf_ofL n hn)]
theorem hexT_mem (c : Int) (d : UInt8) (h : d ∈ hexT c) : 48 ≤ d.toNat ∧ d.toNat ≤ 70 ∧ d.toNat ≠ 59 := by
  by_cases hc : 0 ≤ c ∧ c ≤ 1114111
  · obtain ⟨n, rfl⟩ := Int.eq_ofNat_of_zero_le hc.1
    rw [hexT_nat n (by omega)] at h
    exact hexL_mem n d h
  · unfold hexT hexOf at h
    rw [if_neg hc] at h
    cases h
theorem hexT_ne (c : Int) (h : 0 ≤ c ∧ c ≤ 1114111) : hexT c ≠ [] := by
  obtain ⟨n, rfl⟩ := Int.eq_ofNat_of_zero_le h.1
  rw [hexT_nat n (by omega)]
  intro e
  have := hexL_length n
  rw [e] at this
  have := (hexLen_le n).1
  simp at *
  omega

/-! ### the cut at two points -/
theorem index2_none : ∀ a : List UInt8, 46 ∉ a → Lib.index a [46, 46] = -1
  | [], _ => by simp [Lib.index]
  | x :: t, h => by
    have hx : ¬ x = 46 := fun e => h (by simp [e])
    have hp : ([46, 46] : List UInt8).isPrefixOf (x :: t) = false := by
      rw [List.isPrefixOf]
      simp [Ne.symm hx]
    have hix : Lib.index (x :: t) [46, 46] = if Lib.index t [46, 46] == -1 then -1 else Lib.index t [46, 46] + 1 := by rw [Lib.index, hp]; simp
    rw [hix, index2_none t (fun e => h (by simp [e]))]
    rfl
theorem index2_hit : ∀ (a b : List UInt8), 46 ∉ a → Lib.index (a ++ 46 :: 46 :: b) [46, 46] = (a.length : Int)
  | [], b, _ => by rw [List.nil_append, Lib.index]; simp [List.isPrefixOf]
  | x :: t, b, h => by
    have hx : ¬ x = 46 := fun e => h (by simp [e])
    have ih := index2_hit t b (fun e => h (by simp [e]))
    have hp : ([46, 46] : List UInt8).isPrefixOf (x :: (t ++ 46 :: 46 :: b)) = false := by
      rw [List.isPrefixOf]
      simp [Ne.symm hx]
    have hix : Lib.index (x :: (t ++ 46 :: 46 :: b)) [46, 46] = if Lib.index (t ++ 46 :: 46 :: b) [46, 46] == -1 then -1 else Lib.index (t ++ 46 :: 46 :: b) [46, 46] + 1 := by rw [Lib.index, hp]; simp
    rw [List.cons_append, hix, ih, if_neg (fun e => by have := beq_iff_eq.1 e; omega)]
    simp
theorem hexT_no (c : Int) (b : UInt8) (hb : b.toNat < 48 ∨ b.toNat = 59) : b ∉ hexT c := fun h => by
  have := hexT_mem c b h
  omega
theorem span_of (x : S35) (h : spanOk x.f1 x.f2 = true) : spanL (spanT x) = (x.f1, x.f2, true) := by
  unfold spanOk at h
  simp only [Bool.and_eq_true, decide_eq_true_eq, Bool.not_eq_true', decide_eq_false_iff_not] at h
  obtain ⟨⟨h1, h2⟩, h3⟩ := h
  have p1 := parse_hexT x.f1 h1
  have p2 := parse_hexT x.f2 h2
  have n1 := hexT_no x.f1 46 (by decide)
  unfold spanT
  by_cases he : x.f2 = x.f1
  · rw [if_pos he, List.append_nil]
    have hc : Lib.cut (hexT x.f1) [46, 46] = (hexT x.f1, [], false) := by unfold Lib.cut; rw [index2_none _ n1, if_neg (by decide)]
    unfold spanL
    rw [hc]
    dsimp only
    rw [if_neg (by decide), p1, if_pos rfl, he, decide_eq_true (Int.le_refl _)]
  · rw [if_neg he]
    have hc : Lib.cut (hexT x.f1 ++ ([46, 46] ++ hexT x.f2)) [46, 46] = (hexT x.f1, hexT x.f2, true) := by
      unfold Lib.cut
      rw [show hexT x.f1 ++ ([46, 46] ++ hexT x.f2) = hexT x.f1 ++ 46 :: 46 :: hexT x.f2 from rfl, index2_hit _ _ n1, if_pos (by omega), Int.toNat_natCast, List.take_left, ← List.drop_drop, List.drop_left]
      rfl
    unfold spanL
    rw [hc]
    dsimp only
    rw [if_pos rfl, p2, if_pos rfl, p1, if_pos rfl, decide_eq_true (by omega)]

/-! ### one line -/
theorem trim_clean (l : List UInt8) (h : ∀ b ∈ l, blk b = false) : trimL l = l := by
  have key : ∀ m : List UInt8, (∀ b ∈ m, blk b = false) → m.dropWhile blk = m := by
    intro m hm
    cases m with
    | nil => rfl
    | cons b t => rw [List.dropWhile_cons_of_neg (by rw [hm b (by simp)]; decide)]
  rw [trimL_two, key l h, key l.reverse (fun b hb => h b (List.mem_reverse.1 hb)), List.reverse_reverse]
theorem trim_sp (l : List UInt8) : trimL (32 :: l) = trimL l := by
  rw [trimL_two, trimL_two, List.dropWhile_cons_of_pos (by decide)]
theorem trim_sp' (l : List UInt8) : trimL (l ++ [32]) = trimL l := by
  rw [trimL, trimL, Lib.trimS, Lib.trimS, Lib.trimRightS, Lib.trimRightS, List.reverse_append]
  rfl
theorem trim_nil_all (l : List UInt8) (h : trimL l = []) : ∀ b ∈ l, blk b = true := by
  rw [trimL_two, List.reverse_eq_nil_iff] at h
  have a1 : ∀ m : List UInt8, m.dropWhile blk = [] → ∀ b ∈ m, blk b = true := by
    intro m
    induction m with
    | nil => intro _ b hb; cases hb
    | cons c t ih =>
      intro hm b hb
      by_cases hc : blk c = true
      · rw [List.dropWhile_cons_of_pos hc] at hm
        rcases List.mem_cons.1 hb with rfl | hb
        · exact hc
        · exact ih hm b hb
      · rw [List.dropWhile_cons_of_neg hc] at hm; cases hm
  have h2 := a1 _ h
  have h3 : l.dropWhile blk = [] := by
    cases hd : l.dropWhile blk with
    | nil => rfl
    | cons c t =>
      rw [hd] at h2
      have hc := h2 c (by simp)
      have := List.head?_dropWhile_not blk l
      rw [hd] at this
      have t2 : blk c = false := this
      rw [t2] at hc
      cases hc
  exact a1 l h3
theorem blk_hex (c : Int) (b : UInt8) (h : b ∈ hexT c) : blk b = false := by
  have := hexT_mem c b h
  have e : ∀ q : UInt8, q.toNat < 48 → (b == q) = false := fun q hq => beq_eq_false_iff_ne.2 (fun e => by rw [e] at this; omega)
  simp [List.contains_cons, blk, e 32 (by decide), e 9 (by decide), e 13 (by decide)] at *
  refine ⟨?_, ?_, ?_⟩ <;> (intro e; rw [e] at this; simp at this)
theorem cutAt_joinR (c : UInt8) (a b : List UInt8) : cutAt c (a ++ c :: b) = cutAt c a ++ cutAt c b := by
  induction a with
  | nil => rw [List.nil_append, cutAt_hit]; rfl
  | cons x a ih =>
    rw [List.cons_append]
    by_cases h : x = c
    · subst h
      rw [cutAt_hit, cutAt_hit, ih]; rfl
    · rw [cutAt_miss c x _ h, cutAt_miss c x _ h, ih]
      cases hc : cutAt c a with
      | nil => exact absurd hc (cutAt_ne c a)
      | cons => rfl
theorem cut_none59 {c : UInt8} (l : List UInt8) (h : c ∉ l) : cutAt c l = [l] := by
  induction l with
  | nil => rfl
  | cons x t ih =>
    rw [cutAt_miss c x t (fun e => h (by rw [e]; simp)), ih (fun e => h (by simp [e]))]
    rfl
theorem parts_fields (tail : List UInt8) (ht : tail = [] ∨ tail = [32]) : ∀ (fs : List ByteArray) (s : List UInt8), 59 ∉ s → (∀ f ∈ fs, 59 ∉ f.data.toList) →
    (cutAt 59 (s ++ fieldsT fs ++ tail)).map trimL = trimL s :: fs.map fun f => trimL f.data.toList
  | [], s, hs, _ => by
    have h59 : 59 ∉ s ++ fieldsT [] ++ tail := by rcases ht with rfl | rfl <;> simp [fieldsT, hs]
    rw [cut_none59 _ h59]
    rcases ht with rfl | rfl
    · simp [fieldsT]
    · simp only [fieldsT, List.flatMap_nil, List.append_nil, List.map_cons, List.map_nil]
      rw [trim_sp']
  | f :: fs, s, hs, hf => by
    have ih := parts_fields tail ht fs (32 :: f.data.toList) (by have := hf f (by simp); simpa using this) (fun g hg => hf g (by simp [hg]))
    have e : s ++ fieldsT (f :: fs) ++ tail = s ++ 59 :: ((32 :: f.data.toList) ++ fieldsT fs ++ tail) := by unfold fieldsT; simp
    rw [e, cutAt_joinR, cut_none59 s hs, List.map_append, ih, trim_sp]
    rfl
/-! ### a line that Text writes is read -/
def bodyT (x : S35) : List UInt8 := spanT x ++ fieldsT x.f3 ++ noteT x.f4
theorem lineT_body (x : S35) : lineT x = bodyT x ++ [10] := rfl
theorem okN_parts {l : List UInt8} (h : okN l = true) : 10 ∉ l ∧ trimL l = l := by
  unfold okN at h
  simp only [Bool.and_eq_true, Bool.not_eq_true', beq_iff_eq] at h
  exact ⟨by simpa using h.1, h.2.symm⟩
theorem okF_parts {l : List UInt8} (h : okF l = true) : 10 ∉ l ∧ 59 ∉ l ∧ 35 ∉ l ∧ trimL l = l := by
  unfold okF at h
  simp only [Bool.and_eq_true, Bool.not_eq_true'] at h
  obtain ⟨h1, h2⟩ := okN_parts h.1.1
  exact ⟨h1, by simpa using h.1.2, by simpa using h.2, h2⟩
theorem check_parts {x : S35} (h : checkX x = 0) : spanOk x.f1 x.f2 = true ∧ okN x.f4.data.toList = true ∧ ∀ f ∈ x.f3, okF f.data.toList = true := by
  unfold checkX checkS at h
  by_cases h1 : spanOk x.f1 x.f2 = true
  · rw [if_pos h1] at h
    by_cases h2 : okN x.f4.data.toList = true
    · rw [if_pos h2] at h
      by_cases h3 : x.f3.all okFB = true
      · exact ⟨h1, h2, fun f hf => List.all_eq_true.1 h3 f hf⟩
      · rw [if_neg h3] at h; cases h
    · rw [if_neg h2] at h; cases h
  · rw [if_neg h1] at h; cases h
theorem span_mem (x : S35) (b : UInt8) (h : b ∈ spanT x) : b = 46 ∨ b ∈ hexT x.f1 ∨ b ∈ hexT x.f2 := by
  unfold spanT at h
  rcases List.mem_append.1 h with h | h
  · exact Or.inr (Or.inl h)
  · split at h
    · cases h
    · simp only [List.cons_append, List.nil_append, List.mem_cons] at h
      rcases h with h | h | h
      · exact Or.inl h
      · exact Or.inl h
      · exact Or.inr (Or.inr h)
theorem span_no (x : S35) (b : UInt8) (hb : b.toNat < 46 ∨ b.toNat = 59) : b ∉ spanT x := fun h => by
  rcases span_mem x b h with rfl | h | h
  · rcases hb with hb | hb
    · exact absurd hb (by decide)
    · exact absurd hb (by decide)
  · exact hexT_no _ b (by omega) h
  · exact hexT_no _ b (by omega) h
theorem fields_no (b : UInt8) (h1 : b ≠ 59) (h2 : b ≠ 32) : ∀ fs : List ByteArray, (∀ f ∈ fs, b ∉ f.data.toList) → b ∉ fieldsT fs
  | [], _, h => by simp [fieldsT] at h
  | f :: r, hf, h => by
    unfold fieldsT at h
    rw [List.flatMap_cons] at h
    rcases List.mem_append.1 h with h | h
    · simp only [List.cons_append, List.nil_append, List.mem_cons] at h
      rcases h with h | h | h
      · exact h1 h
      · exact h2 h
      · exact hf f (by simp) h
    · exact fields_no b h1 h2 r (fun g hg => hf g (by simp [hg])) h
theorem lineR_map (n : Nat) (l : List UInt8) : lineR n l = if trimL (dataL l) = [] then some [] else match (cutAt 59 (dataL l)).map trimL with
    | [] => none
    | p :: r => if (spanL p).2.2 = true then some [⟨(n : Int), (spanL p).1, (spanL p).2.1, r.map ofL, ofL (noteL l)⟩] else none := by
  unfold lineR
  split
  · rfl
  · cases cutAt 59 (dataL l) with
    | nil => rfl
    | cons p r => simp only [List.map_cons, List.map_map]; rfl
theorem body_data (x : S35) (h : checkX x = 0) : ∃ tail : List UInt8, (tail = [] ∨ tail = [32]) ∧ dataL (bodyT x) = spanT x ++ fieldsT x.f3 ++ tail ∧ noteL (bodyT x) = x.f4.data.toList := by
  obtain ⟨h1, h2, h3⟩ := check_parts h
  obtain ⟨n1, n2⟩ := okN_parts h2
  have f35 : 35 ∉ fieldsT x.f3 := fields_no 35 (by decide) (by decide) _ (fun f hf => (okF_parts (h3 f hf)).2.2.1)
  have s35 : 35 ∉ spanT x := span_no x 35 (by decide)
  unfold bodyT noteT dataL noteL
  by_cases hn : x.f4.data.toList = []
  · refine ⟨[], Or.inl rfl, ?_⟩
    rw [if_pos hn, List.append_nil]
    rcases cut_at 35 (spanT x ++ fieldsT x.f3) with ⟨e, -⟩ | ⟨a, b, e, -, -⟩
    · rw [e, hn]; exact ⟨rfl, rfl⟩
    · exact absurd (show (35 : UInt8) ∈ spanT x ++ fieldsT x.f3 by rw [e]; simp) (by simp [s35, f35])
  · refine ⟨[32], Or.inr rfl, ?_⟩
    rw [if_neg hn]
    have e0 : spanT x ++ fieldsT x.f3 ++ ([32, 35, 32] ++ x.f4.data.toList) = (spanT x ++ fieldsT x.f3 ++ [32]) ++ 35 :: (32 :: x.f4.data.toList) := by simp
    rcases cut_at 35 (spanT x ++ fieldsT x.f3 ++ ([32, 35, 32] ++ x.f4.data.toList)) with ⟨-, e⟩ | ⟨a, b, e, e1, e2⟩
    · exact absurd (by rw [e0]; simp) e
    · have hu := cut_uniq (e.symm.trans e0) e1 (by simp [s35, f35])
      rw [e2, hu.1, hu.2]
      exact ⟨rfl, by rw [trim_sp, n2]⟩
theorem body_line (n : Nat) (x : S35) (h : checkX x = 0) : lineR n (bodyT x) = some [⟨(n : Int), x.f1, x.f2, x.f3, x.f4⟩] := by
  obtain ⟨tail, ht, hd, hn⟩ := body_data x h
  obtain ⟨h1, h2, h3⟩ := check_parts h
  have hv : 0 ≤ x.f1 ∧ x.f1 ≤ 1114111 := by
    unfold spanOk at h1
    simp only [Bool.and_eq_true, decide_eq_true_eq] at h1
    exact h1.1.1
  have hne : ¬ trimL (spanT x ++ fieldsT x.f3 ++ tail) = [] := by
    intro e
    have hall := trim_nil_all _ e
    cases hh : hexT x.f1 with
    | nil => exact hexT_ne x.f1 hv hh
    | cons b r =>
      have hb : b ∈ hexT x.f1 := by rw [hh]; simp
      have := hall b (by unfold spanT; simp [hb])
      rw [blk_hex x.f1 b hb] at this
      cases this
  have hc := parts_fields tail ht x.f3 (spanT x) (span_no x 59 (by decide)) (fun f hf => (okF_parts (h3 f hf)).2.1)
  have hs : trimL (spanT x) = spanT x := trim_clean _ fun b hb => by
    rcases span_mem x b hb with rfl | hb | hb
    · decide
    · exact blk_hex _ b hb
    · exact blk_hex _ b hb
  have hf : (x.f3.map fun f => trimL f.data.toList).map ofL = x.f3 := by
    rw [List.map_map]
    refine (List.map_congr_left fun f hf => ?_).trans (List.map_id _)
    show ofL (trimL f.data.toList) = f
    rw [(okF_parts (h3 f hf)).2.2.2, ofL_eq]
  rw [lineR_map, hd, if_neg hne, hc, hs]
  dsimp only
  rw [span_of x h1, if_pos rfl, hf, hn, ofL_eq]
theorem body_free (x : S35) (h : checkX x = 0) : 10 ∉ bodyT x := by
  obtain ⟨h1, h2, h3⟩ := check_parts h
  have f10 : 10 ∉ fieldsT x.f3 := fields_no 10 (by decide) (by decide) _ (fun f hf => (okF_parts (h3 f hf)).1)
  have s10 : 10 ∉ spanT x := span_no x 10 (by decide)
  have n10 := (okN_parts h2).1
  unfold bodyT noteT
  split
  · simp [f10, s10]
  · rw [List.mem_append, List.mem_append, List.mem_append]
    rintro ((h | h) | (h | h))
    · exact s10 h
    · exact f10 h
    · exact absurd h (by decide)
    · exact n10 h
def renum : Nat → List S35 → List S35
  | _, [] => []
  | n, x :: r => ⟨(n : Int), x.f1, x.f2, x.f3, x.f4⟩ :: renum (n + 1) r
theorem renum_length : ∀ (n : Nat) (l : List S35), (renum n l).length = l.length
  | _, [] => rfl
  | n, x :: r => by rw [renum, List.length_cons, List.length_cons, renum_length (n + 1) r]
theorem renum_at : ∀ (p : List S35) (n : Nat) (x : S35) (r : List S35), (renum n (p ++ x :: r))[p.length]? = some ⟨((n + p.length : Nat) : Int), x.f1, x.f2, x.f3, x.f4⟩
  | [], n, x, r => rfl
  | y :: p, n, x, r => by
    rw [List.cons_append, renum, List.length_cons, List.getElem?_cons_succ, renum_at p (n + 1) x r, show n + 1 + p.length = n + (p.length + 1) by omega]
theorem cut_text : ∀ l0 : List S35, (∀ x ∈ l0, checkX x = 0) → cutAt 10 (l0.flatMap lineT) = l0.map bodyT ++ [[]]
  | [], _ => rfl
  | x :: r, h => by
    rw [List.flatMap_cons, lineT_body, List.append_assoc, List.singleton_append, cutAt_joinR, cut_none59 _ (body_free x (h x (by simp))), cut_text r (fun y hy => h y (by simp [hy]))]
    rfl
theorem parses_text : ∀ (l0 : List S35) (n : Nat) (acc : List S35), (∀ x ∈ l0, checkX x = 0) → parsesL (numL n (l0.map bodyT ++ [[]])) acc = (acc ++ renum n l0, 0, 0)
  | [], n, acc, _ => by
    have e : lineR n [] = some [] := by unfold lineR; rw [if_pos (by decide +kernel)]
    simp only [List.map_nil, List.nil_append, numL, parsesL, e, renum]
  | x :: r, n, acc, h => by
    have ih := parses_text r (n + 1) (acc ++ [⟨(n : Int), x.f1, x.f2, x.f3, x.f4⟩]) (fun y hy => h y (by simp [hy]))
    simp only [List.map_cons, List.cons_append, numL, parsesL, body_line n x (h x (by simp)), ih, renum, List.append_assoc, List.singleton_append, List.nil_append, List.cons_append]
theorem errT_zero : ∀ l : List S35, errT l = 0 → ∀ x ∈ l, checkX x = 0
  | [], _, x, hx => by cases hx
  | y :: r, h, x, hx => by
    rw [errT] at h
    by_cases hy : checkX y = 0
    · rw [if_pos hy] at h
      rcases List.mem_cons.1 hx with rfl | hx
      · exact hy
      · exact errT_zero r h x hx
    · rw [if_neg hy] at h; exact absurd h hy
theorem restores_loop (all : List S35) (hl : all.length ≤ 40) (hs : all.all smallX = true) : ∀ (r p : List S35), all = p ++ r → Ev (fun k => unicodetextlaw09_LinesRestores.l0 k all (renum 1 all) (p.length : Int)) true
  | [], p, h => by
    obtain ⟨KA, hA⟩ := alive_at
    refine ⟨KA + 1, fun k hk => ?_⟩
    obtain ⟨k, rfl⟩ : ∃ m, k = m + 1 := ⟨k - 1, by omega⟩
    show unicodetextlaw09_LinesRestores.l0 (k + 1) all (renum 1 all) (p.length : Int) = some true
    simp only [unicodetextlaw09_LinesRestores.l0]
    rw [if_neg (by rw [h]; simp), hA k (by omega)]
  | x :: r, p, h => by
    have hlt : p.length < all.length := by rw [h]; simp
    have hat : all[p.length]'hlt = x := by simp [h]
    have hlt2 : p.length < (renum 1 all).length := by rw [renum_length]; exact hlt
    have hat2 : (renum 1 all)[p.length]'hlt2 = ⟨((1 + p.length : Nat) : Int), x.f1, x.f2, x.f3, x.f4⟩ := by
      have := renum_at p 1 x r
      rw [← h, List.getElem?_eq_getElem hlt2] at this
      exact Option.some.inj this
    have hx3 := (smallX_parts (List.all_eq_true.1 hs x (by rw [h]; simp))).1
    obtain ⟨K1, g1⟩ := strings_self x.f3 (by omega)
    obtain ⟨K2, g2⟩ := restores_loop all hl hs r (p ++ [x]) (by rw [h]; simp)
    dsimp only at g1 g2
    rw [List.length_append, List.length_singleton] at g2
    refine ⟨K1 + K2 + 1, fun k hk => ?_⟩
    obtain ⟨k, rfl⟩ : ∃ m, k = m + 1 := ⟨k - 1, by omega⟩
    show unicodetextlaw09_LinesRestores.l0 (k + 1) all (renum 1 all) (p.length : Int) = some true
    simp only [unicodetextlaw09_LinesRestores.l0]
    rw [if_pos (by omega), if_pos (by omega), if_pos (by omega), rd_at all _ hlt, hat, rd_at (renum 1 all) _ hlt2, hat2]
    dsimp only
    rw [if_pos (by rw [wrap_succ _ (by omega)]; omega), if_pos rfl, if_pos rfl, if_pos rfl, g1 k (by omega), Option.bind_some, if_pos rfl, wrap_succ _ (by omega), g2 k (by omega)]
theorem LinesRestores_pure (l0 : List S35) : ∃ k, unicodetextlaw09_LinesRestores.f k l0 = some true := by
  obtain ⟨KA, hA⟩ := alive_at
  obtain ⟨K1, g1⟩ := few_ev l0
  dsimp only at g1
  cases hs : smallT l0 with
  | false =>
    rw [hs] at g1
    refine ⟨KA + K1, ?_⟩
    unfold unicodetextlaw09_LinesRestores.f
    rw [g1 _ (by omega), Option.bind_some, if_neg (by decide), hA _ (by omega)]
  | true =>
    rw [hs] at g1
    have hall := hs
    unfold smallT at hall
    simp only [Bool.and_eq_true, decide_eq_true_eq] at hall
    obtain ⟨K2, g2⟩ := restores_loop l0 hall.1 hall.2 l0 [] rfl
    dsimp only at g2
    refine ⟨KA + K1 + K2 + 1, ?_⟩
    unfold unicodetextlaw09_LinesRestores.f
    rw [g1 _ (by omega), Option.bind_some, if_pos rfl]
    unfold lines_Text.f
    rw [if_pos hs, Option.bind_some]
    by_cases he : errT l0 = 0
    · rw [if_pos he, if_pos rfl]
      by_cases hbig : ((ofL (l0.flatMap lineT)).size : Int) > 65536
      · rw [if_pos hbig, hA _ (by omega)]
      · have hz := errT_zero l0 he
        have hp : parseT (l0.flatMap lineT) = (renum 1 l0, 0, 0) := by
          unfold parseT
          rw [if_neg (by rw [ofL_size] at hbig; omega), cut_text l0 hz, parses_text l0 1 [] hz, List.nil_append]
        rw [if_neg hbig, parse_f, Option.bind_some, hp]
        dsimp only
        rw [if_pos (by rw [renum_length])]
        simp only [unicodetextlaw09_LinesRestores.j0]
        rw [if_neg (by decide)]
        exact g2 (KA + K1 + K2) (by omega)
    · rw [if_neg he, if_neg (by exact he), if_pos (ofL_toList []), hA _ (by omega)]

end Go.Proofs.YtljhhnpgpiglfaaDoor.Pr
