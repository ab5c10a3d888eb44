/- LinesValid: the pure statement. -/
import Derived.Test.YtljhhnpgpiglfaaDoorLShift
import Derived.Test.YtljhhnpgpiglfaaDoorLCheck
import Derived.Test.YtljhhnpgpiglfaaDoorPrx13
namespace Go.Proofs.YtljhhnpgpiglfaaDoor.Pr
open Go.RowKit Go.Proofs.YtljhhnpgpiglfaaDoorW.PrintWords Go.Proofs.YtljhhnpgpiglfaaDoorW.PrintLast Go.Proofs.YtljhhnpgpiglfaaDoorW.PrintMore
set_option linter.unusedVariables false
set_option linter.unusedSimpArgs false

theorem dw_idem (p : UInt8 → Bool) : ∀ l : List UInt8, (l.dropWhile p).dropWhile p = l.dropWhile p
  | [] => rfl
  | x :: t => by
    by_cases h : p x = true
    · rw [List.dropWhile_cons_of_pos h]; exact dw_idem p t
    · rw [List.dropWhile_cons_of_neg h, List.dropWhile_cons_of_neg h]
theorem trim_idem (l : List UInt8) : trimL (trimL l) = trimL l := by
  have h1 := trimL_two l
  have h2 : trimL l = ((l.reverse.dropWhile blk).reverse).dropWhile blk := rfl
  have e1 : (trimL l).dropWhile blk = trimL l := by rw [h2, dw_idem]
  have e2 : (trimL l).reverse.dropWhile blk = (trimL l).reverse := by rw [h1, List.reverse_reverse, dw_idem]
  rw [trimL_two (trimL l), e1, e2, List.reverse_reverse]
theorem trim_sub (l : List UInt8) (x : UInt8) (h : x ∈ trimL l) : x ∈ l := by
  rw [trimL_two, List.mem_reverse] at h
  have h1 := (List.dropWhile_suffix _).subset h
  rw [List.mem_reverse] at h1
  exact (List.dropWhile_suffix _).subset h1
theorem hex_valid (v : Int) (l : List UInt8) (h : hexOf v = ofL l) (hl : 0 < l.length) : 0 ≤ v ∧ v ≤ 1114111 := by
  unfold hexOf at h
  by_cases hv : 0 ≤ v ∧ v ≤ 1114111
  · exact hv
  · rw [if_neg hv] at h
    have : (ofL l).size = 0 := by rw [← h]; rfl
    rw [ofL_size] at this
    omega
theorem parse_valid (l : List UInt8) (h : (parseS l).2 = 0) : 0 ≤ (parseS l).1 ∧ (parseS l).1 ≤ 1114111 := by
  unfold parseS at h ⊢
  by_cases hl : 4 ≤ l.length ∧ l.length ≤ 6
  · rw [if_pos hl] at h ⊢
    cases hv : valL l 0 with
    | none => rw [hv] at h; simp [readV] at h
    | some v =>
      rw [hv] at h
      rw [readV_some] at h ⊢
      by_cases hx : hexOf v = ofL l
      · rw [if_pos hx]
        exact hex_valid v l hx (by omega)
      · rw [if_neg hx] at h; simp at h
  · rw [if_neg hl] at h; simp at h
theorem span_valid (l : List UInt8) (h : (spanL l).2.2 = true) : spanOk (spanL l).1 (spanL l).2.1 = true := by
  have key : (0 ≤ (spanL l).1 ∧ (spanL l).1 ≤ 1114111) ∧ (0 ≤ (spanL l).2.1 ∧ (spanL l).2.1 ≤ 1114111) ∧ (spanL l).1 ≤ (spanL l).2.1 := by
    unfold spanL at h ⊢
    split
    · next hc =>
      rw [if_pos hc] at h
      by_cases h2 : (parseS (Lib.cut l [46, 46]).2.1).2 = 0
      · rw [if_pos h2] at h ⊢
        by_cases h1 : (parseS (Lib.cut l [46, 46]).1).2 = 0
        · rw [if_pos h1] at h ⊢
          exact ⟨parse_valid _ h1, parse_valid _ h2, of_decide_eq_true h⟩
        · rw [if_neg h1] at h; simp at h
      · rw [if_neg h2] at h; simp at h
    · next hc =>
      rw [if_neg hc] at h
      by_cases h1 : (parseS (Lib.cut l [46, 46]).1).2 = 0
      · rw [if_pos h1] at h ⊢
        exact ⟨parse_valid _ h1, parse_valid _ h1, of_decide_eq_true h⟩
      · rw [if_neg h1] at h; simp at h
  unfold spanOk
  rw [decide_eq_true key.1, decide_eq_true key.2.1, decide_eq_false (by omega)]
  rfl
theorem data_sub (l : List UInt8) : 35 ∉ dataL l ∧ (∀ x ∈ dataL l, x ∈ l) ∧ ∀ x ∈ noteL l, x ∈ l := by
  unfold dataL noteL
  rcases cut_at 35 l with ⟨h1, h2⟩ | ⟨a, b, h1, h2, h3⟩
  · rw [h1]
    exact ⟨h2, fun x h => h, fun x h => by rw [show trimL [] = [] from rfl] at h; cases h⟩
  · rw [h3]
    refine ⟨h2, fun x h => by rw [h1]; simp at h ⊢; exact Or.inl h, fun x h => ?_⟩
    have := trim_sub b x h
    rw [h1]
    simp [this]
theorem cutAt_sub (c : UInt8) : ∀ (l q : List UInt8), q ∈ cutAt c l → ∀ x ∈ q, x ∈ l
  | [], q, h, x, hx => by rw [show cutAt c [] = [[]] from rfl, List.mem_singleton] at h; rw [h] at hx; exact hx
  | b :: t, q, h, x, hx => by
    by_cases hb : b = c
    · rw [hb, cutAt_hit] at h
      rcases List.mem_cons.1 h with rfl | h
      · cases hx
      · exact List.mem_cons_of_mem _ (cutAt_sub c t q h x hx)
    · rw [cutAt_miss _ _ _ hb] at h
      cases hc : cutAt c t with
      | nil => exact absurd hc (cutAt_ne _ _)
      | cons p r =>
        rw [hc, glue_cons] at h
        rcases List.mem_cons.1 h with rfl | h
        · rcases List.mem_append.1 hx with hx | hx
          · rw [List.mem_singleton.1 hx]; simp
          · exact List.mem_cons_of_mem _ (cutAt_sub c t p (by rw [hc]; simp) x hx)
        · exact List.mem_cons_of_mem _ (cutAt_sub c t q (by rw [hc]; simp [h]) x hx)
theorem cutAt_clean (c : UInt8) : ∀ (l q : List UInt8), q ∈ cutAt c l → c ∉ q
  | [], q, h => by rw [show cutAt c [] = [[]] from rfl, List.mem_singleton] at h; rw [h]; simp
  | b :: t, q, h => by
    by_cases hb : b = c
    · rw [hb, cutAt_hit] at h
      rcases List.mem_cons.1 h with rfl | h
      · simp
      · exact cutAt_clean c t q h
    · rw [cutAt_miss _ _ _ hb] at h
      cases hc : cutAt c t with
      | nil => exact absurd hc (cutAt_ne _ _)
      | cons p r =>
        rw [hc, glue_cons] at h
        rcases List.mem_cons.1 h with rfl | h
        · have := cutAt_clean c t p (by rw [hc]; simp)
          simp [this, Ne.symm hb]
        · exact cutAt_clean c t q (by rw [hc]; simp [h])
theorem okN_of (l : List UInt8) (h1 : 10 ∉ l) (h2 : trimL l = l) : okN l = true := by
  unfold okN
  simp [h1, h2]
theorem line_check (n : Nat) (l : List UInt8) (hl : 10 ∉ l) (ys : List S35) (h : lineR n l = some ys) (z : S35) (hz : z ∈ ys) : checkS z.f1 z.f2 z.f3 z.f4 = 0 := by
  obtain ⟨p, r, hc, -, hok, rfl⟩ := lineR_mem n l ys h z hz
  obtain ⟨d1, d2, d3⟩ := data_sub l
  have hcl := cutAt_clean 59 (dataL l)
  have hcs := cutAt_sub 59 (dataL l)
  rw [hc] at hcl hcs
  unfold checkS
  dsimp only
  have e1 : okN (ofL (noteL l)).data.toList = true := by rw [ofL_list]; exact okN_of _ (fun hx => hl (d3 _ hx)) (by unfold noteL; exact trim_idem _)
  rw [if_pos (span_valid _ hok), if_pos e1, if_pos]
  rw [List.all_eq_true]
  intro f hf
  obtain ⟨q, hq, rfl⟩ := List.mem_map.1 hf
  have hq' : q ∈ p :: r := List.mem_cons_of_mem _ hq
  unfold okFB okF
  rw [ofL_list, okN_of _ (fun hx => hl (d2 _ (hcs q hq' _ (trim_sub q _ hx)))) (trim_idem q)]
  have e59 : 59 ∉ trimL q := fun hx => hcl q hq' (trim_sub q _ hx)
  have e35 : 35 ∉ trimL q := fun hx => d1 (hcs q hq' _ (trim_sub q _ hx))
  simp [e59, e35]

theorem valid_loop (l : List UInt8) (hl : l.length ≤ 2000) (all : List S35) (hb : ∀ z ∈ all, z.f3.length ≤ 1000000 ∧ (∀ f ∈ z.f3, f.size ≤ 1000000) ∧ z.f4.size ≤ 1000000) (ha : all.length ≤ 1000000) :
    ∀ (ps : List (List UInt8)) (n : Nat) (pz zs : List S35) (last : Int), (∀ p ∈ ps, 10 ∉ p) → all = pz ++ zs → accL (numL n ps) = some zs → last < (n : Int) → n + ps.length = (cutAt 10 l).length + 1 →
    Ev (fun k => unicodetextlaw09_LinesValid.l0 k (ofL l) all last (pz.length : Int)) true
  | [], n, pz, zs, last, hp, h, hz, hlast, hn => by
    cases hz
    obtain ⟨KA, hA⟩ := alive_at
    obtain ⟨K1, h1⟩ := ref_split 10 l (by omega)
    dsimp only at h1
    refine ⟨KA + K1 + 1, fun k hk => ?_⟩
    obtain ⟨k, rfl⟩ : ∃ m, k = m + 1 := ⟨k - 1, by omega⟩
    show unicodetextlaw09_LinesValid.l0 (k + 1) (ofL l) all last (pz.length : Int) = some true
    simp only [unicodetextlaw09_LinesValid.l0]
    simp only [List.length_nil, Nat.add_zero] at hn
    rw [if_neg (by rw [h]; simp), show (10 : Int) = ((10 : UInt8).toNat : Int) from rfl, h1 k (by omega), Option.bind_some, if_pos (by rw [List.length_map]; omega), hA k (by omega)]
  | p :: ps, n, pz, zs, last, hp, h, hz, hlast, hn => by
    simp only [numL, accL] at hz
    cases hx : lineR n p with
    | none => rw [hx] at hz; cases hz
    | some ys =>
      rw [hx, Option.bind_some] at hz
      cases hr : accL (numL (n + 1) ps) with
      | none => rw [hr] at hz; cases hz
      | some us =>
        rw [hr] at hz
        cases hz
        simp only [List.length_cons] at hn
        have hlen := lineR_len _ _ _ hx
        cases ys with
        | nil => exact valid_loop l hl all hb ha ps (n + 1) pz us last (fun q hq => hp q (by simp [hq])) h hr (by omega) (by omega)
        | cons z ys =>
          have : ys = [] := by cases ys with | nil => rfl | cons => simp at hlen
          subst this
          have hzero := line_check n p (hp p (by simp)) [z] hx z (by simp)
          have hza : z ∈ all := by rw [h]; simp
          obtain ⟨b1, b2, b3⟩ := hb z hza
          have hz0 : z.f0 = (n : Int) := by
            obtain ⟨_, _, -, -, -, e⟩ := lineR_mem n p _ hx z (by simp)
            rw [e]
          have hlt : pz.length < all.length := by rw [h]; simp
          have hat : all[pz.length]'hlt = z := by simp [h]
          have ih := valid_loop l hl all hb ha ps (n + 1) (pz ++ [z]) us (n : Int) (fun q hq => hp q (by simp [hq])) (by rw [h]; simp) hr (by omega) (by omega)
          obtain ⟨K1, g1⟩ := refc_ev z.f0 z.f1 z.f2 z.f3 z.f4 b1 b2 b3
          obtain ⟨K2, g2⟩ := linec_ev z.f0 z.f1 z.f2 z.f3 z.f4 b1 b2 b3
          obtain ⟨K3, g3⟩ := ih
          rw [hzero] at g1 g2
          dsimp only at g1 g2 g3
          rw [List.length_append, List.length_singleton] at g3
          refine ⟨K1 + K2 + K3 + 1, fun k hk => ?_⟩
          obtain ⟨k, rfl⟩ : ∃ m, k = m + 1 := ⟨k - 1, by omega⟩
          show unicodetextlaw09_LinesValid.l0 (k + 1) (ofL l) all last (pz.length : Int) = some true
          simp only [unicodetextlaw09_LinesValid.l0]
          rw [if_pos (by omega), if_pos (by omega), rd_at all _ hlt, hat, g1 k (by omega), Option.bind_some, if_pos rfl, g2 k (by omega), Option.bind_some, if_pos rfl, if_neg (by omega), wrap_succ _ (by omega), hz0]
          exact g3 k (by omega)

theorem parsed_small (l : List UInt8) (hl : l.length ≤ 65536) (zs : List S35) (h : accL (numL 1 (cutAt 10 l)) = some zs) (z : S35) (hz : z ∈ zs) :
    z.f3.length ≤ 1000000 ∧ (∀ f ∈ z.f3, f.size ≤ 1000000) ∧ z.f4.size ≤ 1000000 := by
  refine ⟨Nat.le_trans (acc_fields l 1 zs h z hz) (by omega), ?_⟩
  obtain ⟨x, hx, ys, h1, h2⟩ := acc_mem _ _ h z hz
  have hxl := cutAt_mem 10 l x.2 (numL_mem 1 _ x hx).1
  obtain ⟨p, r, hc, -, -, rfl⟩ := lineR_mem _ _ _ h1 z h2
  have hd := data_len x.2
  refine ⟨fun f hf => ?_, ?_⟩
  · obtain ⟨q, hq, rfl⟩ := List.mem_map.1 hf
    have h3 := cutAt_mem 59 (dataL x.2) q (by rw [hc]; exact List.mem_cons_of_mem _ hq)
    have h4 := trimL_len q
    rw [ofL_size]
    omega
  · dsimp only
    rw [ofL_size]
    unfold noteL
    have h4 := trimL_len (Lib.cut x.2 [35]).2.1
    rcases cut_at 35 x.2 with ⟨h5, -⟩ | ⟨a, b, h5, -, h6⟩
    · rw [h5, show trimL [] = [] from rfl]; simp
    · rw [h6] at h4 ⊢
      have : x.2.length = a.length + (b.length + 1) := by rw [h5]; simp
      dsimp only at h4 ⊢
      omega

theorem LinesValid_pure : unicodetextlaw09_LinesValid.Pure := by
  intro s _
  obtain ⟨KA, hA⟩ := alive_at
  obtain ⟨l, rfl, hl⟩ := ofL_of s
  by_cases h : ((ofL l).size : Int) > 2000
  · refine ⟨KA, ?_⟩
    unfold unicodetextlaw09_LinesValid.f
    rw [if_pos h, hA KA (by omega)]
  · have hle : l.length ≤ 2000 := by rw [ofL_size] at h; omega
    have hps : parseT l = parsesL (numL 1 (cutAt 10 l)) [] := by unfold parseT; rw [if_neg (by omega)]
    rcases parses_cases (numL 1 (cutAt 10 l)) [] with ⟨zs, h1, h2⟩ | ⟨-, x, h1, -, h2⟩
    · have hz := acc_len _ _ h1
      have hc := cutAt_len 10 l
      rw [numL_length] at hz
      obtain ⟨K, g⟩ := valid_loop l hle zs (parsed_small l (by omega) zs h1) (by omega) (cutAt 10 l) 1 [] zs 0 (cutAt_clean 10 l) rfl h1 (by decide) (by omega)
      refine ⟨K, ?_⟩
      unfold unicodetextlaw09_LinesValid.f
      rw [if_neg h, parse_f, Option.bind_some, hps, h2, if_pos rfl]
      exact g K (Nat.le_refl _)
    · have hx := numL_mem 1 _ x h1
      obtain ⟨K1, g1⟩ := ref_split 10 l (by omega)
      dsimp only at g1
      refine ⟨KA + K1, ?_⟩
      unfold unicodetextlaw09_LinesValid.f
      rw [if_neg h, parse_f, Option.bind_some, hps, h2, if_neg (show ¬ ((3 : Int) = 0) by decide), if_pos (show (([] : List S35).length : Int) = 0 from rfl), if_pos (show ((3 : Int) = 3) from rfl), if_pos (by dsimp only; omega), show (10 : Int) = ((10 : UInt8).toNat : Int) from rfl, g1 _ (by omega), Option.bind_some, if_pos (by rw [List.length_map]; dsimp only; omega), hA _ (by omega)]

end Go.Proofs.YtljhhnpgpiglfaaDoor.Pr
