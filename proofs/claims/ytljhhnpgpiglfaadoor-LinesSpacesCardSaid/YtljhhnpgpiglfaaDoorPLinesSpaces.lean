/- LinesSpaces: the pure statement. -/
import Derived.Test.YtljhhnpgpiglfaaDoorLShift
import Derived.Test.YtljhhnpgpiglfaaDoorPrx14
namespace Go.Proofs.YtljhhnpgpiglfaaDoor.Pr
open Go.RowKit Go.Proofs.YtljhhnpgpiglfaaDoorW.PrintWords Go.Proofs.YtljhhnpgpiglfaaDoorW.PrintLast Go.Proofs.YtljhhnpgpiglfaaDoorW.PrintMore
set_option linter.unusedVariables false
set_option linter.unusedSimpArgs false

theorem trim_pre (p : List UInt8) : trimL (32 :: 9 :: p) = trimL p := by
  rw [trimL_two, trimL_two, List.dropWhile_cons_of_pos (by decide), List.dropWhile_cons_of_pos (by decide)]
theorem trim_suf (p : List UInt8) : trimL (p ++ [32, 13]) = trimL p := by
  rw [trimL, trimL, Lib.trimS, Lib.trimS, Lib.trimRightS, Lib.trimRightS, List.reverse_append]
  rfl
theorem cut_suf : ∀ a : List UInt8, ∃ init last, cutAt 59 a = init ++ [last] ∧ cutAt 59 (a ++ [32, 13]) = init ++ [last ++ [32, 13]]
  | [] => ⟨[], [], rfl, by decide⟩
  | x :: a => by
    obtain ⟨init, last, h1, h2⟩ := cut_suf a
    rw [List.cons_append]
    by_cases h : x = 59
    · subst h
      rw [cutAt_hit, cutAt_hit, h1, h2]
      exact ⟨[] :: init, last, rfl, rfl⟩
    · rw [cutAt_miss _ _ _ h, cutAt_miss _ _ _ h, h1, h2]
      cases init with
      | nil => exact ⟨[], x :: last, rfl, rfl⟩
      | cons y ys => exact ⟨(x :: y) :: ys, last, rfl, rfl⟩
theorem parts_suf (a : List UInt8) : (cutAt 59 (a ++ [32, 13])).map trimL = (cutAt 59 a).map trimL := by
  obtain ⟨init, last, h1, h2⟩ := cut_suf a
  rw [h1, h2, List.map_append, List.map_append, List.map_singleton, List.map_singleton, trim_suf]
theorem parts_pre (a : List UInt8) : (cutAt 59 (32 :: 9 :: a)).map trimL = (cutAt 59 a).map trimL := by
  rw [cutAt_miss _ _ _ (by decide), cutAt_miss _ _ _ (by decide)]
  cases h : cutAt 59 a with
  | nil => exact absurd h (cutAt_ne _ _)
  | cons p r =>
    show trimL (32 :: 9 :: p) :: r.map trimL = trimL p :: r.map trimL
    rw [trim_pre]
theorem lineR_parts (n : Nat) (l : List UInt8) : lineR n l = if trimL (dataL l) = [] then some [] else match (cutAt 59 (dataL l)).map trimL with
    | [] => none
    | p :: r => if (spanL p).2.2 = true then some [⟨(n : Int), (spanL p).1, (spanL p).2.1, r.map ofL, ofL (noteL l)⟩] else none := by
  unfold lineR
  split
  · rfl
  · cases cutAt 59 (dataL l) with
    | nil => rfl
    | cons p r => simp only [List.map_cons, List.map_map]; rfl

def wideL (q : List UInt8) : List UInt8 := 32 :: 9 :: (q ++ [32, 13])
theorem lineR_wide (n : Nat) (q : List UInt8) : lineR n (wideL q) = lineR n q := by
  rw [lineR_parts, lineR_parts]
  have hd : trimL (dataL (wideL q)) = trimL (dataL q) ∧ (cutAt 59 (dataL (wideL q))).map trimL = (cutAt 59 (dataL q)).map trimL ∧ noteL (wideL q) = noteL q := by
    rcases cut_at 35 q with ⟨h1, h2⟩ | ⟨a, b, h1, h2, h3⟩
    · have hc : Lib.cut (wideL q) [35] = (wideL q, [], false) := by
        rcases cut_at 35 (wideL q) with ⟨h, -⟩ | ⟨a, b, h, -, -⟩
        · exact h
        · exact absurd (show (35 : UInt8) ∈ wideL q by rw [h]; simp) (by unfold wideL; simp [h2])
      unfold dataL noteL
      rw [hc, h1]
      refine ⟨?_, ?_, rfl⟩
      · unfold wideL; rw [trim_pre, trim_suf]
      · unfold wideL; rw [parts_pre, parts_suf]
    · have hc : Lib.cut (wideL q) [35] = (32 :: 9 :: a, b ++ [32, 13], true) := by
        rcases cut_at 35 (wideL q) with ⟨-, h⟩ | ⟨a', b', h, h4, h5⟩
        · exact absurd (by unfold wideL; rw [h1]; simp) h
        · have he : a' = 32 :: 9 :: a ∧ b' = b ++ [32, 13] := by
            refine cut_uniq (h.symm.trans ?_) h4 (by simp [h2])
            unfold wideL
            rw [h1]
            simp
          rw [h5, he.1, he.2]
      unfold dataL noteL
      rw [hc, h3]
      exact ⟨trim_pre a, parts_pre a, trim_suf b⟩
  rw [hd.1, hd.2.1, hd.2.2]
theorem cutAt_free (c : UInt8) : ∀ (l q : List UInt8), q ∈ cutAt c l → c ∉ q
  | [], q, h => by rw [show cutAt c [] = [[]] from rfl, List.mem_singleton] at h; rw [h]; simp
  | b :: t, q, h => by
    by_cases hb : b = c
    · rw [hb, cutAt_hit] at h
      rcases List.mem_cons.1 h with rfl | h
      · simp
      · exact cutAt_free c t q h
    · rw [cutAt_miss _ _ _ hb] at h
      cases hc : cutAt c t with
      | nil => exact absurd hc (cutAt_ne _ _)
      | cons p r =>
        rw [hc, glue_cons] at h
        rcases List.mem_cons.1 h with rfl | h
        · have := cutAt_free c t p (by rw [hc]; simp)
          simp [this, Ne.symm hb]
        · exact cutAt_free c t q (by rw [hc]; simp [h])
theorem cutAt_sum (c : UInt8) : ∀ l : List UInt8, ((cutAt c l).map List.length).sum + (cutAt c l).length = l.length + 1
  | [] => rfl
  | b :: t => by
    have ih := cutAt_sum c t
    by_cases hb : b = c
    · rw [hb, cutAt_hit]
      simp at ih ⊢
      omega
    · rw [cutAt_miss _ _ _ hb]
      cases hc : cutAt c t with
      | nil => exact absurd hc (cutAt_ne _ _)
      | cons p r =>
        rw [hc] at ih
        rw [glue_cons]
        simp at ih ⊢
        omega

def tailW : List (List UInt8) → List UInt8
  | [] => []
  | q :: r => 10 :: (wideL q ++ tailW r)
theorem tailW_len : ∀ r : List (List UInt8), (tailW r).length = (r.map List.length).sum + 5 * r.length
  | [] => rfl
  | q :: r => by simp [tailW, wideL, tailW_len r]; omega
theorem wide_free (q : List UInt8) (h : 10 ∉ q) : 10 ∉ wideL q := by unfold wideL; simp [h]
theorem cut_tail : ∀ (r : List (List UInt8)) (q : List UInt8), (10 ∉ q) → (∀ p ∈ r, 10 ∉ p) → cutAt 10 (wideL q ++ tailW r) = wideL q :: r.map wideL
  | [], q, hq, _ => by rw [tailW, List.append_nil, cutAt_none _ _ (wide_free q hq)]; rfl
  | p :: r, q, hq, hr => by
    rw [tailW, cutAt_join, cut_tail r p (hr p (by simp)) (fun x hx => hr x (by simp [hx])), cutAt_none _ _ (wide_free q hq)]
    rfl
theorem parses_wide : ∀ (n : Nat) (ps : List (List UInt8)) (acc : List S35), parsesL (numL n (ps.map wideL)) acc = parsesL (numL n ps) acc
  | _, [], _ => rfl
  | n, p :: ps, acc => by
    simp only [List.map_cons, numL, parsesL]
    rw [lineR_wide]
    cases lineR n p with
    | none => rfl
    | some ys => exact parses_wide (n + 1) ps (acc ++ ys)

def headW : List UInt8 := [35, 32, 48, 48, 52, 49, 59, 32, 120, 10, 32, 9, 10]
theorem parseT_wide (l : List UInt8) (hl : l.length ≤ 2000) (q : List UInt8) (r : List (List UInt8)) (hc : cutAt 10 l = q :: r) :
    parseT (headW ++ (wideL q ++ tailW r)) = ((parseT l).1.map (shiftS 2), (parseT l).2.1, if (parseT l).2.1 = 0 then (parseT l).2.2 else (parseT l).2.2 + 2) := by
  have hs := cutAt_sum 10 l
  rw [hc] at hs
  simp at hs
  have hlen : (headW ++ (wideL q ++ tailW r)).length ≤ 65536 := by
    simp [headW, wideL, tailW_len]
    omega
  have hfr := cutAt_free 10 l
  rw [hc] at hfr
  unfold parseT
  rw [if_neg (show ¬ 65536 < (headW ++ (wideL q ++ tailW r)).length by omega), if_neg (show ¬ 65536 < l.length by omega)]
  rw [show headW ++ (wideL q ++ tailW r) = [35, 32, 48, 48, 52, 49, 59, 32, 120] ++ 10 :: ([32, 9] ++ 10 :: (wideL q ++ tailW r)) from rfl, cutAt_join, cutAt_join, cut_tail r q (hfr q (by simp)) (fun p hp => hfr p (by simp [hp]))]
  rw [show cutAt 10 ([35, 32, 48, 48, 52, 49, 59, 32, 120] : List UInt8) ++ (cutAt 10 ([32, 9] : List UInt8) ++ wideL q :: r.map wideL) = [35, 32, 48, 48, 52, 49, 59, 32, 120] :: [32, 9] :: (q :: r).map wideL from rfl, hc]
  have e1 : lineR 1 [35, 32, 48, 48, 52, 49, 59, 32, 120] = some [] := by kernel_rfl
  have e2 : lineR (1 + 1) [32, 9] = some [] := by kernel_rfl
  have h := parses_shift 2 1 (q :: r) []
  rw [List.map_nil] at h
  rw [numL, numL, parsesL, e1]
  dsimp only
  rw [parsesL, e2]
  dsimp only
  rw [parses_wide]
  exact h

theorem spaces_tail (R : Bool) (x0 : ByteArray) (ps : List (List UInt8)) (hm : ∀ q ∈ ps, q.length ≤ 2000) (hn : ps.length ≤ 2001) : ∀ (r p : List (List UInt8)) (acc : List UInt8), ps = p ++ r → p ≠ [] → acc.length ≤ 10000 * (p.length + 1) →
    Ev (fun k => unicodetextlaw09_LinesSpaces.l0 k x0 (ofL (acc ++ tailW r)) (ps.map ofL) (ps.length : Int)) R →
    Ev (fun k => unicodetextlaw09_LinesSpaces.l0 k x0 (ofL acc) (ps.map ofL) (p.length : Int)) R
  | [], p, acc, h, hp, hacc, hR => by
    rw [tailW, List.append_nil] at hR
    rw [h, List.append_nil] at hR ⊢
    exact hR
  | q :: r, p, acc, h, hp, hacc, hR => by
    have hlen : p.length + (r.length + 1) = ps.length := by rw [h]; simp
    have hq : ps[p.length]'(by omega) = q := by simp [h]
    have hql := hm q (by rw [h]; simp)
    have hp0 : 0 < p.length := by
      cases p with
      | nil => exact absurd rfl hp
      | cons => simp
    have ih := spaces_tail R x0 ps hm hn r (p ++ [q]) (acc ++ 10 :: wideL q) (by rw [h]; simp) (by simp) (by simp [wideL]; omega) (by
      rw [tailW] at hR
      rw [List.append_assoc]
      exact hR)
    rw [List.length_append, List.length_singleton] at ih
    refine Ev.step (fun k => ?_) ih
    simp only [unicodetextlaw09_LinesSpaces.l0]
    rw [if_pos (by rw [List.length_map]; omega), if_pos (by omega), if_pos (by rw [ofL_size]; omega), if_pos (by omega), rdOf_at ps _ (by omega), hq, if_pos (by rw [ofL_size]; omega), wrap_succ _ (by omega),
      show ((⟨#[32, 9]⟩ : ByteArray) ++ ofL q) = ofL (32 :: 9 :: q) from ofL_append [32, 9] q, if_pos (by rw [ofL_size]; simp; omega),
      show ofL (32 :: 9 :: q) ++ (⟨#[32, 13]⟩ : ByteArray) = ofL (wideL q) from ofL_append (32 :: 9 :: q) [32, 13], show ofL acc ++ (⟨#[10]⟩ : ByteArray) = ofL (acc ++ [10]) from ofL_append acc [10],
      if_pos (by rw [ofL_size, ofL_size]; simp [wideL]; omega), ofL_append, List.append_assoc, List.singleton_append]

theorem LinesSpaces_pure : unicodetextlaw09_LinesSpaces.Pure := by
  intro s _
  obtain ⟨KA, hA⟩ := alive_at
  obtain ⟨l, rfl, hl⟩ := ofL_of s
  by_cases h : ((ofL l).size : Int) > 2000
  · refine ⟨KA, ?_⟩
    unfold unicodetextlaw09_LinesSpaces.f
    rw [if_pos h, hA KA (by omega)]
  · have hle : l.length ≤ 2000 := by rw [ofL_size] at h; omega
    obtain ⟨hz, hf⟩ := parseT_fields l (by omega)
    have bd := parseT_bd l (by omega)
    obtain ⟨q, r, hc⟩ : ∃ q r, cutAt 10 l = q :: r := by
      cases hc : cutAt 10 l with
      | nil => exact absurd hc (cutAt_ne _ _)
      | cons q r => exact ⟨q, r, rfl⟩
    have hw := parseT_wide l hle q r hc
    have hm : ∀ p ∈ q :: r, p.length ≤ 2000 := fun p hp => Nat.le_trans (cutAt_mem 10 l p (by rw [hc]; exact hp)) hle
    have hn : (q :: r).length ≤ 2001 := by have := cutAt_len 10 l; rw [hc] at this; omega
    obtain ⟨K1, h1⟩ := ref_split 10 l (by omega)
    obtain ⟨K2, h2⟩ := same_shift 2 (by decide) (by decide) (parseT l).1 (by omega) (fun x hx => Nat.le_trans (hf x hx) (by omega))
    dsimp only at h1 h2
    have hend : Ev (fun k => unicodetextlaw09_LinesSpaces.l0 k (ofL l) (ofL (headW ++ (wideL q ++ tailW r))) ((q :: r).map ofL) ((q :: r).length : Int)) true := by
      refine ⟨KA + K2 + 1, fun k hk => ?_⟩
      obtain ⟨k, rfl⟩ : ∃ m, k = m + 1 := ⟨k - 1, by omega⟩
      show unicodetextlaw09_LinesSpaces.l0 (k + 1) (ofL l) (ofL (headW ++ (wideL q ++ tailW r))) ((q :: r).map ofL) ((q :: r).length : Int) = some true
      simp only [unicodetextlaw09_LinesSpaces.l0]
      rw [if_neg (by rw [List.length_map]; omega), parse_f, Option.bind_some, parse_f, Option.bind_some, hw]
      by_cases e0 : (parseT l).2.1 = 0
      · rcases bd with bd | bd
        · rw [if_pos e0, if_pos (by rw [e0]; rw [if_pos rfl, bd.2]; rfl), h2 k (by omega), Option.bind_some, if_pos rfl, hA k (by omega)]
        · exact absurd (bd.1.symm.trans e0) (by decide)
      · rcases bd with bd | bd
        · exact absurd bd.1 e0
        · rw [if_neg e0]
          dsimp only
          rw [if_pos rfl, if_neg e0, wrap_id (by omega) (by omega), if_pos rfl, hA k (by omega)]
    rw [← List.append_assoc] at hend
    obtain ⟨K3, g3⟩ := spaces_tail true (ofL l) (q :: r) hm hn r [q] (headW ++ wideL q) rfl (by simp) (by have := hm q (by simp); simp [headW, wideL]; omega) hend
    dsimp only at g3
    refine ⟨KA + K1 + K3 + 1, ?_⟩
    unfold unicodetextlaw09_LinesSpaces.f
    rw [if_neg h, show (10 : Int) = ((10 : UInt8).toNat : Int) from rfl, h1 _ (by omega), Option.bind_some, hc]
    have hq := hm q (by simp)
    simp only [unicodetextlaw09_LinesSpaces.l0]
    rw [if_pos (by simp), if_neg (by decide), if_pos (by decide), show rdOf ByteArray.empty (List.map ofL (q :: r)) 0 = ofL q from rfl, if_pos (by rw [ofL_size]; omega),
      show ((⟨#[32, 9]⟩ : ByteArray) ++ ofL q) = ofL (32 :: 9 :: q) from ofL_append [32, 9] q, if_pos (by rw [ofL_size]; simp; omega),
      show ofL (32 :: 9 :: q) ++ (⟨#[32, 13]⟩ : ByteArray) = ofL (wideL q) from ofL_append (32 :: 9 :: q) [32, 13], show (⟨#[35, 32, 48, 48, 52, 49, 59, 32, 120, 10, 32, 9, 10]⟩ : ByteArray) = ofL headW from rfl,
      if_pos (by rw [ofL_size, ofL_size]; simp [headW, wideL]; omega), ofL_append]
    have g := g3 (KA + K1 + K3) (by omega)
    rw [List.length_singleton, show ((1 : Nat) : Int) = wrap64 (0 + 1) from (wrap_succ 0 (by omega)).symm] at g
    exact g

end Go.Proofs.YtljhhnpgpiglfaaDoor.Pr
