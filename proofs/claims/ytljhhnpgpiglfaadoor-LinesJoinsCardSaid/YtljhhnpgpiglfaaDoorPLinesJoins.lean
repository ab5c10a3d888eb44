/- LinesJoins: the pure statement. -/
import Derived.Test.YtljhhnpgpiglfaaDoorLAlive
import Derived.Test.YtljhhnpgpiglfaaDoorPrx15
namespace Go.Proofs.YtljhhnpgpiglfaaDoor.Pr
open Go.RowKit Go.Proofs.YtljhhnpgpiglfaaDoorW.PrintWords Go.Proofs.YtljhhnpgpiglfaaDoorW.PrintLast Go.Proofs.YtljhhnpgpiglfaaDoorW.PrintMore
set_option linter.unusedVariables false
set_option linter.unusedSimpArgs false

theorem cutAt_join (c : UInt8) : ∀ (a b : List UInt8), cutAt c (a ++ c :: b) = cutAt c a ++ cutAt c b
  | [], b => by rw [List.nil_append, cutAt_hit]; rfl
  | x :: a, b => by
    have ih := cutAt_join c a b
    rw [List.cons_append]
    by_cases h : x = c
    · subst h
      rw [cutAt_hit, cutAt_hit, ih]; rfl
    · rw [cutAt_miss c x _ h, cutAt_miss c x _ h, ih]
      cases hc : cutAt c a with
      | nil => exact absurd hc (cutAt_ne c a)
      | cons => rfl
theorem numL_append : ∀ (n : Nat) (p q : List (List UInt8)), numL n (p ++ q) = numL n p ++ numL (n + p.length) q
  | n, [], q => rfl
  | n, x :: p, q => by
    rw [List.cons_append, numL, numL, numL_append (n + 1) p q, List.length_cons, show n + 1 + p.length = n + (p.length + 1) by omega]
    rfl
theorem lineR_shift (n m : Nat) (l : List UInt8) : lineR (n + m) l = (lineR n l).map fun ys => ys.map (shiftS (m : Int)) := by
  unfold lineR
  split
  · rfl
  · split
    · rfl
    · split
      · simp [shiftS]
      · rfl
theorem accL_shift (m : Nat) : ∀ (n : Nat) (ps : List (List UInt8)), accL (numL (n + m) ps) = (accL (numL n ps)).map fun ys => ys.map (shiftS (m : Int))
  | n, [] => rfl
  | n, p :: ps => by
    simp only [numL, accL]
    rw [lineR_shift, show n + m + 1 = (n + 1) + m by omega, accL_shift m (n + 1) ps]
    cases lineR n p with
    | none => rfl
    | some ys => cases accL (numL (n + 1) ps) <;> simp
theorem parses_append : ∀ (xs ys : List (Nat × List UInt8)) (acc : List S35), parsesL (xs ++ ys) acc = if (parsesL xs acc).2.1 = 0 then parsesL ys (parsesL xs acc).1 else parsesL xs acc
  | [], ys, acc => by simp [parsesL]
  | x :: xs, ys, acc => by
    rw [List.cons_append]
    cases hx : lineR x.1 x.2 with
    | none => simp only [parsesL, hx]; rw [if_neg (by decide)]
    | some zs => simp only [parsesL, hx]; exact parses_append xs ys (acc ++ zs)
theorem parses_acc : ∀ (xs : List (Nat × List UInt8)) (acc : List S35), parsesL xs acc = if (parsesL xs []).2.1 = 0 then (acc ++ (parsesL xs []).1, 0, 0) else parsesL xs []
  | [], acc => by simp [parsesL]
  | x :: xs, acc => by
    cases hx : lineR x.1 x.2 with
    | none => simp only [parsesL, hx]; rw [if_neg (by decide)]
    | some zs =>
      simp only [parsesL, hx]
      rw [parses_acc xs (acc ++ zs), parses_acc xs ([] ++ zs)]
      by_cases h : (parsesL xs []).2.1 = 0
      · rw [if_pos h]; simp [h]
      · rw [if_neg h, if_neg h, if_neg h]
/-- A text's Parse with numbers moved on by m. -/
theorem parses_shift (m : Nat) : ∀ (n : Nat) (ps : List (List UInt8)) (acc : List S35), parsesL (numL (n + m) ps) (acc.map (shiftS (m : Int))) =
    ((parsesL (numL n ps) acc).1.map (shiftS (m : Int)), (parsesL (numL n ps) acc).2.1, if (parsesL (numL n ps) acc).2.1 = 0 then (parsesL (numL n ps) acc).2.2 else (parsesL (numL n ps) acc).2.2 + (m : Int))
  | n, [], acc => by simp [parsesL, numL]
  | n, p :: ps, acc => by
    simp only [numL, parsesL]
    rw [lineR_shift]
    cases lineR n p with
    | none => simp
    | some ys =>
      simp only [Option.map_some]
      rw [← List.map_append, show n + m + 1 = (n + 1) + m by omega, parses_shift m (n + 1) ps (acc ++ ys)]
theorem parses_bd (xs : List (Nat × List UInt8)) (acc : List S35) (hx : ∀ x ∈ xs, 1 ≤ x.1 ∧ x.1 ≤ 1000000) :
    ((parsesL xs acc).2.1 = 0 ∧ (parsesL xs acc).2.2 = 0) ∨ ((parsesL xs acc).2.1 = 3 ∧ (parsesL xs acc).1 = [] ∧ 1 ≤ (parsesL xs acc).2.2 ∧ (parsesL xs acc).2.2 ≤ 1000000) := by
  rcases parses_cases xs acc with ⟨zs, -, h⟩ | ⟨-, x, h1, -, h⟩
  · rw [h]; exact Or.inl ⟨rfl, rfl⟩
  · rw [h]
    have := hx x h1
    exact Or.inr ⟨rfl, rfl, by dsimp only; omega, by dsimp only; omega⟩
theorem parseT_bd (l : List UInt8) (hl : l.length ≤ 65536) : ((parseT l).2.1 = 0 ∧ (parseT l).2.2 = 0) ∨ ((parseT l).2.1 = 3 ∧ (parseT l).1 = [] ∧ 1 ≤ (parseT l).2.2 ∧ (parseT l).2.2 ≤ 1000000) := by
  unfold parseT
  rw [if_neg (by omega)]
  refine parses_bd _ _ fun x hx => ?_
  have h1 := numL_mem 1 _ x hx
  have h2 := cutAt_len 10 l
  omega
theorem parseT_join (a b : List UInt8) (h : a.length + b.length ≤ 65535) : parseT (a ++ 10 :: b) =
    if (parseT a).2.1 = 0 then (if (parseT b).2.1 = 0 then ((parseT a).1 ++ (parseT b).1.map (shiftS ((cutAt 10 a).length : Int)), 0, 0) else ([], (parseT b).2.1, (parseT b).2.2 + ((cutAt 10 a).length : Int))) else parseT a := by
  have hb0 := parseT_bd b (by omega)
  unfold parseT at hb0 ⊢
  rw [if_neg (by omega)] at hb0
  rw [if_neg (show ¬ 65536 < (a ++ 10 :: b).length by simp; omega), if_neg (show ¬ 65536 < a.length by omega), if_neg (show ¬ 65536 < b.length by omega), cutAt_join, numL_append, parses_append]
  by_cases h0 : (parsesL (numL 1 (cutAt 10 a)) []).2.1 = 0
  · rw [if_pos h0, if_pos h0, parses_acc]
    have hs := parses_shift (cutAt 10 a).length 1 (cutAt 10 b) []
    rw [List.map_nil] at hs
    rw [hs]
    by_cases h1 : (parsesL (numL 1 (cutAt 10 b)) []).2.1 = 0
    · rw [if_pos h1, if_pos h1, if_pos h1]
    · rw [if_neg h1, if_neg h1, if_neg h1]
      rcases hb0 with ⟨hx, -⟩ | ⟨-, hx, -⟩
      · exact absurd hx h1
      · rw [hx]; rfl
  · rw [if_neg h0, if_neg h0]

theorem LinesJoins_pure : unicodetextlaw09_LinesJoins.Pure := by
  intro s t _ _
  obtain ⟨KA, hA⟩ := alive_at
  obtain ⟨a, rfl, ha⟩ := ofL_of s
  obtain ⟨b, rfl, hb⟩ := ofL_of t
  rw [ofL_size] at ha hb
  by_cases hbig : 1000 < a.length ∨ 1000 < b.length
  · refine ⟨KA + 1, ?_⟩
    unfold unicodetextlaw09_LinesJoins.f
    simp only [unicodetextlaw09_LinesJoins.j0, ofL_size]
    rw [hA KA (Nat.le_refl _)]
    by_cases h1 : 1000 < a.length
    · rw [if_pos (by omega), if_pos trivial]
    · rw [if_neg (by omega), if_pos (by simp; omega)]
  · have hla : a.length ≤ 1000 := by omega
    have hlb : b.length ≤ 1000 := by omega
    obtain ⟨hza, hfa⟩ := parseT_fields a (by omega)
    obtain ⟨hzb, hfb⟩ := parseT_fields b (by omega)
    have hj := parseT_join a b (by omega)
    have hn := cutAt_len 10 a
    have bda := parseT_bd a (by omega)
    have bdb := parseT_bd b (by omega)
    obtain ⟨K1, h1⟩ := ref_split 10 a (by omega)
    obtain ⟨K2, h2⟩ := same_self (parseT a).1 (by omega) (fun x hx => Nat.le_trans (hfa x hx) (by omega))
    obtain ⟨K3, h3⟩ := same_shift ((cutAt 10 a).length : Int) (by omega) (by omega) (parseT b).1 (by omega) (fun x hx => Nat.le_trans (hfb x hx) (by omega))
    dsimp only at h1 h2 h3
    refine ⟨KA + K1 + K2 + K3 + 2, ?_⟩
    unfold unicodetextlaw09_LinesJoins.f
    simp only [unicodetextlaw09_LinesJoins.j0, unicodetextlaw09_LinesJoins.j1]
    rw [if_neg (by rw [ofL_size]; omega), if_neg (by rw [ofL_size]; simp; omega), show (10 : Int) = ((10 : UInt8).toNat : Int) from rfl, h1 _ (by omega), Option.bind_some, parse_f, Option.bind_some, parse_f, Option.bind_some,
      if_pos (by rw [ofL_size]; omega), show ofL a ++ (⟨#[10]⟩ : ByteArray) = ofL (a ++ [10]) from ofL_append a [10], if_pos (by rw [ofL_size, ofL_size]; simp; omega), ofL_append, parse_f, Option.bind_some, List.append_assoc, List.singleton_append, hj, List.length_map]
    by_cases ea : (parseT a).2.1 = 0
    · rw [if_pos ea, if_pos ea]
      by_cases eb : (parseT b).2.1 = 0
      · rw [if_pos eb, if_pos eb]
        dsimp only
        rw [if_neg (by decide), List.length_append, List.length_map, if_neg (by rw [wrap_id (by omega) (by omega)]; simp), if_pos (by omega), if_pos (by omega), Int.toNat_natCast, List.take_left, h2 _ (by omega), Option.bind_some, if_pos rfl,
          List.drop_left, h3 _ (by omega), Option.bind_some, if_pos rfl, hA _ (by omega)]
      · rw [if_neg eb, if_neg eb]
        dsimp only
        rw [if_pos rfl, if_pos (by rw [wrap_id (by omega) (by omega)]), if_pos (by simp), hA _ (by omega)]
    · rw [if_neg ea, if_neg ea]
      rw [if_pos (by simp), if_pos (by rcases bda with h | h; exact absurd h.1 ea; rw [h.2.1]; rfl), hA _ (by omega)]

end Go.Proofs.YtljhhnpgpiglfaaDoor.Pr
