/- Plain laws of the lines: texts joined, numbers moved on. -/
import Derived.Test.YtljhhnpgpiglfaaDoorLAlive
namespace Go.Proofs.YtljhhnpgpiglfaaDoor.Pr
open Go.RowKit Go.Proofs.YtljhhnpgpiglfaaDoorW.PrintWords Go.Proofs.YtljhhnpgpiglfaaDoorW.PrintLast Go.Proofs.YtljhhnpgpiglfaaDoorW.PrintMore
set_option linter.unusedVariables false
set_option linter.unusedSimpArgs false

theorem cutAt_none (c : UInt8) : ∀ l : List UInt8, c ∉ l → cutAt c l = [l]
  | [], _ => rfl
  | x :: t, h => by
    rw [cutAt_miss c x t (fun e => h (by rw [e]; simp)), cutAt_none c t (fun e => h (by simp [e]))]
    rfl
theorem cutAt_join (c : UInt8) : ∀ (a b : List UInt8), cutAt c (a ++ c :: b) = cutAt c a ++ cutAt c b
  | [], b => by rw [List.nil_append, cutAt_hit]; rfl
  | x :: a, b => by
    have ih := cutAt_join c a b
    rw [List.cons_append]
    by_cases h : x = c
    · subst h
      rw [cutAt_hit, cutAt_hit, ih]; rfl
    · rw [cutAt_miss c x _ h, cutAt_miss c x _ h, ih]
      cases hc : cutAt c a with
      | nil => exact absurd hc (cutAt_ne c a)
      | cons => rfl
theorem numL_append : ∀ (n : Nat) (p q : List (List UInt8)), numL n (p ++ q) = numL n p ++ numL (n + p.length) q
  | n, [], q => rfl
  | n, x :: p, q => by
    rw [List.cons_append, numL, numL, numL_append (n + 1) p q, List.length_cons, show n + 1 + p.length = n + (p.length + 1) by omega]
    rfl
theorem lineR_shift (n m : Nat) (l : List UInt8) : lineR (n + m) l = (lineR n l).map fun ys => ys.map (shiftS (m : Int)) := by
  unfold lineR
  split
  · rfl
  · split
    · rfl
    · split
      · simp [shiftS]
      · rfl
theorem accL_shift (m : Nat) : ∀ (n : Nat) (ps : List (List UInt8)), accL (numL (n + m) ps) = (accL (numL n ps)).map fun ys => ys.map (shiftS (m : Int))
  | n, [] => rfl
  | n, p :: ps => by
    simp only [numL, accL]
    rw [lineR_shift, show n + m + 1 = (n + 1) + m by omega, accL_shift m (n + 1) ps]
    cases lineR n p with
    | none => rfl
    | some ys => cases accL (numL (n + 1) ps) <;> simp
theorem parses_append : ∀ (xs ys : List (Nat × List UInt8)) (acc : List S35), parsesL (xs ++ ys) acc = if (parsesL xs acc).2.1 = 0 then parsesL ys (parsesL xs acc).1 else parsesL xs acc
  | [], ys, acc => by simp [parsesL]
  | x :: xs, ys, acc => by
    rw [List.cons_append]
    cases hx : lineR x.1 x.2 with
    | none => simp only [parsesL, hx]; rw [if_neg (by decide)]
    | some zs => simp only [parsesL, hx]; exact parses_append xs ys (acc ++ zs)
theorem parses_acc : ∀ (xs : List (Nat × List UInt8)) (acc : List S35), parsesL xs acc = if (parsesL xs []).2.1 = 0 then (acc ++ (parsesL xs []).1, 0, 0) else parsesL xs []
  | [], acc => by simp [parsesL]
  | x :: xs, acc => by
    cases hx : lineR x.1 x.2 with
    | none => simp only [parsesL, hx]; rw [if_neg (by decide)]
    | some zs =>
      simp only [parsesL, hx]
      rw [parses_acc xs (acc ++ zs), parses_acc xs ([] ++ zs)]
      by_cases h : (parsesL xs []).2.1 = 0
      · rw [if_pos h]; simp [h]
      · rw [if_neg h, if_neg h, if_neg h]
/-- A text's Parse with numbers moved on by m. -/
theorem parses_shift (m : Nat) : ∀ (n : Nat) (ps : List (List UInt8)) (acc : List S35), parsesL (numL (n + m) ps) (acc.map (shiftS (m : Int))) =
    ((parsesL (numL n ps) acc).1.map (shiftS (m : Int)), (parsesL (numL n ps) acc).2.1, if (parsesL (numL n ps) acc).2.1 = 0 then (parsesL (numL n ps) acc).2.2 else (parsesL (numL n ps) acc).2.2 + (m : Int))
  | n, [], acc => by simp [parsesL, numL]
  | n, p :: ps, acc => by
    simp only [numL, parsesL]
    rw [lineR_shift]
    cases lineR n p with
    | none => simp
    | some ys =>
      simp only [Option.map_some]
      rw [← List.map_append, show n + m + 1 = (n + 1) + m by omega, parses_shift m (n + 1) ps (acc ++ ys)]
theorem parses_bd (xs : List (Nat × List UInt8)) (acc : List S35) (hx : ∀ x ∈ xs, 1 ≤ x.1 ∧ x.1 ≤ 1000000) :
    ((parsesL xs acc).2.1 = 0 ∧ (parsesL xs acc).2.2 = 0) ∨ ((parsesL xs acc).2.1 = 3 ∧ (parsesL xs acc).1 = [] ∧ 1 ≤ (parsesL xs acc).2.2 ∧ (parsesL xs acc).2.2 ≤ 1000000) := by
  rcases parses_cases xs acc with ⟨zs, -, h⟩ | ⟨-, x, h1, -, h⟩
  · rw [h]; exact Or.inl ⟨rfl, rfl⟩
  · rw [h]
    have := hx x h1
    exact Or.inr ⟨rfl, rfl, by dsimp only; omega, by dsimp only; omega⟩
theorem parseT_bd (l : List UInt8) (hl : l.length ≤ 65536) : ((parseT l).2.1 = 0 ∧ (parseT l).2.2 = 0) ∨ ((parseT l).2.1 = 3 ∧ (parseT l).1 = [] ∧ 1 ≤ (parseT l).2.2 ∧ (parseT l).2.2 ≤ 1000000) := by
  unfold parseT
  rw [if_neg (by omega)]
  refine parses_bd _ _ fun x hx => ?_
  have h1 := numL_mem 1 _ x hx
  have h2 := cutAt_len 10 l
  omega
theorem parseT_join (a b : List UInt8) (h : a.length + b.length ≤ 65535) : parseT (a ++ 10 :: b) =
    if (parseT a).2.1 = 0 then (if (parseT b).2.1 = 0 then ((parseT a).1 ++ (parseT b).1.map (shiftS ((cutAt 10 a).length : Int)), 0, 0) else ([], (parseT b).2.1, (parseT b).2.2 + ((cutAt 10 a).length : Int))) else parseT a := by
  have hb0 := parseT_bd b (by omega)
  unfold parseT at hb0 ⊢
  rw [if_neg (by omega)] at hb0
  rw [if_neg (show ¬ 65536 < (a ++ 10 :: b).length by simp; omega), if_neg (show ¬ 65536 < a.length by omega), if_neg (show ¬ 65536 < b.length by omega), cutAt_join, numL_append, parses_append]
  by_cases h0 : (parsesL (numL 1 (cutAt 10 a)) []).2.1 = 0
  · rw [if_pos h0, if_pos h0, parses_acc]
    have hs := parses_shift (cutAt 10 a).length 1 (cutAt 10 b) []
    rw [List.map_nil] at hs
    rw [hs]
    by_cases h1 : (parsesL (numL 1 (cutAt 10 b)) []).2.1 = 0
    · rw [if_pos h1, if_pos h1, if_pos h1]
    · rw [if_neg h1, if_neg h1, if_neg h1]
      rcases hb0 with ⟨hx, -⟩ | ⟨-, hx, -⟩
      · exact absurd hx h1
      · rw [hx]; rfl
  · rw [if_neg h0, if_neg h0]

end Go.Proofs.YtljhhnpgpiglfaaDoor.Pr
