/- Plain laws of the lines: trimming, the span of code points, the division at a byte, one line, all lines. -/
import Derived.Test.YtljhhnpgpiglfaaDoorUBase
import Derived.Test.YtljhhnpgpiglfaaDoorHEach
import Derived.Test.YtljhhnpgpiglfaaDoorHSplit
import Derived.Lib.SplitLaws
import Derived.Test.YtljhhnpgpiglfaaDoorPrx10
import Derived.Test.YtljhhnpgpiglfaaDoorPrx10
namespace Go.Proofs.YtljhhnpgpiglfaaDoor.Pr
open Go.RowKit Go.Proofs.YtljhhnpgpiglfaaDoorW.PrintWords Go.Proofs.YtljhhnpgpiglfaaDoorW.PrintLast Go.Proofs.YtljhhnpgpiglfaaDoorW.PrintMore
set_option linter.unusedVariables false
set_option linter.unusedSimpArgs false

def trimL (l : List UInt8) : List UInt8 := Lib.trimS l [32, 9, 13]
theorem trim_f (l : List UInt8) (h : l.length ≤ 1000000) : lines_trim.f (ofL l) = some (ofL (trimL l)) := by
  unfold lines_trim.f strings_Trim.f
  rw [if_pos ⟨by rw [ofL_size]; omega, by decide, by decide⟩, Option.bind_some, ofL_list]
  rfl

def spanL (l : List UInt8) : Int × Int × Bool :=
  if (Lib.cut l [46, 46]).2.2 = true then
    (if (parseS (Lib.cut l [46, 46]).2.1).2 = 0 then
      (if (parseS (Lib.cut l [46, 46]).1).2 = 0 then ((parseS (Lib.cut l [46, 46]).1).1, (parseS (Lib.cut l [46, 46]).2.1).1, decide ((parseS (Lib.cut l [46, 46]).1).1 ≤ (parseS (Lib.cut l [46, 46]).2.1).1))
       else ((parseS (Lib.cut l [46, 46]).1).1, (parseS (Lib.cut l [46, 46]).2.1).1, false))
     else (0, 0, false))
  else (if (parseS (Lib.cut l [46, 46]).1).2 = 0 then ((parseS (Lib.cut l [46, 46]).1).1, (parseS (Lib.cut l [46, 46]).1).1, decide ((parseS (Lib.cut l [46, 46]).1).1 ≤ (parseS (Lib.cut l [46, 46]).1).1))
    else ((parseS (Lib.cut l [46, 46]).1).1, (parseS (Lib.cut l [46, 46]).1).1, false))

theorem cut_f (l sep : List UInt8) (h : l.length ≤ 1000000) : strings_Cut.f (ofL l) (ofL sep) = some (ofL (Lib.cut l sep).1, ofL (Lib.cut l sep).2.1, (Lib.cut l sep).2.2) := by
  unfold strings_Cut.f
  rw [if_pos (by rw [ofL_size]; omega), ofL_list, ofL_list]

theorem span_ev (l : List UInt8) (h : l.length ≤ 1000000) : Ev (fun k => lines_span.f k (ofL l)) (spanL l) := by
  obtain ⟨K1, h1⟩ := prog_parse (Lib.cut l [46, 46]).1
  obtain ⟨K2, h2⟩ := prog_parse (Lib.cut l [46, 46]).2.1
  dsimp only at h1 h2
  refine ⟨K1 + K2, fun k hk => ?_⟩
  show lines_span.f k (ofL l) = some (spanL l)
  unfold lines_span.f spanL
  rw [show (⟨#[46, 46]⟩ : ByteArray) = ofL [46, 46] from rfl, cut_f l [46, 46] h, Option.bind_some]
  dsimp only
  rw [h1 k (by omega), Option.bind_some, h2 k (by omega), Option.bind_some]
  split
  · split
    · split <;> rfl
    · rfl
  · split <;> rfl

theorem split_at (c : UInt8) : ∀ l : List UInt8, Lib.splitK [c] 0 (Lib.count l [c]) l = cutAt c l
  | [] => by rw [Lib.count_miss (by simp [Lib.index])]; rfl
  | b :: t => by
    have ih := split_at c t
    by_cases h : b = c
    · subst h
      have hix : Lib.index (b :: t) [b] = ((0 : Nat) : Int) := by rw [Lib.index]; simp [List.isPrefixOf]
      rw [Lib.count_cons_eq, Nat.add_comm, Lib.splitK, if_neg (by rw [hix]; decide), hix, cutAt, if_pos rfl, ← ih]
      simp
    · have hp : ([c] : List UInt8).isPrefixOf (b :: t) = false := by simp [List.isPrefixOf, Ne.symm h]
      have hix : Lib.index (b :: t) [c] = if Lib.index t [c] == -1 then -1 else Lib.index t [c] + 1 := by rw [Lib.index, hp]; simp
      rw [Lib.count_cons_ne b c t h, cutAt, if_neg h, ← ih]
      by_cases hm : Lib.index t [c] = -1
      · rw [Lib.count_miss hm]; rfl
      · have hge := Lib.index_ge t [c]
        obtain ⟨j, hj⟩ : ∃ j : Nat, Lib.index t [c] = j := ⟨(Lib.index t [c]).toNat, by omega⟩
        have hc := Lib.count_hit (s := t) (sub := [c]) (i := j) (by simp) hj
        have hix' : Lib.index (b :: t) [c] = ((j + 1 : Nat) : Int) := by rw [hix, if_neg (fun e => hm (beq_iff_eq.1 e)), hj]; omega
        rw [hc, Nat.add_comm, Lib.splitK, Lib.splitK, hix', hj, if_neg (by first | (simp; done) | (simp; omega)), if_neg (by first | (simp; done) | (simp; omega))]
        simp only [Int.toNat_natCast, List.length_cons, List.length_nil]
        rw [show j + 1 + (0 + 1) = (j + (0 + 1)) + 1 by omega, List.drop_succ_cons]
        simp

theorem split_f (c : UInt8) (l : List UInt8) (hl : l.length ≤ 1000000) : strings_Split.f (ofL l) (ofL [c]) = some ((cutAt c l).map ofL) := by
  unfold strings_Split.f
  rw [if_pos ⟨by rw [ofL_size]; omega, by rw [ofL_size]; simp⟩]
  have h := Lib.splitB_data (ofL [c]) 0 (Lib.countB (ofL l) (ofL [c])) (ofL l)
  have hc : Lib.countB (ofL l) (ofL [c]) = Lib.count l [c] := by unfold Lib.countB; simp
  rw [hc] at h ⊢
  rw [ofL_list, ofL_list, split_at c l] at h
  rw [← h, List.map_map]
  congr 1
  refine (List.map_id _).symm.trans (List.map_congr_left fun s _ => ?_)
  exact (ofL_eq s).symm

theorem cutAt_mem (c : UInt8) : ∀ (l q : List UInt8), q ∈ cutAt c l → q.length ≤ l.length
  | [], q, h => by simp [cutAt] at h; simp [h]
  | b :: t, q, h => by
    unfold cutAt at h
    split at h
    · rcases List.mem_cons.1 h with rfl | h
      · simp
      · have := cutAt_mem c t q h; simp; omega
    · split at h
      · next hn => exact absurd hn (cutAt_ne c t)
      · next p r hr =>
        rcases List.mem_cons.1 h with rfl | h
        · have := cutAt_mem c t p (by rw [hr]; exact List.mem_cons_self ..); simp; omega
        · have := cutAt_mem c t q (by rw [hr]; exact List.mem_cons_of_mem _ h); simp; omega
theorem trimL_len (l : List UInt8) : (trimL l).length ≤ l.length := by
  unfold trimL Lib.trimS Lib.trimLeftS Lib.trimRightS
  refine Nat.le_trans (List.dropWhile_suffix _).length_le ?_
  rw [List.length_reverse]
  refine Nat.le_trans (List.dropWhile_suffix _).length_le ?_
  rw [List.length_reverse]
  exact Nat.le_refl _
theorem rdOf_at (ps : List (List UInt8)) (i : Nat) (h : i < ps.length) : rdOf ByteArray.empty (ps.map ofL) (i : Int) = ofL ps[i] := by simp [rdOf, h]

/-! ### one line, all lines -/
def dataL (l : List UInt8) : List UInt8 := (Lib.cut l [35]).1
def noteL (l : List UInt8) : List UInt8 := trimL (Lib.cut l [35]).2.1
/-- What a line gives: no element where it is blank, one element, or nothing good. -/
def lineR (n : Nat) (l : List UInt8) : Option (List S35) :=
  if trimL (dataL l) = [] then some [] else match cutAt 59 (dataL l) with
  | [] => none
  | p :: r => if (spanL (trimL p)).2.2 = true then some [⟨(n : Int), (spanL (trimL p)).1, (spanL (trimL p)).2.1, r.map (fun q => ofL (trimL q)), ofL (noteL l)⟩] else none
def accL : List (Nat × List UInt8) → Option (List S35)
  | [] => some []
  | x :: r => (lineR x.1 x.2).bind fun ys => (accL r).map fun zs => ys ++ zs
def parsesL : List (Nat × List UInt8) → List S35 → List S35 × Int × Int
  | [], acc => (acc, 0, 0)
  | x :: r, acc => match lineR x.1 x.2 with
    | none => ([], 3, (x.1 : Int))
    | some ys => parsesL r (acc ++ ys)

theorem parses_ok : ∀ (xs : List (Nat × List UInt8)) (acc zs : List S35), accL xs = some zs → parsesL xs acc = (acc ++ zs, 0, 0)
  | [], acc, zs, h => by cases h; simp [parsesL]
  | x :: r, acc, zs, h => by
    simp only [accL] at h
    cases hx : lineR x.1 x.2 with
    | none => rw [hx] at h; cases h
    | some ys =>
      rw [hx, Option.bind_some] at h
      cases hr : accL r with
      | none => rw [hr] at h; cases h
      | some us =>
        rw [hr] at h
        cases h
        simp only [parsesL, hx]
        rw [parses_ok r _ us hr, List.append_assoc]
theorem parses_bad : ∀ (pre : List (Nat × List UInt8)) (x : Nat × List UInt8) (r : List (Nat × List UInt8)) (acc zs : List S35), accL pre = some zs → lineR x.1 x.2 = none → parsesL (pre ++ x :: r) acc = ([], 3, (x.1 : Int))
  | [], x, r, acc, zs, _, hx => by simp only [List.nil_append, parsesL, hx]
  | y :: pre, x, r, acc, zs, h, hx => by
    simp only [accL] at h
    cases hy : lineR y.1 y.2 with
    | none => rw [hy] at h; cases h
    | some ys =>
      rw [hy, Option.bind_some] at h
      cases hr : accL pre with
      | none => rw [hr] at h; cases h
      | some us =>
        simp only [List.cons_append, parsesL, hy]
        exact parses_bad pre x r _ us hr hx
theorem acc_snoc : ∀ (pre : List (Nat × List UInt8)) (x : Nat × List UInt8) (zs ys : List S35), accL pre = some zs → lineR x.1 x.2 = some ys → accL (pre ++ [x]) = some (zs ++ ys)
  | [], x, zs, ys, h, hx => by cases h; simp [accL, hx]
  | y :: pre, x, zs, ys, h, hx => by
    simp only [accL] at h
    cases hy : lineR y.1 y.2 with
    | none => rw [hy] at h; cases h
    | some us =>
      rw [hy, Option.bind_some] at h
      cases hr : accL pre with
      | none => rw [hr] at h; cases h
      | some vs =>
        rw [hr] at h
        cases h
        simp only [List.cons_append, accL, hy, Option.bind_some]
        rw [acc_snoc pre x vs ys hr hx]
        simp
theorem lineR_len (n : Nat) (l : List UInt8) (ys : List S35) (h : lineR n l = some ys) : ys.length ≤ 1 := by
  unfold lineR at h
  split at h
  · cases h; simp
  · split at h
    · cases h
    · split at h
      · cases h; simp
      · cases h
theorem acc_len : ∀ (xs : List (Nat × List UInt8)) (zs : List S35), accL xs = some zs → zs.length ≤ xs.length
  | [], zs, h => by cases h; simp
  | x :: r, zs, h => by
    simp only [accL] at h
    cases hx : lineR x.1 x.2 with
    | none => rw [hx] at h; cases h
    | some ys =>
      rw [hx, Option.bind_some] at h
      cases hr : accL r with
      | none => rw [hr] at h; cases h
      | some us =>
        rw [hr] at h
        cases h
        have := lineR_len _ _ _ hx
        have := acc_len r us hr
        simp
        omega

/-- The contract's function of lines.Parse. -/
@[irreducible] def lines_Parse.f (a0 : ByteArray) : Option (List S35 × Int × Int) :=
  some (if 65536 < a0.size then ([], 2, 0) else parsesL (numL 1 (cutAt 10 a0.data.toList)) [])

end Go.Proofs.YtljhhnpgpiglfaaDoor.Pr
