/- Plain laws of the reference of the lines: spanned, Strings, Same, Parse. -/
import Derived.Test.YtljhhnpgpiglfaaDoorLRef
namespace Go.Proofs.YtljhhnpgpiglfaaDoor.Pr
open Go.RowKit Go.Proofs.YtljhhnpgpiglfaaDoorW.PrintWords Go.Proofs.YtljhhnpgpiglfaaDoorW.PrintLast Go.Proofs.YtljhhnpgpiglfaaDoorW.PrintMore
set_option linter.unusedVariables false
set_option linter.unusedSimpArgs false

/-! ### spanned -/
def spanR (l : List UInt8) : Int × Int × Bool :=
  if (Lib.cut l [46, 46]).2.2 = true then
    (if (parseS (Lib.cut l [46, 46]).1).2 = 0 then
      (if (parseS (Lib.cut l [46, 46]).2.1).2 = 0 then ((parseS (Lib.cut l [46, 46]).1).1, (parseS (Lib.cut l [46, 46]).2.1).1, decide ((parseS (Lib.cut l [46, 46]).1).1 ≤ (parseS (Lib.cut l [46, 46]).2.1).1))
       else ((parseS (Lib.cut l [46, 46]).1).1, (parseS (Lib.cut l [46, 46]).2.1).1, false))
     else ((parseS (Lib.cut l [46, 46]).1).1, (parseS (Lib.cut l [46, 46]).2.1).1, false))
  else ((parseS (Lib.cut l [46, 46]).1).1, (parseS (Lib.cut l [46, 46]).1).1, (parseS (Lib.cut l [46, 46]).1).2 == 0)

theorem span_same (l : List UInt8) : (spanR l).2.2 = (spanL l).2.2 ∧ ((spanL l).2.2 = true → spanR l = spanL l) := by
  unfold spanR spanL
  split
  · by_cases h1 : (parseS (Lib.cut l [46, 46]).1).2 = 0
    · rw [if_pos h1, if_pos h1]
      by_cases h2 : (parseS (Lib.cut l [46, 46]).2.1).2 = 0
      · rw [if_pos h2, if_pos h2]; exact ⟨rfl, fun _ => rfl⟩
      · rw [if_neg h2, if_neg h2]; exact ⟨rfl, fun h => by simp at h⟩
    · rw [if_neg h1, if_neg h1]
      by_cases h2 : (parseS (Lib.cut l [46, 46]).2.1).2 = 0
      · rw [if_pos h2]; exact ⟨rfl, fun h => by simp at h⟩
      · rw [if_neg h2]; exact ⟨rfl, fun h => by simp at h⟩
  · by_cases h1 : (parseS (Lib.cut l [46, 46]).1).2 = 0
    · rw [if_pos h1, h1]; simp
    · rw [if_neg h1]; simp [h1]

theorem spanned_none (l : List UInt8) (hl : l.length ≤ 1000000) (a : List UInt8) (hb : l.length ≤ a.length + 1) (ha : a.length ≤ l.length) (hx : Lib.index l [46, 46] = -1) :
    Ev (fun k => unicodetextref09_spanned.l0 k (ofL l) (a.length : Int)) (spanR l) := by
  obtain ⟨K, g⟩ := ref_parse l
  dsimp only at g
  have hc : Lib.cut l [46, 46] = (l, [], false) := by unfold Lib.cut; rw [hx, if_neg (by decide)]
  refine ⟨K + 1, fun k hk => ?_⟩
  obtain ⟨k, rfl⟩ : ∃ m, k = m + 1 := ⟨k - 1, by omega⟩
  show unicodetextref09_spanned.l0 (k + 1) (ofL l) (a.length : Int) = _
  unfold spanR
  rw [hc]
  simp only [unicodetextref09_spanned.l0]
  rw [wrap_succ _ (by omega), if_neg (by rw [ofL_size]; omega), g k (by omega), Option.bind_some, if_neg (by decide)]

theorem ref_spanned_loop (l : List UInt8) (hl : l.length ≤ 1000000) : ∀ (b a : List UInt8), l = a ++ b → Lib.index l [46, 46] = (if Lib.index b [46, 46] = -1 then -1 else (a.length : Int) + Lib.index b [46, 46]) →
    Ev (fun k => unicodetextref09_spanned.l0 k (ofL l) (a.length : Int)) (spanR l)
  | [], a, h, hx => by
    rw [if_pos (by simp [Lib.index])] at hx
    exact spanned_none l hl a (by rw [h]; simp) (by rw [h]; simp) hx
  | [x], a, h, hx => by
    rw [if_pos (by simp [Lib.index, List.isPrefixOf])] at hx
    exact spanned_none l hl a (by rw [h]; simp) (by rw [h]; simp) hx
  | x :: y :: t, a, h, hx => by
    have hlen : a.length + (t.length + 2) = l.length := by rw [h]; simp
    have h0 : l[a.length]'(by omega) = x := by simp [h]
    have h1 : l[a.length + 1]'(by omega) = y := by simp [h]
    have hb : bt (ofL l) (a.length : Int) = (x.toNat : Int) := by rw [bt_ofL l _ (by omega), h0]
    have hb' : bt (ofL l) (((a.length + 1 : Nat)) : Int) = (y.toNat : Int) := by rw [bt_ofL l _ (by omega), h1]
    by_cases hd : x = 46 ∧ y = 46
    · obtain ⟨rfl, rfl⟩ := hd
      have hi0 : Lib.index ((46 : UInt8) :: 46 :: t) [46, 46] = ((0 : Nat) : Int) := by rw [Lib.index]; simp [List.isPrefixOf]
      rw [hi0, if_neg (by decide)] at hx
      have hc : Lib.cut l [46, 46] = (a, t, true) := by
        unfold Lib.cut
        rw [if_pos (by omega), hx, show ((a.length : Int) + ((0 : Nat) : Int)).toNat = a.length by omega, h]
        simp [← List.drop_drop]
      obtain ⟨K1, g1⟩ := ref_parse a
      obtain ⟨K2, g2⟩ := ref_parse t
      dsimp only at g1 g2
      refine ⟨K1 + K2 + 2, fun k hk => ?_⟩
      obtain ⟨k, rfl⟩ : ∃ m, k = m + 2 := ⟨k - 2, by omega⟩
      show unicodetextref09_spanned.l0 (k + 2) (ofL l) (a.length : Int) = _
      unfold spanR
      rw [hc]
      simp only [unicodetextref09_spanned.l0, unicodetextref09_spanned.j1]
      rw [wrap_succ _ (by omega), if_pos (by rw [ofL_size]; omega), if_pos (by omega), if_pos (by rw [ofL_size]; omega), hb, hb', if_pos (by decide), if_pos (by omega), if_pos (by decide), if_pos (by omega), if_pos (by rw [ofL_size]; omega),
        wrap_id (x := (a.length : Int) + 2) (by omega) (by omega), ofL_extract, Int.toNat_natCast, ofL_extract, ofL_size, show ((a.length : Int) + 2).toNat = a.length + 2 by omega, List.drop_zero, Nat.sub_zero,
        show l.take a.length = a by rw [h, List.take_left], show (l.drop (a.length + 2)).take (l.length - (a.length + 2)) = t by rw [h, List.take_of_length_le (by simp; omega), ← List.drop_drop, List.drop_left]; rfl,
        g1 k (by omega), Option.bind_some, if_pos (by omega), if_pos (by omega), g2 k (by omega), Option.bind_some]
      simp only [if_true]
      split
      · split <;> rfl
      · rfl
    · have hp : ([46, 46] : List UInt8).isPrefixOf (x :: y :: t) = false := by
        simp only [List.isPrefixOf, Bool.and_true, Bool.and_eq_false_iff, beq_eq_false_iff_ne]
        by_cases e : x = 46
        · exact Or.inr (fun e' => hd ⟨e, e'.symm⟩)
        · exact Or.inl (Ne.symm e)
      have hix : Lib.index (x :: y :: t) [46, 46] = if Lib.index (y :: t) [46, 46] == -1 then -1 else Lib.index (y :: t) [46, 46] + 1 := by rw [Lib.index, hp]; simp
      have hge := Lib.index_ge (y :: t) [46, 46]
      have ih := ref_spanned_loop l hl (y :: t) (a ++ [x]) (by rw [h]; simp) (by
        rw [hx, hix]
        by_cases hm : Lib.index (y :: t) [46, 46] = -1
        · rw [hm]; simp
        · rw [if_neg (fun e => hm (beq_iff_eq.1 e)), if_neg (by omega), if_neg hm, List.length_append]
          simp
          omega)
      obtain ⟨K, g⟩ := ih
      refine ⟨K + 2, fun k hk => ?_⟩
      obtain ⟨k, rfl⟩ : ∃ m, k = m + 2 := ⟨k - 2, by omega⟩
      have g' := g k (by omega)
      dsimp only at g'
      rw [List.length_append, List.length_singleton] at g'
      have g'' := g (k + 1) (by omega)
      dsimp only at g''
      rw [List.length_append, List.length_singleton] at g''
      show unicodetextref09_spanned.l0 (k + 2) (ofL l) (a.length : Int) = _
      simp only [unicodetextref09_spanned.l0, unicodetextref09_spanned.j1]
      rw [wrap_succ _ (by omega), if_pos (by rw [ofL_size]; omega), if_pos (by omega), if_pos (by rw [ofL_size]; omega), hb, hb']
      by_cases e : x = 46
      · have hy : ¬ y = 46 := fun e' => hd ⟨e, e'⟩
        rw [if_pos (by rw [e]; decide), if_pos (by omega), if_neg (by rw [beq_iff_eq]; exact fun e' => hy (UInt8.toNat_inj.1 (by rw [show (46 : UInt8).toNat = 46 from rfl]; omega)))]
        exact g'
      · rw [if_neg (fun e' => e (UInt8.toNat_inj.1 (by rw [show (46 : UInt8).toNat = 46 from rfl]; omega))), if_neg (by decide)]
        exact g'
theorem ref_spanned (l : List UInt8) (hl : l.length ≤ 1000000) : Ev (fun k => unicodetextref09_spanned.f k (ofL l)) (spanR l) := by
  refine ref_spanned_loop l hl l [] rfl ?_
  by_cases h : Lib.index l [46, 46] = -1
  · rw [if_pos h, h]
  · rw [if_neg h]; simp

/-! ### Strings and Same -/
theorem strings_self_loop (xs : List ByteArray) (h : xs.length ≤ 4611686018427387904) (d : Nat) : ∀ (i k : Nat), i + d = xs.length → d < k → unicodetextref09_Strings.l0 k xs xs (i : Int) = some true := by
  induction d with
  | zero =>
    intro i k hi hk
    obtain ⟨k, rfl⟩ : ∃ m, k = m + 1 := ⟨k - 1, by omega⟩
    simp only [unicodetextref09_Strings.l0]
    rw [if_neg (by omega)]
  | succ d ih =>
    intro i k hi hk
    obtain ⟨k, rfl⟩ : ∃ m, k = m + 1 := ⟨k - 1, by omega⟩
    simp only [unicodetextref09_Strings.l0]
    rw [if_pos (by omega), if_pos (by omega), if_pos (by omega), if_pos trivial, wrap_succ _ (by omega), ih (i + 1) k (by omega) (by omega)]
theorem strings_self (xs : List ByteArray) (h : xs.length ≤ 4611686018427387904) : Ev (fun k => unicodetextref09_Strings.f k xs xs) true := by
  refine ⟨xs.length + 1, fun k hk => ?_⟩
  show unicodetextref09_Strings.f k xs xs = some true
  unfold unicodetextref09_Strings.f
  rw [if_pos rfl]
  exact strings_self_loop xs h xs.length 0 k (by omega) (by omega)

def shiftS (d : Int) (x : S35) : S35 := ⟨x.f0 + d, x.f1, x.f2, x.f3, x.f4⟩
theorem rd_at (xs : List S35) (i : Nat) (h : i < xs.length) : rd_T35 xs (i : Int) = xs[i] := by simp [rd_T35, h]
theorem shift_zero (xs : List S35) : xs.map (shiftS 0) = xs := by
  refine (List.map_congr_left fun x _ => ?_).trans (List.map_id _)
  unfold shiftS
  simp
theorem same_loop (dd : Int) (h0 : -1000000000 ≤ dd) (h1 : dd ≤ 1000000000) (all : List S35) (hl : all.length ≤ 4611686018427387904) (hf : ∀ x ∈ all, x.f3.length ≤ 4611686018427387904) : ∀ (r p : List S35), all = p ++ r →
    Ev (fun k => unicodetextref09_Same.l0 k all (all.map (shiftS dd)) dd (p.length : Int)) true
  | [], p, h => by
    refine Ev.step (f := fun _ => some true) (fun k => ?_) (Ev.now _)
    simp only [unicodetextref09_Same.l0]
    rw [if_neg (by rw [h]; simp)]
  | x :: r, p, h => by
    have hlen : p.length + (r.length + 1) = all.length := by rw [h]; simp
    have hx : all[p.length]'(by omega) = x := by simp [h]
    obtain ⟨K1, g1⟩ := strings_self x.f3 (hf x (by rw [h]; simp))
    obtain ⟨K2, g2⟩ := same_loop dd h0 h1 all hl hf r (p ++ [x]) (by rw [h]; simp)
    dsimp only at g1 g2
    rw [List.length_append, List.length_singleton] at g2
    refine ⟨K1 + K2 + 1, fun k hk => ?_⟩
    obtain ⟨k, rfl⟩ : ∃ m, k = m + 1 := ⟨k - 1, by omega⟩
    show unicodetextref09_Same.l0 (k + 1) all (all.map (shiftS dd)) dd (p.length : Int) = some true
    simp only [unicodetextref09_Same.l0]
    rw [if_pos (by omega), if_pos (by omega), if_pos (by rw [List.length_map]; omega), rd_at all _ (by omega), rd_at (all.map (shiftS dd)) _ (by rw [List.length_map]; omega), List.getElem_map, hx]
    simp only [shiftS]
    rw [if_pos (by rw [show x.f0 + dd - x.f0 = dd by omega, wrap_id (by omega) (by omega)]), if_pos trivial, if_pos trivial, if_pos trivial, g1 k (by omega), Option.bind_some, if_pos rfl, wrap_succ _ (by omega), g2 k (by omega)]
theorem same_shift (dd : Int) (h0 : -1000000000 ≤ dd) (h1 : dd ≤ 1000000000) (all : List S35) (hl : all.length ≤ 4611686018427387904) (hf : ∀ x ∈ all, x.f3.length ≤ 4611686018427387904) :
    Ev (fun k => unicodetextref09_Same.f k all (all.map (shiftS dd)) dd) true := by
  obtain ⟨K, g⟩ := same_loop dd h0 h1 all hl hf all [] rfl
  refine ⟨K, fun k hk => ?_⟩
  show unicodetextref09_Same.f k all (all.map (shiftS dd)) dd = some true
  unfold unicodetextref09_Same.f
  rw [if_pos (by rw [List.length_map])]
  exact g k hk
theorem same_self (all : List S35) (hl : all.length ≤ 4611686018427387904) (hf : ∀ x ∈ all, x.f3.length ≤ 4611686018427387904) : Ev (fun k => unicodetextref09_Same.f k all all 0) true := by
  have := same_shift 0 (by decide) (by decide) all hl hf
  rw [shift_zero] at this
  exact this

/-! ### Parse -/
theorem ref_fields (R : List S35 × Int × Int) (acc : List S35) (x5 : List ByteArray) (i : Int) (lo hi : Int) (note : ByteArray) (ps : List (List UInt8)) (hm : ∀ q ∈ ps, q.length ≤ 1000000) (hn : ps.length ≤ 1000001)
    (ha : acc.length ≤ 1000001) : ∀ (r p : List (List UInt8)) (fs : List ByteArray), ps = p ++ r → fs.length ≤ p.length →
    Ev (fun k => unicodetextref09_Parse.l0 k (acc ++ [⟨wrap64 (i + 1), lo, hi, fs ++ r.map (fun q => ofL (trimL q)), note⟩]) x5 (wrap64 (i + 1))) R →
    Ev (fun k => unicodetextref09_Parse.l1 k acc x5 i (ps.map ofL) (p.length : Int) (wrap64 (i + 1)) lo hi fs note) R
  | [], p, fs, h, hfs, hR => by
    refine Ev.step (fun k => ?_) hR
    simp only [unicodetextref09_Parse.l1]
    rw [if_neg (by rw [h]; simp), if_pos (by omega), List.map_nil, List.append_nil]
  | q :: r, p, fs, h, hfs, hR => by
    have hlen : p.length + (r.length + 1) = ps.length := by rw [h]; simp
    have hq : ps[p.length]'(by omega) = q := by simp [h]
    obtain ⟨K1, g1⟩ := ref_trim q (hm q (by rw [h]; simp))
    have ih := ref_fields R acc x5 i lo hi note ps hm hn ha r (p ++ [q]) (fs ++ [ofL (trimL q)]) (by rw [h]; simp) (by simp; omega) (by
      rw [List.append_assoc]
      exact hR)
    obtain ⟨K2, g2⟩ := ih
    dsimp only at g1 g2
    rw [List.length_append, List.length_singleton] at g2
    refine ⟨K1 + K2 + 1, fun k hk => ?_⟩
    obtain ⟨k, rfl⟩ : ∃ m, k = m + 1 := ⟨k - 1, by omega⟩
    show unicodetextref09_Parse.l1 (k + 1) acc x5 i (ps.map ofL) (p.length : Int) (wrap64 (i + 1)) lo hi fs note = some R
    simp only [unicodetextref09_Parse.l1]
    rw [if_pos (by rw [List.length_map]; omega), if_pos (by omega), rdOf_at ps _ (by omega), hq, g1 k (by omega), Option.bind_some, if_pos (by omega), wrap_succ p.length (by omega)]
    exact g2 k (by omega)

theorem ref_lines (ps : List (List UInt8)) (hm : ∀ q ∈ ps, q.length ≤ 1000000) (hn : ps.length ≤ 1000001) : ∀ (r p : List (List UInt8)) (acc : List S35), ps = p ++ r → acc.length ≤ p.length →
    Ev (fun k => unicodetextref09_Parse.l0 k acc (ps.map ofL) (p.length : Int)) (parsesL (numL (p.length + 1) r) acc)
  | [], p, acc, h, ha => by
    refine Ev.step (f := fun _ => some (acc, 0, 0)) (fun k => ?_) (Ev.now _)
    simp only [unicodetextref09_Parse.l0]
    rw [if_neg (by rw [h]; simp)]
  | q :: r, p, acc, h, ha => by
    have hlen : p.length + (r.length + 1) = ps.length := by rw [h]; simp
    have hq : ps[p.length]'(by omega) = q := by simp [h]
    have hql : q.length ≤ 1000000 := hm q (by rw [h]; simp)
    have hdl : (dataL q).length ≤ 1000000 := by
      refine Nat.le_trans ?_ hql
      unfold dataL
      rcases cut_at 35 q with ⟨h1, -⟩ | ⟨a, b, h1, -, h3⟩
      · rw [h1]; exact Nat.le_refl _
      · rw [h3, h1]; simp
    obtain ⟨K1, g1⟩ := ref_comment q hql
    obtain ⟨K2, g2⟩ := ref_trim (dataL q) hdl
    dsimp only at g1 g2
    have hw := wrap_succ p.length (by omega)
    by_cases hb : trimL (dataL q) = []
    · obtain ⟨K3, g3⟩ := ref_lines ps hm hn r (p ++ [q]) acc (by rw [h]; simp) (by simp; omega)
      dsimp only at g3
      rw [List.length_append, List.length_singleton] at g3
      refine ⟨K1 + K2 + K3 + 1, fun k hk => ?_⟩
      obtain ⟨k, rfl⟩ : ∃ m, k = m + 1 := ⟨k - 1, by omega⟩
      show unicodetextref09_Parse.l0 (k + 1) acc (ps.map ofL) (p.length : Int) = _
      simp only [unicodetextref09_Parse.l0, numL, parsesL]
      rw [if_pos (by rw [List.length_map]; omega), if_pos (by omega), rdOf_at ps _ (by omega), hq, g1 k (by omega), Option.bind_some, g2 k (by omega), Option.bind_some, if_pos (by rw [ofL_toList, hb]), hw,
        show lineR (p.length + 1) q = some [] by unfold lineR; rw [if_pos hb]]
      rw [g3 k (by omega)]
      simp
    · obtain ⟨y, ys, hys⟩ : ∃ y ys, cutAt 59 (dataL q) = y :: ys := by
        cases hc : cutAt 59 (dataL q) with
        | nil => exact absurd hc (cutAt_ne _ _)
        | cons y ys => exact ⟨y, ys, rfl⟩
      have hyl : ∀ z ∈ y :: ys, z.length ≤ 1000000 := fun z hz => Nat.le_trans (cutAt_mem 59 (dataL q) z (by rw [hys]; exact hz)) hdl
      have hyn : (y :: ys).length ≤ 1000001 := by
        have := cutAt_len 59 (dataL q)
        rw [hys] at this
        omega
      obtain ⟨K3, g3⟩ := ref_split 59 (dataL q) hdl
      obtain ⟨K4, g4⟩ := ref_trim y (hyl y (by simp))
      obtain ⟨K5, g5⟩ := ref_spanned (trimL y) (Nat.le_trans (trimL_len y) (hyl y (by simp)))
      have hss := span_same (trimL y)
      dsimp only at g3 g4 g5
      rw [show ((59 : UInt8).toNat : Int) = 59 from rfl, hys] at g3
      by_cases hok : (spanL (trimL y)).2.2 = true
      · have hlr : lineR (p.length + 1) q = some [⟨((p.length + 1 : Nat) : Int), (spanL (trimL y)).1, (spanL (trimL y)).2.1, ys.map (fun q => ofL (trimL q)), ofL (noteL q)⟩] := by
          unfold lineR
          rw [if_neg hb, hys]
          dsimp only
          rw [if_pos hok]
        have ih := ref_lines ps hm hn r (p ++ [q]) (acc ++ [⟨((p.length + 1 : Nat) : Int), (spanL (trimL y)).1, (spanL (trimL y)).2.1, ys.map (fun q => ofL (trimL q)), ofL (noteL q)⟩]) (by rw [h]; simp) (by simp; omega)
        rw [List.length_append, List.length_singleton] at ih
        obtain ⟨K6, g6⟩ := ref_fields _ acc (ps.map ofL) (p.length : Int) (spanL (trimL y)).1 (spanL (trimL y)).2.1 (ofL (noteL q)) (y :: ys) hyl hyn (by omega) ys [y] [] rfl (by simp) (by
          rw [hw, List.nil_append]
          exact ih)
        dsimp only at g6
        refine ⟨K1 + K2 + K3 + K4 + K5 + K6 + 1, fun k hk => ?_⟩
        obtain ⟨k, rfl⟩ : ∃ m, k = m + 1 := ⟨k - 1, by omega⟩
        show unicodetextref09_Parse.l0 (k + 1) acc (ps.map ofL) (p.length : Int) = _
        simp only [unicodetextref09_Parse.l0, numL, parsesL]
        rw [if_pos (by rw [List.length_map]; omega), if_pos (by omega), rdOf_at ps _ (by omega), hq, g1 k (by omega), Option.bind_some, g2 k (by omega), Option.bind_some, if_neg (by rw [ofL_toList]; exact hb), g3 k (by omega), Option.bind_some,
          if_pos (by simp), show rdOf ByteArray.empty (List.map ofL (y :: ys)) 0 = ofL y from rfl, g4 k (by omega), Option.bind_some, g5 k (by omega), Option.bind_some, hss.2 hok, if_pos hok, hlr]
        exact g6 k (by omega)
      · have hlr : lineR (p.length + 1) q = none := by
          unfold lineR
          rw [if_neg hb, hys]
          dsimp only
          rw [if_neg hok]
        refine ⟨K1 + K2 + K3 + K4 + K5 + 1, fun k hk => ?_⟩
        obtain ⟨k, rfl⟩ : ∃ m, k = m + 1 := ⟨k - 1, by omega⟩
        show unicodetextref09_Parse.l0 (k + 1) acc (ps.map ofL) (p.length : Int) = _
        simp only [unicodetextref09_Parse.l0, numL, parsesL]
        rw [if_pos (by rw [List.length_map]; omega), if_pos (by omega), rdOf_at ps _ (by omega), hq, g1 k (by omega), Option.bind_some, g2 k (by omega), Option.bind_some, if_neg (by rw [ofL_toList]; exact hb), g3 k (by omega), Option.bind_some,
          if_pos (by simp), show rdOf ByteArray.empty (List.map ofL (y :: ys)) 0 = ofL y from rfl, g4 k (by omega), Option.bind_some, g5 k (by omega), Option.bind_some, if_neg (by rw [hss.1]; exact hok), hlr, hw]

/-- What both Parses of a text compute. -/
def parseT (l : List UInt8) : List S35 × Int × Int := if 65536 < l.length then ([], 2, 0) else parsesL (numL 1 (cutAt 10 l)) []
theorem parse_f (l : List UInt8) : lines_Parse.f (ofL l) = some (parseT l) := by
  unfold lines_Parse.f parseT
  rw [ofL_list, ofL_size]
theorem ref_parseT (l : List UInt8) (hl : l.length ≤ 1000000) : Ev (fun k => unicodetextref09_Parse.f k (ofL l)) (parseT l) := by
  unfold parseT
  by_cases hbig : 65536 < l.length
  · refine ⟨0, fun k _ => ?_⟩
    show unicodetextref09_Parse.f k (ofL l) = _
    unfold unicodetextref09_Parse.f
    rw [if_pos (by rw [ofL_size]; omega), if_pos hbig]
  · obtain ⟨K1, g1⟩ := ref_split 10 l hl
    obtain ⟨K2, g2⟩ := ref_lines (cutAt 10 l) (fun q hq => Nat.le_trans (cutAt_mem 10 l q hq) hl) (by have := cutAt_len 10 l; omega) (cutAt 10 l) [] [] rfl (by simp)
    dsimp only at g1 g2
    refine ⟨K1 + K2, fun k hk => ?_⟩
    show unicodetextref09_Parse.f k (ofL l) = _
    unfold unicodetextref09_Parse.f
    rw [if_neg (by rw [ofL_size]; omega), show (10 : Int) = ((10 : UInt8).toNat : Int) from rfl, g1 k (by omega), Option.bind_some, if_neg hbig]
    exact g2 k (by omega)

theorem parses_cases : ∀ (xs : List (Nat × List UInt8)) (acc : List S35), (∃ zs, accL xs = some zs ∧ parsesL xs acc = (acc ++ zs, 0, 0)) ∨
    (accL xs = none ∧ ∃ x, x ∈ xs ∧ lineR x.1 x.2 = none ∧ parsesL xs acc = ([], 3, (x.1 : Int)))
  | [], acc => Or.inl ⟨[], rfl, by simp [parsesL]⟩
  | x :: r, acc => by
    cases hx : lineR x.1 x.2 with
    | none => exact Or.inr ⟨by simp [accL, hx], x, by simp, hx, by simp [parsesL, hx]⟩
    | some ys =>
      rcases parses_cases r (acc ++ ys) with ⟨zs, h1, h2⟩ | ⟨h1, y, h2, h3, h4⟩
      · exact Or.inl ⟨ys ++ zs, by simp [accL, hx, h1], by simp [parsesL, hx, h2]⟩
      · exact Or.inr ⟨by simp [accL, hx, h1], y, by simp [h2], h3, by simp [parsesL, hx, h4]⟩
theorem lineR_mem (n : Nat) (l : List UInt8) (ys : List S35) (h : lineR n l = some ys) (z : S35) (hz : z ∈ ys) :
    ∃ p r, cutAt 59 (dataL l) = p :: r ∧ trimL (dataL l) ≠ [] ∧ (spanL (trimL p)).2.2 = true ∧ z = ⟨(n : Int), (spanL (trimL p)).1, (spanL (trimL p)).2.1, r.map (fun q => ofL (trimL q)), ofL (noteL l)⟩ := by
  unfold lineR at h
  split at h
  · cases h; cases hz
  · next hb =>
    split at h
    · cases h
    · next p r hr =>
      split at h
      · next hok =>
        cases h
        exact ⟨p, r, hr, hb, hok, List.mem_singleton.1 hz⟩
      · cases h
theorem acc_mem : ∀ (xs : List (Nat × List UInt8)) (zs : List S35), accL xs = some zs → ∀ z ∈ zs, ∃ x ∈ xs, ∃ ys, lineR x.1 x.2 = some ys ∧ z ∈ ys
  | [], zs, h, z, hz => by cases h; cases hz
  | x :: r, zs, h, z, hz => by
    simp only [accL] at h
    cases hx : lineR x.1 x.2 with
    | none => rw [hx] at h; cases h
    | some ys =>
      rw [hx, Option.bind_some] at h
      cases hr : accL r with
      | none => rw [hr] at h; cases h
      | some us =>
        rw [hr] at h
        cases h
        rcases List.mem_append.1 hz with hz | hz
        · exact ⟨x, by simp, ys, hx, hz⟩
        · obtain ⟨y, hy, h'⟩ := acc_mem r us hr z hz
          exact ⟨y, by simp [hy], h'⟩
theorem numL_mem : ∀ (n : Nat) (ps : List (List UInt8)) (x : Nat × List UInt8), x ∈ numL n ps → x.2 ∈ ps ∧ n ≤ x.1 ∧ x.1 < n + ps.length
  | _, [], x, h => by cases h
  | n, p :: r, x, h => by
    rcases List.mem_cons.1 h with rfl | h
    · simp
    · have := numL_mem (n + 1) r x h
      simp only [List.mem_cons, List.length_cons]
      exact ⟨Or.inr this.1, by omega, by omega⟩
theorem data_len (l : List UInt8) : (dataL l).length ≤ l.length := by
  unfold dataL
  rcases cut_at 35 l with ⟨h1, -⟩ | ⟨a, b, h1, -, h3⟩
  · rw [h1]; exact Nat.le_refl _
  · rw [h3, h1]; simp
theorem acc_fields (l : List UInt8) (n : Nat) (zs : List S35) (h : accL (numL n (cutAt 10 l)) = some zs) (z : S35) (hz : z ∈ zs) : z.f3.length ≤ l.length := by
  obtain ⟨x, hx, ys, h1, h2⟩ := acc_mem _ _ h z hz
  obtain ⟨p, r, h3, -, -, rfl⟩ := lineR_mem _ _ _ h1 z h2
  have h4 := cutAt_mem 10 l x.2 (numL_mem _ _ _ hx).1
  have h5 := cutAt_len 59 (dataL x.2)
  have h6 := data_len x.2
  rw [h3] at h5
  simp only [List.length_cons, List.length_map] at h5 ⊢
  omega

end Go.Proofs.YtljhhnpgpiglfaaDoor.Pr
