/- Texts of the claim ElementReads, joined: ELaw, HLine, HPFile. -/
import Derived.Test.YtdaijpjjilmkkaaGreatDoorZElementReads31
import Derived.Lib.Hide
import Derived.WalkMore
import Derived.Test.YtdaijpjjilmkkaaGreatDoorZElementReads22
import Derived.Test.YtdaijpjjilmkkaaGreatDoorZElementReads27
/- Plain laws of collations: what FileText writes, ParseFile reads back; what ParseFile read, FileText writes. -/
namespace Go.Proofs.YtdaijpjjilmkkaaGreatDoor.Pr
open Go.RowKit Go.Proofs.YtdaijpjjilmkkaaGreatDoorW.PrintWords Go.Proofs.YtdaijpjjilmkkaaGreatDoorW.PrintLast Go.Proofs.YtdaijpjjilmkkaaGreatDoorW.PrintMore
set_option linter.unusedVariables false
set_option linter.unusedSimpArgs false
theorem dec_ne (u : Nat) : Lib.decDigits u ≠ [] := by
  (rw [Lib.decDigits]); (split <;> simp)
theorem dig_nat (d : Nat) (h : d < 10) : (UInt8.ofNat (48 + d)).toNat = 48 + d := by
  (rw [UInt8.toNat_ofNat']); (omega)
theorem dec_mem (u : Nat) : ∀ b ∈ Lib.decDigits u, 48 ≤ b.toNat ∧ b.toNat ≤ 57 := by
  induction u using Nat.strongRecOn with
  | _ u ih =>
    (intro b hb); (rw [Lib.decDigits] at hb); (split at hb)
    · next h =>
      (simp only [List.mem_singleton] at hb); (subst hb); (rw [dig_nat u h]); (omega)
    · next h =>
      rcases List.mem_append.1 hb with hb | hb
      · exact ih (u / 10) (by omega) b hb
      · (simp only [List.mem_singleton] at hb); (subst hb); (rw [dig_nat _ (by omega)]); (omega)
theorem parse_dec (u : Nat) : ∀ r, u < 18446744073709551616 → Lib.parseUint10 0 (Lib.decDigits u ++ r) = Lib.parseUint10 u r := by
  induction u using Nat.strongRecOn with
  | _ u ih =>
    (intro r hu); (rw [Lib.decDigits]); (split)
    · next h =>
      (rw [List.singleton_append, Lib.parseUint10, dig_nat u h, if_pos (by omega), if_neg (by decide), if_neg (by omega)]); (congr 1); (omega)
    · next h =>
      (rw [List.append_assoc, ih (u / 10) (by omega) _ (by omega), List.singleton_append, Lib.parseUint10, dig_nat _ (by omega), if_pos (by omega), if_neg (by omega), if_neg (by omega)]); (congr 1); (omega)
theorem itoa_dec (u : Nat) : Lib.itoa (u : Int) = Lib.decDigits u := by
  (unfold Lib.itoa); (rw [if_neg (by omega)]); (simp)
theorem numL_itoa (n : Int) (h : 0 ≤ n ∧ n ≤ 9223372036854775807) : numL (Lib.itoa n) = some n := by
  (obtain ⟨u, rfl⟩ := Int.eq_ofNat_of_zero_le h.1); (have hu : u ≤ 9223372036854775807 := by omega); (have e := itoa_dec u); (have hm := dec_mem u); (have hp := parse_dec u [] (by omega)); (rw [List.append_nil] at hp); (unfold numL); (rw [e])
  cases hd : Lib.decDigits u with
  | nil => exact absurd hd (dec_ne u)
  | cons c r =>
    (have hc := hm c (by rw [hd]; simp)); (rw [hd] at hp)
    have ha : Lib.atoiAll (c :: r) = .ok (u : Int) := by
      (unfold Lib.atoiAll); (dsimp only); (rw [if_neg (show ¬ (c.toNat = 43 ∨ c.toNat = 45) by omega)]); (unfold Lib.parseMag); (rw [if_neg (by simp), hp, Lib.parseUint10]); (dsimp only); (rw [if_neg (by omega), if_neg (by omega), if_neg (by omega)])
    (rw [ha]); (dsimp only); (rw [if_pos ⟨by omega, by rw [e, hd]⟩])
theorem numL_some {q : List UInt8} {n : Int} (h : numL q = some n) : Lib.itoa n = q ∧ 0 ≤ n ∧ n ≤ 9223372036854775807 := by
  unfold numL at h
  cases ha : Lib.atoiAll q with
  | ok v =>
    (rw [ha] at h); (dsimp only at h); (have hb := atoi_bd q v ha); (split at h)
    · next hc => cases h; exact ⟨hc.2, hc.1, hb.2⟩
    · cases h
  | _ => rw [ha] at h; cases h
theorem numsL_cons (q : List UInt8) (r : List (List UInt8)) : numsL (q :: r) = (numL q).bind fun v => (numsL r).map fun vs => v :: vs := by
  (unfold numsL); (rw [List.mapM_cons])
  cases numL q with
  | none => rfl
  | some v => cases r.mapM numL <;> rfl
theorem numsL_some : ∀ (l : List (List UInt8)) (vs : List Int), numsL l = some vs → vs.map Lib.itoa = l ∧ ∀ v ∈ vs, 0 ≤ v ∧ v ≤ 9223372036854775807
  | [], vs, h => by cases h; exact ⟨rfl, by simp⟩
  | q :: r, vs, h => by
    (rw [numsL_cons] at h); (obtain ⟨v, h1, h⟩ := Option.bind_eq_some_iff.1 h); (obtain ⟨ys, h2, rfl⟩ := Option.map_eq_some_iff.1 h); (obtain ⟨e1, b1⟩ := numL_some h1); (obtain ⟨e2, b2⟩ := numsL_some r ys h2); (refine ⟨by rw [List.map_cons, e1, e2], fun x hx => ?_⟩); (rcases List.mem_cons.1 hx with rfl | hx)
    · exact b1
    · exact b2 x hx
theorem join2 (p q : List UInt8) (r : List (List UInt8)) (c : UInt8) : Lib.join (p :: q :: r) [c] = p ++ c :: Lib.join (q :: r) [c] := by
  (rw [Lib.join_cons, Lib.join_cons]); (unfold Lib.joinTail); (simp)
theorem join_cutAt (c : UInt8) : ∀ l : List UInt8, Lib.join (cutAt c l) [c] = l
  | [] => Lib.join_one [] [c]
  | x :: t => by
    have ih := join_cutAt c t
    obtain ⟨p, r, hp⟩ : ∃ p r, cutAt c t = p :: r := by
      cases h : cutAt c t with
      | nil => exact absurd h (cutAt_ne c t)
      | cons p r => exact ⟨p, r, rfl⟩
    by_cases h : x = c
    · (subst h); (rw [cutAt_hit, hp, join2, ← hp, ih]); (rfl)
    · (rw [cutAt_miss c x t h, hp, glue_cons, Lib.join_cons]); (rw [hp, Lib.join_cons] at ih); (rw [List.append_assoc, ih]); (rfl)
theorem join_mem (c : UInt8) : ∀ (ps : List (List UInt8)) (d : UInt8), d ∈ Lib.join ps [c] → d = c ∨ ∃ p ∈ ps, d ∈ p
  | [], d, h => by rw [Lib.join_nil] at h; cases h
  | [p], d, h => by rw [Lib.join_one] at h; exact .inr ⟨p, by simp, h⟩
  | p :: q :: r, d, h => by
    (rw [join2] at h); (rcases List.mem_append.1 h with h | h)
    · exact .inr ⟨p, by simp, h⟩
    · rcases List.mem_cons.1 h with h | h
      · exact .inl h
      · rcases join_mem c (q :: r) d h with h | ⟨x, hx, h⟩
        · exact .inl h
        · exact .inr ⟨x, List.mem_cons_of_mem _ hx, h⟩
theorem readN_some : ∀ (n : Nat) (l : List UInt8) (r : List S44), readN n l = some r → r.flatMap elT = l ∧ ∀ x ∈ r, okW x
  | 0, l, r, h => by
    (unfold readN at h); (split at h)
    · next h0 => cases h; subst h0; exact ⟨rfl, by simp⟩
    · cases h
  | n + 1, l, r, h => by
    (unfold readN at h); (split at h)
    · next h0 => cases h; subst h0; exact ⟨rfl, by simp⟩
    · split at h
      · cases h
      · next h1 h2 =>
        (obtain ⟨e, h3, h⟩ := Option.bind_eq_some_iff.1 h); (obtain ⟨r', h4, rfl⟩ := Option.map_eq_some_iff.1 h); (obtain ⟨e1, o1⟩ := oneE_some (by simp; omega) h3); (obtain ⟨e2, o2⟩ := readN_some n _ _ h4); (refine ⟨by rw [List.flatMap_cons, e1, e2, List.take_append_drop], fun x hx => ?_⟩); (rcases List.mem_cons.1 hx with rfl | hx)
        · exact o1
        · exact o2 x hx
theorem readE_some {l : List UInt8} {r : List S44} (h : readE l = some r) : r.flatMap elT = l ∧ ∀ x ∈ r, okW x := readN_some _ _ _ h
theorem valid_iff (c : Int) : validB c = true ↔ 0 ≤ c ∧ c ≤ 1114111 := by unfold validB; exact decide_eq_true_iff
theorem hexT_ne (c : Int) (h : 0 ≤ c ∧ c ≤ 1114111) : 4 ≤ (hexT c).length := by
  (obtain ⟨n, rfl⟩ := Int.eq_ofNat_of_zero_le h.1); (rw [hexT_nat n (by omega), hexL_length]); (exact (hexLen_le n).1)
theorem codesT_cons (x : Int) (r : List Int) : codesT (x :: r) = hexT x ++ Lib.joinTail [32] (r.map hexT) := by
  (unfold codesT); (rw [List.map_cons, Lib.join_cons])
theorem hexT_no64 (c : Int) : 64 ∉ hexT c := by
  (intro h); (by_cases hc : 0 ≤ c ∧ c ≤ 1114111)
  · (obtain ⟨n, rfl⟩ := Int.eq_ofNat_of_zero_le hc.1); (rw [hexT_nat n (by omega)] at h); (simp only [hexL, hexNums, List.map_map, List.mem_map, Function.comp] at h); (obtain ⟨j, _, hj⟩ := h)
    have key : ∀ q, q < 16 → UInt8.ofNat (hexDig q).toNat ≠ 64 := by
      intro q hq
      match q, hq with
      | 0, _ | 1, _ | 2, _ | 3, _ | 4, _ | 5, _ | 6, _ | 7, _ | 8, _ | 9, _ | 10, _ | 11, _ | 12, _ | 13, _ | 14, _ | 15, _ => decide
      | n + 16, h => omega
    exact key _ (Nat.mod_lt _ (by decide)) hj
  · (unfold hexT hexOf at h); (rw [if_neg hc] at h); (cases h)
theorem codes_no64 (xs : List Int) : 64 ∉ codesT xs := fun h => by
  (unfold codesT at h); (rcases join_mem 32 _ 64 h with h | ⟨p, hp, h⟩)
  · exact absurd h (by decide)
  · (obtain ⟨c, -, rfl⟩ := List.mem_map.1 hp); (exact hexT_no64 c h)
theorem codesP_some : ∀ (ps : List (List UInt8)) (acc r : List Int), codesP ps acc = (r, 0) → ∃ vs, r = acc ++ vs ∧ vs.map hexT = ps ∧ vs.all validB = true
  | [], acc, r, h => by simp [codesP] at h; exact ⟨[], by simp [h], rfl, rfl⟩
  | p :: ps, acc, r, h => by
    (rw [codesP] at h); (by_cases h0 : (parseS p).2 = 0)
    · (rw [if_pos h0] at h); (obtain ⟨vs, h1, h2, h3⟩ := codesP_some ps _ r h); (obtain ⟨e1, e2⟩ := parse_some h0); (refine ⟨(parseS p).1 :: vs, by rw [h1]; simp, by rw [List.map_cons, e1, h2], ?_⟩); (rw [List.all_cons, Bool.and_eq_true, valid_iff]); (refine ⟨⟨e2, ?_⟩, h3⟩); (by_cases hx : (parseS p).1 ≤ 1114111)
      · exact hx
      · (have hp : hexT (parseS p).1 = [] := by unfold hexT hexOf; rw [if_neg (by omega)]); (rw [e1] at hp); (subst hp); (exact absurd h0 (by decide))
    · (rw [if_neg h0] at h); (cases h)
theorem readCodes_some {l : List UInt8} (h : (readCodes l).2 = 0) : codesT (readCodes l).1 = l ∧ (readCodes l).1.all validB = true := by
  (unfold readCodes at h ⊢); (by_cases h0 : l = [])
  · (rw [if_pos h0]); (subst h0); (exact ⟨rfl, rfl⟩)
  · (rw [if_neg h0] at h ⊢); (obtain ⟨vs, h1, h2, h3⟩ := codesP_some (cutAt 32 l) [] (codesP (cutAt 32 l) []).1 (Prod.ext rfl h)); (rw [List.nil_append] at h1); (rw [h1]); (refine ⟨?_, h3⟩); (unfold codesT); (rw [h2, join_cutAt])
def baseN (a b c : Int) : List UInt8 := Lib.join [baseW, Lib.itoa a, Lib.itoa b, Lib.itoa c] [32]
def groupN (g : S46) : List UInt8 := Lib.join [groupW, g.f0.data.toList, Lib.itoa g.f1, Lib.itoa g.f2] [32]
def entryN (x : S49) : List UInt8 := codesT x.f0 ++ ([59, 32] ++ x.f1.flatMap elT)
theorem entryT_N (x : S49) : entryT x = entryN x ++ [10] := by unfold entryT entryN; simp
theorem linesOf_of {s : List UInt8} {ls : List (List UInt8)} {r : List UInt8} (h : cutAt 10 s = ls ++ [r]) : linesOf s = if r = [] then ls else ls ++ [r] := by
  (have hl : (ls ++ [r]).getLastD [] = r := by simp); (unfold linesOf); (rw [h, hl]); (by_cases hr : r = [])
  · rw [if_pos hr, if_pos hr]; simp
  · rw [if_neg hr, if_neg hr]
theorem bareL_none (l : List UInt8) (h : 35 ∉ l) : bareL l = l := by
  (unfold bareL); (rcases cut_at 35 l with ⟨h1, -⟩ | ⟨a, b, h1, -, -⟩)
  · (rw [h1]); (rfl)
  · exact absurd (by rw [h1]; simp) h
theorem goL_app : ∀ (xs ys : List (List UInt8)) (i : Nat) (st : Rd), goL (xs ++ ys) i st = match goL xs i st with | .inl st1 => goL ys (i + xs.length) st1 | .inr n => .inr n
  | [], ys, i, st => rfl
  | x :: r, ys, i, st => by
    (rw [List.cons_append, goL, goL, show i + (x :: r).length = (i + 1) + r.length by simp; omega]); (by_cases h : bareL x = [])
    · rw [if_pos h, if_pos h, goL_app r ys]
    · rw [if_neg h, if_neg h]
      cases hl : lineS st (bareL x) ((i : Int) + 1) with
      | none => rfl
      | some st1 => dsimp only; rw [goL_app r ys]
def in64 (n : Int) : Prop := 0 ≤ n ∧ n ≤ 9223372036854775807
def okG (g : S46) : Prop := nameB g.f0.data.toList = true ∧ in64 g.f1 ∧ in64 g.f2
def okX (x : S49) : Prop := x.f0.all validB = true ∧ ∀ e ∈ x.f1, okW e
theorem head_not {l : List UInt8} (h : ∀ b r, l = b :: r → b ≠ 64) : ¬ (cutAt 32 l).headD [] = groupW := by
  intro e
  cases l with
  | nil => exact absurd e (by decide)
  | cons b r =>
    (have hb := h b r rfl); (by_cases h32 : b = 32)
    · (subst h32); (rw [cutAt_hit, List.headD_cons] at e); (exact absurd e (by decide))
    · rw [cutAt_miss 32 b r h32] at e
      cases hc : cutAt 32 r with
      | nil => exact absurd hc (cutAt_ne 32 r)
      | cons p q =>
        (rw [hc, glue_cons] at e); (simp only [List.headD_cons, groupW, List.cons_append, List.nil_append, List.cons.injEq] at e); (exact hb e.1)
structure okF (l0 : List S49) (l1 : List S46) (a b c : Int) : Prop where
  g : ∀ g ∈ l1, okG g
  x : ∀ x ∈ l0, okX x
  e : ∀ x ∈ l0, errE x.f1 = 0
  n1 : in64 a
  n2 : in64 b
  n3 : in64 c
theorem bareL_cut (a b : List UInt8) (h : 35 ∉ a) : bareL (a ++ 35 :: b) = Lib.trimRightB a 32 := by
  (unfold bareL); (rcases cut_at 35 (a ++ 35 :: b) with ⟨-, h1⟩ | ⟨a', b', h1, h2, h3⟩)
  · exact absurd (by simp) h1
  · (obtain ⟨e, -⟩ := cut_uniq h1 h h2); (rw [h3, if_pos rfl, e])
end Go.Proofs.YtdaijpjjilmkkaaGreatDoor.Pr

/- The contract of the reader's method line (a line of at most 100,000 bytes): what it reads is laid into the reader. Written by wip/gen_line.py. -/
namespace Go.Proofs.YtdaijpjjilmkkaaGreatDoor.Pr
open Go.RowKit Go.Shelf Go.Proofs.YtdaijpjjilmkkaaGreatDoorW.PrintWords Go.Proofs.YtdaijpjjilmkkaaGreatDoorW.PrintLast Go.Proofs.YtdaijpjjilmkkaaGreatDoorW.PrintMore
set_option linter.unusedVariables false
set_option linter.unusedSimpArgs false
def RdIs (P : Nat) (st : Rd) (W : World) : Prop := ∃ vE vG vL : Value, W.heap[P]? = some (.cells #[vE, vG, .int .i64 st.b1, .int .i64 st.b2, .int .i64 st.b3, .bool st.bg, vL] 72 (0, 0)) ∧ Kd.S k49 49 W (P + 1) (fun k => some k ≠ vL.ownBlock) vE st.es ∧ Kd.R k46 46 W (P + 1) (fun _ => True) vG st.gs ∧ Kd.R (Kd.int .i64) 3 W (P + 1) (fun _ => True) vL st.ls
theorem numsB_L (l : List (List UInt8)) : numsB (l.map ofL) = numsL l := by
  (unfold numsB numsL); (rw [List.mapM_map]); (congr 1)
theorem numerals_f (l : List (List UInt8)) (h : l.length ≤ 1000000) (h2 : ∀ q ∈ l, q.length ≤ 1000000) : element_numerals.f (l.map ofL) = some (match numsL l with | some vs => (vs, true) | none => ([], false)) := by
  unfold element_numerals.f
  rw [if_pos ⟨by simpa using h, List.all_eq_true.2 (fun s hs => by
    obtain ⟨q, hq, rfl⟩ := List.mem_map.1 hs
    exact decide_eq_true (by rw [ofL_size]; exact h2 q hq))⟩, numsB_L]
  cases numsL l <;> rfl
theorem numsL_len : ∀ (l : List (List UInt8)) (vs : List Int), numsL l = some vs → vs.length = l.length
  | [], vs, h => by cases h; rfl
  | q :: r, vs, h => by
    (unfold numsL at h); (rw [List.mapM_cons] at h); (obtain ⟨x, -, h⟩ := Option.bind_eq_some_iff.1 h); (obtain ⟨ys, h1, h⟩ := Option.bind_eq_some_iff.1 h); (cases h); (have := numsL_len r ys h1); (simp [this])
theorem cut_le (s sep : List UInt8) : (Lib.cut s sep).1.length ≤ s.length ∧ (Lib.cut s sep).2.1.length ≤ s.length := by
  (unfold Lib.cut); (split)
  · (simp); (omega)
  · simp
theorem S_setP {α : Type} {d : Kd α} {e P : Nat} {w : World} {ok : Nat → Prop} {v : Value} {xs : List α} (h : Kd.S d e w (P + 1) ok v xs) (j : Nat) (u : Value) : Kd.S d e (w.setCell ⟨P, j, none⟩ u) (P + 1) ok v xs :=
  Kd.S_mono (Kd.S_far (p := ⟨P, j, none⟩) (Kd.S_bound h) (fun k hk => by have := hk.2.1; simp; omega) u) (fun _ hk => hk.1)
theorem R_setP {α : Type} {d : Kd α} {e P : Nat} {w : World} {ok : Nat → Prop} {v : Value} {xs : List α} (h : Kd.R d e w (P + 1) ok v xs) (j : Nat) (u : Value) : Kd.R d e (w.setCell ⟨P, j, none⟩ u) (P + 1) ok v xs :=
  Kd.R_mono (Kd.R_far (p := ⟨P, j, none⟩) (Kd.R_bound h) (fun k hk => by have := hk.2.1; simp; omega) u) (fun _ hk => hk.1)
theorem infoEntry : (Tryz.prog.info? 49).map (fun i => (i.zero, i.size, i.bytes)) = some (some (.agg #[.slice none 0 0, .slice none 0 0]), 2, 48) := by kernel_rfl
def reader_line.T6 : Bool × List (List Nat × List Nat) := (true, [([], []), ([], []), ([], []), ([], []), ([3], [3]), ([4], [4]), ([], []), ([6], [6]), ([7], [7]), ([], []), ([9], [9]), ([10], [10]), ([0, 0, 3, 4, 5, 8, 11], [0]), ([12, 0, 3, 4, 5, 8, 11], [12]), ([13, 0, 3, 4, 5, 8, 11], [13]), ([14, 5, 0, 3, 4, 5, 8, 11], [5, 14]), ([1, 0, 1, 3, 4, 5, 6, 7, 8, 11, 12, 13, 14, 15], [1]), ([16, 0, 1, 3, 4, 5, 6, 7, 8, 11, 12, 13, 14, 15], [16]), ([17, 0, 1, 3, 4, 5, 6, 7, 8, 11, 12, 13, 14, 15], [17]), ([18, 8, 15, 0, 1, 3, 4, 5, 6, 7, 8, 11, 12, 13, 14, 15], [8, 18]), ([2, 0, 1, 2, 3, 4, 5, 6, 7, 8, 9, 10, 11, 12, 13, 14, 15, 16, 17, 18, 19], [2]), ([20, 0, 1, 2, 3, 4, 5, 6, 7, 8, 9, 10, 11, 12, 13, 14, 15, 16, 17, 18, 19], [20]), ([21, 0, 1, 2, 3, 4, 5, 6, 7, 8, 9, 10, 11, 12, 13, 14, 15, 16, 17, 18, 19], [21]), ([22, 11, 19, 0, 1, 2, 3, 4, 5, 6, 7, 8, 9, 10, 11, 12, 13, 14, 15, 16, 17, 18, 19], [11, 22])])
def reader_line.B6 : List Nat := [0, 0, 0, 0, 8, 24, 0, 64, 192, 0, 512, 1536, 4089, 8185, 16377, 32761, 65531, 131067, 262139, 524283, 1048575, 2097151, 4194303, 8388607]
theorem reader_line.tab6 : rtab .any (opsOf Tryz.f39 6) = reader_line.T6 := by kernel_rfl
theorem reader_line.bits6 : waitsOk reader_line.T6.2 reader_line.B6 = true := by kernel_rfl
def reader_line.T14 : Bool × List (List Nat × List Nat) := (true, [([], []), ([], []), ([1], [1]), ([2], [2]), ([3], [3]), ([4], [4]), ([], []), ([6], [6]), ([7], [7]), ([], []), ([9], [9]), ([10], [10]), ([], []), ([12], [12]), ([13], [13]), ([8, 11, 14], [8, 11, 14]), ([15], [15]), ([5, 16], [5, 16]), ([0, 0, 1, 2, 3, 4, 5, 6, 7, 8, 9, 10, 11, 12, 13, 14, 15, 16, 17], [0]), ([18, 0, 1, 2, 3, 4, 5, 6, 7, 8, 9, 10, 11, 12, 13, 14, 15, 16, 17], [18]), ([19, 0, 1, 2, 3, 4, 5, 6, 7, 8, 9, 10, 11, 12, 13, 14, 15, 16, 17], [19]), ([20, 17, 17, 0, 1, 2, 3, 4, 5, 6, 7, 8, 9, 10, 11, 12, 13, 14, 15, 16, 17], [17, 20])])
def reader_line.B14 : List Nat := [0, 0, 2, 6, 14, 30, 0, 64, 192, 0, 512, 1536, 0, 4096, 12288, 32704, 65472, 131070, 262143, 524287, 1048575, 2097151]
theorem reader_line.tab14 : rtab .any (opsOf Tryz.f39 14) = reader_line.T14 := by kernel_rfl
theorem reader_line.bits14 : waitsOk reader_line.T14.2 reader_line.B14 = true := by kernel_rfl
set_option maxRecDepth 100000 in
set_option maxHeartbeats 8000000 in
theorem line_calls (P : Nat) (st : Rd) (s : List UInt8) (n : Int) (w : World) (hs : s.length ≤ 100000) (hI : RdIs P st w) (hl : st.es.length ≤ 200000 ∧ st.gs.length ≤ 200000 ∧ st.ls.length ≤ 200000) (hG : GW w) :
    Calls Tryz.prog 39 #[.pointer (some ⟨P, 0, none⟩), .string (ofL s), .int .i64 n] w fun e w' => e = .returned (.bool (lineS st s n).isSome) ∧ Below P w w' ∧ ∀ st1, lineS st s n = some st1 → RdIs P st1 w' := by
  (obtain ⟨vE, vG, vL, hX, hE, hGr, hL⟩ := hI); (obtain ⟨AE, cE, rfl⟩ := Kd.S_slice hE); (obtain ⟨AG, cG, rfl⟩ := Kd.R_slice hGr); (obtain ⟨AL, cL, rfl⟩ := Kd.R_slice hL); (have HG := Aside0.mk hG); (have HX := Aside0.mk hX); (have HE := Aside0.mk hE); (have HGr := Aside0.mk hGr); (have HL := Aside0.mk hL); (have hP := blk_lt hX); (obtain ⟨hle, hlg, hll⟩ := hl); (clear hG hE hGr hL); (obtain ⟨PS, hPS⟩ : ∃ PS, cutAt 32 s = PS := ⟨_, rfl⟩); (have HPS := Aside0.mk hPS); (have hne : PS ≠ [] := by rw [← hPS]; exact cutAt_ne 32 s); (have hpl : PS.length ≤ 100001 := by rw [← hPS]; have := cutAt_len 32 s; omega); (have HPM : Aside0 (∀ q ∈ PS, q.length ≤ 100000) := ⟨fun q hq => by rw [← hPS] at hq; have := cutAt_mem 32 s q hq; omega⟩); (have hsp : Aside0 (strings_Split.f (ofL s) (⟨#[32]⟩ : ByteArray) = some (PS.map ofL)) := ⟨by rw [← hPS]; exact splitc_f 32 s (by omega)⟩); (obtain ⟨p, PT, rfl⟩ : ∃ p PT, PS = p :: PT := by cases PS with | nil => exact absurd rfl hne | cons p PT => exact ⟨p, PT, rfl⟩); (have hpt : PT.length ≤ 100000 := by simp at hpl; omega); (clear hPS hne hpl); (go_enter Tryz.func39, Tryz.ntmps39); (go_wp2_with fail); (refine (strings_Split.calls _ _ _ _ hsp.out HG.out).mono ?_); (rintro e W1 ⟨v, rfl, hR, hb⟩); (obtain ⟨A1, c1, rfl⟩ := Kd.R_slice hR); (have HR := Aside0.mk hR); (have hX1 := (hb.block _ hP).trans HX.out); (have HB1 := Aside0.mk hb); (obtain ⟨ad, rfl, hx⟩ := Kd.at_string (Kd.R_reads' HR.out).2.2 0 (by decide) (by simp)); (rw [show rdOf ByteArray.empty ((p :: PT).map ofL) 0 = ofL p from rfl] at hx); (try rw [show (0 : Int).toNat = 0 from rfl] at hx); (try rw [Addr.add_zero'] at hx); (clear hX hR hb); (have hc1 := (Kd.R_reads' HR.out).2.1); (obtain ⟨i0, hi0, _, hsz, _⟩ := info_parts info9)
  cases hbg : st.bg with
  | false =>
    (have b5 : W1.cell? ⟨P, 5, none⟩ = some (.bool false) := by rw [← hbg]; exact (blk_cell hX1 5).trans rfl); (obtain ⟨Ad, hcut, hA, hC⟩ := print_drop_of (P := Tryz.prog) Value.string ByteArray.empty 68 9 .i64 Tryz.underlying68 hi0 hsz (some ad) c1 ((p :: PT).map ofL) 1 (by decide) (by simp; omega) hc1); (have HC : Aside0 (Kd.C Kd.string W1 Ad (PT.map ofL).length (PT.map ofL)) := ⟨Kd.C_of_reads (h1 := fun _ => rfl) (hA _ (Kd.reads_of_C (Kd.R_reads' HR.out).2.2))⟩)
    have hcut1 : ∀ W, (Instr.slice 68 (.slice (some ad) (PT.length + 1) c1) (some (.int .i64 1)) none none).run Tryz.prog W = .ok (.slice Ad PT.length (c1 - 1)) W := by
      (intro W); (have := hcut W); (simpa using this)
    (have hC1 : PT.length ≤ c1 - 1 := by simpa using hC); (clear hA hi0 hsz hcut hC); (obtain ⟨VS, OK, hVO⟩ : ∃ VS OK, (match numsL PT with | some vs => (vs, true) | none => ([], false)) = (VS, OK) := ⟨_, _, rfl⟩); (have hnf := numerals_f PT (by omega) (fun q hq => by have := HPM.out q (by simp [hq]); omega)); (rw [hVO] at hnf); (have HNF := Aside0.mk hnf); (have HVO := Aside0.mk hVO); (clear hnf hVO); (go_wp2_with fail); (have hcall := element_numerals.calls Ad (c1 - 1) (PT.map ofL) VS OK W1 HC.out (by simpa using hC1) HNF.out (GW.below HG.out HB1.out)); (rw [List.length_map] at hcall); (refine hcall.mono ?_); (rintro e W2 ⟨v, rfl, hN, hb⟩); (obtain ⟨A2, c2, rfl⟩ := Kd.R_slice hN); (have hX2 := (hb.block _ (blk_lt hX1)).trans hX1); (have HB2 := Aside0.mk (HB1.out.trans (hb.mono HB1.out.size))); (have hx2 := (hb.cell (World.block_lt_of_cell? W1 _ hx)).trans hx); (have HN := Aside0.mk hN); (clear hb hN hcall hcut1 hC1 HC b5 hx); (have HLB : Aside0 (lineS st s n = lineB st (p :: PT)) := ⟨by unfold lineS; rw [if_pos hbg, HPS.out]⟩); (by_cases hpb : p = baseW)
    · have e1 : (p == [64, 98, 97, 115, 101]) = true := by rw [hpb]; rfl
      cases hv : numsL PT with
      | none =>
        (have HNO : Aside0 (lineS st s n = none) := ⟨by rw [HLB.out]; unfold lineB; rw [if_pos (show (p :: PT).headD [] = baseW from hpb), show (p :: PT).drop 1 = PT from rfl, hv]⟩); (have hvo := HVO.out); (rw [hv] at hvo); (cases hvo); (clear hv hpb); (go_wp2); (go_ret)
        exact ⟨by rw [HNO.out]; rfl, HB2.out.mono (by omega), fun st1 h => by rw [HNO.out] at h; cases h⟩
      | some vs =>
        (have hvo := HVO.out); (rw [hv] at hvo); (cases hvo); (by_cases h3 : VS.length = 3)
        · obtain ⟨x, y, z, rfl⟩ : ∃ x y z, VS = [x, y, z] := by
            match VS, h3 with
            | [a, b, c], _ => exact ⟨a, b, c, rfl⟩
          (have HYES : Aside0 (lineS st s n = some ⟨st.es, st.gs, x, y, z, true, st.ls⟩) := ⟨by rw [HLB.out]; unfold lineB; rw [if_pos (show (p :: PT).headD [] = baseW from hpb), show (p :: PT).drop 1 = PT from rfl, hv]⟩); (obtain ⟨ad2, rfl, k0⟩ := Kd.at_int (Kd.R_reads' HN.out).2.2 0 (by decide) (by simp)); (obtain ⟨ad3, e3, k1⟩ := Kd.at_int (Kd.R_reads' HN.out).2.2 1 (by decide) (by simp)); (cases e3); (obtain ⟨ad3, e3, k2⟩ := Kd.at_int (Kd.R_reads' HN.out).2.2 2 (by decide) (by simp)); (cases e3)
          replace k0 : W2.cell? ad2 = some (.int .i64 x) := by
            (rw [show (0 : Int).toNat = 0 from rfl, Addr.add_zero'] at k0); (exact k0)
          (replace k1 : W2.cell? ⟨ad2.block, ad2.off + 1, none⟩ = some (.int .i64 y) := k1); (replace k2 : W2.cell? ⟨ad2.block, ad2.off + 2, none⟩ = some (.int .i64 z) := k2); (clear hv hpb h3); (go_wp2_with fail); (have hX3 := blk_drew hX2); (have HB3 := Aside0.mk (below_drew HB2.out)); (refine start_ (n := 24) (S := fun w' => w'.cell? ad2 = some (.int .i64 x) ∧ w'.cell? ⟨ad2.block, ad2.off + 1, none⟩ = some (.int .i64 y) ∧ w'.cell? ⟨ad2.block, ad2.off + 2, none⟩ = some (.int .i64 z)) (ds := [15, 19, 23]) #[false, false, false, false, false, false, false, false, false, false, false, false, false, false, false, false, false, false, false, false, false, false, false, false] (by kernel_rfl) rfl rfl ⟨k0, k1, k2⟩ (fun hHeld => ?_); refine with_tabW reader_line.tab6 reader_line.bits6 (fun HT_ HW_ => ?_)); (generalize W2.drew = W3 at hX3 HB3 k0 k1 k2 hHeld ⊢); (refine Pq 0 46 (Bt 24 1) ?_); (refine Pq 1 47 (Bt 24 3) ?_); (refine Pq 2 48 (Bt 24 7) ?_); (refine Pq 3 49 (Bt 24 15) ?_); (refine Pq 4 50 (Bt 24 31) ?_); (refine Tk 5 51 (Bt 24 63) ?_); (refine Pq 6 52 (Bt 24 127) ?_); (refine Pq 7 53 (Bt 24 255) ?_); (refine Tk 8 54 (Bt 24 511) ?_); (refine Pq 9 55 (Bt 24 1023) ?_); (refine Pq 10 56 (Bt 24 2047) ?_); (refine Tk 11 57 (Bt 24 4095) ?_); (refine Pq 12 58 (Bt 24 8191) ?_); (refine Pq 13 59 (Bt 24 16383) ?_); (refine Pq 14 60 (Bt 24 32767) ?_); (refine last_ (i := 15) (N := none) #[true, true, true, true, true, true, true, true, true, true, true, true, true, true, true, true, false, false, false, false, false, false, false, false] rfl rfl (one_of HT_.out (by kernel_rfl)) (by decide) (fun K hK => ?_)); (have s0 := (blk_cell hX3 2).trans rfl); (have f0 := blk_frozen hX3 2); (refine skip_ (w1 := ?_) (by rfl) rfl ?_ ?_); (rotate_left)
          · (go_simp); (rfl)
          (refine hK.out _ _ ?_); (clear hK K s0 f0); (have hX4 := blk_put hX3 2 (.int .i64 x) rfl); (refine Pq 16 61 (Bt 24 131071) ?_); (refine Pq 17 62 (Bt 24 262143) ?_); (refine Pq 18 63 (Bt 24 524287) ?_); (refine last_ (i := 19) (N := none) #[true, true, true, true, true, true, true, true, true, true, true, true, true, true, true, true, true, true, true, true, false, false, false, false] rfl rfl (one_of HT_.out (by kernel_rfl)) (by decide) (fun K hK => ?_)); (have s0 := (blk_cell hX4 3).trans rfl); (have f0 := blk_frozen hX4 3); (refine skip_ (w1 := ?_) (by rfl) rfl ?_ ?_); (rotate_left)
          · (go_simp); (rfl)
          (refine hK.out _ _ ?_); (clear hK K s0 f0); (have hX5 := blk_put hX4 3 (.int .i64 y) rfl); (refine Pq 20 64 (Bt 24 2097151) ?_); (refine Pq 21 65 (Bt 24 4194303) ?_); (refine Pq 22 66 (Bt 24 8388607) ?_); (refine last_ (i := 23) (N := none) #[true, true, true, true, true, true, true, true, true, true, true, true, true, true, true, true, true, true, true, true, true, true, true, true] rfl rfl (one_of HT_.out (by kernel_rfl)) (by decide) (fun K hK => ?_)); (have s0 := (blk_cell hX5 4).trans rfl); (have f0 := blk_frozen hX5 4); (refine skip_ (w1 := ?_) (by rfl) rfl ?_ ?_); (rotate_left)
          · (go_simp); (rfl)
          (refine hK.out _ _ ?_); (clear hK K s0 f0); (have hX6 := blk_put hX5 4 (.int .i64 z) rfl); (refine done_ (done_of HT_.out (by kernel_rfl)) ?_); (have b5 := (blk_cell hX6 5).trans rfl); (have f5 := blk_frozen hX6 5); (go_wp2); (go_ret); (have hbP : Below P w W3 := HB3.out.mono (by omega)); (refine ⟨by rw [HYES.out]; rfl, Below.setCell (Below.setCell (Below.setCell (Below.setCell hbP (Nat.le_refl _) _) (Nat.le_refl _) _) (Nat.le_refl _) _) (Nat.le_refl _) _, fun st1 h => ?_⟩); (rw [HYES.out] at h); (cases h); (exact ⟨_, _, _, blk_put hX6 5 (.bool true) rfl, S_setP (S_setP (S_setP (S_setP (Kd.S_below HE.out HB3.out) _ _) _ _) _ _) _ _, R_setP (R_setP (R_setP (R_setP (Kd.R_below HGr.out HB3.out) _ _) _ _) _ _) _ _, R_setP (R_setP (R_setP (R_setP (Kd.R_below HL.out HB3.out) _ _) _ _) _ _) _ _⟩)
        · have n3 : ((VS.length : Int) != 3) = true := bne_iff_ne.2 (by omega)
          have HNO : Aside0 (lineS st s n = none) := ⟨by
            (rw [HLB.out]; unfold lineB); (rw [if_pos (show (p :: PT).headD [] = baseW from hpb), show (p :: PT).drop 1 = PT from rfl, hv]); (split)
            · next h => cases h; exact absurd rfl h3
            · rfl⟩
          (clear hv hpb h3); (go_wp2); (go_ret); (exact ⟨by rw [HNO.out]; rfl, HB2.out.mono (by omega), fun st1 h => by rw [HNO.out] at h; cases h⟩)
    · (have e1 : (p == [64, 98, 97, 115, 101]) = false := beq_eq_false_iff_ne.2 hpb); (have HNO : Aside0 (lineS st s n = none) := ⟨by rw [HLB.out]; unfold lineB; rw [if_neg (show ¬ (p :: PT).headD [] = baseW from hpb)]⟩); (clear hpb); (go_wp2); (go_ret)
      exact ⟨by rw [HNO.out]; rfl, HB2.out.mono (by omega), fun st1 h => by rw [HNO.out] at h; cases h⟩
  | true =>
    (have b5 : W1.cell? ⟨P, 5, none⟩ = some (.bool true) := by rw [← hbg]; exact (blk_cell hX1 5).trans rfl); (by_cases hpg : p = groupW)
    · (have e1 : (p == [64, 103, 114, 111, 117, 112]) = true := by rw [hpg]; rfl); (have HLG : Aside0 (lineS st s n = lineG st (p :: PT)) := ⟨by unfold lineS; rw [if_neg (by rw [hbg]; decide), HPS.out, if_pos (show (p :: PT).headD [] = groupW from hpg)]⟩); (clear hpg); (by_cases h4 : PT.length = 3)
      · obtain ⟨q, r, t, rfl⟩ : ∃ q r t, PT = [q, r, t] := by
          match PT, h4 with
          | [a, b, c], _ => exact ⟨a, b, c, rfl⟩
        (obtain ⟨ad3, e3, kq⟩ := Kd.at_string (Kd.R_reads' HR.out).2.2 1 (by decide) (by simp)); (cases e3); (replace kq : W1.cell? ⟨ad.block, ad.off + 1, none⟩ = some (.string (ofL q)) := kq); (go_wp2_with fail); (refine (element_isName.calls (ofL q) (nameB q) W1 (by unfold element_isName.f; rw [ofL_list])).mono ?_); (rintro e W2 ⟨rfl, hb⟩); (have hX2 := (hb.block _ (blk_lt hX1)).trans hX1); (have HB2 := Aside0.mk (HB1.out.trans (hb.mono HB1.out.size))); (have HR2 := Aside0.mk (Kd.R_below HR.out hb)); (replace kq := (hb.cell (World.block_lt_of_cell? W1 _ kq)).trans kq); (replace hx := (hb.cell (World.block_lt_of_cell? W1 _ hx)).trans hx); (clear hb b5 HR)
        cases hn : nameB q with
        | false =>
          (have HNO : Aside0 (lineS st s n = none) := ⟨by rw [HLG.out]; unfold lineG; rw [if_neg (fun h => by have := h.2.1; rw [show (p :: [q, r, t]).getD 1 [] = q from rfl, hn] at this; cases this)]⟩); (go_wp2); (go_ret)
          exact ⟨by rw [HNO.out]; rfl, HB2.out.mono (by omega), fun st1 h => by rw [HNO.out] at h; cases h⟩
        | true =>
          (have a0 : W2.cell? ⟨P, 0, none⟩ = some (.slice AE st.es.length cE) := (blk_cell hX2 0).trans rfl); (by_cases hes : st.es.length = 0)
          · (have hes0 : st.es = [] := List.eq_nil_of_length_eq_zero hes); (have g0 : decide ((0 : Int) < (st.es.length : Int)) = false := decide_eq_false (by omega)); (have g1 : decide (0 < st.es.length) = false := decide_eq_false (by omega))
            have HLG2 : Aside0 (lineS st s n = match numsL [r, t] with | some [x, y] => some ⟨st.es, st.gs ++ [⟨ofL q, x, y⟩], st.b1, st.b2, st.b3, st.bg, st.ls⟩ | _ => none) := ⟨by
              rw [HLG.out]; unfold lineG; rw [if_pos ⟨rfl, hn, hes0⟩]; rfl⟩
            (clear hes0); (obtain ⟨Ad, hcut, hA, hC⟩ := print_drop_of (P := Tryz.prog) Value.string ByteArray.empty 68 9 .i64 Tryz.underlying68 hi0 hsz (some ad) c1 ((p :: [q, r, t]).map ofL) 2 (by decide) (by simp) hc1); (have HC : Aside0 (Kd.C Kd.string W2 Ad ([r, t].map ofL).length ([r, t].map ofL)) := ⟨Kd.C_of_reads (h1 := fun _ => rfl) (hA _ (Kd.reads_of_C (Kd.R_reads' HR2.out).2.2))⟩)
            have hcut1 : ∀ W, (Instr.slice 68 (.slice (some ad) 4 c1) (some (.int .i64 2)) none none).run Tryz.prog W = .ok (.slice Ad 2 (c1 - 2)) W := by
              (intro W); (have := hcut W); (simpa using this)
            (have hC1 : 2 ≤ c1 - 2 := by simpa using hC); (clear hA hi0 hsz hcut hC); (obtain ⟨VS, OK, hVO⟩ : ∃ VS OK, (match numsL [r, t] with | some vs => (vs, true) | none => ([], false)) = (VS, OK) := ⟨_, _, rfl⟩); (have hnf := numerals_f [r, t] (by simp) (fun u hu => by have := HPM.out u (by simp at hu ⊢; rcases hu with h | h <;> simp [h]); omega)); (rw [hVO] at hnf); (have HNF := Aside0.mk hnf); (have HVO := Aside0.mk hVO); (clear hnf hVO); (go_wp2_with fail); (refine (element_numerals.calls Ad (c1 - 2) ([r, t].map ofL) VS OK W2 HC.out hC1 HNF.out (GW.below HG.out HB2.out)).mono ?_); (rintro e W3 ⟨v, rfl, hN, hb⟩); (obtain ⟨A2, c2, rfl⟩ := Kd.R_slice hN); (have hX3 := (hb.block _ (blk_lt hX2)).trans hX2); (have HB3 := Aside0.mk (HB2.out.trans (hb.mono HB2.out.size))); (replace kq := (hb.cell (World.block_lt_of_cell? W2 _ kq)).trans kq); (have HN := Aside0.mk hN); (clear hb hN hcut1 hC1 HC a0 hx hX2)
            cases hv : numsL [r, t] with
            | none =>
              (have hvo := HVO.out); (rw [hv] at hvo); (cases hvo); (have HNO : Aside0 (lineS st s n = none) := ⟨by rw [HLG2.out, hv]⟩); (clear hv); (go_wp2); (go_ret)
              exact ⟨by rw [HNO.out]; rfl, HB3.out.mono (by omega), fun st1 h => by rw [HNO.out] at h; cases h⟩
            | some vs =>
              (have hvo := HVO.out); (rw [hv] at hvo); (cases hvo)
              obtain ⟨x, y, rfl⟩ : ∃ x y, VS = [x, y] := by
                have h2 := numsL_len _ _ hv
                match VS, h2 with
                | [a, b], _ => exact ⟨a, b, rfl⟩
              (have HYES : Aside0 (lineS st s n = some ⟨st.es, st.gs ++ [⟨ofL q, x, y⟩], st.b1, st.b2, st.b3, st.bg, st.ls⟩) := ⟨by rw [HLG2.out, hv]⟩); (obtain ⟨ad2, rfl, k0⟩ := Kd.at_int (Kd.R_reads' HN.out).2.2 0 (by decide) (by simp)); (obtain ⟨ad3, e3, k1⟩ := Kd.at_int (Kd.R_reads' HN.out).2.2 1 (by decide) (by simp)); (cases e3)
              replace k0 : W3.cell? ad2 = some (.int .i64 x) := by
                (rw [show (0 : Int).toNat = 0 from rfl, Addr.add_zero'] at k0); (exact k0)
              (replace k1 : W3.cell? ⟨ad2.block, ad2.off + 1, none⟩ = some (.int .i64 y) := k1); (have kG : W3.cell? ⟨P, 1, none⟩ = some (.slice AG st.gs.length cG) := (blk_cell hX3 1).trans rfl); (clear hv); (go_wp2_with fail); (have hX4 := blk_drew hX3); (have HB4 := Aside0.mk (below_drew HB3.out)); (have HE4 := Aside0.mk (Kd.S_below HE.out HB4.out)); (have HG4 := Aside0.mk (Kd.R_below HGr.out HB4.out)); (have HL4 := Aside0.mk (Kd.R_below HL.out HB4.out)); (replace kG : W3.drew.cell? ⟨P, 1, none⟩ = some (.slice AG st.gs.length cG) := kG); (replace kq : W3.drew.cell? ⟨ad.block, ad.off + 1, none⟩ = some (.string (ofL q)) := kq); (replace k0 : W3.drew.cell? ad2 = some (.int .i64 x) := k0); (replace k1 : W3.drew.cell? ⟨ad2.block, ad2.off + 1, none⟩ = some (.int .i64 y) := k1); (refine start_ (n := 22) (S := fun w' => w'.cell? ⟨P, 1, none⟩ = some (.slice AG st.gs.length cG) ∧ w'.cell? ⟨ad.block, ad.off + 1, none⟩ = some (.string (ofL q)) ∧ w'.cell? ad2 = some (.int .i64 x) ∧ w'.cell? ⟨ad2.block, ad2.off + 1, none⟩ = some (.int .i64 y)) (ds := [17, 21]) #[false, false, false, false, false, false, false, false, false, false, false, false, false, false, false, false, false, false, false, false, false, false] (by kernel_rfl) rfl rfl ⟨kG, kq, k0, k1⟩ (fun hHeld => ?_); refine with_tabW reader_line.tab14 reader_line.bits14 (fun HT_ HW_ => ?_)); (generalize W3.drew = W4 at hX4 HB4 HE4 HG4 HL4 kG kq k0 k1 hHeld ⊢); (refine Pq 0 101 (Bt 22 1) ?_); (refine Pq 1 102 (Bt 22 3) ?_); (refine Pq 2 103 (Bt 22 7) ?_); (refine Pq 3 104 (Bt 22 15) ?_); (refine Pq 4 105 (Bt 22 31) ?_); (refine Tk 5 106 (Bt 22 63) ?_); (refine Pq 6 107 (Bt 22 127) ?_); (refine Pq 7 108 (Bt 22 255) ?_); (refine Tk 8 109 (Bt 22 511) ?_); (refine Pq 9 110 (Bt 22 1023) ?_); (refine Pq 10 111 (Bt 22 2047) ?_); (refine Tk 11 112 (Bt 22 4095) ?_); (refine Pq 12 113 (Bt 22 8191) ?_); (refine Pq 13 114 (Bt 22 16383) ?_); (refine Tk 14 115 (Bt 22 32767) ?_); (refine Pq 15 116 (Bt 22 65535) ?_); (refine On 16 (some 117) (Bt 22 131071) (fun K hK => ?_)); (refine value_ (w1 := ?_) (v := ?_) (by rfl) rfl ?_ ?_); (rotate_left 2)
              · (go_simp); (constructor)
                · rfl
                · rfl
              (refine hK.out _ _ ⟨(World.cell?_alloc_lt _ _ _ (World.block_lt_of_cell? _ _ kG)).trans kG, (World.cell?_alloc_lt _ _ _ (World.block_lt_of_cell? _ _ kq)).trans kq, (World.cell?_alloc_lt _ _ _ (World.block_lt_of_cell? _ _ k0)).trans k0, (World.cell?_alloc_lt _ _ _ (World.block_lt_of_cell? _ _ k1)).trans k1⟩ (fun hHeld => ?_)); (clear hK K); (refine norm_ (a' := ?_) ?_ ?_); (rotate_left)
              · (show Act.put _ (some 117) _ = _); (simp only [Act.put, List.setIfInBounds_toArray, List.set_cons_zero, List.set_cons_succ, i64_w, i32_w]); (rfl)
              (refine last_ (i := 17) (N := some 118) #[true, true, true, true, true, true, true, true, true, true, true, true, true, true, true, true, true, true, false, false, false, false] rfl rfl (one_of HT_.out (by kernel_rfl)) (by decide) (fun K hK => ?_)); (refine Kd.R_append_step k46 (w0 := W4) (P + 1) (by rfl) (.tmp 106) (.tmp 117) 33 46 (.agg #[.string ⟨#[]⟩, .int .i64 0, .int .i64 0]) 32 rfl Tryz.underlying33 info46 rfl (by decide) (by omega) (.slice AG st.gs.length cG) st.gs ⟨ofL q, x, y⟩ [.string (ofL q), .int .i64 x, .int .i64 y] (fun _ => True) (fun _ => False) rfl rfl ?aP (fun _ hk => hk.elim) (fun _ _ => trivial) HG4.out (Below.refl _ _) (by have := HB4.out.size; omega) (by omega) ?_); (case aP => exact k46_mkM _ _ _ ⟨ofL q, x, y⟩); (intro v1 W5 hR5 hb5 hg5 hat5); (obtain ⟨A5, c5, rfl⟩ := Kd.R_slice hR5); (have hX5 := blk_grown hX4 hg5 (fun e => by have := Kd.R_base HG4.out P e.symm; omega)); (have hE5 := Kd.S_over' HE4.out (Kd.R_typed HG4.out) (by decide) hg5); (have hL5 := Kd.R_over' HL4.out (Kd.R_typed HG4.out) (by decide) hg5); (refine hK.out _ _ ?_); (clear hK K); (refine norm_ (a' := ?_) ?_ ?_); (rotate_left)
              · (show Act.put _ (some 118) _ = _); (simp only [Act.put, List.setIfInBounds_toArray, List.set_cons_zero, List.set_cons_succ, i64_w, i32_w]); (rfl)
              (refine Pq 18 119 (Bt 22 524287) ?_); (refine Pq 19 120 (Bt 22 1048575) ?_); (refine Pq 20 121 (Bt 22 2097151) ?_); (refine last_ (i := 21) (N := none) #[true, true, true, true, true, true, true, true, true, true, true, true, true, true, true, true, true, true, true, true, true, true] rfl rfl (one_of HT_.out (by kernel_rfl)) (by decide) (fun K hK => ?_)); (have s0 := (blk_cell hX5 1).trans rfl); (have f0 := blk_frozen hX5 1); (refine skip_ (w1 := ?_) (by rfl) rfl ?_ ?_); (rotate_left)
              · (go_simp); (rfl)
              (refine hK.out _ _ ?_); (clear hK K s0 f0); (refine done_ (done_of HT_.out (by kernel_rfl)) ?_); (go_wp2); (go_ret); (have hbP : Below P w W5 := (HB4.out.mono (by omega)).trans (hb5.mono (by omega))); (refine ⟨by rw [HYES.out]; rfl, Below.setCell hbP (Nat.le_refl _) _, fun st1 h => ?_⟩); (rw [HYES.out] at h); (cases h); (rw [show (st.gs ++ [(⟨ofL q, x, y⟩ : S46)]).length = st.gs.length + 1 by simp] at hR5); (exact ⟨_, _, _, blk_put hX5 1 _ rfl, S_setP hE5 _ _, R_setP hR5 _ _, R_setP hL5 _ _⟩)
          · (have g0 : decide ((0 : Int) < (st.es.length : Int)) = true := decide_eq_true (by omega)); (have g1 : decide (0 < st.es.length) = true := decide_eq_true (by omega)); (have HNO : Aside0 (lineS st s n = none) := ⟨by rw [HLG.out]; unfold lineG; rw [if_neg (fun h => hes (by rw [h.2.2]; rfl))]⟩); (go_wp2); (go_ret); (exact ⟨by rw [HNO.out]; rfl, HB2.out.mono (by omega), fun st1 h => by rw [HNO.out] at h; cases h⟩)
      · (have n4 : ((PT.length : Int) + 1 != 4) = true := bne_iff_ne.2 (by omega)); (have HNO : Aside0 (lineS st s n = none) := ⟨by rw [HLG.out]; unfold lineG; rw [if_neg (fun h => h4 (by have := h.1; simp at this; omega))]⟩); (go_wp2); (go_ret); (exact ⟨by rw [HNO.out]; rfl, HB1.out.mono (by omega), fun st1 h => by rw [HNO.out] at h; cases h⟩)
    · (have e1 : (p == [64, 103, 114, 111, 117, 112]) = false := beq_eq_false_iff_ne.2 hpg); (have HLE : Aside0 (lineS st s n = lineE st s n) := ⟨by unfold lineS; rw [if_neg (by rw [hbg]; decide), HPS.out, if_neg (show ¬ (p :: PT).headD [] = groupW from hpg)]⟩); (clear hpg); (obtain ⟨⟨Ca, Cb, Cf⟩, hcut⟩ : ∃ C, Lib.cut s [59, 32] = C := ⟨_, rfl⟩); (have hcl := cut_le s [59, 32]); (rw [hcut] at hcl); (dsimp only at hcl)
      have HCF : Aside0 (strings_Cut.f (ofL s) (⟨#[59, 32]⟩ : ByteArray) = some (ofL Ca, ofL Cb, Cf)) := ⟨by
        (have := cut_f s [59, 32] (by omega)); (rw [hcut] at this)
        exact this⟩
      (have HLE2 : Aside0 (lineS st s n = if Cf = true ∧ (readCodes Ca).2 = 0 then (readE Cb).map fun els => ⟨st.es ++ [⟨(readCodes Ca).1, els⟩], st.gs, st.b1, st.b2, st.b3, st.bg, st.ls ++ [n]⟩ else none) := ⟨by rw [HLE.out]; unfold lineE; rw [hcut]⟩); (clear hcut); (obtain ⟨K1, hK1⟩ := pcodes_ev Ca (by omega)); (have HK1 := Aside0.mk (hK1 K1 (Nat.le_refl _))); (obtain ⟨K2, hK2⟩ := read_ev Cb (by omega)); (have HK2 := Aside0.mk (hK2 K2 (Nat.le_refl _))); (clear hK1 hK2); (go_wp2_with fail); (refine (strings_Cut.calls _ _ _ _ _ _ HCF.out (GW.below HG.out HB1.out)).mono ?_); (rintro e W2 ⟨rfl, hb⟩); (have hX2 := (hb.block _ (blk_lt hX1)).trans hX1); (have HB2 := Aside0.mk (HB1.out.trans (hb.mono HB1.out.size))); (clear hb b5 HR hx hX1); (go_wp2_with fail); (refine (escape_ParseCodes.calls K1 (ofL Ca) (readCodes Ca).1 (readCodes Ca).2 W2 HK1.out (GW.below HG.out HB2.out)).mono ?_); (rintro e W3 ⟨vC, rfl, hC3, hb⟩); (have hX3 := (hb.block _ (blk_lt hX2)).trans hX2); (have HB23 := Aside0.mk hb); (have HB3 := Aside0.mk (HB2.out.trans (hb.mono HB2.out.size))); (obtain ⟨AC, cC, rfl⟩ := Kd.R_slice hC3); (have HC3 := Aside0.mk hC3); (clear hb hX2 hC3); (go_wp2_with fail); (refine (element_read.calls K2 (ofL Cb) (readR Cb).1 (readR Cb).2 W3 HK2.out (GW.below HG.out HB3.out)).mono ?_); (rintro e W4 ⟨vX, rfl, hX4r, hb⟩); (have hX4 := (hb.block _ (blk_lt hX3)).trans hX3); (have HB34 := Aside0.mk hb); (have HB4 := Aside0.mk (HB3.out.trans (hb.mono HB3.out.size))); (obtain ⟨AX, cX, rfl⟩ := Kd.R_slice hX4r); (have HX4 := Aside0.mk hX4r); (clear hb hX3 hX4r)
      cases hCf : Cf with
      | false =>
        (have HNO : Aside0 (lineS st s n = none) := ⟨by rw [HLE2.out, if_neg (fun h => by rw [hCf] at h; cases h.1)]⟩); (go_wp2); (go_ret)
        exact ⟨by rw [HNO.out]; rfl, HB4.out.mono (by omega), fun st1 h => by rw [HNO.out] at h; cases h⟩
      | true =>
        by_cases hC0 : (readCodes Ca).2 = 0
        · have m0 : ((readCodes Ca).2 != 0) = false := bne_eq_false_iff_eq.2 hC0
          cases hrd : readE Cb with
          | none =>
            (have hr2 : (readR Cb).2 = false := by unfold readR; rw [hrd]); (have HNO : Aside0 (lineS st s n = none) := ⟨by rw [HLE2.out, hCf, if_pos ⟨rfl, hC0⟩, hrd]; rfl⟩); (clear hC0); (go_wp2); (go_ret)
            exact ⟨by rw [HNO.out]; rfl, HB4.out.mono (by omega), fun st1 h => by rw [HNO.out] at h; cases h⟩
          | some els =>
            (have hr1 : readR Cb = (els, true) := by unfold readR; rw [hrd]); (have HYES : Aside0 (lineS st s n = some ⟨st.es ++ [⟨(readCodes Ca).1, els⟩], st.gs, st.b1, st.b2, st.b3, st.bg, st.ls ++ [n]⟩) := ⟨by rw [HLE2.out, hCf, if_pos ⟨rfl, hC0⟩, hrd]; rfl⟩); (rw [hr1] at HX4 ⊢); (obtain ⟨cs, hcs⟩ : ∃ cs, (readCodes Ca).1 = cs := ⟨_, rfl⟩); (rw [hcs] at HC3 HYES ⊢); (clear hC0 hrd hcs hr1 HK2); (have a0 : W4.cell? ⟨P, 0, none⟩ = some (.slice AE st.es.length cE) := (blk_cell hX4 0).trans rfl); (have hz2 := HB2.out.size); (have hz23 := HB23.out.size); (have hz34 := HB34.out.size); (have HB24 : Aside0 (Below W2.heap.size W2 W4) := ⟨HB23.out.trans (HB34.out.mono HB23.out.size)⟩); (have hLlt : ∀ k, some k = (Value.slice AL st.ls.length cL).ownBlock → k < w.heap.size := fun k e => Kd.R_lt HL.out k e.symm); (have hElt : ∀ k, some k = (Value.slice AE st.es.length cE).ownBlock → k < w.heap.size := fun k e => Kd.S_lt HE.out k e.symm); (have gC : Kd.R (Kd.int .i64) 3 W4 (P + 1) (fun k => W2.heap.size ≤ k) (.slice AC cs.length cC) cs := Kd.R_mono (Kd.R_lower (Kd.R_bound (Kd.R_below HC3.out HB34.out)) (by omega)) (fun k hk => hk.2.1)); (have gX : Kd.R k44 44 W4 (P + 1) (fun k => W2.heap.size ≤ k) (.slice AX els.length cX) els := Kd.R_mono (Kd.R_lower (Kd.R_bound HX4.out) (by omega)) (fun k hk => Nat.le_trans hz23 hk.2.1)); (have gE : Kd.S k49 49 W4 (P + 1) (fun k => some k ≠ (Value.slice AL st.ls.length cL).ownBlock ∧ ¬ W2.heap.size ≤ k) (.slice AE st.es.length cE) st.es := Kd.S_mono (Kd.S_old (Kd.S_below HE.out HB2.out) HB24.out) (fun k hk => ⟨hk.1, by omega⟩)); (have GE := Aside0.mk gE); (have GG := Aside0.mk (Kd.R_below HGr.out HB4.out)); (have GL := Aside0.mk (Kd.R_below HL.out HB4.out)); (have GC := Aside0.mk gC); (have GX := Aside0.mk gX); (clear gE gC gX); (go_wp2_with ((with_reducible refine gate_builtin (b := .append) (xs := #[.tmp 154, .tmp 158]) rfl ?_); at_builtin; refine Kd.S_append k49 (w0 := W4) (P + 1) rfl (.tmp 154) (.tmp 158) 32 49 (.agg #[.slice none 0 0, .slice none 0 0]) 48 rfl Tryz.underlying32 infoEntry rfl (by decide) (by decide) _ st.es ⟨cs, els⟩ [.slice AC cs.length cC, .slice AX els.length cX] (fun k => some k ≠ (Value.slice AL st.ls.length cL).ownBlock) (fun k => W2.heap.size ≤ k) rfl (by first | (go_simp; done) | (go_simp; rfl)) (k49_mkM _ _ _ ⟨cs, els⟩ GC.out GX.out) (fun k hk => ⟨fun e => by have := hLlt k e; omega, fun e => by have := hElt k e; omega⟩) (fun k hk e => by have := hLlt k e; omega) GE.out (Below.refl _ _) (by omega) (by omega) ?_)); (intro v1 w1 hS1 hb1 hg1 hat1); (obtain ⟨A5, c5, rfl⟩ := Kd.S_slice hS1); (have hX5 := blk_grown hX4 hg1 (fun e => by have := Kd.S_base GE.out P e.symm; omega)); (have hG5 := Kd.R_over' GG.out (Kd.S_typed GE.out) (by decide) hg1); (have hL5 := Kd.R_over' GL.out (Kd.S_typed GE.out) (by decide) hg1); (have f0 := blk_frozen hX5 0); (have d0 : w1.cell? ⟨P, 0, none⟩ = some (.slice AE st.es.length cE) := (blk_cell hX5 0).trans rfl); (clear a0); (have hX6 := blk_put hX5 0 (.slice A5 (st.es ++ [(⟨cs, els⟩ : S49)]).length c5) rfl); (have a6 : (w1.setCell ⟨P, 0, none⟩ (.slice A5 (st.es ++ [(⟨cs, els⟩ : S49)]).length c5)).cell? ⟨P, 6, none⟩ = some (.slice AL st.ls.length cL) := (blk_cell hX6 6).trans rfl); (have HS6 := Aside0.mk (S_setP hS1 0 (.slice A5 (st.es ++ [(⟨cs, els⟩ : S49)]).length c5))); (have HG6 := Aside0.mk (R_setP hG5 0 (.slice A5 (st.es ++ [(⟨cs, els⟩ : S49)]).length c5))); (have HL6 := Aside0.mk (R_setP hL5 0 (.slice A5 (st.es ++ [(⟨cs, els⟩ : S49)]).length c5))); (have hbw : Below P w w1 := (HB4.out.mono (by omega)).trans (hb1.mono (by omega))); (have HBP : Aside0 (Below P w (w1.setCell ⟨P, 0, none⟩ (.slice A5 (st.es ++ [(⟨cs, els⟩ : S49)]).length c5))) := ⟨Below.setCell (p := ⟨P, 0, none⟩) hbw (Nat.le_refl _) _⟩); (have hz6 : P + 1 ≤ (w1.setCell ⟨P, 0, none⟩ (.slice A5 (st.es ++ [(⟨cs, els⟩ : S49)]).length c5)).heap.size := blk_lt hX6); (have hlen5 : (st.es ++ [(⟨cs, els⟩ : S49)]).length = st.es.length + 1 := by simp); (rw [hlen5] at hX6 a6 HS6 HG6 HL6 HBP hz6); (clear hbw hS1 hG5 hL5 hb1 hg1 hat1); (go_wp2_with ((with_reducible refine gate_builtin (b := .append) (xs := #[.tmp 167, .tmp 169]) rfl ?_); at_builtin; refine Kd.R_append (Kd.int .i64) (w0 := w1.setCell ⟨P, 0, none⟩ (.slice A5 (st.es.length + 1) c5)) (P + 1) rfl (.tmp 167) (.tmp 169) 47 3 (.int .i64 0) 8 rfl Tryz.underlying47 info3 rfl (by decide) (by decide) _ st.ls n [.int .i64 n] (fun _ => True) (fun _ => False) rfl (by first | (go_simp; done) | (go_simp; rfl)) rfl (fun _ hk => hk.elim) (fun _ _ => trivial) HL6.out (Below.refl _ _) (by omega) (by omega) ?_)); (intro v2 w2 hR2 hb2 hg2 hat2); (rw [show w1.heap.size = (w1.setCell ⟨P, 0, none⟩ (.slice A5 (st.es.length + 1) c5)).heap.size by simp] at hat2); (generalize hW6 : w1.setCell ⟨P, 0, none⟩ (.slice A5 (st.es.length + 1) c5) = W6 at hX6 a6 HS6 HG6 HL6 HBP hz6 hb2 hg2 hat2); (obtain ⟨A7, c7, rfl⟩ := Kd.R_slice hR2); (have hX7 := blk_grown hX6 hg2 (fun e => by have := Kd.R_base HL6.out P e.symm; omega)); (have HS7 := Aside0.mk (Kd.S_after (v := .slice AL st.ls.length cL) (ok := fun _ => True) (Kd.S_mono HS6.out (fun k h => ⟨trivial, h⟩)) hg2 hat2)); (have HG7 := Aside0.mk (Kd.R_over' HG6.out (Kd.R_typed HL6.out) (by decide) hg2)); (have hbq : Below P w w2 := HBP.out.trans (hb2.mono (by omega))); (have HBQ := Aside0.mk hbq); (have f6 := blk_frozen hX7 6); (have d6 : w2.cell? ⟨P, 6, none⟩ = some (.slice AL st.ls.length cL) := (blk_cell hX7 6).trans rfl); (have hlen7 : (st.ls ++ [n]).length = st.ls.length + 1 := by simp); (rw [hlen7] at hR2 HS7 ⊢); (have HR2 := Aside0.mk hR2); (clear hbq hR2 hb2 hg2 hat2 a6); (go_wp2); (go_ret); (refine ⟨by rw [HYES.out]; rfl, Below.setCell (p := ⟨P, 6, none⟩) HBQ.out (Nat.le_refl _) _, fun st1 h => ?_⟩); (rw [HYES.out] at h); (cases h); (exact ⟨_, _, _, blk_put hX7 6 _ rfl, Kd.S_mono (S_setP HS7.out _ _) (fun k h => h.2), R_setP HG7.out _ _, R_setP HR2.out _ _⟩)
        · (have m0 : ((readCodes Ca).2 != 0) = true := bne_iff_ne.2 hC0); (have HNO : Aside0 (lineS st s n = none) := ⟨by rw [HLE2.out, if_neg (fun h => hC0 h.2)]⟩); (clear hC0); (go_wp2); (go_ret); (exact ⟨by rw [HNO.out]; rfl, HB4.out.mono (by omega), fun st1 h => by rw [HNO.out] at h; cases h⟩)
end Go.Proofs.YtdaijpjjilmkkaaGreatDoor.Pr

/- The contract of element.ParseFile: the collation of a text, or its first fault. Written by wip/gen_pfile.py. -/
namespace Go.Proofs.YtdaijpjjilmkkaaGreatDoor.Pr
open Go.RowKit Go.Shelf Go.Proofs.YtdaijpjjilmkkaaGreatDoorW.PrintWords Go.Proofs.YtdaijpjjilmkkaaGreatDoorW.PrintLast Go.Proofs.YtdaijpjjilmkkaaGreatDoorW.PrintMore
set_option linter.unusedVariables false
set_option linter.unusedSimpArgs false
def element_ParseFile.f (a0 : ByteArray) : Option Out := if a0.size ≤ 9223372036854775807 then some (parseF a0.data.toList) else none
def element_ParseFile.T24 : Bool × List (List Nat × List Nat) := (true, [([], []), ([], []), ([], []), ([2], [2]), ([3], [3]), ([4], [4]), ([], []), ([5, 6], [5, 6]), ([7], [7]), ([1, 8], [1, 8]), ([0, 0], [0]), ([9, 10, 0, 1, 2, 3, 4, 5, 6, 7, 8, 9, 10], [9])])
def element_ParseFile.B24 : List Nat := [0, 0, 0, 4, 12, 28, 0, 124, 252, 510, 1, 2047]
theorem element_ParseFile.tab24 : rtab .any (opsOf Tryz.f17 24) = element_ParseFile.T24 := by kernel_rfl
theorem element_ParseFile.bits24 : waitsOk element_ParseFile.T24.2 element_ParseFile.B24 = true := by kernel_rfl
theorem bareL_le (x : List UInt8) : (bareL x).length ≤ x.length := by
  (unfold bareL); (rcases cut_at 35 x with ⟨h1, -⟩ | ⟨a, b, h1, -, h3⟩)
  · (rw [h1]); (exact Nat.le_refl _)
  · (rw [h3, if_pos rfl, h1]); (have h := (List.dropWhile_suffix (l := a.reverse) (fun y : UInt8 => y == 32)).length_le); (unfold Lib.trimRightB); (simp at h ⊢); (omega)
structure InvR (st : Rd) (k : Nat) : Prop where
  es : st.es.length ≤ k
  gs : st.gs.length ≤ k
  ls : st.ls.length = st.es.length
  el : ∀ x ∈ st.es, x.f1.length ≤ 100000
theorem InvR_mono {st : Rd} {j k : Nat} (h : InvR st j) (hk : j ≤ k) : InvR st k := ⟨Nat.le_trans h.es hk, Nat.le_trans h.gs hk, h.ls, h.el⟩
theorem lineS_inv {st st1 : Rd} {l : List UInt8} {n : Int} {k : Nat} (h : lineS st l n = some st1) (hl : l.length ≤ 100000) (hi : InvR st k) : InvR st1 (k + 1) := by
  have hb : ∀ ps, lineB st ps = some st1 → InvR st1 (k + 1) := by
    (intro ps h); (unfold lineB at h); (split at h)
    · split at h
      · (cases h); (exact ⟨Nat.le_succ_of_le hi.es, Nat.le_succ_of_le hi.gs, hi.ls, hi.el⟩)
      · cases h
    · cases h
  have hg : ∀ ps, lineG st ps = some st1 → InvR st1 (k + 1) := by
    (intro ps h); (unfold lineG at h); (split at h)
    · split at h
      · (cases h); (refine ⟨Nat.le_succ_of_le hi.es, ?_, hi.ls, hi.el⟩); (have := hi.gs); (dsimp only); (rw [List.length_append]); (simp); (omega)
      · cases h
    · cases h
  have he : lineE st l n = some st1 → InvR st1 (k + 1) := by
    (intro h); (unfold lineE at h); (split at h)
    · (obtain ⟨els, he, rfl⟩ := Option.map_eq_some_iff.1 h); (have h1 := readE_len he); (have h2 := (cut_le l [59, 32]).2); (have h3 := hi.es); (have h4 := hi.ls); (refine ⟨?_, Nat.le_succ_of_le hi.gs, ?_, fun x hx => ?_⟩)
      · (dsimp only); (rw [List.length_append]); (simp); (omega)
      · (dsimp only); (rw [List.length_append, List.length_append, h4]); (rfl)
      · (dsimp only at hx); (rcases List.mem_append.1 hx with hx | hx)
        · exact hi.el x hx
        · (simp only [List.mem_singleton] at hx); (subst hx); (dsimp only); (omega)
    · cases h
  (unfold lineS at h); (split at h)
  · exact hb _ h
  · split at h
    · exact hg _ h
    · exact he h
theorem RdIs_below {P : Nat} {st : Rd} {W W1 : World} (h : RdIs P st W) (hb : Below W.heap.size W W1) : RdIs P st W1 := by
  (obtain ⟨vE, vG, vL, hX, hE, hG, hL⟩ := h); (exact ⟨vE, vG, vL, (hb.block _ (blk_lt hX)).trans hX, Kd.S_below hE hb, Kd.R_below hG hb, Kd.R_below hL hb⟩)
theorem results_pf (tmps : Array Value) (w : World) (B : Nat) (v0 v1 : Value) (x y z e n : Int) (h2 : tmps.getD 2 undef = .pointer (some ⟨B, 0, none⟩)) (h3 : tmps.getD 3 undef = .pointer (some ⟨B + 1, 0, none⟩))
    (hg : w.heap[B]? = some (.cells #[v0, v1, .int .i64 x, .int .i64 y, .int .i64 z] 35 (0, 0))) (hf : w.heap[B + 1]? = some (.cells #[.int .i64 e, .int .i64 n] 39 (0, 0))) :
    (results Tryz.f17 tmps).run Tryz.prog w = .ok (.tuple #[.agg #[v0, v1, .int .i64 x, .int .i64 y, .int .i64 z], .agg #[.int .i64 e, .int .i64 n]]) w := by
  (have hr : Tryz.f17.results = #[.cell 2 35, .cell 3 39] := rfl); (have hl := run_loadVar_row (P := Tryz.prog) w B 35 35 #[v0, v1, .int .i64 x, .int .i64 y, .int .i64 z] (0, 0) _ hg Tryz.underlying35 rfl (by kernel_rfl)); (have hm := run_loadVar_row (P := Tryz.prog) w (B + 1) 39 39 #[.int .i64 e, .int .i64 n] (0, 0) _ hf Tryz.underlying39 rfl (by kernel_rfl)); (have g2 : tmps[2]?.getD undef = .pointer (some ⟨B, 0, none⟩) := by simpa using h2); (have g3 : tmps[3]?.getD undef = .pointer (some ⟨B + 1, 0, none⟩) := by simpa using h3); (simp [results, hr, g2, g3, asAddr, hl, hm])
theorem pf_end (w W : World) (a : Act) (u0 u1 u2 u3 u4 g0 g1 v0 v1 : Value) (x y z e n : Int) (hR : W.heap[w.heap.size]? = some (.cells #[u0, u1, u2, u3, u4] 35 (0, 0))) (hF : W.heap[w.heap.size + 1]? = some (.cells #[g0, g1] 39 (0, 0))) (hB : Below w.heap.size w W)
    (ha2 : a.tmps.getD 2 undef = .pointer (some ⟨w.heap.size, 0, none⟩)) (ha3 : a.tmps.getD 3 undef = .pointer (some ⟨w.heap.size + 1, 0, none⟩)) (hd : a.defers = []) (R : Ending → World → Prop)
    (hres : ∀ W', (∀ k, k ≠ w.heap.size → k ≠ w.heap.size + 1 → W'.heap[k]? = W.heap[k]?) → Below w.heap.size w W' → R (.returned (.tuple #[.agg #[v0, v1, .int .i64 x, .int .i64 y, .int .i64 z], .agg #[.int .i64 e, .int .i64 n]])) W') :
    bodyPost Tryz.prog Tryz.f17 R .ret a (((((((W.setCell ⟨w.heap.size, 0, none⟩ v0).setCell ⟨w.heap.size, 1, none⟩ v1).setCell ⟨w.heap.size, 2, none⟩ (.int .i64 x)).setCell ⟨w.heap.size, 3, none⟩ (.int .i64 y)).setCell ⟨w.heap.size, 4, none⟩ (.int .i64 z)).setCell ⟨w.heap.size + 1, 0, none⟩ (.int .i64 e)).setCell ⟨w.heap.size + 1, 1, none⟩ (.int .i64 n)) := by
  (have hg := blk_put (blk_put (blk_put (blk_put (blk_put hR 0 v0 rfl) 1 v1 rfl) 2 (.int .i64 x) rfl) 3 (.int .i64 y) rfl) 4 (.int .i64 z) rfl); (have hg2 := blk_far (p := ⟨w.heap.size + 1, 1, none⟩) (blk_far (p := ⟨w.heap.size + 1, 0, none⟩) hg (by simp) (.int .i64 e)) (by simp) (.int .i64 n)); (have hf := blk_far (p := ⟨w.heap.size, 4, none⟩) (blk_far (p := ⟨w.heap.size, 3, none⟩) (blk_far (p := ⟨w.heap.size, 2, none⟩) (blk_far (p := ⟨w.heap.size, 1, none⟩) (blk_far (p := ⟨w.heap.size, 0, none⟩) hF (by simp) v0) (by simp) v1) (by simp) (.int .i64 x)) (by simp) (.int .i64 y)) (by simp) (.int .i64 z)); (have hf2 := blk_put (blk_put hf 0 (.int .i64 e) rfl) 1 (.int .i64 n) rfl); (refine bodyPost_ret (results_pf _ _ _ v0 v1 x y z e n ha2 ha3 hg2 hf2) hd ?_); (refine hres _ (fun k h0 h1 => ?_) ?_)
  · rw [Below.heap_setCell _ _ _ _ (show k ≠ w.heap.size + 1 from h1), Below.heap_setCell _ _ _ _ (show k ≠ w.heap.size + 1 from h1), Below.heap_setCell _ _ _ _ (show k ≠ w.heap.size from h0), Below.heap_setCell _ _ _ _ (show k ≠ w.heap.size from h0), Below.heap_setCell _ _ _ _ (show k ≠ w.heap.size from h0), Below.heap_setCell _ _ _ _ (show k ≠ w.heap.size from h0), Below.heap_setCell _ _ _ _ (show k ≠ w.heap.size from h0)]
  · exact Below.setCell (Below.setCell (Below.setCell (Below.setCell (Below.setCell (Below.setCell (Below.setCell hB (Nat.le_refl _) _) (Nat.le_refl _) _) (Nat.le_refl _) _) (Nat.le_refl _) _) (Nat.le_refl _) _) (Nat.le_succ _) _) (Nat.le_succ _) _
theorem pf_bad (w W : World) (a : Act) (e n : Int) (hR : W.heap[w.heap.size]? = some (.cells #[.slice none 0 0, .slice none 0 0, .int .i64 0, .int .i64 0, .int .i64 0] 35 (0, 0))) (hF : W.heap[w.heap.size + 1]? = some (.cells #[.int .i64 0, .int .i64 0] 39 (0, 0))) (hB : Below w.heap.size w W)
    (ha2 : a.tmps.getD 2 undef = .pointer (some ⟨w.heap.size, 0, none⟩)) (ha3 : a.tmps.getD 3 undef = .pointer (some ⟨w.heap.size + 1, 0, none⟩)) (hd : a.defers = []) :
    bodyPost Tryz.prog Tryz.f17 (fun e' w' => ∃ v0_ v1_ : Value, e' = .returned (.tuple #[.agg #[v0_, v1_, .int .i64 0, .int .i64 0, .int .i64 0], .agg #[.int .i64 e, .int .i64 n]]) ∧ Kd.S k49 49 w' w.heap.size (fun _ => True) v0_ [] ∧ Kd.R k46 46 w' w.heap.size (fun _ => True) v1_ [] ∧ Below w.heap.size w w') .ret a (((((((W.setCell ⟨w.heap.size, 0, none⟩ (.slice none 0 0)).setCell ⟨w.heap.size, 1, none⟩ (.slice none 0 0)).setCell ⟨w.heap.size, 2, none⟩ (.int .i64 0)).setCell ⟨w.heap.size, 3, none⟩ (.int .i64 0)).setCell ⟨w.heap.size, 4, none⟩ (.int .i64 0)).setCell ⟨w.heap.size + 1, 0, none⟩ (.int .i64 e)).setCell ⟨w.heap.size + 1, 1, none⟩ (.int .i64 n)) :=
  pf_end w W a _ _ _ _ _ _ _ _ _ 0 0 0 e n hR hF hB ha2 ha3 hd _ (fun W' _ hW' => ⟨_, _, rfl, Kd.S_nil _ _ _ _ _, Kd.R_nil _ _ _ _ _, hW'⟩)
set_option maxRecDepth 100000 in
set_option maxHeartbeats 8000000 in
theorem element_ParseFile.calls (a0 : ByteArray) (r1 : List S49) (r2 : List S46) (r3 r4 r5 r6 r7 : Int) (w : World) (h : element_ParseFile.f a0 = some (r1, r2, r3, r4, r5, r6, r7)) (hG : GW w) :
    Calls Tryz.prog 17 #[.string a0] w fun e w' => ∃ v0_ v1_ : Value, e = .returned (.tuple #[.agg #[v0_, v1_, .int .i64 r3, .int .i64 r4, .int .i64 r5], .agg #[.int .i64 r6, .int .i64 r7]]) ∧ Kd.S k49 49 w' w.heap.size (fun _ => True) v0_ r1 ∧ Kd.R k46 46 w' w.heap.size (fun _ => True) v1_ r2 ∧ Below w.heap.size w w' := by
  (obtain ⟨s, rfl⟩ : ∃ s, a0 = ofL s := ⟨a0.data.toList, (ofL_eq a0).symm⟩); (unfold element_ParseFile.f at h); (rw [ofL_list, ofL_size] at h); (by_cases hs0 : s.length ≤ 9223372036854775807)
  case neg => rw [if_neg hs0] at h; cases h
  (rw [if_pos hs0] at h); (have H := Aside0.mk (Option.some.inj h)); (have HG := Aside0.mk hG); (clear h hG); (have hu39 := Tryz.underlying35); (have hu43 := Tryz.underlying39); (have hu52 := Tryz.underlying49); (have hu75 := Tryz.underlying72)
  have hx39 : ((w.alloc (.cells #[.slice none 0 0, .slice none 0 0, .int .i64 0, .int .i64 0, .int .i64 0] 35)).alloc (.cells #[.int .i64 0, .int .i64 0] 39)).heap[w.heap.size]? = some (.cells #[.slice none 0 0, .slice none 0 0, .int .i64 0, .int .i64 0, .int .i64 0] 35 (0, 0)) := by
    (rw [Lib.alloc_old _ _ _ (by simp)]); (exact heap_alloc_new _ _)
  have hx43 : ((w.alloc (.cells #[.slice none 0 0, .slice none 0 0, .int .i64 0, .int .i64 0, .int .i64 0] 35)).alloc (.cells #[.int .i64 0, .int .i64 0] 39)).heap[w.heap.size + 1]? = some (.cells #[.int .i64 0, .int .i64 0] 39 (0, 0)) := by
    (have := heap_alloc_new (w.alloc (.cells #[.slice none 0 0, .slice none 0 0, .int .i64 0, .int .i64 0, .int .i64 0] 35)) (.cells #[.int .i64 0, .int .i64 0] 39)); (rw [World.size_alloc] at this); (exact this)
  (have HB0 : Aside0 (Below w.heap.size w ((w.alloc (.cells #[.slice none 0 0, .slice none 0 0, .int .i64 0, .int .i64 0, .int .i64 0] 35)).alloc (.cells #[.int .i64 0, .int .i64 0] 39))) := ⟨below_alloc (below_alloc (Below.refl _ _) _) _⟩); (by_cases hbig : 65536 < s.length)
  · (have n0 : decide ((65536 : Int) < (s.length : Int)) = true := decide_eq_true (by omega)); (have n1 : decide (65536 < s.length) = true := decide_eq_true hbig); (have HNO : Aside0 (parseF s = bad 2 0) := ⟨by unfold parseF; rw [if_pos hbig]⟩); (have hH := H.out); (rw [HNO.out] at hH); (simp only [bad, Prod.mk.injEq] at hH); (obtain ⟨rfl, rfl, rfl, rfl, rfl, rfl, rfl⟩ := hH); (clear hx39 hx43 HB0); (go_enter Tryz.func17, Tryz.ntmps17); (go_wp2); (repeat ((first | go_step3 | (rw [Exit.noGoto_normal]; (try simp only [Exit.inBlock, Exit.then]))); go_wp2)); (rw [Exit.noGoto_ret]); (refine bodyPost_ret (results_pf _ _ w.heap.size (.slice none 0 0) (.slice none 0 0) 0 0 0 2 0 rfl rfl ?_ ?_) rfl ⟨_, _, rfl, Kd.S_nil _ _ _ _ _, Kd.R_nil _ _ _ _ _, below_alloc (below_alloc (Below.refl _ _) _) _⟩)
    · (rw [Lib.alloc_old _ _ _ (by simp)]); (exact heap_alloc_new _ _)
    · (have := heap_alloc_new (w.alloc (.cells #[.slice none 0 0, .slice none 0 0, .int .i64 0, .int .i64 0, .int .i64 0] 35)) (.cells #[.int .i64 2, .int .i64 0] 39)); (rw [World.size_alloc] at this); (exact this)
  (have n0 : decide ((65536 : Int) < (s.length : Int)) = false := decide_eq_false (by omega)); (have n1 : decide (65536 < s.length) = false := decide_eq_false hbig); (obtain ⟨PS, hPS⟩ : ∃ PS, cutAt 10 s = PS := ⟨_, rfl⟩); (have HPS := Aside0.mk hPS); (have hne : PS ≠ [] := by rw [← hPS]; exact cutAt_ne 10 s); (have hpl : PS.length ≤ 65537 := by rw [← hPS]; have := cutAt_len 10 s; omega); (have HPM : Aside0 (∀ q ∈ PS, q.length ≤ 65536) := ⟨fun q hq => by rw [← hPS] at hq; have := cutAt_mem 10 s q hq; omega⟩); (have hsp : Aside0 (strings_Split.f (ofL s) (⟨#[10]⟩ : ByteArray) = some (PS.map ofL)) := ⟨by rw [← hPS]; exact splitc_f 10 s (by omega)⟩); (obtain ⟨Q, z, rfl⟩ : ∃ Q z, PS = Q ++ [z] := ⟨PS.dropLast, PS.getLast hne, (List.dropLast_concat_getLast hne).symm⟩); (have hQl : Q.length ≤ 65536 := by simp at hpl; omega); (have HX39 := Aside0.mk hx39); (have HX43 := Aside0.mk hx43); (clear hPS hne hpl hx39 hx43); (go_enter Tryz.func17, Tryz.ntmps17); (go_wp2_with fail); (repeat ((first | go_step3 | (rw [Exit.noGoto_normal]; (try simp only [Exit.inBlock, Exit.then]))); go_wp2_with fail)); (refine (strings_Split.calls _ _ _ _ hsp.out (GW.below HG.out HB0.out)).mono ?_); (rintro e W1 ⟨v, rfl, hR, hb⟩); (obtain ⟨A1, c1, rfl⟩ := Kd.R_slice hR); (obtain ⟨-, hc1, hCC⟩ := Kd.R_reads' hR); (have hx39 := (hb.block _ (blk_lt HX39.out)).trans HX39.out); (have hx43 := (hb.block _ (blk_lt HX43.out)).trans HX43.out); (have HB1 : Aside0 (Below w.heap.size w W1) := ⟨HB0.out.trans (hb.mono HB0.out.size)⟩); (have hP0 : w.heap.size < W1.heap.size := blk_lt hx39); (have hP1 : w.heap.size + 1 < W1.heap.size := blk_lt hx43); (clear HX39 HX43); (have HX39 := Aside0.mk hx39); (have HX43 := Aside0.mk hx43); (obtain ⟨ad, rfl, hx⟩ := Kd.at_string hCC (Q.length : Int) (by omega) (by first | (simp; done) | (simp; omega))); (have hrd : rdOf ByteArray.empty ((Q ++ [z]).map ofL) (Q.length : Int) = ofL z := by simp [rdOf]); (rw [hrd, Int.toNat_natCast] at hx); (have hl1 : ((Q ++ [z]).map ofL).length = Q.length + 1 := by simp); (rw [hl1] at hCC hc1 ⊢); (have HCC := Aside0.mk hCC); (clear hrd hx39 hx43 hb hR hCC); (have q0 : (0 ≤ (Q.length : Int)) = True := eq_true (by omega)); (have q1 : ((Q.length : Int) < (Q.length : Int) + 1) = True := eq_true (by omega)); (obtain ⟨i0, hi0, _, hsz, _⟩ := info_parts info9); (by_cases hz : z = [])
  · (have z1 : (z == []) = true := by rw [hz]; rfl); (have z2 : decide (z = []) = true := decide_eq_true hz); (have HLS : Aside0 (linesOf s = Q) := ⟨by rw [linesOf_of HPS.out, if_pos hz]⟩); (obtain ⟨hcut, hA, -⟩ := print_take_of (P := Tryz.prog) Value.string ByteArray.empty 68 9 .i64 Tryz.underlying68 hi0 hsz (some ad) c1 ((Q ++ [z]).map ofL) (Q.length : Int) (by omega) (by simp; omega) (by rw [hl1]; exact hc1)); (have hQt : (((Q ++ [z]).map ofL).take (Q.length : Int).toNat) = Q.map ofL := by simp)
    have HC : Aside0 (Kd.C Kd.string W1 (some ad) Q.length (Q.map ofL)) := ⟨by
      (have := Kd.C_of_reads (h1 := fun _ => rfl) (hA _ (Kd.reads_of_C (by rw [hl1]; exact HCC.out)))); (rw [hQt, List.length_map] at this)
      exact this⟩
    have hcut1 : ∀ W, (Instr.slice 68 (.slice (some ad) (Q.length + 1) c1) none (some (.int .i64 (Q.length : Int))) none).run Tryz.prog W = .ok (.slice (some ad) Q.length c1) W := by
      (intro W); (have := hcut W); (rw [hl1, hQt, List.length_map] at this); (exact this)
    (have hc2 : Q.length ≤ c1 := by omega); (obtain ⟨LS, hLS⟩ : ∃ LS, Q = LS := ⟨_, rfl⟩); (have hLn : LS.length = Q.length := by rw [hLS]); (have HLM : Aside0 (∀ x ∈ LS, x.length ≤ 65536) := ⟨fun x hx => HPM.out x (by rw [← hLS] at hx; simp [hx])⟩); (rw [hLS] at HLS HC); (rw [show LS.length = Q.length from hLn] at HC); (clear hA hcut hQt hLS hz); (obtain ⟨P, hP⟩ : ∃ P, W1.heap.size = P := ⟨_, rfl⟩); (have HP : Aside0 (RdIs P Rd.none (W1.alloc (.cells #[.slice none 0 0, .slice none 0 0, .int .i64 0, .int .i64 0, .int .i64 0, .bool false, .slice none 0 0] 72))) := ⟨by rw [← hP]; exact ⟨_, _, _, heap_alloc_new _ _, Kd.S_nil _ _ _ _ _, Kd.R_nil _ _ _ _ _, Kd.R_nil _ _ _ _ _⟩⟩); (have HBP : Aside0 (Below P W1 (W1.alloc (.cells #[.slice none 0 0, .slice none 0 0, .int .i64 0, .int .i64 0, .int .i64 0, .bool false, .slice none 0 0] 72))) := ⟨by rw [← hP]; exact below_alloc (Below.refl _ _) _⟩); (have hQ0 : w.heap.size < P := by omega); (have hQ1 : w.heap.size + 1 < P := by omega); (have hPw : w.heap.size ≤ P := by omega); (go_wp2_with fail); (repeat ((first | go_step3 | (rw [Exit.noGoto_normal]; (try simp only [Exit.inBlock, Exit.then]))); go_wp2_with fail)); (go_loopg [37] Q.length (fun g v wx => ∃ (i : Nat) (st : Rd), i ≤ Q.length ∧ v = .int .i64 (i : Int) ∧ i + g = Q.length ∧ Aside0 (goL LS 0 Rd.none = goL (LS.drop i) i st) ∧ Aside0 (RdIs P st wx) ∧ Aside0 (InvR st i) ∧ Aside0 (Below P W1 wx)))
    case atStart => exact ⟨0, Rd.none, by omega, rfl, by omega, ⟨by rw [List.drop_zero]⟩, HP, ⟨⟨Nat.le_refl _, Nat.le_refl _, rfl, by simp [Rd.none]⟩⟩, HBP⟩
    case round =>
      (clear HP HBP); (obtain ⟨i, st, hile, rfl, hig, HGO, HRd, HI, HBd⟩ := hrel); (have hBsz := HBd.out.size)
      cases gk with
      | zero =>
        (obtain rfl : i = Q.length := by omega); (have HGO2 : Aside0 (goL LS 0 Rd.none = .inl st) := ⟨by rw [HGO.out, List.drop_of_length_le (by omega)]; rfl⟩); (obtain ⟨vE, vG, vL, hX, hE, hGr, hL⟩ := HRd.out); (have HX := Aside0.mk hX); (have HE := Aside0.mk hE); (have HGr := Aside0.mk hGr); (have HL := Aside0.mk hL); (have hPl := blk_lt hX); (clear hX hE hGr hL HGO)
        cases hbg : st.bg with
        | false =>
          have b5 : wr.cell? ⟨P, 5, none⟩ = some (.bool false) := by rw [← hbg]; exact (blk_cell HX.out 5).trans rfl
          have HNO : Aside0 (parseF s = bad 3 ((Q.length : Int) + 1)) := ⟨by
            (unfold parseF); (rw [if_neg (by omega), HLS.out, HGO2.out]); (unfold endL); (dsimp only); (rw [if_pos hbg, hLn])
            first | done | rfl⟩
          (have hx39 := (HBd.out.block _ hQ0).trans HX39.out); (have hx43 := (HBd.out.block _ hQ1).trans HX43.out); (have HBw : Aside0 (Below w.heap.size w wr) := ⟨HB1.out.trans (HBd.out.mono hPw)⟩); (clear hbg); (have d0 := blk_cell hx39 0); (have d1 := blk_cell hx39 1); (have d2 := blk_cell hx39 2); (have d3 := blk_cell hx39 3); (have d4 := blk_cell hx39 4); (have f0 := blk_frozen hx39 0); (have f1 := blk_frozen hx39 1); (have f2 := blk_frozen hx39 2); (have f3 := blk_frozen hx39 3); (have f4 := blk_frozen hx39 4); (have e0 := blk_cell hx43 0); (have e1 := blk_cell hx43 1); (have g0 := blk_frozen hx43 0); (have g1 := blk_frozen hx43 1); (go_wp2); (repeat ((first | go_step3 | (rw [Exit.noGoto_normal]; (try simp only [Exit.inBlock, Exit.then]))); go_wp2)); (have hH := H.out); (rw [HNO.out] at hH); (simp only [bad, Prod.mk.injEq] at hH); (obtain ⟨rfl, rfl, rfl, rfl, rfl, rfl, rfl⟩ := hH); (try (rw [Exit.noGoto_ret]; (try simp only [Exit.inBlock, Exit.then])))
          exact pf_bad w _ _ _ _ hx39 hx43 HBw.out rfl rfl rfl
        | true =>
          (obtain ⟨AE, cE, rfl⟩ := Kd.S_slice HE.out); (obtain ⟨AG, cG, rfl⟩ := Kd.R_slice HGr.out); (obtain ⟨AL, cL, rfl⟩ := Kd.R_slice HL.out)
          have HEND : Aside0 (parseF s = match badE st.es st.ls with | some (e, n) => bad e n | none => (st.es, st.gs, st.b1, st.b2, st.b3, 0, 0)) := ⟨by
            (unfold parseF); (rw [if_neg (by omega), HLS.out, HGO2.out]); (unfold endL); (dsimp only); (rw [if_neg (by rw [hbg]; decide)])
            cases badE st.es st.ls <;> rfl⟩
          (have hel := HI.out.es); (have b5 : wr.cell? ⟨P, 5, none⟩ = some (.bool true) := by rw [← hbg]; exact (blk_cell HX.out 5).trans rfl); (have b0 : wr.cell? ⟨P, 0, none⟩ = some (.slice AE st.es.length cE) := (blk_cell HX.out 0).trans rfl); (clear hbg HGO2); (go_wp2_with fail); (repeat ((first | go_step3 | (rw [Exit.noGoto_normal]; (try simp only [Exit.inBlock, Exit.then]))); go_wp2_with fail)); (clear b5 b0); (go_loopg [80] st.es.length (fun g v wx => ∃ i : Nat, i ≤ st.es.length ∧ v = .int .i64 (i : Int) ∧ i + g = st.es.length ∧ Aside0 (badE st.es st.ls = badE (st.es.drop i) (st.ls.drop i)) ∧ Aside0 (Below wr.heap.size wr wx)))
          case atStart => exact ⟨0, by omega, rfl, by omega, ⟨by rw [List.drop_zero, List.drop_zero]⟩, ⟨Below.refl _ _⟩⟩
          case round =>
            (obtain ⟨i, hile, rfl, hig, HBE, HBL⟩ := hrel); (have hszl := HBL.out.size); (have HXl := Aside0.mk ((HBL.out.block _ hPl).trans HX.out)); (have HEl := Aside0.mk (Kd.S_below HE.out HBL.out)); (have HGl := Aside0.mk (Kd.R_below HGr.out HBL.out)); (have HLl := Aside0.mk (Kd.R_below HL.out HBL.out)); (have hx39 := (HBL.out.block _ (by omega)).trans ((HBd.out.block _ hQ0).trans HX39.out)); (have hx43 := (HBL.out.block _ (by omega)).trans ((HBd.out.block _ hQ1).trans HX43.out)); (have HBw : Aside0 (Below w.heap.size w wr) := ⟨(HB1.out.trans (HBd.out.mono hPw)).trans (HBL.out.mono (by omega))⟩); (clear HX HE HGr HL)
            cases gk with
            | zero =>
              obtain rfl : i = st.es.length := by omega
              have HYES : Aside0 (parseF s = (st.es, st.gs, st.b1, st.b2, st.b3, 0, 0)) := ⟨by
                rw [HEND.out, HBE.out, List.drop_of_length_le (Nat.le_refl _)]
                rfl⟩
              (have c0 := blk_cell HXl.out 0); (have c1' := blk_cell HXl.out 1); (have c2' := blk_cell HXl.out 2); (have c3' := blk_cell HXl.out 3); (have c4' := blk_cell HXl.out 4); (have d0 := blk_cell hx39 0); (have d1 := blk_cell hx39 1); (have d2 := blk_cell hx39 2); (have d3 := blk_cell hx39 3); (have d4 := blk_cell hx39 4); (have f0 := blk_frozen hx39 0); (have f1 := blk_frozen hx39 1); (have f2 := blk_frozen hx39 2); (have f3 := blk_frozen hx39 3); (have f4 := blk_frozen hx39 4); (have e0 := blk_cell hx43 0); (have e1 := blk_cell hx43 1); (have g0 := blk_frozen hx43 0); (have g1 := blk_frozen hx43 1); (go_wp2); (repeat ((first | go_step3 | (rw [Exit.noGoto_normal]; (try simp only [Exit.inBlock, Exit.then]))); go_wp2)); (have hH := H.out); (rw [HYES.out] at hH); (simp only [Prod.mk.injEq] at hH); (obtain ⟨rfl, rfl, rfl, rfl, rfl, rfl, rfl⟩ := hH); (try (rw [Exit.noGoto_ret]; (try simp only [Exit.inBlock, Exit.then]))); (refine pf_end w wr _ _ _ _ _ _ _ _ (.slice AE st.es.length cE) (.slice AG st.gs.length cG) st.b1 st.b2 st.b3 0 0 hx39 hx43 HBw.out rfl rfl rfl _ (fun W' hm hW' => ⟨_, _, rfl, ?_, ?_, hW'⟩))
              · exact Kd.S_mono (Kd.S_lower (Kd.S_move (Kd.S_bound HEl.out) (fun k hk => hm k (by have := hk.2.1; omega) (by have := hk.2.1; omega))) (by omega)) (fun _ _ => trivial)
              · exact Kd.R_mono (Kd.R_lower (Kd.R_move (Kd.R_bound HGl.out) (fun k hk => hm k (by have := hk.2.1; omega) (by have := hk.2.1; omega))) (by omega)) (fun _ _ => trivial)
            | succ g =>
              (have hi : i < st.es.length := by omega); (have hiL2 : i < st.ls.length := by have := HI.out.ls; omega); (obtain ⟨ad2, B0, d0, B1, d1, ead, hx0, hx1, hl0, hi0, hl1, hi1⟩ := at_T49 (Kd.S_reads' HEl.out).2.2 (i : Int) (by omega) (by omega)); (cases ead); (obtain ⟨x, hx⟩ : ∃ x, st.es[i]'hi = x := ⟨_, rfl⟩); (obtain ⟨m, hm⟩ : ∃ m, st.ls[i]'hiL2 = m := ⟨_, rfl⟩); (rw [rdX_at st.es i hi, hx] at hx0 hx1 hl0 hi0 hl1 hi1); (rw [Int.toNat_natCast] at hx0 hx1); (have hxm : x.f1.length ≤ 100000 := HI.out.el x (by rw [← hx]; exact List.getElem_mem hi)); (have hd1 : st.es.drop i = x :: st.es.drop (i + 1) := by rw [← hx]; exact List.drop_eq_getElem_cons hi); (have hd2 : st.ls.drop i = m :: st.ls.drop (i + 1) := by rw [← hm]; exact List.drop_eq_getElem_cons hiL2); (have HC1 := Aside0.mk hi1); (obtain ⟨K, hK⟩ := checkAll_ev x.f1 (by omega)); (have CK := Aside0.mk (hK K (Nat.le_refl _))); (obtain ⟨E, hE⟩ : ∃ E, errE x.f1 = E := ⟨_, rfl⟩); (have HEE := Aside0.mk hE); (have HBE2 : Aside0 (badE st.es st.ls = if E = 0 then badE (st.es.drop (i + 1)) (st.ls.drop (i + 1)) else some (E, m)) := ⟨by rw [HBE.out, hd1, hd2, badE, hE]⟩); (have q4 : (0 ≤ (i : Int)) = True := eq_true (by omega)); (have q5 : ((i : Int) < (st.es.length : Int)) = True := eq_true (by omega)); (have q6 : ((i : Int) < (st.ls.length : Int)) = True := eq_true (by omega)); (clear hi0 hi1 hd1 hd2 hx hK hE HBE); (go_wp2_with fail); (repeat ((first | go_step3 | (rw [Exit.noGoto_normal]; (try simp only [Exit.inBlock, Exit.then]))); go_wp2_with fail)); (refine (element_checkAll.calls K B1 d1 x.f1 E _ (Kd.C_alloc HC1.out _) hl1 (CK.out.trans (congrArg some HEE.out))).mono ?_); (rintro e W5 ⟨rfl, hb⟩); (have hbr : Below wr.heap.size wr W5 := (below_alloc (Below.refl _ _) _).trans (hb.mono (by simp))); (have HBR := Aside0.mk hbr); (clear hb hbr hx0 hx1 CK HC1); (by_cases he : E = 0)
              · (have heb : (E != 0) = false := bne_eq_false_iff_eq.2 he); (have HBE3 : Aside0 (badE st.es st.ls = badE (st.es.drop (i + 1)) (st.ls.drop (i + 1))) := ⟨by rw [HBE2.out, if_pos he]⟩); (have HBL2 := Aside0.mk (HBL.out.trans (HBR.out.mono hszl))); (clear HBE2 HBL HBR); (go_wp2_with fail); (repeat ((first | go_step3 | (rw [Exit.noGoto_normal]; (try simp only [Exit.inBlock, Exit.then]))); go_wp2_with fail)); (go_roundg g)
                case measure => omega
                case rel => exact ⟨i + 1, by omega, by simp, by omega, HBE3, HBL2⟩
              · (have heb : (E != 0) = true := bne_iff_ne.2 he); (have HNO : Aside0 (parseF s = bad E m) := ⟨by rw [HEND.out, HBE2.out, if_neg he]⟩); (have hx39' := (HBR.out.block _ (blk_lt hx39)).trans hx39); (have hx43' := (HBR.out.block _ (blk_lt hx43)).trans hx43); (have HBz : Aside0 (Below w.heap.size w W5) := ⟨HBw.out.trans (HBR.out.mono HBw.out.size)⟩); (have HX5 := (HBR.out.block _ (blk_lt HXl.out)).trans HXl.out); (have kL : W5.cell? ⟨P, 6, none⟩ = some (.slice AL st.ls.length cL) := (blk_cell HX5 6).trans rfl); (obtain ⟨lad, el, km⟩ := Kd.at_int (Kd.R_reads' (Kd.R_below HLl.out HBR.out)).2.2 (i : Int) (by omega) (by omega)); (cases el); (have hlb := Kd.R_base HLl.out lad.block rfl); (have hab : (lad.add i).block = lad.block := by unfold Addr.add; split <;> rfl)
                have km2 : W5.cell? (lad.add i) = some (.int .i64 m) := by
                  (rw [Int.toNat_natCast, rdI_at st.ls i hiL2, hm] at km); (exact km)
                (clear hx39 hx43 HX5 km HBE2 HEND hm); (have hx39 := hx39'); (have hx43 := hx43'); (have km := km2); (clear hx39' hx43' km2); (go_wp2_with fail); (repeat ((first | go_step3 | (rw [Exit.noGoto_normal]; (try simp only [Exit.inBlock, Exit.then]))); go_wp2_with fail)); (have hx39' := blk_drew hx39); (have hx43' := blk_drew hx43); (have HBz' := Aside0.mk (below_drew HBz.out)); (clear hx39 hx43 HBz); (have hx39 := hx39'); (have hx43 := hx43'); (have HBz := HBz'); (clear hx39' hx43' HBz'); (replace kL : W5.drew.cell? ⟨P, 6, none⟩ = some (.slice (some lad) st.ls.length cL) := kL); (replace km : W5.drew.cell? (lad.add i) = some (.int .i64 m) := km); (refine start_ (n := 12) (S := fun w' => w'.cell? ⟨P, 6, none⟩ = some (.slice (some lad) st.ls.length cL) ∧ w'.cell? (lad.add i) = some (.int .i64 m)) (ds := [11]) #[false, false, false, false, false, false, false, false, false, false, false, false] (by kernel_rfl) rfl rfl ⟨kL, km⟩ (fun hHeld => ?_); refine with_tabW element_ParseFile.tab24 element_ParseFile.bits24 (fun HT_ HW_ => ?_)); (generalize W5.drew = W6 at kL km hx39 hx43 HBz hHeld ⊢); (refine Pq 0 90 (Bt 12 1) ?_); (refine Pq 1 91 (Bt 12 3) ?_); (refine Pq 2 92 (Bt 12 7) ?_); (refine Pq 3 93 (Bt 12 15) ?_); (refine Pq 4 94 (Bt 12 31) ?_); (refine Tk 5 95 (Bt 12 63) ?_); (refine Pq 6 96 (Bt 12 127) ?_); (refine Pq 7 97 (Bt 12 255) ?_); (refine Tk 8 98 (Bt 12 511) ?_); (refine Pq 9 99 (Bt 12 1023) ?_); (refine On 10 none (Bt 12 2047) (fun K hK => ?_)); (have s0 := blk_cell hx39 0); (have s1 := blk_cell hx39 1); (have s2 := blk_cell hx39 2); (have s3 := blk_cell hx39 3); (have s4 := blk_cell hx39 4); (have f0 := blk_frozen hx39 0); (have f1 := blk_frozen hx39 1); (have f2 := blk_frozen hx39 2); (have f3 := blk_frozen hx39 3); (have f4 := blk_frozen hx39 4); (refine skip_ (w1 := ?_) (by rfl) rfl ?_ ?_); (rotate_left)
                · (go_simp); (rfl)
                refine hK.out _ _ ⟨?_, ?_⟩ (fun hHeld => ?_)
                · rw [cell_far, cell_far, cell_far, cell_far, cell_far]
                  · exact kL
                  all_goals (show P ≠ w.heap.size; omega)
                · rw [cell_far, cell_far, cell_far, cell_far, cell_far]
                  · exact km
                  all_goals (show (lad.add i).block ≠ w.heap.size; rw [hab]; omega)
                (clear hK K); (clear s0 s1 s2 s3 s4 f0 f1 f2 f3 f4); (have hf := blk_far (p := ⟨w.heap.size, 4, none⟩) (blk_far (p := ⟨w.heap.size, 3, none⟩) (blk_far (p := ⟨w.heap.size, 2, none⟩) (blk_far (p := ⟨w.heap.size, 1, none⟩) (blk_far (p := ⟨w.heap.size, 0, none⟩) hx43 (by simp) (.slice none 0 0)) (by simp) (.slice none 0 0)) (by simp) (.int .i64 0)) (by simp) (.int .i64 0)) (by simp) (.int .i64 0)); (refine last_ (i := 11) (N := none) #[true, true, true, true, true, true, true, true, true, true, true, true] rfl rfl (one_of HT_.out (by kernel_rfl)) (by decide) (fun K hK => ?_)); (have s0 := blk_cell hf 0); (have s1 := blk_cell hf 1); (have f0 := blk_frozen hf 0); (have f1 := blk_frozen hf 1); (refine skip_ (w1 := ?_) (by rfl) rfl ?_ ?_); (rotate_left)
                · (go_simp); (rfl)
                (refine hK.out _ _ ?_); (clear hK K); (refine done_ (done_of HT_.out (by kernel_rfl)) ?_); (go_wp2); (repeat ((first | go_step3 | (rw [Exit.noGoto_normal]; (try simp only [Exit.inBlock, Exit.then]))); go_wp2)); (have hH := H.out); (rw [HNO.out] at hH); (simp only [bad, Prod.mk.injEq] at hH); (obtain ⟨rfl, rfl, rfl, rfl, rfl, rfl, rfl⟩ := hH); (try (rw [Exit.noGoto_ret]; (try simp only [Exit.inBlock, Exit.then])))
                exact pf_bad w _ _ _ _ hx39 hx43 HBz.out rfl rfl rfl
      | succ g =>
        (have hi : i < Q.length := by omega); (have hiL : i < LS.length := by omega); (obtain ⟨ad2, ead, hxi⟩ := Kd.at_string (Kd.C_below HC.out (show Below W1.heap.size W1 wr by rw [hP]; exact HBd.out)) (i : Int) (by omega) (by omega)); (cases ead); (obtain ⟨x, hx⟩ : ∃ x, LS[i] = x := ⟨_, rfl⟩); (have hrd : rdOf ByteArray.empty (LS.map ofL) (i : Int) = ofL x := by rw [rdc_at LS i hiL, hx]); (rw [hrd, Int.toNat_natCast] at hxi); (have hdr : LS.drop i = x :: LS.drop (i + 1) := by rw [← hx]; exact List.drop_eq_getElem_cons hiL); (have hxl : x.length ≤ 65536 := HLM.out x (by rw [← hx]; exact List.getElem_mem hiL)); (clear hx hrd); (have q2 : (0 ≤ (i : Int)) = True := eq_true (by omega)); (have q3 : ((i : Int) < ((Q.length : Nat) : Int)) = True := eq_true (by omega)); (obtain ⟨⟨Ca, Cb, Cf⟩, hcut⟩ : ∃ C, Lib.cut x [35] = C := ⟨_, rfl⟩)
        have HCF : Aside0 (strings_Cut.f (ofL x) (⟨#[35]⟩ : ByteArray) = some (ofL Ca, ofL Cb, Cf)) := ⟨by
          (have := cut_f x [35] (by omega)); (rw [hcut] at this)
          exact this⟩
        (have hGx := Aside0.mk (GW.below HG.out (HB1.out.trans (HBd.out.mono hPw)))); (go_wp2_with fail); (repeat ((first | go_step3 | (rw [Exit.noGoto_normal]; (try simp only [Exit.inBlock, Exit.then]))); go_wp2_with fail)); (refine (strings_Cut.calls _ _ _ _ _ _ HCF.out hGx.out).mono ?_); (rintro e W2 ⟨rfl, hb⟩); (have HRd2 := Aside0.mk (RdIs_below HRd.out hb)); (have HBd2 : Aside0 (Below P W1 W2) := ⟨HBd.out.trans (hb.mono (by omega))⟩); (clear HRd HBd hb hGx HCF); (have HRd := HRd2); (have HBd := HBd2); (clear HRd2 HBd2)
        cases hCf : Cf with
        | false =>
          (have hBl : bareL x = Ca := by unfold bareL; rw [hcut, hCf]; rfl); (clear hcut hCf); (by_cases hD : Ca = [])
          · (have e1 : (Ca == []) = true := by rw [hD]; rfl); (have e2 : decide (Ca = []) = true := decide_eq_true hD); (have HST : Aside0 (goL LS 0 Rd.none = goL (LS.drop (i + 1)) (i + 1) st) := ⟨by rw [HGO.out, hdr, goL, if_pos (hBl.trans hD)]⟩); (clear hdr hBl hxi); (go_wp2_with fail); (repeat ((first | go_step3 | (rw [Exit.noGoto_normal]; (try simp only [Exit.inBlock, Exit.then]))); go_wp2_with fail)); (go_roundg g)
            case measure => omega
            case rel => exact ⟨i + 1, st, by omega, by simp, by omega, HST, HRd, ⟨InvR_mono HI.out (by omega)⟩, HBd⟩
          · (have e1 : (Ca == []) = false := beq_eq_false_iff_ne.2 hD); (have e2 : decide (Ca = []) = false := decide_eq_false hD); (have hDl : Ca.length ≤ 100000 := by rw [← hBl]; have := bareL_le x; omega); (have hI := HI.out); (have HLC := Aside0.mk (line_calls P st Ca ((i : Int) + 1) W2 hDl HRd.out ⟨by have := hI.es; omega, by have := hI.gs; omega, by have := hI.es; have := hI.ls; omega⟩ (GW.below HG.out (HB1.out.trans (HBd.out.mono hPw))))); (clear hI hxi); (go_wp2_with fail); (repeat ((first | go_step3 | (rw [Exit.noGoto_normal]; (try simp only [Exit.inBlock, Exit.then]))); go_wp2_with fail)); (refine HLC.out.mono ?_); (clear HLC); (rintro e W4 ⟨rfl, hb, hyes⟩)
            cases hl : lineS st Ca ((i : Int) + 1) with
            | none =>
              have HNO : Aside0 (parseF s = bad 3 ((i : Int) + 1)) := ⟨by
                (unfold parseF); (rw [if_neg (by omega), HLS.out, HGO.out, hdr, goL, hBl, if_neg hD, hl])
                rfl⟩
              (have hx39 := (hb.block _ hQ0).trans ((HBd.out.block _ hQ0).trans HX39.out)); (have hx43 := (hb.block _ hQ1).trans ((HBd.out.block _ hQ1).trans HX43.out)); (have HBw : Aside0 (Below w.heap.size w W4) := ⟨(HB1.out.trans (HBd.out.mono hPw)).trans (hb.mono hPw)⟩); (clear hb hyes hdr hBl hD); (have d0 := blk_cell hx39 0); (have d1 := blk_cell hx39 1); (have d2 := blk_cell hx39 2); (have d3 := blk_cell hx39 3); (have d4 := blk_cell hx39 4); (have f0 := blk_frozen hx39 0); (have f1 := blk_frozen hx39 1); (have f2 := blk_frozen hx39 2); (have f3 := blk_frozen hx39 3); (have f4 := blk_frozen hx39 4); (have e0 := blk_cell hx43 0); (have e1 := blk_cell hx43 1); (have g0 := blk_frozen hx43 0); (have g1 := blk_frozen hx43 1); (go_wp2); (repeat ((first | go_step3 | (rw [Exit.noGoto_normal]; (try simp only [Exit.inBlock, Exit.then]))); go_wp2)); (have hH := H.out); (rw [HNO.out] at hH); (simp only [bad, Prod.mk.injEq] at hH); (obtain ⟨rfl, rfl, rfl, rfl, rfl, rfl, rfl⟩ := hH); (try (rw [Exit.noGoto_ret]; (try simp only [Exit.inBlock, Exit.then])))
              exact pf_bad w _ _ _ _ hx39 hx43 HBw.out rfl rfl rfl
            | some st1 =>
              (have HST : Aside0 (goL LS 0 Rd.none = goL (LS.drop (i + 1)) (i + 1) st1) := ⟨by rw [HGO.out, hdr, goL, hBl, if_neg hD, hl]⟩); (have HRd1 := Aside0.mk (hyes st1 hl)); (have HBd1 : Aside0 (Below P W1 W4) := ⟨HBd.out.trans hb⟩); (have HI1 := Aside0.mk (lineS_inv hl hDl HI.out)); (clear hb hyes hdr hBl hD hl); (go_wp2_with fail); (repeat ((first | go_step3 | (rw [Exit.noGoto_normal]; (try simp only [Exit.inBlock, Exit.then]))); go_wp2_with fail)); (go_roundg g)
              case measure => omega
              case rel => exact ⟨i + 1, st1, by omega, by simp, by omega, HST, HRd1, HI1, HBd1⟩
        | true =>
          (obtain ⟨T, hT⟩ : ∃ T, Lib.trimRightB Ca 32 = T := ⟨_, rfl⟩); (have hBl : bareL x = T := by unfold bareL; rw [hcut, hCf, ← hT]; rfl); (have hcal : Ca.length ≤ x.length := by have := (cut_le x [35]).1; rw [hcut] at this; exact this)
          have HTR : Aside0 (strings_TrimRight.f (ofL Ca) (⟨#[32]⟩ : ByteArray) = some (ofL T)) := ⟨by
            unfold strings_TrimRight.f
            rw [if_pos ⟨by rw [ofL_size]; omega, rfl⟩, ofL_list, hT]⟩
          (clear hcut hCf hT); (go_wp2_with fail); (repeat ((first | go_step3 | (rw [Exit.noGoto_normal]; (try simp only [Exit.inBlock, Exit.then]))); go_wp2_with fail)); (refine (strings_TrimRight.calls _ _ _ _ HTR.out).mono ?_); (rintro e W3 ⟨rfl, hb⟩); (have hsz2 := HBd.out.size); (have HRd2 := Aside0.mk (RdIs_below HRd.out hb)); (have HBd2 : Aside0 (Below P W1 W3) := ⟨HBd.out.trans (hb.mono (by omega))⟩); (clear HRd HBd hb HTR); (have HRd := HRd2); (have HBd := HBd2); (clear HRd2 HBd2); (by_cases hD : T = [])
          · (have e1 : (T == []) = true := by rw [hD]; rfl); (have e2 : decide (T = []) = true := decide_eq_true hD); (have HST : Aside0 (goL LS 0 Rd.none = goL (LS.drop (i + 1)) (i + 1) st) := ⟨by rw [HGO.out, hdr, goL, if_pos (hBl.trans hD)]⟩); (clear hdr hBl hxi); (go_wp2_with fail); (repeat ((first | go_step3 | (rw [Exit.noGoto_normal]; (try simp only [Exit.inBlock, Exit.then]))); go_wp2_with fail)); (go_roundg g)
            case measure => omega
            case rel => exact ⟨i + 1, st, by omega, by simp, by omega, HST, HRd, ⟨InvR_mono HI.out (by omega)⟩, HBd⟩
          · (have e1 : (T == []) = false := beq_eq_false_iff_ne.2 hD); (have e2 : decide (T = []) = false := decide_eq_false hD); (have hDl : T.length ≤ 100000 := by rw [← hBl]; have := bareL_le x; omega); (have hI := HI.out); (have HLC := Aside0.mk (line_calls P st T ((i : Int) + 1) W3 hDl HRd.out ⟨by have := hI.es; omega, by have := hI.gs; omega, by have := hI.es; have := hI.ls; omega⟩ (GW.below HG.out (HB1.out.trans (HBd.out.mono hPw))))); (clear hI hxi); (go_wp2_with fail); (repeat ((first | go_step3 | (rw [Exit.noGoto_normal]; (try simp only [Exit.inBlock, Exit.then]))); go_wp2_with fail)); (refine HLC.out.mono ?_); (clear HLC); (rintro e W4 ⟨rfl, hb, hyes⟩)
            cases hl : lineS st T ((i : Int) + 1) with
            | none =>
              have HNO : Aside0 (parseF s = bad 3 ((i : Int) + 1)) := ⟨by
                (unfold parseF); (rw [if_neg (by omega), HLS.out, HGO.out, hdr, goL, hBl, if_neg hD, hl])
                rfl⟩
              (have hx39 := (hb.block _ hQ0).trans ((HBd.out.block _ hQ0).trans HX39.out)); (have hx43 := (hb.block _ hQ1).trans ((HBd.out.block _ hQ1).trans HX43.out)); (have HBw : Aside0 (Below w.heap.size w W4) := ⟨(HB1.out.trans (HBd.out.mono hPw)).trans (hb.mono hPw)⟩); (clear hb hyes hdr hBl hD); (have d0 := blk_cell hx39 0); (have d1 := blk_cell hx39 1); (have d2 := blk_cell hx39 2); (have d3 := blk_cell hx39 3); (have d4 := blk_cell hx39 4); (have f0 := blk_frozen hx39 0); (have f1 := blk_frozen hx39 1); (have f2 := blk_frozen hx39 2); (have f3 := blk_frozen hx39 3); (have f4 := blk_frozen hx39 4); (have e0 := blk_cell hx43 0); (have e1 := blk_cell hx43 1); (have g0 := blk_frozen hx43 0); (have g1 := blk_frozen hx43 1); (go_wp2); (repeat ((first | go_step3 | (rw [Exit.noGoto_normal]; (try simp only [Exit.inBlock, Exit.then]))); go_wp2)); (have hH := H.out); (rw [HNO.out] at hH); (simp only [bad, Prod.mk.injEq] at hH); (obtain ⟨rfl, rfl, rfl, rfl, rfl, rfl, rfl⟩ := hH); (try (rw [Exit.noGoto_ret]; (try simp only [Exit.inBlock, Exit.then])))
              exact pf_bad w _ _ _ _ hx39 hx43 HBw.out rfl rfl rfl
            | some st1 =>
              (have HST : Aside0 (goL LS 0 Rd.none = goL (LS.drop (i + 1)) (i + 1) st1) := ⟨by rw [HGO.out, hdr, goL, hBl, if_neg hD, hl]⟩); (have HRd1 := Aside0.mk (hyes st1 hl)); (have HBd1 : Aside0 (Below P W1 W4) := ⟨HBd.out.trans hb⟩); (have HI1 := Aside0.mk (lineS_inv hl hDl HI.out)); (clear hb hyes hdr hBl hD hl); (go_wp2_with fail); (repeat ((first | go_step3 | (rw [Exit.noGoto_normal]; (try simp only [Exit.inBlock, Exit.then]))); go_wp2_with fail)); (go_roundg g)
              case measure => omega
              case rel => exact ⟨i + 1, st1, by omega, by simp, by omega, HST, HRd1, HI1, HBd1⟩
  · (have z1 : (z == []) = false := beq_eq_false_iff_ne.2 hz); (have z2 : decide (z = []) = false := decide_eq_false hz); (have HLS : Aside0 (linesOf s = Q ++ [z]) := ⟨by rw [linesOf_of HPS.out, if_neg hz]⟩); (obtain ⟨LS, hLS⟩ : ∃ LS, Q ++ [z] = LS := ⟨_, rfl⟩); (have hLn : LS.length = Q.length + 1 := by rw [← hLS]; simp); (have HLM : Aside0 (∀ x ∈ LS, x.length ≤ 65536) := ⟨fun x hx => HPM.out x (by rw [hLS]; exact hx)⟩); (rw [hLS] at HLS HCC); (have HC : Aside0 (Kd.C Kd.string W1 (some ad) (Q.length + 1) (LS.map ofL)) := ⟨HCC.out⟩); (have hc2 : Q.length + 1 ≤ c1 := hc1); (clear hLS hz); (obtain ⟨P, hP⟩ : ∃ P, W1.heap.size = P := ⟨_, rfl⟩); (have HP : Aside0 (RdIs P Rd.none (W1.alloc (.cells #[.slice none 0 0, .slice none 0 0, .int .i64 0, .int .i64 0, .int .i64 0, .bool false, .slice none 0 0] 72))) := ⟨by rw [← hP]; exact ⟨_, _, _, heap_alloc_new _ _, Kd.S_nil _ _ _ _ _, Kd.R_nil _ _ _ _ _, Kd.R_nil _ _ _ _ _⟩⟩); (have HBP : Aside0 (Below P W1 (W1.alloc (.cells #[.slice none 0 0, .slice none 0 0, .int .i64 0, .int .i64 0, .int .i64 0, .bool false, .slice none 0 0] 72))) := ⟨by rw [← hP]; exact below_alloc (Below.refl _ _) _⟩); (have hQ0 : w.heap.size < P := by omega); (have hQ1 : w.heap.size + 1 < P := by omega); (have hPw : w.heap.size ≤ P := by omega); (go_wp2_with fail); (repeat ((first | go_step3 | (rw [Exit.noGoto_normal]; (try simp only [Exit.inBlock, Exit.then]))); go_wp2_with fail)); (go_loopg [37] (Q.length + 1) (fun g v wx => ∃ (i : Nat) (st : Rd), i ≤ (Q.length + 1) ∧ v = .int .i64 (i : Int) ∧ i + g = (Q.length + 1) ∧ Aside0 (goL LS 0 Rd.none = goL (LS.drop i) i st) ∧ Aside0 (RdIs P st wx) ∧ Aside0 (InvR st i) ∧ Aside0 (Below P W1 wx)))
    case atStart => exact ⟨0, Rd.none, by omega, rfl, by omega, ⟨by rw [List.drop_zero]⟩, HP, ⟨⟨Nat.le_refl _, Nat.le_refl _, rfl, by simp [Rd.none]⟩⟩, HBP⟩
    case round =>
      (clear HP HBP); (obtain ⟨i, st, hile, rfl, hig, HGO, HRd, HI, HBd⟩ := hrel); (have hBsz := HBd.out.size)
      cases gk with
      | zero =>
        (obtain rfl : i = (Q.length + 1) := by omega); (have HGO2 : Aside0 (goL LS 0 Rd.none = .inl st) := ⟨by rw [HGO.out, List.drop_of_length_le (by omega)]; rfl⟩); (obtain ⟨vE, vG, vL, hX, hE, hGr, hL⟩ := HRd.out); (have HX := Aside0.mk hX); (have HE := Aside0.mk hE); (have HGr := Aside0.mk hGr); (have HL := Aside0.mk hL); (have hPl := blk_lt hX); (clear hX hE hGr hL HGO)
        cases hbg : st.bg with
        | false =>
          have b5 : wr.cell? ⟨P, 5, none⟩ = some (.bool false) := by rw [← hbg]; exact (blk_cell HX.out 5).trans rfl
          have HNO : Aside0 (parseF s = bad 3 (((Q.length + 1) : Int) + 1)) := ⟨by
            (unfold parseF); (rw [if_neg (by omega), HLS.out, HGO2.out]); (unfold endL); (dsimp only); (rw [if_pos hbg, hLn])
            first | done | rfl⟩
          (have hx39 := (HBd.out.block _ hQ0).trans HX39.out); (have hx43 := (HBd.out.block _ hQ1).trans HX43.out); (have HBw : Aside0 (Below w.heap.size w wr) := ⟨HB1.out.trans (HBd.out.mono hPw)⟩); (clear hbg); (have d0 := blk_cell hx39 0); (have d1 := blk_cell hx39 1); (have d2 := blk_cell hx39 2); (have d3 := blk_cell hx39 3); (have d4 := blk_cell hx39 4); (have f0 := blk_frozen hx39 0); (have f1 := blk_frozen hx39 1); (have f2 := blk_frozen hx39 2); (have f3 := blk_frozen hx39 3); (have f4 := blk_frozen hx39 4); (have e0 := blk_cell hx43 0); (have e1 := blk_cell hx43 1); (have g0 := blk_frozen hx43 0); (have g1 := blk_frozen hx43 1); (go_wp2); (repeat ((first | go_step3 | (rw [Exit.noGoto_normal]; (try simp only [Exit.inBlock, Exit.then]))); go_wp2)); (have hH := H.out); (rw [HNO.out] at hH); (simp only [bad, Prod.mk.injEq] at hH); (obtain ⟨rfl, rfl, rfl, rfl, rfl, rfl, rfl⟩ := hH); (try (rw [Exit.noGoto_ret]; (try simp only [Exit.inBlock, Exit.then])))
          exact pf_bad w _ _ _ _ hx39 hx43 HBw.out rfl rfl rfl
        | true =>
          (obtain ⟨AE, cE, rfl⟩ := Kd.S_slice HE.out); (obtain ⟨AG, cG, rfl⟩ := Kd.R_slice HGr.out); (obtain ⟨AL, cL, rfl⟩ := Kd.R_slice HL.out)
          have HEND : Aside0 (parseF s = match badE st.es st.ls with | some (e, n) => bad e n | none => (st.es, st.gs, st.b1, st.b2, st.b3, 0, 0)) := ⟨by
            (unfold parseF); (rw [if_neg (by omega), HLS.out, HGO2.out]); (unfold endL); (dsimp only); (rw [if_neg (by rw [hbg]; decide)])
            cases badE st.es st.ls <;> rfl⟩
          (have hel := HI.out.es); (have b5 : wr.cell? ⟨P, 5, none⟩ = some (.bool true) := by rw [← hbg]; exact (blk_cell HX.out 5).trans rfl); (have b0 : wr.cell? ⟨P, 0, none⟩ = some (.slice AE st.es.length cE) := (blk_cell HX.out 0).trans rfl); (clear hbg HGO2); (go_wp2_with fail); (repeat ((first | go_step3 | (rw [Exit.noGoto_normal]; (try simp only [Exit.inBlock, Exit.then]))); go_wp2_with fail)); (clear b5 b0); (go_loopg [80] st.es.length (fun g v wx => ∃ i : Nat, i ≤ st.es.length ∧ v = .int .i64 (i : Int) ∧ i + g = st.es.length ∧ Aside0 (badE st.es st.ls = badE (st.es.drop i) (st.ls.drop i)) ∧ Aside0 (Below wr.heap.size wr wx)))
          case atStart => exact ⟨0, by omega, rfl, by omega, ⟨by rw [List.drop_zero, List.drop_zero]⟩, ⟨Below.refl _ _⟩⟩
          case round =>
            (obtain ⟨i, hile, rfl, hig, HBE, HBL⟩ := hrel); (have hszl := HBL.out.size); (have HXl := Aside0.mk ((HBL.out.block _ hPl).trans HX.out)); (have HEl := Aside0.mk (Kd.S_below HE.out HBL.out)); (have HGl := Aside0.mk (Kd.R_below HGr.out HBL.out)); (have HLl := Aside0.mk (Kd.R_below HL.out HBL.out)); (have hx39 := (HBL.out.block _ (by omega)).trans ((HBd.out.block _ hQ0).trans HX39.out)); (have hx43 := (HBL.out.block _ (by omega)).trans ((HBd.out.block _ hQ1).trans HX43.out)); (have HBw : Aside0 (Below w.heap.size w wr) := ⟨(HB1.out.trans (HBd.out.mono hPw)).trans (HBL.out.mono (by omega))⟩); (clear HX HE HGr HL)
            cases gk with
            | zero =>
              obtain rfl : i = st.es.length := by omega
              have HYES : Aside0 (parseF s = (st.es, st.gs, st.b1, st.b2, st.b3, 0, 0)) := ⟨by
                rw [HEND.out, HBE.out, List.drop_of_length_le (Nat.le_refl _)]
                rfl⟩
              (have c0 := blk_cell HXl.out 0); (have c1' := blk_cell HXl.out 1); (have c2' := blk_cell HXl.out 2); (have c3' := blk_cell HXl.out 3); (have c4' := blk_cell HXl.out 4); (have d0 := blk_cell hx39 0); (have d1 := blk_cell hx39 1); (have d2 := blk_cell hx39 2); (have d3 := blk_cell hx39 3); (have d4 := blk_cell hx39 4); (have f0 := blk_frozen hx39 0); (have f1 := blk_frozen hx39 1); (have f2 := blk_frozen hx39 2); (have f3 := blk_frozen hx39 3); (have f4 := blk_frozen hx39 4); (have e0 := blk_cell hx43 0); (have e1 := blk_cell hx43 1); (have g0 := blk_frozen hx43 0); (have g1 := blk_frozen hx43 1); (go_wp2); (repeat ((first | go_step3 | (rw [Exit.noGoto_normal]; (try simp only [Exit.inBlock, Exit.then]))); go_wp2)); (have hH := H.out); (rw [HYES.out] at hH); (simp only [Prod.mk.injEq] at hH); (obtain ⟨rfl, rfl, rfl, rfl, rfl, rfl, rfl⟩ := hH); (try (rw [Exit.noGoto_ret]; (try simp only [Exit.inBlock, Exit.then]))); (refine pf_end w wr _ _ _ _ _ _ _ _ (.slice AE st.es.length cE) (.slice AG st.gs.length cG) st.b1 st.b2 st.b3 0 0 hx39 hx43 HBw.out rfl rfl rfl _ (fun W' hm hW' => ⟨_, _, rfl, ?_, ?_, hW'⟩))
              · exact Kd.S_mono (Kd.S_lower (Kd.S_move (Kd.S_bound HEl.out) (fun k hk => hm k (by have := hk.2.1; omega) (by have := hk.2.1; omega))) (by omega)) (fun _ _ => trivial)
              · exact Kd.R_mono (Kd.R_lower (Kd.R_move (Kd.R_bound HGl.out) (fun k hk => hm k (by have := hk.2.1; omega) (by have := hk.2.1; omega))) (by omega)) (fun _ _ => trivial)
            | succ g =>
              (have hi : i < st.es.length := by omega); (have hiL2 : i < st.ls.length := by have := HI.out.ls; omega); (obtain ⟨ad2, B0, d0, B1, d1, ead, hx0, hx1, hl0, hi0, hl1, hi1⟩ := at_T49 (Kd.S_reads' HEl.out).2.2 (i : Int) (by omega) (by omega)); (cases ead); (obtain ⟨x, hx⟩ : ∃ x, st.es[i]'hi = x := ⟨_, rfl⟩); (obtain ⟨m, hm⟩ : ∃ m, st.ls[i]'hiL2 = m := ⟨_, rfl⟩); (rw [rdX_at st.es i hi, hx] at hx0 hx1 hl0 hi0 hl1 hi1); (rw [Int.toNat_natCast] at hx0 hx1); (have hxm : x.f1.length ≤ 100000 := HI.out.el x (by rw [← hx]; exact List.getElem_mem hi)); (have hd1 : st.es.drop i = x :: st.es.drop (i + 1) := by rw [← hx]; exact List.drop_eq_getElem_cons hi); (have hd2 : st.ls.drop i = m :: st.ls.drop (i + 1) := by rw [← hm]; exact List.drop_eq_getElem_cons hiL2); (have HC1 := Aside0.mk hi1); (obtain ⟨K, hK⟩ := checkAll_ev x.f1 (by omega)); (have CK := Aside0.mk (hK K (Nat.le_refl _))); (obtain ⟨E, hE⟩ : ∃ E, errE x.f1 = E := ⟨_, rfl⟩); (have HEE := Aside0.mk hE); (have HBE2 : Aside0 (badE st.es st.ls = if E = 0 then badE (st.es.drop (i + 1)) (st.ls.drop (i + 1)) else some (E, m)) := ⟨by rw [HBE.out, hd1, hd2, badE, hE]⟩); (have q4 : (0 ≤ (i : Int)) = True := eq_true (by omega)); (have q5 : ((i : Int) < (st.es.length : Int)) = True := eq_true (by omega)); (have q6 : ((i : Int) < (st.ls.length : Int)) = True := eq_true (by omega)); (clear hi0 hi1 hd1 hd2 hx hK hE HBE); (go_wp2_with fail); (repeat ((first | go_step3 | (rw [Exit.noGoto_normal]; (try simp only [Exit.inBlock, Exit.then]))); go_wp2_with fail)); (refine (element_checkAll.calls K B1 d1 x.f1 E _ (Kd.C_alloc HC1.out _) hl1 (CK.out.trans (congrArg some HEE.out))).mono ?_); (rintro e W5 ⟨rfl, hb⟩); (have hbr : Below wr.heap.size wr W5 := (below_alloc (Below.refl _ _) _).trans (hb.mono (by simp))); (have HBR := Aside0.mk hbr); (clear hb hbr hx0 hx1 CK HC1); (by_cases he : E = 0)
              · (have heb : (E != 0) = false := bne_eq_false_iff_eq.2 he); (have HBE3 : Aside0 (badE st.es st.ls = badE (st.es.drop (i + 1)) (st.ls.drop (i + 1))) := ⟨by rw [HBE2.out, if_pos he]⟩); (have HBL2 := Aside0.mk (HBL.out.trans (HBR.out.mono hszl))); (clear HBE2 HBL HBR); (go_wp2_with fail); (repeat ((first | go_step3 | (rw [Exit.noGoto_normal]; (try simp only [Exit.inBlock, Exit.then]))); go_wp2_with fail)); (go_roundg g)
                case measure => omega
                case rel => exact ⟨i + 1, by omega, by simp, by omega, HBE3, HBL2⟩
              · (have heb : (E != 0) = true := bne_iff_ne.2 he); (have HNO : Aside0 (parseF s = bad E m) := ⟨by rw [HEND.out, HBE2.out, if_neg he]⟩); (have hx39' := (HBR.out.block _ (blk_lt hx39)).trans hx39); (have hx43' := (HBR.out.block _ (blk_lt hx43)).trans hx43); (have HBz : Aside0 (Below w.heap.size w W5) := ⟨HBw.out.trans (HBR.out.mono HBw.out.size)⟩); (have HX5 := (HBR.out.block _ (blk_lt HXl.out)).trans HXl.out); (have kL : W5.cell? ⟨P, 6, none⟩ = some (.slice AL st.ls.length cL) := (blk_cell HX5 6).trans rfl); (obtain ⟨lad, el, km⟩ := Kd.at_int (Kd.R_reads' (Kd.R_below HLl.out HBR.out)).2.2 (i : Int) (by omega) (by omega)); (cases el); (have hlb := Kd.R_base HLl.out lad.block rfl); (have hab : (lad.add i).block = lad.block := by unfold Addr.add; split <;> rfl)
                have km2 : W5.cell? (lad.add i) = some (.int .i64 m) := by
                  (rw [Int.toNat_natCast, rdI_at st.ls i hiL2, hm] at km); (exact km)
                (clear hx39 hx43 HX5 km HBE2 HEND hm); (have hx39 := hx39'); (have hx43 := hx43'); (have km := km2); (clear hx39' hx43' km2); (go_wp2_with fail); (repeat ((first | go_step3 | (rw [Exit.noGoto_normal]; (try simp only [Exit.inBlock, Exit.then]))); go_wp2_with fail)); (have hx39' := blk_drew hx39); (have hx43' := blk_drew hx43); (have HBz' := Aside0.mk (below_drew HBz.out)); (clear hx39 hx43 HBz); (have hx39 := hx39'); (have hx43 := hx43'); (have HBz := HBz'); (clear hx39' hx43' HBz'); (replace kL : W5.drew.cell? ⟨P, 6, none⟩ = some (.slice (some lad) st.ls.length cL) := kL); (replace km : W5.drew.cell? (lad.add i) = some (.int .i64 m) := km); (refine start_ (n := 12) (S := fun w' => w'.cell? ⟨P, 6, none⟩ = some (.slice (some lad) st.ls.length cL) ∧ w'.cell? (lad.add i) = some (.int .i64 m)) (ds := [11]) #[false, false, false, false, false, false, false, false, false, false, false, false] (by kernel_rfl) rfl rfl ⟨kL, km⟩ (fun hHeld => ?_); refine with_tabW element_ParseFile.tab24 element_ParseFile.bits24 (fun HT_ HW_ => ?_)); (generalize W5.drew = W6 at kL km hx39 hx43 HBz hHeld ⊢); (refine Pq 0 90 (Bt 12 1) ?_); (refine Pq 1 91 (Bt 12 3) ?_); (refine Pq 2 92 (Bt 12 7) ?_); (refine Pq 3 93 (Bt 12 15) ?_); (refine Pq 4 94 (Bt 12 31) ?_); (refine Tk 5 95 (Bt 12 63) ?_); (refine Pq 6 96 (Bt 12 127) ?_); (refine Pq 7 97 (Bt 12 255) ?_); (refine Tk 8 98 (Bt 12 511) ?_); (refine Pq 9 99 (Bt 12 1023) ?_); (refine On 10 none (Bt 12 2047) (fun K hK => ?_)); (have s0 := blk_cell hx39 0); (have s1 := blk_cell hx39 1); (have s2 := blk_cell hx39 2); (have s3 := blk_cell hx39 3); (have s4 := blk_cell hx39 4); (have f0 := blk_frozen hx39 0); (have f1 := blk_frozen hx39 1); (have f2 := blk_frozen hx39 2); (have f3 := blk_frozen hx39 3); (have f4 := blk_frozen hx39 4); (refine skip_ (w1 := ?_) (by rfl) rfl ?_ ?_); (rotate_left)
                · (go_simp); (rfl)
                refine hK.out _ _ ⟨?_, ?_⟩ (fun hHeld => ?_)
                · rw [cell_far, cell_far, cell_far, cell_far, cell_far]
                  · exact kL
                  all_goals (show P ≠ w.heap.size; omega)
                · rw [cell_far, cell_far, cell_far, cell_far, cell_far]
                  · exact km
                  all_goals (show (lad.add i).block ≠ w.heap.size; rw [hab]; omega)
                (clear hK K); (clear s0 s1 s2 s3 s4 f0 f1 f2 f3 f4); (have hf := blk_far (p := ⟨w.heap.size, 4, none⟩) (blk_far (p := ⟨w.heap.size, 3, none⟩) (blk_far (p := ⟨w.heap.size, 2, none⟩) (blk_far (p := ⟨w.heap.size, 1, none⟩) (blk_far (p := ⟨w.heap.size, 0, none⟩) hx43 (by simp) (.slice none 0 0)) (by simp) (.slice none 0 0)) (by simp) (.int .i64 0)) (by simp) (.int .i64 0)) (by simp) (.int .i64 0)); (refine last_ (i := 11) (N := none) #[true, true, true, true, true, true, true, true, true, true, true, true] rfl rfl (one_of HT_.out (by kernel_rfl)) (by decide) (fun K hK => ?_)); (have s0 := blk_cell hf 0); (have s1 := blk_cell hf 1); (have f0 := blk_frozen hf 0); (have f1 := blk_frozen hf 1); (refine skip_ (w1 := ?_) (by rfl) rfl ?_ ?_); (rotate_left)
                · (go_simp); (rfl)
                (refine hK.out _ _ ?_); (clear hK K); (refine done_ (done_of HT_.out (by kernel_rfl)) ?_); (go_wp2); (repeat ((first | go_step3 | (rw [Exit.noGoto_normal]; (try simp only [Exit.inBlock, Exit.then]))); go_wp2)); (have hH := H.out); (rw [HNO.out] at hH); (simp only [bad, Prod.mk.injEq] at hH); (obtain ⟨rfl, rfl, rfl, rfl, rfl, rfl, rfl⟩ := hH); (try (rw [Exit.noGoto_ret]; (try simp only [Exit.inBlock, Exit.then])))
                exact pf_bad w _ _ _ _ hx39 hx43 HBz.out rfl rfl rfl
      | succ g =>
        (have hi : i < (Q.length + 1) := by omega); (have hiL : i < LS.length := by omega); (obtain ⟨ad2, ead, hxi⟩ := Kd.at_string (Kd.C_below HC.out (show Below W1.heap.size W1 wr by rw [hP]; exact HBd.out)) (i : Int) (by omega) (by omega)); (cases ead); (obtain ⟨x, hx⟩ : ∃ x, LS[i] = x := ⟨_, rfl⟩); (have hrd : rdOf ByteArray.empty (LS.map ofL) (i : Int) = ofL x := by rw [rdc_at LS i hiL, hx]); (rw [hrd, Int.toNat_natCast] at hxi); (have hdr : LS.drop i = x :: LS.drop (i + 1) := by rw [← hx]; exact List.drop_eq_getElem_cons hiL); (have hxl : x.length ≤ 65536 := HLM.out x (by rw [← hx]; exact List.getElem_mem hiL)); (clear hx hrd); (have q2 : (0 ≤ (i : Int)) = True := eq_true (by omega)); (have q3 : ((i : Int) < (((Q.length + 1) : Nat) : Int)) = True := eq_true (by omega)); (obtain ⟨⟨Ca, Cb, Cf⟩, hcut⟩ : ∃ C, Lib.cut x [35] = C := ⟨_, rfl⟩)
        have HCF : Aside0 (strings_Cut.f (ofL x) (⟨#[35]⟩ : ByteArray) = some (ofL Ca, ofL Cb, Cf)) := ⟨by
          (have := cut_f x [35] (by omega)); (rw [hcut] at this)
          exact this⟩
        (have hGx := Aside0.mk (GW.below HG.out (HB1.out.trans (HBd.out.mono hPw)))); (go_wp2_with fail); (repeat ((first | go_step3 | (rw [Exit.noGoto_normal]; (try simp only [Exit.inBlock, Exit.then]))); go_wp2_with fail)); (refine (strings_Cut.calls _ _ _ _ _ _ HCF.out hGx.out).mono ?_); (rintro e W2 ⟨rfl, hb⟩); (have HRd2 := Aside0.mk (RdIs_below HRd.out hb)); (have HBd2 : Aside0 (Below P W1 W2) := ⟨HBd.out.trans (hb.mono (by omega))⟩); (clear HRd HBd hb hGx HCF); (have HRd := HRd2); (have HBd := HBd2); (clear HRd2 HBd2)
        cases hCf : Cf with
        | false =>
          (have hBl : bareL x = Ca := by unfold bareL; rw [hcut, hCf]; rfl); (clear hcut hCf); (by_cases hD : Ca = [])
          · (have e1 : (Ca == []) = true := by rw [hD]; rfl); (have e2 : decide (Ca = []) = true := decide_eq_true hD); (have HST : Aside0 (goL LS 0 Rd.none = goL (LS.drop (i + 1)) (i + 1) st) := ⟨by rw [HGO.out, hdr, goL, if_pos (hBl.trans hD)]⟩); (clear hdr hBl hxi); (go_wp2_with fail); (repeat ((first | go_step3 | (rw [Exit.noGoto_normal]; (try simp only [Exit.inBlock, Exit.then]))); go_wp2_with fail)); (go_roundg g)
            case measure => omega
            case rel => exact ⟨i + 1, st, by omega, by simp, by omega, HST, HRd, ⟨InvR_mono HI.out (by omega)⟩, HBd⟩
          · (have e1 : (Ca == []) = false := beq_eq_false_iff_ne.2 hD); (have e2 : decide (Ca = []) = false := decide_eq_false hD); (have hDl : Ca.length ≤ 100000 := by rw [← hBl]; have := bareL_le x; omega); (have hI := HI.out); (have HLC := Aside0.mk (line_calls P st Ca ((i : Int) + 1) W2 hDl HRd.out ⟨by have := hI.es; omega, by have := hI.gs; omega, by have := hI.es; have := hI.ls; omega⟩ (GW.below HG.out (HB1.out.trans (HBd.out.mono hPw))))); (clear hI hxi); (go_wp2_with fail); (repeat ((first | go_step3 | (rw [Exit.noGoto_normal]; (try simp only [Exit.inBlock, Exit.then]))); go_wp2_with fail)); (refine HLC.out.mono ?_); (clear HLC); (rintro e W4 ⟨rfl, hb, hyes⟩)
            cases hl : lineS st Ca ((i : Int) + 1) with
            | none =>
              have HNO : Aside0 (parseF s = bad 3 ((i : Int) + 1)) := ⟨by
                (unfold parseF); (rw [if_neg (by omega), HLS.out, HGO.out, hdr, goL, hBl, if_neg hD, hl])
                rfl⟩
              (have hx39 := (hb.block _ hQ0).trans ((HBd.out.block _ hQ0).trans HX39.out)); (have hx43 := (hb.block _ hQ1).trans ((HBd.out.block _ hQ1).trans HX43.out)); (have HBw : Aside0 (Below w.heap.size w W4) := ⟨(HB1.out.trans (HBd.out.mono hPw)).trans (hb.mono hPw)⟩); (clear hb hyes hdr hBl hD); (have d0 := blk_cell hx39 0); (have d1 := blk_cell hx39 1); (have d2 := blk_cell hx39 2); (have d3 := blk_cell hx39 3); (have d4 := blk_cell hx39 4); (have f0 := blk_frozen hx39 0); (have f1 := blk_frozen hx39 1); (have f2 := blk_frozen hx39 2); (have f3 := blk_frozen hx39 3); (have f4 := blk_frozen hx39 4); (have e0 := blk_cell hx43 0); (have e1 := blk_cell hx43 1); (have g0 := blk_frozen hx43 0); (have g1 := blk_frozen hx43 1); (go_wp2); (repeat ((first | go_step3 | (rw [Exit.noGoto_normal]; (try simp only [Exit.inBlock, Exit.then]))); go_wp2)); (have hH := H.out); (rw [HNO.out] at hH); (simp only [bad, Prod.mk.injEq] at hH); (obtain ⟨rfl, rfl, rfl, rfl, rfl, rfl, rfl⟩ := hH); (try (rw [Exit.noGoto_ret]; (try simp only [Exit.inBlock, Exit.then])))
              exact pf_bad w _ _ _ _ hx39 hx43 HBw.out rfl rfl rfl
            | some st1 =>
              (have HST : Aside0 (goL LS 0 Rd.none = goL (LS.drop (i + 1)) (i + 1) st1) := ⟨by rw [HGO.out, hdr, goL, hBl, if_neg hD, hl]⟩); (have HRd1 := Aside0.mk (hyes st1 hl)); (have HBd1 : Aside0 (Below P W1 W4) := ⟨HBd.out.trans hb⟩); (have HI1 := Aside0.mk (lineS_inv hl hDl HI.out)); (clear hb hyes hdr hBl hD hl); (go_wp2_with fail); (repeat ((first | go_step3 | (rw [Exit.noGoto_normal]; (try simp only [Exit.inBlock, Exit.then]))); go_wp2_with fail)); (go_roundg g)
              case measure => omega
              case rel => exact ⟨i + 1, st1, by omega, by simp, by omega, HST, HRd1, HI1, HBd1⟩
        | true =>
          (obtain ⟨T, hT⟩ : ∃ T, Lib.trimRightB Ca 32 = T := ⟨_, rfl⟩); (have hBl : bareL x = T := by unfold bareL; rw [hcut, hCf, ← hT]; rfl); (have hcal : Ca.length ≤ x.length := by have := (cut_le x [35]).1; rw [hcut] at this; exact this)
          have HTR : Aside0 (strings_TrimRight.f (ofL Ca) (⟨#[32]⟩ : ByteArray) = some (ofL T)) := ⟨by
            unfold strings_TrimRight.f
            rw [if_pos ⟨by rw [ofL_size]; omega, rfl⟩, ofL_list, hT]⟩
          (clear hcut hCf hT); (go_wp2_with fail); (repeat ((first | go_step3 | (rw [Exit.noGoto_normal]; (try simp only [Exit.inBlock, Exit.then]))); go_wp2_with fail)); (refine (strings_TrimRight.calls _ _ _ _ HTR.out).mono ?_); (rintro e W3 ⟨rfl, hb⟩); (have hsz2 := HBd.out.size); (have HRd2 := Aside0.mk (RdIs_below HRd.out hb)); (have HBd2 : Aside0 (Below P W1 W3) := ⟨HBd.out.trans (hb.mono (by omega))⟩); (clear HRd HBd hb HTR); (have HRd := HRd2); (have HBd := HBd2); (clear HRd2 HBd2); (by_cases hD : T = [])
          · (have e1 : (T == []) = true := by rw [hD]; rfl); (have e2 : decide (T = []) = true := decide_eq_true hD); (have HST : Aside0 (goL LS 0 Rd.none = goL (LS.drop (i + 1)) (i + 1) st) := ⟨by rw [HGO.out, hdr, goL, if_pos (hBl.trans hD)]⟩); (clear hdr hBl hxi); (go_wp2_with fail); (repeat ((first | go_step3 | (rw [Exit.noGoto_normal]; (try simp only [Exit.inBlock, Exit.then]))); go_wp2_with fail)); (go_roundg g)
            case measure => omega
            case rel => exact ⟨i + 1, st, by omega, by simp, by omega, HST, HRd, ⟨InvR_mono HI.out (by omega)⟩, HBd⟩
          · (have e1 : (T == []) = false := beq_eq_false_iff_ne.2 hD); (have e2 : decide (T = []) = false := decide_eq_false hD); (have hDl : T.length ≤ 100000 := by rw [← hBl]; have := bareL_le x; omega); (have hI := HI.out); (have HLC := Aside0.mk (line_calls P st T ((i : Int) + 1) W3 hDl HRd.out ⟨by have := hI.es; omega, by have := hI.gs; omega, by have := hI.es; have := hI.ls; omega⟩ (GW.below HG.out (HB1.out.trans (HBd.out.mono hPw))))); (clear hI hxi); (go_wp2_with fail); (repeat ((first | go_step3 | (rw [Exit.noGoto_normal]; (try simp only [Exit.inBlock, Exit.then]))); go_wp2_with fail)); (refine HLC.out.mono ?_); (clear HLC); (rintro e W4 ⟨rfl, hb, hyes⟩)
            cases hl : lineS st T ((i : Int) + 1) with
            | none =>
              have HNO : Aside0 (parseF s = bad 3 ((i : Int) + 1)) := ⟨by
                (unfold parseF); (rw [if_neg (by omega), HLS.out, HGO.out, hdr, goL, hBl, if_neg hD, hl])
                rfl⟩
              (have hx39 := (hb.block _ hQ0).trans ((HBd.out.block _ hQ0).trans HX39.out)); (have hx43 := (hb.block _ hQ1).trans ((HBd.out.block _ hQ1).trans HX43.out)); (have HBw : Aside0 (Below w.heap.size w W4) := ⟨(HB1.out.trans (HBd.out.mono hPw)).trans (hb.mono hPw)⟩); (clear hb hyes hdr hBl hD); (have d0 := blk_cell hx39 0); (have d1 := blk_cell hx39 1); (have d2 := blk_cell hx39 2); (have d3 := blk_cell hx39 3); (have d4 := blk_cell hx39 4); (have f0 := blk_frozen hx39 0); (have f1 := blk_frozen hx39 1); (have f2 := blk_frozen hx39 2); (have f3 := blk_frozen hx39 3); (have f4 := blk_frozen hx39 4); (have e0 := blk_cell hx43 0); (have e1 := blk_cell hx43 1); (have g0 := blk_frozen hx43 0); (have g1 := blk_frozen hx43 1); (go_wp2); (repeat ((first | go_step3 | (rw [Exit.noGoto_normal]; (try simp only [Exit.inBlock, Exit.then]))); go_wp2)); (have hH := H.out); (rw [HNO.out] at hH); (simp only [bad, Prod.mk.injEq] at hH); (obtain ⟨rfl, rfl, rfl, rfl, rfl, rfl, rfl⟩ := hH); (try (rw [Exit.noGoto_ret]; (try simp only [Exit.inBlock, Exit.then])))
              exact pf_bad w _ _ _ _ hx39 hx43 HBw.out rfl rfl rfl
            | some st1 =>
              (have HST : Aside0 (goL LS 0 Rd.none = goL (LS.drop (i + 1)) (i + 1) st1) := ⟨by rw [HGO.out, hdr, goL, hBl, if_neg hD, hl]⟩); (have HRd1 := Aside0.mk (hyes st1 hl)); (have HBd1 : Aside0 (Below P W1 W4) := ⟨HBd.out.trans hb⟩); (have HI1 := Aside0.mk (lineS_inv hl hDl HI.out)); (clear hb hyes hdr hBl hD hl); (go_wp2_with fail); (repeat ((first | go_step3 | (rw [Exit.noGoto_normal]; (try simp only [Exit.inBlock, Exit.then]))); go_wp2_with fail)); (go_roundg g)
              case measure => omega
              case rel => exact ⟨i + 1, st1, by omega, by simp, by omega, HST, HRd1, HI1, HBd1⟩
end Go.Proofs.YtdaijpjjilmkkaaGreatDoor.Pr
