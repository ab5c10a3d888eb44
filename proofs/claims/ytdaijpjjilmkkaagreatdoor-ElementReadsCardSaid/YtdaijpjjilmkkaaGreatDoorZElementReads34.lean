/- Texts of the claim ElementReads, joined: ZElem, Prx14, Prx15, ZFile, ZRead, ZLine, ZPFile, PElementReads, HOpen, HLaid. -/
import Derived.Test.YtdaijpjjilmkkaaGreatDoorZElementReads33
import Derived.Test.YtdaijpjjilmkkaaGreatDoorZElementReads24
import Derived.Test.YtdaijpjjilmkkaaGreatDoorZElementReads25
import Derived.Test.YtdaijpjjilmkkaaGreatDoorZElementReads23
import Derived.Test.YtdaijpjjilmkkaaGreatDoorZElementReads22
import Derived.Test.YtdaijpjjilmkkaaGreatDoorZElementReads26
import Derived.Test.YtdaijpjjilmkkaaGreatDoorZElementReads32
import Derived.Test.YtdaijpjjilmkkaaGreatDoorProg
import Derived.Test.YtdaijpjjilmkkaaGreatDoorZElementReads30
import Derived.WalkKit
import Derived.ProofKit
import Derived.OpenShut
import Derived.SliceStrings
import Derived.Deep.Slices
import Derived.ChangeArms
import Derived.Test.YtdaijpjjilmkkaaGreatDoorZElementReads29
import Derived.Test.YtdaijpjjilmkkaaGreatDoorRows
import Derived.Lib.LaidTab
import Derived.Lib.LaidU8
import Derived.LaidMore
import Derived.MakeChecks
import Derived.Stop.LaidErr
/- Plain laws: the reference's elements: their text, its reading, as the program's. -/
namespace Go.Proofs.YtdaijpjjilmkkaaGreatDoor.Pr
open Go.RowKit Go.Proofs.YtdaijpjjilmkkaaGreatDoorW.PrintWords Go.Proofs.YtdaijpjjilmkkaaGreatDoorW.PrintLast Go.Proofs.YtdaijpjjilmkkaaGreatDoorW.PrintMore
set_option linter.unusedVariables false
set_option linter.unusedSimpArgs false
abbrev El := S44
theorem bt_dig (d : Nat) (h : d < 16) : bt (⟨#[48, 49, 50, 51, 52, 53, 54, 55, 56, 57, 65, 66, 67, 68, 69, 70]⟩ : ByteArray) (d : Int) = hexDig d := by
  match d, h with
  | 0, _ | 1, _ | 2, _ | 3, _ | 4, _ | 5, _ | 6, _ | 7, _ | 8, _ | 9, _ | 10, _ | 11, _ | 12, _ | 13, _ | 14, _ | 15, _ => rfl
  | n + 16, h => omega
theorem hexL_four (n : Nat) (h : n ≤ 65535) : hexL n = [UInt8.ofNat (hexDig (n / 4096 % 16)).toNat, UInt8.ofNat (hexDig (n / 256 % 16)).toNat, UInt8.ofNat (hexDig (n / 16 % 16)).toNat, UInt8.ofNat (hexDig (n % 16)).toNat] := by
  (have hL : hexLen n = 4 := by unfold hexLen; rw [if_pos (by omega)]); (apply List.ext_getElem?); (intro j); (by_cases hj : j < 4)
  · rw [hexL_at n j (by omega), hL]
    match j, hj with
    | 0, _ | 1, _ | 2, _ | 3, _ => simp
    | n + 4, h => omega
  · rw [List.getElem?_eq_none (by rw [hexL_length, hL]; omega), List.getElem?_eq_none (by simp; omega)]
theorem dig_at (n m : Nat) (hn : n ≤ 65535) (hm : 0 < m) : Int.tmod (wrap64 (Int.tdiv (n : Int) (m : Int))) 16 = ((n / m % 16 : Nat) : Int) := by
  (have h1 : Int.tdiv (n : Int) (m : Int) = ((n / m : Nat) : Int) := by rw [Int.tdiv_eq_ediv_of_nonneg (by omega)]; rfl); (have h2 : n / m ≤ 65535 := Nat.le_trans (Nat.div_le_self _ _) hn); (obtain ⟨q, hq⟩ : ∃ q, n / m = q := ⟨_, rfl⟩); (rw [hq] at h1 h2 ⊢); (rw [h1, wrap_id (by omega) (by omega), Int.tmod_eq_emod_of_nonneg (by omega)]); (rfl)
theorem four_f (c : Int) (h : 0 ≤ c ∧ c ≤ 65535) : r42_four.f c = some (ofL (hexT c)) := by
  (obtain ⟨n, rfl⟩ := Int.eq_ofNat_of_zero_le h.1); (have hn : n ≤ 65535 := by omega); (have t1 := dig_at n 4096 hn (by decide)); (have t2 := dig_at n 256 hn (by decide)); (have t3 := dig_at n 16 hn (by decide)); (have t4 : Int.tmod (n : Int) 16 = ((n % 16 : Nat) : Int) := by rw [Int.tmod_eq_emod_of_nonneg (by omega)]; rfl); (have l1 : n / 4096 % 16 < 16 := Nat.mod_lt _ (by decide)); (have l2 : n / 256 % 16 < 16 := Nat.mod_lt _ (by decide)); (have l3 : n / 16 % 16 < 16 := Nat.mod_lt _ (by decide)); (have l4 : n % 16 < 16 := Nat.mod_lt _ (by decide)); (unfold r42_four.f); (rw [show ((4096 : Nat) : Int) = 4096 from rfl] at t1); (rw [show ((256 : Nat) : Int) = 256 from rfl] at t2); (rw [show ((16 : Nat) : Int) = 16 from rfl] at t3); (rw [t1, t2, t3, t4, if_pos (by omega), if_pos (by omega), if_pos (by omega), if_pos (by omega), if_pos (by omega), if_pos (by omega), if_pos (by omega), if_pos (by omega), bt_dig _ l1, bt_dig _ l2, bt_dig _ l3, bt_dig _ l4, strOfNums_ofL, hexT_nat n (by omega), hexL_four n hn]); (rfl)
theorem one_t (x : El) (h : okW x) : r42_one.f x.f0 x.f1 x.f2 x.f3 = some (ofL (elT x)) := by
  (have l0 := hexT_len4 _ h.1); (have l1 := hexT_len4 _ h.2.1); (have l2 := hexT_len4 _ h.2.2); (have e91 : (⟨#[91]⟩ : ByteArray) = ofL [91] := rfl); (have e42 : (⟨#[42]⟩ : ByteArray) = ofL [42] := rfl); (have e46 : (⟨#[46]⟩ : ByteArray) = ofL [46] := rfl); (have e93 : (⟨#[93]⟩ : ByteArray) = ofL [93] := rfl); (unfold r42_one.f); (rw [four_f _ h.1, four_f _ h.2.1, four_f _ h.2.2, e91, e42, e46, e93]); (simp only [Option.bind_some, ofL_append, ofL_size, List.length_append, List.length_cons, List.length_nil, l0, l1, l2])
  cases hb : x.f3 with
  | true =>
    (rw [if_pos rfl, if_pos (by decide), if_pos (by decide), if_pos (by decide), if_pos (by decide), if_pos (by decide), if_pos (by decide), if_pos (by decide)]); (unfold elT); (rw [hb, if_pos rfl])
    simp
  | false =>
    (rw [if_neg (by decide), if_pos (by decide), if_pos (by decide), if_pos (by decide), if_pos (by decide), if_pos (by decide), if_pos (by decide), if_pos (by decide)]); (unfold elT); (rw [hb, if_neg (by decide)]); (simp)
def hexV : List UInt8 → Int → Int
  | [], n => n
  | b :: t, n => hexV t (if 0 ≤ hv b.toNat then 16 * n + hv b.toNat else n)
theorem hexV_bd : ∀ (l : List UInt8) (n m : Int), 0 ≤ n → n + 1 ≤ m → 0 ≤ hexV l n ∧ hexV l n + 1 ≤ m * 16 ^ l.length
  | [], n, m, h0, h1 => by simp only [hexV, List.length_nil]; omega
  | b :: t, n, m, h0, h1 => by
    (have hb := hv_bd b.toNat); (have := hexV_bd t (if 0 ≤ hv b.toNat then 16 * n + hv b.toNat else n) (m * 16) (by split <;> omega) (by split <;> omega)); (rw [hexV, List.length_cons, Int.pow_succ, Int.mul_comm (16 ^ t.length) 16, ← Int.mul_assoc]); (exact this)
theorem hexV_4 (l : List UInt8) (h : l.length = 4) : 0 ≤ hexV l 0 ∧ hexV l 0 ≤ 65535 := by
  (have := hexV_bd l 0 1 (by decide) (by decide)); (rw [h, show (1 : Int) * 16 ^ 4 = 65536 by decide] at this); (omega)
theorem hexV_val : ∀ (l : List UInt8) (n v : Int), valL l n = some v → hexV l n = v
  | [], n, v, h => by rw [valL] at h; cases h; rfl
  | b :: t, n, v, h => by
    (rw [valL] at h); (by_cases hb : hv b.toNat < 0)
    · rw [if_pos hb] at h; cases h
    · (rw [if_neg hb] at h); (rw [hexV, if_pos (by omega)]); (exact hexV_val t _ v h)
theorem hexV_T (c : Int) (h : 0 ≤ c ∧ c ≤ 65535) : hexV (hexT c) 0 = c := by
  (obtain ⟨n, rfl⟩ := Int.eq_ofNat_of_zero_le h.1); (have hn : n ≤ 1114111 := by omega); (have hv := hexL_val_at n (hexLen n) 0 (by omega)); (rw [hexLen_stop n hn, List.drop_zero] at hv); (rw [hexT_nat n hn]); (exact hexV_val _ _ _ hv)
theorem dig_hv : ∀ (b : UInt8) (j : Nat), j < 16 → (hexDig j = (b.toNat : Int) ↔ hv b.toNat = (j : Int)) := by
  (intro b j hj); (have hb := b.toNat_lt)
  match j, hj with
  | 0, _ | 1, _ | 2, _ | 3, _ | 4, _ | 5, _ | 6, _ | 7, _ | 8, _ | 9, _ | 10, _ | 11, _ | 12, _ | 13, _ | 14, _ | 15, _ =>
    unfold hv
    first
      | (rw [show hexDig 0 = 48 from rfl]; (repeat' split) <;> omega)
      | (rw [show hexDig 1 = 49 from rfl]; (repeat' split) <;> omega)
      | (rw [show hexDig 2 = 50 from rfl]; (repeat' split) <;> omega)
      | (rw [show hexDig 3 = 51 from rfl]; (repeat' split) <;> omega)
      | (rw [show hexDig 4 = 52 from rfl]; (repeat' split) <;> omega)
      | (rw [show hexDig 5 = 53 from rfl]; (repeat' split) <;> omega)
      | (rw [show hexDig 6 = 54 from rfl]; (repeat' split) <;> omega)
      | (rw [show hexDig 7 = 55 from rfl]; (repeat' split) <;> omega)
      | (rw [show hexDig 8 = 56 from rfl]; (repeat' split) <;> omega)
      | (rw [show hexDig 9 = 57 from rfl]; (repeat' split) <;> omega)
      | (rw [show hexDig 10 = 65 from rfl]; (repeat' split) <;> omega)
      | (rw [show hexDig 11 = 66 from rfl]; (repeat' split) <;> omega)
      | (rw [show hexDig 12 = 67 from rfl]; (repeat' split) <;> omega)
      | (rw [show hexDig 13 = 68 from rfl]; (repeat' split) <;> omega)
      | (rw [show hexDig 14 = 69 from rfl]; (repeat' split) <;> omega)
      | (rw [show hexDig 15 = 70 from rfl]; (repeat' split) <;> omega)
  | n + 16, h => omega
theorem hex_rest (l : List UInt8) (i : Nat) (hi : i < l.length) (hl : l.length ≤ 100) (n r : Int) (h : Ev (fun k => r42_hex.l0 k (ofL l) n ((i + 1 : Nat) : Int)) r) (d : Nat) : ∀ j : Nat, j + d = 16 → hv (l[i]).toNat < (j : Int) →
    Ev (fun k => r42_hex.l1 k (ofL l) n (i : Int) (j : Int)) r := by
  induction d with
  | zero =>
    (intro j hj hb); (refine Ev.step (f := fun k => r42_hex.l0 k (ofL l) n ((i + 1 : Nat) : Int)) (fun k => ?_) h); (simp only [r42_hex.l1])
    rw [if_neg (by omega), wrap_succ i (by omega)]
  | succ d ih =>
    (intro j hj hb); (refine Ev.step (f := fun k => r42_hex.l1 k (ofL l) n (i : Int) ((j + 1 : Nat) : Int)) (fun k => ?_) (ih (j + 1) (by omega) (by omega))); (simp only [r42_hex.l1]); (rw [if_pos (by omega), if_pos (by omega), if_pos (by omega), if_pos (by rw [ofL_size]; omega), bt_dig j (by omega), bt_ofL l i hi, if_neg (fun e => by have := (dig_hv _ j (by omega)).1 e; omega), wrap_succ j (by omega)])
theorem hex_l1 (l : List UInt8) (i : Nat) (hi : i < l.length) (hl : l.length ≤ 100) (n r : Int) (h0 : 0 ≤ n) (h1 : n ≤ 1000000)
    (h : Ev (fun k => r42_hex.l0 k (ofL l) (if 0 ≤ hv (l[i]).toNat then 16 * n + hv (l[i]).toNat else n) ((i + 1 : Nat) : Int)) r) (d : Nat) : ∀ j : Nat, j + d = 16 → (0 ≤ hv (l[i]).toNat → (j : Int) ≤ hv (l[i]).toNat) →
    Ev (fun k => r42_hex.l1 k (ofL l) n (i : Int) (j : Int)) r := by
  (have hb := hv_bd (l[i]).toNat); (by_cases hneg : hv (l[i]).toNat < 0)
  · (rw [if_neg (by omega)] at h); (exact fun j hj _ => hex_rest l i hi hl n r h d j hj (by omega))
  · rw [if_pos (by omega)] at h
    induction d with
    | zero => intro j hj hx; exfalso; have := hx (by omega); omega
    | succ d ih =>
      (intro j hj hx); (have hx1 := hx (by omega)); (by_cases he : hv (l[i]).toNat = (j : Int))
      · (refine Ev.step (f := fun k => r42_hex.l1 k (ofL l) (16 * n + hv (l[i]).toNat) (i : Int) ((j + 1 : Nat) : Int)) (fun k => ?_) (hex_rest l i hi hl _ r h d (j + 1) (by omega) (by omega))); (simp only [r42_hex.l1]); (rw [if_pos (by omega), if_pos (by omega), if_pos (by omega), if_pos (by rw [ofL_size]; omega), bt_dig j (by omega), bt_ofL l i hi, if_pos ((dig_hv _ j (by omega)).2 he), wrap_succ j (by omega), he, wrap_id (x := 16 * n) (by omega) (by omega), wrap_id (by omega) (by omega)])
      · (refine Ev.step (f := fun k => r42_hex.l1 k (ofL l) n (i : Int) ((j + 1 : Nat) : Int)) (fun k => ?_) (ih (j + 1) (by omega) (by omega))); (simp only [r42_hex.l1]); (rw [if_pos (by omega), if_pos (by omega), if_pos (by omega), if_pos (by rw [ofL_size]; omega), bt_dig j (by omega), bt_ofL l i hi, if_neg (fun e => he ((dig_hv _ j (by omega)).1 e)), wrap_succ j (by omega)])
theorem pow_le3 (i : Nat) (h : i ≤ 3) : (16 : Int) ^ i ≤ 4096 := by
  match i, h with
  | 0, _ | 1, _ | 2, _ | 3, _ => decide
  | n + 4, h => omega
theorem hex_l0 (l : List UInt8) (hl : l.length ≤ 4) (d : Nat) : ∀ (i : Nat) (n : Int), i + d = l.length → 0 ≤ n → n < 16 ^ i → Ev (fun k => r42_hex.l0 k (ofL l) n (i : Int)) (hexV (l.drop i) n) := by
  induction d with
  | zero =>
    (intro i n hi h0 h1); (refine ⟨1, fun k hk => ?_⟩); (try dsimp only); (obtain ⟨k, rfl⟩ : ∃ m, k = m + 1 := ⟨k - 1, by omega⟩); (simp only [r42_hex.l0]); (rw [if_neg (by rw [ofL_size]; omega), List.drop_of_length_le (by omega)])
    rfl
  | succ d ih =>
    (intro i n hi h0 h1); (have hlt : i < l.length := by omega); (have hp := pow_le3 i (by omega)); (have hb := hv_bd (l[i]).toNat); (have hps : (16 : Int) ^ (i + 1) = 16 ^ i * 16 := Int.pow_succ ..); (have hd : l.drop i = l[i] :: l.drop (i + 1) := List.drop_eq_getElem_cons hlt); (have h2 := ih (i + 1) (if 0 ≤ hv (l[i]).toNat then 16 * n + hv (l[i]).toNat else n) (by omega) (by split <;> omega) (by split <;> omega)); (rw [hd, hexV]); (refine Ev.step (f := fun k => r42_hex.l1 k (ofL l) n (i : Int) 0) (fun k => ?_) (hex_l1 l i hlt (by omega) n _ h0 (by omega) h2 16 0 (by omega) (fun h => by omega))); (simp only [r42_hex.l0]); (rw [if_pos (by rw [ofL_size]; omega)])
theorem hex_ev (l : List UInt8) (hl : l.length ≤ 4) : Ev (fun k => r42_hex.f k (ofL l)) (hexV l 0) := by
  (have := hex_l0 l hl l.length 0 0 (by omega) (by decide) (by decide)); (rw [List.drop_zero] at this); (exact this)
def hexE (t : List UInt8) : El := ⟨hexV ((t.drop 2).take 4) 0, hexV ((t.drop 7).take 4) 0, hexV ((t.drop 12).take 4) 0, t.getD 1 0 == 42⟩
theorem hexE_ok (t : List UInt8) (h : t.length = 17) : okW (hexE t) := ⟨hexV_4 _ (by simp; omega), hexV_4 _ (by simp; omega), hexV_4 _ (by simp; omega)⟩
theorem formE_eq (t : List UInt8) (h : t.length = 17) : (if elT (hexE t) = t then some (hexE t) else none) = oneE t := by
  cases ho : oneE t with
  | none =>
    by_cases he : elT (hexE t) = t
    · (have := oneE_of (hexE t) (hexE_ok t h)); (rw [he, ho] at this); (cases this)
    · rw [if_neg he]
  | some x =>
    (obtain ⟨e, ok⟩ := oneE_some h ho); (have l0 := hexT_len4 _ ok.1); (have l1 := hexT_len4 _ ok.2.1); (have l2 := hexT_len4 _ ok.2.2)
    have hx : hexE t = x := by
      (rw [← e]); (obtain ⟨a, b, c, m⟩ := x); (dsimp only at l0 l1 l2); (have ea : elT ⟨a, b, c, m⟩ = [91, if m = true then 42 else 46] ++ (hexT a ++ (46 :: (hexT b ++ (46 :: (hexT c ++ [93]))))) := rfl)
      have d2 : ((elT ⟨a, b, c, m⟩).drop 2).take 4 = hexT a := by
        rw [ea, List.drop_left' (by rfl), List.take_left' l0]
      have d5 : ∀ u v : List UInt8, u.length = 4 → (u ++ 46 :: v).drop 5 = v := fun u v hu => by
        rw [show (5 : Nat) = 4 + 1 from rfl, ← List.drop_drop, List.drop_left' hu, List.drop_succ_cons, List.drop_zero]
      have d7 : ((elT ⟨a, b, c, m⟩).drop 7).take 4 = hexT b := by
        rw [ea, show (7 : Nat) = 2 + 5 from rfl, ← List.drop_drop, List.drop_left' (by rfl), d5 _ _ l0, List.take_left' l1]
      have d12 : ((elT ⟨a, b, c, m⟩).drop 12).take 4 = hexT c := by
        rw [ea, show (12 : Nat) = 2 + (5 + 5) from rfl, ← List.drop_drop, List.drop_left' (by rfl), ← List.drop_drop, d5 _ _ l0, d5 _ _ l1, List.take_left' l2]
      have d1 : ((elT ⟨a, b, c, m⟩).getD 1 0 == 42) = m := by
        (rw [ea]); (cases m <;> rfl)
      (unfold hexE); (rw [d2, d7, d12, d1, hexV_T a ok.1, hexV_T b ok.2.1, hexV_T c ok.2.2])
    rw [hx, if_pos e]
theorem form_l0 (l : List UInt8) (hl : l.length ≤ 100000) : ∀ (n i : Nat) (acc : List El), i ≤ l.length → l.length - i ≤ n → acc.length ≤ i →
    Ev (fun k => r42_form.l0 k (ofL l) acc (i : Int)) (match readN n (l.drop i) with | some r => (acc ++ r, true) | none => ([], false))
  | 0, i, acc, hi, hn, ha => by
    (refine ⟨1, fun k hk => ?_⟩); (try dsimp only); (obtain ⟨k, rfl⟩ : ∃ m, k = m + 1 := ⟨k - 1, by omega⟩); (simp only [r42_form.l0]); (rw [if_neg (by rw [ofL_size]; omega), List.drop_of_length_le (by omega)])
    simp [readN]
  | n + 1, i, acc, hi, hn, ha => by
    by_cases h0 : i = l.length
    · (refine ⟨1, fun k hk => ?_⟩); (try dsimp only); (obtain ⟨k, rfl⟩ : ∃ m, k = m + 1 := ⟨k - 1, by omega⟩); (simp only [r42_form.l0]); (rw [if_neg (by rw [ofL_size]; omega), List.drop_of_length_le (by omega)]); (simp [readN])
    · (have hw : wrap64 ((i : Int) + 17) = ((i + 17 : Nat) : Int) := by unfold wrap64; omega); (have hne : l.drop i ≠ [] := fun e => by have := congrArg List.length e; simp at this; omega); (by_cases h17 : i + 17 ≤ l.length)
      · (obtain ⟨t, ht⟩ : ∃ t, (l.drop i).take 17 = t := ⟨_, rfl⟩); (have htl : t.length = 17 := by rw [← ht]; simp; omega); (have hx : (ofL l).extract i (i + 17) = ofL t := by rw [ofL_extract, show i + 17 - i = 17 by omega, ht]); (have e1 : (ofL t).extract 2 6 = ofL ((t.drop 2).take 4) := ofL_extract ..); (have e2 : (ofL t).extract 7 11 = ofL ((t.drop 7).take 4) := ofL_extract ..); (have e3 : (ofL t).extract 12 16 = ofL ((t.drop 12).take 4) := ofL_extract ..)
        have hm : (bt (ofL t) 1 == 42) = (t.getD 1 0 == 42) := by
          (have hb := bt_ofL t 1 (by omega)); (rw [show ((1 : Nat) : Int) = 1 from rfl] at hb); (rw [hb, List.getD_eq_getElem?_getD, List.getElem?_eq_getElem (by omega : 1 < t.length), Option.getD_some]); (by_cases e : t[1] = 42)
          · rw [e]; rfl
          · rw [beq_eq_false_iff_ne.2 e, beq_eq_false_iff_ne.2 (fun e' => e (UInt8.toNat_inj.1 (by rw [show (42 : UInt8).toNat = 42 from rfl]; omega)))]
        have hone := one_t (hexE t) (hexE_ok t htl)
        have hrn : readN (n + 1) (l.drop i) = (oneE t).bind fun e => (readN n (l.drop (i + 17))).map fun r => e :: r := by
          rw [readN, if_neg hne, if_neg (by simp; omega), ht, List.drop_drop]
        have hfe := formE_eq t htl
        refine Ev.step (f := fun k => (r42_hex.f k (ofL ((t.drop 2).take 4))).bind fun t120 => (r42_hex.f k (ofL ((t.drop 7).take 4))).bind fun t121 => (r42_hex.f k (ofL ((t.drop 12).take 4))).bind fun t122 => (r42_one.f t120 t121 t122 (t.getD 1 0 == 42)).bind fun t124 =>
          if t124.toList = (ofL t).toList then r42_form.l0 k (ofL l) (acc ++ [⟨t120, t121, t122, t.getD 1 0 == 42⟩]) ((i + 17 : Nat) : Int) else some ([], false)) (fun k => ?_) ?_
        · (simp only [r42_form.l0]); (rw [hw, if_pos (by rw [ofL_size]; omega), if_neg (by rw [ofL_size]; omega), if_pos (by omega), if_pos (by omega), if_pos (by rw [ofL_size]; omega), Int.toNat_natCast, Int.toNat_natCast, hx, e1, e2, e3, hm]); (have z : (ofL t).size = 17 := by rw [ofL_size]; exact htl); (rw [if_pos (by decide), if_pos (by rw [z]; decide)]); (congr 1); (funext t120); (rw [if_pos (by decide), if_pos (by rw [z]; decide)]); (congr 1); (funext t121); (rw [if_pos (by decide), if_pos (by rw [z]; decide)]); (congr 1); (funext t122); (rw [if_pos (by rw [z]; decide)]); (congr 1); (funext t124); (rw [if_pos (show acc.length < _ by omega)])
        · (refine Ev.bind (hex_ev _ (by simp; omega)) (Ev.bind (hex_ev _ (by simp; omega)) (Ev.bind (hex_ev _ (by simp; omega)) (Ev.got hone ?_)))); (rw [hrn, ← hfe]); (by_cases he : elT (hexE t) = t)
          · (rw [if_pos he, he]); (refine Ev.pos rfl ?_); (have h2 := form_l0 l hl n (i + 17) (acc ++ [hexE t]) h17 (by omega) (by simp; omega))
            cases hr : readN n (l.drop (i + 17)) with
            | none => rw [hr] at h2; exact h2
            | some r => rw [hr] at h2; simp only [List.append_assoc, List.singleton_append] at h2; exact h2
          · (rw [if_neg he]); (exact Ev.neg (fun e => he (by rw [ofL_toList, ofL_toList] at e; exact e)) (Ev.now _))
      · (refine ⟨1, fun k hk => ?_⟩); (try dsimp only); (obtain ⟨k, rfl⟩ : ∃ m, k = m + 1 := ⟨k - 1, by omega⟩); (simp only [r42_form.l0]); (rw [hw, if_pos (by rw [ofL_size]; omega), if_pos (by rw [ofL_size]; omega), readN, if_neg hne, if_pos (by simp; omega)])
theorem form_ev (l : List UInt8) (hl : l.length ≤ 100000) : Ev (fun k => r42_form.f k (ofL l)) (readR l) := by
  (have := form_l0 l hl l.length 0 [] (by omega) (by omega) (by simp)); (simp only [List.drop_zero, List.nil_append] at this); (exact this)
theorem checks_loop (l : List El) (hl : l.length ≤ 2000000) (d : Nat) : ∀ i : Nat, i + d = l.length → Ev (fun k => r42_checks.l0 k l (i : Int)) (errE (l.drop i)) := by
  induction d with
  | zero =>
    (intro i hi); (refine ⟨1, fun k hk => ?_⟩); (try dsimp only); (obtain ⟨k, rfl⟩ : ∃ m, k = m + 1 := ⟨k - 1, by omega⟩); (simp only [r42_checks.l0]); (rw [if_neg (by omega), List.drop_of_length_le (by omega)])
    rfl
  | succ d ih =>
    (intro i hi); (have hlt : i < l.length := by omega); (have hd : l.drop i = l[i] :: l.drop (i + 1) := List.drop_eq_getElem_cons hlt); (refine Ev.step (f := fun k => (r42_Check.f k l[i].f0 l[i].f1 l[i].f2 l[i].f3).bind fun t => (if t = 0 then r42_checks.l0 k l ((i + 1 : Nat) : Int) else some t)) (fun k => ?_) ?_)
    · (simp only [r42_checks.l0]); (rw [if_pos (by omega), if_pos (by omega), rdE_at l i hlt, wrap_succ i (by omega)])
    · (refine Ev.bind (checkR_ev l[i]) ?_); (rw [hd, errE]); (by_cases h0 : checkE l[i] = 0)
      · (rw [if_pos h0]); (exact Ev.pos h0 (ih (i + 1) (by omega)))
      · (rw [if_neg h0]); (exact Ev.neg h0 (Ev.now _))
theorem checks_ev (l : List El) (hl : l.length ≤ 2000000) : Ev (fun k => r42_checks.f k l) (errE l) := by
  (have := checks_loop l hl l.length 0 (by omega)); (rw [List.drop_zero] at this); (exact this)
end Go.Proofs.YtdaijpjjilmkkaaGreatDoor.Pr

namespace Go.Proofs.YtdaijpjjilmkkaaGreatDoor.Pr
open Go.RowKit Go.Proofs.YtdaijpjjilmkkaaGreatDoorW.PrintWords Go.Proofs.YtdaijpjjilmkkaaGreatDoorW.PrintLast Go.Proofs.YtdaijpjjilmkkaaGreatDoorW.PrintMore
attribute [local go_sem] max2_int min2_int max_two min_two max_three min_three max_four min_four   -- for this text's walks alone
set_option linter.unusedVariables false
set_option linter.unusedSimpArgs false
end Go.Proofs.YtdaijpjjilmkkaaGreatDoor.Pr

namespace Go.Proofs.YtdaijpjjilmkkaaGreatDoor.Pr
open Go.RowKit Go.Proofs.YtdaijpjjilmkkaaGreatDoorW.PrintWords Go.Proofs.YtdaijpjjilmkkaaGreatDoorW.PrintLast Go.Proofs.YtdaijpjjilmkkaaGreatDoorW.PrintMore
attribute [local go_sem] max2_int min2_int max_two min_two max_three min_three max_four min_four   -- for this text's walks alone
set_option linter.unusedVariables false
set_option linter.unusedSimpArgs false
end Go.Proofs.YtdaijpjjilmkkaaGreatDoor.Pr

/- Plain laws: the reference's numerals, names, code points, and its text of a file. -/
namespace Go.Proofs.YtdaijpjjilmkkaaGreatDoor.Pr
open Go.RowKit Go.Proofs.YtdaijpjjilmkkaaGreatDoorW.PrintWords Go.Proofs.YtdaijpjjilmkkaaGreatDoorW.PrintLast Go.Proofs.YtdaijpjjilmkkaaGreatDoorW.PrintMore
set_option linter.unusedVariables false
set_option linter.unusedSimpArgs false
abbrev En := S49
abbrev Gr := S46
theorem decimal_nat (u : Nat) : u ≤ 9223372036854775807 → Ev (fun k => r42_decimal.f k (u : Int)) (ofL (Lib.decDigits u)) := by
  induction u using Nat.strongRecOn with
  | _ u ih =>
    (intro hu); (have hm : Int.tmod (u : Int) 10 = ((u % 10 : Nat) : Int) := by rw [Int.tmod_eq_emod_of_nonneg (by omega)]; rfl); (have hd : Int.tdiv (u : Int) 10 = ((u / 10 : Nat) : Int) := by rw [Int.tdiv_eq_ediv_of_nonneg (by omega)]; rfl)
    have hy : strOfNums [wrap64 (48 + Int.tmod (u : Int) 10) % 256] = ofL [UInt8.ofNat (48 + u % 10)] := by
      (rw [hm, wrap_id (by omega) (by omega), show (48 + ((u % 10 : Nat) : Int)) % 256 = ((48 + u % 10 : Nat) : Int) by omega, strOfNums_ofL]); (rfl)
    by_cases h : u < 10
    · (refine Ev.step (f := fun k => some (ofL (Lib.decDigits u))) (fun k => ?_) (Ev.now _)); (simp only [r42_decimal.f]); (rw [Option.bind_some, if_pos (by omega), hy, Lib.decDigits, dif_pos h, Nat.mod_eq_of_lt h])
    · (have h21 := itoa_le ((u / 10 : Nat) : Int) ⟨by omega, by omega⟩); (rw [itoa_dec] at h21); (refine Ev.step (f := fun k => (r42_decimal.f k ((u / 10 : Nat) : Int)).bind fun t => (if t.size + (ofL [UInt8.ofNat (48 + u % 10)]).size ≤ 9223372036854775807 then some (t ++ ofL [UInt8.ofNat (48 + u % 10)]) else none)) (fun k => ?_) ?_)
      · (simp only [r42_decimal.f]); (rw [Option.bind_some, if_neg (by omega), hy, hd, wrap_id (by omega) (by omega)])
      · refine Ev.bind (ih (u / 10) (by omega) (by omega)) (Ev.pos (by rw [ofL_size, ofL_size]; simp; omega) ?_)
        have e : ofL (Lib.decDigits (u / 10)) ++ ofL [UInt8.ofNat (48 + u % 10)] = ofL (Lib.decDigits u) := by
          rw [ofL_append]
          conv => rhs; rw [Lib.decDigits, dif_neg h]
        (rw [e]); (exact Ev.now _)
theorem decimal_ev (n : Int) (h : in64 n) : Ev (fun k => r42_decimal.f k n) (ofL (Lib.itoa n)) := by
  (obtain ⟨u, rfl⟩ := Int.eq_ofNat_of_zero_le h.1); (rw [itoa_dec]); (exact decimal_nat u (by have := h.2; omega))
theorem nameR_loop (l : List UInt8) (hl : l.length ≤ 1000000) (d : Nat) : ∀ i : Nat, i + d = l.length → Ev (fun k => r11_Name.l0 k (ofL l) (i : Int)) (((l.drop i).all fun b => nameN b.toNat) && (decide (1 ≤ l.length) && decide (l.length ≤ 32))) := by
  induction d with
  | zero =>
    (intro i hi); (refine ⟨1, fun k hk => ?_⟩); (try dsimp only); (obtain ⟨k, rfl⟩ : ∃ m, k = m + 1 := ⟨k - 1, by omega⟩); (simp only [r11_Name.l0]); (rw [if_neg (by rw [ofL_size]; omega), List.drop_of_length_le (by omega), List.all_nil, Bool.true_and, ofL_size]); (by_cases h1 : 1 ≤ l.length)
    · (rw [if_pos (by omega), decide_eq_true h1, Bool.true_and]); (congr 1); (exact decide_eq_decide.2 ⟨fun h => by omega, fun h => by omega⟩)
    · rw [if_neg (by omega), decide_eq_false h1, Bool.false_and]
  | succ d ih =>
    (intro i hi); (have hlt : i < l.length := by omega); (have hb := bt_ofL l i hlt); (have hd : l.drop i = l[i] :: l.drop (i + 1) := List.drop_eq_getElem_cons hlt); (have h2 := ih (i + 1) (by omega)); (rw [hd, List.all_cons])
    cases hN : nameN (l[i]).toNat with
    | true =>
      (rw [Bool.true_and]); (refine Ev.step (f := fun k => r11_Name.l0 k (ofL l) ((i + 1 : Nat) : Int)) (fun k => ?_) h2); (simp only [r11_Name.l0]); (rw [if_pos (by rw [ofL_size]; omega), if_pos (by omega), hb, wrap_succ i (by omega)]); (generalize r11_Name.l0 k (ofL l) ((i + 1 : Nat) : Int) = X); (unfold nameN at hN); (simp only [Bool.or_eq_true, Bool.and_eq_true, decide_eq_true_eq, beq_iff_eq] at hN)
      (repeat' split) <;> first | rfl | (exfalso; omega)
    | false =>
      (rw [Bool.false_and, Bool.false_and]); (refine Ev.step (f := fun k => some false) (fun k => ?_) (Ev.now _)); (simp only [r11_Name.l0]); (rw [if_pos (by rw [ofL_size]; omega), if_pos (by omega), hb]); (have hN2 : ¬ nameN (l[i]).toNat = true := by rw [hN]; decide); (unfold nameN at hN2); (simp only [Bool.or_eq_true, Bool.and_eq_true, decide_eq_true_eq, beq_iff_eq] at hN2); ((repeat' split) <;> first | rfl | (exfalso; omega))
theorem nameR_ev (l : List UInt8) (hl : l.length ≤ 1000000) : Ev (fun k => r11_Name.f k (ofL l)) (nameB l) := by
  have h := nameR_loop l hl l.length 0 (by omega)
  have e : (((l.drop 0).all fun b => nameN b.toNat) && (decide (1 ≤ l.length) && decide (l.length ≤ 32))) = nameB l := by
    (unfold nameB); (rw [List.drop_zero, Bool.and_comm]); (congr 2); (cases l <;> simp)
  (rw [e] at h); (exact h)
section
variable (l0 : List En) (l1 : List Gr) (a b c : Int)
end
end Go.Proofs.YtdaijpjjilmkkaaGreatDoor.Pr

/- Plain laws: the reference's reading of a file, as the program's. -/
namespace Go.Proofs.YtdaijpjjilmkkaaGreatDoor.Pr
open Go.RowKit Go.Proofs.YtdaijpjjilmkkaaGreatDoorW.PrintWords Go.Proofs.YtdaijpjjilmkkaaGreatDoorW.PrintLast Go.Proofs.YtdaijpjjilmkkaaGreatDoorW.PrintMore
set_option linter.unusedVariables false
set_option linter.unusedSimpArgs false
theorem u8_eq (b c : UInt8) : ((b.toNat : Int) = (c.toNat : Int)) ↔ b = c := ⟨fun h => UInt8.toNat_inj.1 (by omega), fun h => by rw [h]⟩
theorem refcut_loop (c : UInt8) (l : List UInt8) (hl : l.length ≤ 1000000) (d : Nat) : ∀ (i k from_ : Nat) (acc : List ByteArray), i + d = l.length → d + 1 ≤ k → from_ ≤ i → acc.length ≤ i →
    r02_Cut.l0 k (ofL l) (c.toNat : Int) acc (from_ : Int) (i : Int) = some (acc ++ (glue ((l.drop from_).take (i - from_)) (cutAt c (l.drop i))).map ofL) := by
  induction d with
  | zero =>
    (intro i k from_ acc hi hk hf ha); (obtain ⟨k, rfl⟩ : ∃ m, k = m + 1 := ⟨k - 1, by omega⟩); (simp only [r02_Cut.l0]); (rw [if_neg (by rw [ofL_size]; omega), if_pos (by omega), if_pos (by rw [ofL_size]; omega), if_pos (by omega), ofL_extract, ofL_size, Int.toNat_natCast, List.drop_of_length_le (show l.length ≤ i by omega)])
    simp [cutAt, glue, show l.length = i by omega]
  | succ d ih =>
    (intro i k from_ acc hi hk hf ha); (obtain ⟨k, rfl⟩ : ∃ m, k = m + 1 := ⟨k - 1, by omega⟩); (have hlt : i < l.length := by omega); (obtain ⟨b, hb⟩ : ∃ b, l[i] = b := ⟨_, rfl⟩); (have hd : l.drop i = b :: l.drop (i + 1) := by rw [List.drop_eq_getElem_cons hlt, hb]); (simp only [r02_Cut.l0]); (rw [if_pos (by rw [ofL_size]; omega), if_pos (by omega), bt_ofL l i hlt, hb]); (by_cases h : b = c)
    · (rw [if_pos ((u8_eq b c).2 h), if_pos (by omega), if_pos (by omega), if_pos (by rw [ofL_size]; omega), if_pos (by omega), wrap_succ i (by omega), ih (i + 1) k (i + 1) _ (by omega) (by omega) (by omega) (by simp; omega), hd, h, cutAt_hit, ofL_extract]); (rw [show i + 1 - (i + 1) = 0 by omega, List.take_zero, glue_nil (cutAt_ne c _)]); (simp [glue])
    · (rw [if_neg (fun e => h ((u8_eq b c).1 e)), wrap_succ i (by omega), ih (i + 1) k from_ acc (by omega) (by omega) (by omega) (by omega), hd, cutAt_miss c b _ h, glue_glue]); (congr 5); (have h1 : i - from_ < (l.drop from_).length := by rw [List.length_drop]; omega); (have h2 : (l.drop from_)[i - from_] = b := by rw [List.getElem_drop, ← hb]; congr 1; omega); (rw [show i + 1 - from_ = (i - from_) + 1 by omega, List.take_succ_eq_append_getElem h1, h2])
theorem refcut (c : UInt8) (l : List UInt8) (hl : l.length ≤ 1000000) : Ev (fun k => r02_Cut.f k (ofL l) (c.toNat : Int)) ((cutAt c l).map ofL) := by
  (refine Ev.of (fun k => r02_Cut.mono _ _ k) (k := l.length + 1) ?_); (unfold r02_Cut.f); (have := refcut_loop c l hl l.length 0 (l.length + 1) 0 [] (by omega) (by omega) (by omega) (by simp)); (rw [show ((0 : Nat) : Int) = 0 from rfl] at this); (rw [this]); (simp [glue_nil (cutAt_ne c _)])
theorem refcut32 (l : List UInt8) (hl : l.length ≤ 1000000) : Ev (fun k => r02_Cut.f k (ofL l) 32) ((cutAt 32 l).map ofL) := refcut 32 l hl
theorem refcut10 (l : List UInt8) (hl : l.length ≤ 1000000) : Ev (fun k => r02_Cut.f k (ofL l) 10) ((cutAt 10 l).map ofL) := refcut 10 l hl
theorem rcodes_loop (l : List UInt8) (hne : l ≠ []) (ps : List (List UInt8)) (hps : ps.length ≤ 1000000) (d : Nat) : ∀ (i : Nat) (acc : List Int), i + d = ps.length → acc.length ≤ i →
    Ev (fun k => r05_ParseCodes.l0 k (ofL l) acc (ps.map ofL) (i : Int)) (codesP (ps.drop i) acc) := by
  have hb : ((ofL l).toList != ([] : List UInt8)) = true := by rw [ofL_toList]; simpa using hne
  induction d with
  | zero =>
    (intro i acc hi ha); (refine ⟨2, fun k hk => ?_⟩); (try dsimp only); (obtain ⟨k, rfl⟩ : ∃ m, k = m + 2 := ⟨k - 2, by omega⟩); (simp only [r05_ParseCodes.l0, r05_ParseCodes.j1]); (rw [if_neg (by rw [List.length_map]; omega), if_neg (by decide), List.drop_of_length_le (by omega)])
    rfl
  | succ d ih =>
    (intro i acc hi ha); (have hlt : i < ps.length := by omega); (have hd : ps.drop i = ps[i] :: ps.drop (i + 1) := List.drop_eq_getElem_cons hlt); (obtain ⟨K1, h1⟩ := ref_parse ps[i]); (try dsimp only at h1); (by_cases h0 : (parseS ps[i]).2 = 0)
    · (obtain ⟨K2, h2⟩ := ih (i + 1) (acc ++ [(parseS ps[i]).1]) (by omega) (by simp; omega)); (try dsimp only at h2); (refine ⟨K1 + K2 + 2, fun k hk => ?_⟩); (try dsimp only); (obtain ⟨k, rfl⟩ : ∃ m, k = m + 2 := ⟨k - 2, by omega⟩); (simp only [r05_ParseCodes.l0, r05_ParseCodes.j1]); (rw [if_pos (by rw [List.length_map]; omega), hb, if_pos rfl, if_pos (by omega), if_pos (by rw [List.length_map]; omega), rdc_at ps i hlt, h1 k (by omega), Option.bind_some, if_pos h0, if_pos (by omega), wrap_succ i (by omega), h2 k (by omega), hd]); (simp only [codesP]); (rw [if_pos h0])
    · (refine ⟨K1 + 2, fun k hk => ?_⟩); (obtain ⟨k, rfl⟩ : ∃ m, k = m + 2 := ⟨k - 2, by omega⟩); (simp only [r05_ParseCodes.l0, r05_ParseCodes.j1]); (rw [if_pos (by rw [List.length_map]; omega), hb, if_pos rfl, if_pos (by omega), if_pos (by rw [List.length_map]; omega), rdc_at ps i hlt, h1 k (by omega), Option.bind_some, if_neg h0, hd]); (simp only [codesP]); (rw [if_neg h0])
theorem rcodes (l : List UInt8) (hl : l.length ≤ 100000) : Ev (fun k => r05_ParseCodes.f k (ofL l)) (readCodes l) := by
  (have hc := cutAt_len 32 l); (refine Ev.bind (refcut32 l (by omega)) ?_); (unfold readCodes); (by_cases h : l = [])
  · (subst h); (refine ⟨2, fun k hk => ?_⟩); (try dsimp only); (obtain ⟨k, rfl⟩ : ∃ m, k = m + 2 := ⟨k - 2, by omega⟩); (simp only [r05_ParseCodes.l0, r05_ParseCodes.j1]); (rw [if_pos (by decide), show ((ofL []).toList != ([] : List UInt8)) = false by rw [ofL_toList]; rfl, if_neg (by decide), if_pos trivial])
  · (rw [if_neg h]); (exact rcodes_loop l h (cutAt 32 l) (by omega) (cutAt 32 l).length 0 [] (by omega) (by simp))
theorem trim_snoc (p : List UInt8) (x c : UInt8) : Lib.trimRightB (p ++ [x]) c = if x = c then Lib.trimRightB p c else p ++ [x] := by
  (unfold Lib.trimRightB); (rw [List.reverse_append, List.reverse_singleton, List.singleton_append, List.dropWhile_cons]); (by_cases h : x = c)
  · rw [if_pos (beq_iff_eq.2 h), if_pos h]
  · (rw [if_neg (fun e => h (beq_iff_eq.1 e)), if_neg h]); (simp)
theorem bare_l1 : ∀ (n : Nat) (m : List UInt8), m.length = n → n ≤ 1000000 → Ev (fun k => r42_bare.l1 k (ofL m)) (ofL (Lib.trimRightB m 32))
  | 0, m, hm, _ => by
    (obtain rfl := List.eq_nil_of_length_eq_zero hm); (refine Ev.step (f := fun k => some (ofL [])) (fun k => ?_) (Ev.now _)); (simp only [r42_bare.l1])
    rw [if_neg (by rw [ofL_size]; simp)]
  | n + 1, m, hm, hn => by
    (obtain ⟨p, x, rfl⟩ : ∃ p x, m = p ++ [x] := ⟨m.dropLast, m.getLast (fun e => by rw [e] at hm; simp at hm), (List.dropLast_concat_getLast _).symm⟩); (have hp : p.length = n := by simp at hm; omega); (have hs : (ofL (p ++ [x])).size = n + 1 := by rw [ofL_size]; exact hm); (have hw : wrap64 (((ofL (p ++ [x])).size : Int) - 1) = (n : Int) := by rw [hs]; unfold wrap64; omega); (have hb := bt_ofL (p ++ [x]) n (by omega))
    have hx : (p ++ [x])[n]'(by omega) = x := by
      (rw [List.getElem_append_right (by omega)]); (simp [hp])
    (rw [hx] at hb); (rw [trim_snoc]); (by_cases h : x = 32)
    · (rw [if_pos h]); (refine Ev.step (f := fun k => r42_bare.l1 k (ofL p)) (fun k => ?_) (bare_l1 n p hp (by omega))); (simp only [r42_bare.l1]); (rw [hw, if_pos (by omega), if_pos (by omega), if_pos (by omega), hb, if_pos (by rw [h]; rfl), if_pos (by omega), Int.toNat_natCast, ofL_extract, List.drop_zero, Nat.sub_zero, List.take_left' hp])
    · (rw [if_neg h]); (refine Ev.step (f := fun k => some (ofL (p ++ [x]))) (fun k => ?_) (Ev.now _)); (simp only [r42_bare.l1]); (rw [hw, if_pos (by omega), if_pos (by omega), if_pos (by omega), hb, if_neg (show ¬ (x.toNat : Int) = 32 from fun e => h ((u8_eq x 32).1 e))])
theorem bare_l0 (l : List UInt8) (hl : l.length ≤ 1000000) (d : Nat) : ∀ i : Nat, i + d = l.length → 35 ∉ l.take i → Ev (fun k => r42_bare.l0 k (ofL l) (i : Int)) (ofL (bareL l)) := by
  induction d with
  | zero =>
    (intro i hi hn); (rw [List.take_of_length_le (by omega)] at hn); (rw [bareL_none l hn]); (refine Ev.step (f := fun k => some (ofL l)) (fun k => ?_) (Ev.now _)); (simp only [r42_bare.l0])
    rw [if_neg (by rw [ofL_size]; omega)]
  | succ d ih =>
    (intro i hi hn); (have hlt : i < l.length := by omega); (have hb := bt_ofL l i hlt); (by_cases h : l[i] = 35)
    · have hsp : l = l.take i ++ 35 :: l.drop (i + 1) := by rw [← h, ← List.drop_eq_getElem_cons hlt, List.take_append_drop]
      have hbl : bareL l = Lib.trimRightB (l.take i) 32 := by
        conv => lhs; rw [hsp]
        exact bareL_cut _ _ hn
      (rw [hbl]); (refine Ev.step (f := fun k => r42_bare.l1 k (ofL (l.take i))) (fun k => ?_) (bare_l1 _ _ rfl (by simp; omega))); (simp only [r42_bare.l0]); (rw [if_pos (by rw [ofL_size]; omega), if_pos (by omega), hb, if_pos (by rw [h]; rfl), if_pos (by rw [ofL_size]; omega), Int.toNat_natCast, ofL_extract, List.drop_zero, Nat.sub_zero])
    · refine Ev.step (f := fun k => r42_bare.l0 k (ofL l) ((i + 1 : Nat) : Int)) (fun k => ?_) (ih (i + 1) (by omega) ?_)
      · (simp only [r42_bare.l0]); (rw [if_pos (by rw [ofL_size]; omega), if_pos (by omega), hb, if_neg (show ¬ ((l[i]).toNat : Int) = 35 from fun e => h ((u8_eq _ 35).1 e)), wrap_succ i (by omega)])
      · (rw [List.take_succ_eq_append_getElem hlt]); (intro hm); (rcases List.mem_append.1 hm with hm | hm)
        · exact hn hm
        · (simp only [List.mem_singleton] at hm); (exact h hm.symm)
theorem bareR_ev (l : List UInt8) (hl : l.length ≤ 1000000) : Ev (fun k => r42_bare.f k (ofL l)) (ofL (bareL l)) := bare_l0 l hl l.length 0 (by omega) (by simp)
def numR : List UInt8 → Int → Option Int
  | [], n => some n
  | b :: t, n => if b.toNat < 48 ∨ 57 < b.toNat then none else if n > (9223372036854775807 - ((b.toNat : Int) - 48)) / 10 then none else numR t (10 * n + ((b.toNat : Int) - 48))
theorem numR_bd : ∀ (l : List UInt8) (n v : Int), 0 ≤ n → n ≤ 9223372036854775807 → numR l n = some v → in64 v
  | [], n, v, h0, h1, h => by rw [numR] at h; cases h; exact ⟨h0, h1⟩
  | b :: t, n, v, h0, h1, h => by
    (rw [numR] at h); (by_cases hb : b.toNat < 48 ∨ 57 < b.toNat)
    · rw [if_pos hb] at h; cases h
    · (rw [if_neg hb] at h); (by_cases hn : n > (9223372036854775807 - ((b.toNat : Int) - 48)) / 10)
      · rw [if_pos hn] at h; cases h
      · (rw [if_neg hn] at h); (exact numR_bd t _ v (by omega) (by omega) h)
theorem numR_dec (u : Nat) : ∀ r, u ≤ 9223372036854775807 → numR (Lib.decDigits u ++ r) 0 = numR r (u : Int) := by
  induction u using Nat.strongRecOn with
  | _ u ih =>
    (intro r hu); (rw [Lib.decDigits]); (split)
    · next h =>
      (rw [List.singleton_append, numR, dig_nat u h, if_neg (by omega), if_neg (by omega)]); (congr 1); (omega)
    · next h =>
      (rw [List.append_assoc, ih (u / 10) (by omega) _ (by omega), List.singleton_append, numR, dig_nat _ (by omega), if_neg (by omega), if_neg (by omega)]); (congr 1); (omega)
def numE (l : List UInt8) : Option Int → Int × Bool
  | some v => (v, decide (0 < l.length) && (Lib.itoa v == l))
  | none => (0, false)
theorem numE_some (l : List UInt8) (v : Int) : numE l (some v) = (v, decide (0 < l.length) && (Lib.itoa v == l)) := rfl
theorem num_l0 (l : List UInt8) (hl : l.length ≤ 1000000) (d : Nat) : ∀ (i : Nat) (n : Int), i + d = l.length → 0 ≤ n → n ≤ 9223372036854775807 → Ev (fun k => r42_numeral.l0 k (ofL l) n (i : Int)) (numE l (numR (l.drop i) n)) := by
  induction d with
  | zero =>
    (intro i n hi h0 h1); (rw [List.drop_of_length_le (by omega), numR, numE_some]); (by_cases hp : 0 < l.length)
    · (rw [decide_eq_true hp, Bool.true_and]); (refine Ev.step (f := fun k => (r42_decimal.f k n).bind fun t => some (n, (t.toList == (ofL l).toList))) (fun k => ?_) (Ev.bind (decimal_ev n ⟨h0, h1⟩) ?_))
      · (simp only [r42_numeral.l0]); (rw [if_neg (by rw [ofL_size]; omega), if_pos (by rw [ofL_size]; omega)])
      · (rw [ofL_toList, ofL_toList]); (exact Ev.now _)
    · (rw [decide_eq_false hp, Bool.false_and]); (refine Ev.step (f := fun k => some (n, false)) (fun k => ?_) (Ev.now _)); (simp only [r42_numeral.l0])
      rw [if_neg (by rw [ofL_size]; omega), if_neg (by rw [ofL_size]; omega)]
  | succ d ih =>
    (intro i n hi h0 h1); (have hlt : i < l.length := by omega); (obtain ⟨b, hbe⟩ : ∃ b, l[i] = b := ⟨_, rfl⟩); (have hb := bt_ofL l i hlt); (rw [hbe] at hb); (have hd : l.drop i = b :: l.drop (i + 1) := by rw [← hbe]; exact List.drop_eq_getElem_cons hlt); (have h256 := b.toNat_lt); (rw [hd, numR])
    have hj : ∀ x : Bool, Ev (fun k => r42_numeral.j1 k (ofL l) n (i : Int) x) (if x = true then (0, false) else numE l (if n > (9223372036854775807 - (((b.toNat : Int) - 48) % 256)) / 10 then none else numR (l.drop (i + 1)) (10 * n + (((b.toNat : Int) - 48) % 256)))) := by
      intro x
      cases x with
      | true =>
        (rw [if_pos rfl]); (refine Ev.step (f := fun k => some (0, false)) (fun k => ?_) (Ev.now _)); (simp only [r42_numeral.j1])
        rw [if_pos trivial]
      | false =>
        (rw [if_neg (by decide)]); (by_cases hn : n > (9223372036854775807 - (((b.toNat : Int) - 48) % 256)) / 10)
        · (rw [if_pos hn]); (refine Ev.step (f := fun k => some (0, false)) (fun k => ?_) (Ev.now _)); (simp only [r42_numeral.j1]); (rw [if_neg (by decide), if_pos (by omega), if_pos (by rw [ofL_size]; omega), hb, if_pos hn])
        · (rw [if_neg hn]); (refine Ev.step (f := fun k => r42_numeral.l0 k (ofL l) (10 * n + (((b.toNat : Int) - 48) % 256)) ((i + 1 : Nat) : Int)) (fun k => ?_) (ih (i + 1) _ (by omega) (by omega) (by omega))); (simp only [r42_numeral.j1]); (rw [if_neg (by decide), if_pos (by omega), if_pos (by rw [ofL_size]; omega), hb, if_neg hn, wrap_id (x := 10 * n) (by omega) (by omega), wrap_id (by omega) (by omega), wrap_succ i (by omega)])
    by_cases hlo : b.toNat < 48
    · (rw [if_pos (.inl hlo)]); (have h2 := hj true); (rw [if_pos rfl] at h2); (refine Ev.step (f := fun k => r42_numeral.j1 k (ofL l) n (i : Int) true) (fun k => ?_) h2); (simp only [r42_numeral.l0]); (rw [if_pos (by rw [ofL_size]; omega), if_pos (by omega), hb, if_pos (by omega)])
    · (have h2 := hj (decide ((b.toNat : Int) > 57))); (by_cases hhi : 57 < b.toNat)
      · (rw [if_pos (.inr hhi)]); (rw [if_pos (decide_eq_true (by omega))] at h2); (refine Ev.step (f := fun k => r42_numeral.j1 k (ofL l) n (i : Int) (decide ((b.toNat : Int) > 57))) (fun k => ?_) h2); (simp only [r42_numeral.l0]); (rw [if_pos (by rw [ofL_size]; omega), if_pos (by omega), hb, if_neg (by omega)])
      · (rw [if_neg (fun e => e.elim hlo hhi)]); (rw [if_neg (by simp; omega), show ((b.toNat : Int) - 48) % 256 = (b.toNat : Int) - 48 by omega] at h2); (refine Ev.step (f := fun k => r42_numeral.j1 k (ofL l) n (i : Int) (decide ((b.toNat : Int) > 57))) (fun k => ?_) h2); (simp only [r42_numeral.l0]); (rw [if_pos (by rw [ofL_size]; omega), if_pos (by omega), hb, if_neg (by omega)])
def numV (l : List UInt8) : Int := (numE l (numR l 0)).1
theorem numeral_ev (l : List UInt8) (hl : l.length ≤ 1000000) : Ev (fun k => r42_numeral.f k (ofL l)) (numV l, (numL l).isSome) ∧ ∀ n, numL l = some n → numV l = n := by
  (have h := num_l0 l hl l.length 0 0 (by omega) (by decide) (by decide)); (rw [List.drop_zero] at h)
  cases hn : numL l with
  | some n =>
    (obtain ⟨e, h0, h1⟩ := numL_some hn); (obtain ⟨u, rfl⟩ := Int.eq_ofNat_of_zero_le h0); (rw [itoa_dec] at e); (have hr := numR_dec u [] (by omega)); (rw [List.append_nil, e, numR] at hr)
    have hne : 0 < l.length := by
      (rw [← e]); (exact List.length_pos_iff.2 (dec_ne u))
    (have hv : numV l = (u : Int) := by unfold numV; rw [hr]; rfl); (refine ⟨?_, fun n hn' => by cases hn'; exact hv⟩); (rw [hr, numE_some] at h); (rw [decide_eq_true hne, Bool.true_and, itoa_dec, beq_iff_eq.2 e] at h); (rw [hv])
    exact h
  | none =>
    refine ⟨?_, fun n hn' => by cases hn'⟩
    have hf : (numE l (numR l 0)).2 = false := by
      cases hr : numR l 0 with
      | none => rfl
      | some v =>
        (rw [numE_some]); (by_cases hp : 0 < l.length)
        · (rw [decide_eq_true hp, Bool.true_and]); (refine beq_eq_false_iff_ne.2 fun e => ?_); (have := numL_itoa v (numR_bd l 0 v (by decide) (by decide) hr)); (rw [e, hn] at this); (cases this)
        · rw [decide_eq_false hp, Bool.false_and]
    (have e : numE l (numR l 0) = (numV l, false) := Prod.ext rfl hf); (rw [e] at h); (exact h)
end Go.Proofs.YtdaijpjjilmkkaaGreatDoor.Pr

/- Plain laws: the reference's lines of a file and its ParseFile, as the program's. -/
namespace Go.Proofs.YtdaijpjjilmkkaaGreatDoor.Pr
open Go.RowKit Go.Proofs.YtdaijpjjilmkkaaGreatDoorW.PrintWords Go.Proofs.YtdaijpjjilmkkaaGreatDoorW.PrintLast Go.Proofs.YtdaijpjjilmkkaaGreatDoorW.PrintMore
set_option linter.unusedVariables false
set_option linter.unusedSimpArgs false
theorem mem_le {l q : List UInt8} (h : q ∈ cutAt 32 l) : q.length ≤ l.length := cutAt_mem 32 l q h
theorem base_ev (t : List UInt8) (hl : t.length ≤ 100000) : ∃ x y z : Int, Ev (fun k => r42_base.f k (ofL t)) ([], [], x, y, z, (lineB Rd.none (cutAt 32 t)).isSome) ∧ ∀ st, lineB Rd.none (cutAt 32 t) = some st → st = ⟨[], [], x, y, z, true, []⟩ := by
  have hc := refcut32 t (by omega)
  have hbad : ∀ ps : List (List UInt8), Ev (fun k => r42_base.j0 k (ps.map ofL) true) ([], [], 0, 0, 0, false) := fun ps => by
    (refine Ev.step (f := fun k => some ([], [], 0, 0, 0, false)) (fun k => ?_) (Ev.now _)); (simp only [r42_base.j0]); (rw [if_pos trivial])
  (obtain ⟨ps, hps⟩ : ∃ ps, cutAt 32 t = ps := ⟨_, rfl⟩); (have hmem : ∀ q ∈ ps, q.length ≤ 100000 := fun q hq => by rw [← hps] at hq; have := mem_le hq; omega); (rw [hps] at hc ⊢); (by_cases h4 : ps.length = 4)
  · obtain ⟨p, q, r, s, rfl⟩ : ∃ p q r s, ps = [p, q, r, s] := by
      match ps, h4 with
      | [p, q, r, s], _ => exact ⟨p, q, r, s, rfl⟩
    by_cases hp : p = baseW
    · (obtain ⟨n1, v1⟩ := numeral_ev q (by have := hmem q (by simp); omega)); (obtain ⟨n2, v2⟩ := numeral_ev r (by have := hmem r (by simp); omega)); (obtain ⟨n3, v3⟩ := numeral_ev s (by have := hmem s (by simp); omega))
      have hB : lineB Rd.none [p, q, r, s] = match numsL [q, r, s] with | some [x, y, z] => some ⟨[], [], x, y, z, true, []⟩ | _ => none := by
        (unfold lineB); (rw [if_pos (show [p, q, r, s].headD [] = baseW from hp)]); (rfl)
      (rw [numsL_cons, numsL_cons, numsL_cons, show numsL [] = some [] from rfl] at hB); (refine ⟨numV q, numV r, numV s, ?_, fun st hst => ?_⟩)
      · have e : (lineB Rd.none [p, q, r, s]).isSome = ((numL q).isSome && (numL r).isSome && (numL s).isSome) := by
          (rw [hB]); (cases numL q <;> cases numL r <;> cases numL s <;> rfl)
        (rw [e]); (refine Ev.bind hc (Ev.pos rfl (Ev.pos (by simp) ?_))); (refine Ev.succ ?_); (simp only [r42_base.j0]); (refine Ev.neg (by rw [show rdOf ByteArray.empty ([p, q, r, s].map ofL) 0 = ofL p from rfl, ofL_toList, hp]; decide) ?_); (refine Ev.pos (by simp) (Ev.bind n1 (Ev.pos (by simp) (Ev.bind n2 (Ev.pos (by simp) (Ev.bind n3 ?_)))))); (dsimp only)
        cases h1 : (numL q).isSome with
        | false => rw [if_neg (by decide)]; exact Ev.now _
        | true =>
          rw [if_pos rfl]
          cases h2 : (numL r).isSome with
          | false => rw [if_neg (by decide)]; exact Ev.now _
          | true => rw [if_pos rfl]; exact Ev.now _
      · rw [hB] at hst
        cases h1 : numL q with
        | none => rw [h1] at hst; cases hst
        | some a =>
          cases h2 : numL r with
          | none => rw [h1, h2] at hst; cases hst
          | some b =>
            cases h3 : numL s with
            | none => rw [h1, h2, h3] at hst; cases hst
            | some c =>
              (rw [h1, h2, h3] at hst); (cases hst); (rw [v1 a h1, v2 b h2, v3 c h3])
    · (have hB : lineB Rd.none [p, q, r, s] = none := by unfold lineB; rw [if_neg (show ¬ [p, q, r, s].headD [] = baseW from hp)]); (rw [hB]); (refine ⟨0, 0, 0, ?_, fun st hst => by cases hst⟩); (refine Ev.bind hc (Ev.pos rfl (Ev.pos (by simp) ?_))); (rw [show rdOf ByteArray.empty ([p, q, r, s].map ofL) 0 = ofL p from rfl, ofL_toList, show (p != [64, 98, 97, 115, 101]) = true from bne_iff_ne.2 hp]); (exact hbad _)
  · have hB : lineB Rd.none ps = none := by
      (unfold lineB); (by_cases hw : ps.headD [] = baseW)
      · (rw [if_pos hw]); (split)
        · next x y z hn =>
          (have := numsL_some _ _ hn); (have h3 := congrArg List.length this.1); (simp at h3)
          cases ps with
          | nil => cases hw
          | cons p r => simp at h3 h4; omega
        · rfl
      · rw [if_neg hw]
    (rw [hB]); (refine ⟨0, 0, 0, ?_, fun st hst => by cases hst⟩); (exact Ev.bind hc (Ev.neg (by rw [List.length_map]; omega) (hbad ps)))
def grpO (ps : List (List UInt8)) : Option Gr :=
  if ps.length = 4 ∧ ps.headD [] = groupW ∧ nameB (ps.getD 1 []) = true then (match numsL (ps.drop 2) with
    | some [x, y] => some ⟨ofL (ps.getD 1 []), x, y⟩
    | _ => none) else none
theorem group_ev (t : List UInt8) (hl : t.length ≤ 100000) : ∃ (n : ByteArray) (x y : Int), Ev (fun k => r42_group.f k (ofL t)) (n, x, y, (grpO (cutAt 32 t)).isSome) ∧ ∀ g, grpO (cutAt 32 t) = some g → g = ⟨n, x, y⟩ := by
  have hc := refcut32 t (by omega)
  have hbad : ∀ ps : List (List UInt8), Ev (fun k => r42_group.j0 k (ps.map ofL) true) ((⟨#[]⟩ : ByteArray), 0, 0, false) := fun ps => by
    (refine Ev.step (f := fun k => some ((⟨#[]⟩ : ByteArray), 0, 0, false)) (fun k => ?_) (Ev.now _)); (simp only [r42_group.j0]); (rw [if_pos trivial])
  (obtain ⟨ps, hps⟩ : ∃ ps, cutAt 32 t = ps := ⟨_, rfl⟩); (have hmem : ∀ q ∈ ps, q.length ≤ 100000 := fun q hq => by rw [← hps] at hq; have := mem_le hq; omega); (rw [hps] at hc ⊢); (by_cases h4 : ps.length = 4)
  · obtain ⟨p, q, r, s, rfl⟩ : ∃ p q r s, ps = [p, q, r, s] := by
      match ps, h4 with
      | [p, q, r, s], _ => exact ⟨p, q, r, s, rfl⟩
    by_cases hp : p = groupW
    · (obtain ⟨n2, v2⟩ := numeral_ev r (by have := hmem r (by simp); omega)); (obtain ⟨n3, v3⟩ := numeral_ev s (by have := hmem s (by simp); omega)); (have hnm := nameR_ev q (by have := hmem q (by simp); omega))
      have hB : grpO [p, q, r, s] = if nameB q = true then (match numsL [r, s] with | some [x, y] => some ⟨ofL q, x, y⟩ | _ => none) else none := by
        (unfold grpO); (by_cases hn : nameB q = true)
        · (rw [if_pos ⟨rfl, hp, hn⟩, if_pos hn]); (rfl)
        · rw [if_neg (fun h => hn h.2.2), if_neg hn]
      (rw [numsL_cons, numsL_cons, show numsL [] = some [] from rfl] at hB); (refine ⟨ofL q, numV r, numV s, ?_, fun g hg => ?_⟩)
      · have e : (grpO [p, q, r, s]).isSome = ((numL r).isSome && (numL s).isSome && nameB q) := by
          (rw [hB]); (cases hn : nameB q <;> cases numL r <;> cases numL s <;> rfl)
        (rw [e]); (refine Ev.bind hc (Ev.pos rfl (Ev.pos (by simp) ?_))); (refine Ev.succ ?_); (simp only [r42_group.j0]); (refine Ev.neg (by rw [show rdOf ByteArray.empty ([p, q, r, s].map ofL) 0 = ofL p from rfl, ofL_toList, hp]; decide) ?_); (refine Ev.pos (by simp) (Ev.bind n2 (Ev.pos (by simp) (Ev.bind n3 (Ev.pos (by simp) ?_))))); (dsimp only); (rw [show rdOf ByteArray.empty ([p, q, r, s].map ofL) 1 = ofL q from rfl])
        cases h1 : (numL r).isSome with
        | false => exact Ev.neg (by decide) (Ev.now _)
        | true =>
          refine Ev.pos rfl ?_
          cases h2 : (numL s).isSome with
          | false => exact Ev.neg (by decide) (Ev.now _)
          | true => exact Ev.pos rfl (Ev.bind hnm (Ev.now _))
      · (rw [hB] at hg); (by_cases hn : nameB q = true)
        · rw [if_pos hn] at hg
          cases h2 : numL r with
          | none => rw [h2] at hg; cases hg
          | some b =>
            cases h3 : numL s with
            | none => rw [h2, h3] at hg; cases hg
            | some c =>
              (rw [h2, h3] at hg); (cases hg); (rw [v2 b h2, v3 c h3])
        · (rw [if_neg hn] at hg); (cases hg)
    · (have hB : grpO [p, q, r, s] = none := by unfold grpO; rw [if_neg (fun h => hp h.2.1)]); (rw [hB]); (refine ⟨⟨#[]⟩, 0, 0, ?_, fun st hst => by cases hst⟩); (refine Ev.bind hc (Ev.pos rfl (Ev.pos (by simp) ?_))); (rw [show rdOf ByteArray.empty ([p, q, r, s].map ofL) 0 = ofL p from rfl, ofL_toList, show (p != [64, 103, 114, 111, 117, 112]) = true from bne_iff_ne.2 hp]); (exact hbad _)
  · (have hB : grpO ps = none := by unfold grpO; rw [if_neg (fun h => h4 h.1)]); (rw [hB]); (refine ⟨⟨#[]⟩, 0, 0, ?_, fun st hst => by cases hst⟩); (exact Ev.bind hc (Ev.neg (by rw [List.length_map]; omega) (hbad ps)))
def entO (t : List UInt8) : Option En :=
  if (Lib.cut t [59, 32]).2.2 = true ∧ (readCodes (Lib.cut t [59, 32]).1).2 = 0 then (readE (Lib.cut t [59, 32]).2.1).map fun els => ⟨(readCodes (Lib.cut t [59, 32]).1).1, els⟩ else none
theorem occ_at (t : List UInt8) (i : Nat) : Lib.occAt t [59, 32] i = true ↔ ∃ h : i + 1 < t.length, t[i] = 59 ∧ t[i + 1] = 32 := by
  (unfold Lib.occAt); (constructor)
  · (intro h); (obtain ⟨r, hr⟩ := List.isPrefixOf_iff_prefix.1 h); (have hlen := congrArg List.length hr); (simp at hlen); (have hi : i + 1 < t.length := by omega); (refine ⟨hi, ?_, ?_⟩)
    · (have := congrArg (fun l : List UInt8 => l[0]?) hr); (simp at this); (rw [List.getElem?_eq_getElem (by omega)] at this); (exact (Option.some.inj this).symm)
    · (have := congrArg (fun l : List UInt8 => l[1]?) hr); (simp at this); (rw [List.getElem?_eq_getElem (by omega)] at this); (exact (Option.some.inj this).symm)
  · (rintro ⟨h, h1, h2⟩); (rw [List.drop_eq_getElem_cons (by omega : i < t.length), List.drop_eq_getElem_cons h, h1, h2]); (rfl)
theorem entry_hit (t : List UInt8) (hl : t.length ≤ 100000) (i : Nat) (hi : i + 1 < t.length) (A B : List UInt8) (hA : t.take i = A) (hB : t.drop (i + 2) = B) : ∃ (c : List Int) (e : List El), Ev (fun k => r42_entry.j1 k (ofL t) (i : Int) true) (c, e, decide ((readCodes A).2 = 0) && (readE B).isSome) ∧ ∀ els, (readCodes A).2 = 0 → readE B = some els → c = (readCodes A).1 ∧ e = els := by
  (have h1 := rcodes A (by rw [← hA]; simp; omega)); (have h2 := form_ev B (by rw [← hB]; simp; omega)); (have hw : wrap64 ((i : Int) + 2) = ((i + 2 : Nat) : Int) := by unfold wrap64; omega); (have hxa : (ofL t).extract 0 i = ofL A := by rw [ofL_extract, List.drop_zero, Nat.sub_zero, hA]); (have hxb : (ofL t).extract (i + 2) (ofL t).size = ofL B := by rw [ofL_extract, ofL_size, hB, List.take_of_length_le (by rw [← hB]; simp)]); (refine ⟨(readCodes A).1, (readR B).1, ?_, fun els hc he => ⟨rfl, by unfold readR; rw [he]⟩⟩); (refine Ev.succ ?_); (simp only [r42_entry.j1]); (rw [hw, Int.toNat_natCast, Int.toNat_natCast, hxa, hxb]); (refine Ev.pos trivial (Ev.pos (by omega) (Ev.pos (by rw [ofL_size]; omega) (Ev.bind h1 (Ev.pos (by omega) (Ev.pos (by rw [ofL_size]; omega) (Ev.bind h2 ?_))))))); (unfold readR)
  cases hr : readE B with
  | none =>
    rw [show (decide ((readCodes A).2 = 0) && (none : Option (List El)).isSome) = false by simp]
    exact Ev.neg (by decide) (Ev.now _)
  | some els =>
    (refine Ev.pos rfl ?_); (rw [show (decide ((readCodes A).2 = 0) && (some els : Option (List El)).isSome) = ((readCodes A).2 == 0) by rw [Option.isSome_some, Bool.and_true]; rfl]); (exact Ev.now _)
theorem entry_l0 (t : List UInt8) (hl : t.length ≤ 100000) (d : Nat) : ∀ i : Nat, i + d = t.length → (∀ j, j < i → Lib.occAt t [59, 32] j = false) →
    ∃ (c : List Int) (e : List El), Ev (fun k => r42_entry.l0 k (ofL t) (i : Int)) (c, e, (entO t).isSome) ∧ ∀ x, entO t = some x → x = ⟨c, e⟩ := by
  induction d with
  | zero =>
    intro i hi hno
    have hcut : Lib.cut t [59, 32] = (t, [], false) := by
      unfold Lib.cut
      rw [Lib.index_none (fun j hj => by
        by_cases hj2 : j < i
        · exact hno j hj2
        · cases ho : Lib.occAt t [59, 32] j with
          | false => rfl
          | true => obtain ⟨h, -⟩ := (occ_at t j).1 ho; omega), if_neg (by decide)]
    (have hn : entO t = none := by unfold entO; rw [hcut, if_neg (fun h => by cases h.1)]); (rw [hn]); (refine ⟨[], [], ?_, fun x hx => by cases hx⟩); (refine Ev.step (f := fun k => some ([], [], false)) (fun k => ?_) (Ev.now _)); (simp only [r42_entry.l0])
    rw [wrap_succ i (by omega), if_neg (by rw [ofL_size]; omega)]
  | succ d ih =>
    (intro i hi hno); (by_cases hend : i + 1 < t.length)
    · (have hb0 := bt_ofL t i (by omega)); (have hb1 := bt_ofL t (i + 1) hend)
      have next : Lib.occAt t [59, 32] i = false → ∃ (c : List Int) (e : List El), Ev (fun k => r42_entry.j1 k (ofL t) (i : Int) false) (c, e, (entO t).isSome) ∧ ∀ x, entO t = some x → x = ⟨c, e⟩ := fun ho => by
        obtain ⟨c, e, h1, h2⟩ := ih (i + 1) (by omega) (fun j hj => by
          by_cases hji : j = i
          · rw [hji]; exact ho
          · exact hno j (by omega))
        (refine ⟨c, e, Ev.step (f := fun k => r42_entry.l0 k (ofL t) ((i + 1 : Nat) : Int)) (fun k => ?_) h1, h2⟩); (simp only [r42_entry.j1]); (rw [if_neg (by decide), wrap_succ i (by omega)])
      by_cases h59 : t[i] = 59
      · by_cases h32 : t[i + 1] = 32
        · (have ho := (occ_at t i).2 ⟨hend, h59, h32⟩); (have hix := Lib.index_first (s := t) (sub := [59, 32]) (i := i) (by omega) ho hno)
          have hcut : Lib.cut t [59, 32] = (t.take i, t.drop (i + 2), true) := by
            (unfold Lib.cut); (rw [hix, if_pos (by omega), Int.toNat_natCast]); (rfl)
          obtain ⟨c, e, h1, h2⟩ := entry_hit t hl i hend _ _ rfl rfl
          have hE : entO t = if (readCodes (t.take i)).2 = 0 then (readE (t.drop (i + 2))).map fun els => ⟨(readCodes (t.take i)).1, els⟩ else none := by
            (unfold entO); (rw [hcut]); (by_cases hc : (readCodes (t.take i)).2 = 0)
            · rw [if_pos ⟨rfl, hc⟩, if_pos hc]
            · rw [if_neg (fun h => hc h.2), if_neg hc]
          have hS : (entO t).isSome = (decide ((readCodes (t.take i)).2 = 0) && (readE (t.drop (i + 2))).isSome) := by
            (rw [hE]); (by_cases hc : (readCodes (t.take i)).2 = 0)
            · rw [if_pos hc, decide_eq_true hc, Bool.true_and, Option.isSome_map]
            · (rw [if_neg hc, decide_eq_false hc, Bool.false_and]); (rfl)
          (rw [hS]); (refine ⟨c, e, Ev.step (f := fun k => r42_entry.j1 k (ofL t) (i : Int) true) (fun k => ?_) h1, fun x hx => ?_⟩)
          · (simp only [r42_entry.l0]); (rw [wrap_succ i (by omega), if_pos (by rw [ofL_size]; omega), if_pos (by omega), if_pos (by rw [ofL_size]; omega), hb0, if_pos (by rw [h59]; rfl), if_pos (by omega), hb1, h32]); (rfl)
          · (rw [hE] at hx); (by_cases hc : (readCodes (t.take i)).2 = 0)
            · (rw [if_pos hc] at hx); (obtain ⟨els, he, rfl⟩ := Option.map_eq_some_iff.1 hx); (obtain ⟨e1, e2⟩ := h2 els hc he); (rw [e1, e2])
            · (rw [if_neg hc] at hx); (cases hx)
        · obtain ⟨c, e, h1, h2⟩ := next (by
            cases ho : Lib.occAt t [59, 32] i with
            | false => rfl
            | true => obtain ⟨_, _, h⟩ := (occ_at t i).1 ho; exact absurd h h32)
          (refine ⟨c, e, Ev.step (f := fun k => r42_entry.j1 k (ofL t) (i : Int) false) (fun k => ?_) h1, h2⟩); (simp only [r42_entry.l0]); (rw [wrap_succ i (by omega), if_pos (by rw [ofL_size]; omega), if_pos (by omega), if_pos (by rw [ofL_size]; omega), hb0, if_pos (by rw [h59]; rfl), if_pos (by omega), hb1, show (((t[i + 1]).toNat : Int) == 32) = false from beq_eq_false_iff_ne.2 (fun e => h32 ((u8_eq _ 32).1 e))])
      · obtain ⟨c, e, h1, h2⟩ := next (by
          cases ho : Lib.occAt t [59, 32] i with
          | false => rfl
          | true => obtain ⟨_, h, _⟩ := (occ_at t i).1 ho; exact absurd h h59)
        (refine ⟨c, e, Ev.step (f := fun k => r42_entry.j1 k (ofL t) (i : Int) false) (fun k => ?_) h1, h2⟩); (simp only [r42_entry.l0]); (rw [wrap_succ i (by omega), if_pos (by rw [ofL_size]; omega), if_pos (by omega), if_pos (by rw [ofL_size]; omega), hb0, if_neg (show ¬ ((t[i]).toNat : Int) = 59 from fun e => h59 ((u8_eq _ 59).1 e))])
    · have hcut : Lib.cut t [59, 32] = (t, [], false) := by
        unfold Lib.cut
        rw [Lib.index_none (fun j hj => by
          by_cases hj2 : j < i
          · exact hno j hj2
          · cases ho : Lib.occAt t [59, 32] j with
            | false => rfl
            | true => obtain ⟨h, -⟩ := (occ_at t j).1 ho; omega), if_neg (by decide)]
      (have hn : entO t = none := by unfold entO; rw [hcut, if_neg (fun h => by cases h.1)]); (rw [hn]); (refine ⟨[], [], ?_, fun x hx => by cases hx⟩); (refine Ev.step (f := fun k => some ([], [], false)) (fun k => ?_) (Ev.now _)); (simp only [r42_entry.l0]); (rw [wrap_succ i (by omega), if_neg (by rw [ofL_size]; omega)])
theorem entry_ev (t : List UInt8) (hl : t.length ≤ 100000) : ∃ (c : List Int) (e : List El), Ev (fun k => r42_entry.f k (ofL t)) (c, e, (entO t).isSome) ∧ ∀ x, entO t = some x → x = ⟨c, e⟩ := entry_l0 t hl t.length 0 (by omega) (fun j hj => by omega)
theorem lineE_O (st : Rd) (t : List UInt8) (n : Int) : lineE st t n = (entO t).map fun x => ⟨st.es ++ [x], st.gs, st.b1, st.b2, st.b3, st.bg, st.ls ++ [n]⟩ := by
  (unfold lineE entO); (split)
  · cases readE (Lib.cut t [59, 32]).2.1 <;> rfl
  · rfl
theorem entO_at (r : List UInt8) : entO (64 :: r) = none := by
  (obtain ⟨⟨A, B, F⟩, hcut⟩ : ∃ C, Lib.cut (64 :: r) [59, 32] = C := ⟨_, rfl⟩); (unfold entO); (rw [hcut]); (dsimp only); (by_cases hc : F = true ∧ (readCodes A).2 = 0)
  · (exfalso); (obtain ⟨rfl, hC⟩ := hc); (have hl := cut_some hcut); (obtain ⟨c1, -⟩ := readCodes_some hC)
    cases A with
    | nil => simp at hl
    | cons x A =>
      (simp only [List.cons_append, List.cons.injEq] at hl); (have := codes_no64 (readCodes (x :: A)).1); (rw [c1, ← hl.1] at this); (exact this (by simp))
  · rw [if_neg hc]
theorem head_64 {t : List UInt8} (h : (cutAt 32 t).headD [] = groupW) : ∃ r, t = 64 :: r := by
  cases t with
  | nil => exact absurd h (by decide)
  | cons b r =>
    by_cases hb : b = 64
    · exact ⟨r, by rw [hb]⟩
    · exact absurd h (head_not (fun b' r' e => by cases e; exact hb))
theorem line_grp (gs : List Gr) (a b c : Int) (ls : List Int) (r : List UInt8) (n : Int) : lineS ⟨[], gs, a, b, c, true, ls⟩ (64 :: r) n = (grpO (cutAt 32 (64 :: r))).map fun g => ⟨[], gs ++ [g], a, b, c, true, ls⟩ := by
  (unfold lineS); (rw [if_neg (show ¬ (⟨[], gs, a, b, c, true, ls⟩ : Rd).bg = false from fun e => by cases e)]); (by_cases hw : (cutAt 32 (64 :: r)).headD [] = groupW)
  · (rw [if_pos hw]); (unfold lineG grpO); (by_cases hc : (cutAt 32 (64 :: r)).length = 4 ∧ nameB ((cutAt 32 (64 :: r)).getD 1 []) = true)
    · (rw [if_pos ⟨hc.1, hc.2, rfl⟩, if_pos ⟨hc.1, hw, hc.2⟩]); (generalize numsL ((cutAt 32 (64 :: r)).drop 2) = o)
      match o with
      | none => rfl
      | some [] => rfl
      | some [_] => rfl
      | some [x, y] => rfl
      | some (_ :: _ :: _ :: _) => rfl
    · (rw [if_neg (fun h => hc ⟨h.1, h.2.1⟩), if_neg (fun h => hc ⟨h.1, h.2.2⟩)]); (rfl)
  · (rw [if_neg hw, lineE_O, entO_at]); (unfold grpO); (rw [if_neg (fun h => hw h.2.1)]); (rfl)
theorem line_ent (es : List En) (gs : List Gr) (a b c : Int) (ls : List Int) (t : List UInt8) (n : Int) (h : ¬ ((∃ r, t = 64 :: r) ∧ es = [])) : lineS ⟨es, gs, a, b, c, true, ls⟩ t n = (entO t).map fun x => ⟨es ++ [x], gs, a, b, c, true, ls ++ [n]⟩ := by
  (unfold lineS); (rw [if_neg (show ¬ (⟨es, gs, a, b, c, true, ls⟩ : Rd).bg = false from fun e => by cases e)]); (by_cases hw : (cutAt 32 t).headD [] = groupW)
  · (obtain ⟨r, rfl⟩ := head_64 hw); (rw [if_pos hw, entO_at]); (unfold lineG); (rw [if_neg (fun h' => h ⟨⟨r, rfl⟩, h'.2.2⟩)]); (rfl)
  · rw [if_neg hw, lineE_O]
end Go.Proofs.YtdaijpjjilmkkaaGreatDoor.Pr

/- Plain laws: the reference's ParseFile is the program's. -/
namespace Go.Proofs.YtdaijpjjilmkkaaGreatDoor.Pr
open Go.RowKit Go.Proofs.YtdaijpjjilmkkaaGreatDoorW.PrintWords Go.Proofs.YtdaijpjjilmkkaaGreatDoorW.PrintLast Go.Proofs.YtdaijpjjilmkkaaGreatDoorW.PrintMore
set_option linter.unusedVariables false
set_option linter.unusedSimpArgs false
theorem pf_l1 (es : List En) (gs : List Gr) (a b c : Int) (ls : List Int) (hes : es.length ≤ 100000) (hel : ∀ x ∈ es, x.f1.length ≤ 100000) (hls : ls.length = es.length) (d : Nat) : ∀ i : Nat, i + d = es.length →
    Ev (fun k => r42_ParseFile.l1 k ls (i : Int) es gs a b c) (match badE (es.drop i) (ls.drop i) with | some (e, n) => bad e n | none => (es, gs, a, b, c, 0, 0)) := by
  induction d with
  | zero =>
    (intro i hi); (rw [List.drop_of_length_le (by omega)]); (refine Ev.step (f := fun k => some (es, gs, a, b, c, 0, 0)) (fun k => ?_) (Ev.now _)); (simp only [r42_ParseFile.l1])
    rw [if_neg (by omega)]
  | succ d ih =>
    (intro i hi); (have hlt : i < es.length := by omega); (have hlt2 : i < ls.length := by omega); (have hd : es.drop i = es[i] :: es.drop (i + 1) := List.drop_eq_getElem_cons hlt); (have hd2 : ls.drop i = ls[i] :: ls.drop (i + 1) := List.drop_eq_getElem_cons hlt2); (have hx := hel es[i] (List.getElem_mem hlt)); (rw [hd, hd2, badE]); (refine Ev.step (f := fun k => (r42_checks.f k es[i].f1).bind fun t => (if t = 0 then r42_ParseFile.l1 k ls ((i + 1 : Nat) : Int) es gs a b c else some (bad t ls[i]))) (fun k => ?_) (Ev.bind (checks_ev es[i].f1 (by omega)) ?_))
    · (simp only [r42_ParseFile.l1]); (rw [if_pos (by omega), if_pos (by omega), rdX_at es i hlt, rdI_at ls i hlt2, wrap_succ i (by omega)]); (congr 1); (funext t); (rw [if_pos (show (i : Int) < (ls.length : Int) by omega)]); (rfl)
    · by_cases h0 : errE es[i].f1 = 0
      · (rw [if_pos h0]); (exact Ev.pos h0 (ih (i + 1) (by omega)))
      · (rw [if_neg h0]); (exact Ev.neg h0 (Ev.now _))
theorem pf_l0 (s : List UInt8) (hs : s.length ≤ 1500) (Q : List (List UInt8)) (z : List UInt8) (hps : cutAt 10 s = Q ++ [z]) (d : Nat) : ∀ (i : Nat) (st : Rd), i + d = (Q ++ [z]).length → InvR st i → (st.bg = false → st = Rd.none) →
    Ev (fun k => r42_ParseFile.l0 k st.ls st.bg ((Q ++ [z]).map ofL) (i : Int) st.es st.gs st.b1 st.b2 st.b3) (endL (linesOf s).length (goL ((Q ++ [z]).drop i) i st)) := by
  have hlen : (Q ++ [z]).length ≤ 1501 := by
    (have := cutAt_len 10 s); (rw [hps] at this); (omega)
  (have hlo := linesOf_of hps); (have hQl : (Q ++ [z]).length = Q.length + 1 := by simp); (have hml : (((Q ++ [z]).map ofL).length : Int) = (Q.length : Int) + 1 := by rw [List.length_map, hQl]; rfl)
  induction d with
  | zero =>
    (intro i st hi hI hbg); (rw [List.drop_of_length_le (by omega), goL]); (unfold endL); (dsimp only)
    cases hb : st.bg with
    | true =>
      (rw [if_neg (by decide)]); (have h1 := pf_l1 st.es st.gs st.b1 st.b2 st.b3 st.ls (by have := hI.es; omega) hI.el hI.ls st.es.length 0 (by omega)); (rw [List.drop_zero, List.drop_zero] at h1); (refine Ev.step (f := fun k => r42_ParseFile.l1 k st.ls 0 st.es st.gs st.b1 st.b2 st.b3) (fun k => ?_) h1); (simp only [r42_ParseFile.l0])
      rw [if_neg (by omega), if_pos trivial]
    | false =>
      (rw [if_pos rfl]); (have hw1 : wrap64 ((((Q ++ [z]).map ofL).length : Int) - 1) = (Q.length : Int) := by rw [hml]; unfold wrap64; omega); (have hrd : rdOf ByteArray.empty ((Q ++ [z]).map ofL) (Q.length : Int) = ofL z := by simp [rdOf]); (refine Ev.step (f := fun k => some (bad 3 (((linesOf s).length : Int) + 1))) (fun k => ?_) (Ev.now _)); (simp only [r42_ParseFile.l0]); (rw [if_neg (by omega), if_neg (by decide), hw1, if_pos (by omega), if_pos (by omega), hrd, ofL_toList]); (by_cases hz : z = [])
      · (rw [if_pos hz, hlo, if_pos hz, wrap_succ _ (by omega)]); (rfl)
      · (rw [if_neg hz, hlo, if_neg hz, hml, hQl]); (show some (bad 3 (wrap64 ((Q.length : Int) + 1 + 1))) = some (bad 3 (((Q.length + 1 : Nat) : Int) + 1))); (rw [wrap_id (by omega) (by omega)])
        rfl
  | succ d ih =>
    (intro i st hi hI hbg); (have hlt : i < (Q ++ [z]).length := by omega); (obtain ⟨x, hxe⟩ : ∃ x, (Q ++ [z])[i] = x := ⟨_, rfl⟩); (have hd : (Q ++ [z]).drop i = x :: (Q ++ [z]).drop (i + 1) := by rw [← hxe]; exact List.drop_eq_getElem_cons hlt); (have hxm : x ∈ cutAt 10 s := by rw [hps, ← hxe]; exact List.getElem_mem hlt); (have hxl := cutAt_mem 10 s x hxm); (have hbl := bareL_le x); (have hbare := bareR_ev x (by omega)); (have hrx := rdc_at (Q ++ [z]) i hlt); (rw [hxe] at hrx); (have hc0 : (i : Int) < (((Q ++ [z]).map ofL).length : Int) := by omega); (obtain ⟨t, ht⟩ : ∃ t, bareL x = t := ⟨_, rfl⟩); (rw [ht] at hbare hbl); (rw [hd, goL, ht]); (have nxt : ∀ st1 : Rd, InvR st1 (i + 1) → (st1.bg = false → st1 = Rd.none) → Ev (fun k => r42_ParseFile.l0 k st1.ls st1.bg ((Q ++ [z]).map ofL) ((i + 1 : Nat) : Int) st1.es st1.gs st1.b1 st1.b2 st1.b3) (endL (linesOf s).length (goL ((Q ++ [z]).drop (i + 1)) (i + 1) st1)) := fun st1 h1 h2 => ih (i + 1) st1 (by omega) h1 h2); (by_cases ht0 : t = [])
    · (rw [if_pos ht0]); (refine Ev.succ ?_); (simp only [r42_ParseFile.l0]); (rw [hrx, wrap_succ i (by omega)]); (exact Ev.pos hc0 (Ev.pos (by omega) (Ev.bind hbare (Ev.pos (by rw [ofL_toList]; exact ht0) (nxt st (InvR_mono hI (by omega)) hbg)))))
    · (rw [if_neg ht0]); (have hbadE : endL (linesOf s).length (.inr (i + 1)) = bad 3 ((i + 1 : Nat) : Int) := rfl); (obtain ⟨es, gs, a, b, c, bg, ls⟩ := st); (have hI2 := hI); (obtain ⟨hIe, hIg, hIl, hIx⟩ := hI2); (dsimp only at hIe hIg hIl hIx); (refine Ev.succ ?_); (simp only [r42_ParseFile.l0]); (rw [hrx, wrap_succ i (by omega)]); (refine Ev.pos hc0 (Ev.pos (by omega) (Ev.bind hbare (Ev.neg (by rw [ofL_toList]; exact ht0) ?_))))
      cases bg with
      | false =>
        (have hst := hbg rfl); (cases hst); (obtain ⟨x1, y1, z1, h1, h2⟩ := base_ev t (by omega)); (have hS : lineS Rd.none t ((i : Int) + 1) = lineB Rd.none (cutAt 32 t) := by unfold lineS; rw [if_pos (show Rd.none.bg = false from rfl)]); (refine Ev.neg (by decide) (Ev.bind h1 ?_)); (change Ev _ (endL (linesOf s).length (match lineS Rd.none t ((i : Int) + 1) with | some st1 => goL ((Q ++ [z]).drop (i + 1)) (i + 1) st1 | none => Sum.inr (i + 1)))); (rw [hS])
        cases hL : lineB Rd.none (cutAt 32 t) with
        | none => exact Ev.neg (show ¬ (false = true) by decide) (Ev.now _)
        | some st1 =>
          (have e := h2 st1 hL); (subst e)
          exact Ev.pos rfl (nxt ⟨[], [], x1, y1, z1, true, []⟩ ⟨Nat.zero_le _, Nat.zero_le _, rfl, by simp⟩ (fun h => by cases h))
      | true =>
        obtain ⟨y, r, rfl⟩ : ∃ y r, t = y :: r := by
          cases t with
          | nil => exact absurd rfl ht0
          | cons y r => exact ⟨y, r, rfl⟩
        (have hb0 := bt_ofL (y :: r) 0 (by simp)); (rw [show ((0 : Nat) : Int) = 0 from rfl, List.getElem_cons_zero] at hb0)
        have hent : ∀ (hne : ¬ ((∃ r', y :: r = 64 :: r') ∧ es = [])), Ev (fun k => r42_ParseFile.j1 k ls true ((Q ++ [z]).map ofL) (i : Int) (ofL (y :: r)) false es gs a b c) (endL (linesOf s).length (match lineS ⟨es, gs, a, b, c, true, ls⟩ (y :: r) ((i : Int) + 1) with | some st1 => goL ((Q ++ [z]).drop (i + 1)) (i + 1) st1 | none => Sum.inr (i + 1))) := fun hne => by
          (obtain ⟨cs, els, h1, h2⟩ := entry_ev (y :: r) (by omega)); (have hl := line_ent es gs a b c ls (y :: r) ((i : Int) + 1) hne); (rw [hl]); (refine Ev.succ ?_); (simp only [r42_ParseFile.j1]); (refine Ev.neg (by decide) (Ev.bind h1 (Ev.pos (by omega) (Ev.pos (by omega) ?_)))); (rw [wrap_succ i (by omega), show [((i + 1 : Nat) : Int)] = [(i : Int) + 1] from rfl])
          cases hE : entO (y :: r) with
          | none => exact Ev.neg (show ¬ (false = true) by decide) (Ev.now _)
          | some e =>
            (have he := h2 e hE); (subst he); (rw [hE] at hl); (have hIn := lineS_inv hl (by omega) hI); (exact Ev.pos rfl (nxt ⟨es ++ [⟨cs, els⟩], gs, a, b, c, true, ls ++ [(i : Int) + 1]⟩ hIn (fun h => by cases h)))
        (refine Ev.pos rfl (Ev.pos (by rw [ofL_size]; first | (simp; done) | (simp; omega)) (Ev.pos (by rw [ofL_size]; first | (simp; done) | (simp; omega)) ?_))); (rw [hb0]); (by_cases h64 : y = 64)
        · refine Ev.pos (by rw [h64]; rfl) ?_
          cases es with
          | nil =>
            (subst h64); (obtain ⟨n, x1, y1, h1, h2⟩ := group_ev (64 :: r) (by omega)); (have hl := line_grp gs a b c ls r ((i : Int) + 1)); (change Ev (fun k => r42_ParseFile.j1 k ls true ((Q ++ [z]).map ofL) (i : Int) (ofL (64 :: r)) true [] gs a b c) (endL (linesOf s).length (match lineS ⟨[], gs, a, b, c, true, ls⟩ (64 :: r) ((i : Int) + 1) with | some st1 => goL ((Q ++ [z]).drop (i + 1)) (i + 1) st1 | none => Sum.inr (i + 1)))); (rw [hl]); (refine Ev.succ ?_); (simp only [r42_ParseFile.j1]); (refine Ev.pos trivial (Ev.bind h1 (Ev.pos (by omega) ?_))); (rw [wrap_succ i (by omega)])
            cases hE : grpO (cutAt 32 (64 :: r)) with
            | none => exact Ev.neg (show ¬ (false = true) by decide) (Ev.now _)
            | some g =>
              (have he := h2 g hE); (subst he); (rw [hE] at hl); (have hIn := lineS_inv hl (by omega) hI)
              exact Ev.pos rfl (nxt ⟨[], gs ++ [⟨n, x1, y1⟩], a, b, c, true, ls⟩ hIn (fun h => by cases h))
          | cons e0 er =>
            (have h0 : (((e0 :: er).length : Int) == 0) = false := beq_eq_false_iff_ne.2 (by simp; omega)); (rw [h0]); (exact hent (fun h => by cases h.2))
        · (refine Ev.neg (show ¬ (y.toNat : Int) = 64 from fun e => h64 ((u8_eq y 64).1 e)) ?_); (exact hent (fun h => by obtain ⟨r', hr⟩ := h.1; cases hr; exact h64 rfl))
theorem parseFR_ev (l : List UInt8) (h : l.length ≤ 1500 ∨ 65536 < l.length) : Ev (fun k => r42_ParseFile.f k (ofL l)) (parseF l) := by
  by_cases hbig : 65536 < l.length
  · (have e : parseF l = bad 2 0 := by unfold parseF; rw [if_pos hbig]); (rw [e]); (exact Ev.pos (by rw [ofL_size]; omega) (Ev.now _))
  · (have hs : l.length ≤ 1500 := by omega); (have hc := refcut10 l (by omega)); (have hne : cutAt 10 l ≠ [] := cutAt_ne 10 l); (obtain ⟨Q, z, hps⟩ : ∃ Q z, cutAt 10 l = Q ++ [z] := ⟨(cutAt 10 l).dropLast, (cutAt 10 l).getLast hne, (List.dropLast_concat_getLast hne).symm⟩); (have h0 := pf_l0 l hs Q z hps (Q ++ [z]).length 0 Rd.none (by omega) ⟨Nat.le_refl _, Nat.le_refl _, rfl, by simp [Rd.none]⟩ (fun _ => rfl))
    have hg : goL (Q ++ [z]) 0 Rd.none = goL (linesOf l) 0 Rd.none := by
      (rw [linesOf_of hps]); (by_cases hz : z = [])
      · rw [if_pos hz, hz, goL_app]
        cases goL Q 0 Rd.none with
        | inr n => rfl
        | inl st1 =>
          (show goL [[]] _ st1 = .inl st1); (rw [goL, if_pos (show bareL [] = [] from rfl)]); (rfl)
      · rw [if_neg hz]
    (have e : parseF l = endL (linesOf l).length (goL (linesOf l) 0 Rd.none) := by unfold parseF; rw [if_neg hbig]); (rw [List.drop_zero, hg, ← e] at h0); (refine Ev.neg (by rw [ofL_size]; omega) ?_); (rw [hps] at hc); (exact Ev.bind hc h0)
end Go.Proofs.YtdaijpjjilmkkaaGreatDoor.Pr

/- ElementReads: the pure statement. -/
namespace Go.Proofs.YtdaijpjjilmkkaaGreatDoor.Pr
open Go.RowKit Go.Proofs.YtdaijpjjilmkkaaGreatDoorW.PrintWords Go.Proofs.YtdaijpjjilmkkaaGreatDoorW.PrintLast Go.Proofs.YtdaijpjjilmkkaaGreatDoorW.PrintMore
set_option linter.unusedVariables false
set_option linter.unusedSimpArgs false
theorem parseF_same (l : List UInt8) (h : l.length ≤ 1500 ∨ 65536 < l.length) : Ev (fun k => r42_Same.f k (parseF l).1 (parseF l).2.1 (parseF l).2.2.1 (parseF l).2.2.2.1 (parseF l).2.2.2.2.1 (parseF l).1 (parseF l).2.1 (parseF l).2.2.1 (parseF l).2.2.2.1 (parseF l).2.2.2.2.1) true := by
  by_cases hbig : 65536 < l.length
  · (have e : parseF l = bad 2 0 := by unfold parseF; rw [if_pos hbig]); (rw [e]); (exact same_ev [] [] 0 0 0 (by decide) (by decide) (by simp))
  · rcases parse_back l (by omega) with ⟨es, gs, a, b, c, hp, ho, hl⟩ | ⟨e, n, hp, he, hn⟩
    · (have hsm := small_of ho (by omega)); (rw [hp]); (exact same_small hsm)
    · (rw [hp]); (exact same_ev [] [] 0 0 0 (by decide) (by decide) (by simp))
theorem ElementReads_pure (s : ByteArray) (hmax : s.size ≤ maxLen) : ∃ k, w42_ElementReads.f k s = some true := by
  obtain ⟨l, rfl, hsz⟩ := ofL_of s
  have hbig : Ev (fun k => w42_ElementReads.j0 k (ofL l) true) true := by
    (refine Ev.step (f := fun k => (w42_alive.f k).bind fun t => some t) (fun k => ?_) alive_tail); (simp only [w42_ElementReads.j0]); (rw [if_pos trivial])
  have hgo : l.length ≤ 9223372036854775807 → (l.length ≤ 1500 ∨ 65536 < l.length) → Ev (fun k => w42_ElementReads.j0 k (ofL l) false) true := fun h63 hl => by
    (refine Ev.succ ?_); (simp only [w42_ElementReads.j0]); (refine Ev.neg (by decide) (Ev.got (pfile_f l h63) (Ev.bind (parseFR_ev l hl) (Ev.bind (parseF_same l hl) (Ev.pos rfl (Ev.pos (by simp) alive_tail))))))
  have h : l.length ≤ 9223372036854775807 → Ev (fun k => w42_ElementReads.f k (ofL l)) true := fun h63 => by
    by_cases h15 : l.length ≤ 1500
    · exact Ev.neg (by rw [ofL_size]; omega) (hgo h63 (.inl h15))
    · (refine Ev.pos (by rw [ofL_size]; omega) ?_); (by_cases h65 : l.length ≤ 65536)
      · (rw [show decide (((ofL l).size : Int) ≤ 65536) = true from decide_eq_true (by rw [ofL_size]; omega)]); (exact hbig)
      · (rw [show decide (((ofL l).size : Int) ≤ 65536) = false from decide_eq_false (by rw [ofL_size]; omega)]); (exact hgo h63 (.inr (by omega)))
  (obtain ⟨K, h⟩ := h (by unfold maxLen at hmax; omega)); (exact ⟨K, h K (Nat.le_refl _)⟩)
end Go.Proofs.YtdaijpjjilmkkaaGreatDoor.Pr

/- Arguments of the types api.Element, []api.Element and api.Collation, opened: what their memory holds. -/
namespace Go.Proofs.YtdaijpjjilmkkaaGreatDoor.Pr
open Go.RowKit Go.Proofs.YtdaijpjjilmkkaaGreatDoorW.PrintWords Go.Proofs.YtdaijpjjilmkkaaGreatDoorW.PrintLast Go.Proofs.YtdaijpjjilmkkaaGreatDoorW.PrintMore
set_option linter.unusedVariables false
set_option linter.unusedSimpArgs false
section
variable {H : Type} {enc : TypeId × Value → H} {w : World} {base : Nat} {spare : Nat → Bool} {held : Bool}
end
end Go.Proofs.YtdaijpjjilmkkaaGreatDoor.Pr

/- What the rows' listed variables give the contracts; a world that meets the list. -/
namespace Go.Proofs.YtdaijpjjilmkkaaGreatDoor.Pr
open Go.RowKit
set_option linter.unusedVariables false
set_option linter.unusedSimpArgs false
def laidL : List (String × DataW Unit) := Rows.elementParsesRow.laid
theorem plain_of {W : World} (h : laidMetH Tryz.prog laidL W) : laidMet Tryz.prog laidL W := by
  (rw [Go.MakeChecks.laidMetH_plain Tryz.prog laidL W (by kernel_rfl)] at h); (exact h)
theorem star : "*" ++ "errors.errorString" = "*errors.errorString" := by decide
theorem rowErr (u : TypeId) (h : Tryz.prog.typeName? 3 u = some "*errors.errorString") : u = 168 :=
  typeName_ptr_named (nm := "errors.errorString") (by rw [star]; kernel_rfl) (by kernel_rfl) (by decide) u (by rw [star]; exact h)
theorem gw_of {W : World} (h : laidMetH Tryz.prog laidL W) (hsh : W.ShapedOpen Tryz.prog) : GW W := by
  (have h0 := plain_of h); (have h3 := (laidMet.tail (laidMet.tail h0))); (have h5 := laidMet.tail (laidMet.tail h3)); (have h6 := laidMet.tail h5); (refine ⟨?_, ?_, ?_, ?_⟩)
  · exact Go.Proofs.cell_of_shapedOpen_int (zero := #[.int .i64 0]) (t := 3) hsh (of_decide_eq_true (by kernel_rfl)) (by kernel_rfl) rfl (by kernel_rfl) (by kernel_rfl) Tryz.underlying3
  · exact Lib.tabIs_of_head (g := 1) (t := 143) (e := 130) (n := 20) (by kernel_rfl) (by kernel_rfl) (by kernel_rfl) (by kernel_rfl) (by kernel_rfl) (by kernel_rfl) h3
  · (obtain ⟨a, s, hv, -⟩ := laid_sentinel h6 (g := 4) (ti := 61) (by kernel_rfl) (by kernel_rfl) Tryz.underlying61 rowErr Tryz.underlying168 Tryz.underlying170 rfl rfl Tryz.underlying9 (by kernel_rfl) (by kernel_rfl)); (exact ⟨_, _, by have h0 := World.var?_cell (g := 4) (by kernel_rfl) hv 0; simpa using h0⟩)
  · (obtain ⟨a, s, hv, -⟩ := laid_sentinel h5 (g := 5) (ti := 61) (by kernel_rfl) (by kernel_rfl) Tryz.underlying61 rowErr Tryz.underlying168 Tryz.underlying170 rfl rfl Tryz.underlying9 (by kernel_rfl) (by kernel_rfl)); (exact ⟨_, _, by have h0 := World.var?_cell (g := 5) (by kernel_rfl) hv 0; simpa using h0⟩)
noncomputable def laidWorld (os : Os) : World :=
  { World.doorLaid Tryz.prog 400 os with heap := (World.doorLaid Tryz.prog 400 os).heap.modify 2 fun
      | .cells _ t frozen => .cells (Lib.firstTab.map fun z => Value.int .u8 z).toArray t frozen
      | o => o }
theorem laid_met (os : Os) (args : Array Value) : laidMet Tryz.prog laidL ((laidWorld os).forCall (fun _ _ => 0) ⟨#[], args, []⟩).memory :=
  laidMet_of_run' 8 (by kernel_rfl) (by kernel_rfl)
end Go.Proofs.YtdaijpjjilmkkaaGreatDoor.Pr
