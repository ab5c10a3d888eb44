/- Plain laws: what escape.Parse computes, over lists of bytes. -/
import Derived.Test.YtjjbjmmdljhjkaaDoorUText
import Derived.Test.YtjjbjmmdljhjkaaDoorPrx5
namespace Go.Proofs.YtjjbjmmdljhjkaaDoor.Pr
open Go.RowKit Go.Proofs.YtjjbjmmdljhjkaaDoorW.PrintWords Go.Proofs.YtjjbjmmdljhjkaaDoorW.PrintLast Go.Proofs.YtjjbjmmdljhjkaaDoorW.PrintMore
set_option linter.unusedVariables false
set_option linter.unusedSimpArgs false

def dv (b : Nat) : Int := if 48 ≤ b ∧ b ≤ 57 then (b : Int) - 48 else if 65 ≤ b ∧ b ≤ 70 then (b : Int) - 55 else if 97 ≤ b ∧ b ≤ 102 then (b : Int) - 87 else -1
theorem dv_bd (b : Nat) : -1 ≤ dv b ∧ dv b ≤ 15 := by unfold dv; (repeat' split) <;> omega
theorem digit_all : (List.range 256).all (fun b => escape_digit.f 2 (b : Int) == some (dv b)) = true := by decide +kernel
theorem digit_f (b : UInt8) (k : Nat) (hk : 2 ≤ k) : escape_digit.f k (b.toNat : Int) = some (dv b.toNat) := by
  have h := List.all_eq_true.1 digit_all b.toNat (List.mem_range.2 b.toNat_lt)
  exact at_rounds (fun k => escape_digit.mono _ k) hk (by simpa using h)

/-- What begins here: an element and its length, the beginning of one, or nothing good. -/
inductive It | item (c : Int) (n : Nat) | part | bad
def It.res : It → Int × Int × Int
  | .item c n => (c, n, 0)
  | .part => (0, 0, 1)
  | .bad => (0, 0, 2)

def digL : List UInt8 → Int → Nat → It
  | [], _, _ => .part
  | b :: t, v, cnt => if b = 125 ∧ 0 < cnt then .item v (cnt + 4) else if dv b.toNat < 0 ∨ 5 < cnt ∨ 1114111 < 16 * v + dv b.toNat then .bad else digL t (16 * v + dv b.toNat) (cnt + 1)
def scanL : List UInt8 → It
  | [] => .part
  | b :: t => if b = 34 ∨ b = 92 then .item b.toNat 2 else if b = 117 then (match t with | [] => .part | b2 :: u => if b2 = 123 then digL u 0 0 else .bad) else .bad

theorem digL_item : ∀ (l : List UInt8) (v : Int) (cnt : Nat) (c : Int) (n : Nat), 0 ≤ v → v ≤ 1114111 → digL l v cnt = .item c n → cnt + 4 ≤ n ∧ n ≤ cnt + 3 + l.length ∧ 0 ≤ c ∧ c ≤ 1114111
  | [], v, cnt, c, n, _, _, h => by cases h
  | b :: t, v, cnt, c, n, h0, h1, h => by
    unfold digL at h
    by_cases hb : b = 125 ∧ 0 < cnt
    · rw [if_pos hb] at h
      cases h
      simp; omega
    · rw [if_neg hb] at h
      by_cases hd : dv b.toNat < 0 ∨ 5 < cnt ∨ 1114111 < 16 * v + dv b.toNat
      · rw [if_pos hd] at h; cases h
      · rw [if_neg hd] at h
        have := digL_item t _ _ c n (by omega) (by omega) h
        simp; omega
theorem scanL_item (t : List UInt8) (c : Int) (n : Nat) (h : scanL t = .item c n) : 2 ≤ n ∧ n ≤ t.length + 1 ∧ 0 ≤ c ∧ c ≤ 1114111 := by
  match t, h with
  | [], h => cases h
  | b :: t, h =>
    simp only [scanL] at h
    by_cases hq : b = 34 ∨ b = 92
    · rw [if_pos hq] at h
      cases h
      have := b.toNat_lt
      simp; omega
    · rw [if_neg hq] at h
      by_cases hu : b = 117
      · rw [if_pos hu] at h
        match t, h with
        | [], h => cases h
        | b2 :: u, h =>
          by_cases h2 : b2 = 123
          · simp only [h2, if_true] at h
            have := digL_item u 0 0 c n (by omega) (by omega) h
            simp; omega
          · simp only [h2, if_false] at h; cases h
      · rw [if_neg hu] at h; cases h

theorem scan_loop (l : List UInt8) (hl : l.length ≤ 65536) (d : Nat) : ∀ (i k : Nat) (v : Int), i + d = l.length → 3 ≤ i → 2 * d + 4 ≤ k → 0 ≤ v → v ≤ 1114111 →
    escape_scan.l0 k (ofL l) v (i : Int) = some (It.res (digL (l.drop i) v (i - 3))) := by
  induction d with
  | zero =>
    intro i k v hi h3 hk h0 h1
    obtain ⟨k, rfl⟩ : ∃ m, k = m + 1 := ⟨k - 1, by omega⟩
    simp only [escape_scan.l0]
    rw [if_neg (by rw [ofL_size]; omega), List.drop_of_length_le (by omega)]
    rfl
  | succ d ih =>
    intro i k v hi h3 hk h0 h1
    obtain ⟨k, rfl⟩ : ∃ m, k = m + 2 := ⟨k - 2, by omega⟩
    have hlt : i < l.length := by omega
    have hd : l.drop i = l[i] :: l.drop (i + 1) := List.drop_eq_getElem_cons hlt
    obtain ⟨b, hb⟩ : ∃ b, l[i] = b := ⟨_, rfl⟩
    have hdv := dv_bd b.toNat
    simp only [escape_scan.l0]
    rw [if_pos (by rw [ofL_size]; omega), if_pos (by omega), bt_ofL l i hlt, hb, digit_f b _ (by omega), Option.bind_some, hd, hb]
    unfold digL
    have hj : ∀ e : Bool, e = decide (b = 125 ∧ 0 < i - 3) → escape_scan.j2 (k + 1) (ofL l) v i (dv b.toNat) e =
        some (It.res (if b = 125 ∧ 0 < i - 3 then It.item v (i - 3 + 4) else if dv b.toNat < 0 ∨ 5 < i - 3 ∨ 1114111 < 16 * v + dv b.toNat then It.bad else digL (l.drop (i + 1)) (16 * v + dv b.toNat) (i - 3 + 1))) := by
      intro e he
      simp only [escape_scan.j2]
      by_cases hq : b = 125 ∧ 0 < i - 3
      · rw [he, if_pos (decide_eq_true hq), if_pos hq, wrap_succ i (by omega)]
        simp only [It.res]
        rw [show i - 3 + 4 = i + 1 by omega]
      · rw [he, if_neg (by rw [decide_eq_false hq]; decide), if_neg hq]
        by_cases hneg : dv b.toNat < 0
        · rw [if_pos hneg, if_pos (Or.inl hneg)]; rfl
        · rw [if_neg hneg]
          by_cases h8 : 5 < i - 3
          · rw [if_pos (by omega), if_pos (Or.inr (Or.inl h8))]; rfl
          · rw [if_neg (by omega), wrap_id (x := 16 * v) (by omega) (by omega), wrap_id (x := 16 * v + _) (by omega) (by omega)]
            by_cases hm : 1114111 < 16 * v + dv b.toNat
            · rw [if_pos (by omega), if_pos (Or.inr (Or.inr hm))]; rfl
            · rw [if_neg (by omega), if_neg (by omega), wrap_succ i (by omega), ih (i + 1) k _ (by omega) (by omega) (by omega) (by omega) (by omega), show i + 1 - 3 = i - 3 + 1 by omega]
    by_cases hb125 : b = 125
    · rw [if_pos ((u8_125 b).2 hb125)]
      exact hj _ (by simp [hb125]; omega)
    · rw [if_neg (fun e => hb125 ((u8_125 b).1 e))]
      exact hj _ (by simp [hb125])

theorem scan_f (t : List UInt8) (ht : t.length ≤ 65535) : Ev (fun k => escape_scan.f k (ofL (92 :: t))) (scanL t).res := by
  refine Ev.of (fun k => escape_scan.mono _ k) (k := 2 * t.length + 8) ?_
  unfold escape_scan.f
  match t, ht with
  | [], _ => rw [if_pos (by rw [ofL_size]; rfl)]; rfl
  | b :: u, ht =>
    have hb1 : bt (ofL (92 :: b :: u)) 1 = (b.toNat : Int) := bt_ofL (92 :: b :: u) 1 (by simp)
    have hsz : ((ofL (92 :: b :: u)).size : Int) = (u.length : Int) + 2 := by rw [ofL_size]; simp; omega
    obtain ⟨K, hK⟩ : ∃ K, 2 * (b :: u).length + 8 = K + 1 := ⟨_, rfl⟩
    have hK' : 2 * u.length + 9 = K := by simp at hK; omega
    rw [hK, if_neg (by omega), if_pos (by omega), hb1]
    simp only [scanL]
    by_cases h34 : b = 34
    · rw [if_pos ((u8_34 b).2 h34), if_pos (Or.inl h34)]
      simp only [escape_scan.j0]
      rw [if_pos trivial, if_pos (by omega), hb1, wrap_id (by omega) (by have := b.toNat_lt; omega)]
      rfl
    · rw [if_neg (fun e => h34 ((u8_34 b).1 e))]
      by_cases h92 : b = 92
      · rw [if_pos (Or.inr h92), show ((b.toNat : Int) == 92) = true by simp [h92]]
        simp only [escape_scan.j0]
        rw [if_pos trivial, if_pos (by omega), hb1, wrap_id (by omega) (by have := b.toNat_lt; omega)]
        rfl
      · have hne : ((b.toNat : Int) == 92) = false := beq_eq_false_iff_ne.2 (fun e => h92 ((u8_92 b).1 e))
        rw [hne, if_neg (show ¬ (b = 34 ∨ b = 92) by rintro (h | h) <;> contradiction)]
        simp only [escape_scan.j0]
        rw [if_neg (by decide), if_pos (by omega), hb1]
        by_cases h117 : b = 117
        · rw [if_pos ((u8_117 b).2 h117), if_pos h117]
          match u, hsz, hK' with
          | [], hsz, _ => rw [if_pos (by simpa using hsz)]; rfl
          | b2 :: v, hsz, hK' =>
            have hb2 : bt (ofL (92 :: b :: b2 :: v)) 2 = (b2.toNat : Int) := bt_ofL (92 :: b :: b2 :: v) 2 (by simp)
            have hv : v.length + 1 = (b2 :: v).length := rfl
            rw [if_neg (by omega), if_pos (by omega), hb2]
            by_cases h123 : b2 = 123
            · rw [if_pos ((u8_123 b2).2 h123)]
              have := scan_loop (92 :: b :: b2 :: v) (by simp at ht ⊢; omega) v.length 3 K 0 (by simp; omega) (by omega) (by omega) (by omega) (by omega)
              refine Eq.trans this ?_
              simp [h123]
            · rw [if_neg (fun e => h123 ((u8_123 b2).1 e))]
              simp [h123, It.res]
        · rw [if_neg (fun e => h117 ((u8_117 b).1 e)), if_neg h117]; rfl

/-- The reading of a literal's rest: what is read so far, and the place. -/
def parsL : Nat → List UInt8 → List Int → Nat → List Int × Int × Int
  | 0, _, _, p => ([], 3, p)
  | _ + 1, [], _, p => ([], 3, p)
  | n + 1, b :: t, acc, p =>
    if b = 34 then (if t = [] then (acc, 0, 0) else ([], 3, ((p + 1 : Nat) : Int)))
    else if plainB b.toNat = true then parsL n t (acc ++ [(b.toNat : Int)]) (p + 1)
    else if b = 92 then (match scanL t with
      | .item c m => parsL n ((b :: t).drop m) (acc ++ [c]) (p + m)
      | .part => ([], 3, ((p + (t.length + 1) : Nat) : Int))
      | .bad => ([], 3, p))
    else ([], 3, p)

theorem parsL_nil (n : Nat) (acc : List Int) (p : Nat) : parsL n [] acc p = ([], 3, (p : Int)) := by cases n <;> rfl

theorem pars_ev (l : List UInt8) (hl : l.length ≤ 65536) (n : Nat) : ∀ (i : Nat) (acc : List Int), i ≤ l.length → l.length - i ≤ n → acc.length ≤ i →
    Ev (fun k => escape_Parse.l0 k (ofL l) acc (i : Int)) (parsL n (l.drop i) acc i) := by
  induction n with
  | zero =>
    intro i acc hi hn ha
    refine ⟨1, fun k hk => ?_⟩
    (try dsimp only)
    obtain ⟨k, rfl⟩ : ∃ m, k = m + 1 := ⟨k - 1, by omega⟩
    simp only [escape_Parse.l0]
    rw [if_neg (by rw [ofL_size]; omega)]
    rfl
  | succ n ih =>
    intro i acc hi hn ha
    by_cases hend : i = l.length
    · refine ⟨1, fun k hk => ?_⟩
      obtain ⟨k, rfl⟩ : ∃ m, k = m + 1 := ⟨k - 1, by omega⟩
      simp only [escape_Parse.l0]
      rw [if_neg (by rw [ofL_size]; omega), List.drop_of_length_le (by omega)]
      rfl
    · have hlt : i < l.length := by omega
      obtain ⟨b, hb⟩ : ∃ b, l[i] = b := ⟨_, rfl⟩
      have hd : l.drop i = b :: l.drop (i + 1) := by rw [List.drop_eq_getElem_cons hlt, hb]
      have hbl := b.toNat_lt
      have hstep : ∀ k, escape_Parse.l0 (k + 1) (ofL l) acc (i : Int) = escape_Parse.j2 k (ofL l) acc i b.toNat (decide (b = 34) && decide (i + 1 = l.length)) := by
        intro k
        simp only [escape_Parse.l0]
        rw [if_pos (by rw [ofL_size]; omega), if_pos (by omega), bt_ofL l i hlt, hb, wrap_id (by omega) (by omega), ofL_size, wrap_id (by omega) (by omega)]
        by_cases h34 : b = 34
        · rw [if_pos ((u8_34 b).2 h34)]
          congr 1
          simp only [h34, decide_true, Bool.true_and]
          by_cases he : i + 1 = l.length
          · rw [decide_eq_true he]; exact beq_iff_eq.2 (by omega)
          · rw [decide_eq_false he]; exact beq_eq_false_iff_ne.2 (by omega)
        · rw [if_neg (fun e => h34 ((u8_34 b).1 e))]
          simp [h34]
      have hdl : (l.drop (i + 1)).length = l.length - (i + 1) := List.length_drop
      refine Ev.step hstep ?_
      rw [hd]
      simp only [parsL]
      by_cases h34 : b = 34
      · rw [if_pos h34]
        by_cases he : i + 1 = l.length
        · rw [List.drop_of_length_le (show l.length ≤ i + 1 by omega), if_pos rfl]
          refine ⟨1, fun k hk => ?_⟩
          (try dsimp only)
          obtain ⟨k, rfl⟩ : ∃ m, k = m + 1 := ⟨k - 1, by omega⟩
          simp only [escape_Parse.j2, h34, he, decide_true, Bool.and_self, if_true]
        · rw [if_neg (fun e => by rw [e] at hdl; simp at hdl; omega)]
          refine ⟨1, fun k hk => ?_⟩
          (try dsimp only)
          obtain ⟨k, rfl⟩ : ∃ m, k = m + 1 := ⟨k - 1, by omega⟩
          simp only [escape_Parse.j2, h34, he, decide_true, decide_false, Bool.and_false]
          rw [if_neg (by decide), if_pos (by decide), wrap_succ i (by omega)]
      · rw [if_neg h34]
        have hj : ∀ k, escape_Parse.j2 (k + 1) (ofL l) acc i b.toNat (decide (b = 34) && decide (i + 1 = l.length)) =
            (if plainB b.toNat = true then (if acc.length < 17592186044416 then (escape_Parse.l0 k (ofL l) (acc ++ [(b.toNat : Int)]) (wrap64 ((i : Int) + 1))) else (none)) else (if (b.toNat : Int) = 92 then (if 0 ≤ (i : Int) then (if (i : Int) ≤ ((ofL l).size : Int) then ((escape_scan.f k ((ofL l).extract ((i : Int) : Int).toNat (ofL l).size)).bind fun bt114 => (if bt114.2.2 = 1 then (if bt114.2.2 = 0 then (if acc.length < 17592186044416 then (escape_Parse.l0 k (ofL l) (acc ++ [bt114.1]) (wrap64 (((ofL l).size : Int) + bt114.2.1))) else (none)) else (some (([] : List Int), 3, ((ofL l).size : Int)))) else (if bt114.2.2 = 0 then (if acc.length < 17592186044416 then (escape_Parse.l0 k (ofL l) (acc ++ [bt114.1]) (wrap64 ((i : Int) + bt114.2.1))) else (none)) else (some (([] : List Int), 3, (i : Int)))))) else (none)) else (none)) else (some (([] : List Int), 3, (i : Int))))) := by
          intro k
          simp only [escape_Parse.j2, h34, decide_false, Bool.false_and]
          rw [if_neg (by decide), if_neg (fun e => h34 ((u8_34 b).1 e)), plain_f, Option.bind_some]
        refine Ev.step hj ?_
        by_cases hp : plainB b.toNat = true
        · rw [if_pos hp]
          obtain ⟨K, hK⟩ := ih (i + 1) (acc ++ [(b.toNat : Int)]) (by omega) (by omega) (by simp; omega)
          (try dsimp only at hK)
          refine ⟨K, fun k hk => ?_⟩
          (try dsimp only)
          rw [if_pos hp, if_pos (by omega), wrap_succ i (by omega), hK k hk]
        · rw [if_neg hp]
          by_cases h92 : b = 92
          · rw [if_pos h92]
            have hex : (ofL l).extract ((i : Int) : Int).toNat (ofL l).size = ofL (92 :: l.drop (i + 1)) := by
              rw [Int.toNat_natCast, ofL_extract, ofL_size, hd, h92, List.take_of_length_le (by simp; omega)]
            obtain ⟨K, hK⟩ := scan_f (l.drop (i + 1)) (by omega)
            (try dsimp only at hK)
            have hgo : ∀ k, K ≤ k → (if plainB b.toNat = true then (if acc.length < 17592186044416 then (escape_Parse.l0 k (ofL l) (acc ++ [(b.toNat : Int)]) (wrap64 ((i : Int) + 1))) else (none)) else (if (b.toNat : Int) = 92 then (if 0 ≤ (i : Int) then (if (i : Int) ≤ ((ofL l).size : Int) then ((escape_scan.f k ((ofL l).extract ((i : Int) : Int).toNat (ofL l).size)).bind fun bt114 => (if bt114.2.2 = 1 then (if bt114.2.2 = 0 then (if acc.length < 17592186044416 then (escape_Parse.l0 k (ofL l) (acc ++ [bt114.1]) (wrap64 (((ofL l).size : Int) + bt114.2.1))) else (none)) else (some (([] : List Int), 3, ((ofL l).size : Int)))) else (if bt114.2.2 = 0 then (if acc.length < 17592186044416 then (escape_Parse.l0 k (ofL l) (acc ++ [bt114.1]) (wrap64 ((i : Int) + bt114.2.1))) else (none)) else (some (([] : List Int), 3, (i : Int)))))) else (none)) else (none)) else (some (([] : List Int), 3, (i : Int))))) =
                (match scanL (l.drop (i + 1)) with
                  | .item c m => escape_Parse.l0 k (ofL l) (acc ++ [c]) (wrap64 ((i : Int) + m))
                  | .part => some ([], 3, (l.length : Int))
                  | .bad => some ([], 3, (i : Int))) := by
              intro k hk
              rw [if_neg hp, if_pos ((u8_92 b).2 h92), if_pos (by omega), if_pos (by rw [ofL_size]; omega), hex, hK k hk, Option.bind_some]
              cases scanL (l.drop (i + 1)) with
              | item c m => simp only [It.res]; rw [if_neg (show ¬ ((0 : Int) = 1) by decide), if_pos trivial, if_pos (by omega)]
              | part => simp [It.res, ofL_size]
              | bad => simp [It.res]
            cases hs : scanL (l.drop (i + 1)) with
            | item c m =>
              rw [hs] at hgo
              have hm := scanL_item _ c m hs
              obtain ⟨K2, hK2⟩ := ih (i + m) (acc ++ [c]) (by omega) (by omega) (by simp; omega)
              (try dsimp only at hK2)
              refine ⟨K + K2, fun k hk => ?_⟩
              (try dsimp only)
              rw [hgo k (by omega)]
              simp only
              rw [wrap_id (by omega) (by omega), show (i : Int) + (m : Int) = ((i + m : Nat) : Int) by omega, hK2 k (by omega), ← hd, List.drop_drop]
            | part =>
              rw [hs] at hgo
              refine ⟨K, fun k hk => ?_⟩
              (try dsimp only)
              rw [hgo k hk]
              simp only
              rw [show i + ((l.drop (i + 1)).length + 1) = l.length by omega]
            | bad =>
              rw [hs] at hgo
              refine ⟨K, fun k hk => ?_⟩
              (try dsimp only)
              rw [hgo k hk]
          · rw [if_neg h92]
            refine ⟨0, fun k hk => ?_⟩
            (try dsimp only)
            rw [if_neg hp, if_neg (fun e => h92 ((u8_92 b).1 e))]

/-- What Parse answers. -/
def parseL (l : List UInt8) : List Int × Int × Int :=
  if 65536 < l.length then ([], 2, 0) else match l with
  | [] => ([], 3, 0)
  | b :: t => if b = 34 then parsL t.length t [] 1 else ([], 3, 0)

theorem parse_ev (l : List UInt8) : Ev (fun k => escape_Parse.f k (ofL l)) (parseL l) := by
  unfold parseL
  by_cases hbig : 65536 < l.length
  · rw [if_pos hbig]
    refine ⟨0, fun k _ => ?_⟩
    (try dsimp only)
    unfold escape_Parse.f
    rw [if_pos (by rw [ofL_size]; omega)]
  · rw [if_neg hbig]
    match l, hbig with
    | [], _ =>
      refine ⟨1, fun k hk => ?_⟩
      (try dsimp only)
      obtain ⟨k, rfl⟩ : ∃ m, k = m + 1 := ⟨k - 1, by omega⟩
      unfold escape_Parse.f
      rw [if_neg (by rw [ofL_size]; simp), if_pos (ofL_toList [])]
      rfl
    | b :: t, hbig =>
      have hb0 : bt (ofL (b :: t)) 0 = (b.toNat : Int) := bt_ofL (b :: t) 0 (by simp)
      have hf : ∀ k, escape_Parse.f k (ofL (b :: t)) = escape_Parse.j0 k (ofL (b :: t)) [] 0 ((b.toNat : Int) == 34) := by
        intro k
        unfold escape_Parse.f
        rw [if_neg (by rw [ofL_size]; omega), if_neg (by rw [ofL_toList]; simp), if_pos (by rw [ofL_size]; first | (simp; done) | (simp; omega)), hb0]
      refine Ev.congr hf ?_
      by_cases h34 : b = 34
      · simp only [h34, if_true]
        refine Ev.step (f := fun k => escape_Parse.l0 k (ofL (34 :: t)) [] ((1 : Nat) : Int)) (fun k => ?_) ?_
        · simp only [escape_Parse.j0]
          rfl
        · have := pars_ev (34 :: t) (by rw [h34] at hbig; omega) t.length 1 [] (by simp) (by simp) (by simp)
          exact this
      · simp only [h34, if_false]
        refine ⟨1, fun k hk => ?_⟩
        (try dsimp only)
        obtain ⟨k, rfl⟩ : ∃ m, k = m + 1 := ⟨k - 1, by omega⟩
        have hne : ((b.toNat : Int) == 34) = false := beq_eq_false_iff_ne.2 (fun e => h34 ((u8_34 b).1 e))
        simp only [escape_Parse.j0, hne]
        rfl

end Go.Proofs.YtjjbjmmdljhjkaaDoor.Pr
