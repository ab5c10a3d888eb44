/- The contract of escape.Text: it returns the literal of a text whose elements are all code points, and the error ErrRange for another text. -/
import Derived.RangeFuncBox
import Derived.RangeFuncNested
import Derived.RangeFuncBound
import Derived.RangeFuncCalls
import Derived.RangeFuncLeaves
import Derived.Shelf.Abstract
import Derived.WalkKit
import Derived.OwnWalkIn
import Derived.TacticsInMore
import Derived.LoopNIn
import Derived.LoopIn
import Derived.Lib.Hide
import Derived.Test.YtjjbjmmdljhjkaaDoorHShelf
import Derived.Test.YtjjbjmmdljhjkaaDoorHHex
import Derived.Test.YtjjbjmmdljhjkaaDoorHBuild
import Derived.Test.YtjjbjmmdljhjkaaDoorPrx2
import Derived.Test.YtjjbjmmdljhjkaaDoorPrx2
namespace Go.Proofs.YtjjbjmmdljhjkaaDoor.Pr
open Go.RowKit Go.Shelf Go.Proofs.YtjjbjmmdljhjkaaDoorW.PrintWords Go.Proofs.YtjjbjmmdljhjkaaDoorW.PrintLast Go.Proofs.YtjjbjmmdljhjkaaDoorW.PrintMore
set_option linter.unusedVariables false
set_option linter.unusedSimpArgs false

/-! ### the pieces -/
def shortL (c : Int) : List UInt8 := if Lib.trimLeftB (hexOf c).data.toList 48 = [] then [48] else Lib.trimLeftB (hexOf c).data.toList 48
def plainB (c : Int) : Bool := decide (32 ≤ c) && decide (c ≤ 126) && !(c == 34) && !(c == 92)
def pieceL (c : Int) : List UInt8 :=
  if plainB c then [UInt8.ofNat c.toNat] else if c = 34 ∨ c = 92 then [92, UInt8.ofNat c.toNat] else [92, 117, 123] ++ shortL c ++ [125]
def validB (c : Int) : Bool := decide (0 ≤ c ∧ c ≤ 1114111)
def textL (xs : List Int) : List UInt8 := [34] ++ xs.flatMap pieceL ++ [34]
def escape_Text.f (xs : List Int) : Option (ByteArray × Int) := if xs.length ≤ 1000000 then some (if xs.all validB then (⟨(textL xs).toArray⟩, 0) else (⟨#[]⟩, 1)) else none

set_option maxHeartbeats 1000000 in
theorem short_calls (c : Int) (w : World) :
    Calls Tryd.prog 41 #[.int .i64 c] w fun e w' => e = .returned (.string ⟨(shortL c).toArray⟩) ∧ Below w.heap.size w w' := by
  go_enter Tryd.func41, Tryd.ntmps41
  go_wp2_with fail
  refine (codepoint_Hex.calls c (hexOf c) _ rfl).mono ?_
  rintro e w1 ⟨rfl, hb⟩
  go_wp2_with fail
  refine (Tryd.strings_TrimLeft_one (hexOf c) 48 (by decide) _).mono ?_
  rintro e w2 ⟨rfl, hw⟩
  subst hw
  by_cases h0 : Lib.trimLeftB (hexOf c).data.toList 48 = []
  · have e0 : shortL c = [48] := by unfold shortL; rw [if_pos h0]
    have E0 := Lib.hid e0
    clear e0
    rw [h0]
    go_wp2
    go_ret
    exact ⟨by rw [E0.out]; rfl, hb⟩
  · have e0 : shortL c = Lib.trimLeftB (hexOf c).data.toList 48 := by unfold shortL; rw [if_neg h0]
    have E0 := Lib.hid e0
    clear e0
    obtain ⟨l, hl⟩ : ∃ l, Lib.trimLeftB (hexOf c).data.toList 48 = l := ⟨_, rfl⟩
    rw [hl] at h0 E0 ⊢
    clear hl
    cases l with
    | nil => exact absurd rfl h0
    | cons a r =>
      go_wp2
      go_ret
      exact ⟨by rw [E0.out]; rfl, hb⟩

/-! ### the iterator -/
attribute [local go_sem] Oper.semAt_some

theorem grown_none {w w1 : World} (h : Below w.heap.size w w1) : w.grownBy w1 none := ⟨h.os, h.tape, h.output, h.size, fun i hi _ => h.block i hi⟩

theorem valid_of (xs : List Int) (h : xs.all validB = true) (k : Nat) (hk : k < xs.length) : 0 ≤ xs[k]?.getD 0 ∧ xs[k]?.getD 0 ≤ 1114111 := by
  have := List.all_eq_true.1 h (xs[k]) (List.getElem_mem hk)
  rw [List.getElem?_eq_getElem hk]
  exact of_decide_eq_true this

theorem hexOf_len (c : Int) : (hexOf c).data.toList.length ≤ 6 := by
  unfold hexOf
  split
  · have := (hexLen_le c.toNat).2
    simp [strOfNums, hexNums]
    exact this
  · simp
theorem dropWhile_len {α : Type} (p : α → Bool) (l : List α) : (l.dropWhile p).length ≤ l.length := (List.dropWhile_suffix p).length_le
theorem short_len (c : Int) : (shortL c).length ≤ 6 := by
  unfold shortL
  split
  · simp
  · exact Nat.le_trans (dropWhile_len _ _) (hexOf_len c)
theorem piece_len (c : Int) : (pieceL c).length ≤ 10 := by
  have := short_len c
  unfold pieceL
  split
  · simp
  · split
    · simp
    · simp
      omega

/-- What the walk computes of an element, in three cases. -/
theorem piece_plain (c : Int) (h : plainB c = true) : pieceL c = [UInt8.ofNat c.toNat] := by unfold pieceL; rw [if_pos h]
theorem piece_quote (c : Int) (h : plainB c = false) (hq : c = 34 ∨ c = 92) : pieceL c = [92, UInt8.ofNat c.toNat] := by unfold pieceL; rw [if_neg (by simp [h]), if_pos hq]
theorem piece_else (c : Int) (h : plainB c = false) (hq : ¬ (c = 34 ∨ c = 92)) : pieceL c = [92, 117, 123] ++ shortL c ++ [125] := by unfold pieceL; rw [if_neg (by simp [h]), if_neg hq]

theorem plain_f (c : Int) : escape_plain.f c = some (plainB c) := by
  unfold escape_plain.f plainB
  by_cases h1 : 32 ≤ c <;> by_cases h2 : c ≤ 126 <;> by_cases h3 : c = 34 <;> simp [h1, h2, h3, bne]
theorem add_block (ad : Addr) (k : Nat) : (ad.add k).block = ad.block := by unfold Addr.add; split <;> rfl

theorem take_snoc (xs : List Int) (k : Nat) (h : k < xs.length) : xs.take (k + 1) = xs.take k ++ [xs[k]?.getD 0] := by
  rw [List.take_succ_eq_append_getElem h, List.getElem?_eq_getElem h]; rfl
theorem join3 (a b c : List UInt8) : (⟨(a ++ b ++ c).toArray⟩ : ByteArray) = ⟨a.toArray⟩ ++ ⟨b.toArray⟩ ++ ⟨c.toArray⟩ := by
  apply ByteArray.ext
  simp
theorem encode_ascii (c : Int) (h0 : 0 ≤ c) (h1 : c < 128) : Utf8.encode c = ⟨#[UInt8.ofNat c.toNat]⟩ := by
  have hv : Utf8.valid c = true := by unfold Utf8.valid; simp; omega
  have hn : c.toNat < 128 := by omega
  unfold Utf8.encode
  simp only [hv, if_true]
  rw [if_pos hn]
theorem plainB_bd (c : Int) (h : plainB c = true) : 32 ≤ c ∧ c ≤ 126 := by
  unfold plainB at h
  simp at h
  omega

set_option maxRecDepth 100000 in
set_option maxHeartbeats 8000000 in
theorem pieces1_in (n l Bs n₀ : Nat) (hn : 1 ≤ n) (A : Option Addr) (cp : Nat) (xs : List Int) (hlen : xs.length ≤ 1000000) (hv : xs.all validB = true) (J Jx : List Int → World → Prop) (W : World) (hJ : AbidesFrom W.heap.size J)
    (hY : ∀ pre x W1, J pre W1 → pre.length < xs.length → YieldAt Fence.wide (n - 1) Tryd.prog l #[.string ⟨(pieceL x).toArray⟩] W1 fun e W' =>
      (e = .returned (.bool true) ∧ J (pre ++ [x]) W' ∧ Below n₀ W1 W') ∨ (e = .returned (.bool false) ∧ Jx (pre ++ [x]) W'))
    (hBs : W.cell? ⟨Bs, 0, none⟩ = some (.slice A xs.length cp)) (hn₀ : n₀ ≤ W.heap.size)
    (hC : ∀ k, k < xs.length → ∃ ad, A = some ad ∧ ad.block < n₀ ∧ W.cell? (ad.add k) = some (.int .i64 (xs[k]?.getD 0))) (h0 : J [] W) :
    CallsIn Fence.wide n Tryd.prog 40 #[.func (.yield l) #[] #[], .pointer (some ⟨Bs, 0, none⟩)] W fun e W' => (∃ v, e = .returned v) ∧
      ((∃ ys, ys = xs ∧ J ys W') ∨ (∃ pre, pre <+: xs ∧ Jx pre W')) := by
  have HC := Lib.hid hC
  have HV := Lib.hid hv
  clear hC hv
  refine callsIn_of_wp Tryd.func40 rfl trivial ?_ rfl
  simp only [Tryd.ntmps40, List.size_toArray, List.length_cons, List.length_nil, Nat.reduceAdd, Nat.reduceSub, Array.replicate_succ, Array.replicate_zero, List.push_toArray, List.append_toArray, List.nil_append, List.cons_append]
  gi_wp2
  gi_loopw [8] (fun i wr => ∃ k : Nat, k ≤ xs.length ∧ i = .int .i64 k ∧ J (xs.take k) wr ∧ Below n₀ W wr) (fun i _ => xs.length - (intOf i).toNat)
  case atStart => exact ⟨0, Nat.zero_le _, rfl, h0, Below.refl _ _⟩
  case round =>
    obtain ⟨k, hk, rfl, hJs, hnx⟩ := hrel
    by_cases hlt : k < xs.length
    · obtain ⟨ad, rfl, hadb, hcell⟩ := HC.out k hlt
      obtain ⟨hv0, hv1⟩ := valid_of xs HV.out k hlt
      have hcx : wr.cell? (ad.add k) = some (.int .i64 (xs[k]?.getD 0)) := (hnx.cell (by rw [add_block]; exact hadb)).trans hcell
      obtain ⟨c, hc⟩ : ∃ c, xs[k]?.getD 0 = c := ⟨_, rfl⟩
      rw [hc] at hv0 hv1 hcx
      have HCC := Lib.hid hc
      clear hc hcell
      have hsl := short_len c
      gi_wp2_with (refine ⟨trivial, ?_⟩; gi_at_call 41; refine (callsIn_wide.2 (short_calls _ _)).mono ?_)
      rintro e W1 ⟨rfl, hb1⟩
      have hJ1 : J (xs.take k) W1 := hJ _ wr W1 none hJs (grown_none hb1) (by simp)
      have hw1 : Below n₀ wr W1 := hb1.mono (Nat.le_trans hn₀ hnx.size)
      clear hcx hb1
      by_cases hp : plainB c = true
      · have hpl := (plain_f c).trans (congrArg some hp)
        have hb := plainB_bd c hp
        obtain ⟨hb32, hb126⟩ := hb
        have hpe := Lib.hid (show (⟨(pieceL c).toArray⟩ : ByteArray) = Utf8.encode c by rw [piece_plain c hp, encode_ascii c (by omega) (by omega)])
        clear hp
        gi_wp2_with (refine ⟨trivial, ?_⟩; gi_at_call 34; refine (callsIn_wide.2 (escape_plain.calls _ true _ hpl)).mono ?_)
        rintro e W2 ⟨rfl, hd2⟩
        have hJ2 : J (xs.take k) W2 := hJ _ W1 W2 none hJ1 (grown_none hd2.below) (by simp)
        have hw2 : Below n₀ W1 W2 := hd2.below.mono (Nat.le_trans hn₀ (Nat.le_trans hnx.size hw1.size))
        clear hd2
        obtain ⟨fn, tmps, assign, body, hy, hR⟩ := hY (xs.take k) c W2 hJ2 (by rw [List.length_take]; omega)
        rw [hpe.out] at hy
        gi_wp2
        refine hR.mono ?_
        rintro e W3 (⟨rfl, hJ3, hk3⟩ | ⟨rfl, hJx3⟩)
        · gi_wp2
          go_roundw
          case rel => exact ⟨k + 1, by omega, by simp, by rw [take_snoc xs k hlt, HCC.out]; exact hJ3, hnx.trans (hw1.trans (hw2.trans hk3))⟩
          case measure => simp [intOf]; omega
        · gi_wp2
          refine bodyPost_ret (results_none rfl _ _ _) rfl ?_
          exact ⟨⟨_, rfl⟩, .inr ⟨_, by rw [← HCC.out, ← take_snoc xs k hlt]; exact List.take_prefix _ _, hJx3⟩⟩
      · have hp' : plainB c = false := by simpa using hp
        have hpl := (plain_f c).trans (congrArg some hp')
        by_cases hq : c = 34 ∨ c = 92
        · have hpe := Lib.hid (show (⟨(pieceL c).toArray⟩ : ByteArray) = ⟨#[92]⟩ ++ Utf8.encode c by rw [piece_quote c hp' hq, encode_ascii c (by omega) (by omega)]; rfl)
          have he := encode_ascii c (by omega) (by omega)
          have hes : (Utf8.encode c).size = 1 := by rw [he]; rfl
          clear hp hp' he
          gi_wp2_with (refine ⟨trivial, ?_⟩; gi_at_call 34; refine (callsIn_wide.2 (escape_plain.calls _ false _ hpl)).mono ?_)
          rintro e W2 ⟨rfl, hd2⟩
          have hJ2 : J (xs.take k) W2 := hJ _ W1 W2 none hJ1 (grown_none hd2.below) (by simp)
          have hw2 : Below n₀ W1 W2 := hd2.below.mono (Nat.le_trans hn₀ (Nat.le_trans hnx.size hw1.size))
          clear hd2
          have hqb : (c == 34) = true ∨ (c == 34) = false ∧ (c == 92) = true := by
            rcases hq with rfl | rfl
            · exact .inl rfl
            · exact .inr ⟨rfl, rfl⟩
          clear hq
          rcases hqb with hq1 | ⟨hq1, hq2⟩
          · obtain ⟨fn, tmps, assign, body, hy, hR⟩ := hY (xs.take k) c W2 hJ2 (by rw [List.length_take]; omega)
            rw [hpe.out] at hy
            gi_wp2
            refine hR.mono ?_
            rintro e W3 (⟨rfl, hJ3, hk3⟩ | ⟨rfl, hJx3⟩)
            · gi_wp2
              go_roundw
              case rel => exact ⟨k + 1, by omega, by simp, by rw [take_snoc xs k hlt, HCC.out]; exact hJ3, hnx.trans (hw1.trans (hw2.trans hk3))⟩
              case measure => simp [intOf]; omega
            · gi_wp2
              refine bodyPost_ret (results_none rfl _ _ _) rfl ?_
              exact ⟨⟨_, rfl⟩, .inr ⟨_, by rw [← HCC.out, ← take_snoc xs k hlt]; exact List.take_prefix _ _, hJx3⟩⟩
          · obtain ⟨fn, tmps, assign, body, hy, hR⟩ := hY (xs.take k) c W2 hJ2 (by rw [List.length_take]; omega)
            rw [hpe.out] at hy
            gi_wp2
            refine hR.mono ?_
            rintro e W3 (⟨rfl, hJ3, hk3⟩ | ⟨rfl, hJx3⟩)
            · gi_wp2
              go_roundw
              case rel => exact ⟨k + 1, by omega, by simp, by rw [take_snoc xs k hlt, HCC.out]; exact hJ3, hnx.trans (hw1.trans (hw2.trans hk3))⟩
              case measure => simp [intOf]; omega
            · gi_wp2
              refine bodyPost_ret (results_none rfl _ _ _) rfl ?_
              exact ⟨⟨_, rfl⟩, .inr ⟨_, by rw [← HCC.out, ← take_snoc xs k hlt]; exact List.take_prefix _ _, hJx3⟩⟩
        · have hpe := Lib.hid (show (⟨(pieceL c).toArray⟩ : ByteArray) = ⟨#[92, 117, 123]⟩ ++ ⟨(shortL c).toArray⟩ ++ ⟨#[125]⟩ by rw [piece_else c hp' hq]; exact join3 _ _ _)
          have hq1 : (c == 34) = false := by simp; omega
          have hq2 : (c == 92) = false := by simp; omega
          clear hp hp' hq
          gi_wp2_with (refine ⟨trivial, ?_⟩; gi_at_call 34; refine (callsIn_wide.2 (escape_plain.calls _ false _ hpl)).mono ?_)
          rintro e W2 ⟨rfl, hd2⟩
          have hJ2 : J (xs.take k) W2 := hJ _ W1 W2 none hJ1 (grown_none hd2.below) (by simp)
          have hw2 : Below n₀ W1 W2 := hd2.below.mono (Nat.le_trans hn₀ (Nat.le_trans hnx.size hw1.size))
          clear hd2
          obtain ⟨fn, tmps, assign, body, hy, hR⟩ := hY (xs.take k) c W2 hJ2 (by rw [List.length_take]; omega)
          rw [hpe.out] at hy
          gi_wp2
          refine hR.mono ?_
          rintro e W3 (⟨rfl, hJ3, hk3⟩ | ⟨rfl, hJx3⟩)
          · gi_wp2
            go_roundw
            case rel => exact ⟨k + 1, by omega, by simp, by rw [take_snoc xs k hlt, HCC.out]; exact hJ3, hnx.trans (hw1.trans (hw2.trans hk3))⟩
            case measure => simp [intOf]; omega
          · gi_wp2
            refine bodyPost_ret (results_none rfl _ _ _) rfl ?_
            exact ⟨⟨_, rfl⟩, .inr ⟨_, by rw [← HCC.out, ← take_snoc xs k hlt]; exact List.take_prefix _ _, hJx3⟩⟩
    · obtain rfl : k = xs.length := by omega
      gi_wp2
      go_end0
      exact ⟨⟨_, rfl⟩, .inl ⟨_, rfl, by rw [List.take_length] at hJs; exact hJs⟩⟩

theorem keepsOthers {B b : Nat} {bs : List Value} {w w' : World} (h : Bd.Is B b bs w) (hk : Lib.OthersKept 5 (some b) w w') (hb : Below B w w') : KeepsOthers w w' := by
  refine ⟨hb.size, fun k o ho hc => hk k o ho ?_ ?_⟩
  · rintro e
    obtain rfl : k = b := by simpa using e
    have hh : ∃ p v, w.heap[k]? = some (.cells #[p, v] 43 (0, 0)) := by
      rcases h with ⟨_, v, h, _⟩ | ⟨_, v, h, _⟩
      · exact ⟨_, v, h⟩
      · exact ⟨_, v, h⟩
    obtain ⟨p, v, h⟩ := hh
    rw [h] at ho; cases ho; cases hc
  · rintro c fz rfl; cases hc

theorem pieces_stops (n Bs n₀ : Nat) (hn : 1 ≤ n) (A : Option Addr) (cp : Nat) (xs : List Int) (hlen : xs.length ≤ 1000000) (hv : xs.all validB = true) (w : World) (hBs0 : Bs < w.heap.size) (hn₀ : n₀ ≤ w.heap.size)
    (hBs : w.cell? ⟨Bs, 0, none⟩ = some (.slice A xs.length cp))
    (hC : ∀ k, k < xs.length → ∃ ad, A = some ad ∧ ad.block < n₀ ∧ w.cell? (ad.add k) = some (.int .i64 (xs[k]?.getD 0))) :
    SeqStopsK Fence.wide n Tryd.prog 40 #[.pointer (some ⟨Bs, 0, none⟩)] (fun x : Int => #[Value.string ⟨(pieceL x).toArray⟩]) (Below n₀) (fun ys => ys = xs) (fun pre => pre <+: xs) xs.length w :=
  fun l J Jx W hW hJ _ hY h0 =>
    pieces1_in n l Bs n₀ hn A cp xs hlen hv J Jx W hJ hY ((hW.cell (p := ⟨Bs, 0, none⟩) hBs0).trans hBs) (Nat.le_trans hn₀ hW.size)
      (fun k hk => by
        obtain ⟨ad, e, hb, hc⟩ := hC k hk
        exact ⟨ad, e, hb, (hW.cell (by rw [add_block]; omega)).trans hc⟩) h0

set_option maxHeartbeats 1000000 in
theorem pieces_calls (A : Option Addr) (len cp : Nat) (w : World) :
    Calls Tryd.prog 24 #[.slice A len cp] w fun e w' => e = .returned (.func (.func 40) #[] #[.pointer (some ⟨w.heap.size, 0, none⟩)]) ∧ w' = w.alloc (.cells #[.slice A len cp] 22) := by
  go_enter Tryd.func24, Tryd.ntmps24
  go_wp2
  go_ret
  exact ⟨rfl, rfl⟩

theorem valid_f (xs : List Int) (hlen : xs.length ≤ 1000000) : escape_valid.f (xs.length + 1) xs = some (xs.all validB) := by
  have step : ∀ (d : Nat) (i k : Nat), i + d = xs.length → d < k → escape_valid.l0 k xs (xs.length : Int) (i : Int) = some ((xs.drop i).all validB) := by
    intro d
    induction d with
    | zero =>
      intro i k hi hk
      obtain ⟨k, rfl⟩ : ∃ m, k = m + 1 := ⟨k - 1, by omega⟩
      simp only [escape_valid.l0]
      rw [if_neg (by omega), List.drop_of_length_le (by omega)]
      rfl
    | succ d ih =>
      intro i k hi hk
      obtain ⟨k, rfl⟩ : ∃ m, k = m + 1 := ⟨k - 1, by omega⟩
      have hlt : i < xs.length := by omega
      have hr : rd xs (i : Int) = xs[i] := by simp [rd, hlt]
      have hf : codepoint_Valid.f xs[i] = some (validB xs[i]) := by
        unfold codepoint_Valid.f validB
        by_cases h0 : xs[i] ≥ 0
        · rw [if_pos h0]; congr 1; simp [h0]
        · rw [if_neg h0]; congr 1; simp; omega
      have hd : xs.drop i = xs[i] :: xs.drop (i + 1) := List.drop_eq_getElem_cons hlt
      simp only [escape_valid.l0]
      rw [if_pos (by omega), if_pos (by omega), if_pos (by omega), hr, hf, hd, List.all_cons]
      simp only [Option.bind_some]
      cases hb : validB xs[i] with
      | true =>
        rw [if_pos rfl, show wrap64 ((i : Int) + 1) = ((i + 1 : Nat) : Int) by unfold wrap64; omega, ih (i + 1) k (by omega) (by omega)]
        simp
      | false => rw [if_neg (by decide)]; simp
  unfold escape_valid.f
  have := step xs.length 0 (xs.length + 1) (by omega) (by omega)
  simpa using this

theorem pieces_len (pre : List Int) : (pre.flatMap pieceL).length ≤ 10 * pre.length := by
  induction pre with
  | nil => simp
  | cons x xs ih =>
    have := piece_len x
    simp only [List.flatMap_cons, List.length_append, List.length_cons]
    omega
theorem text_size (l : List UInt8) : (⟨l.toArray⟩ : ByteArray).size = l.length := rfl
theorem text_more (pre : List Int) (x : Int) {B b : Nat} {W : World} (h : Bd.Is B b (Lib.byteCells ([34] ++ pre.flatMap pieceL) ++ Lib.strCells ⟨(pieceL x).toArray⟩) W) : Bd.Is B b (Lib.byteCells ([34] ++ (pre ++ [x]).flatMap pieceL)) W := by
  have e : Lib.byteCells ([34] ++ (pre ++ [x]).flatMap pieceL) = Lib.byteCells ([34] ++ pre.flatMap pieceL) ++ Lib.strCells ⟨(pieceL x).toArray⟩ := by
    rw [show Lib.strCells ⟨(pieceL x).toArray⟩ = Lib.byteCells (pieceL x) from rfl, ← Lib.byteCells_append, List.flatMap_append]
    simp
  rw [e]; exact h
theorem text_cells {w w1 W : World} {A : Option Addr} {xs : List Int} (h : Kd.C (Kd.int .i64) w A xs.length xs) (hb1 : Below w.heap.size w w1) (hB : Below w1.heap.size w1 W) :
    ∀ k, k < xs.length → ∃ ad, A = some ad ∧ ad.block < w1.heap.size ∧ W.cell? (ad.add k) = some (.int .i64 (xs[k]?.getD 0)) := by
  intro k hk
  obtain ⟨ad, e, hc⟩ := Kd.at_int h (k : Int) (by omega) (by omega)
  rw [Int.toNat_natCast] at hc
  have hlt := World.block_lt_of_cell? w _ hc
  rw [add_block] at hlt
  have hz := hb1.size
  have hr : rd xs (k : Int) = xs[k]?.getD 0 := by simp [rd]
  refine ⟨ad, e, by omega, ?_⟩
  rw [← hr]
  exact (hB.cell (by rw [add_block]; omega)).trans ((hb1.cell (by rw [add_block]; exact hlt)).trans hc)

set_option maxRecDepth 100000 in
set_option maxHeartbeats 4000000 in
theorem escape_Text.calls (A0 : Option Addr) (c0 : Nat) (l0 : List Int) (r1 : ByteArray) (r2 : Int) (w : World) (hr0 : Kd.C (Kd.int .i64) w A0 l0.length l0) (hc0 : l0.length ≤ c0) (h : escape_Text.f l0 = some (r1, r2)) :
    Calls Tryd.prog 13 #[.slice A0 l0.length c0] w fun e w' => e = .returned (.tuple #[.string r1, .int .i64 r2]) ∧ Below w.heap.size w w' := by
  unfold escape_Text.f at h
  by_cases hlen : l0.length ≤ 1000000
  · rw [if_pos hlen] at h
    have hV := valid_f l0 hlen
    by_cases hv : l0.all validB = true
    · rw [if_pos hv] at h
      rw [hv] at hV
      simp only [Option.some.injEq, Prod.mk.injEq] at h
      obtain ⟨h1, h2⟩ := h
      have H1 := Lib.hid h1
      have H2 := Lib.hid h2
      clear h1 h2
      have HR := Lib.hid hr0
      have HV := Lib.hid hv
      clear hr0 hv
      refine (callsIn_wide (n := 3)).1 ?_
      refine callsIn_of_wp_marks Tryd.func13 rfl trivial ?_ rfl
      simp only [Tryd.ntmps13, List.size_toArray, List.length_cons, List.length_nil, Nat.reduceAdd, Nat.reduceSub, Array.replicate_succ, Array.replicate_zero, List.push_toArray, List.append_toArray, List.nil_append, List.cons_append]
      gi_wp2_with (refine ⟨trivial, ?_⟩; gi_at_call 22; refine (callsIn_wide.2 (escape_valid.calls _ A0 c0 l0 true _ HR.out hc0 hV)).mono ?_)
      rintro e w1 ⟨rfl, hd1⟩
      have hb1 := hd1.below
      clear hd1 hV
      gi_wp2_with (refine ⟨trivial, ?_⟩; gi_at_call 23; refine (callsIn_wide.2 (Bd.WriteByte w1.heap.size w1.heap.size [] 34 _ (Bd.fresh w1) (by simp) (by simp))).mono ?_)
      rintro e w2 ⟨rfl, hI2, hb2, hk2⟩
      gi_wp2_with (refine ⟨trivial, ?_⟩; gi_at_call 24; refine (callsIn_wide.2 (pieces_calls A0 l0.length c0 _)).mono ?_)
      rintro e w3 ⟨rfl, hw3⟩
      subst hw3
      gi_wp2
      have hB0 : Below w1.heap.size w1 (w2.alloc (.cells #[.slice A0 l0.length c0] 22)) := (((Below.refl _ w1).alloc (Nat.le_refl _) _).trans hb2).alloc (by have := hb2.size; simp at this; omega) _
      have hz2 : w1.heap.size + 1 ≤ w2.heap.size := by have := hb2.size; simpa using this
      refine wpIn_rangeFunc_ownF rfl (by omega) (gf := 40) (lb := #[.pointer (some ⟨w2.heap.size, 0, none⟩)]) rfl trivial (enters_of Tryd.func40 (by kernel_rfl) rfl)
        (pieces_stops 2 w2.heap.size w1.heap.size (by omega) A0 c0 l0 hlen HV.out _ (by simp) (by simp; omega) (Lib.cell_of_heap (heap_alloc_new w2 (.cells #[.slice A0 l0.length c0] 22)) 0) (text_cells HR.out hb1 hB0)) belowK_t (belowK_b (by simp; omega)) (Below.refl _ _) (fun _ => rfl)
        (fun pre W => Bd.Is w1.heap.size w1.heap.size (Lib.byteCells ([34] ++ pre.flatMap pieceL)) W ∧ Below w1.heap.size w1 W)
        (fun _ _ _ => False)
        (OwnFrom.and (fun s X Y row hs hg hr => Bd.kept hs hg (fun r e => (hr r e).2)) (ownFrom_below (Nat.le_refl _) (by simp; omega)))
        (fun _ _ _ _ _ hs _ _ => hs)
        ⟨Bd.kept (show Bd.Is _ _ (Lib.byteCells ([34] ++ List.flatMap pieceL [])) w2 from hI2) (World.grownBy_alloc w2 _ none) (by simp), hB0⟩
        (fun x => { tmps := #[.slice A0 l0.length c0, undef, .string ⟨#[]⟩, .int .i64 0, .pointer (some ⟨w1.heap.size, 0, none⟩), .string ⟨(pieceL x).toArray⟩, .slice A0 l0.length c0, .bool true, .bool false, .nilIface, .slice A0 l0.length c0, .func (.func 40) #[] #[.pointer (some ⟨w2.heap.size, 0, none⟩)], .string ⟨(pieceL x).toArray⟩, undef, undef, undef, undef], defers := [] }) ?assign ?body ?done ?stop
      case assign =>
        intro l x W K hK
        gi_wp2
        exact hK
      case body =>
        rintro l pre x W ⟨hI, hB⟩ hlt
        have hpl := pieces_len pre
        have hxl := piece_len x
        gi_wp2_with (refine ⟨trivial, ?_⟩; gi_at_call 25; refine (CallsIn.inRound l (callsIn_wide.2 (Bd.WriteString w1.heap.size w1.heap.size _ ⟨(pieceL x).toArray⟩ _ hI ?hln hB.size))).mono ?_)
        case hln => rw [Lib.byteCells_length, List.length_append, text_size]; simp only [List.length_singleton]; omega
        rintro e W' ⟨rfl, hI', hB', hk'⟩
        gi_wp2
        exact ⟨keepsOthers hI hk' hB', hB', ⟨text_more pre x hI', hB.trans hB'⟩⟩
      case done =>
        rintro D ys W hD rfl ⟨hI, hB⟩ hK
        have hpl := pieces_len ys
        have hDb : D ≠ w1.heap.size := by simp at hD; omega
        gi_wp2_with (refine ⟨trivial, ?_⟩; gi_at_call 23; refine (callsIn_wide.2 (Bd.WriteByte w1.heap.size w1.heap.size _ 34 _ hI ?hln hB.size)).mono ?_)
        case hln => rw [Lib.byteCells_length, List.length_append]; simp only [List.length_singleton]; omega
        rintro e W4 ⟨rfl, hI4, hB4, hk4⟩
        have hK4 : W4.heap[D]? = some (.deferred (some [])) := hk4 D _ hK (by simpa using hDb) (by rintro c fz h; cases h)
        have hI4' : Bd.Is w1.heap.size w1.heap.size (Lib.byteCells (textL ys)) W4 := by
          have e : Lib.byteCells (textL ys) = Lib.byteCells ([34] ++ ys.flatMap pieceL) ++ [.int .u8 34] := by unfold textL; rw [Lib.byteCells_append]; rfl
          rw [e]; exact hI4
        gi_wp2_with (refine ⟨trivial, ?_⟩; gi_at_call 26; refine (callsIn_wide.2 (Tryd.Builder_String_any_k w1.heap.size w1.heap.size (textL ys) _ hI4' (Nat.le_trans hB.size hB4.size))).mono ?_)
        rintro e W5 ⟨rfl, hI5, hB5, hk5⟩
        have hK5 : W5.heap[D]? = some (.deferred (some [])) := hk5 D _ hK4 (by simpa using hDb) (by rintro c fz h; cases h)
        gi_wp2
        refine ⟨by simp, .inl ⟨_, _, rfl, run_takeDeferred hK5, ?_⟩⟩
        exact ⟨_, results_tmp2 rfl _ _ _, by rw [← H1.out, ← H2.out]; rfl, hb1.trans ((hB.trans (hB4.trans (hB5.trans (belowK_b (w := w1) (Nat.le_refl _) W5 D _ _ (by simp at hD; omega) hK5 rfl rfl)))).mono hb1.size)⟩
      case stop =>
        rintro D c pre W _ _ h _
        exact h.elim
    · have hv' : l0.all validB = false := by simpa using hv
      rw [if_neg hv] at h
      rw [hv'] at hV
      simp only [Option.some.injEq, Prod.mk.injEq] at h
      obtain ⟨rfl, rfl⟩ := h
      clear hv hv'
      go_enter Tryd.func13, Tryd.ntmps13
      go_wp2_with (go_at_call 22; refine (escape_valid.calls _ A0 c0 l0 false _ hr0 hc0 hV).mono ?_)
      rintro e w1 ⟨rfl, hd1⟩
      have hb1 := hd1.below
      clear hd1
      go_wp2
      go_ret2
      exact ⟨rfl, hb1⟩
  · rw [if_neg hlen] at h; cases h

end Go.Proofs.YtjjbjmmdljhjkaaDoor.Pr
