/- lines.each yields the lines of a text with their numbers. -/
import Derived.Test.YtljhhnpgpiglfaaDoorHEach
namespace Go.Proofs.YtljhhnpgpiglfaaDoor.Pr
open Go.RowKit Go.Shelf Go.Proofs.YtljhhnpgpiglfaaDoorW.PrintWords Go.Proofs.YtljhhnpgpiglfaaDoorW.PrintLast Go.Proofs.YtljhhnpgpiglfaaDoorW.PrintMore
set_option linter.unusedVariables false
set_option linter.unusedSimpArgs false

/-- A text cut at each byte c. -/
def cutAt (c : UInt8) : List UInt8 → List (List UInt8)
  | [] => [[]]
  | b :: t => if b = c then [] :: cutAt c t else match cutAt c t with
    | [] => [[b]]
    | p :: r => (b :: p) :: r
theorem cutAt_ne (c : UInt8) (l : List UInt8) : cutAt c l ≠ [] := by
  cases l with
  | nil => simp [cutAt]
  | cons b t =>
    unfold cutAt
    split
    · simp
    · split <;> simp
def numL : Nat → List (List UInt8) → List (Nat × List UInt8)
  | _, [] => []
  | n, p :: r => (n, p) :: numL (n + 1) r
theorem numL_length : ∀ (n : Nat) (ps : List (List UInt8)), (numL n ps).length = ps.length
  | _, [] => rfl
  | n, p :: r => by simp [numL, numL_length (n + 1) r]
theorem cutAt_len (c : UInt8) (l : List UInt8) : (cutAt c l).length ≤ l.length + 1 := by
  induction l with
  | nil => simp [cutAt]
  | cons b t ih =>
    unfold cutAt
    split
    · simp; exact ih
    · split
      · simp
      · next p r h => rw [h] at ih; simp at ih ⊢; omega

theorem cut_cases (c : UInt8) : ∀ l : List UInt8, (Lib.index l [c] = -1 ∧ cutAt c l = [l]) ∨ ∃ j : Nat, Lib.index l [c] = j ∧ j < l.length ∧ cutAt c l = l.take j :: cutAt c (l.drop (j + 1))
  | [] => Or.inl ⟨by simp [Lib.index], rfl⟩
  | b :: t => by
    by_cases h : b = c
    · subst h
      right
      refine ⟨0, by rw [Lib.index]; simp [List.isPrefixOf], by simp, by simp [cutAt]⟩
    · have hp : ([c] : List UInt8).isPrefixOf (b :: t) = false := by simp [List.isPrefixOf, Ne.symm h]
      have hix : Lib.index (b :: t) [c] = if Lib.index t [c] == -1 then -1 else Lib.index t [c] + 1 := by rw [Lib.index, hp]; simp
      rcases cut_cases c t with ⟨h1, h2⟩ | ⟨j, h1, h2, h3⟩
      · left
        refine ⟨by rw [hix, h1]; rfl, by rw [cutAt, if_neg h, h2]⟩
      · right
        refine ⟨j + 1, by rw [hix, h1, if_neg (by simp)]; omega, by simp; omega, ?_⟩
        rw [cutAt, if_neg h, h3]
        simp

theorem cut_one (c : UInt8) (l : List UInt8) : (Lib.cut l [c] = (l, [], false) ∧ cutAt c l = [l]) ∨ ∃ a b, Lib.cut l [c] = (a, b, true) ∧ (b.length < l.length ∧ a.length ≤ l.length) ∧ cutAt c l = a :: cutAt c b := by
  unfold Lib.cut
  rcases cut_cases c l with ⟨h1, h2⟩ | ⟨j, h1, h2, h3⟩
  · left
    rw [h1, if_neg (by decide)]
    exact ⟨rfl, h2⟩
  · right
    rw [h1, if_pos (by omega)]
    exact ⟨_, _, rfl, ⟨by simp; omega, by rw [List.length_take]; omega⟩, h3⟩

theorem grown_none {w w1 : World} (h : Below w.heap.size w w1) : w.grownBy w1 none := ⟨h.os, h.tape, h.output, h.size, fun i hi _ => h.block i hi⟩

theorem cut_call (l : List UInt8) (c : UInt8) (h : l.length ≤ 65536) : strings_Cut.f (⟨l.toArray⟩ : ByteArray) (⟨#[c]⟩ : ByteArray) = some (⟨(Lib.cut l [c]).1.toArray⟩, ⟨(Lib.cut l [c]).2.1.toArray⟩, (Lib.cut l [c]).2.2) := by
  unfold strings_Cut.f
  have hs : (⟨l.toArray⟩ : ByteArray).size = l.length := rfl
  have e1 : (⟨l.toArray⟩ : ByteArray).data.toList = l := by simp
  have e2 : (⟨#[c]⟩ : ByteArray).data.toList = [c] := rfl
  rw [if_pos (by rw [hs]; omega), e1, e2]

/-- The element at place k, and what comes behind it. -/
theorem drop_num {xs : List (Nat × List UInt8)} {k n : Nat} {p : List UInt8} {r : List (List UInt8)} (h : numL n (p :: r) = xs.drop k) : k < xs.length ∧ xs.take (k + 1) = xs.take k ++ [(n, p)] ∧ numL (n + 1) r = xs.drop (k + 1) := by
  have hlt : k < xs.length := by
    have := congrArg List.length h
    simp [numL] at this
    omega
  rw [List.drop_eq_getElem_cons hlt] at h
  simp only [numL, List.cons.injEq] at h
  exact ⟨hlt, by rw [List.take_succ_eq_append_getElem hlt, ← h.1], h.2⟩

set_option maxRecDepth 100000 in
set_option maxHeartbeats 8000000 in
theorem each_in (n l g n₀ : Nat) (hn : 1 ≤ n) (s : List UInt8) (hs : s.length ≤ 65536) (w0 : World) (hG : GW w0) (hG0 : 0 < n₀) (hng : n₀ ≤ g) (J Jx : List (Nat × List UInt8) → World → Prop) (W : World)
    (hbox : Boxed W g 9 (.string ⟨s.toArray⟩)) (hb0 : Below n₀ w0 W) (hn₀ : n₀ ≤ W.heap.size) (hJ : Blind g J)
    (hY : ∀ pre x W1, (x.2.length ≤ 65536 ∧ x.1 ≤ 65537) → J pre W1 → pre.length < (numL 1 (cutAt 10 s)).length → YieldAt Fence.wide (n - 1) Tryd.prog l #[.int .i64 (x.1 : Int), .string ⟨x.2.toArray⟩] W1 fun e W' =>
      (e = .returned (.bool true) ∧ J (pre ++ [x]) W' ∧ KeepBox n₀ g W1 W') ∨ (e = .returned (.bool false) ∧ Jx (pre ++ [x]) W'))
    (h0 : J [] W) :
    CallsIn Fence.wide n Tryd.prog 40 #[.func (.yield l) #[] #[], .pointer (some ⟨g, 0, none⟩)] W fun e W' => (∃ v, e = .returned v) ∧
      ((∃ ys, ys = numL 1 (cutAt 10 s) ∧ J ys W') ∨ (∃ pre, pre <+: numL 1 (cutAt 10 s) ∧ Jx pre W')) := by
  obtain ⟨xs, hxs⟩ : ∃ xs, numL 1 (cutAt 10 s) = xs := ⟨_, rfl⟩
  have hlen : xs.length ≤ 65537 := by rw [← hxs, numL_length]; have := cutAt_len 10 s; omega
  rw [hxs] at hY ⊢
  have HX := Lib.hid hxs
  clear hxs
  have HG := Lib.hid hG
  clear hG
  refine callsIn_of_wp Tryd.func40 rfl trivial ?_ rfl
  simp only [Tryd.ntmps40, List.size_toArray, List.length_cons, List.length_nil, Nat.reduceAdd, Nat.reduceSub, Array.replicate_succ, Array.replicate_zero, List.push_toArray, List.append_toArray, List.nil_append, List.cons_append]
  gi_wp2
  gi_loopw [3] (fun v wr => ∃ (k : Nat) (sk : List UInt8), v = .int .i64 ((k : Int) + 1) ∧ sk.length ≤ 65536 ∧ Hid (numL (k + 1) (cutAt 10 sk) = xs.drop k) ∧ J (xs.take k) wr ∧ Boxed wr g 9 (.string ⟨sk.toArray⟩) ∧ Below n₀ w0 wr ∧ n₀ ≤ wr.heap.size) (fun v _ => xs.length + 1 - (intOf v).toNat)
  case atStart => exact ⟨0, s, rfl, hs, Lib.hid (by rw [HX.out]; rfl), h0, hbox, hb0, hn₀⟩
  case round =>
    obtain ⟨k, sk, rfl, hsk, HN, hJs, hbx, hbl, hnz⟩ := hrel
    have hcut := cut_call sk 10 hsk
    have hGr : GW wr := by
      obtain ⟨m, hm⟩ := HG.out
      exact ⟨m, (hbl.cell (p := ⟨0, 0, none⟩) hG0).trans hm⟩
    have hcl := hbx.cell
    rcases cut_one 10 sk with ⟨hc1, hc2⟩ | ⟨a, b, hc1, hc3, hc2⟩
    · rw [hc1] at hcut
      have hN := HN.out
      rw [hc2] at hN
      obtain ⟨hlt, htk, hdr⟩ := drop_num hN
      have hk1 : k + 1 = xs.length := by
        have := congrArg List.length hdr
        simp [numL] at this
        omega
      have HT := Lib.hid htk
      have HK := Lib.hid hk1
      clear hc1 hc2 hN htk hdr hk1
      gi_wp2_with (refine ⟨trivial, ?_⟩; gi_at_call 22; refine (callsIn_wide.2 (strings_Cut.calls _ _ _ _ _ _ hcut hGr)).mono ?_)
      rintro e W1 rfl hb1
      have hJ1 : J (xs.take k) W1 := hJ _ wr W1 none hJs (grown_none hb1) (by simp)
      obtain ⟨fn, tmps, assign, body, hy, hR⟩ := hY (xs.take k) (k + 1, sk) W1 ⟨hsk, by show k + 1 ≤ 65537; omega⟩ hJ1 (by rw [List.length_take]; omega)
      dsimp only at hy
      rw [show ((k + 1 : Nat) : Int) = (k : Int) + 1 by omega] at hy
      gi_wp2
      refine hR.mono ?_
      rintro e W3 (⟨rfl, hJ3, hk3⟩ | ⟨rfl, hJx3⟩)
      · gi_wp2
        refine bodyPost_ret (results_none rfl _ _ _) rfl ?_
        exact ⟨⟨_, rfl⟩, .inl ⟨_, rfl, by rw [← HT.out, HK.out, List.take_length] at hJ3; exact hJ3⟩⟩
      · gi_wp2
        refine bodyPost_ret (results_none rfl _ _ _) rfl ?_
        exact ⟨⟨_, rfl⟩, .inr ⟨_, by rw [← HT.out]; exact List.take_prefix _ _, hJx3⟩⟩
    · rw [hc1] at hcut
      have hN := HN.out
      rw [hc2] at hN
      obtain ⟨hlt, htk, hdr⟩ := drop_num hN
      have HT := Lib.hid htk
      have HD := Lib.hid hdr
      clear hc1 hc2 hN htk hdr
      gi_wp2_with (refine ⟨trivial, ?_⟩; gi_at_call 22; refine (callsIn_wide.2 (strings_Cut.calls _ _ _ _ _ _ hcut hGr)).mono ?_)
      rintro e W1 rfl hb1
      have hJ1 : J (xs.take k) W1 := hJ _ wr W1 none hJs (grown_none hb1) (by simp)
      have hbx1 : Boxed W1 g 9 (.string ⟨sk.toArray⟩) := (hb1.block g hbx.lt).trans hbx
      have hbl1 : Below n₀ w0 W1 := hbl.trans (hb1.mono hnz)
      obtain ⟨fn, tmps, assign, body, hy, hR⟩ := hY (xs.take k) (k + 1, a) W1 ⟨Nat.le_trans hc3.2 hsk, by show k + 1 ≤ 65537; omega⟩ hJ1 (by rw [List.length_take]; omega)
      dsimp only at hy
      rw [show ((k + 1 : Nat) : Int) = (k : Int) + 1 by omega] at hy
      gi_wp2
      refine hR.mono ?_
      rintro e W3 (⟨rfl, hJ3, hk3⟩ | ⟨rfl, hJx3⟩)
      · have hbx3 : Boxed W3 g 9 (.string ⟨sk.toArray⟩) := hk3.2.trans hbx1
        have hcl3 := hbx3.cell
        have hfz3 := hbx3.frozen
        gi_wp2
        go_roundw
        case rel =>
          refine ⟨k + 1, b, ?_, by omega, HD, ?_, hbx3.set _, ?_, ?_⟩
          · first | rfl | (simp; done) | (simp [wrap64]; omega)
          · rw [HT.out]; exact hJ _ W3 _ (some g) hJ3 (grownBy_setCell' W3 g _) (by rintro r e; cases e; rfl)
          · exact (hbl1.trans hk3.1).grown (grownBy_setCell' W3 g _) (by have := hk3.1.size; have := hb1.size; omega) (fun j e => by cases e; exact hng)
          · simp; have := hk3.1.size; have := hb1.size; omega
        case measure => simp [intOf]; omega
      · gi_wp2
        refine bodyPost_ret (results_none rfl _ _ _) rfl ?_
        exact ⟨⟨_, rfl⟩, .inr ⟨_, by rw [← HT.out]; exact List.take_prefix _ _, hJx3⟩⟩

end Go.Proofs.YtljhhnpgpiglfaaDoor.Pr
