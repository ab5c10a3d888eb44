/- Texts of the claim ElementReads, joined: HElText, HOne, Prx26, HName, HNum, EMod. -/
import Derived.Test.YtdaijpjjilmkkaaGreatDoorZElementReads29
import Derived.Test.YtdaijpjjilmkkaaGreatDoorZElementReads28
import Derived.Lib.Hide
import Derived.WalkMore
import Derived.Test.YtdaijpjjilmkkaaGreatDoorZElementReads23
import Derived.Test.YtdaijpjjilmkkaaGreatDoorZElementReads27
import Derived.Test.YtdaijpjjilmkkaaGreatDoorZElementReads22
import Derived.Lib.MapLaws
import Derived.Laws.RangeAny
import Derived.Lib.AppendIntMem
/- The contract of element.text: the text of elements, one behind the other. -/
namespace Go.Proofs.YtdaijpjjilmkkaaGreatDoor.Pr
open Go.RowKit Go.Shelf Go.Proofs.YtdaijpjjilmkkaaGreatDoorW.PrintWords Go.Proofs.YtdaijpjjilmkkaaGreatDoorW.PrintLast Go.Proofs.YtdaijpjjilmkkaaGreatDoorW.PrintMore
set_option linter.unusedVariables false
set_option linter.unusedSimpArgs false
def weightsT (a b c : Int) : List UInt8 := hexT a ++ 46 :: (hexT b ++ 46 :: hexT c)
theorem weightsT_len (a b c : Int) : (weightsT a b c).length ≤ 20 := by
  (have h0 := hexT_len a); (have h1 := hexT_len b); (have h2 := hexT_len c); (unfold weightsT); (simp); (omega)
theorem weights_f (a b c : Int) : element_weights.f 5 [a, b, c] = some (ofL (weightsT a b c)) := by
  have hj : strings_Join.f [hexOf a, hexOf b, hexOf c] (⟨#[46]⟩ : ByteArray) = some (ofL (weightsT a b c)) := by
    have e : Lib.join ([hexOf a, hexOf b, hexOf c].map (·.data.toList)) ((⟨#[46]⟩ : ByteArray)).data.toList = weightsT a b c := by
      (unfold weightsT hexT); (simp [Lib.join, Lib.joinTail])
    (unfold strings_Join.f); (rw [e, if_pos ⟨by simp, by have := weightsT_len a b c; omega⟩])
  (unfold element_weights.f); (simp only [element_weights.l0, codepoint_Hex.f, Option.bind_some]); (have w0 : wrap64 (0 + 1) = 1 := by unfold wrap64; omega); (have w1 : wrap64 (1 + 1) = 2 := by unfold wrap64; omega); (have w2 : wrap64 (2 + 1) = 3 := by unfold wrap64; omega); (have hl : (([a, b, c] : List Int).length : Int) = 3 := rfl); (rw [hl, w0, w1, w2, if_pos (by decide), if_pos (by decide), if_pos (by decide), if_pos (by simp), if_pos (by decide), if_pos (by decide), if_pos (by decide), if_pos (by simp), if_pos (by decide), if_pos (by decide), if_pos (by decide), if_pos (by simp), if_neg (by decide)]); (rw [show ([] ++ [hexOf (rd [a, b, c] 0)] ++ [hexOf (rd [a, b, c] 1)] ++ [hexOf (rd [a, b, c] 2)] : List ByteArray) = [hexOf a, hexOf b, hexOf c] from rfl, hj, Option.bind_some])
def element_text.f (l0 : List S44) : Option ByteArray := if l0.length ≤ 1000000 then some (ofL (l0.flatMap elT)) else none
theorem elT_le (x : S44) : (elT x).length ≤ 24 := by
  (have h0 := hexT_len x.f0); (have h1 := hexT_len x.f1); (have h2 := hexT_len x.f2); (unfold elT); (simp); (omega)
theorem elsT_len : ∀ l : List S44, (l.flatMap elT).length ≤ 24 * l.length
  | [] => by simp
  | x :: r => by
    (have ih := elsT_len r); (have := elT_le x); (rw [List.flatMap_cons, List.length_append, List.length_cons]); (omega)
theorem grown_of {w w1 : World} (h : Below w.heap.size w w1) : w.grownBy w1 none := ⟨h.os, h.tape, h.output, h.size, fun i hi _ => h.block i hi⟩
theorem cells_more {B b : Nat} {W : World} (a c d : List UInt8) (s : ByteArray) (hs : s.data.toList = c) (hd : a ++ c = d) (h : Bd.Is B b (Lib.byteCells a ++ Lib.strCells s) W) : Bd.Is B b (Lib.byteCells d) W := by
  (subst hd); (rw [Lib.byteCells_append, ← hs]); (exact h)
theorem bcells_len (a : List UInt8) : (Lib.byteCells a).length = a.length := Lib.byteCells_length a
theorem rdE_at (xs : List S44) (i : Nat) (h : i < xs.length) : rd_T44 xs (i : Int) = xs[i] := by simp [rd_T44, h]
set_option maxRecDepth 100000 in
set_option maxHeartbeats 8000000 in
theorem element_text.calls (A0 : Option Addr) (c0 : Nat) (l0 : List S44) (r : ByteArray) (w : World) (hr0 : Kd.C k44 w A0 l0.length l0) (hc0 : l0.length ≤ c0) (h : element_text.f l0 = some r) :
    Calls Tryz.prog 24 #[.slice A0 l0.length c0] w fun e w' => e = .returned (.string r) ∧ Below w.heap.size w w' := by
  (unfold element_text.f at h); (by_cases hl : l0.length ≤ 1000000)
  case neg => rw [if_neg hl] at h; cases h
  (rw [if_pos hl] at h); (have HR := Aside0.mk hr0); (have H := Aside0.mk (Option.some.inj h)); (clear h hr0); (have hu33 := Tryz.underlying44); (go_enter Tryz.func24, Tryz.ntmps24); (go_wp2_with fail); (go_loopg [9] l0.length (fun g v wx => ∃ i : Nat, i ≤ l0.length ∧ v = .int .i64 (i : Int) ∧ i + g = l0.length ∧ Aside0 (Bd.Is w.heap.size w.heap.size (Lib.byteCells ((l0.take i).flatMap elT)) wx) ∧ Aside0 (Below w.heap.size w wx)))
  case atStart => exact ⟨0, by omega, rfl, by omega, ⟨Bd.fresh w⟩, ⟨below_alloc (Below.refl _ _) _⟩⟩
  case round =>
    obtain ⟨i, hile, rfl, hig, HI, HB⟩ := hrel
    cases gk with
    | zero =>
      (obtain rfl : i = l0.length := by omega); (rw [List.take_length] at HI); (go_wp2_with fail); (refine (Tryz.Builder_String_any_k w.heap.size w.heap.size (l0.flatMap elT) _ HI.out HB.out.size).mono ?_); (rintro e W9 ⟨rfl, hI9, hB9, hk9⟩); (go_wp2); (go_ret)
      exact ⟨by rw [← H.out]; rfl, HB.out.trans hB9⟩
    | succ g =>
      (have hi : i < l0.length := by omega); (obtain ⟨ad, rfl, hx0, hx1, hx2, hx3⟩ := at_T44 HR.out (i : Int) (by omega) (by omega)); (obtain ⟨x, hx⟩ : ∃ x, l0[i]'hi = x := ⟨_, rfl⟩); (rw [rdE_at l0 i hi, hx, Int.toNat_natCast] at hx0 hx1 hx2 hx3); (replace hx0 := (HB.out.cell (World.block_lt_of_cell? w _ hx0)).trans hx0); (replace hx1 := (HB.out.cell (World.block_lt_of_cell? w _ hx1)).trans hx1); (replace hx2 := (HB.out.cell (World.block_lt_of_cell? w _ hx2)).trans hx2); (replace hx3 := (HB.out.cell (World.block_lt_of_cell? w _ hx3)).trans hx3)
      have hbz : w.heap.size < wr.heap.size := by
        rcases HI.out with h | h
        · exact h.lt
        · exact h.lt
      obtain ⟨T, hT⟩ : ∃ T, (l0.take i).flatMap elT = T := ⟨_, rfl⟩
      have hTl : T.length ≤ 24000000 := by
        (rw [← hT]); (refine Nat.le_trans (elsT_len _) ?_); (rw [List.length_take]); (omega)
      rw [hT] at HI
      have HF : Aside0 (∀ N : List UInt8, N = elT x → T ++ N = (l0.take (i + 1)).flatMap elT) := ⟨fun N hN => by
        rw [List.take_succ_eq_append_getElem hi, List.flatMap_append, hT, hx, hN]
        simp⟩
      (clear hT hx); (have q0 : (0 ≤ (i : Int)) = True := eq_true (by omega)); (have q1 : ((i : Int) < (l0.length : Int)) = True := eq_true (by omega)); (have hwl := weightsT_len x.f0 x.f1 x.f2); (have hws : (ofL (weightsT x.f0 x.f1 x.f2)).size = (weightsT x.f0 x.f1 x.f2).length := rfl); (have hbig1 : (9223372036854775807 < 2 + (weightsT x.f0 x.f1 x.f2).length) = False := eq_false (by omega)); (have hbig2 : (9223372036854775807 < 2 + (weightsT x.f0 x.f1 x.f2).length + 1) = False := eq_false (by omega))
      cases hm : x.f3 with
      | true =>
        (rw [hm] at hx3); (go_wp2_with fail)
        have hC : Kd.C (Kd.int .i64) ((wr.alloc (.cells #[.int .i64 x.f0, .int .i64 x.f1, .int .i64 x.f2, .bool true] 44)).alloc (.cells #[.int .i64 x.f0, .int .i64 x.f1, .int .i64 x.f2] 3)) (some ⟨wr.heap.size + 1, 0, none⟩) ([x.f0, x.f1, x.f2] : List Int).length [x.f0, x.f1, x.f2] := by
          refine Kd.C_of_reads (d := 0) ⟨rfl, by simp, fun _ => ⟨⟨wr.heap.size + 1, 0, none⟩, rfl, fun j hj => ?_⟩⟩
          have hb : ((wr.alloc (.cells #[.int .i64 x.f0, .int .i64 x.f1, .int .i64 x.f2, .bool true] 44)).alloc (.cells #[.int .i64 x.f0, .int .i64 x.f1, .int .i64 x.f2] 3)).heap[wr.heap.size + 1]? = some (.cells #[.int .i64 x.f0, .int .i64 x.f1, .int .i64 x.f2] 3 (0, 0)) := by
            (have := heap_alloc_new (wr.alloc (.cells #[.int .i64 x.f0, .int .i64 x.f1, .int .i64 x.f2, .bool true] 44)) (.cells #[.int .i64 x.f0, .int .i64 x.f1, .int .i64 x.f2] 3)); (rw [World.size_alloc] at this); (exact this)
          match j, hj with
          | 0, _ => exact (blk_cell hb 0).trans rfl
          | 1, _ => exact (blk_cell hb 1).trans rfl
          | 2, _ => exact (blk_cell hb 2).trans rfl
          | n + 3, h => exact absurd h (by simp)
        (refine (element_weights.calls 5 _ 3 [x.f0, x.f1, x.f2] (ofL (weightsT x.f0 x.f1 x.f2)) _ hC (Nat.le_refl _) (weights_f _ _ _)).mono ?_); (rintro e W1 ⟨rfl, hb1⟩); (have hr1 : Below wr.heap.size wr W1 := (below_alloc (below_alloc (Below.refl _ _) _) _).trans (hb1.mono (by simp; omega))); (have hI1 : Bd.Is w.heap.size w.heap.size (Lib.byteCells T) W1 := Bd.kept HI.out (grown_of hr1) (by simp)); (have hB1 : Below w.heap.size w W1 := HB.out.trans (hr1.mono HB.out.size)); (clear hb1 hr1 hC hx0 hx1 hx2 hx3); (go_wp2_with fail)
        have hS : (⟨#[91]⟩ : ByteArray) ++ (⟨#[42]⟩ : ByteArray) ++ ofL (weightsT x.f0 x.f1 x.f2) ++ (⟨#[93]⟩ : ByteArray) = ofL (elT x) := by
          (rw [show (⟨#[91]⟩ : ByteArray) = ofL [91] from rfl, show (⟨#[42]⟩ : ByteArray) = ofL [42] from rfl, show (⟨#[93]⟩ : ByteArray) = ofL [93] from rfl, ofL_append, ofL_append, ofL_append]); (unfold elT weightsT); (rw [hm]); (simp)
        (rw [hS]); (refine (Bd.WriteString w.heap.size w.heap.size _ (ofL (elT x)) _ hI1 (by rw [bcells_len, ofL_size]; have := elT_le x; omega) hB1.size).mono ?_); (rintro e W2 ⟨rfl, hI2', hb2, hk2⟩); (have hI2 : Bd.Is w.heap.size w.heap.size (Lib.byteCells ((l0.take (i + 1)).flatMap elT)) W2 := cells_more _ (elT x) _ _ (ofL_list _) (HF.out _ rfl) hI2'); (have hB2 : Below w.heap.size w W2 := hB1.trans hb2); (clear hI2' hb2 hk2); (go_wp2_with fail); (go_roundg g)
        case measure => omega
        case rel => exact ⟨i + 1, by omega, by simp, by omega, ⟨hI2⟩, ⟨hB2⟩⟩
      | false =>
        (rw [hm] at hx3); (go_wp2_with fail)
        have hC : Kd.C (Kd.int .i64) ((wr.alloc (.cells #[.int .i64 x.f0, .int .i64 x.f1, .int .i64 x.f2, .bool false] 44)).alloc (.cells #[.int .i64 x.f0, .int .i64 x.f1, .int .i64 x.f2] 3)) (some ⟨wr.heap.size + 1, 0, none⟩) ([x.f0, x.f1, x.f2] : List Int).length [x.f0, x.f1, x.f2] := by
          refine Kd.C_of_reads (d := 0) ⟨rfl, by simp, fun _ => ⟨⟨wr.heap.size + 1, 0, none⟩, rfl, fun j hj => ?_⟩⟩
          have hb : ((wr.alloc (.cells #[.int .i64 x.f0, .int .i64 x.f1, .int .i64 x.f2, .bool false] 44)).alloc (.cells #[.int .i64 x.f0, .int .i64 x.f1, .int .i64 x.f2] 3)).heap[wr.heap.size + 1]? = some (.cells #[.int .i64 x.f0, .int .i64 x.f1, .int .i64 x.f2] 3 (0, 0)) := by
            (have := heap_alloc_new (wr.alloc (.cells #[.int .i64 x.f0, .int .i64 x.f1, .int .i64 x.f2, .bool false] 44)) (.cells #[.int .i64 x.f0, .int .i64 x.f1, .int .i64 x.f2] 3)); (rw [World.size_alloc] at this); (exact this)
          match j, hj with
          | 0, _ => exact (blk_cell hb 0).trans rfl
          | 1, _ => exact (blk_cell hb 1).trans rfl
          | 2, _ => exact (blk_cell hb 2).trans rfl
          | n + 3, h => exact absurd h (by simp)
        (refine (element_weights.calls 5 _ 3 [x.f0, x.f1, x.f2] (ofL (weightsT x.f0 x.f1 x.f2)) _ hC (Nat.le_refl _) (weights_f _ _ _)).mono ?_); (rintro e W1 ⟨rfl, hb1⟩); (have hr1 : Below wr.heap.size wr W1 := (below_alloc (below_alloc (Below.refl _ _) _) _).trans (hb1.mono (by simp; omega))); (have hI1 : Bd.Is w.heap.size w.heap.size (Lib.byteCells T) W1 := Bd.kept HI.out (grown_of hr1) (by simp)); (have hB1 : Below w.heap.size w W1 := HB.out.trans (hr1.mono HB.out.size)); (clear hb1 hr1 hC hx0 hx1 hx2 hx3); (go_wp2_with fail)
        have hS : (⟨#[91]⟩ : ByteArray) ++ (⟨#[46]⟩ : ByteArray) ++ ofL (weightsT x.f0 x.f1 x.f2) ++ (⟨#[93]⟩ : ByteArray) = ofL (elT x) := by
          (rw [show (⟨#[91]⟩ : ByteArray) = ofL [91] from rfl, show (⟨#[46]⟩ : ByteArray) = ofL [46] from rfl, show (⟨#[93]⟩ : ByteArray) = ofL [93] from rfl, ofL_append, ofL_append, ofL_append]); (unfold elT weightsT); (rw [hm]); (simp)
        (rw [hS]); (refine (Bd.WriteString w.heap.size w.heap.size _ (ofL (elT x)) _ hI1 (by rw [bcells_len, ofL_size]; have := elT_le x; omega) hB1.size).mono ?_); (rintro e W2 ⟨rfl, hI2', hb2, hk2⟩); (have hI2 : Bd.Is w.heap.size w.heap.size (Lib.byteCells ((l0.take (i + 1)).flatMap elT)) W2 := cells_more _ (elT x) _ _ (ofL_list _) (HF.out _ rfl) hI2'); (have hB2 : Below w.heap.size w W2 := hB1.trans hb2); (clear hI2' hb2 hk2); (go_wp2_with fail); (go_roundg g)
        case measure => omega
        case rel => exact ⟨i + 1, by omega, by simp, by omega, ⟨hI2⟩, ⟨hB2⟩⟩
end Go.Proofs.YtdaijpjjilmkkaaGreatDoor.Pr

/- The contract of element.one (a text of 17 bytes): the element that it spells, or how far it was read. -/
namespace Go.Proofs.YtdaijpjjilmkkaaGreatDoor.Pr
open Go.RowKit Go.Shelf Go.Proofs.YtdaijpjjilmkkaaGreatDoorW.PrintWords Go.Proofs.YtdaijpjjilmkkaaGreatDoorW.PrintLast Go.Proofs.YtdaijpjjilmkkaaGreatDoorW.PrintMore
set_option linter.unusedVariables false
set_option linter.unusedSimpArgs false
def oneQ (m : Bool) : Option Int → Option Int → Option Int → S44 × Bool
  | none, _, _ => (⟨0, 0, 0, m⟩, false)
  | some a, none, _ => (⟨a, 0, 0, m⟩, false)
  | some a, some b, none => (⟨a, b, 0, m⟩, false)
  | some a, some b, some c => (⟨a, b, c, m⟩, true)
def oneM (m : Bool) : List (List UInt8) → S44 × Bool
  | [p, q, r] => oneQ m (dig4 p) (dig4 q) (dig4 r)
  | _ => (⟨0, 0, 0, m⟩, false)
def oneP (t : List UInt8) : S44 × Bool :=
  if t.getD 0 0 = 91 ∧ (t.getD 1 0 = 42 ∨ t.getD 1 0 = 46) ∧ t.getD 16 0 = 93 then oneM (t.getD 1 0 == 42) (cutAt 46 ((t.drop 2).take 14)) else (⟨0, 0, 0, t.getD 1 0 == 42⟩, false)
theorem oneQ_ok (m : Bool) (dp dq dr : Option Int) : (dp.bind fun a => dq.bind fun b => dr.bind fun c => some (⟨a, b, c, m⟩ : S44)) = if (oneQ m dp dq dr).2 = true then some (oneQ m dp dq dr).1 else none := by
  cases dp <;> cases dq <;> cases dr <;> rfl
theorem oneP_ok (t : List UInt8) : oneE t = if (oneP t).2 = true then some (oneP t).1 else none := by
  (unfold oneE oneP); (by_cases hc : t.getD 0 0 = 91 ∧ (t.getD 1 0 = 42 ∨ t.getD 1 0 = 46) ∧ t.getD 16 0 = 93)
  · (rw [if_pos hc, if_pos hc]); (generalize cutAt 46 ((t.drop 2).take 14) = M)
    match M with
    | [] => rfl
    | [_] => rfl
    | [_, _] => rfl
    | [p, q, r] => exact oneQ_ok _ _ _ _
    | _ :: _ :: _ :: _ :: _ => rfl
  · rw [if_neg hc, if_neg hc]; rfl
def element_one.f (a0 : ByteArray) : Option (Int × Int × Int × Bool × Bool) :=
  if a0.size = 17 then some ((oneP a0.data.toList).1.f0, (oneP a0.data.toList).1.f1, (oneP a0.data.toList).1.f2, (oneP a0.data.toList).1.f3, (oneP a0.data.toList).2) else none
theorem results_one (tmps : Array Value) (w : World) (B : Nat) (x y z : Int) (m b : Bool) (h2 : tmps.getD 2 undef = .pointer (some ⟨B, 0, none⟩)) (h3 : tmps.getD 3 undef = .bool b)
    (hg : w.heap[B]? = some (.cells #[.int .i64 x, .int .i64 y, .int .i64 z, .bool m] 44 (0, 0))) :
    (results Tryz.f45 tmps).run Tryz.prog w = .ok (.tuple #[.agg #[.int .i64 x, .int .i64 y, .int .i64 z, .bool m], .bool b]) w := by
  (have hr : Tryz.f45.results = #[.cell 2 44, .tmp 3] := rfl); (have hl := run_loadVar_row (P := Tryz.prog) w B 44 44 #[.int .i64 x, .int .i64 y, .int .i64 z, .bool m] (0, 0) _ hg Tryz.underlying44 rfl (by kernel_rfl)); (have g2 : tmps[2]?.getD undef = .pointer (some ⟨B, 0, none⟩) := by simpa using h2); (have g3 : tmps[3]?.getD undef = .bool b := by simpa using h3); (simp [results, hr, g2, g3, asAddr, hl])
theorem one_end (w W : World) (a : Act) (x y z x0 y0 z0 : Int) (m b m0 : Bool) (hR : W.heap[w.heap.size]? = some (.cells #[.int .i64 x0, .int .i64 y0, .int .i64 z0, .bool m0] 44 (0, 0))) (hB : Below w.heap.size w W)
    (ha2 : a.tmps.getD 2 undef = .pointer (some ⟨w.heap.size, 0, none⟩)) (ha3 : a.tmps.getD 3 undef = .bool b) (hd : a.defers = []) (R : Ending → World → Prop)
    (hres : ∀ W', Below w.heap.size w W' → R (.returned (.tuple #[.agg #[.int .i64 x, .int .i64 y, .int .i64 z, .bool m], .bool b])) W') :
    bodyPost Tryz.prog Tryz.f45 R .ret a ((((W.setCell ⟨w.heap.size, 0, none⟩ (.int .i64 x)).setCell ⟨w.heap.size, 1, none⟩ (.int .i64 y)).setCell ⟨w.heap.size, 2, none⟩ (.int .i64 z)).setCell ⟨w.heap.size, 3, none⟩ (.bool m)) := by
  (have hg := blk_put (blk_put (blk_put (blk_put hR 0 (.int .i64 x) rfl) 1 (.int .i64 y) rfl) 2 (.int .i64 z) rfl) 3 (.bool m) rfl); (refine bodyPost_ret (results_one _ _ _ x y z m b ha2 ha3 hg) hd ?_); (exact hres _ (Below.setCell (Below.setCell (Below.setCell (Below.setCell hB (Nat.le_refl _) _) (Nat.le_refl _) _) (Nat.le_refl _) _) (Nat.le_refl _) _))
theorem bt_get (a0 : ByteArray) (i : Nat) (h : i < a0.size) : ((a0[i]'h).toNat : Int) = ((a0.data.toList.getD i 0).toNat : Int) := by
  (rw [List.getD_eq_getElem?_getD, Lib.data_getElem? a0 i h]); (rfl)
set_option maxRecDepth 100000 in
set_option maxHeartbeats 8000000 in
theorem element_one.calls (a0 : ByteArray) (r1 r2 r3 : Int) (r4 r5 : Bool) (w : World) (h : element_one.f a0 = some (r1, r2, r3, r4, r5)) (hG : GW w) :
    Calls Tryz.prog 45 #[.string a0] w fun e w' => e = .returned (.tuple #[.agg #[.int .i64 r1, .int .i64 r2, .int .i64 r3, .bool r4], .bool r5]) ∧ Below w.heap.size w w' := by
  (unfold element_one.f at h); (by_cases hsz : a0.size = 17)
  case neg => rw [if_neg hsz] at h; cases h
  (rw [if_pos hsz] at h); (have H := Aside0.mk (Option.some.inj h)); (have HG := Aside0.mk hG); (clear h hG); (have hu33 := Tryz.underlying44); (obtain ⟨t0, ht0⟩ : ∃ t0, a0.data.toList.getD 0 0 = t0 := ⟨_, rfl⟩); (obtain ⟨t1, ht1⟩ : ∃ t1, a0.data.toList.getD 1 0 = t1 := ⟨_, rfl⟩); (obtain ⟨t16, ht16⟩ : ∃ t16, a0.data.toList.getD 16 0 = t16 := ⟨_, rfl⟩); (have hx0 : ∀ h : 0 < a0.size, ((a0[0]'h).toNat : Int) = (t0.toNat : Int) := fun h => by rw [bt_get, ht0]); (have hx1 : ∀ h : 1 < a0.size, ((a0[1]'h).toNat : Int) = (t1.toNat : Int) := fun h => by rw [bt_get, ht1]); (have hx16 : ∀ h : 16 < a0.size, ((a0[16]'h).toNat : Int) = (t16.toNat : Int) := fun h => by rw [bt_get, ht16]); (have HT := Aside0.mk (And.intro ht0 (And.intro ht1 ht16))); (clear ht0 ht1 ht16)
  have hM : Aside0 (strings_Split.f (a0.extract 2 16) (⟨#[46]⟩ : ByteArray) = some ((cutAt 46 ((a0.data.toList.drop 2).take 14)).map ofL)) := ⟨by
    (have e : a0.extract 2 16 = ofL ((a0.data.toList.drop 2).take 14) := by rw [← ofL_eq (a0.extract 2 16), Lib.extract_data]); (rw [e])
    exact splitc_f 46 _ (by simp; omega)⟩
  (obtain ⟨M, hMM⟩ : ∃ M, cutAt 46 ((a0.data.toList.drop 2).take 14) = M := ⟨_, rfl⟩); (rw [hMM] at hM); (have HM := Aside0.mk hMM); (clear hMM); (obtain ⟨m, hm⟩ : ∃ m : Bool, ((t1.toNat : Int) == 42) = m := ⟨_, rfl⟩); (have hb17 : (a0.extract 2 16).size ≤ 9223372036854775807 := by simp; omega); (go_enter Tryz.func45, Tryz.ntmps45); (go_wp2_with fail); (refine (strings_Split.calls _ _ _ _ hM.out (GW.below HG.out (below_alloc (below_alloc (Below.refl _ _) _) _))).mono ?_); (rintro e W1 ⟨v, rfl, hR, hb1⟩); (obtain ⟨A1, c1, rfl⟩ := Kd.R_slice hR)
  have hE1 : W1.heap[w.heap.size + 1]? = some (.cells #[.int .i64 0, .int .i64 0, .int .i64 0, .bool m] 44 (0, 0)) := (hb1.block _ (by simp)).trans (by
    (have := heap_alloc_new (w.alloc (.cells #[.int .i64 0, .int .i64 0, .int .i64 0, .bool false] 44)) (.cells #[.int .i64 0, .int .i64 0, .int .i64 0, .bool m] 44)); (rw [World.size_alloc] at this)
    exact this)
  have hR1 : W1.heap[w.heap.size]? = some (.cells #[.int .i64 0, .int .i64 0, .int .i64 0, .bool false] 44 (0, 0)) := (hb1.block _ (by simp; omega)).trans (by
    rw [Lib.alloc_old _ _ _ (by simp)]
    exact heap_alloc_new _ _)
  (have hB1 : Below w.heap.size w W1 := (below_alloc (below_alloc (Below.refl _ _) _) _).trans (hb1.mono (by simp; omega))); (clear hb1); (have c0 := blk_cell hE1 0); (have c1' := blk_cell hE1 1); (have c2 := blk_cell hE1 2); (have c3 := blk_cell hE1 3); (have d0 := blk_cell hR1 0); (have d1 := blk_cell hR1 1); (have d2 := blk_cell hR1 2); (have d3 := blk_cell hR1 3); (have f0 := blk_frozen hR1 0); (have f1 := blk_frozen hR1 1); (have f2 := blk_frozen hR1 2); (have f3 := blk_frozen hR1 3); (have hlen : ((M.map ofL).length : Int) = (M.length : Int) := by rw [List.length_map])
  have hmt : (t1 == 42) = m := by
    (rw [← hm]); (by_cases e : t1 = 42)
    · rw [e]; rfl
    · rw [beq_eq_false_iff_ne.2 e, beq_eq_false_iff_ne.2 (fun e' => e (UInt8.toNat_inj.1 (by rw [show (42 : UInt8).toNat = 42 from rfl]; omega)))]
  (have HMT := Aside0.mk hmt); (clear hmt)
  have bad : Aside0 (¬ (t0 = 91 ∧ (t1 = 42 ∨ t1 = 46) ∧ t16 = 93) → oneP a0.data.toList = (⟨0, 0, 0, m⟩, false)) := ⟨fun hn => by
    unfold oneP
    rw [HT.out.1, HT.out.2.1, HT.out.2.2, if_neg hn, HMT.out]⟩
  have good : Aside0 (t0 = 91 ∧ (t1 = 42 ∨ t1 = 46) ∧ t16 = 93 → oneP a0.data.toList = oneM m M) := ⟨fun hn => by
    unfold oneP
    rw [HT.out.1, HT.out.2.1, HT.out.2.2, if_pos hn, HMT.out, HM.out]⟩
  by_cases h0 : t0 = 91
  · have n0 : ((t0.toNat : Int) != 91) = false := by rw [h0]; rfl
    have hcase : (m = true ∧ t1 = 42) ∨ (m = false ∧ t1 = 46 ∧ ((t1.toNat : Int) != 46) = false) ∨ (m = false ∧ t1 ≠ 42 ∧ t1 ≠ 46 ∧ ((t1.toNat : Int) != 46) = true) := by
      cases hmm : m with
      | true => left; rw [hmm] at HMT; exact ⟨rfl, beq_iff_eq.1 HMT.out⟩
      | false =>
        (right); (rw [hmm] at HMT); (by_cases e : t1 = 46)
        · left; exact ⟨rfl, e, by rw [e]; rfl⟩
        · right; exact ⟨rfl, beq_eq_false_iff_ne.1 HMT.out, e, bne_iff_ne.2 (fun e' => e (UInt8.toNat_inj.1 (by rw [show (46 : UInt8).toNat = 46 from rfl]; omega)))⟩
    rcases hcase with ⟨rfl, h1⟩ | ⟨rfl, h1, k46⟩ | ⟨rfl, h1, h1', k46⟩
    · (have k42 : ((t1.toNat : Int) != 42) = false := by rw [h1]; rfl); (by_cases h16 : t16 = 93)
      · (have n16 : ((t16.toNat : Int) != 93) = false := by rw [h16]; rfl); (have hgood := good.out ⟨h0, Or.inl h1, h16⟩); (by_cases h3 : M.length = 3)
        · obtain ⟨pp, pq, pr, rfl⟩ : ∃ pp pq pr, M = [pp, pq, pr] := by
            match M, h3 with
            | [a, b, c], _ => exact ⟨a, b, c, rfl⟩
          (have n3 : ((([pp, pq, pr] : List (List UInt8)).length : Int) != 3) = false := rfl); (have hgood' : Aside0 (oneP a0.data.toList = oneQ true (dig4 pp) (dig4 pq) (dig4 pr)) := ⟨hgood⟩); (have hC1 := Aside0.mk hR); (clear hgood); (go_wp2_with fail); (have hz1 := hB1.size); (have hz2 := blk_lt hE1)
          go_loopg [46] 3 (fun g v wx => ∃ x y z : Int, Aside0 (wx.heap[w.heap.size + 1]? = some (.cells #[.int .i64 x, .int .i64 y, .int .i64 z, .bool true] 44 (0, 0))) ∧ Aside0 (wx.heap[w.heap.size]? = some (.cells #[.int .i64 0, .int .i64 0, .int .i64 0, .bool false] 44 (0, 0))) ∧
            Aside0 (wx.heap[W1.heap.size]? = some (.cells #[.pointer (some ⟨w.heap.size + 1, 0, none⟩), .pointer (some ⟨w.heap.size + 1, 1, none⟩), .pointer (some ⟨w.heap.size + 1, 2, none⟩)] 109 (0, 0))) ∧
            Aside0 (Kd.R Kd.string 9 wx (((w.alloc (.cells #[.int .i64 0, .int .i64 0, .int .i64 0, .bool false] 44)).alloc (.cells #[.int .i64 0, .int .i64 0, .int .i64 0, .bool true] 44)).heap.size) (fun _ => True) (.slice A1 ([pp, pq, pr].map ofL).length c1) ([pp, pq, pr].map ofL)) ∧ Aside0 (Below w.heap.size w wx) ∧
            ((v = .int .i64 0 ∧ g = 3 ∧ x = 0 ∧ y = 0 ∧ z = 0) ∨ (v = .int .i64 1 ∧ g = 2 ∧ Aside0 (dig4 pp = some x) ∧ y = 0 ∧ z = 0) ∨ (v = .int .i64 2 ∧ g = 1 ∧ Aside0 (dig4 pp = some x) ∧ Aside0 (dig4 pq = some y) ∧ z = 0) ∨
              (v = .int .i64 3 ∧ g = 0 ∧ Aside0 (dig4 pp = some x) ∧ Aside0 (dig4 pq = some y) ∧ Aside0 (dig4 pr = some z))))
          case atStart =>
            refine ⟨0, 0, 0, ⟨?_⟩, ⟨?_⟩, ⟨?_⟩, ⟨Kd.R_alloc hC1.out _⟩, ⟨below_alloc hB1 _⟩, .inl ⟨rfl, rfl, rfl, rfl, rfl⟩⟩
            · exact (Lib.alloc_old _ _ _ (blk_lt hE1)).trans hE1
            · exact (Lib.alloc_old _ _ _ (blk_lt hR1)).trans hR1
            · exact heap_alloc_new _ _
          case round =>
            (obtain ⟨x, y, z, HE, HRR, HP, HC, HB, hst⟩ := hrel); (have e0 := blk_cell HE.out 0); (have e1 := blk_cell HE.out 1); (have e2 := blk_cell HE.out 2); (have e3 := blk_cell HE.out 3); (have g0 := blk_cell HRR.out 0); (have g1 := blk_cell HRR.out 1); (have g2 := blk_cell HRR.out 2); (have g3 := blk_cell HRR.out 3); (have k0 := blk_frozen HRR.out 0); (have k1 := blk_frozen HRR.out 1); (have k2 := blk_frozen HRR.out 2); (have k3 := blk_frozen HRR.out 3); (have p0 := blk_cell HP.out 0); (have p1 := blk_cell HP.out 1); (have p2 := blk_cell HP.out 2); (rcases hst with ⟨rfl, rfl, rfl, rfl, rfl⟩ | ⟨rfl, rfl, D0, rfl, rfl⟩ | ⟨rfl, rfl, D0, D1, rfl⟩ | ⟨rfl, rfl, D0, D1, D2⟩)
            · (obtain ⟨ad, rfl, hx⟩ := Kd.at_string (Kd.R_reads' HC.out).2.2 0 (by decide) (by simp)); (try rw [show (0 : Int).toNat = 0 from rfl] at hx); (try rw [Addr.add_zero'] at hx); (rw [show rdOf ByteArray.empty ([pp, pq, pr].map ofL) 0 = ofL pp from rfl] at hx); (obtain ⟨K, hK⟩ := prog_parse pp); (have hK' := hK K (Nat.le_refl _)); (dsimp only at hK'); (go_wp2_with fail); (refine (codepoint_Parse.calls K (ofL pp) (parseS pp).1 (parseS pp).2 _ hK').mono ?_); (rintro e W2 ⟨rfl, hd2⟩); (have hb2 : Below wr.heap.size wr W2 := hd2); (have HE2 := (hb2.block _ (blk_lt HE.out)).trans HE.out); (have HRR2 := (hb2.block _ (blk_lt HRR.out)).trans HRR.out); (have HP2 := (hb2.block _ (blk_lt HP.out)).trans HP.out); (have HC2 := Kd.R_below HC.out hb2); (have HB2 := HB.out.trans (hb2.mono HB.out.size)); (have hx2 := (hb2.cell (World.block_lt_of_cell? wr _ hx)).trans hx); (clear hd2 hb2 hx e0 e1 e2 e3 g0 g1 g2 g3 k0 k1 k2 k3 p0 p1 p2); (have e0 := blk_cell HE2 0); (have e1 := blk_cell HE2 1); (have e2 := blk_cell HE2 2); (have e3 := blk_cell HE2 3); (have u0 := blk_frozen HE2 0); (have u1 := blk_frozen HE2 1); (have u2 := blk_frozen HE2 2); (have g0 := blk_cell HRR2 0); (have g1 := blk_cell HRR2 1); (have g2 := blk_cell HRR2 2); (have g3 := blk_cell HRR2 3); (have k0 := blk_frozen HRR2 0); (have k1 := blk_frozen HRR2 1); (have k2 := blk_frozen HRR2 2); (have k3 := blk_frozen HRR2 3); (by_cases hE0 : (parseS pp).2 = 0)
              · (have hEb : ((parseS pp).2 != 0) = false := bne_eq_false_iff_eq.2 hE0); (by_cases h4 : pp.length = 4)
                · (have h4b : (((ofL pp).size : Int) != 4) = false := bne_eq_false_iff_eq.2 (by rw [ofL_size]; omega)); (have h4c : ((pp.length : Int) != 4) = false := bne_eq_false_iff_eq.2 (by omega)); (have hD : Aside0 (dig4 pp = some (parseS pp).1) := ⟨by unfold dig4; rw [if_pos ⟨h4, hE0⟩]⟩); (clear hE0 h4); (go_wp2_with fail); (go_roundg 2)
                  case measure => omega
                  case rel => exact ⟨(parseS pp).1, 0, 0, ⟨blk_put HE2 0 _ rfl⟩, ⟨blk_far HRR2 (by simp) _⟩, ⟨blk_far HP2 (by show W1.heap.size ≠ w.heap.size + 1; omega) _⟩, ⟨Kd.R_set HC2 HE2 (by decide) 0 _⟩, ⟨Below.setCell HB2 (by simp) _⟩, .inr (.inl ⟨rfl, rfl, hD, rfl, rfl⟩)⟩
                · (have h4b : (((ofL pp).size : Int) != 4) = true := bne_iff_ne.2 (by rw [ofL_size]; omega)); (have h4c : ((pp.length : Int) != 4) = true := bne_iff_ne.2 (by omega)); (have hD : dig4 pp = none := by unfold dig4; rw [if_neg (fun h => h4 h.1)]); (clear hE0 h4); (go_wp2_with fail); (refine one_end w _ _ 0 0 0 0 0 0 true false false HRR2 HB2 rfl rfl rfl _ (fun W' hW' => ⟨?_, hW'⟩)); (have hH := H.out); (rw [show oneP a0.data.toList = (⟨0, 0, 0, true⟩, false) by rw [hgood'.out]; rw [hD]; rfl] at hH); (simp only [Prod.mk.injEq] at hH); (obtain ⟨rfl, rfl, rfl, rfl, rfl⟩ := hH); (rfl)
              · (have hEb : ((parseS pp).2 != 0) = true := bne_iff_ne.2 hE0); (have hD : dig4 pp = none := by unfold dig4; rw [if_neg (fun h => hE0 h.2)]); (clear hE0); (go_wp2_with fail); (refine one_end w _ _ 0 0 0 0 0 0 true false false HRR2 HB2 rfl rfl rfl _ (fun W' hW' => ⟨?_, hW'⟩)); (have hH := H.out); (rw [show oneP a0.data.toList = (⟨0, 0, 0, true⟩, false) by rw [hgood'.out]; rw [hD]; rfl] at hH); (simp only [Prod.mk.injEq] at hH); (obtain ⟨rfl, rfl, rfl, rfl, rfl⟩ := hH); (rfl)
            · (obtain ⟨ad, rfl, hx⟩ := Kd.at_string (Kd.R_reads' HC.out).2.2 1 (by decide) (by simp)); (try rw [show (1 : Int).toNat = 1 from rfl] at hx); (try rw [Addr.add_zero'] at hx); (rw [show rdOf ByteArray.empty ([pp, pq, pr].map ofL) 1 = ofL pq from rfl] at hx); (have hxb : wr.cell? ⟨ad.block, ad.off + 1, none⟩ = some (.string (ofL pq)) := hx); (obtain ⟨K, hK⟩ := prog_parse pq); (have hK' := hK K (Nat.le_refl _)); (dsimp only at hK'); (go_wp2_with fail); (refine (codepoint_Parse.calls K (ofL pq) (parseS pq).1 (parseS pq).2 _ hK').mono ?_); (rintro e W2 ⟨rfl, hd2⟩); (have hb2 : Below wr.heap.size wr W2 := hd2); (have HE2 := (hb2.block _ (blk_lt HE.out)).trans HE.out); (have HRR2 := (hb2.block _ (blk_lt HRR.out)).trans HRR.out); (have HP2 := (hb2.block _ (blk_lt HP.out)).trans HP.out); (have HC2 := Kd.R_below HC.out hb2); (have HB2 := HB.out.trans (hb2.mono HB.out.size)); (have hx2 := (hb2.cell (World.block_lt_of_cell? wr _ hx)).trans hx); (have hxb2 : W2.cell? ⟨ad.block, ad.off + 1, none⟩ = some (.string (ofL pq)) := hx2); (clear hxb); (clear hd2 hb2 hx e0 e1 e2 e3 g0 g1 g2 g3 k0 k1 k2 k3 p0 p1 p2); (have e0 := blk_cell HE2 0); (have e1 := blk_cell HE2 1); (have e2 := blk_cell HE2 2); (have e3 := blk_cell HE2 3); (have u0 := blk_frozen HE2 0); (have u1 := blk_frozen HE2 1); (have u2 := blk_frozen HE2 2); (have g0 := blk_cell HRR2 0); (have g1 := blk_cell HRR2 1); (have g2 := blk_cell HRR2 2); (have g3 := blk_cell HRR2 3); (have k0 := blk_frozen HRR2 0); (have k1 := blk_frozen HRR2 1); (have k2 := blk_frozen HRR2 2); (have k3 := blk_frozen HRR2 3); (by_cases hE0 : (parseS pq).2 = 0)
              · (have hEb : ((parseS pq).2 != 0) = false := bne_eq_false_iff_eq.2 hE0); (by_cases h4 : pq.length = 4)
                · (have h4b : (((ofL pq).size : Int) != 4) = false := bne_eq_false_iff_eq.2 (by rw [ofL_size]; omega)); (have h4c : ((pq.length : Int) != 4) = false := bne_eq_false_iff_eq.2 (by omega)); (have hD : Aside0 (dig4 pq = some (parseS pq).1) := ⟨by unfold dig4; rw [if_pos ⟨h4, hE0⟩]⟩); (clear hE0 h4); (go_wp2_with fail); (go_roundg 1)
                  case measure => omega
                  case rel => exact ⟨x, (parseS pq).1, 0, ⟨blk_put HE2 1 _ rfl⟩, ⟨blk_far HRR2 (by simp) _⟩, ⟨blk_far HP2 (by show W1.heap.size ≠ w.heap.size + 1; omega) _⟩, ⟨Kd.R_set HC2 HE2 (by decide) 1 _⟩, ⟨Below.setCell HB2 (by simp) _⟩, .inr (.inr (.inl ⟨rfl, rfl, D0, hD, rfl⟩))⟩
                · (have h4b : (((ofL pq).size : Int) != 4) = true := bne_iff_ne.2 (by rw [ofL_size]; omega)); (have h4c : ((pq.length : Int) != 4) = true := bne_iff_ne.2 (by omega)); (have hD : dig4 pq = none := by unfold dig4; rw [if_neg (fun h => h4 h.1)]); (clear hE0 h4); (go_wp2_with fail); (refine one_end w _ _ x 0 0 0 0 0 true false false HRR2 HB2 rfl rfl rfl _ (fun W' hW' => ⟨?_, hW'⟩)); (have hH := H.out); (rw [show oneP a0.data.toList = (⟨x, 0, 0, true⟩, false) by rw [hgood'.out]; rw [D0.out]; rw [hD]; rfl] at hH); (simp only [Prod.mk.injEq] at hH); (obtain ⟨rfl, rfl, rfl, rfl, rfl⟩ := hH); (rfl)
              · (have hEb : ((parseS pq).2 != 0) = true := bne_iff_ne.2 hE0); (have hD : dig4 pq = none := by unfold dig4; rw [if_neg (fun h => hE0 h.2)]); (clear hE0); (go_wp2_with fail); (refine one_end w _ _ x 0 0 0 0 0 true false false HRR2 HB2 rfl rfl rfl _ (fun W' hW' => ⟨?_, hW'⟩)); (have hH := H.out); (rw [show oneP a0.data.toList = (⟨x, 0, 0, true⟩, false) by rw [hgood'.out]; rw [D0.out]; rw [hD]; rfl] at hH); (simp only [Prod.mk.injEq] at hH); (obtain ⟨rfl, rfl, rfl, rfl, rfl⟩ := hH); (rfl)
            · (obtain ⟨ad, rfl, hx⟩ := Kd.at_string (Kd.R_reads' HC.out).2.2 2 (by decide) (by simp)); (try rw [show (2 : Int).toNat = 2 from rfl] at hx); (try rw [Addr.add_zero'] at hx); (rw [show rdOf ByteArray.empty ([pp, pq, pr].map ofL) 2 = ofL pr from rfl] at hx); (have hxb : wr.cell? ⟨ad.block, ad.off + 2, none⟩ = some (.string (ofL pr)) := hx); (obtain ⟨K, hK⟩ := prog_parse pr); (have hK' := hK K (Nat.le_refl _)); (dsimp only at hK'); (go_wp2_with fail); (refine (codepoint_Parse.calls K (ofL pr) (parseS pr).1 (parseS pr).2 _ hK').mono ?_); (rintro e W2 ⟨rfl, hd2⟩); (have hb2 : Below wr.heap.size wr W2 := hd2); (have HE2 := (hb2.block _ (blk_lt HE.out)).trans HE.out); (have HRR2 := (hb2.block _ (blk_lt HRR.out)).trans HRR.out); (have HP2 := (hb2.block _ (blk_lt HP.out)).trans HP.out); (have HC2 := Kd.R_below HC.out hb2); (have HB2 := HB.out.trans (hb2.mono HB.out.size)); (have hx2 := (hb2.cell (World.block_lt_of_cell? wr _ hx)).trans hx); (have hxb2 : W2.cell? ⟨ad.block, ad.off + 2, none⟩ = some (.string (ofL pr)) := hx2); (clear hxb); (clear hd2 hb2 hx e0 e1 e2 e3 g0 g1 g2 g3 k0 k1 k2 k3 p0 p1 p2); (have e0 := blk_cell HE2 0); (have e1 := blk_cell HE2 1); (have e2 := blk_cell HE2 2); (have e3 := blk_cell HE2 3); (have u0 := blk_frozen HE2 0); (have u1 := blk_frozen HE2 1); (have u2 := blk_frozen HE2 2); (have g0 := blk_cell HRR2 0); (have g1 := blk_cell HRR2 1); (have g2 := blk_cell HRR2 2); (have g3 := blk_cell HRR2 3); (have k0 := blk_frozen HRR2 0); (have k1 := blk_frozen HRR2 1); (have k2 := blk_frozen HRR2 2); (have k3 := blk_frozen HRR2 3); (by_cases hE0 : (parseS pr).2 = 0)
              · (have hEb : ((parseS pr).2 != 0) = false := bne_eq_false_iff_eq.2 hE0); (by_cases h4 : pr.length = 4)
                · (have h4b : (((ofL pr).size : Int) != 4) = false := bne_eq_false_iff_eq.2 (by rw [ofL_size]; omega)); (have h4c : ((pr.length : Int) != 4) = false := bne_eq_false_iff_eq.2 (by omega)); (have hD : Aside0 (dig4 pr = some (parseS pr).1) := ⟨by unfold dig4; rw [if_pos ⟨h4, hE0⟩]⟩); (clear hE0 h4); (go_wp2_with fail); (go_roundg 0)
                  case measure => omega
                  case rel => exact ⟨x, y, (parseS pr).1, ⟨blk_put HE2 2 _ rfl⟩, ⟨blk_far HRR2 (by simp) _⟩, ⟨blk_far HP2 (by show W1.heap.size ≠ w.heap.size + 1; omega) _⟩, ⟨Kd.R_set HC2 HE2 (by decide) 2 _⟩, ⟨Below.setCell HB2 (by simp) _⟩, .inr (.inr (.inr ⟨rfl, rfl, D0, D1, hD⟩))⟩
                · (have h4b : (((ofL pr).size : Int) != 4) = true := bne_iff_ne.2 (by rw [ofL_size]; omega)); (have h4c : ((pr.length : Int) != 4) = true := bne_iff_ne.2 (by omega)); (have hD : dig4 pr = none := by unfold dig4; rw [if_neg (fun h => h4 h.1)]); (clear hE0 h4); (go_wp2_with fail); (refine one_end w _ _ x y 0 0 0 0 true false false HRR2 HB2 rfl rfl rfl _ (fun W' hW' => ⟨?_, hW'⟩)); (have hH := H.out); (rw [show oneP a0.data.toList = (⟨x, y, 0, true⟩, false) by rw [hgood'.out]; rw [D0.out, D1.out]; rw [hD]; rfl] at hH); (simp only [Prod.mk.injEq] at hH); (obtain ⟨rfl, rfl, rfl, rfl, rfl⟩ := hH); (rfl)
              · (have hEb : ((parseS pr).2 != 0) = true := bne_iff_ne.2 hE0); (have hD : dig4 pr = none := by unfold dig4; rw [if_neg (fun h => hE0 h.2)]); (clear hE0); (go_wp2_with fail); (refine one_end w _ _ x y 0 0 0 0 true false false HRR2 HB2 rfl rfl rfl _ (fun W' hW' => ⟨?_, hW'⟩)); (have hH := H.out); (rw [show oneP a0.data.toList = (⟨x, y, 0, true⟩, false) by rw [hgood'.out]; rw [D0.out, D1.out]; rw [hD]; rfl] at hH); (simp only [Prod.mk.injEq] at hH); (obtain ⟨rfl, rfl, rfl, rfl, rfl⟩ := hH); (rfl)
            · (go_wp2_with fail); (refine one_end w _ _ x y z 0 0 0 true true false HRR.out HB.out rfl rfl rfl _ (fun W' hW' => ⟨?_, hW'⟩)); (have hH := H.out); (rw [show oneP a0.data.toList = (⟨x, y, z, true⟩, true) by rw [hgood'.out, D0.out, D1.out, D2.out]; rfl] at hH); (simp only [Prod.mk.injEq] at hH); (obtain ⟨rfl, rfl, rfl, rfl, rfl⟩ := hH); (rfl)
        · (have n3 : ((M.length : Int) != 3) = true := bne_iff_ne.2 (by omega)); (go_wp2_with fail); (refine one_end w _ _ 0 0 0 0 0 0 true false false hR1 hB1 rfl rfl rfl _ (fun W' hW' => ⟨?_, hW'⟩)); (have hH := H.out); (rw [show oneP a0.data.toList = (⟨0, 0, 0, true⟩, false) by rw [hgood]; unfold oneM; split; exact absurd rfl h3; rfl] at hH); (simp only [Prod.mk.injEq] at hH); (obtain ⟨rfl, rfl, rfl, rfl, rfl⟩ := hH); (rfl)
      · (have n16 : ((t16.toNat : Int) != 93) = true := bne_iff_ne.2 (fun e => h16 (UInt8.toNat_inj.1 (by rw [show (93 : UInt8).toNat = 93 from rfl]; omega)))); (go_wp2_with fail); (refine one_end w _ _ 0 0 0 0 0 0 true false false hR1 hB1 rfl rfl rfl _ (fun W' hW' => ⟨?_, hW'⟩)); (have hH := H.out); (rw [show oneP a0.data.toList = (⟨0, 0, 0, true⟩, false) by exact bad.out (fun h => h16 h.2.2)] at hH); (simp only [Prod.mk.injEq] at hH); (obtain ⟨rfl, rfl, rfl, rfl, rfl⟩ := hH); (rfl)
    · (have k42 : ((t1.toNat : Int) != 42) = true := by rw [h1]; rfl); (by_cases h16 : t16 = 93)
      · (have n16 : ((t16.toNat : Int) != 93) = false := by rw [h16]; rfl); (have hgood := good.out ⟨h0, Or.inr h1, h16⟩); (by_cases h3 : M.length = 3)
        · obtain ⟨pp, pq, pr, rfl⟩ : ∃ pp pq pr, M = [pp, pq, pr] := by
            match M, h3 with
            | [a, b, c], _ => exact ⟨a, b, c, rfl⟩
          (have n3 : ((([pp, pq, pr] : List (List UInt8)).length : Int) != 3) = false := rfl); (have hgood' : Aside0 (oneP a0.data.toList = oneQ false (dig4 pp) (dig4 pq) (dig4 pr)) := ⟨hgood⟩); (have hC1 := Aside0.mk hR); (clear hgood); (go_wp2_with fail); (have hz1 := hB1.size); (have hz2 := blk_lt hE1)
          go_loopg [46] 3 (fun g v wx => ∃ x y z : Int, Aside0 (wx.heap[w.heap.size + 1]? = some (.cells #[.int .i64 x, .int .i64 y, .int .i64 z, .bool false] 44 (0, 0))) ∧ Aside0 (wx.heap[w.heap.size]? = some (.cells #[.int .i64 0, .int .i64 0, .int .i64 0, .bool false] 44 (0, 0))) ∧
            Aside0 (wx.heap[W1.heap.size]? = some (.cells #[.pointer (some ⟨w.heap.size + 1, 0, none⟩), .pointer (some ⟨w.heap.size + 1, 1, none⟩), .pointer (some ⟨w.heap.size + 1, 2, none⟩)] 109 (0, 0))) ∧
            Aside0 (Kd.R Kd.string 9 wx (((w.alloc (.cells #[.int .i64 0, .int .i64 0, .int .i64 0, .bool false] 44)).alloc (.cells #[.int .i64 0, .int .i64 0, .int .i64 0, .bool false] 44)).heap.size) (fun _ => True) (.slice A1 ([pp, pq, pr].map ofL).length c1) ([pp, pq, pr].map ofL)) ∧ Aside0 (Below w.heap.size w wx) ∧
            ((v = .int .i64 0 ∧ g = 3 ∧ x = 0 ∧ y = 0 ∧ z = 0) ∨ (v = .int .i64 1 ∧ g = 2 ∧ Aside0 (dig4 pp = some x) ∧ y = 0 ∧ z = 0) ∨ (v = .int .i64 2 ∧ g = 1 ∧ Aside0 (dig4 pp = some x) ∧ Aside0 (dig4 pq = some y) ∧ z = 0) ∨
              (v = .int .i64 3 ∧ g = 0 ∧ Aside0 (dig4 pp = some x) ∧ Aside0 (dig4 pq = some y) ∧ Aside0 (dig4 pr = some z))))
          case atStart =>
            refine ⟨0, 0, 0, ⟨?_⟩, ⟨?_⟩, ⟨?_⟩, ⟨Kd.R_alloc hC1.out _⟩, ⟨below_alloc hB1 _⟩, .inl ⟨rfl, rfl, rfl, rfl, rfl⟩⟩
            · exact (Lib.alloc_old _ _ _ (blk_lt hE1)).trans hE1
            · exact (Lib.alloc_old _ _ _ (blk_lt hR1)).trans hR1
            · exact heap_alloc_new _ _
          case round =>
            (obtain ⟨x, y, z, HE, HRR, HP, HC, HB, hst⟩ := hrel); (have e0 := blk_cell HE.out 0); (have e1 := blk_cell HE.out 1); (have e2 := blk_cell HE.out 2); (have e3 := blk_cell HE.out 3); (have g0 := blk_cell HRR.out 0); (have g1 := blk_cell HRR.out 1); (have g2 := blk_cell HRR.out 2); (have g3 := blk_cell HRR.out 3); (have k0 := blk_frozen HRR.out 0); (have k1 := blk_frozen HRR.out 1); (have k2 := blk_frozen HRR.out 2); (have k3 := blk_frozen HRR.out 3); (have p0 := blk_cell HP.out 0); (have p1 := blk_cell HP.out 1); (have p2 := blk_cell HP.out 2); (rcases hst with ⟨rfl, rfl, rfl, rfl, rfl⟩ | ⟨rfl, rfl, D0, rfl, rfl⟩ | ⟨rfl, rfl, D0, D1, rfl⟩ | ⟨rfl, rfl, D0, D1, D2⟩)
            · (obtain ⟨ad, rfl, hx⟩ := Kd.at_string (Kd.R_reads' HC.out).2.2 0 (by decide) (by simp)); (try rw [show (0 : Int).toNat = 0 from rfl] at hx); (try rw [Addr.add_zero'] at hx); (rw [show rdOf ByteArray.empty ([pp, pq, pr].map ofL) 0 = ofL pp from rfl] at hx); (obtain ⟨K, hK⟩ := prog_parse pp); (have hK' := hK K (Nat.le_refl _)); (dsimp only at hK'); (go_wp2_with fail); (refine (codepoint_Parse.calls K (ofL pp) (parseS pp).1 (parseS pp).2 _ hK').mono ?_); (rintro e W2 ⟨rfl, hd2⟩); (have hb2 : Below wr.heap.size wr W2 := hd2); (have HE2 := (hb2.block _ (blk_lt HE.out)).trans HE.out); (have HRR2 := (hb2.block _ (blk_lt HRR.out)).trans HRR.out); (have HP2 := (hb2.block _ (blk_lt HP.out)).trans HP.out); (have HC2 := Kd.R_below HC.out hb2); (have HB2 := HB.out.trans (hb2.mono HB.out.size)); (have hx2 := (hb2.cell (World.block_lt_of_cell? wr _ hx)).trans hx); (clear hd2 hb2 hx e0 e1 e2 e3 g0 g1 g2 g3 k0 k1 k2 k3 p0 p1 p2); (have e0 := blk_cell HE2 0); (have e1 := blk_cell HE2 1); (have e2 := blk_cell HE2 2); (have e3 := blk_cell HE2 3); (have u0 := blk_frozen HE2 0); (have u1 := blk_frozen HE2 1); (have u2 := blk_frozen HE2 2); (have g0 := blk_cell HRR2 0); (have g1 := blk_cell HRR2 1); (have g2 := blk_cell HRR2 2); (have g3 := blk_cell HRR2 3); (have k0 := blk_frozen HRR2 0); (have k1 := blk_frozen HRR2 1); (have k2 := blk_frozen HRR2 2); (have k3 := blk_frozen HRR2 3); (by_cases hE0 : (parseS pp).2 = 0)
              · (have hEb : ((parseS pp).2 != 0) = false := bne_eq_false_iff_eq.2 hE0); (by_cases h4 : pp.length = 4)
                · (have h4b : (((ofL pp).size : Int) != 4) = false := bne_eq_false_iff_eq.2 (by rw [ofL_size]; omega)); (have h4c : ((pp.length : Int) != 4) = false := bne_eq_false_iff_eq.2 (by omega)); (have hD : Aside0 (dig4 pp = some (parseS pp).1) := ⟨by unfold dig4; rw [if_pos ⟨h4, hE0⟩]⟩); (clear hE0 h4); (go_wp2_with fail); (go_roundg 2)
                  case measure => omega
                  case rel => exact ⟨(parseS pp).1, 0, 0, ⟨blk_put HE2 0 _ rfl⟩, ⟨blk_far HRR2 (by simp) _⟩, ⟨blk_far HP2 (by show W1.heap.size ≠ w.heap.size + 1; omega) _⟩, ⟨Kd.R_set HC2 HE2 (by decide) 0 _⟩, ⟨Below.setCell HB2 (by simp) _⟩, .inr (.inl ⟨rfl, rfl, hD, rfl, rfl⟩)⟩
                · (have h4b : (((ofL pp).size : Int) != 4) = true := bne_iff_ne.2 (by rw [ofL_size]; omega)); (have h4c : ((pp.length : Int) != 4) = true := bne_iff_ne.2 (by omega)); (have hD : dig4 pp = none := by unfold dig4; rw [if_neg (fun h => h4 h.1)]); (clear hE0 h4); (go_wp2_with fail); (refine one_end w _ _ 0 0 0 0 0 0 false false false HRR2 HB2 rfl rfl rfl _ (fun W' hW' => ⟨?_, hW'⟩)); (have hH := H.out); (rw [show oneP a0.data.toList = (⟨0, 0, 0, false⟩, false) by rw [hgood'.out]; rw [hD]; rfl] at hH); (simp only [Prod.mk.injEq] at hH); (obtain ⟨rfl, rfl, rfl, rfl, rfl⟩ := hH); (rfl)
              · (have hEb : ((parseS pp).2 != 0) = true := bne_iff_ne.2 hE0); (have hD : dig4 pp = none := by unfold dig4; rw [if_neg (fun h => hE0 h.2)]); (clear hE0); (go_wp2_with fail); (refine one_end w _ _ 0 0 0 0 0 0 false false false HRR2 HB2 rfl rfl rfl _ (fun W' hW' => ⟨?_, hW'⟩)); (have hH := H.out); (rw [show oneP a0.data.toList = (⟨0, 0, 0, false⟩, false) by rw [hgood'.out]; rw [hD]; rfl] at hH); (simp only [Prod.mk.injEq] at hH); (obtain ⟨rfl, rfl, rfl, rfl, rfl⟩ := hH); (rfl)
            · (obtain ⟨ad, rfl, hx⟩ := Kd.at_string (Kd.R_reads' HC.out).2.2 1 (by decide) (by simp)); (try rw [show (1 : Int).toNat = 1 from rfl] at hx); (try rw [Addr.add_zero'] at hx); (rw [show rdOf ByteArray.empty ([pp, pq, pr].map ofL) 1 = ofL pq from rfl] at hx); (have hxb : wr.cell? ⟨ad.block, ad.off + 1, none⟩ = some (.string (ofL pq)) := hx); (obtain ⟨K, hK⟩ := prog_parse pq); (have hK' := hK K (Nat.le_refl _)); (dsimp only at hK'); (go_wp2_with fail); (refine (codepoint_Parse.calls K (ofL pq) (parseS pq).1 (parseS pq).2 _ hK').mono ?_); (rintro e W2 ⟨rfl, hd2⟩); (have hb2 : Below wr.heap.size wr W2 := hd2); (have HE2 := (hb2.block _ (blk_lt HE.out)).trans HE.out); (have HRR2 := (hb2.block _ (blk_lt HRR.out)).trans HRR.out); (have HP2 := (hb2.block _ (blk_lt HP.out)).trans HP.out); (have HC2 := Kd.R_below HC.out hb2); (have HB2 := HB.out.trans (hb2.mono HB.out.size)); (have hx2 := (hb2.cell (World.block_lt_of_cell? wr _ hx)).trans hx); (have hxb2 : W2.cell? ⟨ad.block, ad.off + 1, none⟩ = some (.string (ofL pq)) := hx2); (clear hxb); (clear hd2 hb2 hx e0 e1 e2 e3 g0 g1 g2 g3 k0 k1 k2 k3 p0 p1 p2); (have e0 := blk_cell HE2 0); (have e1 := blk_cell HE2 1); (have e2 := blk_cell HE2 2); (have e3 := blk_cell HE2 3); (have u0 := blk_frozen HE2 0); (have u1 := blk_frozen HE2 1); (have u2 := blk_frozen HE2 2); (have g0 := blk_cell HRR2 0); (have g1 := blk_cell HRR2 1); (have g2 := blk_cell HRR2 2); (have g3 := blk_cell HRR2 3); (have k0 := blk_frozen HRR2 0); (have k1 := blk_frozen HRR2 1); (have k2 := blk_frozen HRR2 2); (have k3 := blk_frozen HRR2 3); (by_cases hE0 : (parseS pq).2 = 0)
              · (have hEb : ((parseS pq).2 != 0) = false := bne_eq_false_iff_eq.2 hE0); (by_cases h4 : pq.length = 4)
                · (have h4b : (((ofL pq).size : Int) != 4) = false := bne_eq_false_iff_eq.2 (by rw [ofL_size]; omega)); (have h4c : ((pq.length : Int) != 4) = false := bne_eq_false_iff_eq.2 (by omega)); (have hD : Aside0 (dig4 pq = some (parseS pq).1) := ⟨by unfold dig4; rw [if_pos ⟨h4, hE0⟩]⟩); (clear hE0 h4); (go_wp2_with fail); (go_roundg 1)
                  case measure => omega
                  case rel => exact ⟨x, (parseS pq).1, 0, ⟨blk_put HE2 1 _ rfl⟩, ⟨blk_far HRR2 (by simp) _⟩, ⟨blk_far HP2 (by show W1.heap.size ≠ w.heap.size + 1; omega) _⟩, ⟨Kd.R_set HC2 HE2 (by decide) 1 _⟩, ⟨Below.setCell HB2 (by simp) _⟩, .inr (.inr (.inl ⟨rfl, rfl, D0, hD, rfl⟩))⟩
                · (have h4b : (((ofL pq).size : Int) != 4) = true := bne_iff_ne.2 (by rw [ofL_size]; omega)); (have h4c : ((pq.length : Int) != 4) = true := bne_iff_ne.2 (by omega)); (have hD : dig4 pq = none := by unfold dig4; rw [if_neg (fun h => h4 h.1)]); (clear hE0 h4); (go_wp2_with fail); (refine one_end w _ _ x 0 0 0 0 0 false false false HRR2 HB2 rfl rfl rfl _ (fun W' hW' => ⟨?_, hW'⟩)); (have hH := H.out); (rw [show oneP a0.data.toList = (⟨x, 0, 0, false⟩, false) by rw [hgood'.out]; rw [D0.out]; rw [hD]; rfl] at hH); (simp only [Prod.mk.injEq] at hH); (obtain ⟨rfl, rfl, rfl, rfl, rfl⟩ := hH); (rfl)
              · (have hEb : ((parseS pq).2 != 0) = true := bne_iff_ne.2 hE0); (have hD : dig4 pq = none := by unfold dig4; rw [if_neg (fun h => hE0 h.2)]); (clear hE0); (go_wp2_with fail); (refine one_end w _ _ x 0 0 0 0 0 false false false HRR2 HB2 rfl rfl rfl _ (fun W' hW' => ⟨?_, hW'⟩)); (have hH := H.out); (rw [show oneP a0.data.toList = (⟨x, 0, 0, false⟩, false) by rw [hgood'.out]; rw [D0.out]; rw [hD]; rfl] at hH); (simp only [Prod.mk.injEq] at hH); (obtain ⟨rfl, rfl, rfl, rfl, rfl⟩ := hH); (rfl)
            · (obtain ⟨ad, rfl, hx⟩ := Kd.at_string (Kd.R_reads' HC.out).2.2 2 (by decide) (by simp)); (try rw [show (2 : Int).toNat = 2 from rfl] at hx); (try rw [Addr.add_zero'] at hx); (rw [show rdOf ByteArray.empty ([pp, pq, pr].map ofL) 2 = ofL pr from rfl] at hx); (have hxb : wr.cell? ⟨ad.block, ad.off + 2, none⟩ = some (.string (ofL pr)) := hx); (obtain ⟨K, hK⟩ := prog_parse pr); (have hK' := hK K (Nat.le_refl _)); (dsimp only at hK'); (go_wp2_with fail); (refine (codepoint_Parse.calls K (ofL pr) (parseS pr).1 (parseS pr).2 _ hK').mono ?_); (rintro e W2 ⟨rfl, hd2⟩); (have hb2 : Below wr.heap.size wr W2 := hd2); (have HE2 := (hb2.block _ (blk_lt HE.out)).trans HE.out); (have HRR2 := (hb2.block _ (blk_lt HRR.out)).trans HRR.out); (have HP2 := (hb2.block _ (blk_lt HP.out)).trans HP.out); (have HC2 := Kd.R_below HC.out hb2); (have HB2 := HB.out.trans (hb2.mono HB.out.size)); (have hx2 := (hb2.cell (World.block_lt_of_cell? wr _ hx)).trans hx); (have hxb2 : W2.cell? ⟨ad.block, ad.off + 2, none⟩ = some (.string (ofL pr)) := hx2); (clear hxb); (clear hd2 hb2 hx e0 e1 e2 e3 g0 g1 g2 g3 k0 k1 k2 k3 p0 p1 p2); (have e0 := blk_cell HE2 0); (have e1 := blk_cell HE2 1); (have e2 := blk_cell HE2 2); (have e3 := blk_cell HE2 3); (have u0 := blk_frozen HE2 0); (have u1 := blk_frozen HE2 1); (have u2 := blk_frozen HE2 2); (have g0 := blk_cell HRR2 0); (have g1 := blk_cell HRR2 1); (have g2 := blk_cell HRR2 2); (have g3 := blk_cell HRR2 3); (have k0 := blk_frozen HRR2 0); (have k1 := blk_frozen HRR2 1); (have k2 := blk_frozen HRR2 2); (have k3 := blk_frozen HRR2 3); (by_cases hE0 : (parseS pr).2 = 0)
              · (have hEb : ((parseS pr).2 != 0) = false := bne_eq_false_iff_eq.2 hE0); (by_cases h4 : pr.length = 4)
                · (have h4b : (((ofL pr).size : Int) != 4) = false := bne_eq_false_iff_eq.2 (by rw [ofL_size]; omega)); (have h4c : ((pr.length : Int) != 4) = false := bne_eq_false_iff_eq.2 (by omega)); (have hD : Aside0 (dig4 pr = some (parseS pr).1) := ⟨by unfold dig4; rw [if_pos ⟨h4, hE0⟩]⟩); (clear hE0 h4); (go_wp2_with fail); (go_roundg 0)
                  case measure => omega
                  case rel => exact ⟨x, y, (parseS pr).1, ⟨blk_put HE2 2 _ rfl⟩, ⟨blk_far HRR2 (by simp) _⟩, ⟨blk_far HP2 (by show W1.heap.size ≠ w.heap.size + 1; omega) _⟩, ⟨Kd.R_set HC2 HE2 (by decide) 2 _⟩, ⟨Below.setCell HB2 (by simp) _⟩, .inr (.inr (.inr ⟨rfl, rfl, D0, D1, hD⟩))⟩
                · (have h4b : (((ofL pr).size : Int) != 4) = true := bne_iff_ne.2 (by rw [ofL_size]; omega)); (have h4c : ((pr.length : Int) != 4) = true := bne_iff_ne.2 (by omega)); (have hD : dig4 pr = none := by unfold dig4; rw [if_neg (fun h => h4 h.1)]); (clear hE0 h4); (go_wp2_with fail); (refine one_end w _ _ x y 0 0 0 0 false false false HRR2 HB2 rfl rfl rfl _ (fun W' hW' => ⟨?_, hW'⟩)); (have hH := H.out); (rw [show oneP a0.data.toList = (⟨x, y, 0, false⟩, false) by rw [hgood'.out]; rw [D0.out, D1.out]; rw [hD]; rfl] at hH); (simp only [Prod.mk.injEq] at hH); (obtain ⟨rfl, rfl, rfl, rfl, rfl⟩ := hH); (rfl)
              · (have hEb : ((parseS pr).2 != 0) = true := bne_iff_ne.2 hE0); (have hD : dig4 pr = none := by unfold dig4; rw [if_neg (fun h => hE0 h.2)]); (clear hE0); (go_wp2_with fail); (refine one_end w _ _ x y 0 0 0 0 false false false HRR2 HB2 rfl rfl rfl _ (fun W' hW' => ⟨?_, hW'⟩)); (have hH := H.out); (rw [show oneP a0.data.toList = (⟨x, y, 0, false⟩, false) by rw [hgood'.out]; rw [D0.out, D1.out]; rw [hD]; rfl] at hH); (simp only [Prod.mk.injEq] at hH); (obtain ⟨rfl, rfl, rfl, rfl, rfl⟩ := hH); (rfl)
            · (go_wp2_with fail); (refine one_end w _ _ x y z 0 0 0 false true false HRR.out HB.out rfl rfl rfl _ (fun W' hW' => ⟨?_, hW'⟩)); (have hH := H.out); (rw [show oneP a0.data.toList = (⟨x, y, z, false⟩, true) by rw [hgood'.out, D0.out, D1.out, D2.out]; rfl] at hH); (simp only [Prod.mk.injEq] at hH); (obtain ⟨rfl, rfl, rfl, rfl, rfl⟩ := hH); (rfl)
        · (have n3 : ((M.length : Int) != 3) = true := bne_iff_ne.2 (by omega)); (go_wp2_with fail); (refine one_end w _ _ 0 0 0 0 0 0 false false false hR1 hB1 rfl rfl rfl _ (fun W' hW' => ⟨?_, hW'⟩)); (have hH := H.out); (rw [show oneP a0.data.toList = (⟨0, 0, 0, false⟩, false) by rw [hgood]; unfold oneM; split; exact absurd rfl h3; rfl] at hH); (simp only [Prod.mk.injEq] at hH); (obtain ⟨rfl, rfl, rfl, rfl, rfl⟩ := hH); (rfl)
      · (have n16 : ((t16.toNat : Int) != 93) = true := bne_iff_ne.2 (fun e => h16 (UInt8.toNat_inj.1 (by rw [show (93 : UInt8).toNat = 93 from rfl]; omega)))); (go_wp2_with fail); (refine one_end w _ _ 0 0 0 0 0 0 false false false hR1 hB1 rfl rfl rfl _ (fun W' hW' => ⟨?_, hW'⟩)); (have hH := H.out); (rw [show oneP a0.data.toList = (⟨0, 0, 0, false⟩, false) by exact bad.out (fun h => h16 h.2.2)] at hH); (simp only [Prod.mk.injEq] at hH); (obtain ⟨rfl, rfl, rfl, rfl, rfl⟩ := hH); (rfl)
    · (have k42 : ((t1.toNat : Int) != 42) = true := bne_iff_ne.2 (fun e => h1 (UInt8.toNat_inj.1 (by rw [show (42 : UInt8).toNat = 42 from rfl]; omega)))); (go_wp2_with fail); (refine one_end w _ _ 0 0 0 0 0 0 false false false hR1 hB1 rfl rfl rfl _ (fun W' hW' => ⟨?_, hW'⟩)); (have hH := H.out); (rw [show oneP a0.data.toList = (⟨0, 0, 0, false⟩, false) by exact bad.out (fun h => h.2.1.elim h1 h1')] at hH); (simp only [Prod.mk.injEq] at hH); (obtain ⟨rfl, rfl, rfl, rfl, rfl⟩ := hH); (rfl)
  · (have n0 : ((t0.toNat : Int) != 91) = true := bne_iff_ne.2 (fun e => h0 (UInt8.toNat_inj.1 (by rw [show (91 : UInt8).toNat = 91 from rfl]; omega)))); (go_wp2_with fail); (refine one_end w _ _ 0 0 0 0 0 0 m false false hR1 hB1 rfl rfl rfl _ (fun W' hW' => ⟨?_, hW'⟩)); (have hH := H.out); (rw [show oneP a0.data.toList = (⟨0, 0, 0, m⟩, false) by exact bad.out (fun h => h0 h.1)] at hH); (simp only [Prod.mk.injEq] at hH); (obtain ⟨rfl, rfl, rfl, rfl, rfl⟩ := hH); (rfl)
end Go.Proofs.YtdaijpjjilmkkaaGreatDoor.Pr

namespace Go.Proofs.YtdaijpjjilmkkaaGreatDoor.Pr
open Go.RowKit Go.Proofs.YtdaijpjjilmkkaaGreatDoorW.PrintWords Go.Proofs.YtdaijpjjilmkkaaGreatDoorW.PrintLast Go.Proofs.YtdaijpjjilmkkaaGreatDoorW.PrintMore
attribute [local go_sem] max2_int min2_int max_two min_two max_three min_three max_four min_four   -- for this text's walks alone
set_option linter.unusedVariables false
set_option linter.unusedSimpArgs false
def element_Text.f (k : Nat) (l0 : List (S44)) : Option (ByteArray × Int) := (element_checkAll.f k l0).bind fun t338 => (if t338 = 0 then ((element_text.f l0).bind fun t339 => (some (t339, 0))) else (some ((⟨#[]⟩ : ByteArray), t338)))
theorem element_Text.mono : ∀ a0 k, LeO (element_Text.f k a0) (element_Text.f (k + 1) a0) := by
  (intro a0 k); (unfold element_Text.f)
  repeat' first
      | (with_reducible exact element_checkAll.mono _ _)
      | (with_reducible exact LeO.refl _)
      | (with_reducible exact LeO.none _)
      | (with_reducible refine LeO.ite ?_ ?_)
      | (with_reducible refine LeO.bind ?_ (fun _ => ?_))
set_option maxHeartbeats 8000000 in
set_option maxRecDepth 100000 in
theorem element_Text.calls (k : Nat) (A0 : Option Addr) (c0 : Nat) (l0 : List (S44)) (r1 : ByteArray) (r2 : Int) (w : World) (hr0 : Kd.C k44 w A0 l0.length l0) (hc0 : l0.length ≤ c0) (h : element_Text.f k l0 = some (r1, r2)) :
    Calls Tryz.prog 12 #[.slice A0 l0.length c0] w fun e w' => e = .returned (.tuple #[.string r1, .int .i64 r2]) ∧ Below w.heap.size w w' := by
  (have HR0 := Aside0.mk hr0); (have HC0 := Aside0.mk hc0); (clear hr0 hc0); (have HB := Aside0.mk (Below.refl w.heap.size w)); (have H : ((element_checkAll.f k l0).bind fun t338 => (if t338 = 0 then ((element_text.f l0).bind fun t339 => (some (t339, 0))) else (some ((⟨#[]⟩ : ByteArray), t338)))) = some (r1, r2) := h); (clear h); (replace H := Option.bind_eq_some_iff.mp H); (obtain ⟨t338, A20, H⟩ := H); (replace H : (if t338 = 0 then ((element_text.f l0).bind fun t339 => (some (t339, 0))) else (some ((⟨#[]⟩ : ByteArray), t338))) = some (r1, r2) := H); (have A2 := Aside0.mk A20); (clear A20); (by_cases c3 : t338 = 0)
  · (rw [if_pos c3] at H); (have c3b0 : (t338 == 0) = true := beq_iff_eq.mpr c3); (have c3b1 : (t338 != 0) = false := bne_eq_false_iff_eq.mpr c3); (clear c3); (replace H := Option.bind_eq_some_iff.mp H); (obtain ⟨t339, A40, H⟩ := H); (replace H : (some (t339, 0)) = some (r1, r2) := H); (have A4 := Aside0.mk A40); (clear A40); (simp only [Option.some.injEq, Prod.mk.injEq] at H); (obtain ⟨rfl, rfl⟩ := H); (go_enter Tryz.func12, Tryz.ntmps12); (go_wp2_with (first | ((with_reducible refine gate_callee (f := 21) rfl ?_); refine Gl (some 6) Tryz.func21 #[.slice A0 l0.length c0] ?_; (with_reducible refine (element_checkAll.calls k _ _ l0 t338 _ ?side1 ?side2 A2.out).mono ?_); (case side1 => repeat (first | exact HR0.out | (with_reducible refine Kd.C_alloc ?_ _) | (with_reducible refine Kd.C_drewN ?_ _) | (with_reducible refine Kd.C_drew ?_))); (case side2 => exact HC0.out); rintro e w5 ⟨rfl, hb⟩; refine ⟨_, rfl, ?_⟩; replace HB := Bs hb) | ((with_reducible refine gate_callee (f := 24) rfl ?_); refine Gl (some 11) Tryz.func24 #[.slice A0 l0.length c0] ?_; (with_reducible refine (element_text.calls _ _ l0 t339 _ ?side1 ?side2 A4.out).mono ?_); (case side1 => repeat (first | exact (Kd.C_below HR0.out HB.out) | (with_reducible refine Kd.C_alloc ?_ _) | (with_reducible refine Kd.C_drewN ?_ _) | (with_reducible refine Kd.C_drew ?_))); (case side2 => exact HC0.out); rintro e w6 ⟨rfl, hb⟩; refine ⟨_, rfl, ?_⟩; replace HB := Bs hb))); (go_ret2); (exact ⟨Er, Hb⟩)
  · (rw [if_neg c3] at H); (have c3b0 : (t338 == 0) = false := beq_eq_false_iff_ne.mpr c3); (have c3b1 : (t338 != 0) = true := bne_iff_ne.mpr c3); (simp only [Option.some.injEq, Prod.mk.injEq] at H); (obtain ⟨rfl, rfl⟩ := H); (go_enter Tryz.func12, Tryz.ntmps12); (go_wp2_with (first | ((with_reducible refine gate_callee (f := 21) rfl ?_); refine Gl (some 6) Tryz.func21 #[.slice A0 l0.length c0] ?_; (with_reducible refine (element_checkAll.calls k _ _ l0 t338 _ ?side1 ?side2 A2.out).mono ?_); (case side1 => repeat (first | exact HR0.out | (with_reducible refine Kd.C_alloc ?_ _) | (with_reducible refine Kd.C_drewN ?_ _) | (with_reducible refine Kd.C_drew ?_))); (case side2 => exact HC0.out); rintro e w7 ⟨rfl, hb⟩; refine ⟨_, rfl, ?_⟩; replace HB := Bs hb))); (go_ret2); (exact ⟨Er, Hb⟩)
def element_read.l0 : Nat → ByteArray → List (S44) → Option ((List (S44)) × Bool)
  | 0, _, _ => none
  | k + 1, x0, x4 => if x0.toList = ([] : List UInt8) then (some (x4, true)) else (if (x0.size : Int) < 17 then (some (([] : List (S44)), false)) else (if 0 ≤ 17 then (if 17 ≤ (x0.size : Int) then ((element_one.f (x0.extract 0 17)).bind fun bt340 => (if bt340.2.2.2.2 = true then (if x4.length < 4398046511104 then (element_read.l0 k (x0.extract 17 x0.size) (x4 ++ [(⟨bt340.1, bt340.2.1, bt340.2.2.1, bt340.2.2.2.1⟩ : S44)])) else (none)) else (some (([] : List (S44)), false)))) else (none)) else (none)))
def element_read.f (k : Nat) (a0 : ByteArray) : Option ((List (S44)) × Bool) := element_read.l0 k a0 ([] : List (S44))
theorem element_read.mono_l : ∀ k, (∀ y0 y1, LeO (element_read.l0 k y0 y1) (element_read.l0 (k + 1) y0 y1))
  | 0 => fun _ _ r h => by simp [element_read.l0] at h
  | k + 1 => by
    have ih0 := element_read.mono_l k
    · (intro y0 y1); (unfold element_read.l0)
      repeat' first
      | (with_reducible exact ih0 _ _)
      | (with_reducible exact LeO.refl _)
      | (with_reducible exact LeO.none _)
      | (with_reducible refine LeO.ite ?_ ?_)
      | (with_reducible refine LeO.bind ?_ (fun _ => ?_))
theorem element_read.mono : ∀ a0 k, LeO (element_read.f k a0) (element_read.f (k + 1) a0) := by
  (intro a0 k); (have ih0 := element_read.mono_l k); (unfold element_read.f)
  repeat' first
      | (with_reducible exact ih0 _ _)
      | (with_reducible exact LeO.refl _)
      | (with_reducible exact LeO.none _)
      | (with_reducible refine LeO.ite ?_ ?_)
      | (with_reducible refine LeO.bind ?_ (fun _ => ?_))
set_option maxHeartbeats 8000000 in
set_option maxRecDepth 100000 in
theorem element_read.calls (k : Nat) (a0 : ByteArray) (r1 : List (S44)) (r2 : Bool) (w : World) (h : element_read.f k a0 = some (r1, r2)) (hG : GW w) :
    Calls Tryz.prog 20 #[.string a0] w fun e w' => ∃ v0_ : Value, e = .returned (.tuple #[v0_, .bool r2]) ∧ Kd.R k44 44 w' w.heap.size (fun _ => True) v0_ r1 ∧ Below w.heap.size w w' := by
  (have HG := Aside0.mk hG); (clear hG); (have hu44 := Tryz.underlying44); (have HB := Aside0.mk (Below.refl w.heap.size w)); (have H : (element_read.l0 k a0 ([] : List (S44))) = some (r1, r2) := h); (clear h); (have H' := Aside0.mk H); (clear H); (go_enter Tryz.func20, Tryz.ntmps20); (go_wp2); (go_loopg [0, 4] k (fun kq v0 v4 w' => ∃ (x0_1 : ByteArray) (x4_1 : List (S44)), v0 = .string x0_1 ∧ Aside0 (element_read.l0 kq x0_1 x4_1 = some (r1, r2)) ∧ Aside0 (kq ≤ k) ∧ Aside0 (Kd.R k44 44 w' w.heap.size (fun _ => True) v4 x4_1) ∧ Aside0 (Below w.heap.size w w')))
  case atStart => exact ⟨(a0), (([] : List (S44))), (by first | rfl | (simp; done) | (simp [*]; done) | exact congrArg Value.bool (ne_nil_bool _) | exact congrArg Value.bool (eq_nil_bool _)), H', ⟨Nat.le_refl _⟩, ⟨Kn⟩, ⟨Hb⟩⟩
  case round =>
    (clear H'); (obtain ⟨x0_1, x4_1, rfl, HA, HK1, HO_4, HB⟩ := hrel)
    cases gk with
    | zero => exact absurd HA.out (by simp [element_read.l0])
    | succ k1 =>
      (have H := HA.out); (clear HA); (simp only [element_read.l0] at H); (by_cases c2 : x0_1.toList = ([] : List UInt8))
      · (rw [if_pos c2] at H); (have c2b0 : (x0_1.toList == ([] : List UInt8)) = true := beq_iff_eq.mpr c2); (have c2b1 : (x0_1.toList != ([] : List UInt8)) = false := bne_eq_false_iff_eq.mpr c2); (clear c2); (simp only [Option.some.injEq, Prod.mk.injEq] at H); (obtain ⟨rfl, rfl⟩ := H); (go_wp2); (go_ret2); (exact ⟨_, Er, by (with_reducible repeat (first | apply Kd.R_alloc | apply Kd.R_drewN | apply Kd.R_drew)); exact HO_4.out, Hb⟩)
      · (rw [if_neg c2] at H); (have c2b0 : (x0_1.toList == ([] : List UInt8)) = false := beq_eq_false_iff_ne.mpr c2); (have c2b1 : (x0_1.toList != ([] : List UInt8)) = true := bne_iff_ne.mpr c2); (by_cases c3 : (x0_1.size : Int) < 17)
        · (rw [if_pos c3] at H); (have c3b0 : decide ((x0_1.size : Int) < 17) = true := decide_eq_true c3); (have c3b1 : decide (x0_1.size < 17) = true := decide_eq_true (by omega)); (clear c3); (simp only [Option.some.injEq, Prod.mk.injEq] at H); (obtain ⟨rfl, rfl⟩ := H); (go_wp2); (go_ret2); (exact ⟨_, Er, Kn, Hb⟩)
        · (rw [if_neg c3] at H); (have c3b0 : decide ((x0_1.size : Int) < 17) = false := decide_eq_false c3); (have c3b1 : decide (x0_1.size < 17) = false := decide_eq_false (by omega)); (clear c3); (by_cases c4 : 0 ≤ 17)
          · (rw [if_pos c4] at H); (have c4b0 := eq_true c4); (have c4b1 : decide (0 ≤ 17) = true := decide_eq_true c4); (clear c4); (by_cases c5 : 17 ≤ (x0_1.size : Int))
            · (rw [if_pos c5] at H); (have c5b0 := eq_true c5); (have c5b1 : decide (17 ≤ (x0_1.size : Int)) = true := decide_eq_true c5); (clear c5); (replace H := Option.bind_eq_some_iff.mp H); (obtain ⟨⟨t340, t341, t342, t343, t344⟩, A60, H⟩ := H); (replace H : (if t344 = true then (if x4_1.length < 4398046511104 then (element_read.l0 k1 (x0_1.extract 17 x0_1.size) (x4_1 ++ [(⟨t340, t341, t342, t343⟩ : S44)])) else (none)) else (some (([] : List (S44)), false))) = some (r1, r2) := H); (have A6 := Aside0.mk A60); (clear A60); (by_cases c7 : t344 = true)
              · (subst c7); (have H1 : (if x4_1.length < 4398046511104 then (element_read.l0 k1 (x0_1.extract 17 x0_1.size) (x4_1 ++ [(⟨t340, t341, t342, t343⟩ : S44)])) else (none)) = some (r1, r2) := by rw [if_pos rfl] at H; exact H); (clear H); (have H := H1); (clear H1); (by_cases c8 : x4_1.length < 4398046511104)
                · (rw [if_pos c8] at H); (have LMc8 := Aside0.mk c8); (clear c8); (obtain ⟨y346, hy346⟩ : ∃ y_ : List (S44), y_ = (x4_1 ++ [(⟨t340, t341, t342, t343⟩ : S44)]) := ⟨_, rfl⟩); (replace H : (element_read.l0 k1 (x0_1.extract 17 x0_1.size) y346) = some (r1, r2) := by first | (rw [hy346]; with_reducible exact H) | (have H2_ := (Option.bind_some _ _).symm.trans H; rw [hy346]; with_reducible exact H2_) | (have H2_ := (Option.bind_some _ _).symm.trans H; with_reducible exact H2_) | with_reducible exact H | (rw [hy346]; exact H) | exact H); (have Ny346 := Aside0.mk hy346); (clear hy346); (have c9b0 := eq_true (Oa : 17 ≤ (x0_1.size : Int))); (have H' := Aside0.mk H); (clear H); (go_wp2_with (first | ((with_reducible refine gate_callee (f := 45) rfl ?_); refine Gl (some 17) Tryz.func45 #[.string (x0_1.extract 0 17)] ?_; (with_reducible refine (element_one.calls (x0_1.extract 0 17) t340 t341 t342 t343 true _ A6.out ?sideG).mono ?_); (case sideG => exact GW.below HG.out Hb); rintro e w10 ⟨rfl, hb⟩; refine ⟨_, rfl, ?_⟩; replace HO_4 := Aside0.mk (Kd.R_below (Kr HO_4) hb); replace HB := Bs hb) | ((with_reducible refine gate_dst (N := 5) rfl ?_); refine Bx 5 #[.int .i64 0, .int .i64 0, .int .i64 0, .bool false] 44 ?_; intro gb345 hg w11 hbox hb; have BK345 := Aside0.mk (hbox); have GW345 := Gs w hg; have GE345 := Gs w hg; replace HO_4 := Aside0.mk (Kd.R_below (Kd.R_elderB (Kr HO_4) gb345 (Nat.le_of_eq hg.symm)) hb); replace HB := Bs hb; clear hb hbox hg; have hcz12_0 : w11.cell? ⟨gb345, 0, none⟩ = some (.int .i64 0) := (blk_cell BK345.out 0).trans rfl; have hcz12_1 : w11.cell? ⟨gb345, 1, none⟩ = some (.int .i64 0) := (blk_cell BK345.out 1).trans rfl; have hcz12_2 : w11.cell? ⟨gb345, 2, none⟩ = some (.int .i64 0) := (blk_cell BK345.out 2).trans rfl; have hcz12_3 : w11.cell? ⟨gb345, 3, none⟩ = some (.bool false) := (blk_cell BK345.out 3).trans rfl; have hfz12_0 := blk_frozen BK345.out 0; have hfz12_1 := blk_frozen BK345.out 1; have hfz12_2 := blk_frozen BK345.out 2; have hfz12_3 := blk_frozen BK345.out 3) | ((with_reducible refine gate_builtin (b := .append) (xs := #[.tmp 22, .tmp 24]) rfl ?_); at_builtin; refine Kd.R_append k44 (w0 := w) w.heap.size rfl (.tmp 22) (.tmp 24) 23 44 (.agg #[(.int .i64 0), (.int .i64 0), (.int .i64 0), (.bool false)]) 32 rfl Tryz.underlying23 info44 rfl (by decide) (by omega) u4 x4_1 (⟨t340, t341, t342, t343⟩ : S44) [.int .i64 t340, .int .i64 t341, .int .i64 t342, .bool t343] (fun k_ => k_ ≠ gb345) (fun _ => False) rfl (by first | (go_simp; done) | (go_simp; rfl)) ?aP (fun _ hk => hk.elim) ?aF ?aO ?aB ?aS ?aL ?_; (case aP => exact k44_mkM _ _ _ (⟨t340, t341, t342, t343⟩ : S44)); (case aB => exact Hb); (case aF => exact (fun k_ hk => Kd.freshB (g := gb345) (o := .cells #[.int .i64 t340, .int .i64 t341, .int .i64 t342, .bool t343] 44 (0, 0)) Bk k_ hk)); (case aO => exact (by (with_reducible repeat (first | apply Kd.R_alloc | apply Kd.R_drewN | apply Kd.R_drew)); exact Kd.R_mono (Kd.R_far (p := ⟨gb345, 3, none⟩) (Kd.R_far (p := ⟨gb345, 2, none⟩) (Kd.R_far (p := ⟨gb345, 1, none⟩) (Kd.R_far (p := ⟨gb345, 0, none⟩) (Kd.R_mono HO_4.out (fun k_ hk => (⟨hk, hk.2⟩ : _ ∧ k_ ≠ gb345))) (fun _ hk => hk.2) (.int .i64 t340)) (fun _ hk => hk.2) (.int .i64 t341)) (fun _ hk => hk.2) (.int .i64 t342)) (fun _ hk => hk.2) (.bool t343)) (fun _ hk => hk.1.2))); (case aS => exact (below_size Hb)); (case aL => have := LMc8.out; omega); intro v347 w13 ho hb hg hat; rw [← Ny346.out] at ho; have HO348 := Aside0.mk (ho); replace BK345 := Aside0.mk (blk_grown (g := gb345) (o := .cells #[.int .i64 t340, .int .i64 t341, .int .i64 t342, .bool t343] 44 (0, 0)) Bk hg (Kd.R_away HO_4.out (fun _ hk => hk.2))); replace HB := Aside0.mk (hb); clear HO_4; clear ho hb hg hat))); (go_roundg k1)
                  case measure => have := HK1.out; omega
                  case rel => exact ⟨(x0_1.extract 17 x0_1.size), (y346), (by first | rfl | (simp; done) | (simp [*]; done) | exact congrArg Value.bool (ne_nil_bool _) | exact congrArg Value.bool (eq_nil_bool _)), H', ⟨by have := HK1.out; omega⟩, ⟨by (with_reducible repeat (first | apply Kd.R_alloc | apply Kd.R_drewN | apply Kd.R_drew)); exact Kd.R_mono HO348.out (fun _ hk => trivial)⟩, ⟨Hb⟩⟩
                · (rw [if_neg c8] at H); (exact absurd H (by simp))
              · (replace c7 := Bool.eq_false_iff.mpr c7); (subst c7); (have H1 : (some (([] : List (S44)), false)) = some (r1, r2) := by rw [if_neg (show ¬ (false = true) by decide)] at H; exact H); (clear H); (have H := H1); (clear H1); (simp only [Option.some.injEq, Prod.mk.injEq] at H); (obtain ⟨rfl, rfl⟩ := H); (go_wp2_with (first | ((with_reducible refine gate_callee (f := 45) rfl ?_); refine Gl (some 17) Tryz.func45 #[.string (x0_1.extract 0 17)] ?_; (with_reducible refine (element_one.calls (x0_1.extract 0 17) t340 t341 t342 t343 false _ A6.out ?sideG).mono ?_); (case sideG => exact GW.below HG.out Hb); rintro e w14 ⟨rfl, hb⟩; refine ⟨_, rfl, ?_⟩; replace HO_4 := Aside0.mk (Kd.R_below (Kr HO_4) hb); replace HB := Bs hb) | ((with_reducible refine gate_dst (N := 5) rfl ?_); refine Bx 5 #[.int .i64 0, .int .i64 0, .int .i64 0, .bool false] 44 ?_; intro gb345 hg w15 hbox hb; have BK345 := Aside0.mk (hbox); have GW345 := Gs w hg; have GE345 := Gs w hg; replace HO_4 := Aside0.mk (Kd.R_below (Kd.R_elderB (Kr HO_4) gb345 (Nat.le_of_eq hg.symm)) hb); replace HB := Bs hb; clear hb hbox hg; have hcz16_0 : w15.cell? ⟨gb345, 0, none⟩ = some (.int .i64 0) := (blk_cell BK345.out 0).trans rfl; have hcz16_1 : w15.cell? ⟨gb345, 1, none⟩ = some (.int .i64 0) := (blk_cell BK345.out 1).trans rfl; have hcz16_2 : w15.cell? ⟨gb345, 2, none⟩ = some (.int .i64 0) := (blk_cell BK345.out 2).trans rfl; have hcz16_3 : w15.cell? ⟨gb345, 3, none⟩ = some (.bool false) := (blk_cell BK345.out 3).trans rfl; have hfz16_0 := blk_frozen BK345.out 0; have hfz16_1 := blk_frozen BK345.out 1; have hfz16_2 := blk_frozen BK345.out 2; have hfz16_3 := blk_frozen BK345.out 3))); (go_ret2); (exact ⟨_, Er, Kn, Hb⟩)
            · (rw [if_neg c5] at H); (exact absurd H (by simp))
          · (rw [if_neg c4] at H); (exact absurd H (by simp))
end Go.Proofs.YtdaijpjjilmkkaaGreatDoor.Pr

/- The contract of element.isName. -/
namespace Go.Proofs.YtdaijpjjilmkkaaGreatDoor.Pr
open Go.RowKit Go.Shelf Go.Proofs.YtdaijpjjilmkkaaGreatDoorW.PrintWords Go.Proofs.YtdaijpjjilmkkaaGreatDoorW.PrintLast Go.Proofs.YtdaijpjjilmkkaaGreatDoorW.PrintMore
set_option linter.unusedVariables false
set_option linter.unusedSimpArgs false
def nameN (x : Nat) : Bool := (decide (65 ≤ x) && decide (x ≤ 90)) || (decide (97 ≤ x) && decide (x ≤ 122)) || (decide (48 ≤ x) && decide (x ≤ 57)) || x == 95
def nameB (l : List UInt8) : Bool := !l.isEmpty && decide (l.length ≤ 32) && l.all fun b => nameN b.toNat
def element_isName.f (a0 : ByteArray) : Option Bool := some (nameB a0.data.toList)
theorem nameN_high {x : Nat} (h : 128 ≤ x) : nameN x = false := by
  (unfold nameN); (simp); (omega)
theorem decode_step (s : ByteArray) (i : Nat) (h : i < s.size) : ((s[i]'h).toNat < 128 ∧ Utf8.decode s i = ((s[i]'h).toNat, 1)) ∨
    (128 ≤ (Utf8.decode s i).1 ∧ (Utf8.decode s i).1 ≤ 1114111 ∧ 1 ≤ (Utf8.decode s i).2 ∧ i + (Utf8.decode s i).2 ≤ s.size ∧ ∀ k : Nat, i ≤ k → k < i + (Utf8.decode s i).2 → ∀ b, s.data.toList[k]? = some b → 128 ≤ b.toNat) := by
  by_cases ha : (s[i]'h).toNat < 128
  · exact Or.inl ⟨ha, decode_ascii s i h ha⟩
  · (right); (have hh := decode_high s i h (by omega)); (have hr := Lib.rune_le s i); (have hsz : s.data.toList.length = s.size := by simp); (have h0 : s.data.toList.getD i 0 = s[i]'h := by rw [List.getD_eq_getElem?_getD, Lib.data_getElem? s i h]; rfl); (have key : ∀ k b, s.data.toList[k]? = some b → s.data.toList.getD k 0 = b := fun k b hk => by rw [List.getD_eq_getElem?_getD, hk]; rfl); (refine ⟨hh.1, hr, hh.2, ?_⟩); (rw [Lib.decode_N] at hh ⊢); (rcases Lib.decodeN_shape (s.data.toList.length - i) (s.data.toList.getD i 0).toNat (s.data.toList.getD (i + 1) 0).toNat (s.data.toList.getD (i + 2) 0).toNat (s.data.toList.getD (i + 3) 0).toNat with ⟨c, e⟩ | ⟨c1, c2, c3, cv, e⟩ | ⟨c1, c2, c3, c4, cv, cs, e⟩ | ⟨c1, c2, c3, c4, c5, cv, cw, e⟩ | e)
    · rw [h0] at c; omega
    all_goals
      (rw [e]); (dsimp only); (refine ⟨by omega, fun k h1 h2 b hb => ?_⟩); (have hk := key k b hb); (obtain ⟨m, rfl⟩ : ∃ m, k = i + m := ⟨k - i, by omega⟩); (have hm : m = 0 ∨ m = 1 ∨ m = 2 ∨ m = 3 := by omega); (rcases hm with rfl | rfl | rfl | rfl); (all_goals (first | (rw [Nat.add_zero] at hk; rw [← hk, h0]; omega) | (rw [← hk]; omega) | omega))
theorem idx_name (s : ByteArray) : ∀ (f pos : Nat), s.size - pos ≤ f → pos ≤ s.size → decide (0 ≤ Lib.idxFuncFrom (fun x => !nameN x) true s f pos) = !((s.data.toList.drop pos).all fun b => nameN b.toNat) := by
  intro f
  induction f with
  | zero =>
    (intro pos hf hp); (have he : s.data.toList.drop pos = [] := List.drop_of_length_le (by simp; omega)); (rw [he])
    rfl
  | succ f ih =>
    (intro pos hf hp); (unfold Lib.idxFuncFrom); (by_cases h : pos < s.size)
    · (rw [if_pos h]); (have hl : pos < s.data.toList.length := by simpa using h)
      have hat : s.data.toList[pos]'hl = s[pos]'h := by
        (have := Lib.data_getElem? s pos h); (rw [List.getElem?_eq_getElem hl] at this); (exact Option.some.inj this)
      (have hd : s.data.toList.drop pos = s.data.toList[pos]'hl :: s.data.toList.drop (pos + 1) := List.drop_eq_getElem_cons hl); (rcases decode_step s pos h with ⟨h1, h2⟩ | ⟨h1, h2, h3, h4, h5⟩)
      · (rw [h2, hd, List.all_cons, hat]); (dsimp only)
        cases hn : nameN (s[pos]'h).toNat with
        | true => rw [if_neg (by simp), ih (pos + 1) (by omega) (by omega)]; simp
        | false => rw [if_pos (show (!false) = true from rfl)]; simp
      · (have hb : 128 ≤ (s.data.toList[pos]'hl).toNat := h5 pos (Nat.le_refl _) (by omega) _ (List.getElem?_eq_getElem hl)); (rw [hd, List.all_cons, nameN_high hb, if_pos (by rw [nameN_high h1]; rfl)]); (simp)
    · (rw [if_neg h]); (have he : s.data.toList.drop pos = [] := List.drop_of_length_le (by simp; omega)); (rw [he]); (rfl)
set_option maxRecDepth 100000 in
set_option maxHeartbeats 4000000 in
theorem isName_rune (W : World) (x : Nat) : FnGives Tryz.prog 73 #[] #[encR x] (.bool (!nameN x)) W := by
  (have hcase : (x < 48) ∨ (48 ≤ x ∧ x ≤ 57) ∨ (58 ≤ x ∧ x ≤ 64) ∨ (65 ≤ x ∧ x ≤ 90) ∨ (91 ≤ x ∧ x ≤ 94) ∨ (x = 95) ∨ (x = 96) ∨ (97 ≤ x ∧ x ≤ 122) ∨ (123 ≤ x) := by omega); (unfold FnGives encR); (rcases hcase with hx | hx | hx | hx | hx | hx | hx | hx | hx)
  · (have f0 : decide ((65 : Int) ≤ (x : Int)) = false := decide_eq_false (by omega)); (have f1 : decide ((x : Int) ≤ 90) = true := decide_eq_true (by omega)); (have f2 : decide ((97 : Int) ≤ (x : Int)) = false := decide_eq_false (by omega)); (have f3 : decide ((x : Int) ≤ 122) = true := decide_eq_true (by omega)); (have f4 : decide ((48 : Int) ≤ (x : Int)) = false := decide_eq_false (by omega)); (have f5 : decide ((x : Int) ≤ 57) = true := decide_eq_true (by omega)); (have f6 : ((x : Int) == 95) = false := beq_eq_false_iff_ne.2 (by omega)); (have hn : nameN x = false := by unfold nameN; simp; omega); (rw [hn]); (clear hn hx); (go_enter Tryz.func73, Tryz.ntmps73); (go_wp2); (go_ret); (exact ⟨rfl, 0, rfl⟩)
  · (have f0 : decide ((65 : Int) ≤ (x : Int)) = false := decide_eq_false (by omega)); (have f1 : decide ((x : Int) ≤ 90) = true := decide_eq_true (by omega)); (have f2 : decide ((97 : Int) ≤ (x : Int)) = false := decide_eq_false (by omega)); (have f3 : decide ((x : Int) ≤ 122) = true := decide_eq_true (by omega)); (have f4 : decide ((48 : Int) ≤ (x : Int)) = true := decide_eq_true (by omega)); (have f5 : decide ((x : Int) ≤ 57) = true := decide_eq_true (by omega)); (have f6 : ((x : Int) == 95) = false := beq_eq_false_iff_ne.2 (by omega)); (have hn : nameN x = true := by unfold nameN; simp; omega); (rw [hn]); (clear hn hx); (go_enter Tryz.func73, Tryz.ntmps73); (go_wp2); (go_ret); (exact ⟨rfl, 0, rfl⟩)
  · (have f0 : decide ((65 : Int) ≤ (x : Int)) = false := decide_eq_false (by omega)); (have f1 : decide ((x : Int) ≤ 90) = true := decide_eq_true (by omega)); (have f2 : decide ((97 : Int) ≤ (x : Int)) = false := decide_eq_false (by omega)); (have f3 : decide ((x : Int) ≤ 122) = true := decide_eq_true (by omega)); (have f4 : decide ((48 : Int) ≤ (x : Int)) = true := decide_eq_true (by omega)); (have f5 : decide ((x : Int) ≤ 57) = false := decide_eq_false (by omega)); (have f6 : ((x : Int) == 95) = false := beq_eq_false_iff_ne.2 (by omega)); (have hn : nameN x = false := by unfold nameN; simp; omega); (rw [hn]); (clear hn hx); (go_enter Tryz.func73, Tryz.ntmps73); (go_wp2); (go_ret); (exact ⟨rfl, 0, rfl⟩)
  · (have f0 : decide ((65 : Int) ≤ (x : Int)) = true := decide_eq_true (by omega)); (have f1 : decide ((x : Int) ≤ 90) = true := decide_eq_true (by omega)); (have f2 : decide ((97 : Int) ≤ (x : Int)) = false := decide_eq_false (by omega)); (have f3 : decide ((x : Int) ≤ 122) = true := decide_eq_true (by omega)); (have f4 : decide ((48 : Int) ≤ (x : Int)) = true := decide_eq_true (by omega)); (have f5 : decide ((x : Int) ≤ 57) = false := decide_eq_false (by omega)); (have f6 : ((x : Int) == 95) = false := beq_eq_false_iff_ne.2 (by omega)); (have hn : nameN x = true := by unfold nameN; simp; omega); (rw [hn]); (clear hn hx); (go_enter Tryz.func73, Tryz.ntmps73); (go_wp2); (go_ret); (exact ⟨rfl, 0, rfl⟩)
  · (have f0 : decide ((65 : Int) ≤ (x : Int)) = true := decide_eq_true (by omega)); (have f1 : decide ((x : Int) ≤ 90) = false := decide_eq_false (by omega)); (have f2 : decide ((97 : Int) ≤ (x : Int)) = false := decide_eq_false (by omega)); (have f3 : decide ((x : Int) ≤ 122) = true := decide_eq_true (by omega)); (have f4 : decide ((48 : Int) ≤ (x : Int)) = true := decide_eq_true (by omega)); (have f5 : decide ((x : Int) ≤ 57) = false := decide_eq_false (by omega)); (have f6 : ((x : Int) == 95) = false := beq_eq_false_iff_ne.2 (by omega)); (have hn : nameN x = false := by unfold nameN; simp; omega); (rw [hn]); (clear hn hx); (go_enter Tryz.func73, Tryz.ntmps73); (go_wp2); (go_ret); (exact ⟨rfl, 0, rfl⟩)
  · (have f0 : decide ((65 : Int) ≤ (x : Int)) = true := decide_eq_true (by omega)); (have f1 : decide ((x : Int) ≤ 90) = false := decide_eq_false (by omega)); (have f2 : decide ((97 : Int) ≤ (x : Int)) = false := decide_eq_false (by omega)); (have f3 : decide ((x : Int) ≤ 122) = true := decide_eq_true (by omega)); (have f4 : decide ((48 : Int) ≤ (x : Int)) = true := decide_eq_true (by omega)); (have f5 : decide ((x : Int) ≤ 57) = false := decide_eq_false (by omega)); (have f6 : ((x : Int) == 95) = true := beq_iff_eq.2 (by omega)); (have hn : nameN x = true := by unfold nameN; simp; omega); (rw [hn]); (clear hn hx); (go_enter Tryz.func73, Tryz.ntmps73); (go_wp2); (go_ret); (exact ⟨rfl, 0, rfl⟩)
  · (have f0 : decide ((65 : Int) ≤ (x : Int)) = true := decide_eq_true (by omega)); (have f1 : decide ((x : Int) ≤ 90) = false := decide_eq_false (by omega)); (have f2 : decide ((97 : Int) ≤ (x : Int)) = false := decide_eq_false (by omega)); (have f3 : decide ((x : Int) ≤ 122) = true := decide_eq_true (by omega)); (have f4 : decide ((48 : Int) ≤ (x : Int)) = true := decide_eq_true (by omega)); (have f5 : decide ((x : Int) ≤ 57) = false := decide_eq_false (by omega)); (have f6 : ((x : Int) == 95) = false := beq_eq_false_iff_ne.2 (by omega)); (have hn : nameN x = false := by unfold nameN; simp; omega); (rw [hn]); (clear hn hx); (go_enter Tryz.func73, Tryz.ntmps73); (go_wp2); (go_ret); (exact ⟨rfl, 0, rfl⟩)
  · (have f0 : decide ((65 : Int) ≤ (x : Int)) = true := decide_eq_true (by omega)); (have f1 : decide ((x : Int) ≤ 90) = false := decide_eq_false (by omega)); (have f2 : decide ((97 : Int) ≤ (x : Int)) = true := decide_eq_true (by omega)); (have f3 : decide ((x : Int) ≤ 122) = true := decide_eq_true (by omega)); (have f4 : decide ((48 : Int) ≤ (x : Int)) = true := decide_eq_true (by omega)); (have f5 : decide ((x : Int) ≤ 57) = false := decide_eq_false (by omega)); (have f6 : ((x : Int) == 95) = false := beq_eq_false_iff_ne.2 (by omega)); (have hn : nameN x = true := by unfold nameN; simp; omega); (rw [hn]); (clear hn hx); (go_enter Tryz.func73, Tryz.ntmps73); (go_wp2); (go_ret); (exact ⟨rfl, 0, rfl⟩)
  · (have f0 : decide ((65 : Int) ≤ (x : Int)) = true := decide_eq_true (by omega)); (have f1 : decide ((x : Int) ≤ 90) = false := decide_eq_false (by omega)); (have f2 : decide ((97 : Int) ≤ (x : Int)) = true := decide_eq_true (by omega)); (have f3 : decide ((x : Int) ≤ 122) = false := decide_eq_false (by omega)); (have f4 : decide ((48 : Int) ≤ (x : Int)) = true := decide_eq_true (by omega)); (have f5 : decide ((x : Int) ≤ 57) = false := decide_eq_false (by omega)); (have f6 : ((x : Int) == 95) = false := beq_eq_false_iff_ne.2 (by omega)); (have hn : nameN x = false := by unfold nameN; simp; omega); (rw [hn]); (clear hn hx); (go_enter Tryz.func73, Tryz.ntmps73); (go_wp2); (go_ret); (exact ⟨rfl, 0, rfl⟩)
set_option maxRecDepth 100000 in
set_option maxHeartbeats 4000000 in
theorem element_isName.calls (a0 : ByteArray) (r : Bool) (w : World) (h : element_isName.f a0 = some r) :
    Calls Tryz.prog 52 #[.string a0] w fun e w' => e = .returned (.bool r) ∧ Below w.heap.size w w' := by
  (obtain rfl := Option.some.inj h); (clear h); (by_cases he : a0.data.toList = [])
  · (have hemp : a0.toList.isEmpty = true := by rw [Lib.toList_data, he]; rfl); (have hN : nameB a0.data.toList = false := by unfold nameB; rw [he]; rfl); (rw [hN]); (clear he hN); (go_enter Tryz.func52, Tryz.ntmps52); (go_wp2); (go_ret); (exact ⟨rfl, Below.refl _ _⟩)
  · (have hemp : a0.toList.isEmpty = false := by rw [Lib.toList_data]; simpa using he); (have hE : a0.data.toList.isEmpty = false := by simpa using he); (have hsz : a0.data.toList.length = a0.size := by simp); (by_cases h32 : a0.size ≤ 32)
    · have hd : decide ((32 : Int) < (a0.size : Int)) = false := decide_eq_false (by omega)
      have hN : (!decide (0 ≤ Lib.idxFunc (fun x => !nameN x) true a0)) = nameB a0.data.toList := by
        (unfold Lib.idxFunc nameB); (rw [idx_name a0 a0.size 0 (by omega) (by omega), hE, hsz, decide_eq_true h32, List.drop_zero, Bool.not_not]); (rfl)
      (rw [← hN]); (clear he hE hN); (go_enter Tryz.func52, Tryz.ntmps52); (go_wp2_with fail); (refine (Tryz.strings_ContainsFunc_runes 73 #[] (enters_of Tryz.func73 (by kernel_rfl) rfl) (fun x => !nameN x) a0 _ (fun W x _ _ => isName_rune W x)).mono ?_); (rintro e w1 ⟨rfl, hb⟩); (go_wp2); (go_ret); (exact ⟨rfl, hb⟩)
    · (have hd : decide ((32 : Int) < (a0.size : Int)) = true := decide_eq_true (by omega)); (have hN : nameB a0.data.toList = false := by unfold nameB; rw [hsz, decide_eq_false h32]; simp); (rw [hN]); (clear he hE hN); (go_enter Tryz.func52, Tryz.ntmps52); (go_wp2); (go_ret); (exact ⟨rfl, Below.refl _ _⟩)
end Go.Proofs.YtdaijpjjilmkkaaGreatDoor.Pr

/- The contracts of strconv.Itoa, element.numerals, element.isName. -/
namespace Go.Proofs.YtdaijpjjilmkkaaGreatDoor.Pr
open Go.RowKit Go.Shelf Go.Proofs.YtdaijpjjilmkkaaGreatDoorW.PrintWords Go.Proofs.YtdaijpjjilmkkaaGreatDoorW.PrintLast Go.Proofs.YtdaijpjjilmkkaaGreatDoorW.PrintMore
set_option linter.unusedVariables false
set_option linter.unusedSimpArgs false
def strconv_Itoa.f (n : Int) : Option ByteArray := if -9223372036854775808 ≤ n ∧ n ≤ 9223372036854775807 then some ⟨(Lib.itoa n).toArray⟩ else none
theorem strconv_Itoa.calls (a0 : Int) (r : ByteArray) (w : World) (h : strconv_Itoa.f a0 = some r) (hG : GW w) :
    Calls Tryz.prog 29 #[.int .i64 a0] w fun e w' => e = .returned (.string r) ∧ Below w.heap.size w w' := by
  (unfold strconv_Itoa.f at h); (by_cases hc : -9223372036854775808 ≤ a0 ∧ a0 ≤ 9223372036854775807)
  · (rw [if_pos hc] at h); (obtain rfl := Option.some.inj h); (refine (Tryz.strconv_Itoa a0 hc.1 hc.2 w hG.tab).mono ?_); (rintro e w' ⟨rfl, k, os, rfl⟩); (exact ⟨rfl, Lib.below_grow _ w (Nat.le_refl _) k os⟩)
  · rw [if_neg hc] at h; cases h
def numL (l : List UInt8) : Option Int := match Lib.atoiAll l with
  | .ok v => if 0 ≤ v ∧ Lib.itoa v = l then some v else none
  | _ => none
def numsB (l0 : List ByteArray) : Option (List Int) := l0.mapM fun s => numL s.data.toList
def element_numerals.f (l0 : List ByteArray) : Option (List Int × Bool) :=
  if l0.length ≤ 1000000 ∧ l0.all (fun s => decide (s.size ≤ 1000000)) = true then some (match numsB l0 with | some vs => (vs, true) | none => ([], false)) else none
theorem atoi_calls (s : ByteArray) (w : World) (hs : s.size ≤ 1000000) (hG : GW w) :
    Calls Tryz.prog 85 #[.string s] w fun e w' => Below w.heap.size w w' ∧
      ((∃ v, Lib.atoiAll s.data.toList = .ok v ∧ e = .returned (.tuple #[.int .i64 v, .nilIface])) ∨
       ((∀ v, Lib.atoiAll s.data.toList ≠ .ok v) ∧ ∃ n t p, e = .returned (.tuple #[.int .i64 n, .iface t (.pointer p)]))) := by
  cases h : Lib.atoiAll s.data.toList with
  | ok v =>
    (refine (Tryz.strconv_Atoi_ok s (by omega) v h w).mono ?_); (rintro e w' ⟨rfl, hw⟩); (refine ⟨?_, .inl ⟨v, rfl, rfl⟩⟩); (rcases hw with rfl | ⟨t, rfl⟩)
    · exact Below.refl _ _
    · exact bytes_below (Below.refl _ _) (Nat.le_refl _) _ _
  | range =>
    (obtain ⟨te, pe, hv⟩ := hG.ran); (refine (Tryz.strconv_Atoi_range s (by omega) h _ w hv (.inr ⟨te, pe, rfl⟩)).mono ?_); (rintro e w' ⟨N, rfl, -, -, hb⟩)
    exact ⟨hb, .inr ⟨fun v e => (by cases e), _, _, _, rfl⟩⟩
  | _ =>
    (obtain ⟨te, pe, hv⟩ := hG.syn); (refine (Tryz.strconv_Atoi_syntax s (by omega) h _ w hv (.inr ⟨te, pe, rfl⟩)).mono ?_); (rintro e w' ⟨N, rfl, -, -, hb⟩); (exact ⟨hb, .inr ⟨fun v e => (by cases e), _, _, _, rfl⟩⟩)
theorem atoi_bd (l : List UInt8) (v : Int) (h : Lib.atoiAll l = .ok v) : -9223372036854775808 ≤ v ∧ v ≤ 9223372036854775807 := by
  (unfold Lib.atoiAll at h); (split at h)
  · cases h
  · (dsimp only at h); (split at h)
    · cases h
    · cases h
    · split at h
      · cases h
      · split at h
        · cases h
        · (cases h); (split <;> omega)
theorem mapM_snoc {α β : Type} (f : α → Option β) : ∀ (p : List α) (x : α) (acc : List β), p.mapM f = some acc → (p ++ [x]).mapM f = (f x).map fun y => acc ++ [y] := by
  (intro p x acc h); (rw [List.mapM_append, h]); (simp only [List.mapM_cons, List.mapM_nil]); (cases f x <;> rfl)
theorem mapM_fail {α β : Type} (f : α → Option β) (p : List α) (x : α) (r : List α) (h : f x = none) : (p ++ x :: r).mapM f = none := by
  (rw [List.mapM_append]); (simp only [List.mapM_cons, h]); (cases p.mapM f <;> rfl)
set_option maxRecDepth 100000 in
set_option maxHeartbeats 8000000 in
theorem element_numerals.calls (A0 : Option Addr) (c0 : Nat) (l0 : List ByteArray) (r1 : List Int) (r2 : Bool) (w : World) (hr0 : Kd.C Kd.string w A0 l0.length l0) (hc0 : l0.length ≤ c0) (h : element_numerals.f l0 = some (r1, r2)) (hG : GW w) :
    Calls Tryz.prog 66 #[.slice A0 l0.length c0] w fun e w' => ∃ v0_ : Value, e = .returned (.tuple #[v0_, .bool r2]) ∧ Kd.R (Kd.int .i64) 3 w' w.heap.size (fun _ => True) v0_ r1 ∧ Below w.heap.size w w' := by
  (unfold element_numerals.f at h); (by_cases hc : l0.length ≤ 1000000 ∧ l0.all (fun s => decide (s.size ≤ 1000000)) = true)
  case neg => rw [if_neg hc] at h; cases h
  (rw [if_pos hc] at h); (obtain ⟨hl, hall⟩ := hc); (have HALL := Aside0.mk hall); (have HR := Aside0.mk hr0); (have HG := Aside0.mk hG); (have H := Aside0.mk (Option.some.inj h)); (clear h hr0 hG hall); (go_enter Tryz.func66, Tryz.ntmps66); (go_wp2_with fail); (go_loopg [4, 11] l0.length (fun g v4 v wx => ∃ (i : Nat) (acc : List Int), i ≤ l0.length ∧ v = .int .i64 (i : Int) ∧ i + g = l0.length ∧ Aside0 (numsB (l0.take i) = some acc) ∧ acc.length ≤ i ∧ Aside0 (Kd.R (Kd.int .i64) 3 wx w.heap.size (fun _ => True) v4 acc) ∧ Aside0 (Below w.heap.size w wx)))
  case atStart => exact ⟨0, [], by omega, rfl, by omega, ⟨rfl⟩, Nat.le_refl _, ⟨Kd.R_nil _ _ _ _ _⟩, ⟨Below.refl _ _⟩⟩
  case round =>
    obtain ⟨i, acc, hile, rfl, hig, HM, hal, HO, HB⟩ := hrel
    cases gk with
    | zero =>
      (obtain rfl : i = l0.length := by omega); (rw [List.take_length] at HM); (go_wp2); (go_ret2); (have hH := H.out); (rw [HM.out] at hH); (simp only [Prod.mk.injEq] at hH); (obtain ⟨rfl, rfl⟩ := hH)
      exact ⟨_, rfl, HO.out, HB.out⟩
    | succ g =>
      (have hi : i < l0.length := by omega); (obtain ⟨ad, rfl, hx⟩ := Kd.at_string (Kd.C_below HR.out HB.out) (i : Int) (by omega) (by omega)); (obtain ⟨s, hs⟩ : ∃ s, l0[i]'hi = s := ⟨_, rfl⟩); (have hrd : rdOf ByteArray.empty l0 (i : Int) = s := by rw [← hs]; simp [rdOf, hi]); (rw [hrd, Int.toNat_natCast] at hx); (have hsz : s.size ≤ 1000000 := of_decide_eq_true (List.all_eq_true.1 HALL.out s (by rw [← hs]; exact List.getElem_mem hi))); (have HS := Aside0.mk hs); (have hsp : Aside0 (l0 = l0.take i ++ s :: l0.drop (i + 1)) := ⟨by rw [← hs, ← List.drop_eq_getElem_cons hi, List.take_append_drop]⟩); (have hbad : Aside0 (numL s.data.toList = none → numsB l0 = none) := ⟨fun e => by rw [hsp.out]; exact mapM_fail _ _ _ _ e⟩); (clear hrd hs); (have q0 : (0 ≤ (i : Int)) = True := eq_true (by omega)); (have q1 : ((i : Int) < (l0.length : Int)) = True := eq_true (by omega)); (go_wp2_with fail); (refine (atoi_calls s _ hsz (GW.below HG.out HB.out)).mono ?_); (rintro e W1 ⟨hb1, hres⟩); (have hO1 := Aside0.mk (Kd.R_below HO.out hb1)); (have hB1 := Aside0.mk (HB.out.trans (hb1.mono HB.out.size))); (clear hb1 hx); (rcases hres with ⟨v, hv, rfl⟩ | ⟨hv, n, t, p, rfl⟩)
      · (have hvb := atoi_bd _ v hv); (have HV := Aside0.mk hv); (clear hv); (by_cases h0 : 0 ≤ v)
        · (have h0b : decide (v < 0) = false := decide_eq_false (by omega)); (by_cases hq : Lib.itoa v = s.data.toList)
          · (have hnum : numL s.data.toList = some v := by unfold numL; rw [HV.out]; dsimp only; rw [if_pos ⟨h0, hq⟩]); (have hqb : (((⟨(Lib.itoa v).toArray⟩ : ByteArray).toList) != s.toList) = false := by rw [Lib.toList_data, Lib.toList_data]; simp [hq])
            have hstep : numsB (l0.take (i + 1)) = some (acc ++ [v]) := by
              (rw [List.take_succ_eq_append_getElem hi, HS.out]); (unfold numsB); (rw [mapM_snoc _ _ _ acc HM.out, hnum]); (rfl)
            (have HST := Aside0.mk hstep); (clear hstep hnum); (go_wp2_with fail); (refine (strconv_Itoa.calls v _ _ (by unfold strconv_Itoa.f; rw [if_pos hvb]) (GW.below HG.out hB1.out)).mono ?_); (rintro e W2 ⟨rfl, hb2⟩); (have hO2 := Aside0.mk (Kd.R_below hO1.out hb2)); (have hB2 := Aside0.mk (hB1.out.trans (hb2.mono hB1.out.size))); (clear hb2 hO1 hB1); (go_wp2_with ((with_reducible refine gate_builtin (b := .append) (xs := #[.tmp 32, .tmp 34]) rfl ?_); at_builtin; refine Kd.R_append (Kd.int .i64) (w0 := w) w.heap.size rfl (.tmp 32) (.tmp 34) 47 3 (.int .i64 0) 8 rfl Tryz.underlying47 info3 rfl (by decide) (by decide) _ acc v [.int .i64 v] (fun _ => True) (fun _ => False) rfl (by first | (go_simp; done) | (go_simp; rfl)) rfl (fun _ hk => hk.elim) (fun _ _ => trivial) hO2.out hB2.out hB2.out.size (by omega) ?_)); (intro v1 w1 hR1 hb1 hg1 hat1); (go_wp2_with fail); (go_roundg g)
            case measure => omega
            case rel => exact ⟨i + 1, acc ++ [v], by omega, by simp, by omega, HST, by simp; omega, ⟨hR1⟩, ⟨hb1⟩⟩
          · (have hqb : (((⟨(Lib.itoa v).toArray⟩ : ByteArray).toList) != s.toList) = true := by rw [Lib.toList_data, Lib.toList_data]; simpa using hq); (have hq2 : (Lib.itoa v != s.toList) = true := by rw [Lib.toList_data]; simpa using hq); (have hq3 : (Lib.itoa v = s.toList) = False := by rw [Lib.toList_data]; exact eq_false hq); (have hq4 : (Lib.itoa v == s.toList) = false := by rw [Lib.toList_data]; simpa using hq); (have hnone : numL s.data.toList = none := by unfold numL; rw [HV.out]; dsimp only; rw [if_neg (fun h => hq h.2)]); (have hH := H.out); (rw [hbad.out hnone] at hH); (simp only [Prod.mk.injEq] at hH); (obtain ⟨rfl, rfl⟩ := hH); (clear hnone); (clear hq); (go_wp2_with fail); (refine (strconv_Itoa.calls v _ _ (by unfold strconv_Itoa.f; rw [if_pos hvb]) (GW.below HG.out hB1.out)).mono ?_); (rintro e W2 ⟨rfl, hb2⟩); (have hB2 := hB1.out.trans (hb2.mono hB1.out.size)); (clear hb2); (go_wp2); (go_ret2); (exact ⟨_, rfl, Kd.R_nil _ _ _ _ _, hB2⟩)
        · (have h0b : decide (v < 0) = true := decide_eq_true (by omega)); (have hnone : numL s.data.toList = none := by unfold numL; rw [HV.out]; dsimp only; rw [if_neg (fun h => h0 h.1)]); (have hH := H.out); (rw [hbad.out hnone] at hH); (simp only [Prod.mk.injEq] at hH); (obtain ⟨rfl, rfl⟩ := hH); (clear hnone); (clear h0); (go_wp2); (go_ret2); (exact ⟨_, rfl, Kd.R_nil _ _ _ _ _, hB1.out⟩)
      · have hnone : numL s.data.toList = none := by
          (unfold numL); (split)
          · next v e => exact absurd e (hv v)
          · rfl
        (have hH := H.out); (rw [hbad.out hnone] at hH); (simp only [Prod.mk.injEq] at hH); (obtain ⟨rfl, rfl⟩ := hH); (clear hnone hv); (go_wp2); (go_ret2); (exact ⟨_, rfl, Kd.R_nil _ _ _ _ _, hB1.out⟩)
end Go.Proofs.YtdaijpjjilmkkaaGreatDoor.Pr

/- Plain laws of collations: what FileText and ParseFile compute, as functions on lists. -/
namespace Go.Proofs.YtdaijpjjilmkkaaGreatDoor.Pr
open Go.RowKit Go.Proofs.YtdaijpjjilmkkaaGreatDoorW.PrintWords Go.Proofs.YtdaijpjjilmkkaaGreatDoorW.PrintLast Go.Proofs.YtdaijpjjilmkkaaGreatDoorW.PrintMore
set_option linter.unusedVariables false
set_option linter.unusedSimpArgs false
def validB (c : Int) : Bool := decide (0 ≤ c ∧ c ≤ 1114111)
def codesT (xs : List Int) : List UInt8 := Lib.join (xs.map hexT) [32]
def codesL (xs : List Int) : ByteArray × Int := if xs.all validB = true then (ofL (codesT xs), 0) else (ofL [], 1)
def codesP : List (List UInt8) → List Int → List Int × Int
  | [], acc => (acc, 0)
  | p :: r, acc => if (parseS p).2 = 0 then codesP r (acc ++ [(parseS p).1]) else ([], 3)
def readCodes (l : List UInt8) : List Int × Int := if l = [] then ([], 0) else codesP (cutAt 32 l) []
def i64B (n : Int) : Bool := decide (-9223372036854775808 ≤ n ∧ n ≤ 9223372036854775807)
def smallX (x : S49) : Bool := decide (x.f0.length ≤ 100000) && decide (x.f1.length ≤ 100000)
def smallG (g : S46) : Bool := decide (g.f0.size ≤ 100000) && i64B g.f1 && i64B g.f2
def smallF (l0 : List S49) (l1 : List S46) (a b c : Int) : Bool := decide (l0.length ≤ 100000) && decide (l1.length ≤ 100000) && l0.all smallX && l1.all smallG && i64B a && i64B b && i64B c
def negF (l1 : List S46) (a b c : Int) : Bool := decide (a < 0) || decide (b < 0) || decide (c < 0) || l1.any (fun g => decide (g.f1 < 0) || decide (g.f2 < 0))
def errF (l0 : List S49) (l1 : List S46) (a b c : Int) : Int :=
  if negF l1 a b c = true then 1 else if l1.all (fun g => nameB g.f0.data.toList) = true then (if l0.all (fun x => x.f0.all validB) = true then errE (l0.flatMap (·.f1)) else 1) else 6
def baseW : List UInt8 := [64, 98, 97, 115, 101]
def groupW : List UInt8 := [64, 103, 114, 111, 117, 112]
def wordsT (ps : List (List UInt8)) : List UInt8 := Lib.join ps [32] ++ [10]
def baseT (a b c : Int) : List UInt8 := wordsT [baseW, Lib.itoa a, Lib.itoa b, Lib.itoa c]
def groupT (g : S46) : List UInt8 := wordsT [groupW, g.f0.data.toList, Lib.itoa g.f1, Lib.itoa g.f2]
def entryT (x : S49) : List UInt8 := codesT x.f0 ++ ([59, 32] ++ (x.f1.flatMap elT ++ [10]))
def fileT (l0 : List S49) (l1 : List S46) (a b c : Int) : List UInt8 := baseT a b c ++ l1.flatMap groupT ++ l0.flatMap entryT
structure Rd where
  es : List S49
  gs : List S46
  b1 : Int
  b2 : Int
  b3 : Int
  bg : Bool
  ls : List Int
def Rd.none : Rd := ⟨[], [], 0, 0, 0, false, []⟩
def numsL (l : List (List UInt8)) : Option (List Int) := l.mapM numL
def lineB (st : Rd) (ps : List (List UInt8)) : Option Rd :=
  if ps.headD [] = baseW then (match numsL (ps.drop 1) with
    | some [x, y, z] => some ⟨st.es, st.gs, x, y, z, true, st.ls⟩
    | _ => Option.none) else Option.none
def lineG (st : Rd) (ps : List (List UInt8)) : Option Rd :=
  if ps.length = 4 ∧ nameB (ps.getD 1 []) = true ∧ st.es = [] then (match numsL (ps.drop 2) with
    | some [x, y] => some ⟨st.es, st.gs ++ [⟨ofL (ps.getD 1 []), x, y⟩], st.b1, st.b2, st.b3, st.bg, st.ls⟩
    | _ => Option.none) else Option.none
def lineE (st : Rd) (s : List UInt8) (n : Int) : Option Rd :=
  if (Lib.cut s [59, 32]).2.2 = true ∧ (readCodes (Lib.cut s [59, 32]).1).2 = 0 then (readE (Lib.cut s [59, 32]).2.1).map fun els => ⟨st.es ++ [⟨(readCodes (Lib.cut s [59, 32]).1).1, els⟩], st.gs, st.b1, st.b2, st.b3, st.bg, st.ls ++ [n]⟩ else Option.none
def lineS (st : Rd) (s : List UInt8) (n : Int) : Option Rd :=
  if st.bg = false then lineB st (cutAt 32 s) else if (cutAt 32 s).headD [] = groupW then lineG st (cutAt 32 s) else lineE st s n
def bareL (x : List UInt8) : List UInt8 := if (Lib.cut x [35]).2.2 = true then Lib.trimRightB (Lib.cut x [35]).1 32 else (Lib.cut x [35]).1
def linesOf (s : List UInt8) : List (List UInt8) := if (cutAt 10 s).getLastD [] = [] then (cutAt 10 s).dropLast else cutAt 10 s
def goL : List (List UInt8) → Nat → Rd → Rd ⊕ Nat
  | [], _, st => .inl st
  | x :: r, i, st => if bareL x = [] then goL r (i + 1) st else match lineS st (bareL x) ((i : Int) + 1) with
    | some st1 => goL r (i + 1) st1
    | Option.none => .inr (i + 1)
def badE : List S49 → List Int → Option (Int × Int)
  | x :: r, n :: m => if errE x.f1 = 0 then badE r m else some (errE x.f1, n)
  | _, _ => Option.none
abbrev Out := List S49 × List S46 × Int × Int × Int × Int × Int
def bad (e n : Int) : Out := ([], [], 0, 0, 0, e, n)
def endL (len : Nat) : Rd ⊕ Nat → Out
  | .inr n => bad 3 n
  | .inl st => if st.bg = false then bad 3 ((len : Int) + 1) else match badE st.es st.ls with
    | some (e, n) => bad e n
    | Option.none => (st.es, st.gs, st.b1, st.b2, st.b3, 0, 0)
def parseF (s : List UInt8) : Out := if 65536 < s.length then bad 2 0 else endL (linesOf s).length (goL (linesOf s) 0 Rd.none)
end Go.Proofs.YtdaijpjjilmkkaaGreatDoor.Pr
