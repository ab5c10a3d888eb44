/- The contract of lines.Text (at most 40 lines with at most 10 fields of at most 100 bytes): it returns the lines' text, or the first line's error. -/
import Derived.Test.YtljhhnpgpiglfaaDoorLCheck
import Derived.Test.YtljhhnpgpiglfaaDoorHBuild
import Derived.Test.YtljhhnpgpiglfaaDoorHHex
import Derived.Lib.Hide
namespace Go.Proofs.YtljhhnpgpiglfaaDoor.Pr
open Go.RowKit Go.Shelf Go.Proofs.YtljhhnpgpiglfaaDoorW.PrintWords Go.Proofs.YtljhhnpgpiglfaaDoorW.PrintLast Go.Proofs.YtljhhnpgpiglfaaDoorW.PrintMore
set_option linter.unusedVariables false
set_option linter.unusedSimpArgs false

def hexT (c : Int) : List UInt8 := (hexOf c).data.toList
def spanT (x : S35) : List UInt8 := hexT x.f1 ++ (if x.f2 = x.f1 then [] else [46, 46] ++ hexT x.f2)
def fieldsT (fs : List ByteArray) : List UInt8 := fs.flatMap fun f => [59, 32] ++ f.data.toList
def noteT (s : ByteArray) : List UInt8 := if s.data.toList = [] then [] else [32, 35, 32] ++ s.data.toList
def lineT (x : S35) : List UInt8 := spanT x ++ fieldsT x.f3 ++ noteT x.f4 ++ [10]
def checkX (x : S35) : Int := checkS x.f1 x.f2 x.f3 x.f4
def errT : List S35 → Int
  | [] => 0
  | x :: r => if checkX x = 0 then errT r else checkX x
def smallX (x : S35) : Bool := decide (x.f3.length ≤ 10) && x.f3.all (fun f => decide (f.size ≤ 100)) && decide (x.f4.size ≤ 100)
def smallT (l : List S35) : Bool := decide (l.length ≤ 40) && l.all smallX
def lines_Text.f (l0 : List S35) : Option (ByteArray × Int) := if smallT l0 = true then some (if errT l0 = 0 then (ofL (l0.flatMap lineT), 0) else (ofL [], errT l0)) else none

theorem hexT_len (c : Int) : (hexT c).length ≤ 6 := by
  unfold hexT hexOf
  split
  · have := (hexLen_le c.toNat).2
    simp [strOfNums, hexNums]
    exact this
  · simp
theorem fieldsT_len : ∀ fs : List ByteArray, (∀ f ∈ fs, f.size ≤ 100) → (fieldsT fs).length ≤ 102 * fs.length
  | [], _ => by simp [fieldsT]
  | f :: r, h => by
    have ih := fieldsT_len r (fun g hg => h g (by simp [hg]))
    have := h f (by simp)
    have e : f.data.toList.length = f.size := by simp
    unfold fieldsT at ih ⊢
    rw [List.flatMap_cons, List.length_append, List.length_append, e]
    simp at ih ⊢
    omega
theorem smallX_parts {x : S35} (h : smallX x = true) : x.f3.length ≤ 10 ∧ (∀ f ∈ x.f3, f.size ≤ 100) ∧ x.f4.size ≤ 100 := by
  unfold smallX at h
  simp only [Bool.and_eq_true, decide_eq_true_eq, List.all_eq_true] at h
  exact ⟨h.1.1, h.1.2, h.2⟩
theorem spanT_len (x : S35) : (spanT x).length ≤ 14 := by
  have h1 := hexT_len x.f1
  have h2 := hexT_len x.f2
  unfold spanT
  split
  · simp; omega
  · simp; omega
theorem noteT_len (s : ByteArray) : (noteT s).length ≤ s.size + 3 := by
  have e : s.data.toList.length = s.size := by simp
  unfold noteT
  split
  · simp
  · rw [List.length_append, e]; simp; omega
theorem lineT_len {x : S35} (h : smallX x = true) : (lineT x).length ≤ 2000 := by
  obtain ⟨h1, h2, h3⟩ := smallX_parts h
  have a := spanT_len x
  have b := fieldsT_len x.f3 h2
  have c := noteT_len x.f4
  unfold lineT
  simp only [List.length_append, List.length_singleton]
  omega
theorem textT_len : ∀ l : List S35, l.all smallX = true → (l.flatMap lineT).length ≤ 2000 * l.length
  | [], _ => by simp
  | x :: r, h => by
    rw [List.all_cons, Bool.and_eq_true] at h
    have ih := textT_len r h.2
    have := lineT_len h.1
    rw [List.flatMap_cons, List.length_append, List.length_cons]
    omega
theorem grown_of {w w1 : World} (h : Below w.heap.size w w1) : w.grownBy w1 none := ⟨h.os, h.tape, h.output, h.size, fun i hi _ => h.block i hi⟩
theorem errT_split : ∀ (p : List S35) (x : S35) (r : List S35), (∀ y ∈ p, checkX y = 0) → checkX x ≠ 0 → errT (p ++ x :: r) = checkX x
  | [], x, r, _, hx => by rw [List.nil_append, errT, if_neg hx]
  | y :: p, x, r, h, hx => by rw [List.cons_append, errT, if_pos (h y (by simp)), errT_split p x r (fun z hz => h z (by simp [hz])) hx]
theorem errT_all : ∀ (p : List S35), (∀ y ∈ p, checkX y = 0) → errT p = 0
  | [], _ => rfl
  | y :: p, h => by rw [errT, if_pos (h y (by simp)), errT_all p (fun z hz => h z (by simp [hz]))]
theorem cells_more {B b : Nat} {W : World} (a c d : List UInt8) (s : ByteArray) (hs : s.data.toList = c) (hd : a ++ c = d) (h : Bd.Is B b (Lib.byteCells a ++ Lib.strCells s) W) : Bd.Is B b (Lib.byteCells d) W := by
  subst hd
  rw [Lib.byteCells_append, ← hs]
  exact h
theorem bcells_len (a : List UInt8) : (Lib.byteCells a).length = a.length := Lib.byteCells_length a

set_option maxRecDepth 100000 in
set_option maxHeartbeats 8000000 in
theorem lines_Text.calls (A0 : Option Addr) (c0 : Nat) (l0 : List S35) (r1 : ByteArray) (r2 : Int) (w : World) (hr0 : Kd.C k35 w A0 l0.length l0) (hc0 : l0.length ≤ c0) (h : lines_Text.f l0 = some (r1, r2)) (hG : GW w) :
    Calls Tryd.prog 18 #[.slice A0 l0.length c0] w fun e w' => e = .returned (.tuple #[.string r1, .int .i64 r2]) ∧ Below w.heap.size w w' := by
  unfold lines_Text.f at h
  by_cases hsm : smallT l0 = true
  case neg => rw [if_neg hsm] at h; cases h
  rw [if_pos hsm] at h
  have hl40 : l0.length ≤ 40 ∧ l0.all smallX = true := by
    unfold smallT at hsm
    simpa [Bool.and_eq_true] using hsm
  obtain ⟨hl40, hall⟩ := hl40
  have HALL := Aside0.mk hall
  have HR := Aside0.mk hr0
  have HG := Aside0.mk hG
  have H := Aside0.mk (Option.some.inj h)
  clear h hr0 hG hsm hall
  have hu35 := Tryd.underlying35
  have h58 : ∀ w1 : World, w1.heap.size = w1.heap.size := fun _ => rfl
  go_enter Tryd.func18, Tryd.ntmps18
  go_wp2_with fail
  go_loopg [12] l0.length (fun g v wx => ∃ i : Nat, i ≤ l0.length ∧ v = .int .i64 (i : Int) ∧ i + g = l0.length ∧ Aside0 (∀ y ∈ l0.take i, checkX y = 0) ∧ Aside0 (Bd.Is w.heap.size w.heap.size (Lib.byteCells ((l0.take i).flatMap lineT)) wx) ∧ Aside0 (Below w.heap.size w wx))
  case atStart => exact ⟨0, by omega, rfl, by omega, ⟨by simp⟩, ⟨Bd.fresh w⟩, ⟨below_alloc (Below.refl _ _) _⟩⟩
  case round =>
    obtain ⟨i, hile, rfl, hig, HC, HI, HB⟩ := hrel
    cases gk with
    | zero =>
      obtain rfl : i = l0.length := by omega
      rw [List.take_length] at HI HC
      have herr := Aside0.mk (errT_all l0 HC.out)
      go_wp2_with fail
      refine (Tryd.Builder_String_any_k w.heap.size w.heap.size (l0.flatMap lineT) _ HI.out HB.out.size).mono ?_
      rintro e W9 ⟨rfl, hI9, hB9, hk9⟩
      go_wp2
      go_ret2
      have hH := H.out
      rw [herr.out, if_pos rfl] at hH
      simp only [Prod.mk.injEq] at hH
      obtain ⟨rfl, rfl⟩ := hH
      exact ⟨rfl, HB.out.trans hB9⟩
    | succ g =>
      have hi : i < l0.length := by omega
      obtain ⟨ad, A3, c3, rfl, hx0, hx1, hx2, hx3, hx4, l3, g3⟩ := at_T35 HR.out (i : Int) (by omega) (by omega)
      obtain ⟨x, hx⟩ : ∃ x, l0[i]'hi = x := ⟨_, rfl⟩
      rw [rd_at l0 i hi, hx, Int.toNat_natCast] at hx0 hx1 hx2 hx3 hx4
      rw [rd_at l0 i hi, hx] at l3 g3
      replace hx0 := (HB.out.cell (World.block_lt_of_cell? w _ hx0)).trans hx0
      replace hx1 := (HB.out.cell (World.block_lt_of_cell? w _ hx1)).trans hx1
      replace hx2 := (HB.out.cell (World.block_lt_of_cell? w _ hx2)).trans hx2
      replace hx3 := (HB.out.cell (World.block_lt_of_cell? w _ hx3)).trans hx3
      replace hx4 := (HB.out.cell (World.block_lt_of_cell? w _ hx4)).trans hx4
      have G3 := Aside0.mk g3
      have HX := Aside0.mk hx
      have hxs := smallX_parts (List.all_eq_true.1 HALL.out x (by rw [← hx]; exact List.getElem_mem hi))
      obtain ⟨s1, s2, s3⟩ := hxs
      have S2 := Aside0.mk s2
      clear hx g3 s2
      have q0 : (0 ≤ (i : Int)) = True := eq_true (by omega)
      have q1 : ((i : Int) < (l0.length : Int)) = True := eq_true (by omega)
      obtain ⟨K, hK⟩ := linec_ev x.f0 x.f1 x.f2 x.f3 x.f4 (by omega) (fun f hf => by have := S2.out f hf; omega) (by omega)
      have CK := Aside0.mk (hK K (Nat.le_refl _))
      clear hK
      have hbz : w.heap.size < wr.heap.size := by
        rcases HI.out with h | h
        · exact h.lt
        · exact h.lt
      obtain ⟨T, hT⟩ : ∃ T, (l0.take i).flatMap lineT = T := ⟨_, rfl⟩
      have hTl : T.length ≤ 80000 := by
        rw [← hT]
        refine Nat.le_trans (textT_len _ (List.all_eq_true.2 fun y hy => List.all_eq_true.1 HALL.out y (List.mem_of_mem_take hy))) ?_
        rw [List.length_take]
        omega
      rw [hT] at HI
      have HT := Aside0.mk hT
      clear hT
      go_wp2_with fail
      refine (lines_Check.calls K x.f0 x.f1 x.f2 A3 c3 x.f3 x.f4 _ _ (Kd.C_alloc (Kd.C_below G3.out HB.out) _) l3 CK.out (GW.below HG.out (below_alloc HB.out _))).mono ?_
      rintro e W1 ⟨rfl, hb1⟩
      have hr1 : Below wr.heap.size wr W1 := (below_alloc (Below.refl _ _) _).trans (hb1.mono (by simp))
      have hs1 : W1.heap[wr.heap.size]? = some (.cells #[.int .i64 x.f0, .int .i64 x.f1, .int .i64 x.f2, .slice A3 x.f3.length c3, .string x.f4] 35 (0, 0)) := (hb1.block _ (by simp)).trans (heap_alloc_new wr _)
      have hI1 : Bd.Is w.heap.size w.heap.size (Lib.byteCells T) W1 := Bd.kept HI.out (grown_of hr1) (by simp)
      have hB1 : Below w.heap.size w W1 := HB.out.trans (hr1.mono HB.out.size)
      clear hb1 hr1 hx0 hx1 hx2 hx3 hx4
      by_cases he : checkX x = 0
      · have he' : checkS x.f1 x.f2 x.f3 x.f4 = 0 := he
        have hc1 := blk_cell hs1 1
        rw [he']
        have HE := Aside0.mk he
        clear he he'
        go_wp2_with fail
        refine (codepoint_Hex.calls x.f1 (hexOf x.f1) _ rfl).mono ?_
        rintro e W2 ⟨rfl, hb2⟩
        have hs2 := (hb2.block _ (blk_lt hs1)).trans hs1
        have hI2 : Bd.Is w.heap.size w.heap.size (Lib.byteCells T) W2 := Bd.kept hI1 (grown_of hb2) (by simp)
        have hB2 : Below w.heap.size w W2 := hB1.trans (hb2.mono hB1.size)
        have hh1 : (hexOf x.f1).data.toList = hexT x.f1 := rfl
        have hh1l := hexT_len x.f1
        have hz1 : (hexOf x.f1).size = (hexT x.f1).length := by simp [hexT]
        clear hI1 hB1 hs1 hb2 hc1
        go_wp2_with fail
        refine (Bd.WriteString w.heap.size w.heap.size _ (hexOf x.f1) _ hI2 (by rw [bcells_len]; omega) hB2.size).mono ?_
        rintro e W3 ⟨rfl, hI3', hb3, hk3⟩
        have hI3 : Bd.Is w.heap.size w.heap.size (Lib.byteCells (T ++ hexT x.f1)) W3 := cells_more _ _ _ _ hh1 rfl hI3'
        have hs3 := hk3 _ _ hs2 (by intro e; have := Option.some.inj e; omega) (by rintro c fz h; cases h)
        have hB3 : Below w.heap.size w W3 := hB2.trans hb3
        have hc1 := blk_cell hs3 1
        have hc2 := blk_cell hs3 2
        clear hI3' hI2 hB2 hs2 hb3 hk3
        by_cases hne : x.f2 = x.f1
        · have hneb : (x.f2 != x.f1) = false := bne_eq_false_iff_eq.2 hne
          have hI4 : Bd.Is w.heap.size w.heap.size (Lib.byteCells (T ++ spanT x)) W3 := by unfold spanT; rw [if_pos hne, List.append_nil]; exact hI3
          clear hne hI3
          obtain ⟨P, hP⟩ : ∃ P, T ++ spanT x = P := ⟨_, rfl⟩
          have hPl : P.length ≤ 80014 := by rw [← hP, List.length_append]; have := spanT_len x; omega
          have HP := Aside0.mk hP
          rw [hP] at hI4
          clear hP
          have HI5 := Aside0.mk hI4
          have HB5 := Aside0.mk hB3
          have HS5 := Aside0.mk hs3
          have hf3 := blk_cell hs3 3
          go_wp2_with fail
          go_loopg [38] x.f3.length (fun g2 v wx => ∃ j : Nat, j ≤ x.f3.length ∧ v = .int .i64 (j : Int) ∧ j + g2 = x.f3.length ∧ Aside0 (Bd.Is w.heap.size w.heap.size (Lib.byteCells (P ++ fieldsT (x.f3.take j))) wx) ∧ Aside0 (Below w.heap.size w wx) ∧ Aside0 (wx.heap[wr.heap.size]? = some (.cells #[.int .i64 x.f0, .int .i64 x.f1, .int .i64 x.f2, .slice A3 x.f3.length c3, .string x.f4] 35 (0, 0))))
          case atStart => exact ⟨0, by omega, rfl, by omega, ⟨by simpa [fieldsT] using HI5.out⟩, HB5, HS5⟩
          case round =>
            obtain ⟨j, hjle, rfl, hjg, HI6, HB6, HS6⟩ := hrel
            cases gk with
            | zero =>
              obtain rfl : j = x.f3.length := by omega
              rw [List.take_length] at HI6
              have hf4 := blk_cell HS6.out 4
              have hzf := fieldsT_len x.f3 S2.out
              obtain ⟨Q, hQ⟩ : ∃ Q, P ++ fieldsT x.f3 = Q := ⟨_, rfl⟩
              have hQl : Q.length ≤ 90000 := by rw [← hQ, List.length_append]; omega
              rw [hQ] at HI6
              have HQ := Aside0.mk hQ
              clear hQ
              have hfin : ∀ N : List UInt8, N = noteT x.f4 → Q ++ N ++ [10] = (l0.take (i + 1)).flatMap lineT := by
                intro N hN
                rw [List.take_succ_eq_append_getElem hi, List.flatMap_append, HT.out, HX.out, hN, ← HQ.out, ← HP.out]
                unfold lineT
                simp
              have HF := Aside0.mk hfin
              clear hfin
              have hchk : ∀ y ∈ l0.take (i + 1), checkX y = 0 := by
                intro y hy
                rw [List.take_succ_eq_append_getElem hi, HX.out] at hy
                rcases List.mem_append.1 hy with hy | hy
                · exact HC.out y hy
                · rw [List.mem_singleton.1 hy]; exact HE.out
              have HK := Aside0.mk hchk
              clear hchk
              by_cases hn : x.f4.data.toList = []
              · have hemp : x.f4.toList.isEmpty = true := by rw [Lib.toList_data, hn]; rfl
                have hN : ([] : List UInt8) = noteT x.f4 := by unfold noteT; rw [if_pos hn]
                have HN := Aside0.mk hN
                clear hn hN
                go_wp2_with fail
                refine (Bd.WriteByte w.heap.size w.heap.size _ 10 _ HI6.out (by rw [bcells_len]; omega) HB6.out.size).mono ?_
                rintro e W8 ⟨rfl, hI8, hb8, hk8⟩
                go_wp2_with fail
                go_roundg g
                case measure => omega
                case rel => exact ⟨i + 1, by omega, by simp, by omega, HK, ⟨by rw [← HF.out [] HN.out, List.append_nil, Lib.byteCells_append]; exact hI8⟩, ⟨HB6.out.trans hb8⟩⟩
              · have hemp : x.f4.toList.isEmpty = false := by rw [Lib.toList_data]; simpa using hn
                have hN : [32, 35, 32] ++ x.f4.data.toList = noteT x.f4 := by unfold noteT; rw [if_neg hn]
                have HN := Aside0.mk hN
                clear hn hN
                have hbig4 : (9223372036854775807 < 3 + x.f4.size) = False := eq_false (by omega)
                go_wp2_with fail
                refine (Bd.WriteString w.heap.size w.heap.size _ ((⟨#[32, 35, 32]⟩ : ByteArray) ++ x.f4) _ HI6.out (by rw [bcells_len, ByteArray.size_append]; have : (⟨#[32, 35, 32]⟩ : ByteArray).size = 3 := rfl; omega) HB6.out.size).mono ?_
                rintro e W7 ⟨rfl, hI7', hb7, hk7⟩
                have hI7 : Bd.Is w.heap.size w.heap.size (Lib.byteCells (Q ++ ([32, 35, 32] ++ x.f4.data.toList))) W7 := cells_more _ _ _ _ (by simp) rfl hI7'
                have hB7 : Below w.heap.size w W7 := HB6.out.trans hb7
                have hz7 : x.f4.data.toList.length = x.f4.size := by simp
                clear hI7' hb7 hk7
                go_wp2_with fail
                refine (Bd.WriteByte w.heap.size w.heap.size _ 10 _ hI7 (by rw [bcells_len, List.length_append, List.length_append, hz7]; simp; omega) hB7.size).mono ?_
                rintro e W8 ⟨rfl, hI8, hb8, hk8⟩
                go_wp2_with fail
                go_roundg g
                case measure => omega
                case rel => exact ⟨i + 1, by omega, by simp, by omega, HK, ⟨by rw [← HF.out _ HN.out, Lib.byteCells_append]; exact hI8⟩, ⟨hB7.trans hb8⟩⟩
            | succ g2 =>
              have hjlt : j < x.f3.length := by omega
              obtain ⟨ad2, rfl, hy⟩ := Kd.at_string (Kd.C_below G3.out HB6.out) (j : Int) (by omega) (by omega)
              obtain ⟨f, hf⟩ : ∃ f, x.f3[j]'hjlt = f := ⟨_, rfl⟩
              have hrd : rdOf ByteArray.empty x.f3 (j : Int) = f := by rw [← hf]; simp [rdOf, hjlt]
              rw [hrd, Int.toNat_natCast] at hy
              have hfs : f.size ≤ 100 := S2.out f (by rw [← hf]; exact List.getElem_mem hjlt)
              have HFF := Aside0.mk hf
              clear hrd hf
              have q2 : (0 ≤ (j : Int)) = True := eq_true (by omega)
              have q3 : ((j : Int) < (x.f3.length : Int)) = True := eq_true (by omega)
              have hbig3 : (9223372036854775807 < 2 + f.size) = False := eq_false (by omega)
              have hzt := fieldsT_len (x.f3.take j) (fun h hh => S2.out h (List.mem_of_mem_take hh))
              rw [List.length_take] at hzt
              go_wp2_with fail
              refine (Bd.WriteString w.heap.size w.heap.size _ ((⟨#[59, 32]⟩ : ByteArray) ++ f) _ HI6.out (by rw [bcells_len, ByteArray.size_append, List.length_append]; have : (⟨#[59, 32]⟩ : ByteArray).size = 2 := rfl; omega) HB6.out.size).mono ?_
              rintro e W7 ⟨rfl, hI7', hb7, hk7⟩
              have hI7 : Bd.Is w.heap.size w.heap.size (Lib.byteCells (P ++ fieldsT (x.f3.take (j + 1)))) W7 := cells_more _ ([59, 32] ++ f.data.toList) _ _ (by simp) (by rw [List.take_succ_eq_append_getElem hjlt, HFF.out]; unfold fieldsT; simp) hI7'
              have hs7 := hk7 _ _ HS6.out (by intro e; have := Option.some.inj e; omega) (by rintro c fz h; cases h)
              have hB7 : Below w.heap.size w W7 := HB6.out.trans hb7
              clear hI7' hb7 hk7
              go_wp2_with fail
              go_roundg g2
              case measure => omega
              case rel => exact ⟨j + 1, by omega, by simp, by omega, ⟨hI7⟩, ⟨hB7⟩, ⟨hs7⟩⟩

        · have hneb : (x.f2 != x.f1) = true := bne_iff_ne.2 hne
          have hz2 : (hexOf x.f2).size = (hexT x.f2).length := by simp [hexT]
          have hh2l := hexT_len x.f2
          go_wp2_with fail
          refine (codepoint_Hex.calls x.f2 (hexOf x.f2) _ rfl).mono ?_
          rintro e W4 ⟨rfl, hb4⟩
          have hs4 := (hb4.block _ (blk_lt hs3)).trans hs3
          have hI4 : Bd.Is w.heap.size w.heap.size (Lib.byteCells (T ++ hexT x.f1)) W4 := Bd.kept hI3 (grown_of hb4) (by simp)
          have hB4 : Below w.heap.size w W4 := hB3.trans (hb4.mono hB3.size)
          have hbig : (9223372036854775807 < 2 + (hexOf x.f2).size) = False := eq_false (by omega)
          clear hI3 hB3 hs3 hb4 hc1 hc2
          go_wp2_with fail
          refine (Bd.WriteString w.heap.size w.heap.size _ ((⟨#[46, 46]⟩ : ByteArray) ++ hexOf x.f2) _ hI4 (by rw [bcells_len, ByteArray.size_append, List.length_append]; have : (⟨#[46, 46]⟩ : ByteArray).size = 2 := rfl; omega) hB4.size).mono ?_
          rintro e W5 ⟨rfl, hI5', hb5, hk5⟩
          have hI5 : Bd.Is w.heap.size w.heap.size (Lib.byteCells (T ++ spanT x)) W5 := cells_more _ ([46, 46] ++ hexT x.f2) _ _ (by simp [hexT]) (by unfold spanT; rw [if_neg hne, List.append_assoc]) hI5'
          have hs5 := hk5 _ _ hs4 (by intro e; have := Option.some.inj e; omega) (by rintro c fz h; cases h)
          have hB5 : Below w.heap.size w W5 := hB4.trans hb5
          clear hI5' hI4 hB4 hs4 hb5 hk5
          obtain ⟨P, hP⟩ : ∃ P, T ++ spanT x = P := ⟨_, rfl⟩
          have hPl : P.length ≤ 80014 := by rw [← hP, List.length_append]; have := spanT_len x; omega
          have HP := Aside0.mk hP
          rw [hP] at hI5
          clear hP
          have HI5 := Aside0.mk hI5
          have HB5 := Aside0.mk hB5
          have HS5 := Aside0.mk hs5
          have hf3 := blk_cell hs5 3
          go_wp2_with fail
          go_loopg [38] x.f3.length (fun g2 v wx => ∃ j : Nat, j ≤ x.f3.length ∧ v = .int .i64 (j : Int) ∧ j + g2 = x.f3.length ∧ Aside0 (Bd.Is w.heap.size w.heap.size (Lib.byteCells (P ++ fieldsT (x.f3.take j))) wx) ∧ Aside0 (Below w.heap.size w wx) ∧ Aside0 (wx.heap[wr.heap.size]? = some (.cells #[.int .i64 x.f0, .int .i64 x.f1, .int .i64 x.f2, .slice A3 x.f3.length c3, .string x.f4] 35 (0, 0))))
          case atStart => exact ⟨0, by omega, rfl, by omega, ⟨by simpa [fieldsT] using HI5.out⟩, HB5, HS5⟩
          case round =>
            obtain ⟨j, hjle, rfl, hjg, HI6, HB6, HS6⟩ := hrel
            cases gk with
            | zero =>
              obtain rfl : j = x.f3.length := by omega
              rw [List.take_length] at HI6
              have hf4 := blk_cell HS6.out 4
              have hzf := fieldsT_len x.f3 S2.out
              obtain ⟨Q, hQ⟩ : ∃ Q, P ++ fieldsT x.f3 = Q := ⟨_, rfl⟩
              have hQl : Q.length ≤ 90000 := by rw [← hQ, List.length_append]; omega
              rw [hQ] at HI6
              have HQ := Aside0.mk hQ
              clear hQ
              have hfin : ∀ N : List UInt8, N = noteT x.f4 → Q ++ N ++ [10] = (l0.take (i + 1)).flatMap lineT := by
                intro N hN
                rw [List.take_succ_eq_append_getElem hi, List.flatMap_append, HT.out, HX.out, hN, ← HQ.out, ← HP.out]
                unfold lineT
                simp
              have HF := Aside0.mk hfin
              clear hfin
              have hchk : ∀ y ∈ l0.take (i + 1), checkX y = 0 := by
                intro y hy
                rw [List.take_succ_eq_append_getElem hi, HX.out] at hy
                rcases List.mem_append.1 hy with hy | hy
                · exact HC.out y hy
                · rw [List.mem_singleton.1 hy]; exact HE.out
              have HK := Aside0.mk hchk
              clear hchk
              by_cases hn : x.f4.data.toList = []
              · have hemp : x.f4.toList.isEmpty = true := by rw [Lib.toList_data, hn]; rfl
                have hN : ([] : List UInt8) = noteT x.f4 := by unfold noteT; rw [if_pos hn]
                have HN := Aside0.mk hN
                clear hn hN
                go_wp2_with fail
                refine (Bd.WriteByte w.heap.size w.heap.size _ 10 _ HI6.out (by rw [bcells_len]; omega) HB6.out.size).mono ?_
                rintro e W8 ⟨rfl, hI8, hb8, hk8⟩
                go_wp2_with fail
                go_roundg g
                case measure => omega
                case rel => exact ⟨i + 1, by omega, by simp, by omega, HK, ⟨by rw [← HF.out [] HN.out, List.append_nil, Lib.byteCells_append]; exact hI8⟩, ⟨HB6.out.trans hb8⟩⟩
              · have hemp : x.f4.toList.isEmpty = false := by rw [Lib.toList_data]; simpa using hn
                have hN : [32, 35, 32] ++ x.f4.data.toList = noteT x.f4 := by unfold noteT; rw [if_neg hn]
                have HN := Aside0.mk hN
                clear hn hN
                have hbig4 : (9223372036854775807 < 3 + x.f4.size) = False := eq_false (by omega)
                go_wp2_with fail
                refine (Bd.WriteString w.heap.size w.heap.size _ ((⟨#[32, 35, 32]⟩ : ByteArray) ++ x.f4) _ HI6.out (by rw [bcells_len, ByteArray.size_append]; have : (⟨#[32, 35, 32]⟩ : ByteArray).size = 3 := rfl; omega) HB6.out.size).mono ?_
                rintro e W7 ⟨rfl, hI7', hb7, hk7⟩
                have hI7 : Bd.Is w.heap.size w.heap.size (Lib.byteCells (Q ++ ([32, 35, 32] ++ x.f4.data.toList))) W7 := cells_more _ _ _ _ (by simp) rfl hI7'
                have hB7 : Below w.heap.size w W7 := HB6.out.trans hb7
                have hz7 : x.f4.data.toList.length = x.f4.size := by simp
                clear hI7' hb7 hk7
                go_wp2_with fail
                refine (Bd.WriteByte w.heap.size w.heap.size _ 10 _ hI7 (by rw [bcells_len, List.length_append, List.length_append, hz7]; simp; omega) hB7.size).mono ?_
                rintro e W8 ⟨rfl, hI8, hb8, hk8⟩
                go_wp2_with fail
                go_roundg g
                case measure => omega
                case rel => exact ⟨i + 1, by omega, by simp, by omega, HK, ⟨by rw [← HF.out _ HN.out, Lib.byteCells_append]; exact hI8⟩, ⟨hB7.trans hb8⟩⟩
            | succ g2 =>
              have hjlt : j < x.f3.length := by omega
              obtain ⟨ad2, rfl, hy⟩ := Kd.at_string (Kd.C_below G3.out HB6.out) (j : Int) (by omega) (by omega)
              obtain ⟨f, hf⟩ : ∃ f, x.f3[j]'hjlt = f := ⟨_, rfl⟩
              have hrd : rdOf ByteArray.empty x.f3 (j : Int) = f := by rw [← hf]; simp [rdOf, hjlt]
              rw [hrd, Int.toNat_natCast] at hy
              have hfs : f.size ≤ 100 := S2.out f (by rw [← hf]; exact List.getElem_mem hjlt)
              have HFF := Aside0.mk hf
              clear hrd hf
              have q2 : (0 ≤ (j : Int)) = True := eq_true (by omega)
              have q3 : ((j : Int) < (x.f3.length : Int)) = True := eq_true (by omega)
              have hbig3 : (9223372036854775807 < 2 + f.size) = False := eq_false (by omega)
              have hzt := fieldsT_len (x.f3.take j) (fun h hh => S2.out h (List.mem_of_mem_take hh))
              rw [List.length_take] at hzt
              go_wp2_with fail
              refine (Bd.WriteString w.heap.size w.heap.size _ ((⟨#[59, 32]⟩ : ByteArray) ++ f) _ HI6.out (by rw [bcells_len, ByteArray.size_append, List.length_append]; have : (⟨#[59, 32]⟩ : ByteArray).size = 2 := rfl; omega) HB6.out.size).mono ?_
              rintro e W7 ⟨rfl, hI7', hb7, hk7⟩
              have hI7 : Bd.Is w.heap.size w.heap.size (Lib.byteCells (P ++ fieldsT (x.f3.take (j + 1)))) W7 := cells_more _ ([59, 32] ++ f.data.toList) _ _ (by simp) (by rw [List.take_succ_eq_append_getElem hjlt, HFF.out]; unfold fieldsT; simp) hI7'
              have hs7 := hk7 _ _ HS6.out (by intro e; have := Option.some.inj e; omega) (by rintro c fz h; cases h)
              have hB7 : Below w.heap.size w W7 := HB6.out.trans hb7
              clear hI7' hb7 hk7
              go_wp2_with fail
              go_roundg g2
              case measure => omega
              case rel => exact ⟨j + 1, by omega, by simp, by omega, ⟨hI7⟩, ⟨hB7⟩, ⟨hs7⟩⟩

      · have hce : (checkS x.f1 x.f2 x.f3 x.f4 != 0) = true := bne_iff_ne.2 he
        have hH := H.out
        have hsp : l0 = l0.take i ++ x :: l0.drop (i + 1) := by
          rw [← HX.out, ← List.drop_eq_getElem_cons hi, List.take_append_drop]
        have herr : errT l0 = checkX x := by
          have := errT_split (l0.take i) x (l0.drop (i + 1)) HC.out he
          rw [← hsp] at this
          exact this
        rw [herr, if_neg he] at hH
        simp only [Prod.mk.injEq] at hH
        obtain ⟨rfl, rfl⟩ := hH
        clear he hsp herr
        go_wp2_with fail
        go_ret2
        exact ⟨rfl, hB1⟩

end Go.Proofs.YtljhhnpgpiglfaaDoor.Pr
