/- Texts of the claim ElementComments, joined: Prx17, ELawR, ERef, EAlive, EInts, PElementComments. -/
import Derived.Test.YtdaijpjjilmkkaaDoorZElementComments22
import Derived.Test.YtdaijpjjilmkkaaDoorZElementComments29
import Derived.Test.YtdaijpjjilmkkaaDoorZElementComments24
import Derived.Test.YtdaijpjjilmkkaaDoorZElementComments30
import Derived.Test.YtdaijpjjilmkkaaDoorZElementComments31
import Derived.Test.YtdaijpjjilmkkaaDoorZElementComments26
import Derived.Test.YtdaijpjjilmkkaaDoorZElementComments28
import Derived.Lib.ItoaLen
import Derived.Test.YtdaijpjjilmkkaaDoorZElementComments23
-- Written by wip/drive.py of this claim's session, out of the translation. Not trusted: Lean checks it.
namespace Go.Proofs.YtdaijpjjilmkkaaDoor.Pr
open Go.RowKit Go.Proofs.YtdaijpjjilmkkaaDoorW.PrintWords Go.Proofs.YtdaijpjjilmkkaaDoorW.PrintLast Go.Proofs.YtdaijpjjilmkkaaDoorW.PrintMore
attribute [local go_sem] max2_int min2_int max_two min_two max_three min_three max_four min_four   -- for this text's walks alone
set_option linter.unusedVariables false
set_option linter.unusedSimpArgs false
attribute [local go_sem high] eqA43
mutual
def unicodetextlaw42_ElementComments.j0 : Nat → ByteArray → Bool → List (S52) → List (S49) → Int → Int → Int → Option (Bool)
  | 0, _, _, _, _, _, _, _ => none
  | k + 1, x1, x17, x329000, x329001, x329002, x329003, x329004 => if x17 = true then ((unicodetextlaw42_alive.f k).bind fun t330 => (some t330)) else (unicodetextlaw42_ElementComments.l0 k x1 0 x329000 x329001 x329002 x329003 x329004)
def unicodetextlaw42_ElementComments.l0 : Nat → ByteArray → Int → List (S52) → List (S49) → Int → Int → Int → Option (Bool)
  | 0, _, _, _, _, _, _, _ => none
  | k + 1, x1, x5, x329000, x329001, x329002, x329003, x329004 => if x5 < (x1.size : Int) then (if 0 ≤ x5 then (if (bt x1 x5) = 10 then ((unicodetextlaw42_alive.f k).bind fun t331 => (some t331)) else (unicodetextlaw42_ElementComments.l0 k x1 (wrap64 (x5 + 1)) x329000 x329001 x329002 x329003 x329004)) else (none)) else ((element_FileText.f x329000 x329001 x329002 x329003 x329004).bind fun bt332 => (if bt332.2 = 0 then (if 3 + x1.size ≤ 9223372036854775807 then (if ((⟨#[32, 32, 35]⟩ : ByteArray) ++ x1).size + 2 ≤ 9223372036854775807 then (if (((⟨#[32, 32, 35]⟩ : ByteArray) ++ x1) ++ (⟨#[10, 10]⟩ : ByteArray)).size + bt332.1.size ≤ 9223372036854775807 then (if ((((⟨#[32, 32, 35]⟩ : ByteArray) ++ x1) ++ (⟨#[10, 10]⟩ : ByteArray)) ++ bt332.1).size + 1 ≤ 9223372036854775807 then (if (((((⟨#[32, 32, 35]⟩ : ByteArray) ++ x1) ++ (⟨#[10, 10]⟩ : ByteArray)) ++ bt332.1) ++ (⟨#[35]⟩ : ByteArray)).size + x1.size ≤ 9223372036854775807 then ((element_ParseFile.f ((((((⟨#[32, 32, 35]⟩ : ByteArray) ++ x1) ++ (⟨#[10, 10]⟩ : ByteArray)) ++ bt332.1) ++ (⟨#[35]⟩ : ByteArray)) ++ x1)).bind fun bt334 => (if (bt334.2.2.2.2.2.1 == 0 && (bt334.2.2.2.2.2.2 == 0)) = true then ((unicodetextref42_Same.f k bt334.1 bt334.2.1 bt334.2.2.1 bt334.2.2.2.1 bt334.2.2.2.2.1 x329000 x329001 x329002 x329003 x329004).bind fun t347 => (if t347 = true then ((unicodetextlaw42_alive.f k).bind fun t348 => (some t348)) else (none))) else (none))) else (none)) else (none)) else (none)) else (none)) else (none)) else (if bt332.1.toList = ([] : List UInt8) then ((unicodetextlaw42_alive.f k).bind fun t349 => (some t349)) else (none))))
end
def unicodetextlaw42_ElementComments.f (k : Nat) (l0_0 : List (S52)) (l0_1 : List (S49)) (a0_2 : Int) (a0_3 : Int) (a0_4 : Int) (a1 : ByteArray) : Option (Bool) := (unicodetextref42_Few.f k l0_0 l0_1 a0_2 a0_3 a0_4).bind fun t329 => (if t329 = true then (unicodetextlaw42_ElementComments.j0 k a1 (decide ((a1.size : Int) > 40)) l0_0 l0_1 a0_2 a0_3 a0_4) else (unicodetextlaw42_ElementComments.j0 k a1 true l0_0 l0_1 a0_2 a0_3 a0_4))
theorem unicodetextlaw42_ElementComments.mono_l : ∀ k, (∀ y0 y1 y2 y3 y4 y5 y6, LeO (unicodetextlaw42_ElementComments.j0 k y0 y1 y2 y3 y4 y5 y6) (unicodetextlaw42_ElementComments.j0 (k + 1) y0 y1 y2 y3 y4 y5 y6)) ∧ (∀ y0 y1 y2 y3 y4 y5 y6, LeO (unicodetextlaw42_ElementComments.l0 k y0 y1 y2 y3 y4 y5 y6) (unicodetextlaw42_ElementComments.l0 (k + 1) y0 y1 y2 y3 y4 y5 y6))
  | 0 => ⟨fun _ _ _ _ _ _ _ r h => by simp [unicodetextlaw42_ElementComments.j0] at h, fun _ _ _ _ _ _ _ r h => by simp [unicodetextlaw42_ElementComments.l0] at h⟩
  | k + 1 => by
    obtain ⟨ih0, ih1⟩ := unicodetextlaw42_ElementComments.mono_l k
    refine ⟨?_, ?_⟩
    · intro y0 y1 y2 y3 y4 y5 y6
      unfold unicodetextlaw42_ElementComments.j0
      repeat' first
      | (with_reducible exact ih0 _ _ _ _ _ _ _)
      | (with_reducible exact ih1 _ _ _ _ _ _ _)
      | (with_reducible exact unicodetextlaw42_alive.mono _)
      | (with_reducible exact unicodetextref42_Few.mono _ _ _ _ _ _)
      | (with_reducible exact unicodetextref42_Same.mono _ _ _ _ _ _ _ _ _ _ _)
      | (with_reducible exact LeO.refl _)
      | (with_reducible exact LeO.none _)
      | (with_reducible refine LeO.ite ?_ ?_)
      | (with_reducible refine LeO.bind ?_ (fun _ => ?_))
      | exact ih0 _ _ _ _ _ _ _
      | exact ih1 _ _ _ _ _ _ _
      | exact unicodetextlaw42_alive.mono _
      | exact unicodetextref42_Few.mono _ _ _ _ _ _
      | exact unicodetextref42_Same.mono _ _ _ _ _ _ _ _ _ _ _
      | exact LeO.none _
      | refine LeO.ite ?_ ?_
      | refine LeO.bind ?_ (fun _ => ?_)
    · intro y0 y1 y2 y3 y4 y5 y6
      unfold unicodetextlaw42_ElementComments.l0
      repeat' first
      | (with_reducible exact ih0 _ _ _ _ _ _ _)
      | (with_reducible exact ih1 _ _ _ _ _ _ _)
      | (with_reducible exact unicodetextlaw42_alive.mono _)
      | (with_reducible exact unicodetextref42_Few.mono _ _ _ _ _ _)
      | (with_reducible exact unicodetextref42_Same.mono _ _ _ _ _ _ _ _ _ _ _)
      | (with_reducible exact LeO.refl _)
      | (with_reducible exact LeO.none _)
      | (with_reducible refine LeO.ite ?_ ?_)
      | (with_reducible refine LeO.bind ?_ (fun _ => ?_))
      | exact ih0 _ _ _ _ _ _ _
      | exact ih1 _ _ _ _ _ _ _
      | exact unicodetextlaw42_alive.mono _
      | exact unicodetextref42_Few.mono _ _ _ _ _ _
      | exact unicodetextref42_Same.mono _ _ _ _ _ _ _ _ _ _ _
      | exact LeO.none _
      | refine LeO.ite ?_ ?_
      | refine LeO.bind ?_ (fun _ => ?_)
theorem unicodetextlaw42_ElementComments.mono : ∀ a0 a1 a2 a3 a4 a5 k, LeO (unicodetextlaw42_ElementComments.f k a0 a1 a2 a3 a4 a5) (unicodetextlaw42_ElementComments.f (k + 1) a0 a1 a2 a3 a4 a5) := by
  intro a0 a1 a2 a3 a4 a5 k
  obtain ⟨ih0, ih1⟩ := unicodetextlaw42_ElementComments.mono_l k
  unfold unicodetextlaw42_ElementComments.f
  repeat' first
      | (with_reducible exact ih0 _ _ _ _ _ _ _)
      | (with_reducible exact ih1 _ _ _ _ _ _ _)
      | (with_reducible exact unicodetextlaw42_alive.mono _)
      | (with_reducible exact unicodetextref42_Few.mono _ _ _ _ _ _)
      | (with_reducible exact unicodetextref42_Same.mono _ _ _ _ _ _ _ _ _ _ _)
      | (with_reducible exact LeO.refl _)
      | (with_reducible exact LeO.none _)
      | (with_reducible refine LeO.ite ?_ ?_)
      | (with_reducible refine LeO.bind ?_ (fun _ => ?_))
      | exact ih0 _ _ _ _ _ _ _
      | exact ih1 _ _ _ _ _ _ _
      | exact unicodetextlaw42_alive.mono _
      | exact unicodetextref42_Few.mono _ _ _ _ _ _
      | exact unicodetextref42_Same.mono _ _ _ _ _ _ _ _ _ _ _
      | exact LeO.none _
      | refine LeO.ite ?_ ?_
      | refine LeO.bind ?_ (fun _ => ?_)
set_option maxHeartbeats 8000000 in
set_option maxRecDepth 100000 in
theorem unicodetextlaw42_ElementComments.calls (k : Nat) (A0_0 : Option Addr) (c0_0 : Nat) (l0_0 : List (S52)) (A0_1 : Option Addr) (c0_1 : Nat) (l0_1 : List (S49)) (a0_2 : Int) (a0_3 : Int) (a0_4 : Int) (a1 : ByteArray) (r : Bool) (w : World) (hr0_0 : Kd.C k52 w A0_0 l0_0.length l0_0) (hc0_0 : l0_0.length ≤ c0_0) (hr0_1 : Kd.C k49 w A0_1 l0_1.length l0_1) (hc0_1 : l0_1.length ≤ c0_1) (h : unicodetextlaw42_ElementComments.f k l0_0 l0_1 a0_2 a0_3 a0_4 a1 = some r) (hG : GW w) :
    Calls Tryd.prog 7 #[.agg #[.slice A0_0 l0_0.length c0_0, .slice A0_1 l0_1.length c0_1, .int .i64 a0_2, .int .i64 a0_3, .int .i64 a0_4], .string a1] w fun e w' => e = .returned (.bool r) ∧ Below w.heap.size w w' := by
  have HG := Aside0.mk hG
  clear hG
  have hu39 := Tryd.underlying39
  have hu43 := Tryd.underlying43
  have HR0_0 := Aside0.mk hr0_0
  have HC0_0 := Aside0.mk hc0_0
  clear hr0_0 hc0_0
  have HR0_1 := Aside0.mk hr0_1
  have HC0_1 := Aside0.mk hc0_1
  clear hr0_1 hc0_1
  have HB := Aside0.mk (Below.refl w.heap.size w)
  have H : ((unicodetextref42_Few.f k l0_0 l0_1 a0_2 a0_3 a0_4).bind fun t329 => (if t329 = true then (unicodetextlaw42_ElementComments.j0 k a1 (decide ((a1.size : Int) > 40)) l0_0 l0_1 a0_2 a0_3 a0_4) else (unicodetextlaw42_ElementComments.j0 k a1 true l0_0 l0_1 a0_2 a0_3 a0_4))) = some r := h
  clear h
  have HC3 := Aside0.mk H
  clear H
  go_enter Tryd.func7, Tryd.ntmps7
  go_upto_region 1 with (first | ((with_reducible refine gate_dst (N := 2) rfl ?_); (try (refine gate_guard (by rfl) ?_; dsimp only)); refine box_event ?hg (N := 2) ?hd (cs := #[.slice A0_0 l0_0.length c0_0, .slice A0_1 l0_1.length c0_1, .int .i64 a0_2, .int .i64 a0_3, .int .i64 a0_4]) (t := 39) ?hr ?_; (case hd => rfl); (case hg => rfl); (case hr => first | (go_simp; done) | (go_simp; rfl)); intro gb328 hg w4 hbox hb; have n0_ := Aside0.mk (below_step (by repeat (first | (with_reducible first | exact HB.out | apply below_alloc | apply pw_below_drewN | apply below_drew1) | exact HB.out)) hb); have n1_ := Aside0.mk (hbox); have n2_ := Aside0.mk ((by rw [hg]; exact (below_size (by repeat (first | (with_reducible first | exact HB.out | apply below_alloc | apply pw_below_drewN | apply below_drew1) | exact HB.out))) : w.heap.size ≤ gb328)); have n3_ := Aside0.mk ((by rw [hg]; exact (below_size (by repeat (first | (with_reducible first | exact HB.out | apply below_alloc | apply pw_below_drewN | apply below_drew1) | exact HB.out))) : w.heap.size ≤ gb328)); clear HB; have HB := n0_; have BK328 := n1_; have GW328 := n2_; have GE328 := n3_; clear n0_ n1_ n2_ n3_; clear hb hbox hg))
  (try simp only [Act.put, List.setIfInBounds_toArray, List.set_cons_zero, List.set_cons_succ])
  go_cut [17] (fun v17 wc => ∃ (kq : Nat) (x17_2 : Bool), v17 = .bool x17_2 ∧ Aside0 (unicodetextlaw42_ElementComments.j0 kq a1 x17_2 l0_0 l0_1 a0_2 a0_3 a0_4 = some r) ∧ Aside0 (kq ≤ k) ∧ Aside0 (wc.heap[gb328]? = some (.cells #[(.slice A0_0 l0_0.length c0_0), (.slice A0_1 l0_1.length c0_1), .int .i64 a0_2, .int .i64 a0_3, .int .i64 a0_4] 39 (0, 0))) ∧ Aside0 (Below w.heap.size w wc))
  case first =>
    have H := HC3.out
    clear HC3
    replace H := Option.bind_eq_some_iff.mp H
    obtain ⟨t329, A50, H⟩ := H
    replace H : (if t329 = true then (unicodetextlaw42_ElementComments.j0 k a1 (decide ((a1.size : Int) > 40)) l0_0 l0_1 a0_2 a0_3 a0_4) else (unicodetextlaw42_ElementComments.j0 k a1 true l0_0 l0_1 a0_2 a0_3 a0_4)) = some r := H
    have A5 := Aside0.mk A50
    clear A50
    by_cases c6 : t329 = true
    · subst c6
      have H1 : (unicodetextlaw42_ElementComments.j0 k a1 (decide ((a1.size : Int) > 40)) l0_0 l0_1 a0_2 a0_3 a0_4) = some r := by rw [if_pos rfl] at H; exact H
      clear H
      have H := H1
      clear H1
      have H' := Aside0.mk H
      clear H
      have hcz7_0 : w4.cell? ⟨gb328, 0, none⟩ = some (.slice A0_0 l0_0.length c0_0) := (blk_cell BK328.out 0).trans rfl
      have hcz7_1 : w4.cell? ⟨gb328, 1, none⟩ = some (.slice A0_1 l0_1.length c0_1) := (blk_cell BK328.out 1).trans rfl
      have hcz7_2 : w4.cell? ⟨gb328, 2, none⟩ = some (.int .i64 a0_2) := (blk_cell BK328.out 2).trans rfl
      have hcz7_3 : w4.cell? ⟨gb328, 3, none⟩ = some (.int .i64 a0_3) := (blk_cell BK328.out 3).trans rfl
      have hcz7_4 : w4.cell? ⟨gb328, 4, none⟩ = some (.int .i64 a0_4) := (blk_cell BK328.out 4).trans rfl
      have hfz7_0 := blk_frozen BK328.out 0
      have hfz7_1 := blk_frozen BK328.out 1
      have hfz7_2 := blk_frozen BK328.out 2
      have hfz7_3 := blk_frozen BK328.out 3
      have hfz7_4 := blk_frozen BK328.out 4
      go_wp2_with (first | ((with_reducible refine gate_callee (f := 16) rfl ?_); refine goesL_ (some 11) rfl rfl Tryd.func16 (by kernel_rfl) rfl #[.agg #[.slice A0_0 l0_0.length c0_0, .slice A0_1 l0_1.length c0_1, .int .i64 a0_2, .int .i64 a0_3, .int .i64 a0_4]] rfl (by (try simp only [List.map_toArray, List.map_cons, List.map_nil]); first | done | rfl | (simp only [List.length_drop, List.length_take]; rfl)) ?_; (with_reducible refine (unicodetextref42_Few.calls k _ _ l0_0 _ _ l0_1 a0_2 a0_3 a0_4 true _ ?side1 ?side2 ?side3 ?side4 A5.out).mono ?_); (case side1 => repeat (first | exact (Kd.C_below HR0_0.out HB.out) | (with_reducible refine Kd.C_alloc ?_ _) | (with_reducible refine Kd.C_drewN ?_ _) | (with_reducible refine Kd.C_drew ?_))); (case side2 => exact HC0_0.out); (case side3 => repeat (first | exact (Kd.C_below HR0_1.out HB.out) | (with_reducible refine Kd.C_alloc ?_ _) | (with_reducible refine Kd.C_drewN ?_ _) | (with_reducible refine Kd.C_drew ?_))); (case side4 => exact HC0_1.out); rintro e w8 ⟨rfl, hb⟩; refine ⟨_, rfl, ?_⟩; have n0_ := Aside0.mk (blk_below (g := gb328) (o := .cells #[.slice A0_0 l0_0.length c0_0, .slice A0_1 l0_1.length c0_1, .int .i64 a0_2, .int .i64 a0_3, .int .i64 a0_4] 39 (0, 0)) (by (with_reducible repeat (first | refine blk_drewN ?_ _ | refine blk_drew ?_ | refine blk_alloc ?_ _)); exact BK328.out) hb); have n1_ := Aside0.mk (below_step (by repeat (first | (with_reducible first | exact HB.out | apply below_alloc | apply pw_below_drewN | apply below_drew1 | refine below_set ?_ GE328.out) | exact HB.out)) hb); clear BK328; clear HB; have BK328 := n0_; have HB := n1_; clear n0_ n1_; (try clear hb); (try clear hb2); (try clear hk); (try clear hi)))
      go_meet
      case rel => exact ⟨_, (decide ((a1.size : Int) > 40)), (by first | rfl | (simp; done) | (simp [*]; done) | exact congrArg Value.bool (ne_nil_bool _) | exact congrArg Value.bool (eq_nil_bool _)), H', ⟨by first | omega | exact Nat.le_refl _⟩, ⟨by (with_reducible repeat (first | refine blk_drewN ?_ _ | refine blk_drew ?_ | refine blk_alloc ?_ _)); exact BK328.out⟩, ⟨by repeat (first | (with_reducible first | exact HB.out | apply below_alloc | apply pw_below_drewN | apply below_drew1 | refine below_set ?_ GE328.out) | exact HB.out)⟩⟩
    · replace c6 := Bool.eq_false_iff.mpr c6
      subst c6
      have H1 : (unicodetextlaw42_ElementComments.j0 k a1 true l0_0 l0_1 a0_2 a0_3 a0_4) = some r := by rw [if_neg (show ¬ (false = true) by decide)] at H; exact H
      clear H
      have H := H1
      clear H1
      have H' := Aside0.mk H
      clear H
      have hcz9_0 : w4.cell? ⟨gb328, 0, none⟩ = some (.slice A0_0 l0_0.length c0_0) := (blk_cell BK328.out 0).trans rfl
      have hcz9_1 : w4.cell? ⟨gb328, 1, none⟩ = some (.slice A0_1 l0_1.length c0_1) := (blk_cell BK328.out 1).trans rfl
      have hcz9_2 : w4.cell? ⟨gb328, 2, none⟩ = some (.int .i64 a0_2) := (blk_cell BK328.out 2).trans rfl
      have hcz9_3 : w4.cell? ⟨gb328, 3, none⟩ = some (.int .i64 a0_3) := (blk_cell BK328.out 3).trans rfl
      have hcz9_4 : w4.cell? ⟨gb328, 4, none⟩ = some (.int .i64 a0_4) := (blk_cell BK328.out 4).trans rfl
      have hfz9_0 := blk_frozen BK328.out 0
      have hfz9_1 := blk_frozen BK328.out 1
      have hfz9_2 := blk_frozen BK328.out 2
      have hfz9_3 := blk_frozen BK328.out 3
      have hfz9_4 := blk_frozen BK328.out 4
      go_wp2_with (first | ((with_reducible refine gate_callee (f := 16) rfl ?_); refine goesL_ (some 11) rfl rfl Tryd.func16 (by kernel_rfl) rfl #[.agg #[.slice A0_0 l0_0.length c0_0, .slice A0_1 l0_1.length c0_1, .int .i64 a0_2, .int .i64 a0_3, .int .i64 a0_4]] rfl (by (try simp only [List.map_toArray, List.map_cons, List.map_nil]); first | done | rfl | (simp only [List.length_drop, List.length_take]; rfl)) ?_; (with_reducible refine (unicodetextref42_Few.calls k _ _ l0_0 _ _ l0_1 a0_2 a0_3 a0_4 false _ ?side1 ?side2 ?side3 ?side4 A5.out).mono ?_); (case side1 => repeat (first | exact (Kd.C_below HR0_0.out HB.out) | (with_reducible refine Kd.C_alloc ?_ _) | (with_reducible refine Kd.C_drewN ?_ _) | (with_reducible refine Kd.C_drew ?_))); (case side2 => exact HC0_0.out); (case side3 => repeat (first | exact (Kd.C_below HR0_1.out HB.out) | (with_reducible refine Kd.C_alloc ?_ _) | (with_reducible refine Kd.C_drewN ?_ _) | (with_reducible refine Kd.C_drew ?_))); (case side4 => exact HC0_1.out); rintro e w10 ⟨rfl, hb⟩; refine ⟨_, rfl, ?_⟩; have n0_ := Aside0.mk (blk_below (g := gb328) (o := .cells #[.slice A0_0 l0_0.length c0_0, .slice A0_1 l0_1.length c0_1, .int .i64 a0_2, .int .i64 a0_3, .int .i64 a0_4] 39 (0, 0)) (by (with_reducible repeat (first | refine blk_drewN ?_ _ | refine blk_drew ?_ | refine blk_alloc ?_ _)); exact BK328.out) hb); have n1_ := Aside0.mk (below_step (by repeat (first | (with_reducible first | exact HB.out | apply below_alloc | apply pw_below_drewN | apply below_drew1 | refine below_set ?_ GE328.out) | exact HB.out)) hb); clear BK328; clear HB; have BK328 := n0_; have HB := n1_; clear n0_ n1_; (try clear hb); (try clear hb2); (try clear hk); (try clear hi)))
      go_meet
      case rel => exact ⟨_, (true), (by first | rfl | (simp; done) | (simp [*]; done) | exact congrArg Value.bool (ne_nil_bool _) | exact congrArg Value.bool (eq_nil_bool _)), H', ⟨by first | omega | exact Nat.le_refl _⟩, ⟨by (with_reducible repeat (first | refine blk_drewN ?_ _ | refine blk_drew ?_ | refine blk_alloc ?_ _)); exact BK328.out⟩, ⟨by repeat (first | (with_reducible first | exact HB.out | apply below_alloc | apply pw_below_drewN | apply below_drew1 | refine below_set ?_ GE328.out) | exact HB.out)⟩⟩
  case rest =>
    clear HC3
    try clear c1
    try clear p2
    try clear c6
    try clear c7
    try clear hcz7_0
    try clear hcz7_1
    try clear hcz7_2
    try clear hcz7_3
    try clear hcz7_4
    try clear hcz9_0
    try clear hcz9_1
    try clear hcz9_2
    try clear hcz9_3
    try clear hcz9_4
    try clear hfz7_0
    try clear hfz7_1
    try clear hfz7_2
    try clear hfz7_3
    try clear hfz7_4
    try clear hfz9_0
    try clear hfz9_1
    try clear hfz9_2
    try clear hfz9_3
    try clear hfz9_4
    obtain ⟨kq, x17_2, rfl, HA, HJ2, BK328, HB⟩ := hcut
    cases kq with
    | zero => exact absurd HA.out (by simp [unicodetextlaw42_ElementComments.j0])
    | succ kj2 =>
      have H := HA.out
      clear HA
      simp only [unicodetextlaw42_ElementComments.j0] at H
      by_cases c11 : x17_2 = true
      · subst c11
        have H1 : ((unicodetextlaw42_alive.f kj2).bind fun t330 => (some t330)) = some r := by rw [if_pos rfl] at H; exact H
        clear H
        have H := H1
        clear H1
        replace H := Option.bind_eq_some_iff.mp H
        obtain ⟨t330, A120, H⟩ := H
        replace H : (some t330) = some r := H
        have A12 := Aside0.mk A120
        clear A120
        obtain rfl := Option.some.inj H
        go_wp2_with (first | ((with_reducible refine gate_callee (f := 10) rfl ?_); refine goesL_ (some 18) rfl rfl Tryd.func10 (by kernel_rfl) rfl #[] rfl (by (try simp only [List.map_toArray, List.map_cons, List.map_nil]); first | done | rfl | (simp only [List.length_drop, List.length_take]; rfl)) ?_; (with_reducible refine (unicodetextlaw42_alive.calls kj2  t330 _ A12.out ?sideG).mono ?_); (case sideG => exact GW.below HG.out (by repeat (first | (with_reducible first | exact HB.out | apply below_alloc | apply pw_below_drewN | apply below_drew1 | refine below_set ?_ GE328.out) | exact HB.out))); rintro e w13 ⟨rfl, hb⟩; refine ⟨_, rfl, ?_⟩; have n0_ := Aside0.mk (blk_below (g := gb328) (o := .cells #[.slice A0_0 l0_0.length c0_0, .slice A0_1 l0_1.length c0_1, .int .i64 a0_2, .int .i64 a0_3, .int .i64 a0_4] 39 (0, 0)) (by (with_reducible repeat (first | refine blk_drewN ?_ _ | refine blk_drew ?_ | refine blk_alloc ?_ _)); exact BK328.out) hb); have n1_ := Aside0.mk (below_step (by repeat (first | (with_reducible first | exact HB.out | apply below_alloc | apply pw_below_drewN | apply below_drew1 | refine below_set ?_ GE328.out) | exact HB.out)) hb); clear BK328; clear HB; have BK328 := n0_; have HB := n1_; clear n0_ n1_; (try clear hb); (try clear hb2); (try clear hk); (try clear hi)))
        go_ret
        exact ⟨by first | rfl | (simp [errW_none, errW_some] <;> rfl) | (simp [*, errW_none, errW_some] <;> rfl), by repeat (first | (with_reducible first | exact HB.out | apply below_alloc | apply pw_below_drewN | apply below_drew1 | refine below_set ?_ GE328.out) | exact HB.out)⟩
      · replace c11 := Bool.eq_false_iff.mpr c11
        subst c11
        have H1 : (unicodetextlaw42_ElementComments.l0 kj2 a1 0 l0_0 l0_1 a0_2 a0_3 a0_4) = some r := by rw [if_neg (show ¬ (false = true) by decide)] at H; exact H
        clear H
        have H := H1
        clear H1
        have H' := Aside0.mk H
        clear H
        go_wp2
        go_loopg [5] kj2 (fun kq v5 w' => ∃ (x5_2 : Int), v5 = .int .i64 x5_2 ∧ Aside0 (unicodetextlaw42_ElementComments.l0 kq a1 x5_2 l0_0 l0_1 a0_2 a0_3 a0_4 = some r) ∧ Aside0 (kq ≤ kj2) ∧ Aside0 (w'.heap[gb328]? = some (.cells #[(.slice A0_0 l0_0.length c0_0), (.slice A0_1 l0_1.length c0_1), .int .i64 a0_2, .int .i64 a0_3, .int .i64 a0_4] 39 (0, 0))) ∧ Aside0 (Below w.heap.size w w'))
        case atStart => exact ⟨(0), (by first | rfl | (simp; done) | (simp [*]; done) | exact congrArg Value.bool (ne_nil_bool _) | exact congrArg Value.bool (eq_nil_bool _)), H', ⟨Nat.le_refl _⟩, ⟨by (with_reducible repeat (first | refine blk_drewN ?_ _ | refine blk_drew ?_ | refine blk_alloc ?_ _)); exact BK328.out⟩, ⟨by repeat (first | (with_reducible first | exact HB.out | apply below_alloc | apply pw_below_drewN | apply below_drew1 | refine below_set ?_ GE328.out) | exact HB.out)⟩⟩
        case round =>
          clear H'
          try clear c1
          try clear p2
          try clear c6
          try clear c7
          try clear c10
          try clear c11
          try clear hcz7_0
          try clear hcz7_1
          try clear hcz7_2
          try clear hcz7_3
          try clear hcz7_4
          try clear hcz9_0
          try clear hcz9_1
          try clear hcz9_2
          try clear hcz9_3
          try clear hcz9_4
          try clear hfz7_0
          try clear hfz7_1
          try clear hfz7_2
          try clear hfz7_3
          try clear hfz7_4
          try clear hfz9_0
          try clear hfz9_1
          try clear hfz9_2
          try clear hfz9_3
          try clear hfz9_4
          try clear p2
          obtain ⟨x5_2, rfl, HA, HK2, BK328, HB⟩ := hrel
          cases gk with
          | zero => exact absurd HA.out (by simp [unicodetextlaw42_ElementComments.l0])
          | succ k2 =>
            have H := HA.out
            clear HA
            simp only [unicodetextlaw42_ElementComments.l0] at H
            by_cases c14 : x5_2 < (a1.size : Int)
            · rw [if_pos c14] at H
              have c14b0 : decide (x5_2 < (a1.size : Int)) = true := decide_eq_true c14
              clear c14
              by_cases c15 : 0 ≤ x5_2
              · rw [if_pos c15] at H
                have c15b0 : decide (0 ≤ x5_2) = true := decide_eq_true c15
                clear c15
                by_cases c17 : (bt a1 x5_2) = 10
                · rw [if_pos c17] at H
                  have c17b0 : ((bt a1 x5_2) == 10) = true := beq_iff_eq.mpr c17
                  have c17b1 : ((bt a1 x5_2) != 10) = false := bne_eq_false_iff_eq.mpr c17
                  clear c17
                  replace H := Option.bind_eq_some_iff.mp H
                  obtain ⟨t331, A180, H⟩ := H
                  replace H : (some t331) = some r := H
                  have A18 := Aside0.mk A180
                  clear A180
                  obtain rfl := Option.some.inj H
                  have p16 : 0 ≤ (x5_2 : Int) := of_decide_eq_true (by first | (with_reducible assumption) | assumption)
                  have q16 : x5_2 < (a1.size : Int) := of_decide_eq_true (by first | (with_reducible assumption) | assumption)
                  have hx16 := bt_at a1 x5_2
                  replace p16 := eq_true p16
                  replace q16 := eq_true q16
                  go_wp2_with (first | ((with_reducible refine gate_callee (f := 10) rfl ?_); refine goesL_ (some 29) rfl rfl Tryd.func10 (by kernel_rfl) rfl #[] rfl (by (try simp only [List.map_toArray, List.map_cons, List.map_nil]); first | done | rfl | (simp only [List.length_drop, List.length_take]; rfl)) ?_; (with_reducible refine (unicodetextlaw42_alive.calls k2  t331 _ A18.out ?sideG).mono ?_); (case sideG => exact GW.below HG.out (by repeat (first | (with_reducible first | exact HB.out | apply below_alloc | apply pw_below_drewN | apply below_drew1 | refine below_set ?_ GE328.out) | exact HB.out))); rintro e w19 ⟨rfl, hb⟩; refine ⟨_, rfl, ?_⟩; have n0_ := Aside0.mk (blk_below (g := gb328) (o := .cells #[.slice A0_0 l0_0.length c0_0, .slice A0_1 l0_1.length c0_1, .int .i64 a0_2, .int .i64 a0_3, .int .i64 a0_4] 39 (0, 0)) (by (with_reducible repeat (first | refine blk_drewN ?_ _ | refine blk_drew ?_ | refine blk_alloc ?_ _)); exact BK328.out) hb); have n1_ := Aside0.mk (below_step (by repeat (first | (with_reducible first | exact HB.out | apply below_alloc | apply pw_below_drewN | apply below_drew1 | refine below_set ?_ GE328.out) | exact HB.out)) hb); clear BK328; clear HB; have BK328 := n0_; have HB := n1_; clear n0_ n1_; (try clear hb); (try clear hb2); (try clear hk); (try clear hi)))
                  go_ret
                  exact ⟨by first | rfl | (simp [errW_none, errW_some] <;> rfl) | (simp [*, errW_none, errW_some] <;> rfl), by repeat (first | (with_reducible first | exact HB.out | apply below_alloc | apply pw_below_drewN | apply below_drew1 | refine below_set ?_ GE328.out) | exact HB.out)⟩
                · rw [if_neg c17] at H
                  have c17b0 : ((bt a1 x5_2) == 10) = false := beq_eq_false_iff_ne.mpr c17
                  have c17b1 : ((bt a1 x5_2) != 10) = true := bne_iff_ne.mpr c17
                  have H' := Aside0.mk H
                  clear H
                  have p16 : 0 ≤ (x5_2 : Int) := of_decide_eq_true (by first | (with_reducible assumption) | assumption)
                  have q16 : x5_2 < (a1.size : Int) := of_decide_eq_true (by first | (with_reducible assumption) | assumption)
                  have hx16 := bt_at a1 x5_2
                  replace p16 := eq_true p16
                  replace q16 := eq_true q16
                  go_wp2
                  go_roundg k2
                  case measure => have := HJ2.out; have := HK2.out; omega
                  case rel => exact ⟨(wrap64 (x5_2 + 1)), (by first | rfl | (simp; done) | (simp [*]; done) | exact congrArg Value.bool (ne_nil_bool _) | exact congrArg Value.bool (eq_nil_bool _)), H', ⟨by have := HJ2.out; have := HK2.out; omega⟩, ⟨by (with_reducible repeat (first | refine blk_drewN ?_ _ | refine blk_drew ?_ | refine blk_alloc ?_ _)); exact BK328.out⟩, ⟨by repeat (first | (with_reducible first | exact HB.out | apply below_alloc | apply pw_below_drewN | apply below_drew1 | refine below_set ?_ GE328.out) | exact HB.out)⟩⟩
              · rw [if_neg c15] at H
                exact absurd H (by simp)
            · rw [if_neg c14] at H
              have c14b0 : decide (x5_2 < (a1.size : Int)) = false := decide_eq_false c14
              clear c14
              replace H := Option.bind_eq_some_iff.mp H
              obtain ⟨⟨t332, t333⟩, A200, H⟩ := H
              replace H : (if t333 = 0 then (if 3 + a1.size ≤ 9223372036854775807 then (if ((⟨#[32, 32, 35]⟩ : ByteArray) ++ a1).size + 2 ≤ 9223372036854775807 then (if (((⟨#[32, 32, 35]⟩ : ByteArray) ++ a1) ++ (⟨#[10, 10]⟩ : ByteArray)).size + t332.size ≤ 9223372036854775807 then (if ((((⟨#[32, 32, 35]⟩ : ByteArray) ++ a1) ++ (⟨#[10, 10]⟩ : ByteArray)) ++ t332).size + 1 ≤ 9223372036854775807 then (if (((((⟨#[32, 32, 35]⟩ : ByteArray) ++ a1) ++ (⟨#[10, 10]⟩ : ByteArray)) ++ t332) ++ (⟨#[35]⟩ : ByteArray)).size + a1.size ≤ 9223372036854775807 then ((element_ParseFile.f ((((((⟨#[32, 32, 35]⟩ : ByteArray) ++ a1) ++ (⟨#[10, 10]⟩ : ByteArray)) ++ t332) ++ (⟨#[35]⟩ : ByteArray)) ++ a1)).bind fun bt334 => (if (bt334.2.2.2.2.2.1 == 0 && (bt334.2.2.2.2.2.2 == 0)) = true then ((unicodetextref42_Same.f k2 bt334.1 bt334.2.1 bt334.2.2.1 bt334.2.2.2.1 bt334.2.2.2.2.1 l0_0 l0_1 a0_2 a0_3 a0_4).bind fun t347 => (if t347 = true then ((unicodetextlaw42_alive.f k2).bind fun t348 => (some t348)) else (none))) else (none))) else (none)) else (none)) else (none)) else (none)) else (none)) else (if t332.toList = ([] : List UInt8) then ((unicodetextlaw42_alive.f k2).bind fun t349 => (some t349)) else (none))) = some r := H
              have A20 := Aside0.mk A200
              clear A200
              by_cases c21 : t333 = 0
              · rw [if_pos c21] at H
                have c21b0 : (t333 == 0) = true := beq_iff_eq.mpr c21
                have c21b1 : (t333 != 0) = false := bne_eq_false_iff_eq.mpr c21
                clear c21
                by_cases c22 : 3 + a1.size ≤ 9223372036854775807
                · rw [if_pos c22] at H
                  have c22b0 := eq_true c22
                  have c22b1 : decide (3 + a1.size ≤ 9223372036854775807) = true := decide_eq_true c22
                  try have c22b2 : (9223372036854775807 < 3 + a1.size) = False := eq_false (Nat.not_lt.2 c22)
                  by_cases c23 : ((⟨#[32, 32, 35]⟩ : ByteArray) ++ a1).size + 2 ≤ 9223372036854775807
                  · rw [if_pos c23] at H
                    have c23b0 := eq_true c23
                    have c23b1 : decide (((⟨#[32, 32, 35]⟩ : ByteArray) ++ a1).size + 2 ≤ 9223372036854775807) = true := decide_eq_true c23
                    try have c23b2 : (9223372036854775807 < ((⟨#[32, 32, 35]⟩ : ByteArray) ++ a1).size + 2) = False := eq_false (Nat.not_lt.2 c23)
                    (try (have c23q : 3 + a1.size + 2 ≤ 9223372036854775807 := by (have h_ := c23; simp only [ByteArray.size_append] at h_; exact h_)))
                    by_cases c24 : (((⟨#[32, 32, 35]⟩ : ByteArray) ++ a1) ++ (⟨#[10, 10]⟩ : ByteArray)).size + t332.size ≤ 9223372036854775807
                    · rw [if_pos c24] at H
                      have c24b0 := eq_true c24
                      have c24b1 : decide ((((⟨#[32, 32, 35]⟩ : ByteArray) ++ a1) ++ (⟨#[10, 10]⟩ : ByteArray)).size + t332.size ≤ 9223372036854775807) = true := decide_eq_true c24
                      try have c24b2 : (9223372036854775807 < (((⟨#[32, 32, 35]⟩ : ByteArray) ++ a1) ++ (⟨#[10, 10]⟩ : ByteArray)).size + t332.size) = False := eq_false (Nat.not_lt.2 c24)
                      (try (have c24q : 3 + a1.size + 2 + t332.size ≤ 9223372036854775807 := by (have h_ := c24; simp only [ByteArray.size_append] at h_; exact h_)))
                      by_cases c25 : ((((⟨#[32, 32, 35]⟩ : ByteArray) ++ a1) ++ (⟨#[10, 10]⟩ : ByteArray)) ++ t332).size + 1 ≤ 9223372036854775807
                      · rw [if_pos c25] at H
                        have c25b0 := eq_true c25
                        have c25b1 : decide (((((⟨#[32, 32, 35]⟩ : ByteArray) ++ a1) ++ (⟨#[10, 10]⟩ : ByteArray)) ++ t332).size + 1 ≤ 9223372036854775807) = true := decide_eq_true c25
                        try have c25b2 : (9223372036854775807 < ((((⟨#[32, 32, 35]⟩ : ByteArray) ++ a1) ++ (⟨#[10, 10]⟩ : ByteArray)) ++ t332).size + 1) = False := eq_false (Nat.not_lt.2 c25)
                        (try (have c25q : 3 + a1.size + 2 + t332.size + 1 ≤ 9223372036854775807 := by (have h_ := c25; simp only [ByteArray.size_append] at h_; exact h_)))
                        by_cases c26 : (((((⟨#[32, 32, 35]⟩ : ByteArray) ++ a1) ++ (⟨#[10, 10]⟩ : ByteArray)) ++ t332) ++ (⟨#[35]⟩ : ByteArray)).size + a1.size ≤ 9223372036854775807
                        · rw [if_pos c26] at H
                          have c26b0 := eq_true c26
                          have c26b1 : decide ((((((⟨#[32, 32, 35]⟩ : ByteArray) ++ a1) ++ (⟨#[10, 10]⟩ : ByteArray)) ++ t332) ++ (⟨#[35]⟩ : ByteArray)).size + a1.size ≤ 9223372036854775807) = true := decide_eq_true c26
                          try have c26b2 : (9223372036854775807 < (((((⟨#[32, 32, 35]⟩ : ByteArray) ++ a1) ++ (⟨#[10, 10]⟩ : ByteArray)) ++ t332) ++ (⟨#[35]⟩ : ByteArray)).size + a1.size) = False := eq_false (Nat.not_lt.2 c26)
                          (try (have c26q : 3 + a1.size + 2 + t332.size + 1 + a1.size ≤ 9223372036854775807 := by (have h_ := c26; simp only [ByteArray.size_append] at h_; exact h_)))
                          replace H := Option.bind_eq_some_iff.mp H
                          obtain ⟨⟨t334, t337, t340, t341, t342, t343, t344⟩, A270, H⟩ := H
                          replace H : (if (t343 == 0 && (t344 == 0)) = true then ((unicodetextref42_Same.f k2 t334 t337 t340 t341 t342 l0_0 l0_1 a0_2 a0_3 a0_4).bind fun t347 => (if t347 = true then ((unicodetextlaw42_alive.f k2).bind fun t348 => (some t348)) else (none))) else (none)) = some r := H
                          have A27 := Aside0.mk A270
                          clear A270
                          by_cases c28 : (t343 == 0 && (t344 == 0)) = true
                          · rw [if_pos c28] at H
                            have c28b0 : (t343 == 0 && (t344 == 0)) = true := c28
                            (try (have c28b1 : decide (t343 = 0 && (t344 == 0)) = true := by simpa using c28))
                            (try (have c28b2 : (t343 == 0 && (t344 == 0)) = true := by simpa using c28))
                            clear c28
                            replace H := Option.bind_eq_some_iff.mp H
                            obtain ⟨t347, A290, H⟩ := H
                            replace H : (if t347 = true then ((unicodetextlaw42_alive.f k2).bind fun t348 => (some t348)) else (none)) = some r := H
                            have A29 := Aside0.mk A290
                            clear A290
                            by_cases c30 : t347 = true
                            · subst c30
                              have H1 : ((unicodetextlaw42_alive.f k2).bind fun t348 => (some t348)) = some r := by rw [if_pos rfl] at H; exact H
                              clear H
                              have H := H1
                              clear H1
                              replace H := Option.bind_eq_some_iff.mp H
                              obtain ⟨t348, A310, H⟩ := H
                              replace H : (some t348) = some r := H
                              have A31 := Aside0.mk A310
                              clear A310
                              obtain rfl := Option.some.inj H
                              have hcz32_0 : wr.cell? ⟨gb328, 0, none⟩ = some (.slice A0_0 l0_0.length c0_0) := (blk_cell BK328.out 0).trans rfl
                              have hcz32_1 : wr.cell? ⟨gb328, 1, none⟩ = some (.slice A0_1 l0_1.length c0_1) := (blk_cell BK328.out 1).trans rfl
                              have hcz32_2 : wr.cell? ⟨gb328, 2, none⟩ = some (.int .i64 a0_2) := (blk_cell BK328.out 2).trans rfl
                              have hcz32_3 : wr.cell? ⟨gb328, 3, none⟩ = some (.int .i64 a0_3) := (blk_cell BK328.out 3).trans rfl
                              have hcz32_4 : wr.cell? ⟨gb328, 4, none⟩ = some (.int .i64 a0_4) := (blk_cell BK328.out 4).trans rfl
                              have hfz32_0 := blk_frozen BK328.out 0
                              have hfz32_1 := blk_frozen BK328.out 1
                              have hfz32_2 := blk_frozen BK328.out 2
                              have hfz32_3 := blk_frozen BK328.out 3
                              have hfz32_4 := blk_frozen BK328.out 4
                              go_wp2_with (first | ((with_reducible refine gate_callee (f := 17) rfl ?_); refine goesL_ (some 32) rfl rfl Tryd.func17 (by kernel_rfl) rfl #[.agg #[.slice A0_0 l0_0.length c0_0, .slice A0_1 l0_1.length c0_1, .int .i64 a0_2, .int .i64 a0_3, .int .i64 a0_4]] rfl (by (try simp only [List.map_toArray, List.map_cons, List.map_nil]); first | done | rfl | (simp only [List.length_drop, List.length_take]; rfl)) ?_; (with_reducible refine (element_FileText.calls _ _ l0_0 _ _ l0_1 a0_2 a0_3 a0_4 t332 t333 _ ?side1 ?side2 ?side3 ?side4 A20.out ?sideG).mono ?_); (case sideG => exact GW.below HG.out (by repeat (first | (with_reducible first | exact HB.out | apply below_alloc | apply pw_below_drewN | apply below_drew1 | refine below_set ?_ GE328.out) | exact HB.out))); (case side1 => repeat (first | exact (Kd.C_below HR0_0.out HB.out) | (with_reducible refine Kd.C_alloc ?_ _) | (with_reducible refine Kd.C_drewN ?_ _) | (with_reducible refine Kd.C_drew ?_))); (case side2 => exact HC0_0.out); (case side3 => repeat (first | exact (Kd.C_below HR0_1.out HB.out) | (with_reducible refine Kd.C_alloc ?_ _) | (with_reducible refine Kd.C_drewN ?_ _) | (with_reducible refine Kd.C_drew ?_))); (case side4 => exact HC0_1.out); rintro e w33 ⟨rfl, hb⟩; refine ⟨_, rfl, ?_⟩; have n0_ := Aside0.mk (blk_below (g := gb328) (o := .cells #[.slice A0_0 l0_0.length c0_0, .slice A0_1 l0_1.length c0_1, .int .i64 a0_2, .int .i64 a0_3, .int .i64 a0_4] 39 (0, 0)) (by (with_reducible repeat (first | refine blk_drewN ?_ _ | refine blk_drew ?_ | refine blk_alloc ?_ _)); exact BK328.out) hb); have n1_ := Aside0.mk (below_step (by repeat (first | (with_reducible first | exact HB.out | apply below_alloc | apply pw_below_drewN | apply below_drew1 | refine below_set ?_ GE328.out) | exact HB.out)) hb); clear BK328; clear HB; have BK328 := n0_; have HB := n1_; clear n0_ n1_; (try clear hb); (try clear hb2); (try clear hk); (try clear hi)) | ((with_reducible refine gate_callee (f := 18) rfl ?_); refine goesL_ (some 51) rfl rfl Tryd.func18 (by kernel_rfl) rfl #[.string ((((((⟨#[32, 32, 35]⟩ : ByteArray) ++ a1) ++ (⟨#[10, 10]⟩ : ByteArray)) ++ t332) ++ (⟨#[35]⟩ : ByteArray)) ++ a1)] rfl (by (try simp only [List.map_toArray, List.map_cons, List.map_nil]); first | done | rfl | (simp only [List.length_drop, List.length_take]; rfl)) ?_; (with_reducible refine (element_ParseFile.calls ((((((⟨#[32, 32, 35]⟩ : ByteArray) ++ a1) ++ (⟨#[10, 10]⟩ : ByteArray)) ++ t332) ++ (⟨#[35]⟩ : ByteArray)) ++ a1) t334 t337 t340 t341 t342 t343 t344 _ A27.out ?sideG).mono ?_); (case sideG => exact GW.below HG.out (by repeat (first | (with_reducible first | exact HB.out | apply below_alloc | apply pw_below_drewN | apply below_drew1 | refine below_set ?_ GE328.out) | exact HB.out))); rintro e w34 ⟨v335, v338, rfl, ho0, ho1, hb⟩; refine ⟨_, rfl, ?_⟩; have n0_ := Aside0.mk (Kd.S_lower ho0 (below_size (by repeat (first | (with_reducible first | exact HB.out | apply below_alloc | apply pw_below_drewN | apply below_drew1 | refine below_set ?_ GE328.out) | exact HB.out)))); have n1_ := Aside0.mk (Kd.R_lower ho1 (below_size (by repeat (first | (with_reducible first | exact HB.out | apply below_alloc | apply pw_below_drewN | apply below_drew1 | refine below_set ?_ GE328.out) | exact HB.out)))); have n2_ := Aside0.mk (blk_below (g := gb328) (o := .cells #[.slice A0_0 l0_0.length c0_0, .slice A0_1 l0_1.length c0_1, .int .i64 a0_2, .int .i64 a0_3, .int .i64 a0_4] 39 (0, 0)) (by (with_reducible repeat (first | refine blk_drewN ?_ _ | refine blk_drew ?_ | refine blk_alloc ?_ _)); exact BK328.out) hb); have n3_ := Aside0.mk (below_step (by repeat (first | (with_reducible first | exact HB.out | apply below_alloc | apply pw_below_drewN | apply below_drew1 | refine below_set ?_ GE328.out) | exact HB.out)) hb); clear BK328; clear HB; have HO336 := n0_; have HO339 := n1_; have BK328 := n2_; have HB := n3_; clear n0_ n1_ n2_ n3_; (try clear hb); (try clear hb2); (try clear hk); (try clear hi); (try clear ho0); (try clear ho1)) | ((with_reducible refine gate_dst (N := 8) rfl ?_); (try (refine gate_guard (by rfl) ?_; dsimp only)); refine box_event ?hg (N := 8) ?hd (cs := #[.slice none 0 0, .slice none 0 0, .int .i64 0, .int .i64 0, .int .i64 0]) (t := 39) ?hr ?_; (case hd => rfl); (case hg => rfl); (case hr => first | (go_simp; done) | (go_simp; rfl)); intro gb345 hg w35 hbox hb; have n0_ := Aside0.mk (Kd.S_below (by (with_reducible repeat (first | apply Kd.S_alloc | apply Kd.S_drewN | apply Kd.S_drew)); exact HO336.out) hb); have n1_ := Aside0.mk (Kd.R_below (by (with_reducible repeat (first | apply Kd.R_alloc | apply Kd.R_drewN | apply Kd.R_drew)); exact HO339.out) hb); have n2_ := Aside0.mk (blk_below (g := gb328) (o := .cells #[.slice A0_0 l0_0.length c0_0, .slice A0_1 l0_1.length c0_1, .int .i64 a0_2, .int .i64 a0_3, .int .i64 a0_4] 39 (0, 0)) (by (with_reducible repeat (first | refine blk_drewN ?_ _ | refine blk_drew ?_ | refine blk_alloc ?_ _)); exact BK328.out) hb); have n3_ := Aside0.mk (below_step (by repeat (first | (with_reducible first | exact HB.out | apply below_alloc | apply pw_below_drewN | apply below_drew1 | refine below_set ?_ GE328.out) | exact HB.out)) hb); have n4_ := Aside0.mk (hbox); have n5_ := Aside0.mk ((by rw [hg]; exact (below_size (by repeat (first | (with_reducible first | exact HB.out | apply below_alloc | apply pw_below_drewN | apply below_drew1 | refine below_set ?_ GE328.out) | exact HB.out))) : w.heap.size ≤ gb345)); have n6_ := Aside0.mk ((by rw [hg]; exact (below_size (by repeat (first | (with_reducible first | exact HB.out | apply below_alloc | apply pw_below_drewN | apply below_drew1 | refine below_set ?_ GE328.out) | exact HB.out))) : w.heap.size ≤ gb345)); have n7_ := Aside0.mk ((by rw [hg]; exact Nat.ne_of_lt (blk_lt (g := gb328) (o := .cells #[.slice A0_0 l0_0.length c0_0, .slice A0_1 l0_1.length c0_1, .int .i64 a0_2, .int .i64 a0_3, .int .i64 a0_4] 39 (0, 0)) (by (with_reducible repeat (first | refine blk_drewN ?_ _ | refine blk_drew ?_ | refine blk_alloc ?_ _)); exact BK328.out)) : gb328 ≠ gb345)); have n8_ := Aside0.mk ((by rw [hg]; exact Nat.ne_of_gt (blk_lt (g := gb328) (o := .cells #[.slice A0_0 l0_0.length c0_0, .slice A0_1 l0_1.length c0_1, .int .i64 a0_2, .int .i64 a0_3, .int .i64 a0_4] 39 (0, 0)) (by (with_reducible repeat (first | refine blk_drewN ?_ _ | refine blk_drew ?_ | refine blk_alloc ?_ _)); exact BK328.out)) : gb345 ≠ gb328)); clear HO336; clear HO339; clear BK328; clear HB; have HO336 := n0_; have HO339 := n1_; have BK328 := n2_; have HB := n3_; have BK345 := n4_; have GW345 := n5_; have GE345 := n6_; have NB328_345 := n7_; have NB345_328 := n8_; clear n0_ n1_ n2_ n3_ n4_ n5_ n6_ n7_ n8_; clear hb hbox hg) | ((with_reducible refine gate_dst (N := 9) rfl ?_); (try (refine gate_guard (by rfl) ?_; dsimp only)); refine box_event ?hg (N := 9) ?hd (cs := #[.int .i64 0, .int .i64 0]) (t := 43) ?hr ?_; (case hd => rfl); (case hg => rfl); (case hr => first | (go_simp; done) | (go_simp; rfl)); intro gb346 hg w36 hbox hb; have n0_ := Aside0.mk (Kd.S_below (by (with_reducible repeat (first | apply Kd.S_alloc | apply Kd.S_drewN | apply Kd.S_drew)); exact HO336.out) hb); have n1_ := Aside0.mk (Kd.R_below (by (with_reducible repeat (first | apply Kd.R_alloc | apply Kd.R_drewN | apply Kd.R_drew)); exact HO339.out) hb); have n2_ := Aside0.mk (blk_below (g := gb328) (o := .cells #[.slice A0_0 l0_0.length c0_0, .slice A0_1 l0_1.length c0_1, .int .i64 a0_2, .int .i64 a0_3, .int .i64 a0_4] 39 (0, 0)) (by (with_reducible repeat (first | refine blk_drewN ?_ _ | refine blk_drew ?_ | refine blk_alloc ?_ _)); exact BK328.out) hb); have n3_ := Aside0.mk (blk_below (g := gb345) (o := .cells #[.slice none 0 0, .slice none 0 0, .int .i64 0, .int .i64 0, .int .i64 0] 39 (0, 0)) (by (with_reducible repeat (first | refine blk_drewN ?_ _ | refine blk_drew ?_ | refine blk_alloc ?_ _)); exact BK345.out) hb); have n4_ := Aside0.mk (below_step (by repeat (first | (with_reducible first | exact HB.out | apply below_alloc | apply pw_below_drewN | apply below_drew1 | refine below_set ?_ GE328.out | refine below_set ?_ GE345.out) | exact HB.out)) hb); have n5_ := Aside0.mk (hbox); have n6_ := Aside0.mk ((by rw [hg]; exact (below_size (by repeat (first | (with_reducible first | exact HB.out | apply below_alloc | apply pw_below_drewN | apply below_drew1 | refine below_set ?_ GE328.out | refine below_set ?_ GE345.out) | exact HB.out))) : w.heap.size ≤ gb346)); have n7_ := Aside0.mk ((by rw [hg]; exact (below_size (by repeat (first | (with_reducible first | exact HB.out | apply below_alloc | apply pw_below_drewN | apply below_drew1 | refine below_set ?_ GE328.out | refine below_set ?_ GE345.out) | exact HB.out))) : w.heap.size ≤ gb346)); have n8_ := Aside0.mk ((by rw [hg]; exact Nat.ne_of_lt (blk_lt (g := gb328) (o := .cells #[.slice A0_0 l0_0.length c0_0, .slice A0_1 l0_1.length c0_1, .int .i64 a0_2, .int .i64 a0_3, .int .i64 a0_4] 39 (0, 0)) (by (with_reducible repeat (first | refine blk_drewN ?_ _ | refine blk_drew ?_ | refine blk_alloc ?_ _)); exact BK328.out)) : gb328 ≠ gb346)); have n9_ := Aside0.mk ((by rw [hg]; exact Nat.ne_of_gt (blk_lt (g := gb328) (o := .cells #[.slice A0_0 l0_0.length c0_0, .slice A0_1 l0_1.length c0_1, .int .i64 a0_2, .int .i64 a0_3, .int .i64 a0_4] 39 (0, 0)) (by (with_reducible repeat (first | refine blk_drewN ?_ _ | refine blk_drew ?_ | refine blk_alloc ?_ _)); exact BK328.out)) : gb346 ≠ gb328)); have n10_ := Aside0.mk ((by rw [hg]; exact Nat.ne_of_lt (blk_lt (g := gb345) (o := .cells #[.slice none 0 0, .slice none 0 0, .int .i64 0, .int .i64 0, .int .i64 0] 39 (0, 0)) (by (with_reducible repeat (first | refine blk_drewN ?_ _ | refine blk_drew ?_ | refine blk_alloc ?_ _)); exact BK345.out)) : gb345 ≠ gb346)); have n11_ := Aside0.mk ((by rw [hg]; exact Nat.ne_of_gt (blk_lt (g := gb345) (o := .cells #[.slice none 0 0, .slice none 0 0, .int .i64 0, .int .i64 0, .int .i64 0] 39 (0, 0)) (by (with_reducible repeat (first | refine blk_drewN ?_ _ | refine blk_drew ?_ | refine blk_alloc ?_ _)); exact BK345.out)) : gb346 ≠ gb345)); clear HO336; clear HO339; clear BK328; clear BK345; clear HB; have HO336 := n0_; have HO339 := n1_; have BK328 := n2_; have BK345 := n3_; have HB := n4_; have BK346 := n5_; have GW346 := n6_; have GE346 := n7_; have NB328_346 := n8_; have NB346_328 := n9_; have NB345_346 := n10_; have NB346_345 := n11_; clear n0_ n1_ n2_ n3_ n4_ n5_ n6_ n7_ n8_ n9_ n10_ n11_; clear hb hbox hg; obtain ⟨Ao37, co37, eo37⟩ := Kd.S_slice HO336.out; subst eo37; have hnb38 := NB345_328.out; have hnc38 := NB328_345.out; have hnb39 := NB345_346.out; have hnc39 := NB346_345.out; have hcz40_0 : w36.cell? ⟨gb345, 0, none⟩ = some (.slice none 0 0) := (blk_cell BK345.out 0).trans rfl; have hcz40_1 : w36.cell? ⟨gb345, 1, none⟩ = some (.slice none 0 0) := (blk_cell BK345.out 1).trans rfl; have hcz40_2 : w36.cell? ⟨gb345, 2, none⟩ = some (.int .i64 0) := (blk_cell BK345.out 2).trans rfl; have hcz40_3 : w36.cell? ⟨gb345, 3, none⟩ = some (.int .i64 0) := (blk_cell BK345.out 3).trans rfl; have hcz40_4 : w36.cell? ⟨gb345, 4, none⟩ = some (.int .i64 0) := (blk_cell BK345.out 4).trans rfl; have hfz40_0 := blk_frozen BK345.out 0; have hfz40_1 := blk_frozen BK345.out 1; have hfz40_2 := blk_frozen BK345.out 2; have hfz40_3 := blk_frozen BK345.out 3; have hfz40_4 := blk_frozen BK345.out 4; obtain ⟨Ao41, co41, eo41⟩ := Kd.R_slice HO339.out; subst eo41; have hnb42 := NB346_328.out; have hnc42 := NB328_346.out; have hcz43_0 : w36.cell? ⟨gb346, 0, none⟩ = some (.int .i64 0) := (blk_cell BK346.out 0).trans rfl; have hcz43_1 : w36.cell? ⟨gb346, 1, none⟩ = some (.int .i64 0) := (blk_cell BK346.out 1).trans rfl; have hfz43_0 := blk_frozen BK346.out 0; have hfz43_1 := blk_frozen BK346.out 1; have hcz44_0 : w36.cell? ⟨gb328, 0, none⟩ = some (.slice A0_0 l0_0.length c0_0) := (blk_cell BK328.out 0).trans rfl; have hcz44_1 : w36.cell? ⟨gb328, 1, none⟩ = some (.slice A0_1 l0_1.length c0_1) := (blk_cell BK328.out 1).trans rfl; have hcz44_2 : w36.cell? ⟨gb328, 2, none⟩ = some (.int .i64 a0_2) := (blk_cell BK328.out 2).trans rfl; have hcz44_3 : w36.cell? ⟨gb328, 3, none⟩ = some (.int .i64 a0_3) := (blk_cell BK328.out 3).trans rfl; have hcz44_4 : w36.cell? ⟨gb328, 4, none⟩ = some (.int .i64 a0_4) := (blk_cell BK328.out 4).trans rfl; have hfz44_0 := blk_frozen BK328.out 0; have hfz44_1 := blk_frozen BK328.out 1; have hfz44_2 := blk_frozen BK328.out 2; have hfz44_3 := blk_frozen BK328.out 3; have hfz44_4 := blk_frozen BK328.out 4) | (go_at_call 19; (with_reducible refine (unicodetextref42_Same.calls k2 _ _ t334 _ _ t337 t340 t341 t342 _ _ l0_0 _ _ l0_1 a0_2 a0_3 a0_4 true _ ?side1 ?side2 ?side3 ?side4 ?side5 ?side6 ?side7 ?side8 A29.out).mono ?_); (case side1 => refine (Kd.S_reads' (e := 52) (base := w.heap.size) (ok := fun k_ => True) (n := t334.length) (c := co37) ?_).2.2; exact (by (with_reducible repeat (first | apply Kd.S_alloc | apply Kd.S_drewN | apply Kd.S_drew)); exact (Kd.S_mono (Kd.S_mono (Kd.S_far (p := ⟨gb346, 1, none⟩) (Kd.S_far (p := ⟨gb346, 0, none⟩) (Kd.S_far (p := ⟨gb345, 4, none⟩) (Kd.S_far (p := ⟨gb345, 3, none⟩) (Kd.S_far (p := ⟨gb345, 2, none⟩) (Kd.S_far (p := ⟨gb345, 1, none⟩) (Kd.S_far (p := ⟨gb345, 0, none⟩) (Kd.S_types (Kd.S_types HO336.out BK345.out (by decide)) BK346.out (by decide)) (fun _ hk => hk.1.2) (.slice Ao37 t334.length co37)) (fun _ hk => hk.1.2) (.slice Ao41 t337.length co41)) (fun _ hk => hk.1.2) (.int .i64 t340)) (fun _ hk => hk.1.2) (.int .i64 t341)) (fun _ hk => hk.1.2) (.int .i64 t342)) (fun _ hk => hk.2) (.int .i64 t343)) (fun _ hk => hk.2) (.int .i64 t344)) (fun _ h_ => h_.1)) (fun _ h_ => h_.1)))); (case side2 => exact (Kd.S_reads' HO336.out).2.1); (case side3 => refine (Kd.R_reads' (e := 49) (base := w.heap.size) (ok := fun k_ => True) (n := t337.length) (c := co41) ?_).2.2; exact (by (with_reducible repeat (first | apply Kd.R_alloc | apply Kd.R_drewN | apply Kd.R_drew)); exact (Kd.R_mono (Kd.R_mono (Kd.R_far (p := ⟨gb346, 1, none⟩) (Kd.R_far (p := ⟨gb346, 0, none⟩) (Kd.R_far (p := ⟨gb345, 4, none⟩) (Kd.R_far (p := ⟨gb345, 3, none⟩) (Kd.R_far (p := ⟨gb345, 2, none⟩) (Kd.R_far (p := ⟨gb345, 1, none⟩) (Kd.R_far (p := ⟨gb345, 0, none⟩) (Kd.R_types (Kd.R_types HO339.out BK345.out (by decide)) BK346.out (by decide)) (fun _ hk => hk.1.2) (.slice Ao37 t334.length co37)) (fun _ hk => hk.1.2) (.slice Ao41 t337.length co41)) (fun _ hk => hk.1.2) (.int .i64 t340)) (fun _ hk => hk.1.2) (.int .i64 t341)) (fun _ hk => hk.1.2) (.int .i64 t342)) (fun _ hk => hk.2) (.int .i64 t343)) (fun _ hk => hk.2) (.int .i64 t344)) (fun _ h_ => h_.1)) (fun _ h_ => h_.1)))); (case side4 => exact (Kd.R_reads' HO339.out).2.1); (case side5 => exact Kd.C_below HR0_0.out (by repeat (first | (with_reducible first | exact HB.out | apply below_alloc | apply pw_below_drewN | apply below_drew1 | refine below_set ?_ GE328.out | refine below_set ?_ GE345.out | refine below_set ?_ GE346.out) | exact HB.out))); (case side6 => exact HC0_0.out); (case side7 => exact Kd.C_below HR0_1.out (by repeat (first | (with_reducible first | exact HB.out | apply below_alloc | apply pw_below_drewN | apply below_drew1 | refine below_set ?_ GE328.out | refine below_set ?_ GE345.out | refine below_set ?_ GE346.out) | exact HB.out))); (case side8 => exact HC0_1.out); rintro e w45 ⟨rfl, hb⟩; have n0_ := Aside0.mk (Kd.S_below (by (with_reducible repeat (first | apply Kd.S_alloc | apply Kd.S_drewN | apply Kd.S_drew)); exact (Kd.S_mono (Kd.S_mono (Kd.S_far (p := ⟨gb346, 1, none⟩) (Kd.S_far (p := ⟨gb346, 0, none⟩) (Kd.S_far (p := ⟨gb345, 4, none⟩) (Kd.S_far (p := ⟨gb345, 3, none⟩) (Kd.S_far (p := ⟨gb345, 2, none⟩) (Kd.S_far (p := ⟨gb345, 1, none⟩) (Kd.S_far (p := ⟨gb345, 0, none⟩) (Kd.S_types (Kd.S_types HO336.out BK345.out (by decide)) BK346.out (by decide)) (fun _ hk => hk.1.2) (.slice Ao37 t334.length co37)) (fun _ hk => hk.1.2) (.slice Ao41 t337.length co41)) (fun _ hk => hk.1.2) (.int .i64 t340)) (fun _ hk => hk.1.2) (.int .i64 t341)) (fun _ hk => hk.1.2) (.int .i64 t342)) (fun _ hk => hk.2) (.int .i64 t343)) (fun _ hk => hk.2) (.int .i64 t344)) (fun _ h_ => h_.1)) (fun _ h_ => h_.1))) hb); have n1_ := Aside0.mk (Kd.R_below (by (with_reducible repeat (first | apply Kd.R_alloc | apply Kd.R_drewN | apply Kd.R_drew)); exact (Kd.R_mono (Kd.R_mono (Kd.R_far (p := ⟨gb346, 1, none⟩) (Kd.R_far (p := ⟨gb346, 0, none⟩) (Kd.R_far (p := ⟨gb345, 4, none⟩) (Kd.R_far (p := ⟨gb345, 3, none⟩) (Kd.R_far (p := ⟨gb345, 2, none⟩) (Kd.R_far (p := ⟨gb345, 1, none⟩) (Kd.R_far (p := ⟨gb345, 0, none⟩) (Kd.R_types (Kd.R_types HO339.out BK345.out (by decide)) BK346.out (by decide)) (fun _ hk => hk.1.2) (.slice Ao37 t334.length co37)) (fun _ hk => hk.1.2) (.slice Ao41 t337.length co41)) (fun _ hk => hk.1.2) (.int .i64 t340)) (fun _ hk => hk.1.2) (.int .i64 t341)) (fun _ hk => hk.1.2) (.int .i64 t342)) (fun _ hk => hk.2) (.int .i64 t343)) (fun _ hk => hk.2) (.int .i64 t344)) (fun _ h_ => h_.1)) (fun _ h_ => h_.1))) hb); have n2_ := Aside0.mk (blk_below (g := gb328) (o := .cells #[.slice A0_0 l0_0.length c0_0, .slice A0_1 l0_1.length c0_1, .int .i64 a0_2, .int .i64 a0_3, .int .i64 a0_4] 39 (0, 0)) (by (with_reducible repeat (first | refine blk_drewN ?_ _ | refine blk_drew ?_ | refine blk_alloc ?_ _)); refine blk_far ?_ NB328_346.out _; (with_reducible repeat (first | refine blk_drewN ?_ _ | refine blk_drew ?_ | refine blk_alloc ?_ _)); refine blk_far ?_ NB328_346.out _; (with_reducible repeat (first | refine blk_drewN ?_ _ | refine blk_drew ?_ | refine blk_alloc ?_ _)); refine blk_far ?_ NB328_345.out _; (with_reducible repeat (first | refine blk_drewN ?_ _ | refine blk_drew ?_ | refine blk_alloc ?_ _)); refine blk_far ?_ NB328_345.out _; (with_reducible repeat (first | refine blk_drewN ?_ _ | refine blk_drew ?_ | refine blk_alloc ?_ _)); refine blk_far ?_ NB328_345.out _; (with_reducible repeat (first | refine blk_drewN ?_ _ | refine blk_drew ?_ | refine blk_alloc ?_ _)); refine blk_far ?_ NB328_345.out _; (with_reducible repeat (first | refine blk_drewN ?_ _ | refine blk_drew ?_ | refine blk_alloc ?_ _)); refine blk_far ?_ NB328_345.out _; (with_reducible repeat (first | refine blk_drewN ?_ _ | refine blk_drew ?_ | refine blk_alloc ?_ _)); exact BK328.out) hb); have n3_ := Aside0.mk (blk_below (g := gb345) (o := .cells #[.slice Ao37 t334.length co37, .slice Ao41 t337.length co41, .int .i64 t340, .int .i64 t341, .int .i64 t342] 39 (0, 0)) (by (with_reducible repeat (first | refine blk_drewN ?_ _ | refine blk_drew ?_ | refine blk_alloc ?_ _)); refine blk_far ?_ NB345_346.out _; (with_reducible repeat (first | refine blk_drewN ?_ _ | refine blk_drew ?_ | refine blk_alloc ?_ _)); refine blk_far ?_ NB345_346.out _; (with_reducible repeat (first | refine blk_drewN ?_ _ | refine blk_drew ?_ | refine blk_alloc ?_ _)); refine blk_put (cs := #[.slice Ao37 t334.length co37, .slice Ao41 t337.length co41, .int .i64 t340, .int .i64 t341, .int .i64 0]) ?_ 4 _ rfl; (with_reducible repeat (first | refine blk_drewN ?_ _ | refine blk_drew ?_ | refine blk_alloc ?_ _)); refine blk_put (cs := #[.slice Ao37 t334.length co37, .slice Ao41 t337.length co41, .int .i64 t340, .int .i64 0, .int .i64 0]) ?_ 3 _ rfl; (with_reducible repeat (first | refine blk_drewN ?_ _ | refine blk_drew ?_ | refine blk_alloc ?_ _)); refine blk_put (cs := #[.slice Ao37 t334.length co37, .slice Ao41 t337.length co41, .int .i64 0, .int .i64 0, .int .i64 0]) ?_ 2 _ rfl; (with_reducible repeat (first | refine blk_drewN ?_ _ | refine blk_drew ?_ | refine blk_alloc ?_ _)); refine blk_put (cs := #[.slice Ao37 t334.length co37, .slice none 0 0, .int .i64 0, .int .i64 0, .int .i64 0]) ?_ 1 _ rfl; (with_reducible repeat (first | refine blk_drewN ?_ _ | refine blk_drew ?_ | refine blk_alloc ?_ _)); refine blk_put (cs := #[.slice none 0 0, .slice none 0 0, .int .i64 0, .int .i64 0, .int .i64 0]) ?_ 0 _ rfl; (with_reducible repeat (first | refine blk_drewN ?_ _ | refine blk_drew ?_ | refine blk_alloc ?_ _)); exact BK345.out) hb); have n4_ := Aside0.mk (blk_below (g := gb346) (o := .cells #[.int .i64 t343, .int .i64 t344] 43 (0, 0)) (by (with_reducible repeat (first | refine blk_drewN ?_ _ | refine blk_drew ?_ | refine blk_alloc ?_ _)); refine blk_put (cs := #[.int .i64 t343, .int .i64 0]) ?_ 1 _ rfl; (with_reducible repeat (first | refine blk_drewN ?_ _ | refine blk_drew ?_ | refine blk_alloc ?_ _)); refine blk_put (cs := #[.int .i64 0, .int .i64 0]) ?_ 0 _ rfl; (with_reducible repeat (first | refine blk_drewN ?_ _ | refine blk_drew ?_ | refine blk_alloc ?_ _)); refine blk_far ?_ NB346_345.out _; (with_reducible repeat (first | refine blk_drewN ?_ _ | refine blk_drew ?_ | refine blk_alloc ?_ _)); refine blk_far ?_ NB346_345.out _; (with_reducible repeat (first | refine blk_drewN ?_ _ | refine blk_drew ?_ | refine blk_alloc ?_ _)); refine blk_far ?_ NB346_345.out _; (with_reducible repeat (first | refine blk_drewN ?_ _ | refine blk_drew ?_ | refine blk_alloc ?_ _)); refine blk_far ?_ NB346_345.out _; (with_reducible repeat (first | refine blk_drewN ?_ _ | refine blk_drew ?_ | refine blk_alloc ?_ _)); refine blk_far ?_ NB346_345.out _; (with_reducible repeat (first | refine blk_drewN ?_ _ | refine blk_drew ?_ | refine blk_alloc ?_ _)); exact BK346.out) hb); have n5_ := Aside0.mk (below_step (by repeat (first | (with_reducible first | exact HB.out | apply below_alloc | apply pw_below_drewN | apply below_drew1 | refine below_set ?_ GE328.out | refine below_set ?_ GE345.out | refine below_set ?_ GE346.out) | exact HB.out)) hb); clear HO336; clear HO339; clear BK328; clear BK345; clear BK346; clear HB; have HO336 := n0_; have HO339 := n1_; have BK328 := n2_; have BK345 := n3_; have BK346 := n4_; have HB := n5_; clear n0_ n1_ n2_ n3_ n4_ n5_; (try clear hb); (try clear hb2); (try clear hk); (try clear hi)) | (go_at_call 10; (with_reducible refine (unicodetextlaw42_alive.calls k2  t348 _ A31.out ?sideG).mono ?_); (case sideG => exact GW.below HG.out (by repeat (first | (with_reducible first | exact HB.out | apply below_alloc | apply pw_below_drewN | apply below_drew1 | refine below_set ?_ GE328.out | refine below_set ?_ GE345.out | refine below_set ?_ GE346.out) | exact HB.out))); rintro e w46 ⟨rfl, hb⟩; have n0_ := Aside0.mk (Kd.S_below (by (with_reducible repeat (first | apply Kd.S_alloc | apply Kd.S_drewN | apply Kd.S_drew)); exact HO336.out) hb); have n1_ := Aside0.mk (Kd.R_below (by (with_reducible repeat (first | apply Kd.R_alloc | apply Kd.R_drewN | apply Kd.R_drew)); exact HO339.out) hb); have n2_ := Aside0.mk (blk_below (g := gb328) (o := .cells #[.slice A0_0 l0_0.length c0_0, .slice A0_1 l0_1.length c0_1, .int .i64 a0_2, .int .i64 a0_3, .int .i64 a0_4] 39 (0, 0)) (by (with_reducible repeat (first | refine blk_drewN ?_ _ | refine blk_drew ?_ | refine blk_alloc ?_ _)); exact BK328.out) hb); have n3_ := Aside0.mk (blk_below (g := gb345) (o := .cells #[.slice Ao37 t334.length co37, .slice Ao41 t337.length co41, .int .i64 t340, .int .i64 t341, .int .i64 t342] 39 (0, 0)) (by (with_reducible repeat (first | refine blk_drewN ?_ _ | refine blk_drew ?_ | refine blk_alloc ?_ _)); exact BK345.out) hb); have n4_ := Aside0.mk (blk_below (g := gb346) (o := .cells #[.int .i64 t343, .int .i64 t344] 43 (0, 0)) (by (with_reducible repeat (first | refine blk_drewN ?_ _ | refine blk_drew ?_ | refine blk_alloc ?_ _)); exact BK346.out) hb); have n5_ := Aside0.mk (below_step (by repeat (first | (with_reducible first | exact HB.out | apply below_alloc | apply pw_below_drewN | apply below_drew1 | refine below_set ?_ GE328.out | refine below_set ?_ GE345.out | refine below_set ?_ GE346.out) | exact HB.out)) hb); clear HO336; clear HO339; clear BK328; clear BK345; clear BK346; clear HB; have HO336 := n0_; have HO339 := n1_; have BK328 := n2_; have BK345 := n3_; have BK346 := n4_; have HB := n5_; clear n0_ n1_ n2_ n3_ n4_ n5_; (try clear hb); (try clear hb2); (try clear hk); (try clear hi)))
                              go_ret
                              exact ⟨by first | rfl | (simp [errW_none, errW_some] <;> rfl) | (simp [*, errW_none, errW_some] <;> rfl), by repeat (first | (with_reducible first | exact HB.out | apply below_alloc | apply pw_below_drewN | apply below_drew1 | refine below_set ?_ GE328.out | refine below_set ?_ GE345.out | refine below_set ?_ GE346.out) | exact HB.out)⟩
                            · replace c30 := Bool.eq_false_iff.mpr c30
                              subst c30
                              have H1 : (none) = some r := by rw [if_neg (show ¬ (false = true) by decide)] at H; exact H
                              clear H
                              have H := H1
                              clear H1
                              exact absurd H (by simp)
                          · rw [if_neg c28] at H
                            exact absurd H (by simp)
                        · rw [if_neg c26] at H
                          exact absurd H (by simp)
                      · rw [if_neg c25] at H
                        exact absurd H (by simp)
                    · rw [if_neg c24] at H
                      exact absurd H (by simp)
                  · rw [if_neg c23] at H
                    exact absurd H (by simp)
                · rw [if_neg c22] at H
                  exact absurd H (by simp)
              · rw [if_neg c21] at H
                have c21b0 : (t333 == 0) = false := beq_eq_false_iff_ne.mpr c21
                have c21b1 : (t333 != 0) = true := bne_iff_ne.mpr c21
                by_cases c47 : t332.toList = ([] : List UInt8)
                · rw [if_pos c47] at H
                  have c47b0 : (t332.toList == ([] : List UInt8)) = true := beq_iff_eq.mpr c47
                  have c47b1 : (t332.toList != ([] : List UInt8)) = false := bne_eq_false_iff_eq.mpr c47
                  clear c47
                  replace H := Option.bind_eq_some_iff.mp H
                  obtain ⟨t349, A480, H⟩ := H
                  replace H : (some t349) = some r := H
                  have A48 := Aside0.mk A480
                  clear A480
                  obtain rfl := Option.some.inj H
                  have hcz49_0 : wr.cell? ⟨gb328, 0, none⟩ = some (.slice A0_0 l0_0.length c0_0) := (blk_cell BK328.out 0).trans rfl
                  have hcz49_1 : wr.cell? ⟨gb328, 1, none⟩ = some (.slice A0_1 l0_1.length c0_1) := (blk_cell BK328.out 1).trans rfl
                  have hcz49_2 : wr.cell? ⟨gb328, 2, none⟩ = some (.int .i64 a0_2) := (blk_cell BK328.out 2).trans rfl
                  have hcz49_3 : wr.cell? ⟨gb328, 3, none⟩ = some (.int .i64 a0_3) := (blk_cell BK328.out 3).trans rfl
                  have hcz49_4 : wr.cell? ⟨gb328, 4, none⟩ = some (.int .i64 a0_4) := (blk_cell BK328.out 4).trans rfl
                  have hfz49_0 := blk_frozen BK328.out 0
                  have hfz49_1 := blk_frozen BK328.out 1
                  have hfz49_2 := blk_frozen BK328.out 2
                  have hfz49_3 := blk_frozen BK328.out 3
                  have hfz49_4 := blk_frozen BK328.out 4
                  go_wp2_with (first | ((with_reducible refine gate_callee (f := 17) rfl ?_); refine goesL_ (some 32) rfl rfl Tryd.func17 (by kernel_rfl) rfl #[.agg #[.slice A0_0 l0_0.length c0_0, .slice A0_1 l0_1.length c0_1, .int .i64 a0_2, .int .i64 a0_3, .int .i64 a0_4]] rfl (by (try simp only [List.map_toArray, List.map_cons, List.map_nil]); first | done | rfl | (simp only [List.length_drop, List.length_take]; rfl)) ?_; (with_reducible refine (element_FileText.calls _ _ l0_0 _ _ l0_1 a0_2 a0_3 a0_4 t332 t333 _ ?side1 ?side2 ?side3 ?side4 A20.out ?sideG).mono ?_); (case sideG => exact GW.below HG.out (by repeat (first | (with_reducible first | exact HB.out | apply below_alloc | apply pw_below_drewN | apply below_drew1 | refine below_set ?_ GE328.out) | exact HB.out))); (case side1 => repeat (first | exact (Kd.C_below HR0_0.out HB.out) | (with_reducible refine Kd.C_alloc ?_ _) | (with_reducible refine Kd.C_drewN ?_ _) | (with_reducible refine Kd.C_drew ?_))); (case side2 => exact HC0_0.out); (case side3 => repeat (first | exact (Kd.C_below HR0_1.out HB.out) | (with_reducible refine Kd.C_alloc ?_ _) | (with_reducible refine Kd.C_drewN ?_ _) | (with_reducible refine Kd.C_drew ?_))); (case side4 => exact HC0_1.out); rintro e w50 ⟨rfl, hb⟩; refine ⟨_, rfl, ?_⟩; have n0_ := Aside0.mk (blk_below (g := gb328) (o := .cells #[.slice A0_0 l0_0.length c0_0, .slice A0_1 l0_1.length c0_1, .int .i64 a0_2, .int .i64 a0_3, .int .i64 a0_4] 39 (0, 0)) (by (with_reducible repeat (first | refine blk_drewN ?_ _ | refine blk_drew ?_ | refine blk_alloc ?_ _)); exact BK328.out) hb); have n1_ := Aside0.mk (below_step (by repeat (first | (with_reducible first | exact HB.out | apply below_alloc | apply pw_below_drewN | apply below_drew1 | refine below_set ?_ GE328.out) | exact HB.out)) hb); clear BK328; clear HB; have BK328 := n0_; have HB := n1_; clear n0_ n1_; (try clear hb); (try clear hb2); (try clear hk); (try clear hi)) | (go_at_call 10; (with_reducible refine (unicodetextlaw42_alive.calls k2  t349 _ A48.out ?sideG).mono ?_); (case sideG => exact GW.below HG.out (by repeat (first | (with_reducible first | exact HB.out | apply below_alloc | apply pw_below_drewN | apply below_drew1 | refine below_set ?_ GE328.out) | exact HB.out))); rintro e w51 ⟨rfl, hb⟩; have n0_ := Aside0.mk (blk_below (g := gb328) (o := .cells #[.slice A0_0 l0_0.length c0_0, .slice A0_1 l0_1.length c0_1, .int .i64 a0_2, .int .i64 a0_3, .int .i64 a0_4] 39 (0, 0)) (by (with_reducible repeat (first | refine blk_drewN ?_ _ | refine blk_drew ?_ | refine blk_alloc ?_ _)); exact BK328.out) hb); have n1_ := Aside0.mk (below_step (by repeat (first | (with_reducible first | exact HB.out | apply below_alloc | apply pw_below_drewN | apply below_drew1 | refine below_set ?_ GE328.out) | exact HB.out)) hb); clear BK328; clear HB; have BK328 := n0_; have HB := n1_; clear n0_ n1_; (try clear hb); (try clear hb2); (try clear hk); (try clear hi)))
                  go_ret
                  exact ⟨by first | rfl | (simp [errW_none, errW_some] <;> rfl) | (simp [*, errW_none, errW_some] <;> rfl), by repeat (first | (with_reducible first | exact HB.out | apply below_alloc | apply pw_below_drewN | apply below_drew1 | refine below_set ?_ GE328.out) | exact HB.out)⟩
                · rw [if_neg c47] at H
                  exact absurd H (by simp)
end Go.Proofs.YtdaijpjjilmkkaaDoor.Pr

/- Plain laws of collations: what ParseFile has read can be written, and is read again; lines out of order; sizes. -/
namespace Go.Proofs.YtdaijpjjilmkkaaDoor.Pr
open Go.RowKit Go.Proofs.YtdaijpjjilmkkaaDoorW.PrintWords Go.Proofs.YtdaijpjjilmkkaaDoorW.PrintLast Go.Proofs.YtdaijpjjilmkkaaDoorW.PrintMore
set_option linter.unusedVariables false
set_option linter.unusedSimpArgs false
structure okR (st : Rd) (N : Nat) : Prop where
  g : ∀ g ∈ st.gs, okG g
  x : ∀ x ∈ st.es, okX x
  f : st.bg = false → st.es = [] ∧ st.gs = []
  b : st.bg = true → in64 st.b1 ∧ in64 st.b2 ∧ in64 st.b3 ∧ (fileT st.es st.gs st.b1 st.b2 st.b3).length ≤ N
  l : st.ls.length = st.es.length
  m : ∀ n ∈ st.ls, 1 ≤ n
theorem flat_le {α : Type} (f : α → List UInt8) (m : Nat) : ∀ (l : List α), (∀ x ∈ l, (f x).length ≤ m) → (l.flatMap f).length ≤ m * l.length
  | [], _ => Nat.le_refl _
  | y :: r, h => by
    have h1 := h y (by simp)
    have h2 := flat_le f m r fun x hx => h x (List.mem_cons_of_mem _ hx)
    rw [List.flatMap_cons, List.length_append, List.length_cons, Nat.mul_add]
    omega
theorem words4 (p q r t : List UInt8) : (wordsT [p, q, r, t]).length = p.length + q.length + r.length + t.length + 4 := wordsT_len p q r t
def fewB (l0 : List S52) (l1 : List S49) : Bool :=
  decide (l0.length ≤ 12) && decide (l1.length ≤ 8) && l0.all (fun x => decide (x.f0.length ≤ 16) && decide (x.f1.length ≤ 16)) && l1.all (fun g => decide (g.f0.size ≤ 40))
theorem few_parts {l0 : List S52} {l1 : List S49} (h : fewB l0 l1 = true) : l0.length ≤ 12 ∧ l1.length ≤ 8 ∧ (∀ x ∈ l0, x.f0.length ≤ 16 ∧ x.f1.length ≤ 16) ∧ ∀ g ∈ l1, g.f0.size ≤ 40 := by
  unfold fewB at h
  simp only [Bool.and_eq_true, decide_eq_true_eq, List.all_eq_true] at h
  obtain ⟨⟨⟨h1, h2⟩, h3⟩, h4⟩ := h
  exact ⟨h1, h2, h3, h4⟩
theorem few_small {l0 : List S52} {l1 : List S49} {a b c : Int} (h : fewB l0 l1 = true) (hg : ∀ g ∈ l1, i64B g.f1 = true ∧ i64B g.f2 = true) (ha : i64B a = true) (hb : i64B b = true) (hc : i64B c = true) : smallF l0 l1 a b c = true := by
  obtain ⟨h1, h2, h3, h4⟩ := few_parts h
  have hx : l0.all smallX = true := List.all_eq_true.2 fun x hx => by
    have := h3 x hx
    unfold smallX
    rw [Bool.and_eq_true]
    exact ⟨decide_eq_true (by omega), decide_eq_true (by omega)⟩
  have hg2 : l1.all smallG = true := List.all_eq_true.2 fun g hm => by
    have := h4 g hm
    unfold smallG
    rw [(hg g hm).1, (hg g hm).2, Bool.and_true, Bool.and_true]
    exact decide_eq_true (by omega)
  unfold smallF
  rw [hx, hg2, ha, hb, hc]
  simp only [Bool.and_true, Bool.and_eq_true]
  exact ⟨decide_eq_true (by omega), decide_eq_true (by omega)⟩
theorem itoa_le (n : Int) (h : in64 n) : (Lib.itoa n).length ≤ 21 := Lib.itoa_length_le n (by have := h.1; omega) h.2
theorem few_len {l0 : List S52} {l1 : List S49} {a b c : Int} (h : fewB l0 l1 = true) (ho : okF l0 l1 a b c) : (fileT l0 l1 a b c).length ≤ 10000 := by
  obtain ⟨h1, h2, h3, h4⟩ := few_parts h
  have hb : (baseT a b c).length ≤ 72 := by
    have := itoa_le a ho.n1
    have := itoa_le b ho.n2
    have := itoa_le c ho.n3
    unfold baseT
    rw [words4]
    simp only [baseW, List.length_cons, List.length_nil]
    omega
  have hx : (l0.flatMap entryT).length ≤ 400 * l0.length := flat_le entryT 400 l0 fun x hx => by
    have := h3 x hx
    have h5 := join_size x.f0
    have h6 := flat_len x.f1 (ho.x x hx).2
    unfold entryT
    simp only [List.length_append, List.length_cons, List.length_nil]
    omega
  have hg : (l1.flatMap groupT).length ≤ 100 * l1.length := flat_le groupT 100 l1 fun g hg => by
    have := h4 g hg
    have := itoa_le g.f1 (ho.g g hg).2.1
    have := itoa_le g.f2 (ho.g g hg).2.2
    have hz : g.f0.data.toList.length = g.f0.size := by simp
    unfold groupT
    rw [words4, hz]
    simp only [groupW, List.length_cons, List.length_nil]
    omega
  unfold fileT
  simp only [List.length_append]
  omega
def w1 : List UInt8 := [64, 98, 97, 115, 101, 32, 49, 32, 50, 32, 51]
def w2 : List UInt8 := [48, 48, 54, 49, 59, 32]
def w3 : List UInt8 := [64, 103, 114, 111, 117, 112, 32, 120, 32, 49, 32, 50]
def x2 : S52 := ⟨[97], []⟩
end Go.Proofs.YtdaijpjjilmkkaaDoor.Pr

/- Plain laws: what the reference's functions Check, SameElements, Same and Few answer. -/
namespace Go.Proofs.YtdaijpjjilmkkaaDoor.Pr
open Go.RowKit Go.Proofs.YtdaijpjjilmkkaaDoorW.PrintWords Go.Proofs.YtdaijpjjilmkkaaDoorW.PrintLast Go.Proofs.YtdaijpjjilmkkaaDoorW.PrintMore
set_option linter.unusedVariables false
set_option linter.unusedSimpArgs false
theorem Ev.pos {α : Type} {c : Prop} [Decidable c] {f g : Nat → Option α} {r : α} (hc : c) (h : Ev f r) : Ev (fun k => if c then f k else g k) r := Ev.congr (fun k => if_pos hc) h
theorem Ev.neg {α : Type} {c : Prop} [Decidable c] {f g : Nat → Option α} {r : α} (hc : ¬ c) (h : Ev g r) : Ev (fun k => if c then f k else g k) r := Ev.congr (fun k => if_neg hc) h
theorem Ev.got {α β : Type} {o : Option β} {b : β} {g : Nat → β → Option α} {r : α} (h : o = some b) (h2 : Ev (fun k => g k b) r) : Ev (fun k => o.bind (g k)) r := by
  subst h
  exact h2
theorem Ev.succ {α : Type} {F : Nat → Option α} {r : α} (h : Ev (fun k => F (k + 1)) r) : Ev F r := by
  obtain ⟨K, h⟩ := h
  refine ⟨K + 1, fun k hk => ?_⟩
  obtain ⟨m, rfl⟩ : ∃ m, k = m + 1 := ⟨k - 1, by omega⟩
  exact h m (by omega)
theorem sameE_loop (l : List S33) (hl : l.length ≤ 1000000) (d : Nat) : ∀ i : Nat, i + d = l.length → Ev (fun k => unicodetextref42_SameElements.l0 k l l (i : Int)) true := by
  induction d with
  | zero =>
    intro i hi
    refine ⟨1, fun k hk => ?_⟩
    (try dsimp only)
    obtain ⟨k, rfl⟩ : ∃ m, k = m + 1 := ⟨k - 1, by omega⟩
    simp only [unicodetextref42_SameElements.l0]
    rw [if_neg (by omega)]
  | succ d ih =>
    intro i hi
    refine Ev.step (f := fun k => unicodetextref42_SameElements.l0 k l l ((i + 1 : Nat) : Int)) (fun k => ?_) (ih (i + 1) (by omega))
    simp only [unicodetextref42_SameElements.l0]
    rw [if_pos (by omega), if_pos (by omega), if_pos (by omega), if_neg (by simp), wrap_succ i (by omega)]
theorem sameE_ev (l : List S33) (hl : l.length ≤ 1000000) : Ev (fun k => unicodetextref42_SameElements.f k l l) true := by
  have := sameE_loop l hl l.length 0 (by omega)
  exact Ev.pos rfl this
section
variable (es : List S52) (gs : List S49) (a b c : Int)
theorem same_l2 (x6 : Int) (C : List Int) (hC : C.length ≤ 1000000) (E : List S33) (hnext : Ev (fun k => unicodetextref42_Same.l1 k (wrap64 (x6 + 1)) es gs a b c es gs a b c) true) (d : Nat) : ∀ j : Nat, j + d = C.length →
    Ev (fun k => unicodetextref42_Same.l2 k x6 (j : Int) es gs a b c es gs a b c C E C E) true := by
  induction d with
  | zero =>
    intro j hj
    refine Ev.step (f := fun k => unicodetextref42_Same.l1 k (wrap64 (x6 + 1)) es gs a b c es gs a b c) (fun k => ?_) hnext
    simp only [unicodetextref42_Same.l2]
    rw [if_neg (by omega)]
  | succ d ih =>
    intro j hj
    refine Ev.step (f := fun k => unicodetextref42_Same.l2 k x6 ((j + 1 : Nat) : Int) es gs a b c es gs a b c C E C E) (fun k => ?_) (ih (j + 1) (by omega))
    simp only [unicodetextref42_Same.l2]
    rw [if_pos (by omega), if_pos (by omega), if_pos (by omega), if_true, wrap_succ j (by omega)]
theorem same_l1 (hl : es.length ≤ 1000000) (hx : ∀ x ∈ es, x.f0.length ≤ 1000000 ∧ x.f1.length ≤ 1000000) (d : Nat) : ∀ i : Nat, i + d = es.length → Ev (fun k => unicodetextref42_Same.l1 k (i : Int) es gs a b c es gs a b c) true := by
  induction d with
  | zero =>
    intro i hi
    refine ⟨1, fun k hk => ?_⟩
    (try dsimp only)
    obtain ⟨k, rfl⟩ : ∃ m, k = m + 1 := ⟨k - 1, by omega⟩
    simp only [unicodetextref42_Same.l1]
    rw [if_neg (by omega)]
  | succ d ih =>
    intro i hi
    have hlt : i < es.length := by omega
    have hm := hx es[i] (List.getElem_mem hlt)
    have h2 := same_l2 es gs a b c (i : Int) es[i].f0 hm.1 es[i].f1 (by rw [wrap_succ i (by omega)]; exact ih (i + 1) (by omega)) es[i].f0.length 0 (by omega)
    have h3 : Ev (fun k => unicodetextref42_Same.j3 k (i : Int) (!true) es gs a b c es gs a b c es[i].f0 es[i].f1 es[i].f0 es[i].f1) true := by
      refine Ev.step (f := fun k => unicodetextref42_Same.l2 k (i : Int) 0 es gs a b c es gs a b c es[i].f0 es[i].f1 es[i].f0 es[i].f1) (fun k => ?_) h2
      simp only [unicodetextref42_Same.j3]
      rw [if_neg (by decide)]
    refine Ev.step (f := fun k => (unicodetextref42_SameElements.f k es[i].f1 es[i].f1).bind fun t => unicodetextref42_Same.j3 k (i : Int) (!t) es gs a b c es gs a b c es[i].f0 es[i].f1 es[i].f0 es[i].f1) (fun k => ?_) (Ev.bind (sameE_ev _ hm.2) h3)
    simp only [unicodetextref42_Same.l1]
    rw [if_pos (by omega), if_pos (by omega), if_pos (by omega), if_true, rdX_at es i hlt]
theorem same_l0 (hl : es.length ≤ 1000000) (hg : gs.length ≤ 1000000) (hx : ∀ x ∈ es, x.f0.length ≤ 1000000 ∧ x.f1.length ≤ 1000000) (d : Nat) : ∀ i : Nat, i + d = gs.length → Ev (fun k => unicodetextref42_Same.l0 k (i : Int) es gs a b c es gs a b c) true := by
  induction d with
  | zero =>
    intro i hi
    refine Ev.step (f := fun k => unicodetextref42_Same.l1 k 0 es gs a b c es gs a b c) (fun k => ?_) (same_l1 es gs a b c hl hx es.length 0 (by omega))
    simp only [unicodetextref42_Same.l0]
    rw [if_neg (by omega)]
  | succ d ih =>
    intro i hi
    refine Ev.step (f := fun k => unicodetextref42_Same.l0 k ((i + 1 : Nat) : Int) es gs a b c es gs a b c) (fun k => ?_) (ih (i + 1) (by omega))
    simp only [unicodetextref42_Same.l0]
    rw [if_pos (by omega), if_pos (by omega), if_pos (by omega), if_neg (by simp), wrap_succ i (by omega)]
theorem same_ev (hl : es.length ≤ 1000000) (hg : gs.length ≤ 1000000) (hx : ∀ x ∈ es, x.f0.length ≤ 1000000 ∧ x.f1.length ≤ 1000000) : Ev (fun k => unicodetextref42_Same.f k es gs a b c es gs a b c) true := by
  refine Ev.pos rfl (Ev.pos rfl (Ev.pos rfl (Ev.pos rfl ?_)))
  refine Ev.step (f := fun k => unicodetextref42_Same.l0 k 0 es gs a b c es gs a b c) (fun k => ?_) (same_l0 es gs a b c hl hg hx gs.length 0 (by omega))
  simp only [unicodetextref42_Same.j0]
  rw [if_neg (by simp)]
theorem few_l1 (hg : gs.length ≤ 8) (d : Nat) : ∀ i : Nat, i + d = gs.length → Ev (fun k => unicodetextref42_Few.l1 k (i : Int) es gs a b c) ((gs.drop i).all fun g => decide (g.f0.size ≤ 40)) := by
  induction d with
  | zero =>
    intro i hi
    refine ⟨1, fun k hk => ?_⟩
    (try dsimp only)
    obtain ⟨k, rfl⟩ : ∃ m, k = m + 1 := ⟨k - 1, by omega⟩
    simp only [unicodetextref42_Few.l1]
    rw [if_neg (by omega), List.drop_of_length_le (by omega)]
    rfl
  | succ d ih =>
    intro i hi
    have hlt : i < gs.length := by omega
    have hd : gs.drop i = gs[i] :: gs.drop (i + 1) := List.drop_eq_getElem_cons hlt
    have h2 := ih (i + 1) (by omega)
    rw [hd, List.all_cons]
    by_cases h40 : gs[i].f0.size ≤ 40
    · rw [decide_eq_true h40, Bool.true_and]
      refine Ev.step (f := fun k => unicodetextref42_Few.l1 k ((i + 1 : Nat) : Int) es gs a b c) (fun k => ?_) h2
      simp only [unicodetextref42_Few.l1]
      rw [if_pos (by omega), if_pos (by omega), rdG_at gs i hlt, if_neg (by omega), wrap_succ i (by omega)]
    · rw [decide_eq_false h40, Bool.false_and]
      refine ⟨1, fun k hk => ?_⟩
      (try dsimp only)
      obtain ⟨k, rfl⟩ : ∃ m, k = m + 1 := ⟨k - 1, by omega⟩
      simp only [unicodetextref42_Few.l1]
      rw [if_pos (by omega), if_pos (by omega), rdG_at gs i hlt, if_pos (by omega)]
def fewX (x : S52) : Bool := decide (x.f0.length ≤ 16) && decide (x.f1.length ≤ 16)
theorem few_l0 (hl : es.length ≤ 12) (hg : gs.length ≤ 8) (d : Nat) : ∀ i : Nat, i + d = es.length → Ev (fun k => unicodetextref42_Few.l0 k (i : Int) es gs a b c) ((es.drop i).all fewX && gs.all fun g => decide (g.f0.size ≤ 40)) := by
  induction d with
  | zero =>
    intro i hi
    rw [List.drop_of_length_le (by omega), List.all_nil, Bool.true_and]
    refine Ev.step (f := fun k => unicodetextref42_Few.l1 k 0 es gs a b c) (fun k => ?_) (few_l1 es gs a b c hg gs.length 0 (by omega))
    simp only [unicodetextref42_Few.l0]
    rw [if_neg (by omega)]
  | succ d ih =>
    intro i hi
    have hlt : i < es.length := by omega
    have hd : es.drop i = es[i] :: es.drop (i + 1) := List.drop_eq_getElem_cons hlt
    have h2 := ih (i + 1) (by omega)
    rw [hd, List.all_cons]
    by_cases h0 : es[i].f0.length ≤ 16
    · by_cases h1 : es[i].f1.length ≤ 16
      · rw [show fewX es[i] = true by unfold fewX; rw [decide_eq_true h0, decide_eq_true h1]; rfl, Bool.true_and]
        refine Ev.step (f := fun k => unicodetextref42_Few.l0 k ((i + 1 : Nat) : Int) es gs a b c) (fun k => ?_) h2
        simp only [unicodetextref42_Few.l0, unicodetextref42_SmallElements.f]
        rw [if_pos (by omega), if_pos (by omega), rdX_at es i hlt, if_neg (by omega), Option.bind_some, if_pos (decide_eq_true (by omega)), wrap_succ i (by omega)]
      · rw [show fewX es[i] = false by unfold fewX; rw [decide_eq_false h1, Bool.and_false], Bool.false_and, Bool.false_and]
        refine ⟨1, fun k hk => ?_⟩
        (try dsimp only)
        obtain ⟨k, rfl⟩ : ∃ m, k = m + 1 := ⟨k - 1, by omega⟩
        simp only [unicodetextref42_Few.l0, unicodetextref42_SmallElements.f]
        rw [if_pos (by omega), if_pos (by omega), rdX_at es i hlt, if_neg (by omega), Option.bind_some, if_neg (by simp; omega)]
    · rw [show fewX es[i] = false by unfold fewX; rw [decide_eq_false h0, Bool.false_and], Bool.false_and, Bool.false_and]
      refine ⟨1, fun k hk => ?_⟩
      (try dsimp only)
      obtain ⟨k, rfl⟩ : ∃ m, k = m + 1 := ⟨k - 1, by omega⟩
      simp only [unicodetextref42_Few.l0]
      rw [if_pos (by omega), if_pos (by omega), rdX_at es i hlt, if_pos (by omega)]
theorem few_ev : Ev (fun k => unicodetextref42_Few.f k es gs a b c) (fewB es gs) := by
  unfold fewB
  by_cases hl : es.length ≤ 12
  · rw [decide_eq_true hl, Bool.true_and]
    refine Ev.neg (by omega) ?_
    by_cases hg : gs.length ≤ 8
    · rw [decide_eq_true hg, Bool.true_and, show decide ((gs.length : Int) > 8) = false from decide_eq_false (by omega)]
      refine Ev.step (f := fun k => unicodetextref42_Few.l0 k 0 es gs a b c) (fun k => ?_) (few_l0 es gs a b c hl hg es.length 0 (by omega))
      simp only [unicodetextref42_Few.j0]
      rw [if_neg (by decide)]
    · rw [decide_eq_false hg, Bool.false_and, Bool.false_and, show decide ((gs.length : Int) > 8) = true from decide_eq_true (by omega)]
      refine ⟨1, fun k hk => ?_⟩
      (try dsimp only)
      obtain ⟨k, rfl⟩ : ∃ m, k = m + 1 := ⟨k - 1, by omega⟩
      simp only [unicodetextref42_Few.j0]
      rw [if_pos trivial]
  · rw [decide_eq_false hl, Bool.false_and, Bool.false_and, Bool.false_and]
    refine Ev.pos (by omega) ?_
    refine ⟨1, fun k hk => ?_⟩
    (try dsimp only)
    obtain ⟨k, rfl⟩ : ∃ m, k = m + 1 := ⟨k - 1, by omega⟩
    simp only [unicodetextref42_Few.j0]
    rw [if_pos trivial]
end
end Go.Proofs.YtdaijpjjilmkkaaDoor.Pr

/- The example of the chapter (alive). -/
namespace Go.Proofs.YtdaijpjjilmkkaaDoor.Pr
open Go.RowKit Go.Proofs.YtdaijpjjilmkkaaDoorW.PrintWords Go.Proofs.YtdaijpjjilmkkaaDoorW.PrintLast Go.Proofs.YtdaijpjjilmkkaaDoorW.PrintMore
set_option linter.unusedVariables false
set_option linter.unusedSimpArgs false
theorem ofL_of (s : ByteArray) : ∃ l, s = ofL l ∧ s.size = l.length := ⟨s.data.toList, (ofL_eq s).symm, by simp⟩
theorem pfile_f (l : List UInt8) (h : l.length ≤ 9223372036854775807) : element_ParseFile.f (ofL l) = some (parseF l) := by
  unfold element_ParseFile.f
  rw [if_pos (by rw [ofL_size]; exact h), ofL_list]
theorem ftext_f (l0 : List S52) (l1 : List S49) (a b c : Int) (h : smallF l0 l1 a b c = true) : element_FileText.f l0 l1 a b c = some (if errF l0 l1 a b c = 0 then (ofL (fileT l0 l1 a b c), 0) else (ofL [], errF l0 l1 a b c)) := by
  unfold element_FileText.f
  rw [if_pos h]
def exE : S33 := ⟨16, 32, 2, false⟩
def exG : S49 := ⟨ofL [108, 97, 116, 105, 110], 16, 31⟩
theorem alive_ev : Ev (fun k => unicodetextlaw42_alive.f k) true := by
  have e0 : errE [exE] = 0 := by decide
  have e1 : [exE].flatMap elT = [91, 46, 48, 48, 49, 48, 46, 48, 48, 50, 48, 46, 48, 48, 48, 50, 93] := by kernel_rfl
  have h1 := text_ev [exE] (by decide)
  rw [if_pos e0, e1] at h1
  have p1 : parseF [64, 98, 97, 115, 101, 32, 49, 32, 50, 32, 51, 10, 64, 103, 114, 111, 117, 112, 32, 108, 97, 116, 105, 110, 32, 49, 54, 32, 51, 49, 32, 35, 32, 108, 101, 116, 116, 101, 114, 115, 10, 48, 48, 54, 49, 59, 32, 91, 46, 48, 48, 49, 48, 46, 48, 48, 50, 48, 46, 48, 48, 48, 50, 93, 10] = ([⟨[97], [exE]⟩], [exG], 1, 2, 3, 0, 0) := by kernel_rfl
  have p2 : parseF [64, 98, 97, 115, 101, 32, 49, 32, 50, 32, 51, 10, 48, 48, 54, 49, 59, 10] = bad 3 2 := by kernel_rfl
  have f1 : element_FileText.f [] [exG] 1 2 3 = some (ofL [64, 98, 97, 115, 101, 32, 49, 32, 50, 32, 51, 10, 64, 103, 114, 111, 117, 112, 32, 108, 97, 116, 105, 110, 32, 49, 54, 32, 51, 49, 10], 0) := by
    rw [ftext_f _ _ _ _ _ (by decide), if_pos (by decide)]
    have e : fileT [] [exG] 1 2 3 = [64, 98, 97, 115, 101, 32, 49, 32, 50, 32, 51, 10, 64, 103, 114, 111, 117, 112, 32, 108, 97, 116, 105, 110, 32, 49, 54, 32, 51, 49, 10] := by kernel_rfl
    rw [e]
  have hs := sameE_ev [exE] (by decide)
  refine Ev.bind h1 ?_
  refine Ev.got ((pfile_f _ (by decide)).trans (congrArg some p1)) ?_
  refine Ev.got ((pfile_f _ (by decide)).trans (congrArg some p2)) ?_
  refine Ev.got f1 ?_
  refine Ev.pos (ofL_toList _) (Ev.pos rfl (Ev.pos rfl (Ev.pos rfl (Ev.pos (by decide) ?_))))
  refine Ev.bind hs (Ev.pos rfl (Ev.pos rfl (Ev.pos rfl (Ev.pos (ofL_toList _) (Ev.now true)))))
theorem alive_tail : Ev (fun k => (unicodetextlaw42_alive.f k).bind fun t => some t) true := Ev.bind alive_ev (Ev.now true)
end Go.Proofs.YtdaijpjjilmkkaaDoor.Pr

/- A collation of int64s: what the laws of files ask of their argument. -/
namespace Go.Proofs.YtdaijpjjilmkkaaDoor.Pr
open Go.RowKit Go.Proofs.YtdaijpjjilmkkaaDoorW.PrintWords Go.Proofs.YtdaijpjjilmkkaaDoorW.PrintLast Go.Proofs.YtdaijpjjilmkkaaDoorW.PrintMore
set_option linter.unusedVariables false
set_option linter.unusedSimpArgs false
def intsF (l1 : List S49) (a b c : Int) : Prop := (∀ g ∈ l1, i64B g.f1 = true ∧ i64B g.f2 = true) ∧ i64B a = true ∧ i64B b = true ∧ i64B c = true
theorem small_few {l0 : List S52} {l1 : List S49} {a b c : Int} (h : fewB l0 l1 = true) (hi : intsF l1 a b c) : smallF l0 l1 a b c = true := few_small h hi.1 hi.2.1 hi.2.2.1 hi.2.2.2
theorem same_small {l0 : List S52} {l1 : List S49} {a b c : Int} (h : smallF l0 l1 a b c = true) : Ev (fun k => unicodetextref42_Same.f k l0 l1 a b c l0 l1 a b c) true := by
  obtain ⟨⟨h1, h2, h3⟩, -⟩ := smallF_parts h
  exact same_ev l0 l1 a b c (by omega) (by omega) (fun x hx => by have := h3 x hx; omega)
end Go.Proofs.YtdaijpjjilmkkaaDoor.Pr

/- ElementComments: the pure statement. -/
namespace Go.Proofs.YtdaijpjjilmkkaaDoor.Pr
open Go.RowKit Go.Proofs.YtdaijpjjilmkkaaDoorW.PrintWords Go.Proofs.YtdaijpjjilmkkaaDoorW.PrintLast Go.Proofs.YtdaijpjjilmkkaaDoorW.PrintMore
set_option linter.unusedVariables false
set_option linter.unusedSimpArgs false
theorem comments_end (l0 : List S52) (l1 : List S49) (a b c : Int) (hf : fewB l0 l1 = true) (hi : intsF l1 a b c) (note : List UInt8) (hn : note.length ≤ 40) (h10 : 10 ∉ note) (i : Nat) (hle : note.length ≤ i) :
    Ev (fun k => unicodetextlaw42_ElementComments.l0 k (ofL note) (i : Int) l0 l1 a b c) true := by
  have hsm := small_few hf hi
  refine Ev.succ ?_
  simp only [unicodetextlaw42_ElementComments.l0]
  refine Ev.neg (by rw [ofL_size]; omega) ?_
  by_cases he : errF l0 l1 a b c = 0
  · have ho := okF_of he hsm
    have hl := few_len hf ho
    have hnz : (ofL note).size ≤ 40 := by rw [ofL_size]; exact hn
    have hz : (ofL (fileT l0 l1 a b c)).size ≤ 10000 := by rw [ofL_size]; exact hl
    refine Ev.got ((ftext_f l0 l1 a b c hsm).trans (congrArg some (if_pos he))) (Ev.pos rfl ?_)
    have e : (((((⟨#[32, 32, 35]⟩ : ByteArray) ++ ofL note) ++ (⟨#[10, 10]⟩ : ByteArray)) ++ ofL (fileT l0 l1 a b c)) ++ (⟨#[35]⟩ : ByteArray)) ++ ofL note = ofL ([32, 32, 35] ++ note ++ [10, 10] ++ fileT l0 l1 a b c ++ [35] ++ note) := by
      rw [show (⟨#[32, 32, 35]⟩ : ByteArray) = ofL [32, 32, 35] from rfl, show (⟨#[10, 10]⟩ : ByteArray) = ofL [10, 10] from rfl, show (⟨#[35]⟩ : ByteArray) = ofL [35] from rfl, ofL_append, ofL_append, ofL_append, ofL_append, ofL_append]
    refine Ev.pos (by omega) (Ev.pos ?_ (Ev.pos ?_ (Ev.pos ?_ (Ev.pos ?_ ?_))))
    · rw [ByteArray.size_append]; show 3 + _ + 2 ≤ _; omega
    · rw [ByteArray.size_append, ByteArray.size_append]; show 3 + _ + 2 + _ ≤ _; dsimp only; omega
    · rw [ByteArray.size_append, ByteArray.size_append, ByteArray.size_append]; show 3 + _ + 2 + _ + 1 ≤ _; dsimp only; omega
    · rw [ByteArray.size_append, ByteArray.size_append, ByteArray.size_append, ByteArray.size_append]; show 3 + _ + 2 + _ + 1 + _ ≤ _; dsimp only; omega
    refine Ev.got ((congrArg element_ParseFile.f e).trans ((pfile_f _ ?_).trans (congrArg some (parse_noted ho note h10 (by omega))))) (Ev.pos rfl (Ev.bind (same_small hsm) (Ev.pos rfl alive_tail)))
    simp only [List.length_append, List.length_cons, List.length_nil]
    omega
  · exact Ev.got ((ftext_f l0 l1 a b c hsm).trans (congrArg some (if_neg he))) (Ev.neg he (Ev.pos (ofL_toList _) alive_tail))
theorem comments_loop (l0 : List S52) (l1 : List S49) (a b c : Int) (hf : fewB l0 l1 = true) (hi : intsF l1 a b c) (note : List UInt8) (hn : note.length ≤ 40) (d : Nat) : ∀ i : Nat, i + d = note.length → 10 ∉ note.take i →
    Ev (fun k => unicodetextlaw42_ElementComments.l0 k (ofL note) (i : Int) l0 l1 a b c) true := by
  induction d with
  | zero =>
    intro i hid h10
    rw [List.take_of_length_le (by omega)] at h10
    exact comments_end l0 l1 a b c hf hi note hn h10 i (by omega)
  | succ d ih =>
    intro i hid h10
    have hlt : i < note.length := by omega
    have hb := bt_ofL note i hlt
    by_cases hx : note[i] = 10
    · refine Ev.step (f := fun k => (unicodetextlaw42_alive.f k).bind fun t => some t) (fun k => ?_) alive_tail
      simp only [unicodetextlaw42_ElementComments.l0]
      rw [if_pos (by rw [ofL_size]; omega), if_pos (by omega), if_pos (by rw [hb, hx]; rfl)]
    · refine Ev.step (f := fun k => unicodetextlaw42_ElementComments.l0 k (ofL note) ((i + 1 : Nat) : Int) l0 l1 a b c) (fun k => ?_) (ih (i + 1) (by omega) ?_)
      · simp only [unicodetextlaw42_ElementComments.l0]
        rw [if_pos (by rw [ofL_size]; omega), if_pos (by omega), if_neg, wrap_succ i (by omega)]
        rw [hb]
        intro e
        exact hx (UInt8.toNat_inj.1 (by rw [show (10 : UInt8).toNat = 10 from rfl]; omega))
      · rw [List.take_succ_eq_append_getElem hlt]
        intro hm
        rcases List.mem_append.1 hm with hm | hm
        · exact h10 hm
        · simp only [List.mem_singleton] at hm
          exact hx hm.symm
theorem ElementComments_ev (l0 : List S52) (l1 : List S49) (a b c : Int) (hi : intsF l1 a b c) (note : List UInt8) : Ev (fun k => unicodetextlaw42_ElementComments.f k l0 l1 a b c (ofL note)) true := by
  have hbig : Ev (fun k => unicodetextlaw42_ElementComments.j0 k (ofL note) true l0 l1 a b c) true := by
    refine Ev.step (f := fun k => (unicodetextlaw42_alive.f k).bind fun t => some t) (fun k => ?_) alive_tail
    simp only [unicodetextlaw42_ElementComments.j0]
    rw [if_pos trivial]
  refine Ev.bind (few_ev l0 l1 a b c) ?_
  by_cases hf : fewB l0 l1 = true
  · refine Ev.pos hf ?_
    by_cases hn : note.length ≤ 40
    · rw [show decide (((ofL note).size : Int) > 40) = false from decide_eq_false (by rw [ofL_size]; omega)]
      refine Ev.step (f := fun k => unicodetextlaw42_ElementComments.l0 k (ofL note) 0 l0 l1 a b c) (fun k => ?_) (comments_loop l0 l1 a b c hf hi note hn note.length 0 (by omega) (by simp))
      simp only [unicodetextlaw42_ElementComments.j0]
      rw [if_neg (by decide)]
    · rw [show decide (((ofL note).size : Int) > 40) = true from decide_eq_true (by rw [ofL_size]; omega)]
      exact hbig
  · exact Ev.neg hf hbig
theorem ElementComments_pure (l0 : List S52) (l1 : List S49) (a b c : Int) (hi : intsF l1 a b c) (s : ByteArray) : ∃ k, unicodetextlaw42_ElementComments.f k l0 l1 a b c s = some true := by
  obtain ⟨t, rfl, -⟩ := ofL_of s
  obtain ⟨K, h⟩ := ElementComments_ev l0 l1 a b c hi t
  exact ⟨K, h K (Nat.le_refl _)⟩
end Go.Proofs.YtdaijpjjilmkkaaDoor.Pr
