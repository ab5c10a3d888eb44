/- Texts of the claim ElementFiles, joined: Prx30, ELawR, Prx3, Prx22, ERef, EAlive, EInts, ZElem, ZFile, PElementFiles. -/
import Derived.Test.YtdaijpjjilmkkaaGreatDoorZElementFiles22
import Derived.Test.YtdaijpjjilmkkaaGreatDoorZElementFiles23
import Derived.Test.YtdaijpjjilmkkaaGreatDoorZElementFiles25
import Derived.Test.YtdaijpjjilmkkaaGreatDoorZElementFiles32
import Derived.Test.YtdaijpjjilmkkaaGreatDoorZElementFiles30
import Derived.Lib.ItoaLen
import Derived.Test.YtdaijpjjilmkkaaGreatDoorZElementFiles26
import Derived.Test.YtdaijpjjilmkkaaGreatDoorZElementFiles31
import Derived.Test.YtdaijpjjilmkkaaGreatDoorZElementFiles24
namespace Go.Proofs.YtdaijpjjilmkkaaGreatDoor.Pr
open Go.RowKit Go.Proofs.YtdaijpjjilmkkaaGreatDoorW.PrintWords Go.Proofs.YtdaijpjjilmkkaaGreatDoorW.PrintLast Go.Proofs.YtdaijpjjilmkkaaGreatDoorW.PrintMore
attribute [local go_sem] max2_int min2_int max_two min_two max_three min_three max_four min_four   -- for this text's walks alone
set_option linter.unusedVariables false
set_option linter.unusedSimpArgs false
def w42_ElementFiles.f (k : Nat) (l0_0 : List (S49)) (l0_1 : List (S46)) (a0_2 : Int) (a0_3 : Int) (a0_4 : Int) : Option (Bool) := (r42_Few.f k l0_0 l0_1 a0_2 a0_3 a0_4).bind fun t415 => (if t415 = true then ((element_FileText.f l0_0 l0_1 a0_2 a0_3 a0_4).bind fun bt416 => ((r42_FileText.f k l0_0 l0_1 a0_2 a0_3 a0_4).bind fun bt418 => (if bt416.1.toList = bt418.1.toList then (if bt416.2 = bt418.2 then ((w42_alive.f k).bind fun t420 => (some t420)) else (none)) else (none)))) else ((w42_alive.f k).bind fun t421 => (some t421)))
theorem w42_ElementFiles.mono : ∀ a0 a1 a2 a3 a4 k, LeO (w42_ElementFiles.f k a0 a1 a2 a3 a4) (w42_ElementFiles.f (k + 1) a0 a1 a2 a3 a4) := by
  (intro a0 a1 a2 a3 a4 k); (unfold w42_ElementFiles.f)
  repeat' first
      | (with_reducible exact w42_alive.mono _)
      | (with_reducible exact r42_Few.mono _ _ _ _ _ _)
      | (with_reducible exact r42_FileText.mono _ _ _ _ _ _)
      | (with_reducible exact LeO.refl _)
      | (with_reducible exact LeO.none _)
      | (with_reducible refine LeO.ite ?_ ?_)
      | (with_reducible refine LeO.bind ?_ (fun _ => ?_))
      | exact w42_alive.mono _
      | exact r42_Few.mono _ _ _ _ _ _
      | exact r42_FileText.mono _ _ _ _ _ _
      | exact LeO.none _
      | refine LeO.ite ?_ ?_
      | refine LeO.bind ?_ (fun _ => ?_)
set_option maxHeartbeats 8000000 in
set_option maxRecDepth 100000 in
theorem w42_ElementFiles.calls (k : Nat) (A0_0 : Option Addr) (c0_0 : Nat) (l0_0 : List (S49)) (A0_1 : Option Addr) (c0_1 : Nat) (l0_1 : List (S46)) (a0_2 : Int) (a0_3 : Int) (a0_4 : Int) (r : Bool) (w : World) (hr0_0 : Kd.C k49 w A0_0 l0_0.length l0_0) (hc0_0 : l0_0.length ≤ c0_0) (hr0_1 : Kd.C k46 w A0_1 l0_1.length l0_1) (hc0_1 : l0_1.length ≤ c0_1) (h : w42_ElementFiles.f k l0_0 l0_1 a0_2 a0_3 a0_4 = some r) (hG : GW w) :
    Calls Tryz.prog 5 #[.agg #[.slice A0_0 l0_0.length c0_0, .slice A0_1 l0_1.length c0_1, .int .i64 a0_2, .int .i64 a0_3, .int .i64 a0_4]] w fun e w' => e = .returned (.bool r) ∧ Below w.heap.size w w' := by
  (have HG := Aside0.mk hG); (clear hG); (have hu35 := Tryz.underlying35); (have HR0_0 := Aside0.mk hr0_0); (have HC0_0 := Aside0.mk hc0_0); (clear hr0_0 hc0_0); (have HR0_1 := Aside0.mk hr0_1); (have HC0_1 := Aside0.mk hc0_1); (clear hr0_1 hc0_1); (have HB := Aside0.mk (Below.refl w.heap.size w)); (have H : ((r42_Few.f k l0_0 l0_1 a0_2 a0_3 a0_4).bind fun t415 => (if t415 = true then ((element_FileText.f l0_0 l0_1 a0_2 a0_3 a0_4).bind fun bt416 => ((r42_FileText.f k l0_0 l0_1 a0_2 a0_3 a0_4).bind fun bt418 => (if bt416.1.toList = bt418.1.toList then (if bt416.2 = bt418.2 then ((w42_alive.f k).bind fun t420 => (some t420)) else (none)) else (none)))) else ((w42_alive.f k).bind fun t421 => (some t421)))) = some r := h); (clear h); (replace H := Option.bind_eq_some_iff.mp H); (obtain ⟨t415, A20, H⟩ := H); (replace H : (if t415 = true then ((element_FileText.f l0_0 l0_1 a0_2 a0_3 a0_4).bind fun bt416 => ((r42_FileText.f k l0_0 l0_1 a0_2 a0_3 a0_4).bind fun bt418 => (if bt416.1.toList = bt418.1.toList then (if bt416.2 = bt418.2 then ((w42_alive.f k).bind fun t420 => (some t420)) else (none)) else (none)))) else ((w42_alive.f k).bind fun t421 => (some t421))) = some r := H); (have A2 := Aside0.mk A20); (clear A20); (by_cases c3 : t415 = true)
  · (subst c3); (have H1 : ((element_FileText.f l0_0 l0_1 a0_2 a0_3 a0_4).bind fun bt416 => ((r42_FileText.f k l0_0 l0_1 a0_2 a0_3 a0_4).bind fun bt418 => (if bt416.1.toList = bt418.1.toList then (if bt416.2 = bt418.2 then ((w42_alive.f k).bind fun t420 => (some t420)) else (none)) else (none)))) = some r := by rw [if_pos rfl] at H; exact H); (clear H); (have H := H1); (clear H1); (replace H := Option.bind_eq_some_iff.mp H); (obtain ⟨⟨t416, t417⟩, A40, H⟩ := H); (replace H : ((r42_FileText.f k l0_0 l0_1 a0_2 a0_3 a0_4).bind fun bt418 => (if t416.toList = bt418.1.toList then (if t417 = bt418.2 then ((w42_alive.f k).bind fun t420 => (some t420)) else (none)) else (none))) = some r := H); (have A4 := Aside0.mk A40); (clear A40); (replace H := Option.bind_eq_some_iff.mp H); (obtain ⟨⟨t418, t419⟩, A50, H⟩ := H); (replace H : (if t416.toList = t418.toList then (if t417 = t419 then ((w42_alive.f k).bind fun t420 => (some t420)) else (none)) else (none)) = some r := H); (have A5 := Aside0.mk A50); (clear A50); (by_cases c6 : t416.toList = t418.toList)
    · (rw [if_pos c6] at H); (have c6b0 : (t416.toList == t418.toList) = true := beq_iff_eq.mpr c6); (have c6b1 : (t416.toList != t418.toList) = false := bne_eq_false_iff_eq.mpr c6); (clear c6); (by_cases c7 : t417 = t419)
      · (rw [if_pos c7] at H); (have c7b0 : (t417 == t419) = true := beq_iff_eq.mpr c7); (have c7b1 : (t417 != t419) = false := bne_eq_false_iff_eq.mpr c7); (clear c7); (replace H := Option.bind_eq_some_iff.mp H); (obtain ⟨t420, A80, H⟩ := H); (replace H : (some t420) = some r := H); (have A8 := Aside0.mk A80); (clear A80); (obtain rfl := Option.some.inj H); (go_enter Tryz.func5, Tryz.ntmps5); (go_wp2_with (first | ((with_reducible refine gate_dst (N := 1) rfl ?_); refine box_event ?hg (N := 1) ?hd (cs := #[.slice A0_0 l0_0.length c0_0, .slice A0_1 l0_1.length c0_1, .int .i64 a0_2, .int .i64 a0_3, .int .i64 a0_4]) (t := 35) ?hr ?_; (case hd => rfl); (case hg => rfl); (case hr => first | (go_simp; done) | (go_simp; rfl)); intro gb414 hg w9 hbox hb; have n0_ := Aside0.mk (below_step (by repeat (first | (with_reducible first | exact HB.out | apply below_alloc | apply pw_below_drewN | apply below_drew1) | exact HB.out)) hb); have n1_ := Aside0.mk (hbox); have n2_ := Aside0.mk ((by rw [hg]; exact (below_size (by repeat (first | (with_reducible first | exact HB.out | apply below_alloc | apply pw_below_drewN | apply below_drew1) | exact HB.out))) : w.heap.size ≤ gb414)); have n3_ := Aside0.mk ((by rw [hg]; exact (below_size (by repeat (first | (with_reducible first | exact HB.out | apply below_alloc | apply pw_below_drewN | apply below_drew1) | exact HB.out))) : w.heap.size ≤ gb414)); clear HB; have HB := n0_; have BK414 := n1_; have GW414 := n2_; have GE414 := n3_; clear n0_ n1_ n2_ n3_; clear hb hbox hg; have hcz10_0 : w9.cell? ⟨gb414, 0, none⟩ = some (.slice A0_0 l0_0.length c0_0) := (blk_cell BK414.out 0).trans rfl; have hcz10_1 : w9.cell? ⟨gb414, 1, none⟩ = some (.slice A0_1 l0_1.length c0_1) := (blk_cell BK414.out 1).trans rfl; have hcz10_2 : w9.cell? ⟨gb414, 2, none⟩ = some (.int .i64 a0_2) := (blk_cell BK414.out 2).trans rfl; have hcz10_3 : w9.cell? ⟨gb414, 3, none⟩ = some (.int .i64 a0_3) := (blk_cell BK414.out 3).trans rfl; have hcz10_4 : w9.cell? ⟨gb414, 4, none⟩ = some (.int .i64 a0_4) := (blk_cell BK414.out 4).trans rfl; have hfz10_0 := blk_frozen BK414.out 0; have hfz10_1 := blk_frozen BK414.out 1; have hfz10_2 := blk_frozen BK414.out 2; have hfz10_3 := blk_frozen BK414.out 3; have hfz10_4 := blk_frozen BK414.out 4) | ((with_reducible refine gate_callee (f := 14) rfl ?_); refine goesL_ (some 8) rfl rfl Tryz.func14 (by kernel_rfl) rfl #[.agg #[.slice A0_0 l0_0.length c0_0, .slice A0_1 l0_1.length c0_1, .int .i64 a0_2, .int .i64 a0_3, .int .i64 a0_4]] rfl (by (try simp only [List.map_toArray, List.map_cons, List.map_nil]); first | done | rfl | (simp only [List.length_drop, List.length_take]; rfl)) ?_; (with_reducible refine (r42_Few.calls k _ _ l0_0 _ _ l0_1 a0_2 a0_3 a0_4 true _ ?side1 ?side2 ?side3 ?side4 A2.out).mono ?_); (case side1 => repeat (first | exact (Kd.C_below HR0_0.out HB.out) | (with_reducible refine Kd.C_alloc ?_ _) | (with_reducible refine Kd.C_drewN ?_ _) | (with_reducible refine Kd.C_drew ?_))); (case side2 => exact HC0_0.out); (case side3 => repeat (first | exact (Kd.C_below HR0_1.out HB.out) | (with_reducible refine Kd.C_alloc ?_ _) | (with_reducible refine Kd.C_drewN ?_ _) | (with_reducible refine Kd.C_drew ?_))); (case side4 => exact HC0_1.out); rintro e w11 ⟨rfl, hb⟩; refine ⟨_, rfl, ?_⟩; have n0_ := Aside0.mk (blk_below (g := gb414) (o := .cells #[.slice A0_0 l0_0.length c0_0, .slice A0_1 l0_1.length c0_1, .int .i64 a0_2, .int .i64 a0_3, .int .i64 a0_4] 35 (0, 0)) (by (with_reducible repeat (first | refine blk_drewN ?_ _ | refine blk_drew ?_ | refine blk_alloc ?_ _)); exact BK414.out) hb); have n1_ := Aside0.mk (below_step (by repeat (first | (with_reducible first | exact HB.out | apply below_alloc | apply pw_below_drewN | apply below_drew1 | refine below_set ?_ GE414.out) | exact HB.out)) hb); clear BK414; clear HB; have BK414 := n0_; have HB := n1_; clear n0_ n1_; have hcz12_0 : w11.cell? ⟨gb414, 0, none⟩ = some (.slice A0_0 l0_0.length c0_0) := (blk_cell BK414.out 0).trans rfl; have hcz12_1 : w11.cell? ⟨gb414, 1, none⟩ = some (.slice A0_1 l0_1.length c0_1) := (blk_cell BK414.out 1).trans rfl; have hcz12_2 : w11.cell? ⟨gb414, 2, none⟩ = some (.int .i64 a0_2) := (blk_cell BK414.out 2).trans rfl; have hcz12_3 : w11.cell? ⟨gb414, 3, none⟩ = some (.int .i64 a0_3) := (blk_cell BK414.out 3).trans rfl; have hcz12_4 : w11.cell? ⟨gb414, 4, none⟩ = some (.int .i64 a0_4) := (blk_cell BK414.out 4).trans rfl; have hfz12_0 := blk_frozen BK414.out 0; have hfz12_1 := blk_frozen BK414.out 1; have hfz12_2 := blk_frozen BK414.out 2; have hfz12_3 := blk_frozen BK414.out 3; have hfz12_4 := blk_frozen BK414.out 4) | ((with_reducible refine gate_callee (f := 15) rfl ?_); refine goesL_ (some 13) rfl rfl Tryz.func15 (by kernel_rfl) rfl #[.agg #[.slice A0_0 l0_0.length c0_0, .slice A0_1 l0_1.length c0_1, .int .i64 a0_2, .int .i64 a0_3, .int .i64 a0_4]] rfl (by (try simp only [List.map_toArray, List.map_cons, List.map_nil]); first | done | rfl | (simp only [List.length_drop, List.length_take]; rfl)) ?_; (with_reducible refine (element_FileText.calls _ _ l0_0 _ _ l0_1 a0_2 a0_3 a0_4 t416 t417 _ ?side1 ?side2 ?side3 ?side4 A4.out ?sideG).mono ?_); (case sideG => exact GW.below HG.out (by repeat (first | (with_reducible first | exact HB.out | apply below_alloc | apply pw_below_drewN | apply below_drew1 | refine below_set ?_ GE414.out) | exact HB.out))); (case side1 => repeat (first | exact (Kd.C_below HR0_0.out HB.out) | (with_reducible refine Kd.C_alloc ?_ _) | (with_reducible refine Kd.C_drewN ?_ _) | (with_reducible refine Kd.C_drew ?_))); (case side2 => exact HC0_0.out); (case side3 => repeat (first | exact (Kd.C_below HR0_1.out HB.out) | (with_reducible refine Kd.C_alloc ?_ _) | (with_reducible refine Kd.C_drewN ?_ _) | (with_reducible refine Kd.C_drew ?_))); (case side4 => exact HC0_1.out); rintro e w13 ⟨rfl, hb⟩; refine ⟨_, rfl, ?_⟩; have n0_ := Aside0.mk (blk_below (g := gb414) (o := .cells #[.slice A0_0 l0_0.length c0_0, .slice A0_1 l0_1.length c0_1, .int .i64 a0_2, .int .i64 a0_3, .int .i64 a0_4] 35 (0, 0)) (by (with_reducible repeat (first | refine blk_drewN ?_ _ | refine blk_drew ?_ | refine blk_alloc ?_ _)); exact BK414.out) hb); have n1_ := Aside0.mk (below_step (by repeat (first | (with_reducible first | exact HB.out | apply below_alloc | apply pw_below_drewN | apply below_drew1 | refine below_set ?_ GE414.out) | exact HB.out)) hb); clear BK414; clear HB; have BK414 := n0_; have HB := n1_; clear n0_ n1_; have hcz14_0 : w13.cell? ⟨gb414, 0, none⟩ = some (.slice A0_0 l0_0.length c0_0) := (blk_cell BK414.out 0).trans rfl; have hcz14_1 : w13.cell? ⟨gb414, 1, none⟩ = some (.slice A0_1 l0_1.length c0_1) := (blk_cell BK414.out 1).trans rfl; have hcz14_2 : w13.cell? ⟨gb414, 2, none⟩ = some (.int .i64 a0_2) := (blk_cell BK414.out 2).trans rfl; have hcz14_3 : w13.cell? ⟨gb414, 3, none⟩ = some (.int .i64 a0_3) := (blk_cell BK414.out 3).trans rfl; have hcz14_4 : w13.cell? ⟨gb414, 4, none⟩ = some (.int .i64 a0_4) := (blk_cell BK414.out 4).trans rfl; have hfz14_0 := blk_frozen BK414.out 0; have hfz14_1 := blk_frozen BK414.out 1; have hfz14_2 := blk_frozen BK414.out 2; have hfz14_3 := blk_frozen BK414.out 3; have hfz14_4 := blk_frozen BK414.out 4) | ((with_reducible refine gate_callee (f := 16) rfl ?_); refine goesL_ (some 18) rfl rfl Tryz.func16 (by kernel_rfl) rfl #[.agg #[.slice A0_0 l0_0.length c0_0, .slice A0_1 l0_1.length c0_1, .int .i64 a0_2, .int .i64 a0_3, .int .i64 a0_4]] rfl (by (try simp only [List.map_toArray, List.map_cons, List.map_nil]); first | done | rfl | (simp only [List.length_drop, List.length_take]; rfl)) ?_; (with_reducible refine (r42_FileText.calls k _ _ l0_0 _ _ l0_1 a0_2 a0_3 a0_4 t418 t419 _ ?side1 ?side2 ?side3 ?side4 A5.out).mono ?_); (case side1 => repeat (first | exact (Kd.C_below HR0_0.out HB.out) | (with_reducible refine Kd.C_alloc ?_ _) | (with_reducible refine Kd.C_drewN ?_ _) | (with_reducible refine Kd.C_drew ?_))); (case side2 => exact HC0_0.out); (case side3 => repeat (first | exact (Kd.C_below HR0_1.out HB.out) | (with_reducible refine Kd.C_alloc ?_ _) | (with_reducible refine Kd.C_drewN ?_ _) | (with_reducible refine Kd.C_drew ?_))); (case side4 => exact HC0_1.out); rintro e w15 ⟨rfl, hb⟩; refine ⟨_, rfl, ?_⟩; have n0_ := Aside0.mk (blk_below (g := gb414) (o := .cells #[.slice A0_0 l0_0.length c0_0, .slice A0_1 l0_1.length c0_1, .int .i64 a0_2, .int .i64 a0_3, .int .i64 a0_4] 35 (0, 0)) (by (with_reducible repeat (first | refine blk_drewN ?_ _ | refine blk_drew ?_ | refine blk_alloc ?_ _)); exact BK414.out) hb); have n1_ := Aside0.mk (below_step (by repeat (first | (with_reducible first | exact HB.out | apply below_alloc | apply pw_below_drewN | apply below_drew1 | refine below_set ?_ GE414.out) | exact HB.out)) hb); clear BK414; clear HB; have BK414 := n0_; have HB := n1_; clear n0_ n1_) | (go_at_call 7; (with_reducible refine (w42_alive.calls k  t420 _ A8.out ?sideG).mono ?_); (case sideG => exact GW.below HG.out (by repeat (first | (with_reducible first | exact HB.out | apply below_alloc | apply pw_below_drewN | apply below_drew1 | refine below_set ?_ GE414.out) | exact HB.out))); rintro e w16 ⟨rfl, hb⟩; have n0_ := Aside0.mk (blk_below (g := gb414) (o := .cells #[.slice A0_0 l0_0.length c0_0, .slice A0_1 l0_1.length c0_1, .int .i64 a0_2, .int .i64 a0_3, .int .i64 a0_4] 35 (0, 0)) (by (with_reducible repeat (first | refine blk_drewN ?_ _ | refine blk_drew ?_ | refine blk_alloc ?_ _)); exact BK414.out) hb); have n1_ := Aside0.mk (below_step (by repeat (first | (with_reducible first | exact HB.out | apply below_alloc | apply pw_below_drewN | apply below_drew1 | refine below_set ?_ GE414.out) | exact HB.out)) hb); clear BK414; clear HB; have BK414 := n0_; have HB := n1_; clear n0_ n1_))); (go_ret); (exact ⟨by first | rfl | (simp [errW_none, errW_some] <;> rfl) | (simp [*, errW_none, errW_some] <;> rfl), by repeat (first | (with_reducible first | exact HB.out | apply below_alloc | apply pw_below_drewN | apply below_drew1 | refine below_set ?_ GE414.out) | exact HB.out)⟩)
      · (rw [if_neg c7] at H); (exact absurd H (by simp))
    · (rw [if_neg c6] at H); (exact absurd H (by simp))
  · (replace c3 := Bool.eq_false_iff.mpr c3); (subst c3); (have H1 : ((w42_alive.f k).bind fun t421 => (some t421)) = some r := by rw [if_neg (show ¬ (false = true) by decide)] at H; exact H); (clear H); (have H := H1); (clear H1); (replace H := Option.bind_eq_some_iff.mp H); (obtain ⟨t421, A170, H⟩ := H); (replace H : (some t421) = some r := H); (have A17 := Aside0.mk A170); (clear A170); (obtain rfl := Option.some.inj H); (go_enter Tryz.func5, Tryz.ntmps5); (go_wp2_with (first | ((with_reducible refine gate_dst (N := 1) rfl ?_); refine box_event ?hg (N := 1) ?hd (cs := #[.slice A0_0 l0_0.length c0_0, .slice A0_1 l0_1.length c0_1, .int .i64 a0_2, .int .i64 a0_3, .int .i64 a0_4]) (t := 35) ?hr ?_; (case hd => rfl); (case hg => rfl); (case hr => first | (go_simp; done) | (go_simp; rfl)); intro gb414 hg w18 hbox hb; have n0_ := Aside0.mk (below_step (by repeat (first | (with_reducible first | exact HB.out | apply below_alloc | apply pw_below_drewN | apply below_drew1) | exact HB.out)) hb); have n1_ := Aside0.mk (hbox); have n2_ := Aside0.mk ((by rw [hg]; exact (below_size (by repeat (first | (with_reducible first | exact HB.out | apply below_alloc | apply pw_below_drewN | apply below_drew1) | exact HB.out))) : w.heap.size ≤ gb414)); have n3_ := Aside0.mk ((by rw [hg]; exact (below_size (by repeat (first | (with_reducible first | exact HB.out | apply below_alloc | apply pw_below_drewN | apply below_drew1) | exact HB.out))) : w.heap.size ≤ gb414)); clear HB; have HB := n0_; have BK414 := n1_; have GW414 := n2_; have GE414 := n3_; clear n0_ n1_ n2_ n3_; clear hb hbox hg; have hcz19_0 : w18.cell? ⟨gb414, 0, none⟩ = some (.slice A0_0 l0_0.length c0_0) := (blk_cell BK414.out 0).trans rfl; have hcz19_1 : w18.cell? ⟨gb414, 1, none⟩ = some (.slice A0_1 l0_1.length c0_1) := (blk_cell BK414.out 1).trans rfl; have hcz19_2 : w18.cell? ⟨gb414, 2, none⟩ = some (.int .i64 a0_2) := (blk_cell BK414.out 2).trans rfl; have hcz19_3 : w18.cell? ⟨gb414, 3, none⟩ = some (.int .i64 a0_3) := (blk_cell BK414.out 3).trans rfl; have hcz19_4 : w18.cell? ⟨gb414, 4, none⟩ = some (.int .i64 a0_4) := (blk_cell BK414.out 4).trans rfl; have hfz19_0 := blk_frozen BK414.out 0; have hfz19_1 := blk_frozen BK414.out 1; have hfz19_2 := blk_frozen BK414.out 2; have hfz19_3 := blk_frozen BK414.out 3; have hfz19_4 := blk_frozen BK414.out 4) | ((with_reducible refine gate_callee (f := 14) rfl ?_); refine goesL_ (some 8) rfl rfl Tryz.func14 (by kernel_rfl) rfl #[.agg #[.slice A0_0 l0_0.length c0_0, .slice A0_1 l0_1.length c0_1, .int .i64 a0_2, .int .i64 a0_3, .int .i64 a0_4]] rfl (by (try simp only [List.map_toArray, List.map_cons, List.map_nil]); first | done | rfl | (simp only [List.length_drop, List.length_take]; rfl)) ?_; (with_reducible refine (r42_Few.calls k _ _ l0_0 _ _ l0_1 a0_2 a0_3 a0_4 false _ ?side1 ?side2 ?side3 ?side4 A2.out).mono ?_); (case side1 => repeat (first | exact (Kd.C_below HR0_0.out HB.out) | (with_reducible refine Kd.C_alloc ?_ _) | (with_reducible refine Kd.C_drewN ?_ _) | (with_reducible refine Kd.C_drew ?_))); (case side2 => exact HC0_0.out); (case side3 => repeat (first | exact (Kd.C_below HR0_1.out HB.out) | (with_reducible refine Kd.C_alloc ?_ _) | (with_reducible refine Kd.C_drewN ?_ _) | (with_reducible refine Kd.C_drew ?_))); (case side4 => exact HC0_1.out); rintro e w20 ⟨rfl, hb⟩; refine ⟨_, rfl, ?_⟩; have n0_ := Aside0.mk (blk_below (g := gb414) (o := .cells #[.slice A0_0 l0_0.length c0_0, .slice A0_1 l0_1.length c0_1, .int .i64 a0_2, .int .i64 a0_3, .int .i64 a0_4] 35 (0, 0)) (by (with_reducible repeat (first | refine blk_drewN ?_ _ | refine blk_drew ?_ | refine blk_alloc ?_ _)); exact BK414.out) hb); have n1_ := Aside0.mk (below_step (by repeat (first | (with_reducible first | exact HB.out | apply below_alloc | apply pw_below_drewN | apply below_drew1 | refine below_set ?_ GE414.out) | exact HB.out)) hb); clear BK414; clear HB; have BK414 := n0_; have HB := n1_; clear n0_ n1_) | ((with_reducible refine gate_callee (f := 7) rfl ?_); refine goesL_ (some 10) rfl rfl Tryz.func7 (by kernel_rfl) rfl #[] rfl (by (try simp only [List.map_toArray, List.map_cons, List.map_nil]); first | done | rfl | (simp only [List.length_drop, List.length_take]; rfl)) ?_; (with_reducible refine (w42_alive.calls k  t421 _ A17.out ?sideG).mono ?_); (case sideG => exact GW.below HG.out (by repeat (first | (with_reducible first | exact HB.out | apply below_alloc | apply pw_below_drewN | apply below_drew1 | refine below_set ?_ GE414.out) | exact HB.out))); rintro e w21 ⟨rfl, hb⟩; refine ⟨_, rfl, ?_⟩; have n0_ := Aside0.mk (blk_below (g := gb414) (o := .cells #[.slice A0_0 l0_0.length c0_0, .slice A0_1 l0_1.length c0_1, .int .i64 a0_2, .int .i64 a0_3, .int .i64 a0_4] 35 (0, 0)) (by (with_reducible repeat (first | refine blk_drewN ?_ _ | refine blk_drew ?_ | refine blk_alloc ?_ _)); exact BK414.out) hb); have n1_ := Aside0.mk (below_step (by repeat (first | (with_reducible first | exact HB.out | apply below_alloc | apply pw_below_drewN | apply below_drew1 | refine below_set ?_ GE414.out) | exact HB.out)) hb); clear BK414; clear HB; have BK414 := n0_; have HB := n1_; clear n0_ n1_))); (go_ret); (exact ⟨by first | rfl | (simp [errW_none, errW_some] <;> rfl) | (simp [*, errW_none, errW_some] <;> rfl), by repeat (first | (with_reducible first | exact HB.out | apply below_alloc | apply pw_below_drewN | apply below_drew1 | refine below_set ?_ GE414.out) | exact HB.out)⟩)
end Go.Proofs.YtdaijpjjilmkkaaGreatDoor.Pr

/- Plain laws of collations: what ParseFile has read can be written, and is read again; lines out of order; sizes. -/
namespace Go.Proofs.YtdaijpjjilmkkaaGreatDoor.Pr
open Go.RowKit Go.Proofs.YtdaijpjjilmkkaaGreatDoorW.PrintWords Go.Proofs.YtdaijpjjilmkkaaGreatDoorW.PrintLast Go.Proofs.YtdaijpjjilmkkaaGreatDoorW.PrintMore
set_option linter.unusedVariables false
set_option linter.unusedSimpArgs false
structure okR (st : Rd) (N : Nat) : Prop where
  g : ∀ g ∈ st.gs, okG g
  x : ∀ x ∈ st.es, okX x
  f : st.bg = false → st.es = [] ∧ st.gs = []
  b : st.bg = true → in64 st.b1 ∧ in64 st.b2 ∧ in64 st.b3 ∧ (fileT st.es st.gs st.b1 st.b2 st.b3).length ≤ N
  l : st.ls.length = st.es.length
  m : ∀ n ∈ st.ls, 1 ≤ n
theorem words4 (p q r t : List UInt8) : (wordsT [p, q, r, t]).length = p.length + q.length + r.length + t.length + 4 := wordsT_len p q r t
def fewB (l0 : List S49) (l1 : List S46) : Bool :=
  decide (l0.length ≤ 12) && decide (l1.length ≤ 8) && l0.all (fun x => decide (x.f0.length ≤ 16) && decide (x.f1.length ≤ 16)) && l1.all (fun g => decide (g.f0.size ≤ 40))
theorem few_parts {l0 : List S49} {l1 : List S46} (h : fewB l0 l1 = true) : l0.length ≤ 12 ∧ l1.length ≤ 8 ∧ (∀ x ∈ l0, x.f0.length ≤ 16 ∧ x.f1.length ≤ 16) ∧ ∀ g ∈ l1, g.f0.size ≤ 40 := by
  (unfold fewB at h); (simp only [Bool.and_eq_true, decide_eq_true_eq, List.all_eq_true] at h); (obtain ⟨⟨⟨h1, h2⟩, h3⟩, h4⟩ := h); (exact ⟨h1, h2, h3, h4⟩)
theorem few_small {l0 : List S49} {l1 : List S46} {a b c : Int} (h : fewB l0 l1 = true) (hg : ∀ g ∈ l1, i64B g.f1 = true ∧ i64B g.f2 = true) (ha : i64B a = true) (hb : i64B b = true) (hc : i64B c = true) : smallF l0 l1 a b c = true := by
  obtain ⟨h1, h2, h3, h4⟩ := few_parts h
  have hx : l0.all smallX = true := List.all_eq_true.2 fun x hx => by
    (have := h3 x hx); (unfold smallX); (rw [Bool.and_eq_true]); (exact ⟨decide_eq_true (by omega), decide_eq_true (by omega)⟩)
  have hg2 : l1.all smallG = true := List.all_eq_true.2 fun g hm => by
    (have := h4 g hm); (unfold smallG); (rw [(hg g hm).1, (hg g hm).2, Bool.and_true, Bool.and_true]); (exact decide_eq_true (by omega))
  (unfold smallF); (rw [hx, hg2, ha, hb, hc]); (simp only [Bool.and_true, Bool.and_eq_true]); (exact ⟨decide_eq_true (by omega), decide_eq_true (by omega)⟩)
theorem itoa_le (n : Int) (h : in64 n) : (Lib.itoa n).length ≤ 21 := Lib.itoa_length_le n (by have := h.1; omega) h.2
def w1 : List UInt8 := [64, 98, 97, 115, 101, 32, 49, 32, 50, 32, 51]
def w2 : List UInt8 := [48, 48, 54, 49, 59, 32]
def w3 : List UInt8 := [64, 103, 114, 111, 117, 112, 32, 120, 32, 49, 32, 50]
def x2 : S49 := ⟨[97], []⟩
end Go.Proofs.YtdaijpjjilmkkaaGreatDoor.Pr

namespace Go.Proofs.YtdaijpjjilmkkaaGreatDoor.Pr
open Go.RowKit Go.Proofs.YtdaijpjjilmkkaaGreatDoorW.PrintWords Go.Proofs.YtdaijpjjilmkkaaGreatDoorW.PrintLast Go.Proofs.YtdaijpjjilmkkaaGreatDoorW.PrintMore
attribute [local go_sem] max2_int min2_int max_two min_two max_three min_three max_four min_four   -- for this text's walks alone
set_option linter.unusedVariables false
set_option linter.unusedSimpArgs false
theorem eqA46 (d : Nat) (w : World) (x0 y0 : ByteArray) (x1 y1 : Int) (x2 y2 : Int) :
    (Op.equalIn (d + 2) 46 (.agg #[.string x0, .int .i64 x1, .int .i64 x2]) (.agg #[.string y0, .int .i64 y1, .int .i64 y2])).run Tryz.prog w = .ok (x0.toList == y0.toList && (x1 == y1 && (x2 == y2))) w := by
  (refine eqA_of Tryz.underlying46 (by kernel_rfl) ?_); (refine eqf_cons (by rfl) (by go_simp; rfl) (by go_simp; rfl) (by go_simp) ?_); (refine eqf_cons (by rfl) (by go_simp; rfl) (by go_simp; rfl) (by go_simp) ?_); (exact eqf_last (by rfl) (by go_simp; rfl) (by go_simp; rfl) (by go_simp))
end Go.Proofs.YtdaijpjjilmkkaaGreatDoor.Pr

namespace Go.Proofs.YtdaijpjjilmkkaaGreatDoor.Pr
open Go.RowKit Go.Proofs.YtdaijpjjilmkkaaGreatDoorW.PrintWords Go.Proofs.YtdaijpjjilmkkaaGreatDoorW.PrintLast Go.Proofs.YtdaijpjjilmkkaaGreatDoorW.PrintMore
attribute [local go_sem] max2_int min2_int max_two min_two max_three min_three max_four min_four   -- for this text's walks alone
set_option linter.unusedVariables false
set_option linter.unusedSimpArgs false
attribute [local go_sem high] eqA46
end Go.Proofs.YtdaijpjjilmkkaaGreatDoor.Pr

/- Plain laws: what the reference's functions Check, SameElements, Same and Few answer. -/
namespace Go.Proofs.YtdaijpjjilmkkaaGreatDoor.Pr
open Go.RowKit Go.Proofs.YtdaijpjjilmkkaaGreatDoorW.PrintWords Go.Proofs.YtdaijpjjilmkkaaGreatDoorW.PrintLast Go.Proofs.YtdaijpjjilmkkaaGreatDoorW.PrintMore
set_option linter.unusedVariables false
set_option linter.unusedSimpArgs false
theorem Ev.pos {α : Type} {c : Prop} [Decidable c] {f g : Nat → Option α} {r : α} (hc : c) (h : Ev f r) : Ev (fun k => if c then f k else g k) r := Ev.congr (fun k => if_pos hc) h
theorem Ev.neg {α : Type} {c : Prop} [Decidable c] {f g : Nat → Option α} {r : α} (hc : ¬ c) (h : Ev g r) : Ev (fun k => if c then f k else g k) r := Ev.congr (fun k => if_neg hc) h
theorem Ev.got {α β : Type} {o : Option β} {b : β} {g : Nat → β → Option α} {r : α} (h : o = some b) (h2 : Ev (fun k => g k b) r) : Ev (fun k => o.bind (g k)) r := by
  (subst h); (exact h2)
theorem Ev.succ {α : Type} {F : Nat → Option α} {r : α} (h : Ev (fun k => F (k + 1)) r) : Ev F r := by
  (obtain ⟨K, h⟩ := h); (refine ⟨K + 1, fun k hk => ?_⟩); (obtain ⟨m, rfl⟩ : ∃ m, k = m + 1 := ⟨k - 1, by omega⟩); (exact h m (by omega))
theorem weight_f (a : Int) : r42_weight.f a = some (decide (0 ≤ a ∧ a ≤ 65535)) := by
  (unfold r42_weight.f); (by_cases h : a ≥ 0)
  · (rw [if_pos h]); (congr 1); (exact decide_eq_decide.2 ⟨fun e => ⟨h, e⟩, fun e => e.2⟩)
  · (rw [if_neg h]); (congr 1); (symm); (exact decide_eq_false (fun e => h e.1))
theorem checkR_ev (x : S44) : Ev (fun k => r42_Check.f k x.f0 x.f1 x.f2 x.f3) (checkE x) := by
  (obtain ⟨a, b, c, d⟩ := x); (refine Ev.of (fun k => r42_Check.mono _ _ _ _ k) (k := 1) ?_); (dsimp only); (unfold r42_Check.f checkE); (rw [weight_f, weight_f, weight_f]); (simp only [Option.bind_some, decide_eq_true_eq]); (by_cases ha : 0 ≤ a ∧ a ≤ 65535)
  · (rw [if_pos ha]); (by_cases hb : 0 ≤ b ∧ b ≤ 65535)
    · (rw [if_pos hb]); (by_cases hc : 0 ≤ c ∧ c ≤ 65535)
      · (rw [if_pos ⟨ha, hb, hc⟩, decide_eq_true hc]); (simp only [r42_Check.j0, Bool.not_true]); (rw [if_neg (by decide)]); (by_cases a0 : a = 0 <;> by_cases b0 : b = 0 <;> by_cases c0 : c = 0 <;> cases d <;> simp [a0, b0, c0])
      · (rw [if_neg (fun h => hc h.2.2), decide_eq_false hc]); (rfl)
    · (rw [if_neg hb, if_neg (fun h => hb h.2.1)]); (rfl)
  · (rw [if_neg ha, if_neg (fun h => ha h.1)]); (rfl)
theorem sameE_loop (l : List S44) (hl : l.length ≤ 1000000) (d : Nat) : ∀ i : Nat, i + d = l.length → Ev (fun k => r42_SameElements.l0 k l l (i : Int)) true := by
  induction d with
  | zero =>
    (intro i hi); (refine ⟨1, fun k hk => ?_⟩); (try dsimp only); (obtain ⟨k, rfl⟩ : ∃ m, k = m + 1 := ⟨k - 1, by omega⟩); (simp only [r42_SameElements.l0])
    rw [if_neg (by omega)]
  | succ d ih =>
    (intro i hi); (refine Ev.step (f := fun k => r42_SameElements.l0 k l l ((i + 1 : Nat) : Int)) (fun k => ?_) (ih (i + 1) (by omega))); (simp only [r42_SameElements.l0]); (rw [if_pos (by omega), if_pos (by omega), if_pos (by omega), if_neg (by simp), wrap_succ i (by omega)])
theorem sameE_ev (l : List S44) (hl : l.length ≤ 1000000) : Ev (fun k => r42_SameElements.f k l l) true := by
  (have := sameE_loop l hl l.length 0 (by omega)); (exact Ev.pos rfl this)
section
variable (es : List S49) (gs : List S46) (a b c : Int)
theorem few_l1 (hg : gs.length ≤ 8) (d : Nat) : ∀ i : Nat, i + d = gs.length → Ev (fun k => r42_Few.l1 k (i : Int) es gs a b c) ((gs.drop i).all fun g => decide (g.f0.size ≤ 40)) := by
  induction d with
  | zero =>
    (intro i hi); (refine ⟨1, fun k hk => ?_⟩); (try dsimp only); (obtain ⟨k, rfl⟩ : ∃ m, k = m + 1 := ⟨k - 1, by omega⟩); (simp only [r42_Few.l1]); (rw [if_neg (by omega), List.drop_of_length_le (by omega)])
    rfl
  | succ d ih =>
    (intro i hi); (have hlt : i < gs.length := by omega); (have hd : gs.drop i = gs[i] :: gs.drop (i + 1) := List.drop_eq_getElem_cons hlt); (have h2 := ih (i + 1) (by omega)); (rw [hd, List.all_cons]); (by_cases h40 : gs[i].f0.size ≤ 40)
    · (rw [decide_eq_true h40, Bool.true_and]); (refine Ev.step (f := fun k => r42_Few.l1 k ((i + 1 : Nat) : Int) es gs a b c) (fun k => ?_) h2); (simp only [r42_Few.l1]); (rw [if_pos (by omega), if_pos (by omega), rdG_at gs i hlt, if_neg (by omega), wrap_succ i (by omega)])
    · (rw [decide_eq_false h40, Bool.false_and]); (refine ⟨1, fun k hk => ?_⟩); (try dsimp only); (obtain ⟨k, rfl⟩ : ∃ m, k = m + 1 := ⟨k - 1, by omega⟩); (simp only [r42_Few.l1]); (rw [if_pos (by omega), if_pos (by omega), rdG_at gs i hlt, if_pos (by omega)])
def fewX (x : S49) : Bool := decide (x.f0.length ≤ 16) && decide (x.f1.length ≤ 16)
theorem few_l0 (hl : es.length ≤ 12) (hg : gs.length ≤ 8) (d : Nat) : ∀ i : Nat, i + d = es.length → Ev (fun k => r42_Few.l0 k (i : Int) es gs a b c) ((es.drop i).all fewX && gs.all fun g => decide (g.f0.size ≤ 40)) := by
  induction d with
  | zero =>
    (intro i hi); (rw [List.drop_of_length_le (by omega), List.all_nil, Bool.true_and]); (refine Ev.step (f := fun k => r42_Few.l1 k 0 es gs a b c) (fun k => ?_) (few_l1 es gs a b c hg gs.length 0 (by omega))); (simp only [r42_Few.l0])
    rw [if_neg (by omega)]
  | succ d ih =>
    (intro i hi); (have hlt : i < es.length := by omega); (have hd : es.drop i = es[i] :: es.drop (i + 1) := List.drop_eq_getElem_cons hlt); (have h2 := ih (i + 1) (by omega)); (rw [hd, List.all_cons]); (by_cases h0 : es[i].f0.length ≤ 16)
    · by_cases h1 : es[i].f1.length ≤ 16
      · (rw [show fewX es[i] = true by unfold fewX; rw [decide_eq_true h0, decide_eq_true h1]; rfl, Bool.true_and]); (refine Ev.step (f := fun k => r42_Few.l0 k ((i + 1 : Nat) : Int) es gs a b c) (fun k => ?_) h2); (simp only [r42_Few.l0, r42_SmallElements.f]); (rw [if_pos (by omega), if_pos (by omega), rdX_at es i hlt, if_neg (by omega), Option.bind_some, if_pos (decide_eq_true (by omega)), wrap_succ i (by omega)])
      · (rw [show fewX es[i] = false by unfold fewX; rw [decide_eq_false h1, Bool.and_false], Bool.false_and, Bool.false_and]); (refine ⟨1, fun k hk => ?_⟩); (try dsimp only); (obtain ⟨k, rfl⟩ : ∃ m, k = m + 1 := ⟨k - 1, by omega⟩); (simp only [r42_Few.l0, r42_SmallElements.f]); (rw [if_pos (by omega), if_pos (by omega), rdX_at es i hlt, if_neg (by omega), Option.bind_some, if_neg (by simp; omega)])
    · (rw [show fewX es[i] = false by unfold fewX; rw [decide_eq_false h0, Bool.false_and], Bool.false_and, Bool.false_and]); (refine ⟨1, fun k hk => ?_⟩); (try dsimp only); (obtain ⟨k, rfl⟩ : ∃ m, k = m + 1 := ⟨k - 1, by omega⟩); (simp only [r42_Few.l0]); (rw [if_pos (by omega), if_pos (by omega), rdX_at es i hlt, if_pos (by omega)])
theorem few_ev : Ev (fun k => r42_Few.f k es gs a b c) (fewB es gs) := by
  (unfold fewB); (by_cases hl : es.length ≤ 12)
  · (rw [decide_eq_true hl, Bool.true_and]); (refine Ev.neg (by omega) ?_); (by_cases hg : gs.length ≤ 8)
    · (rw [decide_eq_true hg, Bool.true_and, show decide ((gs.length : Int) > 8) = false from decide_eq_false (by omega)]); (refine Ev.step (f := fun k => r42_Few.l0 k 0 es gs a b c) (fun k => ?_) (few_l0 es gs a b c hl hg es.length 0 (by omega))); (simp only [r42_Few.j0]); (rw [if_neg (by decide)])
    · (rw [decide_eq_false hg, Bool.false_and, Bool.false_and, show decide ((gs.length : Int) > 8) = true from decide_eq_true (by omega)]); (refine ⟨1, fun k hk => ?_⟩); (try dsimp only); (obtain ⟨k, rfl⟩ : ∃ m, k = m + 1 := ⟨k - 1, by omega⟩); (simp only [r42_Few.j0]); (rw [if_pos trivial])
  · (rw [decide_eq_false hl, Bool.false_and, Bool.false_and, Bool.false_and]); (refine Ev.pos (by omega) ?_); (refine ⟨1, fun k hk => ?_⟩); (try dsimp only); (obtain ⟨k, rfl⟩ : ∃ m, k = m + 1 := ⟨k - 1, by omega⟩); (simp only [r42_Few.j0]); (rw [if_pos trivial])
end
end Go.Proofs.YtdaijpjjilmkkaaGreatDoor.Pr

/- The example of the chapter (alive). -/
namespace Go.Proofs.YtdaijpjjilmkkaaGreatDoor.Pr
open Go.RowKit Go.Proofs.YtdaijpjjilmkkaaGreatDoorW.PrintWords Go.Proofs.YtdaijpjjilmkkaaGreatDoorW.PrintLast Go.Proofs.YtdaijpjjilmkkaaGreatDoorW.PrintMore
set_option linter.unusedVariables false
set_option linter.unusedSimpArgs false
theorem pfile_f (l : List UInt8) (h : l.length ≤ 9223372036854775807) : element_ParseFile.f (ofL l) = some (parseF l) := by
  (unfold element_ParseFile.f); (rw [if_pos (by rw [ofL_size]; exact h), ofL_list])
theorem ftext_f (l0 : List S49) (l1 : List S46) (a b c : Int) (h : smallF l0 l1 a b c = true) : element_FileText.f l0 l1 a b c = some (if errF l0 l1 a b c = 0 then (ofL (fileT l0 l1 a b c), 0) else (ofL [], errF l0 l1 a b c)) := by
  (unfold element_FileText.f); (rw [if_pos h])
def exE : S44 := ⟨16, 32, 2, false⟩
def exG : S46 := ⟨ofL [108, 97, 116, 105, 110], 16, 31⟩
theorem alive_ev : Ev (fun k => w42_alive.f k) true := by
  (have e0 : errE [exE] = 0 := by decide); (have e1 : [exE].flatMap elT = [91, 46, 48, 48, 49, 48, 46, 48, 48, 50, 48, 46, 48, 48, 48, 50, 93] := by kernel_rfl); (have h1 := text_ev [exE] (by decide)); (rw [if_pos e0, e1] at h1); (have p1 : parseF [64, 98, 97, 115, 101, 32, 49, 32, 50, 32, 51, 10, 64, 103, 114, 111, 117, 112, 32, 108, 97, 116, 105, 110, 32, 49, 54, 32, 51, 49, 32, 35, 32, 108, 101, 116, 116, 101, 114, 115, 10, 48, 48, 54, 49, 59, 32, 91, 46, 48, 48, 49, 48, 46, 48, 48, 50, 48, 46, 48, 48, 48, 50, 93, 10] = ([⟨[97], [exE]⟩], [exG], 1, 2, 3, 0, 0) := by kernel_rfl); (have p2 : parseF [64, 98, 97, 115, 101, 32, 49, 32, 50, 32, 51, 10, 48, 48, 54, 49, 59, 10] = bad 3 2 := by kernel_rfl)
  have f1 : element_FileText.f [] [exG] 1 2 3 = some (ofL [64, 98, 97, 115, 101, 32, 49, 32, 50, 32, 51, 10, 64, 103, 114, 111, 117, 112, 32, 108, 97, 116, 105, 110, 32, 49, 54, 32, 51, 49, 10], 0) := by
    (rw [ftext_f _ _ _ _ _ (by decide), if_pos (by decide)]); (have e : fileT [] [exG] 1 2 3 = [64, 98, 97, 115, 101, 32, 49, 32, 50, 32, 51, 10, 64, 103, 114, 111, 117, 112, 32, 108, 97, 116, 105, 110, 32, 49, 54, 32, 51, 49, 10] := by kernel_rfl); (rw [e])
  (have hs := sameE_ev [exE] (by decide)); (refine Ev.bind h1 ?_); (refine Ev.got ((pfile_f _ (by decide)).trans (congrArg some p1)) ?_); (refine Ev.got ((pfile_f _ (by decide)).trans (congrArg some p2)) ?_); (refine Ev.got f1 ?_); (refine Ev.pos (ofL_toList _) (Ev.pos rfl (Ev.pos rfl (Ev.pos rfl (Ev.pos (by decide) ?_))))); (refine Ev.bind hs (Ev.pos rfl (Ev.pos rfl (Ev.pos rfl (Ev.pos (ofL_toList _) (Ev.now true))))))
theorem alive_tail : Ev (fun k => (w42_alive.f k).bind fun t => some t) true := Ev.bind alive_ev (Ev.now true)
end Go.Proofs.YtdaijpjjilmkkaaGreatDoor.Pr

/- A collation of int64s: what the laws of files ask of their argument. -/
namespace Go.Proofs.YtdaijpjjilmkkaaGreatDoor.Pr
open Go.RowKit Go.Proofs.YtdaijpjjilmkkaaGreatDoorW.PrintWords Go.Proofs.YtdaijpjjilmkkaaGreatDoorW.PrintLast Go.Proofs.YtdaijpjjilmkkaaGreatDoorW.PrintMore
set_option linter.unusedVariables false
set_option linter.unusedSimpArgs false
def intsF (l1 : List S46) (a b c : Int) : Prop := (∀ g ∈ l1, i64B g.f1 = true ∧ i64B g.f2 = true) ∧ i64B a = true ∧ i64B b = true ∧ i64B c = true
theorem small_few {l0 : List S49} {l1 : List S46} {a b c : Int} (h : fewB l0 l1 = true) (hi : intsF l1 a b c) : smallF l0 l1 a b c = true := few_small h hi.1 hi.2.1 hi.2.2.1 hi.2.2.2
end Go.Proofs.YtdaijpjjilmkkaaGreatDoor.Pr

/- Plain laws: the reference's elements: their text, its reading, as the program's. -/
namespace Go.Proofs.YtdaijpjjilmkkaaGreatDoor.Pr
open Go.RowKit Go.Proofs.YtdaijpjjilmkkaaGreatDoorW.PrintWords Go.Proofs.YtdaijpjjilmkkaaGreatDoorW.PrintLast Go.Proofs.YtdaijpjjilmkkaaGreatDoorW.PrintMore
set_option linter.unusedVariables false
set_option linter.unusedSimpArgs false
abbrev El := S44
theorem bt_dig (d : Nat) (h : d < 16) : bt (⟨#[48, 49, 50, 51, 52, 53, 54, 55, 56, 57, 65, 66, 67, 68, 69, 70]⟩ : ByteArray) (d : Int) = hexDig d := by
  match d, h with
  | 0, _ | 1, _ | 2, _ | 3, _ | 4, _ | 5, _ | 6, _ | 7, _ | 8, _ | 9, _ | 10, _ | 11, _ | 12, _ | 13, _ | 14, _ | 15, _ => rfl
  | n + 16, h => omega
theorem hexL_four (n : Nat) (h : n ≤ 65535) : hexL n = [UInt8.ofNat (hexDig (n / 4096 % 16)).toNat, UInt8.ofNat (hexDig (n / 256 % 16)).toNat, UInt8.ofNat (hexDig (n / 16 % 16)).toNat, UInt8.ofNat (hexDig (n % 16)).toNat] := by
  (have hL : hexLen n = 4 := by unfold hexLen; rw [if_pos (by omega)]); (apply List.ext_getElem?); (intro j); (by_cases hj : j < 4)
  · rw [hexL_at n j (by omega), hL]
    match j, hj with
    | 0, _ | 1, _ | 2, _ | 3, _ => simp
    | n + 4, h => omega
  · rw [List.getElem?_eq_none (by rw [hexL_length, hL]; omega), List.getElem?_eq_none (by simp; omega)]
theorem dig_at (n m : Nat) (hn : n ≤ 65535) (hm : 0 < m) : Int.tmod (wrap64 (Int.tdiv (n : Int) (m : Int))) 16 = ((n / m % 16 : Nat) : Int) := by
  (have h1 : Int.tdiv (n : Int) (m : Int) = ((n / m : Nat) : Int) := by rw [Int.tdiv_eq_ediv_of_nonneg (by omega)]; rfl); (have h2 : n / m ≤ 65535 := Nat.le_trans (Nat.div_le_self _ _) hn); (obtain ⟨q, hq⟩ : ∃ q, n / m = q := ⟨_, rfl⟩); (rw [hq] at h1 h2 ⊢); (rw [h1, wrap_id (by omega) (by omega), Int.tmod_eq_emod_of_nonneg (by omega)]); (rfl)
theorem four_f (c : Int) (h : 0 ≤ c ∧ c ≤ 65535) : r42_four.f c = some (ofL (hexT c)) := by
  (obtain ⟨n, rfl⟩ := Int.eq_ofNat_of_zero_le h.1); (have hn : n ≤ 65535 := by omega); (have t1 := dig_at n 4096 hn (by decide)); (have t2 := dig_at n 256 hn (by decide)); (have t3 := dig_at n 16 hn (by decide)); (have t4 : Int.tmod (n : Int) 16 = ((n % 16 : Nat) : Int) := by rw [Int.tmod_eq_emod_of_nonneg (by omega)]; rfl); (have l1 : n / 4096 % 16 < 16 := Nat.mod_lt _ (by decide)); (have l2 : n / 256 % 16 < 16 := Nat.mod_lt _ (by decide)); (have l3 : n / 16 % 16 < 16 := Nat.mod_lt _ (by decide)); (have l4 : n % 16 < 16 := Nat.mod_lt _ (by decide)); (unfold r42_four.f); (rw [show ((4096 : Nat) : Int) = 4096 from rfl] at t1); (rw [show ((256 : Nat) : Int) = 256 from rfl] at t2); (rw [show ((16 : Nat) : Int) = 16 from rfl] at t3); (rw [t1, t2, t3, t4, if_pos (by omega), if_pos (by omega), if_pos (by omega), if_pos (by omega), if_pos (by omega), if_pos (by omega), if_pos (by omega), if_pos (by omega), bt_dig _ l1, bt_dig _ l2, bt_dig _ l3, bt_dig _ l4, strOfNums_ofL, hexT_nat n (by omega), hexL_four n hn]); (rfl)
theorem one_t (x : El) (h : okW x) : r42_one.f x.f0 x.f1 x.f2 x.f3 = some (ofL (elT x)) := by
  (have l0 := hexT_len4 _ h.1); (have l1 := hexT_len4 _ h.2.1); (have l2 := hexT_len4 _ h.2.2); (have e91 : (⟨#[91]⟩ : ByteArray) = ofL [91] := rfl); (have e42 : (⟨#[42]⟩ : ByteArray) = ofL [42] := rfl); (have e46 : (⟨#[46]⟩ : ByteArray) = ofL [46] := rfl); (have e93 : (⟨#[93]⟩ : ByteArray) = ofL [93] := rfl); (unfold r42_one.f); (rw [four_f _ h.1, four_f _ h.2.1, four_f _ h.2.2, e91, e42, e46, e93]); (simp only [Option.bind_some, ofL_append, ofL_size, List.length_append, List.length_cons, List.length_nil, l0, l1, l2])
  cases hb : x.f3 with
  | true =>
    (rw [if_pos rfl, if_pos (by decide), if_pos (by decide), if_pos (by decide), if_pos (by decide), if_pos (by decide), if_pos (by decide), if_pos (by decide)]); (unfold elT); (rw [hb, if_pos rfl])
    simp
  | false =>
    (rw [if_neg (by decide), if_pos (by decide), if_pos (by decide), if_pos (by decide), if_pos (by decide), if_pos (by decide), if_pos (by decide), if_pos (by decide)]); (unfold elT); (rw [hb, if_neg (by decide)]); (simp)
theorem checks_loop (l : List El) (hl : l.length ≤ 2000000) (d : Nat) : ∀ i : Nat, i + d = l.length → Ev (fun k => r42_checks.l0 k l (i : Int)) (errE (l.drop i)) := by
  induction d with
  | zero =>
    (intro i hi); (refine ⟨1, fun k hk => ?_⟩); (try dsimp only); (obtain ⟨k, rfl⟩ : ∃ m, k = m + 1 := ⟨k - 1, by omega⟩); (simp only [r42_checks.l0]); (rw [if_neg (by omega), List.drop_of_length_le (by omega)])
    rfl
  | succ d ih =>
    (intro i hi); (have hlt : i < l.length := by omega); (have hd : l.drop i = l[i] :: l.drop (i + 1) := List.drop_eq_getElem_cons hlt); (refine Ev.step (f := fun k => (r42_Check.f k l[i].f0 l[i].f1 l[i].f2 l[i].f3).bind fun t => (if t = 0 then r42_checks.l0 k l ((i + 1 : Nat) : Int) else some t)) (fun k => ?_) ?_)
    · (simp only [r42_checks.l0]); (rw [if_pos (by omega), if_pos (by omega), rdE_at l i hlt, wrap_succ i (by omega)])
    · (refine Ev.bind (checkR_ev l[i]) ?_); (rw [hd, errE]); (by_cases h0 : checkE l[i] = 0)
      · (rw [if_pos h0]); (exact Ev.pos h0 (ih (i + 1) (by omega)))
      · (rw [if_neg h0]); (exact Ev.neg h0 (Ev.now _))
theorem checks_ev (l : List El) (hl : l.length ≤ 2000000) : Ev (fun k => r42_checks.f k l) (errE l) := by
  (have := checks_loop l hl l.length 0 (by omega)); (rw [List.drop_zero] at this); (exact this)
theorem textR_loop (l : List El) (hl : l.length ≤ 1000) (ho : ∀ x ∈ l, okW x) (d : Nat) : ∀ (i : Nat) (T : List UInt8), i + d = l.length → T.length ≤ 17 * i → Ev (fun k => r42_Text.l0 k l (ofL T) (i : Int)) (ofL (T ++ (l.drop i).flatMap elT), 0) := by
  induction d with
  | zero =>
    (intro i T hi hT); (refine ⟨1, fun k hk => ?_⟩); (try dsimp only); (obtain ⟨k, rfl⟩ : ∃ m, k = m + 1 := ⟨k - 1, by omega⟩); (simp only [r42_Text.l0])
    rw [if_neg (by omega), List.drop_of_length_le (by omega), List.flatMap_nil, List.append_nil]
  | succ d ih =>
    (intro i T hi hT); (have hlt : i < l.length := by omega); (have hd : l.drop i = l[i] :: l.drop (i + 1) := List.drop_eq_getElem_cons hlt); (have hx := ho l[i] (List.getElem_mem hlt)); (have h17 := elT_len l[i] hx); (have h2 := ih (i + 1) (T ++ elT l[i]) (by omega) (by simp; omega)); (rw [hd, List.flatMap_cons, ← List.append_assoc]); (refine Ev.step (f := fun k => r42_Text.l0 k l (ofL (T ++ elT l[i])) ((i + 1 : Nat) : Int)) (fun k => ?_) h2); (simp only [r42_Text.l0]); (rw [if_pos (by omega), if_pos (by omega), rdE_at l i hlt, one_t _ hx, Option.bind_some, if_pos (by rw [ofL_size, ofL_size]; omega), ofL_append, wrap_succ i (by omega)])
theorem textR_ev (l : List El) (hl : l.length ≤ 1000) : Ev (fun k => r42_Text.f k l) (if errE l = 0 then (ofL (l.flatMap elT), 0) else (ofL [], errE l)) := by
  (refine Ev.bind (checks_ev l (by omega)) ?_); (by_cases h0 : errE l = 0)
  · (rw [if_pos h0]); (have := textR_loop l hl (fun x hx => okW_of x (errE_mem l h0 x hx)) l.length 0 [] (by omega) (by simp)); (rw [List.drop_zero, List.nil_append] at this); (exact Ev.pos h0 this)
  · (rw [if_neg h0]); (exact Ev.neg h0 (Ev.now _))
end Go.Proofs.YtdaijpjjilmkkaaGreatDoor.Pr

/- Plain laws: the reference's numerals, names, code points, and its text of a file. -/
namespace Go.Proofs.YtdaijpjjilmkkaaGreatDoor.Pr
open Go.RowKit Go.Proofs.YtdaijpjjilmkkaaGreatDoorW.PrintWords Go.Proofs.YtdaijpjjilmkkaaGreatDoorW.PrintLast Go.Proofs.YtdaijpjjilmkkaaGreatDoorW.PrintMore
set_option linter.unusedVariables false
set_option linter.unusedSimpArgs false
abbrev En := S49
abbrev Gr := S46
theorem decimal_nat (u : Nat) : u ≤ 9223372036854775807 → Ev (fun k => r42_decimal.f k (u : Int)) (ofL (Lib.decDigits u)) := by
  induction u using Nat.strongRecOn with
  | _ u ih =>
    (intro hu); (have hm : Int.tmod (u : Int) 10 = ((u % 10 : Nat) : Int) := by rw [Int.tmod_eq_emod_of_nonneg (by omega)]; rfl); (have hd : Int.tdiv (u : Int) 10 = ((u / 10 : Nat) : Int) := by rw [Int.tdiv_eq_ediv_of_nonneg (by omega)]; rfl)
    have hy : strOfNums [wrap64 (48 + Int.tmod (u : Int) 10) % 256] = ofL [UInt8.ofNat (48 + u % 10)] := by
      (rw [hm, wrap_id (by omega) (by omega), show (48 + ((u % 10 : Nat) : Int)) % 256 = ((48 + u % 10 : Nat) : Int) by omega, strOfNums_ofL]); (rfl)
    by_cases h : u < 10
    · (refine Ev.step (f := fun k => some (ofL (Lib.decDigits u))) (fun k => ?_) (Ev.now _)); (simp only [r42_decimal.f]); (rw [Option.bind_some, if_pos (by omega), hy, Lib.decDigits, dif_pos h, Nat.mod_eq_of_lt h])
    · (have h21 := itoa_le ((u / 10 : Nat) : Int) ⟨by omega, by omega⟩); (rw [itoa_dec] at h21); (refine Ev.step (f := fun k => (r42_decimal.f k ((u / 10 : Nat) : Int)).bind fun t => (if t.size + (ofL [UInt8.ofNat (48 + u % 10)]).size ≤ 9223372036854775807 then some (t ++ ofL [UInt8.ofNat (48 + u % 10)]) else none)) (fun k => ?_) ?_)
      · (simp only [r42_decimal.f]); (rw [Option.bind_some, if_neg (by omega), hy, hd, wrap_id (by omega) (by omega)])
      · refine Ev.bind (ih (u / 10) (by omega) (by omega)) (Ev.pos (by rw [ofL_size, ofL_size]; simp; omega) ?_)
        have e : ofL (Lib.decDigits (u / 10)) ++ ofL [UInt8.ofNat (48 + u % 10)] = ofL (Lib.decDigits u) := by
          rw [ofL_append]
          conv => rhs; rw [Lib.decDigits, dif_neg h]
        (rw [e]); (exact Ev.now _)
theorem decimal_ev (n : Int) (h : in64 n) : Ev (fun k => r42_decimal.f k n) (ofL (Lib.itoa n)) := by
  (obtain ⟨u, rfl⟩ := Int.eq_ofNat_of_zero_le h.1); (rw [itoa_dec]); (exact decimal_nat u (by have := h.2; omega))
theorem nameR_loop (l : List UInt8) (hl : l.length ≤ 1000000) (d : Nat) : ∀ i : Nat, i + d = l.length → Ev (fun k => r11_Name.l0 k (ofL l) (i : Int)) (((l.drop i).all fun b => nameN b.toNat) && (decide (1 ≤ l.length) && decide (l.length ≤ 32))) := by
  induction d with
  | zero =>
    (intro i hi); (refine ⟨1, fun k hk => ?_⟩); (try dsimp only); (obtain ⟨k, rfl⟩ : ∃ m, k = m + 1 := ⟨k - 1, by omega⟩); (simp only [r11_Name.l0]); (rw [if_neg (by rw [ofL_size]; omega), List.drop_of_length_le (by omega), List.all_nil, Bool.true_and, ofL_size]); (by_cases h1 : 1 ≤ l.length)
    · (rw [if_pos (by omega), decide_eq_true h1, Bool.true_and]); (congr 1); (exact decide_eq_decide.2 ⟨fun h => by omega, fun h => by omega⟩)
    · rw [if_neg (by omega), decide_eq_false h1, Bool.false_and]
  | succ d ih =>
    (intro i hi); (have hlt : i < l.length := by omega); (have hb := bt_ofL l i hlt); (have hd : l.drop i = l[i] :: l.drop (i + 1) := List.drop_eq_getElem_cons hlt); (have h2 := ih (i + 1) (by omega)); (rw [hd, List.all_cons])
    cases hN : nameN (l[i]).toNat with
    | true =>
      (rw [Bool.true_and]); (refine Ev.step (f := fun k => r11_Name.l0 k (ofL l) ((i + 1 : Nat) : Int)) (fun k => ?_) h2); (simp only [r11_Name.l0]); (rw [if_pos (by rw [ofL_size]; omega), if_pos (by omega), hb, wrap_succ i (by omega)]); (generalize r11_Name.l0 k (ofL l) ((i + 1 : Nat) : Int) = X); (unfold nameN at hN); (simp only [Bool.or_eq_true, Bool.and_eq_true, decide_eq_true_eq, beq_iff_eq] at hN)
      (repeat' split) <;> first | rfl | (exfalso; omega)
    | false =>
      (rw [Bool.false_and, Bool.false_and]); (refine Ev.step (f := fun k => some false) (fun k => ?_) (Ev.now _)); (simp only [r11_Name.l0]); (rw [if_pos (by rw [ofL_size]; omega), if_pos (by omega), hb]); (have hN2 : ¬ nameN (l[i]).toNat = true := by rw [hN]; decide); (unfold nameN at hN2); (simp only [Bool.or_eq_true, Bool.and_eq_true, decide_eq_true_eq, beq_iff_eq] at hN2); ((repeat' split) <;> first | rfl | (exfalso; omega))
theorem nameR_ev (l : List UInt8) (hl : l.length ≤ 1000000) : Ev (fun k => r11_Name.f k (ofL l)) (nameB l) := by
  have h := nameR_loop l hl l.length 0 (by omega)
  have e : (((l.drop 0).all fun b => nameN b.toNat) && (decide (1 ≤ l.length) && decide (l.length ≤ 32))) = nameB l := by
    (unfold nameB); (rw [List.drop_zero, Bool.and_comm]); (congr 2); (cases l <;> simp)
  (rw [e] at h); (exact h)
theorem negR_loop (l0 : List En) (l1 : List Gr) (a b c : Int) (hl : l1.length ≤ 1000000) (d : Nat) : ∀ i : Nat, i + d = l1.length → Ev (fun k => r42_negative.l0 k (i : Int) l0 l1 a b c) ((decide (a < 0) || decide (b < 0) || decide (c < 0)) || (l1.drop i).any (fun g => decide (g.f1 < 0) || decide (g.f2 < 0))) := by
  induction d with
  | zero =>
    (intro i hi); (refine ⟨1, fun k hk => ?_⟩); (try dsimp only); (obtain ⟨k, rfl⟩ : ∃ m, k = m + 1 := ⟨k - 1, by omega⟩); (simp only [r42_negative.l0]); (rw [if_neg (by omega), List.drop_of_length_le (by omega), List.any_nil, Bool.or_false]); (by_cases ha : a < 0)
    · (rw [if_pos ha, decide_eq_true ha]); (rfl)
    · (rw [if_neg ha, decide_eq_false ha, Bool.false_or]); (by_cases hb : b < 0)
      · (rw [if_pos hb, decide_eq_true hb]); (rfl)
      · rw [if_neg hb, decide_eq_false hb, Bool.false_or]
  | succ d ih =>
    (intro i hi); (have hlt : i < l1.length := by omega); (have hd : l1.drop i = l1[i] :: l1.drop (i + 1) := List.drop_eq_getElem_cons hlt); (have h2 := ih (i + 1) (by omega)); (rw [hd, List.any_cons]); (by_cases h0 : l1[i].f1 < 0)
    · (rw [decide_eq_true h0, Bool.true_or, Bool.true_or, Bool.or_true]); (refine Ev.step (f := fun k => some true) (fun k => ?_) (Ev.now _)); (simp only [r42_negative.l0]); (rw [if_pos (by omega), if_pos (by omega), rdG_at l1 i hlt, if_pos h0])
    · by_cases h1 : l1[i].f2 < 0
      · (rw [decide_eq_true h1, Bool.or_true, Bool.true_or, Bool.or_true]); (refine Ev.step (f := fun k => some true) (fun k => ?_) (Ev.now _)); (simp only [r42_negative.l0]); (rw [if_pos (by omega), if_pos (by omega), rdG_at l1 i hlt, if_neg h0, if_pos h1])
      · (rw [decide_eq_false h0, decide_eq_false h1, Bool.false_or, Bool.false_or]); (refine Ev.step (f := fun k => r42_negative.l0 k ((i + 1 : Nat) : Int) l0 l1 a b c) (fun k => ?_) h2); (simp only [r42_negative.l0]); (rw [if_pos (by omega), if_pos (by omega), rdG_at l1 i hlt, if_neg h0, if_neg h1, wrap_succ i (by omega)])
theorem negR_ev (l0 : List En) (l1 : List Gr) (a b c : Int) (hl : l1.length ≤ 1000000) : Ev (fun k => r42_negative.f k l0 l1 a b c) (negF l1 a b c) := by
  (have := negR_loop l0 l1 a b c hl l1.length 0 (by omega)); (rw [List.drop_zero] at this); (exact this)
theorem joinTail_cons (y : List UInt8) (r : List (List UInt8)) : Lib.joinTail [32] (y :: r) = [32] ++ y ++ Lib.joinTail [32] r := by simp [Lib.joinTail]
theorem refcodes_loop (xs : List Int) (hx : xs.length ≤ 1000000) (d : Nat) : ∀ (i k : Nat) (A : List UInt8), i + d = xs.length → 0 < i → d + 8 ≤ k → A.length ≤ 7 * i →
    r05_Codes.l0 k xs (ofL A) (i : Int) = some (if (xs.drop i).all validB then (ofL (A ++ Lib.joinTail [32] ((xs.drop i).map hexT)), 0) else (ofL [], 1)) := by
  induction d with
  | zero =>
    (intro i k A hi h0 hk hA); (obtain ⟨k, rfl⟩ : ∃ m, k = m + 1 := ⟨k - 1, by omega⟩); (simp only [r05_Codes.l0]); (rw [if_neg (by omega), List.drop_of_length_le (by omega)])
    simp [Lib.joinTail]
  | succ d ih =>
    (intro i k A hi h0 hk hA); (obtain ⟨k, rfl⟩ : ∃ m, k = m + 1 := ⟨k - 1, by omega⟩); (have hlt : i < xs.length := by omega); (obtain ⟨c, hc⟩ : ∃ c, xs[i] = c := ⟨_, rfl⟩); (have hd : xs.drop i = c :: xs.drop (i + 1) := by rw [List.drop_eq_getElem_cons hlt, hc]); (have hh := hexT_len c); (have hhx : hexOf c = ofL (hexT c) := (ofL_eq _).symm); (simp only [r05_Codes.l0]); (rw [if_pos (by omega), if_pos (by omega), rdI_at xs i hlt, hc, ref_valid, Option.bind_some, hd]); (by_cases hv : 0 ≤ c ∧ c ≤ 1114111)
    · (have hB : validB c = true := by unfold validB; exact decide_eq_true hv); (rw [if_pos (decide_eq_true hv), if_pos (by omega), at_rounds (fun k => r01_Hex.mono _ k) (show 7 ≤ k by omega) (ref_hex c), Option.bind_some, hhx, show (⟨#[32]⟩ : ByteArray) = ofL [32] from rfl, ofL_append, ofL_append]); (simp only [ofL_size, List.length_append, List.length_cons, List.length_nil]); (rw [if_pos (by omega), if_pos (by omega), wrap_succ i (by omega), ih (i + 1) k _ (by omega) (by omega) (by omega) (by simp; omega)]); (simp only [List.all_cons, hB, Bool.true_and, List.map_cons, joinTail_cons, List.append_assoc])
    · (have hB : validB c = false := by unfold validB; exact decide_eq_false hv); (rw [if_neg (by rw [decide_eq_false hv]; decide)]); (simp only [List.all_cons, hB, Bool.false_and]); (rfl)
theorem refcodes_ev (xs : List Int) (hx : xs.length ≤ 1000000) : Ev (fun k => r05_Codes.f k xs) (codesL xs) := by
  (refine Ev.of (fun k => r05_Codes.mono _ k) (k := xs.length + 9) ?_); (unfold r05_Codes.f codesL codesT)
  match xs, hx with
  | [], _ => rfl
  | c :: r, hx =>
    (have hh := hexT_len c); (have hhx : hexOf c = ofL (hexT c) := (ofL_eq _).symm); (have hr0 : rd (c :: r) 0 = c := rfl); (obtain ⟨K, hK⟩ : ∃ K, (c :: r).length + 9 = K + 1 := ⟨_, rfl⟩); (have hKl : K = r.length + 9 := by simp at hK; omega); (rw [hK]); (simp only [r05_Codes.l0]); (rw [if_pos (by first | (simp; done) | (simp; omega)), if_pos (by omega), hr0, ref_valid, Option.bind_some]); (by_cases hv : 0 ≤ c ∧ c ≤ 1114111)
    · (have hB : validB c = true := by unfold validB; exact decide_eq_true hv); (rw [if_pos (decide_eq_true hv), if_neg (by omega), at_rounds (fun k => r01_Hex.mono _ k) (show 7 ≤ _ by omega) (ref_hex c), Option.bind_some, hhx, show (⟨#[]⟩ : ByteArray) = ofL [] from rfl, ofL_append]); (simp only [ofL_size, List.length_append, List.length_cons, List.length_nil]); (rw [if_pos (by omega)]); (have := refcodes_loop (c :: r) hx r.length 1 K ([] ++ hexT c) (by simp; omega) (by omega) (by omega) (by simp; omega)); (rw [show wrap64 (0 + 1) = ((1 : Nat) : Int) from by unfold wrap64; decide]); (refine Eq.trans this ?_); (simp only [List.drop_succ_cons, List.drop_zero, List.all_cons, hB, Bool.true_and, List.map_cons, Lib.join_cons, List.nil_append])
    · (have hB : validB c = false := by unfold validB; exact decide_eq_false hv); (rw [if_neg (by rw [decide_eq_false hv]; decide)]); (simp only [List.all_cons, hB, Bool.false_and]); (rfl)
section
variable (l0 : List En) (l1 : List Gr) (a b c : Int)
def endX (xs : List En) (T : List UInt8) : ByteArray × Int := if errE (xs.flatMap (·.f1)) = 0 then (ofL (T ++ xs.flatMap entryT), 0) else (ofL [], errE (xs.flatMap (·.f1)))
def endC (xs all : List En) (T : List UInt8) : ByteArray × Int := if xs.all (fun x => x.f0.all validB) = true then endX all T else (ofL [], 1)
def endG (gs : List Gr) (all : List En) (T : List UInt8) : ByteArray × Int := if gs.all (fun g => nameB g.f0.data.toList) = true then endC all all (T ++ gs.flatMap groupT) else (ofL [], 6)
theorem file_l2 (hl : l0.length ≤ 12) (hx : ∀ x ∈ l0, x.f0.length ≤ 16 ∧ x.f1.length ≤ 16) (hv : ∀ x ∈ l0, x.f0.all validB = true) (d : Nat) : ∀ (i : Nat) (T : List UInt8), i + d = l0.length → T.length ≤ 10000 + 400 * i →
    Ev (fun k => r42_FileText.l2 k (ofL T) (i : Int) l0 l1 a b c) (endX (l0.drop i) T) := by
  induction d with
  | zero =>
    (intro i T hi hT); (refine ⟨1, fun k hk => ?_⟩); (try dsimp only); (obtain ⟨k, rfl⟩ : ∃ m, k = m + 1 := ⟨k - 1, by omega⟩); (simp only [r42_FileText.l2]); (rw [if_neg (by omega), List.drop_of_length_le (by omega)]); (unfold endX)
    rw [List.flatMap_nil, if_pos (show errE [] = 0 from rfl), List.flatMap_nil, List.append_nil]
  | succ d ih =>
    (intro i T hi hT); (have hlt : i < l0.length := by omega); (obtain ⟨x, hxe⟩ : ∃ x, l0[i] = x := ⟨_, rfl⟩); (have hd : l0.drop i = x :: l0.drop (i + 1) := by rw [← hxe]; exact List.drop_eq_getElem_cons hlt); (have hm : x ∈ l0 := by rw [← hxe]; exact List.getElem_mem hlt); (have hxl := hx x hm); (have hc := refcodes_ev x.f0 (by omega)); (unfold codesL at hc); (rw [if_pos (hv x hm)] at hc); (have ht := textR_ev x.f1 (by omega)); (have hjs := join_size x.f0); (refine Ev.step (f := fun k => (r05_Codes.f k x.f0).bind fun bt175 => ((r42_Text.f k x.f1).bind fun bt178 => (if bt178.2 = 0 then (if (ofL T).size + bt175.1.size ≤ 9223372036854775807 then (if (ofL T ++ bt175.1).size + 2 ≤ 9223372036854775807 then (if ((ofL T ++ bt175.1) ++ (⟨#[59, 32]⟩ : ByteArray)).size + bt178.1.size ≤ 9223372036854775807 then (if (((ofL T ++ bt175.1) ++ (⟨#[59, 32]⟩ : ByteArray)) ++ bt178.1).size + 1 ≤ 9223372036854775807 then (r42_FileText.l2 k ((((ofL T ++ bt175.1) ++ (⟨#[59, 32]⟩ : ByteArray)) ++ bt178.1) ++ (⟨#[10]⟩ : ByteArray)) ((i + 1 : Nat) : Int) l0 l1 a b c) else (none)) else (none)) else (none)) else (none)) else (some ((⟨#[]⟩ : ByteArray), bt178.2))))) (fun k => ?_) ?_)
    · (simp only [r42_FileText.l2]); (rw [if_pos (by omega), if_pos (by omega), rdX_at l0 i hlt, hxe, wrap_succ i (by omega)])
    · (refine Ev.bind hc (Ev.bind ht ?_)); (rw [hd]); (by_cases he : errE x.f1 = 0)
      · have hfl := flat_len x.f1 (fun e h => okW_of e (errE_mem x.f1 he e h))
        have hcat : ((((ofL T ++ ofL (codesT x.f0)) ++ (⟨#[59, 32]⟩ : ByteArray)) ++ ofL (x.f1.flatMap elT)) ++ (⟨#[10]⟩ : ByteArray)) = ofL (T ++ entryT x) := by
          (rw [show (⟨#[59, 32]⟩ : ByteArray) = ofL [59, 32] from rfl, show (⟨#[10]⟩ : ByteArray) = ofL [10] from rfl, ofL_append, ofL_append, ofL_append, ofL_append]); (unfold entryT); (simp)
        have hel : (entryT x).length ≤ 400 := by
          (unfold entryT); (simp only [List.length_append, List.length_cons, List.length_nil]); (omega)
        have h2 := ih (i + 1) (T ++ entryT x) (by omega) (by rw [List.length_append]; omega)
        have hend : endX (x :: l0.drop (i + 1)) T = endX (l0.drop (i + 1)) (T ++ entryT x) := by
          (unfold endX); (rw [List.flatMap_cons, List.flatMap_cons, errE_app, if_pos he, List.append_assoc])
        (rw [hend, if_pos he]); (refine Ev.pos rfl (Ev.pos ?_ (Ev.pos ?_ (Ev.pos ?_ (Ev.pos ?_ ?_)))))
        · dsimp only; rw [ofL_size, ofL_size]; omega
        · dsimp only; rw [ByteArray.size_append, ofL_size, ofL_size]; omega
        · dsimp only; rw [ByteArray.size_append, ByteArray.size_append, ofL_size, ofL_size, ofL_size]; show T.length + _ + 2 + (x.f1.flatMap elT).length ≤ _; omega
        · dsimp only; rw [ByteArray.size_append, ByteArray.size_append, ByteArray.size_append, ofL_size, ofL_size, ofL_size]; show T.length + _ + 2 + (x.f1.flatMap elT).length + 1 ≤ _; omega
        · (dsimp only); (rw [hcat]); (exact h2)
      · rw [if_neg he]
        have hend : endX (x :: l0.drop (i + 1)) T = (ofL [], errE x.f1) := by
          (unfold endX); (rw [List.flatMap_cons, errE_app, if_neg he, if_neg he])
        (rw [hend]); (exact Ev.neg he (Ev.now _))
theorem file_l1 (hl : l0.length ≤ 12) (hx : ∀ x ∈ l0, x.f0.length ≤ 16 ∧ x.f1.length ≤ 16) (T : List UInt8) (hT : T.length ≤ 10000) (d : Nat) : ∀ i : Nat, i + d = l0.length → (l0.take i).all (fun x => x.f0.all validB) = true →
    Ev (fun k => r42_FileText.l1 k (ofL T) (i : Int) l0 l1 a b c) (endC (l0.drop i) l0 T) := by
  induction d with
  | zero =>
    intro i hi hv
    have hv2 : ∀ x ∈ l0, x.f0.all validB = true := by
      (rw [List.take_of_length_le (by omega)] at hv); (exact List.all_eq_true.1 hv)
    (have h2 := file_l2 l0 l1 a b c hl hx hv2 l0.length 0 T (by omega) (by omega)); (rw [List.drop_zero] at h2); (rw [List.drop_of_length_le (by omega)]); (unfold endC); (rw [List.all_nil, if_pos rfl]); (refine Ev.step (f := fun k => r42_FileText.l2 k (ofL T) 0 l0 l1 a b c) (fun k => ?_) h2); (simp only [r42_FileText.l1])
    rw [if_neg (by omega)]
  | succ d ih =>
    (intro i hi hv); (have hlt : i < l0.length := by omega); (obtain ⟨x, hxe⟩ : ∃ x, l0[i] = x := ⟨_, rfl⟩); (have hd : l0.drop i = x :: l0.drop (i + 1) := by rw [← hxe]; exact List.drop_eq_getElem_cons hlt); (have hm : x ∈ l0 := by rw [← hxe]; exact List.getElem_mem hlt); (have hxl := hx x hm); (have hc := refcodes_ev x.f0 (by omega)); (refine Ev.step (f := fun k => (r05_Codes.f k x.f0).bind fun bt172 => (if bt172.2 = 0 then (r42_FileText.l1 k (ofL T) ((i + 1 : Nat) : Int) l0 l1 a b c) else (some ((⟨#[]⟩ : ByteArray), 1)))) (fun k => ?_) (Ev.bind hc ?_))
    · (simp only [r42_FileText.l1]); (rw [if_pos (by omega), if_pos (by omega), rdX_at l0 i hlt, hxe, wrap_succ i (by omega)])
    · (rw [hd]); (unfold codesL); (by_cases hxv : x.f0.all validB = true)
      · (rw [if_pos hxv]); (have h2 := ih (i + 1) (by omega) (by rw [List.take_succ_eq_append_getElem hlt, List.all_append, hv, hxe]; simp [hxv]))
        have hend : endC (x :: l0.drop (i + 1)) l0 T = endC (l0.drop (i + 1)) l0 T := by
          (unfold endC); (rw [List.all_cons, hxv, Bool.true_and])
        (rw [hend]); (exact Ev.pos rfl h2)
      · rw [if_neg hxv]
        have hend : endC (x :: l0.drop (i + 1)) l0 T = (ofL [], 1) := by
          (unfold endC); (rw [List.all_cons, if_neg (by rw [Bool.and_eq_true]; exact fun h => hxv h.1)])
        (rw [hend]); (exact Ev.neg (by decide) (Ev.now _))
theorem file_l0 (hl : l0.length ≤ 12) (hx : ∀ x ∈ l0, x.f0.length ≤ 16 ∧ x.f1.length ≤ 16) (hl1 : l1.length ≤ 8) (hg : ∀ g ∈ l1, g.f0.size ≤ 40 ∧ in64 g.f1 ∧ in64 g.f2) (d : Nat) : ∀ (i : Nat) (T : List UInt8), i + d = l1.length → T.length ≤ 1000 + 100 * i →
    Ev (fun k => r42_FileText.l0 k (ofL T) (i : Int) l0 l1 a b c) (endG (l1.drop i) l0 T) := by
  induction d with
  | zero =>
    (intro i T hi hT); (have h2 := file_l1 l0 l1 a b c hl hx T (by omega) l0.length 0 (by omega) rfl); (rw [List.drop_zero] at h2); (rw [List.drop_of_length_le (by omega)]); (unfold endG); (rw [List.all_nil, if_pos rfl, List.flatMap_nil, List.append_nil]); (refine Ev.step (f := fun k => r42_FileText.l1 k (ofL T) 0 l0 l1 a b c) (fun k => ?_) h2); (simp only [r42_FileText.l0])
    rw [if_neg (by omega)]
  | succ d ih =>
    (intro i T hi hT); (have hlt : i < l1.length := by omega); (obtain ⟨g, hge⟩ : ∃ g, l1[i] = g := ⟨_, rfl⟩); (have hd : l1.drop i = g :: l1.drop (i + 1) := by rw [← hge]; exact List.drop_eq_getElem_cons hlt); (have hm : g ∈ l1 := by rw [← hge]; exact List.getElem_mem hlt); (obtain ⟨hs, h1, h2⟩ := hg g hm); (have hz : g.f0.data.toList.length = g.f0.size := by simp); (have hn := nameR_ev g.f0.data.toList (by omega)); (rw [ofL_eq] at hn); (have d1 := decimal_ev g.f1 h1); (have d2 := decimal_ev g.f2 h2); (have i1 := itoa_le g.f1 h1); (have i2 := itoa_le g.f2 h2); (have eg : (⟨#[64, 103, 114, 111, 117, 112, 32]⟩ : ByteArray) = ofL (groupW ++ [32]) := rfl); (have e32 : (⟨#[32]⟩ : ByteArray) = ofL [32] := rfl); (have e10 : (⟨#[10]⟩ : ByteArray) = ofL [10] := rfl); (have ef : g.f0 = ofL g.f0.data.toList := (ofL_eq _).symm); (refine Ev.step (f := fun k => (r11_Name.f k g.f0).bind fun t168 => (if t168 = true then (if (ofL T).size + 7 ≤ 9223372036854775807 then (if (ofL T ++ (⟨#[64, 103, 114, 111, 117, 112, 32]⟩ : ByteArray)).size + g.f0.size ≤ 9223372036854775807 then (if ((ofL T ++ (⟨#[64, 103, 114, 111, 117, 112, 32]⟩ : ByteArray)) ++ g.f0).size + 1 ≤ 9223372036854775807 then ((r42_decimal.f k g.f1).bind fun t169 => (if (((ofL T ++ (⟨#[64, 103, 114, 111, 117, 112, 32]⟩ : ByteArray)) ++ g.f0) ++ (⟨#[32]⟩ : ByteArray)).size + t169.size ≤ 9223372036854775807 then (if ((((ofL T ++ (⟨#[64, 103, 114, 111, 117, 112, 32]⟩ : ByteArray)) ++ g.f0) ++ (⟨#[32]⟩ : ByteArray)) ++ t169).size + 1 ≤ 9223372036854775807 then ((r42_decimal.f k g.f2).bind fun t170 => (if (((((ofL T ++ (⟨#[64, 103, 114, 111, 117, 112, 32]⟩ : ByteArray)) ++ g.f0) ++ (⟨#[32]⟩ : ByteArray)) ++ t169) ++ (⟨#[32]⟩ : ByteArray)).size + t170.size ≤ 9223372036854775807 then (if ((((((ofL T ++ (⟨#[64, 103, 114, 111, 117, 112, 32]⟩ : ByteArray)) ++ g.f0) ++ (⟨#[32]⟩ : ByteArray)) ++ t169) ++ (⟨#[32]⟩ : ByteArray)) ++ t170).size + 1 ≤ 9223372036854775807 then (r42_FileText.l0 k (((((((ofL T ++ (⟨#[64, 103, 114, 111, 117, 112, 32]⟩ : ByteArray)) ++ g.f0) ++ (⟨#[32]⟩ : ByteArray)) ++ t169) ++ (⟨#[32]⟩ : ByteArray)) ++ t170) ++ (⟨#[10]⟩ : ByteArray)) ((i + 1 : Nat) : Int) l0 l1 a b c) else (none)) else (none))) else (none)) else (none))) else (none)) else (none)) else (none)) else (some ((⟨#[]⟩ : ByteArray), 6)))) (fun k => ?_) (Ev.bind hn ?_))
    · (simp only [r42_FileText.l0]); (rw [if_pos (by omega), if_pos (by omega), rdG_at l1 i hlt, hge, wrap_succ i (by omega)])
    · (rw [hd]); (by_cases hnm : nameB g.f0.data.toList = true)
      · have hgt : (groupT g).length ≤ 100 := by
          (unfold groupT); (rw [words4, hz]); (simp only [groupW, List.length_cons, List.length_nil]); (omega)
        have h3 := ih (i + 1) (T ++ groupT g) (by omega) (by rw [List.length_append]; omega)
        have hend : endG (g :: l1.drop (i + 1)) l0 T = endG (l1.drop (i + 1)) l0 (T ++ groupT g) := by
          (unfold endG); (rw [List.all_cons, hnm, Bool.true_and, List.flatMap_cons, List.append_assoc])
        have hcat : ofL (T ++ (groupW ++ [32]) ++ g.f0.data.toList ++ [32] ++ Lib.itoa g.f1 ++ [32] ++ Lib.itoa g.f2 ++ [10]) = ofL (T ++ groupT g) := by
          (unfold groupT wordsT); (rw [join2, join2, join2, Lib.join_one]); (simp)
        (rw [hend]); (refine Ev.pos hnm ?_); (rw [eg, e32, e10, ef]); (simp only [ofL_append, ofL_size, ofL_list]); (have hw : groupW.length = 6 := rfl); (refine Ev.pos (by omega) (Ev.pos (by simp only [List.length_append, List.length_cons, List.length_nil]; omega) (Ev.pos (by simp only [List.length_append, List.length_cons, List.length_nil]; omega) (Ev.bind d1 (Ev.pos ?_ (Ev.pos ?_ (Ev.bind d2 (Ev.pos ?_ (Ev.pos ?_ ?_)))))))))
        · simp only [ofL_size, List.length_append, List.length_cons, List.length_nil]; omega
        · simp only [ofL_append, ofL_size, List.length_append, List.length_cons, List.length_nil]; omega
        · simp only [ofL_append, ofL_size, List.length_append, List.length_cons, List.length_nil]; omega
        · simp only [ofL_append, ofL_size, List.length_append, List.length_cons, List.length_nil]; omega
        · (simp only [ofL_append]); (rw [hcat]); (exact h3)
      · have hend : endG (g :: l1.drop (i + 1)) l0 T = (ofL [], 6) := by
          (unfold endG); (rw [List.all_cons, if_neg (by rw [Bool.and_eq_true]; exact fun h => hnm h.1)])
        (rw [hend]); (exact Ev.neg hnm (Ev.now _))
theorem fileR_ev (hf : fewB l0 l1 = true) (hi : (∀ g ∈ l1, i64B g.f1 = true ∧ i64B g.f2 = true) ∧ i64B a = true ∧ i64B b = true ∧ i64B c = true) :
    Ev (fun k => r42_FileText.f k l0 l1 a b c) (if errF l0 l1 a b c = 0 then (ofL (fileT l0 l1 a b c), 0) else (ofL [], errF l0 l1 a b c)) := by
  (obtain ⟨hl0, hl1, hx, hs⟩ := few_parts hf); (have hn := negR_ev l0 l1 a b c (by omega)); (refine Ev.bind hn ?_); (by_cases hneg : negF l1 a b c = true)
  · (have he : errF l0 l1 a b c = 1 := by unfold errF; rw [if_pos hneg]); (rw [he, if_neg (by decide)]); (exact Ev.pos hneg (Ev.now _))
  · (refine Ev.neg hneg ?_); (have hnn := hneg); (unfold negF at hnn); (simp only [Bool.or_eq_true, decide_eq_true_eq, List.any_eq_true, not_or, not_exists, not_and] at hnn); (obtain ⟨⟨⟨n1, n2⟩, n3⟩, n4⟩ := hnn); (have q : ∀ n : Int, i64B n = true → ¬ n < 0 → in64 n := fun n h h' => ⟨by omega, (of_decide_eq_true h).2⟩); (have ha := q a hi.2.1 n1); (have hb := q b hi.2.2.1 n2); (have hc := q c hi.2.2.2 n3); (have hg : ∀ g ∈ l1, g.f0.size ≤ 40 ∧ in64 g.f1 ∧ in64 g.f2 := fun g h => ⟨hs g h, q _ (hi.1 g h).1 ((n4 g h).1), q _ (hi.1 g h).2 ((n4 g h).2)⟩); (have d1 := decimal_ev a ha); (have d2 := decimal_ev b hb); (have d3 := decimal_ev c hc); (have i1 := itoa_le a ha); (have i2 := itoa_le b hb); (have i3 := itoa_le c hc); (have eb : (⟨#[64, 98, 97, 115, 101, 32]⟩ : ByteArray) = ofL (baseW ++ [32]) := rfl); (have e32 : (⟨#[32]⟩ : ByteArray) = ofL [32] := rfl); (have e10 : (⟨#[10]⟩ : ByteArray) = ofL [10] := rfl); (have hw : baseW.length = 5 := rfl)
    have hbl : (baseT a b c).length ≤ 72 := by
      (unfold baseT); (rw [words4]); (simp only [baseW, List.length_cons, List.length_nil]); (omega)
    have hcat : ofL ((baseW ++ [32]) ++ Lib.itoa a ++ [32] ++ Lib.itoa b ++ [32] ++ Lib.itoa c ++ [10]) = ofL (baseT a b c) := by
      (unfold baseT wordsT); (rw [join2, join2, join2, Lib.join_one]); (simp)
    (have h0 := file_l0 l0 l1 a b c hl0 hx hl1 hg l1.length 0 (baseT a b c) (by omega) (by omega)); (rw [List.drop_zero] at h0)
    have hend : endG l1 l0 (baseT a b c) = if errF l0 l1 a b c = 0 then (ofL (fileT l0 l1 a b c), 0) else (ofL [], errF l0 l1 a b c) := by
      (unfold endG endC endX errF); (rw [if_neg hneg]); (by_cases hnm : l1.all (fun g => nameB g.f0.data.toList) = true)
      · (rw [if_pos hnm, if_pos hnm]); (by_cases hcd : l0.all (fun x => x.f0.all validB) = true)
        · (rw [if_pos hcd, if_pos hcd]); (rfl)
        · rw [if_neg hcd, if_neg hcd, if_neg (by decide)]
      · rw [if_neg hnm, if_neg hnm, if_neg (by decide)]
    (rw [← hend]); (rw [eb, e32, e10]); (refine Ev.bind d1 (Ev.pos ?_ (Ev.pos ?_ (Ev.bind d2 (Ev.pos ?_ (Ev.pos ?_ (Ev.bind d3 (Ev.pos ?_ (Ev.pos ?_ ?_)))))))))
    · rw [ofL_size]; omega
    · simp only [ofL_append, ofL_size, List.length_append, List.length_cons, List.length_nil]; omega
    · simp only [ofL_append, ofL_size, List.length_append, List.length_cons, List.length_nil]; omega
    · simp only [ofL_append, ofL_size, List.length_append, List.length_cons, List.length_nil]; omega
    · simp only [ofL_append, ofL_size, List.length_append, List.length_cons, List.length_nil]; omega
    · simp only [ofL_append, ofL_size, List.length_append, List.length_cons, List.length_nil]; omega
    · (simp only [ofL_append]); (rw [hcat]); (exact h0)
end
end Go.Proofs.YtdaijpjjilmkkaaGreatDoor.Pr

/- ElementFiles: the pure statement. -/
namespace Go.Proofs.YtdaijpjjilmkkaaGreatDoor.Pr
open Go.RowKit Go.Proofs.YtdaijpjjilmkkaaGreatDoorW.PrintWords Go.Proofs.YtdaijpjjilmkkaaGreatDoorW.PrintLast Go.Proofs.YtdaijpjjilmkkaaGreatDoorW.PrintMore
set_option linter.unusedVariables false
set_option linter.unusedSimpArgs false
theorem ElementFiles_pure (l0 : List S49) (l1 : List S46) (a b c : Int) (hi : intsF l1 a b c) : ∃ k, w42_ElementFiles.f k l0 l1 a b c = some true := by
  have h : Ev (fun k => w42_ElementFiles.f k l0 l1 a b c) true := by
    (refine Ev.bind (few_ev l0 l1 a b c) ?_); (by_cases hf : fewB l0 l1 = true)
    · exact Ev.pos hf (Ev.got (ftext_f l0 l1 a b c (small_few hf hi)) (Ev.bind (fileR_ev l0 l1 a b c hf hi) (Ev.pos rfl (Ev.pos rfl alive_tail))))
    · exact Ev.neg hf alive_tail
  (obtain ⟨K, h⟩ := h); (exact ⟨K, h K (Nat.le_refl _)⟩)
end Go.Proofs.YtdaijpjjilmkkaaGreatDoor.Pr
