/- Texts of the claim ElementParses, joined: Prx9, Prx28, ELawR, Prx3, Prx22, Prx11, ERef, EAlive, Prx10, ZElem, PElementParses. -/
import Derived.Test.YtdaijpjjilmkkaaGreatDoorZElementParses22
import Derived.Test.YtdaijpjjilmkkaaGreatDoorZElementParses32
import Derived.Test.YtdaijpjjilmkkaaGreatDoorZElementParses24
import Derived.Test.YtdaijpjjilmkkaaGreatDoorZElementParses30
import Derived.Test.YtdaijpjjilmkkaaGreatDoorZElementParses27
import Derived.Lib.ItoaLen
import Derived.Test.YtdaijpjjilmkkaaGreatDoorZElementParses29
import Derived.Test.YtdaijpjjilmkkaaGreatDoorZElementParses31
import Derived.Test.YtdaijpjjilmkkaaGreatDoorZElementParses25
-- Written by wip/drive.py of this claim's session, out of the translation. Not trusted: Lean checks it.
namespace Go.Proofs.YtdaijpjjilmkkaaGreatDoor.Pr
open Go.RowKit Go.Proofs.YtdaijpjjilmkkaaGreatDoorW.PrintWords Go.Proofs.YtdaijpjjilmkkaaGreatDoorW.PrintLast Go.Proofs.YtdaijpjjilmkkaaGreatDoorW.PrintMore
attribute [local go_sem] max2_int min2_int max_two min_two max_three min_three max_four min_four   -- for this text's walks alone
set_option linter.unusedVariables false
set_option linter.unusedSimpArgs false
def unicodetextref42_weight.f (a0 : Int) : Option (Bool) := if a0 ≥ 0 then (some (decide (a0 ≤ 65535))) else (some false)
set_option maxHeartbeats 8000000 in
set_option maxRecDepth 100000 in
theorem unicodetextref42_weight.calls (a0 : Int) (r : Bool) (w : World) (h : unicodetextref42_weight.f a0 = some r) :
    Calls Tryz.prog 71 #[.int .i64 a0] w fun e w' => e = .returned (.bool r) ∧ Drawn0 w w' := by
  have H : (if a0 ≥ 0 then (some (decide (a0 ≤ 65535))) else (some false)) = some r := h
  clear h
  by_cases c2 : a0 ≥ 0
  · rw [if_pos c2] at H
    have c2b0 : decide (0 ≤ a0) = true := decide_eq_true c2
    clear c2
    obtain rfl := Option.some.inj H
    go_enter Tryz.func71, Tryz.ntmps71
    go_wp2
    go_ret
    exact ⟨by first | rfl | (simp; done) | (simp [*]; done), by repeat (first | exact Drawn0.refl _ | apply Drawn0.step)⟩
  · rw [if_neg c2] at H
    have c2b0 : decide (0 ≤ a0) = false := decide_eq_false c2
    clear c2
    obtain rfl := Option.some.inj H
    go_enter Tryz.func71, Tryz.ntmps71
    go_wp2
    go_ret
    exact ⟨by first | rfl | (simp; done) | (simp [*]; done), by repeat (first | exact Drawn0.refl _ | apply Drawn0.step)⟩
def unicodetextref42_Check.j0 : Nat → Bool → Int → Int → Int → Bool → Option (Int)
  | 0, _, _, _, _, _ => none
  | k + 1, x18, x129000, x129001, x129002, x129003 => if x18 = true then (some 1) else (if x129000 = 0 then (if x129001 = 0 then (if x129003 = true then (some 11) else (some 0)) else (if x129002 = 0 then (some 11) else (if x129003 = true then (some 11) else (some 0)))) else (if x129001 = 0 then (some 11) else (if x129002 = 0 then (some 11) else (if x129003 = true then (some 0) else (some 0)))))
def unicodetextref42_Check.f (k : Nat) (a0_0 : Int) (a0_1 : Int) (a0_2 : Int) (a0_3 : Bool) : Option (Int) := (unicodetextref42_weight.f a0_0).bind fun t129 => (if t129 = true then ((unicodetextref42_weight.f a0_1).bind fun t130 => (if t130 = true then ((unicodetextref42_weight.f a0_2).bind fun t131 => (unicodetextref42_Check.j0 k (!t131) a0_0 a0_1 a0_2 a0_3)) else (unicodetextref42_Check.j0 k true a0_0 a0_1 a0_2 a0_3))) else (unicodetextref42_Check.j0 k true a0_0 a0_1 a0_2 a0_3))
theorem unicodetextref42_Check.mono_l : ∀ k, (∀ y0 y1 y2 y3 y4, LeO (unicodetextref42_Check.j0 k y0 y1 y2 y3 y4) (unicodetextref42_Check.j0 (k + 1) y0 y1 y2 y3 y4))
  | 0 => fun _ _ _ _ _ r h => by simp [unicodetextref42_Check.j0] at h
  | k + 1 => by
    have ih0 := unicodetextref42_Check.mono_l k
    · intro y0 y1 y2 y3 y4
      unfold unicodetextref42_Check.j0
      repeat' first
      | (with_reducible exact ih0 _ _ _ _ _)
      | (with_reducible exact LeO.refl _)
      | (with_reducible exact LeO.none _)
      | (with_reducible refine LeO.ite ?_ ?_)
      | (with_reducible refine LeO.bind ?_ (fun _ => ?_))
      | exact ih0 _ _ _ _ _
      | exact LeO.none _
      | refine LeO.ite ?_ ?_
      | refine LeO.bind ?_ (fun _ => ?_)
theorem unicodetextref42_Check.mono : ∀ a0 a1 a2 a3 k, LeO (unicodetextref42_Check.f k a0 a1 a2 a3) (unicodetextref42_Check.f (k + 1) a0 a1 a2 a3) := by
  intro a0 a1 a2 a3 k
  have ih0 := unicodetextref42_Check.mono_l k
  unfold unicodetextref42_Check.f
  repeat' first
      | (with_reducible exact ih0 _ _ _ _ _)
      | (with_reducible exact LeO.refl _)
      | (with_reducible exact LeO.none _)
      | (with_reducible refine LeO.ite ?_ ?_)
      | (with_reducible refine LeO.bind ?_ (fun _ => ?_))
      | exact ih0 _ _ _ _ _
      | exact LeO.none _
      | refine LeO.ite ?_ ?_
      | refine LeO.bind ?_ (fun _ => ?_)
set_option maxHeartbeats 8000000 in
set_option maxRecDepth 100000 in
theorem unicodetextref42_Check.calls (k : Nat) (a0_0 : Int) (a0_1 : Int) (a0_2 : Int) (a0_3 : Bool) (r : Int) (w : World) (h : unicodetextref42_Check.f k a0_0 a0_1 a0_2 a0_3 = some r) :
    Calls Tryz.prog 48 #[.agg #[.int .i64 a0_0, .int .i64 a0_1, .int .i64 a0_2, .bool a0_3]] w fun e w' => e = .returned (.int .i64 r) ∧ Below w.heap.size w w' := by
  have hu44 := Tryz.underlying44
  have HB := Aside0.mk (Below.refl w.heap.size w)
  have H : ((unicodetextref42_weight.f a0_0).bind fun t129 => (if t129 = true then ((unicodetextref42_weight.f a0_1).bind fun t130 => (if t130 = true then ((unicodetextref42_weight.f a0_2).bind fun t131 => (unicodetextref42_Check.j0 k (!t131) a0_0 a0_1 a0_2 a0_3)) else (unicodetextref42_Check.j0 k true a0_0 a0_1 a0_2 a0_3))) else (unicodetextref42_Check.j0 k true a0_0 a0_1 a0_2 a0_3))) = some r := h
  clear h
  have HC2 := Aside0.mk H
  clear H
  go_enter Tryz.func48, Tryz.ntmps48
  go_upto_region 1 with (first | ((with_reducible refine gate_dst (N := 1) rfl ?_); refine box_event ?hg (N := 1) ?hd (cs := #[.int .i64 a0_0, .int .i64 a0_1, .int .i64 a0_2, .bool a0_3]) (t := 44) ?hr ?_; (case hd => rfl); (case hg => rfl); (case hr => first | (go_simp; done) | (go_simp; rfl)); intro gb128 hg w3 hbox hb; have n0_ := Aside0.mk (below_step (by repeat (first | (with_reducible first | exact HB.out | apply below_alloc | apply pw_below_drewN | apply below_drew1) | exact HB.out)) hb); have n1_ := Aside0.mk (hbox); have n2_ := Aside0.mk ((by rw [hg]; exact (below_size (by repeat (first | (with_reducible first | exact HB.out | apply below_alloc | apply pw_below_drewN | apply below_drew1) | exact HB.out))) : w.heap.size ≤ gb128)); have n3_ := Aside0.mk ((by rw [hg]; exact (below_size (by repeat (first | (with_reducible first | exact HB.out | apply below_alloc | apply pw_below_drewN | apply below_drew1) | exact HB.out))) : w.heap.size ≤ gb128)); clear HB; have HB := n0_; have BK128 := n1_; have GW128 := n2_; have GE128 := n3_; clear n0_ n1_ n2_ n3_; clear hb hbox hg))
  (try simp only [Act.put, List.setIfInBounds_toArray, List.set_cons_zero, List.set_cons_succ])
  go_cut [18] (fun v18 wc => ∃ (kq : Nat) (x18_1 : Bool), v18 = .bool x18_1 ∧ Aside0 (unicodetextref42_Check.j0 kq x18_1 a0_0 a0_1 a0_2 a0_3 = some r) ∧ Aside0 (kq ≤ k) ∧ Aside0 (wc.heap[gb128]? = some (.cells #[.int .i64 a0_0, .int .i64 a0_1, .int .i64 a0_2, .bool a0_3] 44 (0, 0))) ∧ Aside0 (Below w.heap.size w wc))
  case first =>
    have H := HC2.out
    clear HC2
    replace H := Option.bind_eq_some_iff.mp H
    obtain ⟨t129, A40, H⟩ := H
    replace H : (if t129 = true then ((unicodetextref42_weight.f a0_1).bind fun t130 => (if t130 = true then ((unicodetextref42_weight.f a0_2).bind fun t131 => (unicodetextref42_Check.j0 k (!t131) a0_0 a0_1 a0_2 a0_3)) else (unicodetextref42_Check.j0 k true a0_0 a0_1 a0_2 a0_3))) else (unicodetextref42_Check.j0 k true a0_0 a0_1 a0_2 a0_3)) = some r := H
    have A4 := Aside0.mk A40
    clear A40
    by_cases c5 : t129 = true
    · subst c5
      have H1 : ((unicodetextref42_weight.f a0_1).bind fun t130 => (if t130 = true then ((unicodetextref42_weight.f a0_2).bind fun t131 => (unicodetextref42_Check.j0 k (!t131) a0_0 a0_1 a0_2 a0_3)) else (unicodetextref42_Check.j0 k true a0_0 a0_1 a0_2 a0_3))) = some r := by rw [if_pos rfl] at H; exact H
      clear H
      have H := H1
      clear H1
      replace H := Option.bind_eq_some_iff.mp H
      obtain ⟨t130, A60, H⟩ := H
      replace H : (if t130 = true then ((unicodetextref42_weight.f a0_2).bind fun t131 => (unicodetextref42_Check.j0 k (!t131) a0_0 a0_1 a0_2 a0_3)) else (unicodetextref42_Check.j0 k true a0_0 a0_1 a0_2 a0_3)) = some r := H
      have A6 := Aside0.mk A60
      clear A60
      by_cases c7 : t130 = true
      · subst c7
        have H1 : ((unicodetextref42_weight.f a0_2).bind fun t131 => (unicodetextref42_Check.j0 k (!t131) a0_0 a0_1 a0_2 a0_3)) = some r := by rw [if_pos rfl] at H; exact H
        clear H
        have H := H1
        clear H1
        replace H := Option.bind_eq_some_iff.mp H
        obtain ⟨t131, A80, H⟩ := H
        replace H : (unicodetextref42_Check.j0 k (!t131) a0_0 a0_1 a0_2 a0_3) = some r := H
        have A8 := Aside0.mk A80
        clear A80
        have H' := Aside0.mk H
        clear H
        have hcz9_0 : w3.cell? ⟨gb128, 0, none⟩ = some (.int .i64 a0_0) := (blk_cell BK128.out 0).trans rfl
        have hcz9_1 : w3.cell? ⟨gb128, 1, none⟩ = some (.int .i64 a0_1) := (blk_cell BK128.out 1).trans rfl
        have hcz9_2 : w3.cell? ⟨gb128, 2, none⟩ = some (.int .i64 a0_2) := (blk_cell BK128.out 2).trans rfl
        have hcz9_3 : w3.cell? ⟨gb128, 3, none⟩ = some (.bool a0_3) := (blk_cell BK128.out 3).trans rfl
        have hfz9_0 := blk_frozen BK128.out 0
        have hfz9_1 := blk_frozen BK128.out 1
        have hfz9_2 := blk_frozen BK128.out 2
        have hfz9_3 := blk_frozen BK128.out 3
        go_wp2_with (first | ((with_reducible refine gate_callee (f := 71) rfl ?_); refine goesL_ (some 5) rfl rfl Tryz.func71 (by kernel_rfl) rfl #[.int .i64 a0_0] rfl (by (try simp only [List.map_toArray, List.map_cons, List.map_nil]); first | done | rfl | (simp only [List.length_drop, List.length_take]; rfl)) ?_; (with_reducible refine (unicodetextref42_weight.calls a0_0 true _ A4.out).mono ?_); rintro e w' ⟨rfl, ⟨nd, rfl⟩⟩; refine ⟨_, rfl, ?_⟩) | (go_at_call 71; (with_reducible refine (unicodetextref42_weight.calls a0_1 true _ A6.out).mono ?_); rintro e w' ⟨rfl, ⟨nd, rfl⟩⟩) | (go_at_call 71; (with_reducible refine (unicodetextref42_weight.calls a0_2 t131 _ A8.out).mono ?_); rintro e w' ⟨rfl, ⟨nd, rfl⟩⟩))
        go_meet
        case rel => exact ⟨_, (!t131), (by first | rfl | (simp; done) | (simp [*]; done) | exact congrArg Value.bool (ne_nil_bool _) | exact congrArg Value.bool (eq_nil_bool _)), H', ⟨by first | omega | exact Nat.le_refl _⟩, ⟨by (with_reducible repeat (first | refine blk_drewN ?_ _ | refine blk_drew ?_ | refine blk_alloc ?_ _)); exact BK128.out⟩, ⟨by repeat (first | (with_reducible first | exact HB.out | apply below_alloc | apply pw_below_drewN | apply below_drew1 | refine below_set ?_ GE128.out) | exact HB.out)⟩⟩
      · replace c7 := Bool.eq_false_iff.mpr c7
        subst c7
        have H1 : (unicodetextref42_Check.j0 k true a0_0 a0_1 a0_2 a0_3) = some r := by rw [if_neg (show ¬ (false = true) by decide)] at H; exact H
        clear H
        have H := H1
        clear H1
        have H' := Aside0.mk H
        clear H
        have hcz10_0 : w3.cell? ⟨gb128, 0, none⟩ = some (.int .i64 a0_0) := (blk_cell BK128.out 0).trans rfl
        have hcz10_1 : w3.cell? ⟨gb128, 1, none⟩ = some (.int .i64 a0_1) := (blk_cell BK128.out 1).trans rfl
        have hcz10_2 : w3.cell? ⟨gb128, 2, none⟩ = some (.int .i64 a0_2) := (blk_cell BK128.out 2).trans rfl
        have hcz10_3 : w3.cell? ⟨gb128, 3, none⟩ = some (.bool a0_3) := (blk_cell BK128.out 3).trans rfl
        have hfz10_0 := blk_frozen BK128.out 0
        have hfz10_1 := blk_frozen BK128.out 1
        have hfz10_2 := blk_frozen BK128.out 2
        have hfz10_3 := blk_frozen BK128.out 3
        go_wp2_with (first | ((with_reducible refine gate_callee (f := 71) rfl ?_); refine goesL_ (some 5) rfl rfl Tryz.func71 (by kernel_rfl) rfl #[.int .i64 a0_0] rfl (by (try simp only [List.map_toArray, List.map_cons, List.map_nil]); first | done | rfl | (simp only [List.length_drop, List.length_take]; rfl)) ?_; (with_reducible refine (unicodetextref42_weight.calls a0_0 true _ A4.out).mono ?_); rintro e w' ⟨rfl, ⟨nd, rfl⟩⟩; refine ⟨_, rfl, ?_⟩) | (go_at_call 71; (with_reducible refine (unicodetextref42_weight.calls a0_1 false _ A6.out).mono ?_); rintro e w' ⟨rfl, ⟨nd, rfl⟩⟩))
        go_meet
        case rel => exact ⟨_, (true), (by first | rfl | (simp; done) | (simp [*]; done) | exact congrArg Value.bool (ne_nil_bool _) | exact congrArg Value.bool (eq_nil_bool _)), H', ⟨by first | omega | exact Nat.le_refl _⟩, ⟨by (with_reducible repeat (first | refine blk_drewN ?_ _ | refine blk_drew ?_ | refine blk_alloc ?_ _)); exact BK128.out⟩, ⟨by repeat (first | (with_reducible first | exact HB.out | apply below_alloc | apply pw_below_drewN | apply below_drew1 | refine below_set ?_ GE128.out) | exact HB.out)⟩⟩
    · replace c5 := Bool.eq_false_iff.mpr c5
      subst c5
      have H1 : (unicodetextref42_Check.j0 k true a0_0 a0_1 a0_2 a0_3) = some r := by rw [if_neg (show ¬ (false = true) by decide)] at H; exact H
      clear H
      have H := H1
      clear H1
      have H' := Aside0.mk H
      clear H
      have hcz11_0 : w3.cell? ⟨gb128, 0, none⟩ = some (.int .i64 a0_0) := (blk_cell BK128.out 0).trans rfl
      have hcz11_1 : w3.cell? ⟨gb128, 1, none⟩ = some (.int .i64 a0_1) := (blk_cell BK128.out 1).trans rfl
      have hcz11_2 : w3.cell? ⟨gb128, 2, none⟩ = some (.int .i64 a0_2) := (blk_cell BK128.out 2).trans rfl
      have hcz11_3 : w3.cell? ⟨gb128, 3, none⟩ = some (.bool a0_3) := (blk_cell BK128.out 3).trans rfl
      have hfz11_0 := blk_frozen BK128.out 0
      have hfz11_1 := blk_frozen BK128.out 1
      have hfz11_2 := blk_frozen BK128.out 2
      have hfz11_3 := blk_frozen BK128.out 3
      go_wp2_with (first | ((with_reducible refine gate_callee (f := 71) rfl ?_); refine goesL_ (some 5) rfl rfl Tryz.func71 (by kernel_rfl) rfl #[.int .i64 a0_0] rfl (by (try simp only [List.map_toArray, List.map_cons, List.map_nil]); first | done | rfl | (simp only [List.length_drop, List.length_take]; rfl)) ?_; (with_reducible refine (unicodetextref42_weight.calls a0_0 false _ A4.out).mono ?_); rintro e w' ⟨rfl, ⟨nd, rfl⟩⟩; refine ⟨_, rfl, ?_⟩))
      go_meet
      case rel => exact ⟨_, (true), (by first | rfl | (simp; done) | (simp [*]; done) | exact congrArg Value.bool (ne_nil_bool _) | exact congrArg Value.bool (eq_nil_bool _)), H', ⟨by first | omega | exact Nat.le_refl _⟩, ⟨by (with_reducible repeat (first | refine blk_drewN ?_ _ | refine blk_drew ?_ | refine blk_alloc ?_ _)); exact BK128.out⟩, ⟨by repeat (first | (with_reducible first | exact HB.out | apply below_alloc | apply pw_below_drewN | apply below_drew1 | refine below_set ?_ GE128.out) | exact HB.out)⟩⟩
  case rest =>
    clear HC2
    try clear p2
    try clear c4
    try clear c5
    try clear c7
    try clear hcz10_0
    try clear hcz10_1
    try clear hcz10_2
    try clear hcz10_3
    try clear hcz11_0
    try clear hcz11_1
    try clear hcz11_2
    try clear hcz11_3
    try clear hcz9_0
    try clear hcz9_1
    try clear hcz9_2
    try clear hcz9_3
    try clear hfz10_0
    try clear hfz10_1
    try clear hfz10_2
    try clear hfz10_3
    try clear hfz11_0
    try clear hfz11_1
    try clear hfz11_2
    try clear hfz11_3
    try clear hfz9_0
    try clear hfz9_1
    try clear hfz9_2
    try clear hfz9_3
    obtain ⟨kq, x18_1, rfl, HA, HJ1, BK128, HB⟩ := hcut
    cases kq with
    | zero => exact absurd HA.out (by simp [unicodetextref42_Check.j0])
    | succ kj1 =>
      have H := HA.out
      clear HA
      simp only [unicodetextref42_Check.j0] at H
      by_cases c12 : x18_1 = true
      · subst c12
        have H1 : (some 1) = some r := by rw [if_pos rfl] at H; exact H
        clear H
        have H := H1
        clear H1
        obtain rfl := Option.some.inj H
        go_wp2
        go_ret
        exact ⟨by first | rfl | (simp [errW_none, errW_some] <;> rfl) | (simp [*, errW_none, errW_some] <;> rfl), by repeat (first | (with_reducible first | exact HB.out | apply below_alloc | apply pw_below_drewN | apply below_drew1 | refine below_set ?_ GE128.out) | exact HB.out)⟩
      · replace c12 := Bool.eq_false_iff.mpr c12
        subst c12
        have H1 : (if a0_0 = 0 then (if a0_1 = 0 then (if a0_3 = true then (some 11) else (some 0)) else (if a0_2 = 0 then (some 11) else (if a0_3 = true then (some 11) else (some 0)))) else (if a0_1 = 0 then (some 11) else (if a0_2 = 0 then (some 11) else (if a0_3 = true then (some 0) else (some 0))))) = some r := by rw [if_neg (show ¬ (false = true) by decide)] at H; exact H
        clear H
        have H := H1
        clear H1
        by_cases c13 : a0_0 = 0
        · rw [if_pos c13] at H
          have c13b0 : (a0_0 == 0) = true := beq_iff_eq.mpr c13
          have c13b1 : (a0_0 != 0) = false := bne_eq_false_iff_eq.mpr c13
          clear c13
          by_cases c14 : a0_1 = 0
          · rw [if_pos c14] at H
            have c14b0 : (a0_1 == 0) = true := beq_iff_eq.mpr c14
            have c14b1 : (a0_1 != 0) = false := bne_eq_false_iff_eq.mpr c14
            clear c14
            by_cases c15 : a0_3 = true
            · subst c15
              have H1 : (some 11) = some r := by rw [if_pos rfl] at H; exact H
              clear H
              have H := H1
              clear H1
              obtain rfl := Option.some.inj H
              have hcz16_0 : wc.cell? ⟨gb128, 0, none⟩ = some (.int .i64 a0_0) := (blk_cell BK128.out 0).trans rfl
              have hcz16_1 : wc.cell? ⟨gb128, 1, none⟩ = some (.int .i64 a0_1) := (blk_cell BK128.out 1).trans rfl
              have hcz16_2 : wc.cell? ⟨gb128, 2, none⟩ = some (.int .i64 a0_2) := (blk_cell BK128.out 2).trans rfl
              have hcz16_3 : wc.cell? ⟨gb128, 3, none⟩ = some (.bool true) := (blk_cell BK128.out 3).trans rfl
              have hfz16_0 := blk_frozen BK128.out 0
              have hfz16_1 := blk_frozen BK128.out 1
              have hfz16_2 := blk_frozen BK128.out 2
              have hfz16_3 := blk_frozen BK128.out 3
              go_wp2
              go_ret
              exact ⟨by first | rfl | (simp [errW_none, errW_some] <;> rfl) | (simp [*, errW_none, errW_some] <;> rfl), by repeat (first | (with_reducible first | exact HB.out | apply below_alloc | apply pw_below_drewN | apply below_drew1 | refine below_set ?_ GE128.out) | exact HB.out)⟩
            · replace c15 := Bool.eq_false_iff.mpr c15
              subst c15
              have H1 : (some 0) = some r := by rw [if_neg (show ¬ (false = true) by decide)] at H; exact H
              clear H
              have H := H1
              clear H1
              obtain rfl := Option.some.inj H
              have hcz17_0 : wc.cell? ⟨gb128, 0, none⟩ = some (.int .i64 a0_0) := (blk_cell BK128.out 0).trans rfl
              have hcz17_1 : wc.cell? ⟨gb128, 1, none⟩ = some (.int .i64 a0_1) := (blk_cell BK128.out 1).trans rfl
              have hcz17_2 : wc.cell? ⟨gb128, 2, none⟩ = some (.int .i64 a0_2) := (blk_cell BK128.out 2).trans rfl
              have hcz17_3 : wc.cell? ⟨gb128, 3, none⟩ = some (.bool false) := (blk_cell BK128.out 3).trans rfl
              have hfz17_0 := blk_frozen BK128.out 0
              have hfz17_1 := blk_frozen BK128.out 1
              have hfz17_2 := blk_frozen BK128.out 2
              have hfz17_3 := blk_frozen BK128.out 3
              go_wp2
              go_ret
              exact ⟨by first | rfl | (simp [errW_none, errW_some] <;> rfl) | (simp [*, errW_none, errW_some] <;> rfl), by repeat (first | (with_reducible first | exact HB.out | apply below_alloc | apply pw_below_drewN | apply below_drew1 | refine below_set ?_ GE128.out) | exact HB.out)⟩
          · rw [if_neg c14] at H
            have c14b0 : (a0_1 == 0) = false := beq_eq_false_iff_ne.mpr c14
            have c14b1 : (a0_1 != 0) = true := bne_iff_ne.mpr c14
            by_cases c18 : a0_2 = 0
            · rw [if_pos c18] at H
              have c18b0 : (a0_2 == 0) = true := beq_iff_eq.mpr c18
              have c18b1 : (a0_2 != 0) = false := bne_eq_false_iff_eq.mpr c18
              clear c18
              obtain rfl := Option.some.inj H
              have hcz19_0 : wc.cell? ⟨gb128, 0, none⟩ = some (.int .i64 a0_0) := (blk_cell BK128.out 0).trans rfl
              have hcz19_1 : wc.cell? ⟨gb128, 1, none⟩ = some (.int .i64 a0_1) := (blk_cell BK128.out 1).trans rfl
              have hcz19_2 : wc.cell? ⟨gb128, 2, none⟩ = some (.int .i64 a0_2) := (blk_cell BK128.out 2).trans rfl
              have hcz19_3 : wc.cell? ⟨gb128, 3, none⟩ = some (.bool a0_3) := (blk_cell BK128.out 3).trans rfl
              have hfz19_0 := blk_frozen BK128.out 0
              have hfz19_1 := blk_frozen BK128.out 1
              have hfz19_2 := blk_frozen BK128.out 2
              have hfz19_3 := blk_frozen BK128.out 3
              go_wp2
              go_ret
              exact ⟨by first | rfl | (simp [errW_none, errW_some] <;> rfl) | (simp [*, errW_none, errW_some] <;> rfl), by repeat (first | (with_reducible first | exact HB.out | apply below_alloc | apply pw_below_drewN | apply below_drew1 | refine below_set ?_ GE128.out) | exact HB.out)⟩
            · rw [if_neg c18] at H
              have c18b0 : (a0_2 == 0) = false := beq_eq_false_iff_ne.mpr c18
              have c18b1 : (a0_2 != 0) = true := bne_iff_ne.mpr c18
              by_cases c20 : a0_3 = true
              · subst c20
                have H1 : (some 11) = some r := by rw [if_pos rfl] at H; exact H
                clear H
                have H := H1
                clear H1
                obtain rfl := Option.some.inj H
                have hcz21_0 : wc.cell? ⟨gb128, 0, none⟩ = some (.int .i64 a0_0) := (blk_cell BK128.out 0).trans rfl
                have hcz21_1 : wc.cell? ⟨gb128, 1, none⟩ = some (.int .i64 a0_1) := (blk_cell BK128.out 1).trans rfl
                have hcz21_2 : wc.cell? ⟨gb128, 2, none⟩ = some (.int .i64 a0_2) := (blk_cell BK128.out 2).trans rfl
                have hcz21_3 : wc.cell? ⟨gb128, 3, none⟩ = some (.bool true) := (blk_cell BK128.out 3).trans rfl
                have hfz21_0 := blk_frozen BK128.out 0
                have hfz21_1 := blk_frozen BK128.out 1
                have hfz21_2 := blk_frozen BK128.out 2
                have hfz21_3 := blk_frozen BK128.out 3
                go_wp2
                go_ret
                exact ⟨by first | rfl | (simp [errW_none, errW_some] <;> rfl) | (simp [*, errW_none, errW_some] <;> rfl), by repeat (first | (with_reducible first | exact HB.out | apply below_alloc | apply pw_below_drewN | apply below_drew1 | refine below_set ?_ GE128.out) | exact HB.out)⟩
              · replace c20 := Bool.eq_false_iff.mpr c20
                subst c20
                have H1 : (some 0) = some r := by rw [if_neg (show ¬ (false = true) by decide)] at H; exact H
                clear H
                have H := H1
                clear H1
                obtain rfl := Option.some.inj H
                have hcz22_0 : wc.cell? ⟨gb128, 0, none⟩ = some (.int .i64 a0_0) := (blk_cell BK128.out 0).trans rfl
                have hcz22_1 : wc.cell? ⟨gb128, 1, none⟩ = some (.int .i64 a0_1) := (blk_cell BK128.out 1).trans rfl
                have hcz22_2 : wc.cell? ⟨gb128, 2, none⟩ = some (.int .i64 a0_2) := (blk_cell BK128.out 2).trans rfl
                have hcz22_3 : wc.cell? ⟨gb128, 3, none⟩ = some (.bool false) := (blk_cell BK128.out 3).trans rfl
                have hfz22_0 := blk_frozen BK128.out 0
                have hfz22_1 := blk_frozen BK128.out 1
                have hfz22_2 := blk_frozen BK128.out 2
                have hfz22_3 := blk_frozen BK128.out 3
                go_wp2
                go_ret
                exact ⟨by first | rfl | (simp [errW_none, errW_some] <;> rfl) | (simp [*, errW_none, errW_some] <;> rfl), by repeat (first | (with_reducible first | exact HB.out | apply below_alloc | apply pw_below_drewN | apply below_drew1 | refine below_set ?_ GE128.out) | exact HB.out)⟩
        · rw [if_neg c13] at H
          have c13b0 : (a0_0 == 0) = false := beq_eq_false_iff_ne.mpr c13
          have c13b1 : (a0_0 != 0) = true := bne_iff_ne.mpr c13
          by_cases c23 : a0_1 = 0
          · rw [if_pos c23] at H
            have c23b0 : (a0_1 == 0) = true := beq_iff_eq.mpr c23
            have c23b1 : (a0_1 != 0) = false := bne_eq_false_iff_eq.mpr c23
            clear c23
            obtain rfl := Option.some.inj H
            have hcz24_0 : wc.cell? ⟨gb128, 0, none⟩ = some (.int .i64 a0_0) := (blk_cell BK128.out 0).trans rfl
            have hcz24_1 : wc.cell? ⟨gb128, 1, none⟩ = some (.int .i64 a0_1) := (blk_cell BK128.out 1).trans rfl
            have hcz24_2 : wc.cell? ⟨gb128, 2, none⟩ = some (.int .i64 a0_2) := (blk_cell BK128.out 2).trans rfl
            have hcz24_3 : wc.cell? ⟨gb128, 3, none⟩ = some (.bool a0_3) := (blk_cell BK128.out 3).trans rfl
            have hfz24_0 := blk_frozen BK128.out 0
            have hfz24_1 := blk_frozen BK128.out 1
            have hfz24_2 := blk_frozen BK128.out 2
            have hfz24_3 := blk_frozen BK128.out 3
            go_wp2
            go_ret
            exact ⟨by first | rfl | (simp [errW_none, errW_some] <;> rfl) | (simp [*, errW_none, errW_some] <;> rfl), by repeat (first | (with_reducible first | exact HB.out | apply below_alloc | apply pw_below_drewN | apply below_drew1 | refine below_set ?_ GE128.out) | exact HB.out)⟩
          · rw [if_neg c23] at H
            have c23b0 : (a0_1 == 0) = false := beq_eq_false_iff_ne.mpr c23
            have c23b1 : (a0_1 != 0) = true := bne_iff_ne.mpr c23
            by_cases c25 : a0_2 = 0
            · rw [if_pos c25] at H
              have c25b0 : (a0_2 == 0) = true := beq_iff_eq.mpr c25
              have c25b1 : (a0_2 != 0) = false := bne_eq_false_iff_eq.mpr c25
              clear c25
              obtain rfl := Option.some.inj H
              have hcz26_0 : wc.cell? ⟨gb128, 0, none⟩ = some (.int .i64 a0_0) := (blk_cell BK128.out 0).trans rfl
              have hcz26_1 : wc.cell? ⟨gb128, 1, none⟩ = some (.int .i64 a0_1) := (blk_cell BK128.out 1).trans rfl
              have hcz26_2 : wc.cell? ⟨gb128, 2, none⟩ = some (.int .i64 a0_2) := (blk_cell BK128.out 2).trans rfl
              have hcz26_3 : wc.cell? ⟨gb128, 3, none⟩ = some (.bool a0_3) := (blk_cell BK128.out 3).trans rfl
              have hfz26_0 := blk_frozen BK128.out 0
              have hfz26_1 := blk_frozen BK128.out 1
              have hfz26_2 := blk_frozen BK128.out 2
              have hfz26_3 := blk_frozen BK128.out 3
              go_wp2
              go_ret
              exact ⟨by first | rfl | (simp [errW_none, errW_some] <;> rfl) | (simp [*, errW_none, errW_some] <;> rfl), by repeat (first | (with_reducible first | exact HB.out | apply below_alloc | apply pw_below_drewN | apply below_drew1 | refine below_set ?_ GE128.out) | exact HB.out)⟩
            · rw [if_neg c25] at H
              have c25b0 : (a0_2 == 0) = false := beq_eq_false_iff_ne.mpr c25
              have c25b1 : (a0_2 != 0) = true := bne_iff_ne.mpr c25
              by_cases c27 : a0_3 = true
              · subst c27
                have H1 : (some 0) = some r := by rw [if_pos rfl] at H; exact H
                clear H
                have H := H1
                clear H1
                obtain rfl := Option.some.inj H
                have hcz28_0 : wc.cell? ⟨gb128, 0, none⟩ = some (.int .i64 a0_0) := (blk_cell BK128.out 0).trans rfl
                have hcz28_1 : wc.cell? ⟨gb128, 1, none⟩ = some (.int .i64 a0_1) := (blk_cell BK128.out 1).trans rfl
                have hcz28_2 : wc.cell? ⟨gb128, 2, none⟩ = some (.int .i64 a0_2) := (blk_cell BK128.out 2).trans rfl
                have hcz28_3 : wc.cell? ⟨gb128, 3, none⟩ = some (.bool true) := (blk_cell BK128.out 3).trans rfl
                have hfz28_0 := blk_frozen BK128.out 0
                have hfz28_1 := blk_frozen BK128.out 1
                have hfz28_2 := blk_frozen BK128.out 2
                have hfz28_3 := blk_frozen BK128.out 3
                go_wp2
                go_ret
                exact ⟨by first | rfl | (simp [errW_none, errW_some] <;> rfl) | (simp [*, errW_none, errW_some] <;> rfl), by repeat (first | (with_reducible first | exact HB.out | apply below_alloc | apply pw_below_drewN | apply below_drew1 | refine below_set ?_ GE128.out) | exact HB.out)⟩
              · replace c27 := Bool.eq_false_iff.mpr c27
                subst c27
                have H1 : (some 0) = some r := by rw [if_neg (show ¬ (false = true) by decide)] at H; exact H
                clear H
                have H := H1
                clear H1
                obtain rfl := Option.some.inj H
                have hcz29_0 : wc.cell? ⟨gb128, 0, none⟩ = some (.int .i64 a0_0) := (blk_cell BK128.out 0).trans rfl
                have hcz29_1 : wc.cell? ⟨gb128, 1, none⟩ = some (.int .i64 a0_1) := (blk_cell BK128.out 1).trans rfl
                have hcz29_2 : wc.cell? ⟨gb128, 2, none⟩ = some (.int .i64 a0_2) := (blk_cell BK128.out 2).trans rfl
                have hcz29_3 : wc.cell? ⟨gb128, 3, none⟩ = some (.bool false) := (blk_cell BK128.out 3).trans rfl
                have hfz29_0 := blk_frozen BK128.out 0
                have hfz29_1 := blk_frozen BK128.out 1
                have hfz29_2 := blk_frozen BK128.out 2
                have hfz29_3 := blk_frozen BK128.out 3
                go_wp2
                go_ret
                exact ⟨by first | rfl | (simp [errW_none, errW_some] <;> rfl) | (simp [*, errW_none, errW_some] <;> rfl), by repeat (first | (with_reducible first | exact HB.out | apply below_alloc | apply pw_below_drewN | apply below_drew1 | refine below_set ?_ GE128.out) | exact HB.out)⟩
def unicodetextref42_checks.l0 : Nat → List (S44) → Int → Option (Int)
  | 0, _, _ => none
  | k + 1, x0, x3 => if x3 < (x0.length : Int) then (if 0 ≤ x3 then ((unicodetextref42_Check.f k ((rd_T44 x0 x3).f0) ((rd_T44 x0 x3).f1) ((rd_T44 x0 x3).f2) ((rd_T44 x0 x3).f3)).bind fun t133 => (if t133 = 0 then (unicodetextref42_checks.l0 k x0 (wrap64 (x3 + 1))) else (some t133))) else (none)) else (some 0)
def unicodetextref42_checks.f (k : Nat) (l0 : List (S44)) : Option (Int) := unicodetextref42_checks.l0 k l0 0
theorem unicodetextref42_checks.mono_l : ∀ k, (∀ y0 y1, LeO (unicodetextref42_checks.l0 k y0 y1) (unicodetextref42_checks.l0 (k + 1) y0 y1))
  | 0 => fun _ _ r h => by simp [unicodetextref42_checks.l0] at h
  | k + 1 => by
    have ih0 := unicodetextref42_checks.mono_l k
    · intro y0 y1
      unfold unicodetextref42_checks.l0
      repeat' first
      | (with_reducible exact ih0 _ _)
      | (with_reducible exact unicodetextref42_Check.mono _ _ _ _ _)
      | (with_reducible exact LeO.refl _)
      | (with_reducible exact LeO.none _)
      | (with_reducible refine LeO.ite ?_ ?_)
      | (with_reducible refine LeO.bind ?_ (fun _ => ?_))
      | exact ih0 _ _
      | exact unicodetextref42_Check.mono _ _ _ _ _
      | exact LeO.none _
      | refine LeO.ite ?_ ?_
      | refine LeO.bind ?_ (fun _ => ?_)
theorem unicodetextref42_checks.mono : ∀ a0 k, LeO (unicodetextref42_checks.f k a0) (unicodetextref42_checks.f (k + 1) a0) := by
  intro a0 k
  have ih0 := unicodetextref42_checks.mono_l k
  unfold unicodetextref42_checks.f
  repeat' first
      | (with_reducible exact ih0 _ _)
      | (with_reducible exact unicodetextref42_Check.mono _ _ _ _ _)
      | (with_reducible exact LeO.refl _)
      | (with_reducible exact LeO.none _)
      | (with_reducible refine LeO.ite ?_ ?_)
      | (with_reducible refine LeO.bind ?_ (fun _ => ?_))
      | exact ih0 _ _
      | exact unicodetextref42_Check.mono _ _ _ _ _
      | exact LeO.none _
      | refine LeO.ite ?_ ?_
      | refine LeO.bind ?_ (fun _ => ?_)
set_option maxHeartbeats 8000000 in
set_option maxRecDepth 100000 in
theorem unicodetextref42_checks.calls (k : Nat) (A0 : Option Addr) (c0 : Nat) (l0 : List (S44)) (r : Int) (w : World) (hr0 : Kd.C k44 w A0 l0.length l0) (hc0 : l0.length ≤ c0) (h : unicodetextref42_checks.f k l0 = some r) :
    Calls Tryz.prog 23 #[.slice A0 l0.length c0] w fun e w' => e = .returned (.int .i64 r) ∧ Below w.heap.size w w' := by
  have hu44 := Tryz.underlying44
  have HR0 := Aside0.mk hr0
  have HC0 := Aside0.mk hc0
  clear hr0 hc0
  have HB := Aside0.mk (Below.refl w.heap.size w)
  have H : (unicodetextref42_checks.l0 k l0 0) = some r := h
  clear h
  have H' := Aside0.mk H
  clear H
  go_enter Tryz.func23, Tryz.ntmps23
  go_wp2
  go_loopg [3] k (fun kq v3 w' => ∃ (x3_1 : Int), v3 = .int .i64 x3_1 ∧ Aside0 (unicodetextref42_checks.l0 kq l0 x3_1 = some r) ∧ Aside0 (kq ≤ k) ∧ Aside0 (Below w.heap.size w w'))
  case atStart => exact ⟨(0), (by first | rfl | (simp; done) | (simp [*]; done) | exact congrArg Value.bool (ne_nil_bool _) | exact congrArg Value.bool (eq_nil_bool _)), H', ⟨Nat.le_refl _⟩, ⟨by repeat (first | (with_reducible first | exact HB.out | apply below_alloc | apply pw_below_drewN | apply below_drew1) | exact HB.out)⟩⟩
  case round =>
    clear H'
    obtain ⟨x3_1, rfl, HA, HK1, HB⟩ := hrel
    cases gk with
    | zero => exact absurd HA.out (by simp [unicodetextref42_checks.l0])
    | succ k1 =>
      have H := HA.out
      clear HA
      simp only [unicodetextref42_checks.l0] at H
      by_cases c2 : x3_1 < (l0.length : Int)
      · rw [if_pos c2] at H
        have c2b0 : decide (x3_1 < (l0.length : Int)) = true := decide_eq_true c2
        clear c2
        by_cases c3 : 0 ≤ x3_1
        · rw [if_pos c3] at H
          have c3b0 : decide (0 ≤ x3_1) = true := decide_eq_true c3
          clear c3
          replace H := Option.bind_eq_some_iff.mp H
          obtain ⟨t133, A40, H⟩ := H
          replace H : (if t133 = 0 then (unicodetextref42_checks.l0 k1 l0 (wrap64 (x3_1 + 1))) else (some t133)) = some r := H
          have A4 := Aside0.mk A40
          clear A40
          by_cases c5 : t133 = 0
          · rw [if_pos c5] at H
            have c5b0 : (t133 == 0) = true := beq_iff_eq.mpr c5
            have c5b1 : (t133 != 0) = false := bne_eq_false_iff_eq.mpr c5
            clear c5
            have H' := Aside0.mk H
            clear H
            have p132 : 0 ≤ (x3_1 : Int) := of_decide_eq_true (by first | (with_reducible assumption) | assumption)
            have q132 : x3_1 < (l0.length : Int) := of_decide_eq_true (by first | (with_reducible assumption) | assumption)
            obtain ⟨ad132, e132, hx132_0, hx132_1, hx132_2, hx132_3⟩ := at_T44 HR0.out x3_1 p132 q132
            cases e132
            replace hx132_0 := (HB.out.cell (World.block_lt_of_cell? w _ hx132_0)).trans hx132_0
            replace hx132_1 := (HB.out.cell (World.block_lt_of_cell? w _ hx132_1)).trans hx132_1
            replace hx132_2 := (HB.out.cell (World.block_lt_of_cell? w _ hx132_2)).trans hx132_2
            replace hx132_3 := (HB.out.cell (World.block_lt_of_cell? w _ hx132_3)).trans hx132_3
            replace p132 := eq_true p132
            replace q132 := eq_true q132
            go_wp2_with (first | ((with_reducible refine gate_callee (f := 48) rfl ?_); refine goesL_ (some 15) rfl rfl Tryz.func48 (by kernel_rfl) rfl #[.agg #[.int .i64 ((rd_T44 l0 x3_1).f0), .int .i64 ((rd_T44 l0 x3_1).f1), .int .i64 ((rd_T44 l0 x3_1).f2), .bool ((rd_T44 l0 x3_1).f3)]] rfl (by (try simp only [List.map_toArray, List.map_cons, List.map_nil]); first | done | rfl | (simp only [List.length_drop, List.length_take]; rfl)) ?_; (with_reducible refine (unicodetextref42_Check.calls k1 ((rd_T44 l0 x3_1).f0) ((rd_T44 l0 x3_1).f1) ((rd_T44 l0 x3_1).f2) ((rd_T44 l0 x3_1).f3) t133 _ A4.out).mono ?_); rintro e w6 ⟨rfl, hb⟩; refine ⟨_, rfl, ?_⟩; have n0_ := Aside0.mk (below_step (by repeat (first | (with_reducible first | exact HB.out | apply below_alloc | apply pw_below_drewN | apply below_drew1) | exact HB.out)) hb); clear HB; have HB := n0_; clear n0_; (try clear hb); (try clear hb2); (try clear hk); (try clear hi)))
            go_roundg k1
            case measure => have := HK1.out; omega
            case rel => exact ⟨(wrap64 (x3_1 + 1)), (by first | rfl | (simp; done) | (simp [*]; done) | exact congrArg Value.bool (ne_nil_bool _) | exact congrArg Value.bool (eq_nil_bool _)), H', ⟨by have := HK1.out; omega⟩, ⟨by repeat (first | (with_reducible first | exact HB.out | apply below_alloc | apply pw_below_drewN | apply below_drew1) | exact HB.out)⟩⟩
          · rw [if_neg c5] at H
            have c5b0 : (t133 == 0) = false := beq_eq_false_iff_ne.mpr c5
            have c5b1 : (t133 != 0) = true := bne_iff_ne.mpr c5
            obtain rfl := Option.some.inj H
            have p132 : 0 ≤ (x3_1 : Int) := of_decide_eq_true (by first | (with_reducible assumption) | assumption)
            have q132 : x3_1 < (l0.length : Int) := of_decide_eq_true (by first | (with_reducible assumption) | assumption)
            obtain ⟨ad132, e132, hx132_0, hx132_1, hx132_2, hx132_3⟩ := at_T44 HR0.out x3_1 p132 q132
            cases e132
            replace hx132_0 := (HB.out.cell (World.block_lt_of_cell? w _ hx132_0)).trans hx132_0
            replace hx132_1 := (HB.out.cell (World.block_lt_of_cell? w _ hx132_1)).trans hx132_1
            replace hx132_2 := (HB.out.cell (World.block_lt_of_cell? w _ hx132_2)).trans hx132_2
            replace hx132_3 := (HB.out.cell (World.block_lt_of_cell? w _ hx132_3)).trans hx132_3
            replace p132 := eq_true p132
            replace q132 := eq_true q132
            go_wp2_with (first | ((with_reducible refine gate_callee (f := 48) rfl ?_); refine goesL_ (some 15) rfl rfl Tryz.func48 (by kernel_rfl) rfl #[.agg #[.int .i64 ((rd_T44 l0 x3_1).f0), .int .i64 ((rd_T44 l0 x3_1).f1), .int .i64 ((rd_T44 l0 x3_1).f2), .bool ((rd_T44 l0 x3_1).f3)]] rfl (by (try simp only [List.map_toArray, List.map_cons, List.map_nil]); first | done | rfl | (simp only [List.length_drop, List.length_take]; rfl)) ?_; (with_reducible refine (unicodetextref42_Check.calls k1 ((rd_T44 l0 x3_1).f0) ((rd_T44 l0 x3_1).f1) ((rd_T44 l0 x3_1).f2) ((rd_T44 l0 x3_1).f3) t133 _ A4.out).mono ?_); rintro e w7 ⟨rfl, hb⟩; refine ⟨_, rfl, ?_⟩; have n0_ := Aside0.mk (below_step (by repeat (first | (with_reducible first | exact HB.out | apply below_alloc | apply pw_below_drewN | apply below_drew1) | exact HB.out)) hb); clear HB; have HB := n0_; clear n0_; (try clear hb); (try clear hb2); (try clear hk); (try clear hi)))
            go_ret
            exact ⟨by first | rfl | (simp [errW_none, errW_some] <;> rfl) | (simp [*, errW_none, errW_some] <;> rfl), by repeat (first | (with_reducible first | exact HB.out | apply below_alloc | apply pw_below_drewN | apply below_drew1) | exact HB.out)⟩
        · rw [if_neg c3] at H
          exact absurd H (by simp)
      · rw [if_neg c2] at H
        have c2b0 : decide (x3_1 < (l0.length : Int)) = false := decide_eq_false c2
        clear c2
        obtain rfl := Option.some.inj H
        go_wp2
        go_ret
        exact ⟨by first | rfl | (simp [errW_none, errW_some] <;> rfl) | (simp [*, errW_none, errW_some] <;> rfl), by repeat (first | (with_reducible first | exact HB.out | apply below_alloc | apply pw_below_drewN | apply below_drew1) | exact HB.out)⟩
def unicodetextref42_Parse.f (k : Nat) (a0 : ByteArray) : Option ((List (S44)) × Int) := (unicodetextref42_form.f k a0).bind fun bt134 => (if bt134.2 = true then ((unicodetextref42_checks.f k bt134.1).bind fun t138 => (if t138 = 0 then (some (bt134.1, 0)) else (some (([] : List (S44)), t138)))) else (some (([] : List (S44)), 3)))
theorem unicodetextref42_Parse.mono : ∀ a0 k, LeO (unicodetextref42_Parse.f k a0) (unicodetextref42_Parse.f (k + 1) a0) := by
  intro a0 k
  unfold unicodetextref42_Parse.f
  repeat' first
      | (with_reducible exact unicodetextref42_checks.mono _ _)
      | (with_reducible exact unicodetextref42_form.mono _ _)
      | (with_reducible exact LeO.refl _)
      | (with_reducible exact LeO.none _)
      | (with_reducible refine LeO.ite ?_ ?_)
      | (with_reducible refine LeO.bind ?_ (fun _ => ?_))
      | exact unicodetextref42_checks.mono _ _
      | exact unicodetextref42_form.mono _ _
      | exact LeO.none _
      | refine LeO.ite ?_ ?_
      | refine LeO.bind ?_ (fun _ => ?_)
set_option maxHeartbeats 8000000 in
set_option maxRecDepth 100000 in
theorem unicodetextref42_Parse.calls (k : Nat) (a0 : ByteArray) (r1 : List (S44)) (r2 : Int) (w : World) (h : unicodetextref42_Parse.f k a0 = some (r1, r2)) :
    Calls Tryz.prog 9 #[.string a0] w fun e w' => ∃ v0_ : Value, e = .returned (.tuple #[v0_, .int .i64 r2]) ∧ Kd.R k44 44 w' w.heap.size (fun _ => True) v0_ r1 ∧ Below w.heap.size w w' := by
  have HB := Aside0.mk (Below.refl w.heap.size w)
  have H : ((unicodetextref42_form.f k a0).bind fun bt134 => (if bt134.2 = true then ((unicodetextref42_checks.f k bt134.1).bind fun t138 => (if t138 = 0 then (some (bt134.1, 0)) else (some (([] : List (S44)), t138)))) else (some (([] : List (S44)), 3)))) = some (r1, r2) := h
  clear h
  replace H := Option.bind_eq_some_iff.mp H
  obtain ⟨⟨t134, t135⟩, A20, H⟩ := H
  replace H : (if t135 = true then ((unicodetextref42_checks.f k t134).bind fun t138 => (if t138 = 0 then (some (t134, 0)) else (some (([] : List (S44)), t138)))) else (some (([] : List (S44)), 3))) = some (r1, r2) := H
  have A2 := Aside0.mk A20
  clear A20
  by_cases c3 : t135 = true
  · subst c3
    have H1 : ((unicodetextref42_checks.f k t134).bind fun t138 => (if t138 = 0 then (some (t134, 0)) else (some (([] : List (S44)), t138)))) = some (r1, r2) := by rw [if_pos rfl] at H; exact H
    clear H
    have H := H1
    clear H1
    replace H := Option.bind_eq_some_iff.mp H
    obtain ⟨t138, A40, H⟩ := H
    replace H : (if t138 = 0 then (some (t134, 0)) else (some (([] : List (S44)), t138))) = some (r1, r2) := H
    have A4 := Aside0.mk A40
    clear A40
    by_cases c5 : t138 = 0
    · rw [if_pos c5] at H
      have c5b0 : (t138 == 0) = true := beq_iff_eq.mpr c5
      have c5b1 : (t138 != 0) = false := bne_eq_false_iff_eq.mpr c5
      clear c5
      simp only [Option.some.injEq, Prod.mk.injEq] at H
      obtain ⟨rfl, rfl⟩ := H
      go_enter Tryz.func9, Tryz.ntmps9
      go_wp2_with (first | ((with_reducible refine gate_callee (f := 22) rfl ?_); refine goesL_ (some 9) rfl rfl Tryz.func22 (by kernel_rfl) rfl #[.string a0] rfl (by (try simp only [List.map_toArray, List.map_cons, List.map_nil]); first | done | rfl | (simp only [List.length_drop, List.length_take]; rfl)) ?_; (with_reducible refine (unicodetextref42_form.calls k a0 t134 true _ A2.out).mono ?_); rintro e w6 ⟨v136, rfl, ho0, hb⟩; refine ⟨_, rfl, ?_⟩; have n0_ := Aside0.mk (Kd.R_lower ho0 (below_size (by repeat (first | (with_reducible first | exact HB.out | apply below_alloc | apply pw_below_drewN | apply below_drew1) | exact HB.out)))); have n1_ := Aside0.mk (below_step (by repeat (first | (with_reducible first | exact HB.out | apply below_alloc | apply pw_below_drewN | apply below_drew1) | exact HB.out)) hb); clear HB; have HO137 := n0_; have HB := n1_; clear n0_ n1_; (try clear hb); (try clear hb2); (try clear hk); (try clear hi); (try clear ho0); obtain ⟨Ao7, co7, eo7⟩ := Kd.R_slice HO137.out; subst eo7) | ((with_reducible refine gate_callee (f := 23) rfl ?_); refine goesL_ (some 15) rfl rfl Tryz.func23 (by kernel_rfl) rfl #[.slice Ao7 t134.length co7] rfl (by (try simp only [List.map_toArray, List.map_cons, List.map_nil]); first | done | rfl | (simp only [List.length_drop, List.length_take]; rfl)) ?_; (with_reducible refine (unicodetextref42_checks.calls k _ _ t134 t138 _ ?side1 ?side2 A4.out).mono ?_); (case side1 => repeat (first | exact (Kd.R_reads' HO137.out).2.2 | (with_reducible refine Kd.C_alloc ?_ _) | (with_reducible refine Kd.C_drewN ?_ _) | (with_reducible refine Kd.C_drew ?_))); (case side2 => exact (Kd.R_reads' HO137.out).2.1); rintro e w8 ⟨rfl, hb⟩; refine ⟨_, rfl, ?_⟩; have n0_ := Aside0.mk (Kd.R_below (by (with_reducible repeat (first | apply Kd.R_alloc | apply Kd.R_drewN | apply Kd.R_drew)); exact HO137.out) hb); have n1_ := Aside0.mk (below_step (by repeat (first | (with_reducible first | exact HB.out | apply below_alloc | apply pw_below_drewN | apply below_drew1) | exact HB.out)) hb); clear HO137; clear HB; have HO137 := n0_; have HB := n1_; clear n0_ n1_; (try clear hb); (try clear hb2); (try clear hk); (try clear hi)))
      go_ret2
      exact ⟨_, by first | rfl | (simp [errW_none, errW_some] <;> rfl) | (simp [*, errW_none, errW_some] <;> rfl), by (with_reducible repeat (first | apply Kd.R_alloc | apply Kd.R_drewN | apply Kd.R_drew)); exact HO137.out, by repeat (first | (with_reducible first | exact HB.out | apply below_alloc | apply pw_below_drewN | apply below_drew1) | exact HB.out)⟩
    · rw [if_neg c5] at H
      have c5b0 : (t138 == 0) = false := beq_eq_false_iff_ne.mpr c5
      have c5b1 : (t138 != 0) = true := bne_iff_ne.mpr c5
      simp only [Option.some.injEq, Prod.mk.injEq] at H
      obtain ⟨rfl, rfl⟩ := H
      go_enter Tryz.func9, Tryz.ntmps9
      go_wp2_with (first | ((with_reducible refine gate_callee (f := 22) rfl ?_); refine goesL_ (some 9) rfl rfl Tryz.func22 (by kernel_rfl) rfl #[.string a0] rfl (by (try simp only [List.map_toArray, List.map_cons, List.map_nil]); first | done | rfl | (simp only [List.length_drop, List.length_take]; rfl)) ?_; (with_reducible refine (unicodetextref42_form.calls k a0 t134 true _ A2.out).mono ?_); rintro e w9 ⟨v136, rfl, ho0, hb⟩; refine ⟨_, rfl, ?_⟩; have n0_ := Aside0.mk (Kd.R_lower ho0 (below_size (by repeat (first | (with_reducible first | exact HB.out | apply below_alloc | apply pw_below_drewN | apply below_drew1) | exact HB.out)))); have n1_ := Aside0.mk (below_step (by repeat (first | (with_reducible first | exact HB.out | apply below_alloc | apply pw_below_drewN | apply below_drew1) | exact HB.out)) hb); clear HB; have HO137 := n0_; have HB := n1_; clear n0_ n1_; (try clear hb); (try clear hb2); (try clear hk); (try clear hi); (try clear ho0); obtain ⟨Ao10, co10, eo10⟩ := Kd.R_slice HO137.out; subst eo10) | ((with_reducible refine gate_callee (f := 23) rfl ?_); refine goesL_ (some 15) rfl rfl Tryz.func23 (by kernel_rfl) rfl #[.slice Ao10 t134.length co10] rfl (by (try simp only [List.map_toArray, List.map_cons, List.map_nil]); first | done | rfl | (simp only [List.length_drop, List.length_take]; rfl)) ?_; (with_reducible refine (unicodetextref42_checks.calls k _ _ t134 t138 _ ?side1 ?side2 A4.out).mono ?_); (case side1 => repeat (first | exact (Kd.R_reads' HO137.out).2.2 | (with_reducible refine Kd.C_alloc ?_ _) | (with_reducible refine Kd.C_drewN ?_ _) | (with_reducible refine Kd.C_drew ?_))); (case side2 => exact (Kd.R_reads' HO137.out).2.1); rintro e w11 ⟨rfl, hb⟩; refine ⟨_, rfl, ?_⟩; have n0_ := Aside0.mk (Kd.R_below (by (with_reducible repeat (first | apply Kd.R_alloc | apply Kd.R_drewN | apply Kd.R_drew)); exact HO137.out) hb); have n1_ := Aside0.mk (below_step (by repeat (first | (with_reducible first | exact HB.out | apply below_alloc | apply pw_below_drewN | apply below_drew1) | exact HB.out)) hb); clear HO137; clear HB; have HO137 := n0_; have HB := n1_; clear n0_ n1_; (try clear hb); (try clear hb2); (try clear hk); (try clear hi)))
      go_ret2
      exact ⟨_, by first | rfl | (simp [errW_none, errW_some] <;> rfl) | (simp [*, errW_none, errW_some] <;> rfl), by first | exact Kd.R_nil _ _ _ _ _ | exact Kd.N_nil _ _ _ _ _ | exact Kd.V_nil _ _ _ _ _ | exact Kd.Q_nil _ _ _ _ _ | exact Kd.S_nil _ _ _ _ _, by repeat (first | (with_reducible first | exact HB.out | apply below_alloc | apply pw_below_drewN | apply below_drew1) | exact HB.out)⟩
  · replace c3 := Bool.eq_false_iff.mpr c3
    subst c3
    have H1 : (some (([] : List (S44)), 3)) = some (r1, r2) := by rw [if_neg (show ¬ (false = true) by decide)] at H; exact H
    clear H
    have H := H1
    clear H1
    simp only [Option.some.injEq, Prod.mk.injEq] at H
    obtain ⟨rfl, rfl⟩ := H
    go_enter Tryz.func9, Tryz.ntmps9
    go_wp2_with (first | ((with_reducible refine gate_callee (f := 22) rfl ?_); refine goesL_ (some 9) rfl rfl Tryz.func22 (by kernel_rfl) rfl #[.string a0] rfl (by (try simp only [List.map_toArray, List.map_cons, List.map_nil]); first | done | rfl | (simp only [List.length_drop, List.length_take]; rfl)) ?_; (with_reducible refine (unicodetextref42_form.calls k a0 t134 false _ A2.out).mono ?_); rintro e w12 ⟨v136, rfl, ho0, hb⟩; refine ⟨_, rfl, ?_⟩; have n0_ := Aside0.mk (Kd.R_lower ho0 (below_size (by repeat (first | (with_reducible first | exact HB.out | apply below_alloc | apply pw_below_drewN | apply below_drew1) | exact HB.out)))); have n1_ := Aside0.mk (below_step (by repeat (first | (with_reducible first | exact HB.out | apply below_alloc | apply pw_below_drewN | apply below_drew1) | exact HB.out)) hb); clear HB; have HO137 := n0_; have HB := n1_; clear n0_ n1_; (try clear hb); (try clear hb2); (try clear hk); (try clear hi); (try clear ho0)))
    go_ret2
    exact ⟨_, by first | rfl | (simp [errW_none, errW_some] <;> rfl) | (simp [*, errW_none, errW_some] <;> rfl), by first | exact Kd.R_nil _ _ _ _ _ | exact Kd.N_nil _ _ _ _ _ | exact Kd.V_nil _ _ _ _ _ | exact Kd.Q_nil _ _ _ _ _ | exact Kd.S_nil _ _ _ _ _, by repeat (first | (with_reducible first | exact HB.out | apply below_alloc | apply pw_below_drewN | apply below_drew1) | exact HB.out)⟩
end Go.Proofs.YtdaijpjjilmkkaaGreatDoor.Pr

-- Written by wip/drive.py of this claim's session, out of the translation. Not trusted: Lean checks it.
namespace Go.Proofs.YtdaijpjjilmkkaaGreatDoor.Pr
open Go.RowKit Go.Proofs.YtdaijpjjilmkkaaGreatDoorW.PrintWords Go.Proofs.YtdaijpjjilmkkaaGreatDoorW.PrintLast Go.Proofs.YtdaijpjjilmkkaaGreatDoorW.PrintMore
attribute [local go_sem] max2_int min2_int max_two min_two max_three min_three max_four min_four   -- for this text's walks alone
set_option linter.unusedVariables false
set_option linter.unusedSimpArgs false
def unicodetextlaw42_ElementParses.f (k : Nat) (a0 : ByteArray) : Option (Bool) := if (a0.size : Int) > 600 then ((unicodetextlaw42_alive.f k).bind fun t396 => (some t396)) else ((element_Parse.f k a0).bind fun bt397 => ((unicodetextref42_Parse.f k a0).bind fun bt401 => ((unicodetextref42_SameElements.f k bt397.1 bt401.1).bind fun t405 => (if t405 = true then (if bt397.2 = bt401.2 then ((unicodetextlaw42_alive.f k).bind fun t406 => (some t406)) else (none)) else (none)))))
theorem unicodetextlaw42_ElementParses.mono : ∀ a0 k, LeO (unicodetextlaw42_ElementParses.f k a0) (unicodetextlaw42_ElementParses.f (k + 1) a0) := by
  intro a0 k
  unfold unicodetextlaw42_ElementParses.f
  repeat' first
      | (with_reducible exact element_Parse.mono _ _)
      | (with_reducible exact unicodetextlaw42_alive.mono _)
      | (with_reducible exact unicodetextref42_Parse.mono _ _)
      | (with_reducible exact unicodetextref42_SameElements.mono _ _ _)
      | (with_reducible exact LeO.refl _)
      | (with_reducible exact LeO.none _)
      | (with_reducible refine LeO.ite ?_ ?_)
      | (with_reducible refine LeO.bind ?_ (fun _ => ?_))
      | exact element_Parse.mono _ _
      | exact unicodetextlaw42_alive.mono _
      | exact unicodetextref42_Parse.mono _ _
      | exact unicodetextref42_SameElements.mono _ _ _
      | exact LeO.none _
      | refine LeO.ite ?_ ?_
      | refine LeO.bind ?_ (fun _ => ?_)
set_option maxHeartbeats 8000000 in
set_option maxRecDepth 100000 in
theorem unicodetextlaw42_ElementParses.calls (k : Nat) (a0 : ByteArray) (r : Bool) (w : World) (h : unicodetextlaw42_ElementParses.f k a0 = some r) (hG : GW w) :
    Calls Tryz.prog 3 #[.string a0] w fun e w' => e = .returned (.bool r) ∧ Below w.heap.size w w' := by
  have HG := Aside0.mk hG
  clear hG
  have HB := Aside0.mk (Below.refl w.heap.size w)
  have H : (if (a0.size : Int) > 600 then ((unicodetextlaw42_alive.f k).bind fun t396 => (some t396)) else ((element_Parse.f k a0).bind fun bt397 => ((unicodetextref42_Parse.f k a0).bind fun bt401 => ((unicodetextref42_SameElements.f k bt397.1 bt401.1).bind fun t405 => (if t405 = true then (if bt397.2 = bt401.2 then ((unicodetextlaw42_alive.f k).bind fun t406 => (some t406)) else (none)) else (none)))))) = some r := h
  clear h
  by_cases c2 : (a0.size : Int) > 600
  · rw [if_pos c2] at H
    have c2b0 : decide (600 < (a0.size : Int)) = true := decide_eq_true c2
    have c2b1 : decide (600 < a0.size) = true := decide_eq_true (by omega)
    clear c2
    replace H := Option.bind_eq_some_iff.mp H
    obtain ⟨t396, A30, H⟩ := H
    replace H : (some t396) = some r := H
    have A3 := Aside0.mk A30
    clear A30
    obtain rfl := Option.some.inj H
    go_enter Tryz.func3, Tryz.ntmps3
    go_wp2_with (first | ((with_reducible refine gate_callee (f := 7) rfl ?_); refine goesL_ (some 10) rfl rfl Tryz.func7 (by kernel_rfl) rfl #[] rfl (by (try simp only [List.map_toArray, List.map_cons, List.map_nil]); first | done | rfl | (simp only [List.length_drop, List.length_take]; rfl)) ?_; (with_reducible refine (unicodetextlaw42_alive.calls k  t396 _ A3.out ?sideG).mono ?_); (case sideG => exact GW.below HG.out (by repeat (first | (with_reducible first | exact HB.out | apply below_alloc | apply pw_below_drewN | apply below_drew1) | exact HB.out))); rintro e w4 ⟨rfl, hb⟩; refine ⟨_, rfl, ?_⟩; have n0_ := Aside0.mk (below_step (by repeat (first | (with_reducible first | exact HB.out | apply below_alloc | apply pw_below_drewN | apply below_drew1) | exact HB.out)) hb); clear HB; have HB := n0_; clear n0_; (try clear hb); (try clear hb2); (try clear hk); (try clear hi)))
    go_ret
    exact ⟨by first | rfl | (simp [errW_none, errW_some] <;> rfl) | (simp [*, errW_none, errW_some] <;> rfl), by repeat (first | (with_reducible first | exact HB.out | apply below_alloc | apply pw_below_drewN | apply below_drew1) | exact HB.out)⟩
  · rw [if_neg c2] at H
    have c2b0 : decide (600 < (a0.size : Int)) = false := decide_eq_false c2
    have c2b1 : decide (600 < a0.size) = false := decide_eq_false (by omega)
    clear c2
    replace H := Option.bind_eq_some_iff.mp H
    obtain ⟨⟨t397, t398⟩, A50, H⟩ := H
    replace H : ((unicodetextref42_Parse.f k a0).bind fun bt401 => ((unicodetextref42_SameElements.f k t397 bt401.1).bind fun t405 => (if t405 = true then (if t398 = bt401.2 then ((unicodetextlaw42_alive.f k).bind fun t406 => (some t406)) else (none)) else (none)))) = some r := H
    have A5 := Aside0.mk A50
    clear A50
    replace H := Option.bind_eq_some_iff.mp H
    obtain ⟨⟨t401, t402⟩, A60, H⟩ := H
    replace H : ((unicodetextref42_SameElements.f k t397 t401).bind fun t405 => (if t405 = true then (if t398 = t402 then ((unicodetextlaw42_alive.f k).bind fun t406 => (some t406)) else (none)) else (none))) = some r := H
    have A6 := Aside0.mk A60
    clear A60
    replace H := Option.bind_eq_some_iff.mp H
    obtain ⟨t405, A70, H⟩ := H
    replace H : (if t405 = true then (if t398 = t402 then ((unicodetextlaw42_alive.f k).bind fun t406 => (some t406)) else (none)) else (none)) = some r := H
    have A7 := Aside0.mk A70
    clear A70
    by_cases c8 : t405 = true
    · subst c8
      have H1 : (if t398 = t402 then ((unicodetextlaw42_alive.f k).bind fun t406 => (some t406)) else (none)) = some r := by rw [if_pos rfl] at H; exact H
      clear H
      have H := H1
      clear H1
      by_cases c9 : t398 = t402
      · rw [if_pos c9] at H
        have c9b0 : (t398 == t402) = true := beq_iff_eq.mpr c9
        have c9b1 : (t398 != t402) = false := bne_eq_false_iff_eq.mpr c9
        clear c9
        replace H := Option.bind_eq_some_iff.mp H
        obtain ⟨t406, A100, H⟩ := H
        replace H : (some t406) = some r := H
        have A10 := Aside0.mk A100
        clear A100
        obtain rfl := Option.some.inj H
        go_enter Tryz.func3, Tryz.ntmps3
        go_wp2_with (first | ((with_reducible refine gate_callee (f := 8) rfl ?_); refine goesL_ (some 13) rfl rfl Tryz.func8 (by kernel_rfl) rfl #[.string a0] rfl (by (try simp only [List.map_toArray, List.map_cons, List.map_nil]); first | done | rfl | (simp only [List.length_drop, List.length_take]; rfl)) ?_; (with_reducible refine (element_Parse.calls k a0 t397 t398 _ A5.out ?sideG).mono ?_); (case sideG => exact GW.below HG.out (by repeat (first | (with_reducible first | exact HB.out | apply below_alloc | apply pw_below_drewN | apply below_drew1) | exact HB.out))); rintro e w11 ⟨v399, rfl, ho0, hb⟩; refine ⟨_, rfl, ?_⟩; have n0_ := Aside0.mk (Kd.R_lower ho0 (below_size (by repeat (first | (with_reducible first | exact HB.out | apply below_alloc | apply pw_below_drewN | apply below_drew1) | exact HB.out)))); have n1_ := Aside0.mk (below_step (by repeat (first | (with_reducible first | exact HB.out | apply below_alloc | apply pw_below_drewN | apply below_drew1) | exact HB.out)) hb); clear HB; have HO400 := n0_; have HB := n1_; clear n0_ n1_; (try clear hb); (try clear hb2); (try clear hk); (try clear hi); (try clear ho0)) | ((with_reducible refine gate_callee (f := 9) rfl ?_); refine goesL_ (some 18) rfl rfl Tryz.func9 (by kernel_rfl) rfl #[.string a0] rfl (by (try simp only [List.map_toArray, List.map_cons, List.map_nil]); first | done | rfl | (simp only [List.length_drop, List.length_take]; rfl)) ?_; (with_reducible refine (unicodetextref42_Parse.calls k a0 t401 t402 _ A6.out).mono ?_); rintro e w12 ⟨v403, rfl, ho0, hb⟩; refine ⟨_, rfl, ?_⟩; have n0_ := Aside0.mk (Kd.R_elder' (by (with_reducible repeat (first | apply Kd.R_alloc | apply Kd.R_drewN | apply Kd.R_drew)); exact HO400.out) (Kd.R_base ho0) hb); have n1_ := Aside0.mk (Kd.R_lower (Kd.R_new' ho0 (Kd.R_lt (by (with_reducible repeat (first | apply Kd.R_alloc | apply Kd.R_drewN | apply Kd.R_drew)); exact HO400.out))) (below_size (by repeat (first | (with_reducible first | exact HB.out | apply below_alloc | apply pw_below_drewN | apply below_drew1) | exact HB.out)))); have n2_ := Aside0.mk (below_step (by repeat (first | (with_reducible first | exact HB.out | apply below_alloc | apply pw_below_drewN | apply below_drew1) | exact HB.out)) hb); clear HO400; clear HB; have HO400 := n0_; have HO404 := n1_; have HB := n2_; clear n0_ n1_ n2_; (try clear hb); (try clear hb2); (try clear hk); (try clear hi); (try clear ho0); obtain ⟨Ao13, co13, eo13⟩ := Kd.R_slice HO400.out; subst eo13; obtain ⟨Ao14, co14, eo14⟩ := Kd.R_slice HO404.out; subst eo14) | ((with_reducible refine gate_callee (f := 10) rfl ?_); refine goesL_ (some 23) rfl rfl Tryz.func10 (by kernel_rfl) rfl #[.slice Ao13 t397.length co13, .slice Ao14 t401.length co14] rfl (by (try simp only [List.map_toArray, List.map_cons, List.map_nil]); first | done | rfl | (simp only [List.length_drop, List.length_take]; rfl)) ?_; (with_reducible refine (unicodetextref42_SameElements.calls k _ _ t397 _ _ t401 true _ ?side1 ?side2 ?side3 ?side4 A7.out).mono ?_); (case side1 => repeat (first | exact (Kd.R_reads' HO400.out).2.2 | (with_reducible refine Kd.C_alloc ?_ _) | (with_reducible refine Kd.C_drewN ?_ _) | (with_reducible refine Kd.C_drew ?_))); (case side2 => exact (Kd.R_reads' HO400.out).2.1); (case side3 => repeat (first | exact (Kd.R_reads' HO404.out).2.2 | (with_reducible refine Kd.C_alloc ?_ _) | (with_reducible refine Kd.C_drewN ?_ _) | (with_reducible refine Kd.C_drew ?_))); (case side4 => exact (Kd.R_reads' HO404.out).2.1); rintro e w' ⟨rfl, ⟨nd, rfl⟩⟩; refine ⟨_, rfl, ?_⟩) | (go_at_call 7; (with_reducible refine (unicodetextlaw42_alive.calls k  t406 _ A10.out ?sideG).mono ?_); (case sideG => exact GW.below HG.out (by repeat (first | (with_reducible first | exact HB.out | apply below_alloc | apply pw_below_drewN | apply below_drew1) | exact HB.out))); rintro e w15 ⟨rfl, hb⟩; have n0_ := Aside0.mk (Kd.R_below (by (with_reducible repeat (first | apply Kd.R_alloc | apply Kd.R_drewN | apply Kd.R_drew)); exact HO400.out) hb); have n1_ := Aside0.mk (Kd.R_below (by (with_reducible repeat (first | apply Kd.R_alloc | apply Kd.R_drewN | apply Kd.R_drew)); exact HO404.out) hb); have n2_ := Aside0.mk (below_step (by repeat (first | (with_reducible first | exact HB.out | apply below_alloc | apply pw_below_drewN | apply below_drew1) | exact HB.out)) hb); clear HO400; clear HO404; clear HB; have HO400 := n0_; have HO404 := n1_; have HB := n2_; clear n0_ n1_ n2_; (try clear hb); (try clear hb2); (try clear hk); (try clear hi)))
        go_ret
        exact ⟨by first | rfl | (simp [errW_none, errW_some] <;> rfl) | (simp [*, errW_none, errW_some] <;> rfl), by repeat (first | (with_reducible first | exact HB.out | apply below_alloc | apply pw_below_drewN | apply below_drew1) | exact HB.out)⟩
      · rw [if_neg c9] at H
        exact absurd H (by simp)
    · replace c8 := Bool.eq_false_iff.mpr c8
      subst c8
      have H1 : (none) = some r := by rw [if_neg (show ¬ (false = true) by decide)] at H; exact H
      clear H
      have H := H1
      clear H1
      exact absurd H (by simp)
def unicodetextlaw42_ElementParses.Pure : Prop := ∀ (a0 : ByteArray), a0.size ≤ 140737488351232 → ∃ k, unicodetextlaw42_ElementParses.f k a0 = some true
theorem unicodetextlaw42_ElementParses.walk (P : unicodetextlaw42_ElementParses.Pure) (a0 : ByteArray) (w : World) (w0 : a0.size ≤ 140737488351232) (hG : GW w) :
    Calls Tryz.prog 3 #[.string a0] w fun e w' => e = .returned (.bool true) ∧ Below w.heap.size w w' := by
  obtain ⟨k, h⟩ := P a0 w0
  refine (unicodetextlaw42_ElementParses.calls k a0 true w h hG).mono ?_
  rintro e w' ⟨rfl, hd⟩
  exact ⟨rfl, hd⟩
end Go.Proofs.YtdaijpjjilmkkaaGreatDoor.Pr

/- Plain laws of collations: what ParseFile has read can be written, and is read again; lines out of order; sizes. -/
namespace Go.Proofs.YtdaijpjjilmkkaaGreatDoor.Pr
open Go.RowKit Go.Proofs.YtdaijpjjilmkkaaGreatDoorW.PrintWords Go.Proofs.YtdaijpjjilmkkaaGreatDoorW.PrintLast Go.Proofs.YtdaijpjjilmkkaaGreatDoorW.PrintMore
set_option linter.unusedVariables false
set_option linter.unusedSimpArgs false
structure okR (st : Rd) (N : Nat) : Prop where
  g : ∀ g ∈ st.gs, okG g
  x : ∀ x ∈ st.es, okX x
  f : st.bg = false → st.es = [] ∧ st.gs = []
  b : st.bg = true → in64 st.b1 ∧ in64 st.b2 ∧ in64 st.b3 ∧ (fileT st.es st.gs st.b1 st.b2 st.b3).length ≤ N
  l : st.ls.length = st.es.length
  m : ∀ n ∈ st.ls, 1 ≤ n
def w1 : List UInt8 := [64, 98, 97, 115, 101, 32, 49, 32, 50, 32, 51]
def w2 : List UInt8 := [48, 48, 54, 49, 59, 32]
def w3 : List UInt8 := [64, 103, 114, 111, 117, 112, 32, 120, 32, 49, 32, 50]
def x2 : S49 := ⟨[97], []⟩
end Go.Proofs.YtdaijpjjilmkkaaGreatDoor.Pr

-- Written by wip/drive.py of this claim's session, out of the translation. Not trusted: Lean checks it.
namespace Go.Proofs.YtdaijpjjilmkkaaGreatDoor.Pr
open Go.RowKit Go.Proofs.YtdaijpjjilmkkaaGreatDoorW.PrintWords Go.Proofs.YtdaijpjjilmkkaaGreatDoorW.PrintLast Go.Proofs.YtdaijpjjilmkkaaGreatDoorW.PrintMore
attribute [local go_sem] max2_int min2_int max_two min_two max_three min_three max_four min_four   -- for this text's walks alone
set_option linter.unusedVariables false
set_option linter.unusedSimpArgs false
theorem eqA46 (d : Nat) (w : World) (x0 y0 : ByteArray) (x1 y1 : Int) (x2 y2 : Int) :
    (Op.equalIn (d + 2) 46 (.agg #[.string x0, .int .i64 x1, .int .i64 x2]) (.agg #[.string y0, .int .i64 y1, .int .i64 y2])).run Tryz.prog w = .ok (x0.toList == y0.toList && (x1 == y1 && (x2 == y2))) w := by
  refine eqA_of Tryz.underlying46 (by kernel_rfl) ?_
  refine eqf_cons (by rfl) (by go_simp; rfl) (by go_simp; rfl) (by go_simp) ?_
  refine eqf_cons (by rfl) (by go_simp; rfl) (by go_simp; rfl) (by go_simp) ?_
  exact eqf_last (by rfl) (by go_simp; rfl) (by go_simp; rfl) (by go_simp)
end Go.Proofs.YtdaijpjjilmkkaaGreatDoor.Pr

-- Written by wip/drive.py of this claim's session, out of the translation. Not trusted: Lean checks it.
namespace Go.Proofs.YtdaijpjjilmkkaaGreatDoor.Pr
open Go.RowKit Go.Proofs.YtdaijpjjilmkkaaGreatDoorW.PrintWords Go.Proofs.YtdaijpjjilmkkaaGreatDoorW.PrintLast Go.Proofs.YtdaijpjjilmkkaaGreatDoorW.PrintMore
attribute [local go_sem] max2_int min2_int max_two min_two max_three min_three max_four min_four   -- for this text's walks alone
set_option linter.unusedVariables false
set_option linter.unusedSimpArgs false
attribute [local go_sem high] eqA46
end Go.Proofs.YtdaijpjjilmkkaaGreatDoor.Pr

-- Written by wip/drive.py of this claim's session, out of the translation. Not trusted: Lean checks it.
namespace Go.Proofs.YtdaijpjjilmkkaaGreatDoor.Pr
open Go.RowKit Go.Proofs.YtdaijpjjilmkkaaGreatDoorW.PrintWords Go.Proofs.YtdaijpjjilmkkaaGreatDoorW.PrintLast Go.Proofs.YtdaijpjjilmkkaaGreatDoorW.PrintMore
attribute [local go_sem] max2_int min2_int max_two min_two max_three min_three max_four min_four   -- for this text's walks alone
set_option linter.unusedVariables false
set_option linter.unusedSimpArgs false
end Go.Proofs.YtdaijpjjilmkkaaGreatDoor.Pr

/- Plain laws: what the reference's functions Check, SameElements, Same and Few answer. -/
namespace Go.Proofs.YtdaijpjjilmkkaaGreatDoor.Pr
open Go.RowKit Go.Proofs.YtdaijpjjilmkkaaGreatDoorW.PrintWords Go.Proofs.YtdaijpjjilmkkaaGreatDoorW.PrintLast Go.Proofs.YtdaijpjjilmkkaaGreatDoorW.PrintMore
set_option linter.unusedVariables false
set_option linter.unusedSimpArgs false
theorem Ev.pos {α : Type} {c : Prop} [Decidable c] {f g : Nat → Option α} {r : α} (hc : c) (h : Ev f r) : Ev (fun k => if c then f k else g k) r := Ev.congr (fun k => if_pos hc) h
theorem Ev.neg {α : Type} {c : Prop} [Decidable c] {f g : Nat → Option α} {r : α} (hc : ¬ c) (h : Ev g r) : Ev (fun k => if c then f k else g k) r := Ev.congr (fun k => if_neg hc) h
theorem Ev.got {α β : Type} {o : Option β} {b : β} {g : Nat → β → Option α} {r : α} (h : o = some b) (h2 : Ev (fun k => g k b) r) : Ev (fun k => o.bind (g k)) r := by
  subst h
  exact h2
theorem Ev.succ {α : Type} {F : Nat → Option α} {r : α} (h : Ev (fun k => F (k + 1)) r) : Ev F r := by
  obtain ⟨K, h⟩ := h
  refine ⟨K + 1, fun k hk => ?_⟩
  obtain ⟨m, rfl⟩ : ∃ m, k = m + 1 := ⟨k - 1, by omega⟩
  exact h m (by omega)
theorem weight_f (a : Int) : unicodetextref42_weight.f a = some (decide (0 ≤ a ∧ a ≤ 65535)) := by
  unfold unicodetextref42_weight.f
  by_cases h : a ≥ 0
  · rw [if_pos h]
    congr 1
    exact decide_eq_decide.2 ⟨fun e => ⟨h, e⟩, fun e => e.2⟩
  · rw [if_neg h]
    congr 1
    symm
    exact decide_eq_false (fun e => h e.1)
theorem checkR_ev (x : S44) : Ev (fun k => unicodetextref42_Check.f k x.f0 x.f1 x.f2 x.f3) (checkE x) := by
  obtain ⟨a, b, c, d⟩ := x
  refine Ev.of (fun k => unicodetextref42_Check.mono _ _ _ _ k) (k := 1) ?_
  dsimp only
  unfold unicodetextref42_Check.f checkE
  rw [weight_f, weight_f, weight_f]
  simp only [Option.bind_some, decide_eq_true_eq]
  by_cases ha : 0 ≤ a ∧ a ≤ 65535
  · rw [if_pos ha]
    by_cases hb : 0 ≤ b ∧ b ≤ 65535
    · rw [if_pos hb]
      by_cases hc : 0 ≤ c ∧ c ≤ 65535
      · rw [if_pos ⟨ha, hb, hc⟩, decide_eq_true hc]
        simp only [unicodetextref42_Check.j0, Bool.not_true]
        rw [if_neg (by decide)]
        by_cases a0 : a = 0 <;> by_cases b0 : b = 0 <;> by_cases c0 : c = 0 <;> cases d <;> simp [a0, b0, c0]
      · rw [if_neg (fun h => hc h.2.2), decide_eq_false hc]
        rfl
    · rw [if_neg hb, if_neg (fun h => hb h.2.1)]
      rfl
  · rw [if_neg ha, if_neg (fun h => ha h.1)]
    rfl
theorem sameE_loop (l : List S44) (hl : l.length ≤ 1000000) (d : Nat) : ∀ i : Nat, i + d = l.length → Ev (fun k => unicodetextref42_SameElements.l0 k l l (i : Int)) true := by
  induction d with
  | zero =>
    intro i hi
    refine ⟨1, fun k hk => ?_⟩
    (try dsimp only)
    obtain ⟨k, rfl⟩ : ∃ m, k = m + 1 := ⟨k - 1, by omega⟩
    simp only [unicodetextref42_SameElements.l0]
    rw [if_neg (by omega)]
  | succ d ih =>
    intro i hi
    refine Ev.step (f := fun k => unicodetextref42_SameElements.l0 k l l ((i + 1 : Nat) : Int)) (fun k => ?_) (ih (i + 1) (by omega))
    simp only [unicodetextref42_SameElements.l0]
    rw [if_pos (by omega), if_pos (by omega), if_pos (by omega), if_neg (by simp), wrap_succ i (by omega)]
theorem sameE_ev (l : List S44) (hl : l.length ≤ 1000000) : Ev (fun k => unicodetextref42_SameElements.f k l l) true := by
  have := sameE_loop l hl l.length 0 (by omega)
  exact Ev.pos rfl this
section
variable (es : List S49) (gs : List S46) (a b c : Int)
end
end Go.Proofs.YtdaijpjjilmkkaaGreatDoor.Pr

/- The example of the chapter (alive). -/
namespace Go.Proofs.YtdaijpjjilmkkaaGreatDoor.Pr
open Go.RowKit Go.Proofs.YtdaijpjjilmkkaaGreatDoorW.PrintWords Go.Proofs.YtdaijpjjilmkkaaGreatDoorW.PrintLast Go.Proofs.YtdaijpjjilmkkaaGreatDoorW.PrintMore
set_option linter.unusedVariables false
set_option linter.unusedSimpArgs false
theorem ofL_of (s : ByteArray) : ∃ l, s = ofL l ∧ s.size = l.length := ⟨s.data.toList, (ofL_eq s).symm, by simp⟩
theorem pfile_f (l : List UInt8) (h : l.length ≤ 9223372036854775807) : element_ParseFile.f (ofL l) = some (parseF l) := by
  unfold element_ParseFile.f
  rw [if_pos (by rw [ofL_size]; exact h), ofL_list]
theorem ftext_f (l0 : List S49) (l1 : List S46) (a b c : Int) (h : smallF l0 l1 a b c = true) : element_FileText.f l0 l1 a b c = some (if errF l0 l1 a b c = 0 then (ofL (fileT l0 l1 a b c), 0) else (ofL [], errF l0 l1 a b c)) := by
  unfold element_FileText.f
  rw [if_pos h]
def exE : S44 := ⟨16, 32, 2, false⟩
def exG : S46 := ⟨ofL [108, 97, 116, 105, 110], 16, 31⟩
theorem alive_ev : Ev (fun k => unicodetextlaw42_alive.f k) true := by
  have e0 : errE [exE] = 0 := by decide
  have e1 : [exE].flatMap elT = [91, 46, 48, 48, 49, 48, 46, 48, 48, 50, 48, 46, 48, 48, 48, 50, 93] := by kernel_rfl
  have h1 := text_ev [exE] (by decide)
  rw [if_pos e0, e1] at h1
  have p1 : parseF [64, 98, 97, 115, 101, 32, 49, 32, 50, 32, 51, 10, 64, 103, 114, 111, 117, 112, 32, 108, 97, 116, 105, 110, 32, 49, 54, 32, 51, 49, 32, 35, 32, 108, 101, 116, 116, 101, 114, 115, 10, 48, 48, 54, 49, 59, 32, 91, 46, 48, 48, 49, 48, 46, 48, 48, 50, 48, 46, 48, 48, 48, 50, 93, 10] = ([⟨[97], [exE]⟩], [exG], 1, 2, 3, 0, 0) := by kernel_rfl
  have p2 : parseF [64, 98, 97, 115, 101, 32, 49, 32, 50, 32, 51, 10, 48, 48, 54, 49, 59, 10] = bad 3 2 := by kernel_rfl
  have f1 : element_FileText.f [] [exG] 1 2 3 = some (ofL [64, 98, 97, 115, 101, 32, 49, 32, 50, 32, 51, 10, 64, 103, 114, 111, 117, 112, 32, 108, 97, 116, 105, 110, 32, 49, 54, 32, 51, 49, 10], 0) := by
    rw [ftext_f _ _ _ _ _ (by decide), if_pos (by decide)]
    have e : fileT [] [exG] 1 2 3 = [64, 98, 97, 115, 101, 32, 49, 32, 50, 32, 51, 10, 64, 103, 114, 111, 117, 112, 32, 108, 97, 116, 105, 110, 32, 49, 54, 32, 51, 49, 10] := by kernel_rfl
    rw [e]
  have hs := sameE_ev [exE] (by decide)
  refine Ev.bind h1 ?_
  refine Ev.got ((pfile_f _ (by decide)).trans (congrArg some p1)) ?_
  refine Ev.got ((pfile_f _ (by decide)).trans (congrArg some p2)) ?_
  refine Ev.got f1 ?_
  refine Ev.pos (ofL_toList _) (Ev.pos rfl (Ev.pos rfl (Ev.pos rfl (Ev.pos (by decide) ?_))))
  refine Ev.bind hs (Ev.pos rfl (Ev.pos rfl (Ev.pos rfl (Ev.pos (ofL_toList _) (Ev.now true)))))
theorem alive_tail : Ev (fun k => (unicodetextlaw42_alive.f k).bind fun t => some t) true := Ev.bind alive_ev (Ev.now true)
end Go.Proofs.YtdaijpjjilmkkaaGreatDoor.Pr

-- Written by wip/drive.py of this claim's session, out of the translation. Not trusted: Lean checks it.
namespace Go.Proofs.YtdaijpjjilmkkaaGreatDoor.Pr
open Go.RowKit Go.Proofs.YtdaijpjjilmkkaaGreatDoorW.PrintWords Go.Proofs.YtdaijpjjilmkkaaGreatDoorW.PrintLast Go.Proofs.YtdaijpjjilmkkaaGreatDoorW.PrintMore
attribute [local go_sem] max2_int min2_int max_two min_two max_three min_three max_four min_four   -- for this text's walks alone
set_option linter.unusedVariables false
set_option linter.unusedSimpArgs false
end Go.Proofs.YtdaijpjjilmkkaaGreatDoor.Pr

/- Plain laws: the reference's elements: their text, its reading, as the program's. -/
namespace Go.Proofs.YtdaijpjjilmkkaaGreatDoor.Pr
open Go.RowKit Go.Proofs.YtdaijpjjilmkkaaGreatDoorW.PrintWords Go.Proofs.YtdaijpjjilmkkaaGreatDoorW.PrintLast Go.Proofs.YtdaijpjjilmkkaaGreatDoorW.PrintMore
set_option linter.unusedVariables false
set_option linter.unusedSimpArgs false
abbrev El := S44
theorem bt_dig (d : Nat) (h : d < 16) : bt (⟨#[48, 49, 50, 51, 52, 53, 54, 55, 56, 57, 65, 66, 67, 68, 69, 70]⟩ : ByteArray) (d : Int) = hexDig d := by
  match d, h with
  | 0, _ | 1, _ | 2, _ | 3, _ | 4, _ | 5, _ | 6, _ | 7, _ | 8, _ | 9, _ | 10, _ | 11, _ | 12, _ | 13, _ | 14, _ | 15, _ => rfl
  | n + 16, h => omega
theorem hexL_four (n : Nat) (h : n ≤ 65535) : hexL n = [UInt8.ofNat (hexDig (n / 4096 % 16)).toNat, UInt8.ofNat (hexDig (n / 256 % 16)).toNat, UInt8.ofNat (hexDig (n / 16 % 16)).toNat, UInt8.ofNat (hexDig (n % 16)).toNat] := by
  have hL : hexLen n = 4 := by unfold hexLen; rw [if_pos (by omega)]
  apply List.ext_getElem?
  intro j
  by_cases hj : j < 4
  · rw [hexL_at n j (by omega), hL]
    match j, hj with
    | 0, _ | 1, _ | 2, _ | 3, _ => simp
    | n + 4, h => omega
  · rw [List.getElem?_eq_none (by rw [hexL_length, hL]; omega), List.getElem?_eq_none (by simp; omega)]
theorem dig_at (n m : Nat) (hn : n ≤ 65535) (hm : 0 < m) : Int.tmod (wrap64 (Int.tdiv (n : Int) (m : Int))) 16 = ((n / m % 16 : Nat) : Int) := by
  have h1 : Int.tdiv (n : Int) (m : Int) = ((n / m : Nat) : Int) := by rw [Int.tdiv_eq_ediv_of_nonneg (by omega)]; rfl
  have h2 : n / m ≤ 65535 := Nat.le_trans (Nat.div_le_self _ _) hn
  obtain ⟨q, hq⟩ : ∃ q, n / m = q := ⟨_, rfl⟩
  rw [hq] at h1 h2 ⊢
  rw [h1, wrap_id (by omega) (by omega), Int.tmod_eq_emod_of_nonneg (by omega)]
  rfl
theorem four_f (c : Int) (h : 0 ≤ c ∧ c ≤ 65535) : unicodetextref42_four.f c = some (ofL (hexT c)) := by
  obtain ⟨n, rfl⟩ := Int.eq_ofNat_of_zero_le h.1
  have hn : n ≤ 65535 := by omega
  have t1 := dig_at n 4096 hn (by decide)
  have t2 := dig_at n 256 hn (by decide)
  have t3 := dig_at n 16 hn (by decide)
  have t4 : Int.tmod (n : Int) 16 = ((n % 16 : Nat) : Int) := by rw [Int.tmod_eq_emod_of_nonneg (by omega)]; rfl
  have l1 : n / 4096 % 16 < 16 := Nat.mod_lt _ (by decide)
  have l2 : n / 256 % 16 < 16 := Nat.mod_lt _ (by decide)
  have l3 : n / 16 % 16 < 16 := Nat.mod_lt _ (by decide)
  have l4 : n % 16 < 16 := Nat.mod_lt _ (by decide)
  unfold unicodetextref42_four.f
  rw [show ((4096 : Nat) : Int) = 4096 from rfl] at t1
  rw [show ((256 : Nat) : Int) = 256 from rfl] at t2
  rw [show ((16 : Nat) : Int) = 16 from rfl] at t3
  rw [t1, t2, t3, t4, if_pos (by omega), if_pos (by omega), if_pos (by omega), if_pos (by omega), if_pos (by omega), if_pos (by omega), if_pos (by omega), if_pos (by omega), bt_dig _ l1, bt_dig _ l2, bt_dig _ l3, bt_dig _ l4, strOfNums_ofL, hexT_nat n (by omega), hexL_four n hn]
  rfl
theorem one_t (x : El) (h : okW x) : unicodetextref42_one.f x.f0 x.f1 x.f2 x.f3 = some (ofL (elT x)) := by
  have l0 := hexT_len4 _ h.1
  have l1 := hexT_len4 _ h.2.1
  have l2 := hexT_len4 _ h.2.2
  have e91 : (⟨#[91]⟩ : ByteArray) = ofL [91] := rfl
  have e42 : (⟨#[42]⟩ : ByteArray) = ofL [42] := rfl
  have e46 : (⟨#[46]⟩ : ByteArray) = ofL [46] := rfl
  have e93 : (⟨#[93]⟩ : ByteArray) = ofL [93] := rfl
  unfold unicodetextref42_one.f
  rw [four_f _ h.1, four_f _ h.2.1, four_f _ h.2.2, e91, e42, e46, e93]
  simp only [Option.bind_some, ofL_append, ofL_size, List.length_append, List.length_cons, List.length_nil, l0, l1, l2]
  cases hb : x.f3 with
  | true =>
    rw [if_pos rfl, if_pos (by decide), if_pos (by decide), if_pos (by decide), if_pos (by decide), if_pos (by decide), if_pos (by decide), if_pos (by decide)]
    unfold elT
    rw [hb, if_pos rfl]
    simp
  | false =>
    rw [if_neg (by decide), if_pos (by decide), if_pos (by decide), if_pos (by decide), if_pos (by decide), if_pos (by decide), if_pos (by decide), if_pos (by decide)]
    unfold elT
    rw [hb, if_neg (by decide)]
    simp
def hexV : List UInt8 → Int → Int
  | [], n => n
  | b :: t, n => hexV t (if 0 ≤ hv b.toNat then 16 * n + hv b.toNat else n)
theorem hexV_bd : ∀ (l : List UInt8) (n m : Int), 0 ≤ n → n + 1 ≤ m → 0 ≤ hexV l n ∧ hexV l n + 1 ≤ m * 16 ^ l.length
  | [], n, m, h0, h1 => by simp only [hexV, List.length_nil]; omega
  | b :: t, n, m, h0, h1 => by
    have hb := hv_bd b.toNat
    have := hexV_bd t (if 0 ≤ hv b.toNat then 16 * n + hv b.toNat else n) (m * 16) (by split <;> omega) (by split <;> omega)
    rw [hexV, List.length_cons, Int.pow_succ, Int.mul_comm (16 ^ t.length) 16, ← Int.mul_assoc]
    exact this
theorem hexV_4 (l : List UInt8) (h : l.length = 4) : 0 ≤ hexV l 0 ∧ hexV l 0 ≤ 65535 := by
  have := hexV_bd l 0 1 (by decide) (by decide)
  rw [h, show (1 : Int) * 16 ^ 4 = 65536 by decide] at this
  omega
theorem hexV_val : ∀ (l : List UInt8) (n v : Int), valL l n = some v → hexV l n = v
  | [], n, v, h => by rw [valL] at h; cases h; rfl
  | b :: t, n, v, h => by
    rw [valL] at h
    by_cases hb : hv b.toNat < 0
    · rw [if_pos hb] at h; cases h
    · rw [if_neg hb] at h
      rw [hexV, if_pos (by omega)]
      exact hexV_val t _ v h
theorem hexV_T (c : Int) (h : 0 ≤ c ∧ c ≤ 65535) : hexV (hexT c) 0 = c := by
  obtain ⟨n, rfl⟩ := Int.eq_ofNat_of_zero_le h.1
  have hn : n ≤ 1114111 := by omega
  have hv := hexL_val_at n (hexLen n) 0 (by omega)
  rw [hexLen_stop n hn, List.drop_zero] at hv
  rw [hexT_nat n hn]
  exact hexV_val _ _ _ hv
theorem dig_hv : ∀ (b : UInt8) (j : Nat), j < 16 → (hexDig j = (b.toNat : Int) ↔ hv b.toNat = (j : Int)) := by
  intro b j hj
  have hb := b.toNat_lt
  match j, hj with
  | 0, _ | 1, _ | 2, _ | 3, _ | 4, _ | 5, _ | 6, _ | 7, _ | 8, _ | 9, _ | 10, _ | 11, _ | 12, _ | 13, _ | 14, _ | 15, _ =>
    unfold hv
    first
      | (rw [show hexDig 0 = 48 from rfl]; (repeat' split) <;> omega)
      | (rw [show hexDig 1 = 49 from rfl]; (repeat' split) <;> omega)
      | (rw [show hexDig 2 = 50 from rfl]; (repeat' split) <;> omega)
      | (rw [show hexDig 3 = 51 from rfl]; (repeat' split) <;> omega)
      | (rw [show hexDig 4 = 52 from rfl]; (repeat' split) <;> omega)
      | (rw [show hexDig 5 = 53 from rfl]; (repeat' split) <;> omega)
      | (rw [show hexDig 6 = 54 from rfl]; (repeat' split) <;> omega)
      | (rw [show hexDig 7 = 55 from rfl]; (repeat' split) <;> omega)
      | (rw [show hexDig 8 = 56 from rfl]; (repeat' split) <;> omega)
      | (rw [show hexDig 9 = 57 from rfl]; (repeat' split) <;> omega)
      | (rw [show hexDig 10 = 65 from rfl]; (repeat' split) <;> omega)
      | (rw [show hexDig 11 = 66 from rfl]; (repeat' split) <;> omega)
      | (rw [show hexDig 12 = 67 from rfl]; (repeat' split) <;> omega)
      | (rw [show hexDig 13 = 68 from rfl]; (repeat' split) <;> omega)
      | (rw [show hexDig 14 = 69 from rfl]; (repeat' split) <;> omega)
      | (rw [show hexDig 15 = 70 from rfl]; (repeat' split) <;> omega)
  | n + 16, h => omega
theorem hex_rest (l : List UInt8) (i : Nat) (hi : i < l.length) (hl : l.length ≤ 100) (n r : Int) (h : Ev (fun k => unicodetextref42_hex.l0 k (ofL l) n ((i + 1 : Nat) : Int)) r) (d : Nat) : ∀ j : Nat, j + d = 16 → hv (l[i]).toNat < (j : Int) →
    Ev (fun k => unicodetextref42_hex.l1 k (ofL l) n (i : Int) (j : Int)) r := by
  induction d with
  | zero =>
    intro j hj hb
    refine Ev.step (f := fun k => unicodetextref42_hex.l0 k (ofL l) n ((i + 1 : Nat) : Int)) (fun k => ?_) h
    simp only [unicodetextref42_hex.l1]
    rw [if_neg (by omega), wrap_succ i (by omega)]
  | succ d ih =>
    intro j hj hb
    refine Ev.step (f := fun k => unicodetextref42_hex.l1 k (ofL l) n (i : Int) ((j + 1 : Nat) : Int)) (fun k => ?_) (ih (j + 1) (by omega) (by omega))
    simp only [unicodetextref42_hex.l1]
    rw [if_pos (by omega), if_pos (by omega), if_pos (by omega), if_pos (by rw [ofL_size]; omega), bt_dig j (by omega), bt_ofL l i hi, if_neg (fun e => by have := (dig_hv _ j (by omega)).1 e; omega), wrap_succ j (by omega)]
theorem hex_l1 (l : List UInt8) (i : Nat) (hi : i < l.length) (hl : l.length ≤ 100) (n r : Int) (h0 : 0 ≤ n) (h1 : n ≤ 1000000)
    (h : Ev (fun k => unicodetextref42_hex.l0 k (ofL l) (if 0 ≤ hv (l[i]).toNat then 16 * n + hv (l[i]).toNat else n) ((i + 1 : Nat) : Int)) r) (d : Nat) : ∀ j : Nat, j + d = 16 → (0 ≤ hv (l[i]).toNat → (j : Int) ≤ hv (l[i]).toNat) →
    Ev (fun k => unicodetextref42_hex.l1 k (ofL l) n (i : Int) (j : Int)) r := by
  have hb := hv_bd (l[i]).toNat
  by_cases hneg : hv (l[i]).toNat < 0
  · rw [if_neg (by omega)] at h
    exact fun j hj _ => hex_rest l i hi hl n r h d j hj (by omega)
  · rw [if_pos (by omega)] at h
    induction d with
    | zero => intro j hj hx; exfalso; have := hx (by omega); omega
    | succ d ih =>
      intro j hj hx
      have hx1 := hx (by omega)
      by_cases he : hv (l[i]).toNat = (j : Int)
      · refine Ev.step (f := fun k => unicodetextref42_hex.l1 k (ofL l) (16 * n + hv (l[i]).toNat) (i : Int) ((j + 1 : Nat) : Int)) (fun k => ?_) (hex_rest l i hi hl _ r h d (j + 1) (by omega) (by omega))
        simp only [unicodetextref42_hex.l1]
        rw [if_pos (by omega), if_pos (by omega), if_pos (by omega), if_pos (by rw [ofL_size]; omega), bt_dig j (by omega), bt_ofL l i hi, if_pos ((dig_hv _ j (by omega)).2 he), wrap_succ j (by omega), he, wrap_id (x := 16 * n) (by omega) (by omega), wrap_id (by omega) (by omega)]
      · refine Ev.step (f := fun k => unicodetextref42_hex.l1 k (ofL l) n (i : Int) ((j + 1 : Nat) : Int)) (fun k => ?_) (ih (j + 1) (by omega) (by omega))
        simp only [unicodetextref42_hex.l1]
        rw [if_pos (by omega), if_pos (by omega), if_pos (by omega), if_pos (by rw [ofL_size]; omega), bt_dig j (by omega), bt_ofL l i hi, if_neg (fun e => he ((dig_hv _ j (by omega)).1 e)), wrap_succ j (by omega)]
theorem pow_le3 (i : Nat) (h : i ≤ 3) : (16 : Int) ^ i ≤ 4096 := by
  match i, h with
  | 0, _ | 1, _ | 2, _ | 3, _ => decide
  | n + 4, h => omega
theorem hex_l0 (l : List UInt8) (hl : l.length ≤ 4) (d : Nat) : ∀ (i : Nat) (n : Int), i + d = l.length → 0 ≤ n → n < 16 ^ i → Ev (fun k => unicodetextref42_hex.l0 k (ofL l) n (i : Int)) (hexV (l.drop i) n) := by
  induction d with
  | zero =>
    intro i n hi h0 h1
    refine ⟨1, fun k hk => ?_⟩
    (try dsimp only)
    obtain ⟨k, rfl⟩ : ∃ m, k = m + 1 := ⟨k - 1, by omega⟩
    simp only [unicodetextref42_hex.l0]
    rw [if_neg (by rw [ofL_size]; omega), List.drop_of_length_le (by omega)]
    rfl
  | succ d ih =>
    intro i n hi h0 h1
    have hlt : i < l.length := by omega
    have hp := pow_le3 i (by omega)
    have hb := hv_bd (l[i]).toNat
    have hps : (16 : Int) ^ (i + 1) = 16 ^ i * 16 := Int.pow_succ ..
    have hd : l.drop i = l[i] :: l.drop (i + 1) := List.drop_eq_getElem_cons hlt
    have h2 := ih (i + 1) (if 0 ≤ hv (l[i]).toNat then 16 * n + hv (l[i]).toNat else n) (by omega) (by split <;> omega) (by split <;> omega)
    rw [hd, hexV]
    refine Ev.step (f := fun k => unicodetextref42_hex.l1 k (ofL l) n (i : Int) 0) (fun k => ?_) (hex_l1 l i hlt (by omega) n _ h0 (by omega) h2 16 0 (by omega) (fun h => by omega))
    simp only [unicodetextref42_hex.l0]
    rw [if_pos (by rw [ofL_size]; omega)]
theorem hex_ev (l : List UInt8) (hl : l.length ≤ 4) : Ev (fun k => unicodetextref42_hex.f k (ofL l)) (hexV l 0) := by
  have := hex_l0 l hl l.length 0 0 (by omega) (by decide) (by decide)
  rw [List.drop_zero] at this
  exact this
def hexE (t : List UInt8) : El := ⟨hexV ((t.drop 2).take 4) 0, hexV ((t.drop 7).take 4) 0, hexV ((t.drop 12).take 4) 0, t.getD 1 0 == 42⟩
theorem hexE_ok (t : List UInt8) (h : t.length = 17) : okW (hexE t) := ⟨hexV_4 _ (by simp; omega), hexV_4 _ (by simp; omega), hexV_4 _ (by simp; omega)⟩
theorem formE_eq (t : List UInt8) (h : t.length = 17) : (if elT (hexE t) = t then some (hexE t) else none) = oneE t := by
  cases ho : oneE t with
  | none =>
    by_cases he : elT (hexE t) = t
    · have := oneE_of (hexE t) (hexE_ok t h)
      rw [he, ho] at this
      cases this
    · rw [if_neg he]
  | some x =>
    obtain ⟨e, ok⟩ := oneE_some h ho
    have l0 := hexT_len4 _ ok.1
    have l1 := hexT_len4 _ ok.2.1
    have l2 := hexT_len4 _ ok.2.2
    have hx : hexE t = x := by
      rw [← e]
      obtain ⟨a, b, c, m⟩ := x
      dsimp only at l0 l1 l2
      have ea : elT ⟨a, b, c, m⟩ = [91, if m = true then 42 else 46] ++ (hexT a ++ (46 :: (hexT b ++ (46 :: (hexT c ++ [93]))))) := rfl
      have d2 : ((elT ⟨a, b, c, m⟩).drop 2).take 4 = hexT a := by
        rw [ea, List.drop_left' (by rfl), List.take_left' l0]
      have d5 : ∀ u v : List UInt8, u.length = 4 → (u ++ 46 :: v).drop 5 = v := fun u v hu => by
        rw [show (5 : Nat) = 4 + 1 from rfl, ← List.drop_drop, List.drop_left' hu, List.drop_succ_cons, List.drop_zero]
      have d7 : ((elT ⟨a, b, c, m⟩).drop 7).take 4 = hexT b := by
        rw [ea, show (7 : Nat) = 2 + 5 from rfl, ← List.drop_drop, List.drop_left' (by rfl), d5 _ _ l0, List.take_left' l1]
      have d12 : ((elT ⟨a, b, c, m⟩).drop 12).take 4 = hexT c := by
        rw [ea, show (12 : Nat) = 2 + (5 + 5) from rfl, ← List.drop_drop, List.drop_left' (by rfl), ← List.drop_drop, d5 _ _ l0, d5 _ _ l1, List.take_left' l2]
      have d1 : ((elT ⟨a, b, c, m⟩).getD 1 0 == 42) = m := by
        rw [ea]
        cases m <;> rfl
      unfold hexE
      rw [d2, d7, d12, d1, hexV_T a ok.1, hexV_T b ok.2.1, hexV_T c ok.2.2]
    rw [hx, if_pos e]
theorem form_l0 (l : List UInt8) (hl : l.length ≤ 100000) : ∀ (n i : Nat) (acc : List El), i ≤ l.length → l.length - i ≤ n → acc.length ≤ i →
    Ev (fun k => unicodetextref42_form.l0 k (ofL l) acc (i : Int)) (match readN n (l.drop i) with | some r => (acc ++ r, true) | none => ([], false))
  | 0, i, acc, hi, hn, ha => by
    refine ⟨1, fun k hk => ?_⟩
    (try dsimp only)
    obtain ⟨k, rfl⟩ : ∃ m, k = m + 1 := ⟨k - 1, by omega⟩
    simp only [unicodetextref42_form.l0]
    rw [if_neg (by rw [ofL_size]; omega), List.drop_of_length_le (by omega)]
    simp [readN]
  | n + 1, i, acc, hi, hn, ha => by
    by_cases h0 : i = l.length
    · refine ⟨1, fun k hk => ?_⟩
      (try dsimp only)
      obtain ⟨k, rfl⟩ : ∃ m, k = m + 1 := ⟨k - 1, by omega⟩
      simp only [unicodetextref42_form.l0]
      rw [if_neg (by rw [ofL_size]; omega), List.drop_of_length_le (by omega)]
      simp [readN]
    · have hw : wrap64 ((i : Int) + 17) = ((i + 17 : Nat) : Int) := by unfold wrap64; omega
      have hne : l.drop i ≠ [] := fun e => by have := congrArg List.length e; simp at this; omega
      by_cases h17 : i + 17 ≤ l.length
      · obtain ⟨t, ht⟩ : ∃ t, (l.drop i).take 17 = t := ⟨_, rfl⟩
        have htl : t.length = 17 := by rw [← ht]; simp; omega
        have hx : (ofL l).extract i (i + 17) = ofL t := by rw [ofL_extract, show i + 17 - i = 17 by omega, ht]
        have e1 : (ofL t).extract 2 6 = ofL ((t.drop 2).take 4) := ofL_extract ..
        have e2 : (ofL t).extract 7 11 = ofL ((t.drop 7).take 4) := ofL_extract ..
        have e3 : (ofL t).extract 12 16 = ofL ((t.drop 12).take 4) := ofL_extract ..
        have hm : (bt (ofL t) 1 == 42) = (t.getD 1 0 == 42) := by
          have hb := bt_ofL t 1 (by omega)
          rw [show ((1 : Nat) : Int) = 1 from rfl] at hb
          rw [hb, List.getD_eq_getElem?_getD, List.getElem?_eq_getElem (by omega : 1 < t.length), Option.getD_some]
          by_cases e : t[1] = 42
          · rw [e]; rfl
          · rw [beq_eq_false_iff_ne.2 e, beq_eq_false_iff_ne.2 (fun e' => e (UInt8.toNat_inj.1 (by rw [show (42 : UInt8).toNat = 42 from rfl]; omega)))]
        have hone := one_t (hexE t) (hexE_ok t htl)
        have hrn : readN (n + 1) (l.drop i) = (oneE t).bind fun e => (readN n (l.drop (i + 17))).map fun r => e :: r := by
          rw [readN, if_neg hne, if_neg (by simp; omega), ht, List.drop_drop]
        have hfe := formE_eq t htl
        refine Ev.step (f := fun k => (unicodetextref42_hex.f k (ofL ((t.drop 2).take 4))).bind fun t120 => (unicodetextref42_hex.f k (ofL ((t.drop 7).take 4))).bind fun t121 => (unicodetextref42_hex.f k (ofL ((t.drop 12).take 4))).bind fun t122 => (unicodetextref42_one.f t120 t121 t122 (t.getD 1 0 == 42)).bind fun t124 =>
          if t124.toList = (ofL t).toList then unicodetextref42_form.l0 k (ofL l) (acc ++ [⟨t120, t121, t122, t.getD 1 0 == 42⟩]) ((i + 17 : Nat) : Int) else some ([], false)) (fun k => ?_) ?_
        · simp only [unicodetextref42_form.l0]
          rw [hw, if_pos (by rw [ofL_size]; omega), if_neg (by rw [ofL_size]; omega), if_pos (by omega), if_pos (by omega), if_pos (by rw [ofL_size]; omega), Int.toNat_natCast, Int.toNat_natCast, hx, e1, e2, e3, hm]
          have z : (ofL t).size = 17 := by rw [ofL_size]; exact htl
          rw [if_pos (by decide), if_pos (by rw [z]; decide)]
          congr 1
          funext t120
          rw [if_pos (by decide), if_pos (by rw [z]; decide)]
          congr 1
          funext t121
          rw [if_pos (by decide), if_pos (by rw [z]; decide)]
          congr 1
          funext t122
          rw [if_pos (by rw [z]; decide)]
          congr 1
          funext t124
          rw [if_pos (show acc.length < _ by omega)]
        · refine Ev.bind (hex_ev _ (by simp; omega)) (Ev.bind (hex_ev _ (by simp; omega)) (Ev.bind (hex_ev _ (by simp; omega)) (Ev.got hone ?_)))
          rw [hrn, ← hfe]
          by_cases he : elT (hexE t) = t
          · rw [if_pos he, he]
            refine Ev.pos rfl ?_
            have h2 := form_l0 l hl n (i + 17) (acc ++ [hexE t]) h17 (by omega) (by simp; omega)
            cases hr : readN n (l.drop (i + 17)) with
            | none => rw [hr] at h2; exact h2
            | some r => rw [hr] at h2; simp only [List.append_assoc, List.singleton_append] at h2; exact h2
          · rw [if_neg he]
            exact Ev.neg (fun e => he (by rw [ofL_toList, ofL_toList] at e; exact e)) (Ev.now _)
      · refine ⟨1, fun k hk => ?_⟩
        (try dsimp only)
        obtain ⟨k, rfl⟩ : ∃ m, k = m + 1 := ⟨k - 1, by omega⟩
        simp only [unicodetextref42_form.l0]
        rw [hw, if_pos (by rw [ofL_size]; omega), if_pos (by rw [ofL_size]; omega), readN, if_neg hne, if_pos (by simp; omega)]
theorem form_ev (l : List UInt8) (hl : l.length ≤ 100000) : Ev (fun k => unicodetextref42_form.f k (ofL l)) (readR l) := by
  have := form_l0 l hl l.length 0 [] (by omega) (by omega) (by simp)
  simp only [List.drop_zero, List.nil_append] at this
  exact this
theorem checks_loop (l : List El) (hl : l.length ≤ 2000000) (d : Nat) : ∀ i : Nat, i + d = l.length → Ev (fun k => unicodetextref42_checks.l0 k l (i : Int)) (errE (l.drop i)) := by
  induction d with
  | zero =>
    intro i hi
    refine ⟨1, fun k hk => ?_⟩
    (try dsimp only)
    obtain ⟨k, rfl⟩ : ∃ m, k = m + 1 := ⟨k - 1, by omega⟩
    simp only [unicodetextref42_checks.l0]
    rw [if_neg (by omega), List.drop_of_length_le (by omega)]
    rfl
  | succ d ih =>
    intro i hi
    have hlt : i < l.length := by omega
    have hd : l.drop i = l[i] :: l.drop (i + 1) := List.drop_eq_getElem_cons hlt
    refine Ev.step (f := fun k => (unicodetextref42_Check.f k l[i].f0 l[i].f1 l[i].f2 l[i].f3).bind fun t => (if t = 0 then unicodetextref42_checks.l0 k l ((i + 1 : Nat) : Int) else some t)) (fun k => ?_) ?_
    · simp only [unicodetextref42_checks.l0]
      rw [if_pos (by omega), if_pos (by omega), rdE_at l i hlt, wrap_succ i (by omega)]
    · refine Ev.bind (checkR_ev l[i]) ?_
      rw [hd, errE]
      by_cases h0 : checkE l[i] = 0
      · rw [if_pos h0]
        exact Ev.pos h0 (ih (i + 1) (by omega))
      · rw [if_neg h0]
        exact Ev.neg h0 (Ev.now _)
theorem checks_ev (l : List El) (hl : l.length ≤ 2000000) : Ev (fun k => unicodetextref42_checks.f k l) (errE l) := by
  have := checks_loop l hl l.length 0 (by omega)
  rw [List.drop_zero] at this
  exact this
theorem parseR_ev (l : List UInt8) (hl : l.length ≤ 100000) : Ev (fun k => unicodetextref42_Parse.f k (ofL l)) (parseE l) := by
  have h1 := form_ev l hl
  unfold readR at h1
  unfold parseE
  cases hr : readE l with
  | none =>
    rw [hr] at h1
    exact Ev.bind h1 (Ev.neg (by decide) (Ev.now _))
  | some r =>
    rw [hr] at h1
    have h2 := checks_ev r (by have := readE_len hr; omega)
    refine Ev.bind h1 (Ev.pos rfl (Ev.bind h2 ?_))
    dsimp only
    by_cases h0 : errE r = 0
    · rw [if_pos h0, if_pos h0]
      exact Ev.now _
    · rw [if_neg h0, if_neg h0]
      exact Ev.now _
end Go.Proofs.YtdaijpjjilmkkaaGreatDoor.Pr

/- ElementParses: the pure statement. -/
namespace Go.Proofs.YtdaijpjjilmkkaaGreatDoor.Pr
open Go.RowKit Go.Proofs.YtdaijpjjilmkkaaGreatDoorW.PrintWords Go.Proofs.YtdaijpjjilmkkaaGreatDoorW.PrintLast Go.Proofs.YtdaijpjjilmkkaaGreatDoorW.PrintMore
set_option linter.unusedVariables false
set_option linter.unusedSimpArgs false
theorem parseE_len (l : List UInt8) : (parseE l).1.length ≤ l.length := by
  unfold parseE
  cases hr : readE l with
  | none => exact Nat.zero_le _
  | some r =>
    dsimp only
    split
    · exact readE_len hr
    · exact Nat.zero_le _
theorem ElementParses_pure (s : ByteArray) : ∃ k, unicodetextlaw42_ElementParses.f k s = some true := by
  obtain ⟨l, rfl, -⟩ := ofL_of s
  have h : Ev (fun k => unicodetextlaw42_ElementParses.f k (ofL l)) true := by
    by_cases hl : l.length ≤ 600
    · refine Ev.neg (by rw [ofL_size]; omega) ?_
      exact Ev.bind (parse_ev l (by omega)) (Ev.bind (parseR_ev l (by omega)) (Ev.bind (sameE_ev (parseE l).1 (by have := parseE_len l; omega)) (Ev.pos rfl (Ev.pos rfl alive_tail))))
    · exact Ev.pos (by rw [ofL_size]; omega) alive_tail
  obtain ⟨K, h⟩ := h
  exact ⟨K, h K (Nat.le_refl _)⟩
end Go.Proofs.YtdaijpjjilmkkaaGreatDoor.Pr
