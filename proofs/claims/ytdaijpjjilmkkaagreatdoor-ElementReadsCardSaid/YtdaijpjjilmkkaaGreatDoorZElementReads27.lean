/- Texts of the claim ElementReads, joined: Prx3, Prx2, Prx4. -/
import Derived.Test.YtdaijpjjilmkkaaGreatDoorZElementReads23
import Derived.Test.YtdaijpjjilmkkaaGreatDoorZElementReads22
namespace Go.Proofs.YtdaijpjjilmkkaaGreatDoor.Pr
open Go.RowKit Go.Proofs.YtdaijpjjilmkkaaGreatDoorW.PrintWords Go.Proofs.YtdaijpjjilmkkaaGreatDoorW.PrintLast Go.Proofs.YtdaijpjjilmkkaaGreatDoorW.PrintMore
attribute [local go_sem] max2_int min2_int max_two min_two max_three min_three max_four min_four   -- for this text's walks alone
set_option linter.unusedVariables false
set_option linter.unusedSimpArgs false
theorem eqA46 (d : Nat) (w : World) (x0 y0 : ByteArray) (x1 y1 : Int) (x2 y2 : Int) :
    (Op.equalIn (d + 2) 46 (.agg #[.string x0, .int .i64 x1, .int .i64 x2]) (.agg #[.string y0, .int .i64 y1, .int .i64 y2])).run Tryz.prog w = .ok (x0.toList == y0.toList && (x1 == y1 && (x2 == y2))) w := by
  (refine eqA_of Tryz.underlying46 (by kernel_rfl) ?_); (refine eqf_cons (by rfl) (by go_simp; rfl) (by go_simp; rfl) (by go_simp) ?_); (refine eqf_cons (by rfl) (by go_simp; rfl) (by go_simp; rfl) (by go_simp) ?_); (exact eqf_last (by rfl) (by go_simp; rfl) (by go_simp; rfl) (by go_simp))
end Go.Proofs.YtdaijpjjilmkkaaGreatDoor.Pr

namespace Go.Proofs.YtdaijpjjilmkkaaGreatDoor.Pr
open Go.RowKit Go.Proofs.YtdaijpjjilmkkaaGreatDoorW.PrintWords Go.Proofs.YtdaijpjjilmkkaaGreatDoorW.PrintLast Go.Proofs.YtdaijpjjilmkkaaGreatDoorW.PrintMore
attribute [local go_sem] max2_int min2_int max_two min_two max_three min_three max_four min_four   -- for this text's walks alone
set_option linter.unusedVariables false
set_option linter.unusedSimpArgs false
theorem eqA44 (d : Nat) (w : World) (x0 y0 : Int) (x1 y1 : Int) (x2 y2 : Int) (x3 y3 : Bool) :
    (Op.equalIn (d + 2) 44 (.agg #[.int .i64 x0, .int .i64 x1, .int .i64 x2, .bool x3]) (.agg #[.int .i64 y0, .int .i64 y1, .int .i64 y2, .bool y3])).run Tryz.prog w = .ok (x0 == y0 && (x1 == y1 && (x2 == y2 && (x3 == y3)))) w := by
  (refine eqA_of Tryz.underlying44 (by kernel_rfl) ?_); (refine eqf_cons (by rfl) (by go_simp; rfl) (by go_simp; rfl) (by go_simp) ?_); (refine eqf_cons (by rfl) (by go_simp; rfl) (by go_simp; rfl) (by go_simp) ?_); (refine eqf_cons (by rfl) (by go_simp; rfl) (by go_simp; rfl) (by go_simp) ?_); (exact eqf_last (by rfl) (by go_simp; rfl) (by go_simp; rfl) (by go_simp))
end Go.Proofs.YtdaijpjjilmkkaaGreatDoor.Pr

namespace Go.Proofs.YtdaijpjjilmkkaaGreatDoor.Pr
open Go.RowKit Go.Proofs.YtdaijpjjilmkkaaGreatDoorW.PrintWords Go.Proofs.YtdaijpjjilmkkaaGreatDoorW.PrintLast Go.Proofs.YtdaijpjjilmkkaaGreatDoorW.PrintMore
attribute [local go_sem] max2_int min2_int max_two min_two max_three min_three max_four min_four   -- for this text's walks alone
set_option linter.unusedVariables false
set_option linter.unusedSimpArgs false
attribute [local go_sem high] eqA44
def r42_SameElements.l0 : Nat → List (S44) → List (S44) → Int → Option (Bool)
  | 0, _, _, _ => none
  | k + 1, x0, x1, x5 => if x5 < (x0.length : Int) then (if 0 ≤ x5 then (if x5 < (x1.length : Int) then (if (!(((rd_T44 x0 x5).f0) == ((rd_T44 x1 x5).f0)) || (!(((rd_T44 x0 x5).f1) == ((rd_T44 x1 x5).f1)) || (!(((rd_T44 x0 x5).f2) == ((rd_T44 x1 x5).f2)) || (!(((rd_T44 x0 x5).f3) == ((rd_T44 x1 x5).f3)))))) = true then (none) else (r42_SameElements.l0 k x0 x1 (wrap64 (x5 + 1)))) else (none)) else (none)) else (some true)
def r42_SameElements.f (k : Nat) (l0 : List (S44)) (l1 : List (S44)) : Option (Bool) := if (l0.length : Int) = (l1.length : Int) then (r42_SameElements.l0 k l0 l1 0) else (none)
theorem r42_SameElements.mono_l : ∀ k, (∀ y0 y1 y2, LeO (r42_SameElements.l0 k y0 y1 y2) (r42_SameElements.l0 (k + 1) y0 y1 y2))
  | 0 => fun _ _ _ r h => by simp [r42_SameElements.l0] at h
  | k + 1 => by
    have ih0 := r42_SameElements.mono_l k
    · (intro y0 y1 y2); (unfold r42_SameElements.l0)
      repeat' first
      | (with_reducible exact ih0 _ _ _)
      | (with_reducible exact LeO.refl _)
      | (with_reducible exact LeO.none _)
      | (with_reducible refine LeO.ite ?_ ?_)
      | (with_reducible refine LeO.bind ?_ (fun _ => ?_))
theorem r42_SameElements.mono : ∀ a0 a1 k, LeO (r42_SameElements.f k a0 a1) (r42_SameElements.f (k + 1) a0 a1) := by
  (intro a0 a1 k); (have ih0 := r42_SameElements.mono_l k); (unfold r42_SameElements.f)
  repeat' first
      | (with_reducible exact ih0 _ _ _)
      | (with_reducible exact LeO.refl _)
      | (with_reducible exact LeO.none _)
      | (with_reducible refine LeO.ite ?_ ?_)
      | (with_reducible refine LeO.bind ?_ (fun _ => ?_))
set_option maxHeartbeats 8000000 in
set_option maxRecDepth 100000 in
theorem r42_SameElements.calls (k : Nat) (A0 : Option Addr) (c0 : Nat) (l0 : List (S44)) (A1 : Option Addr) (c1 : Nat) (l1 : List (S44)) (r : Bool) (w : World) (hr0 : Kd.C k44 w A0 l0.length l0) (hc0 : l0.length ≤ c0) (hr1 : Kd.C k44 w A1 l1.length l1) (hc1 : l1.length ≤ c1) (h : r42_SameElements.f k l0 l1 = some r) :
    Calls Tryz.prog 10 #[.slice A0 l0.length c0, .slice A1 l1.length c1] w fun e w' => e = .returned (.bool r) ∧ Drawn0 w w' := by
  (have hu44 := Tryz.underlying44); (have HR0 := Aside0.mk hr0); (have HC0 := Aside0.mk hc0); (clear hr0 hc0); (have HR1 := Aside0.mk hr1); (have HC1 := Aside0.mk hc1); (clear hr1 hc1); (have H : (if (l0.length : Int) = (l1.length : Int) then (r42_SameElements.l0 k l0 l1 0) else (none)) = some r := h); (clear h); (by_cases c3 : (l0.length : Int) = (l1.length : Int))
  · (rw [if_pos c3] at H); (have c3b0 : ((l0.length : Int) == (l1.length : Int)) = true := beq_iff_eq.mpr c3); (have c3b1 : ((l0.length : Int) != (l1.length : Int)) = false := bne_eq_false_iff_eq.mpr c3); (have c3b2 : (l0.length == l1.length) = true := by first | simpa using c3 | (simp at c3 ⊢; omega)); (clear c3); (have H' := Aside0.mk H); (clear H); (go_enter Tryz.func10, Tryz.ntmps10); (go_wp2); (repeat (go_quiet (fail); try go_wp2)); (go_loopg [5] k (fun kq v5 w' => ∃ (x5_1 : Int), v5 = .int .i64 x5_1 ∧ Aside0 (r42_SameElements.l0 kq l0 l1 x5_1 = some r) ∧ Aside0 (kq ≤ k) ∧ Drawn0 w w'))
    case atStart => exact ⟨(0), (by first | rfl | (simp; done) | (simp [*]; done) | exact congrArg Value.bool (ne_nil_bool _) | exact congrArg Value.bool (eq_nil_bool _)), H', ⟨Nat.le_refl _⟩, by repeat (first | exact Drawn0.refl _ | apply Drawn0.step)⟩
    case round =>
      (clear H'); (try clear c1); (try clear p2); (try clear c3); (try clear c3b0); (try clear c3b1); (try clear c3b2); (obtain ⟨x5_1, rfl, HA, HK1, ⟨m1, rfl⟩⟩ := hrel)
      cases gk with
      | zero => exact absurd HA.out (by simp [r42_SameElements.l0])
      | succ k1 =>
        (have H := HA.out); (clear HA); (simp only [r42_SameElements.l0] at H); (by_cases c4 : x5_1 < (l0.length : Int))
        · (rw [if_pos c4] at H); (have c4b0 : decide (x5_1 < (l0.length : Int)) = true := decide_eq_true c4); (clear c4); (by_cases c5 : 0 ≤ x5_1)
          · (rw [if_pos c5] at H); (have c5b0 : decide (0 ≤ x5_1) = true := decide_eq_true c5); (clear c5); (by_cases c6 : x5_1 < (l1.length : Int))
            · (rw [if_pos c6] at H); (have c6b0 : decide (x5_1 < (l1.length : Int)) = true := decide_eq_true c6); (clear c6); (by_cases c7 : (!(((rd_T44 l0 x5_1).f0) == ((rd_T44 l1 x5_1).f0)) || (!(((rd_T44 l0 x5_1).f1) == ((rd_T44 l1 x5_1).f1)) || (!(((rd_T44 l0 x5_1).f2) == ((rd_T44 l1 x5_1).f2)) || (!(((rd_T44 l0 x5_1).f3) == ((rd_T44 l1 x5_1).f3)))))) = true)
              · (rw [if_pos c7] at H); (exact absurd H (by simp))
              · (rw [if_neg c7] at H); (have c7b0 : (!(((rd_T44 l0 x5_1).f0) == ((rd_T44 l1 x5_1).f0)) || (!(((rd_T44 l0 x5_1).f1) == ((rd_T44 l1 x5_1).f1)) || (!(((rd_T44 l0 x5_1).f2) == ((rd_T44 l1 x5_1).f2)) || (!(((rd_T44 l0 x5_1).f3) == ((rd_T44 l1 x5_1).f3)))))) = false := by simpa using c7); (clear c7); (have H' := Aside0.mk H); (clear H); (have p101 : 0 ≤ (x5_1 : Int) := Oa); (have q101 : x5_1 < (l0.length : Int) := Oa); (obtain ⟨ad101, e101, hx101_0, hx101_1, hx101_2, hx101_3⟩ := at_T44 HR0.out x5_1 p101 q101); (cases e101); (replace p101 := eq_true p101); (replace q101 := eq_true q101); (have p102 : 0 ≤ (x5_1 : Int) := Oa); (have q102 : x5_1 < (l1.length : Int) := Oa); (obtain ⟨ad102, e102, hx102_0, hx102_1, hx102_2, hx102_3⟩ := at_T44 HR1.out x5_1 p102 q102); (cases e102); (replace p102 := eq_true p102); (replace q102 := eq_true q102); (go_wp2); (repeat (go_quiet (fail); try go_wp2)); (go_roundg k1)
                case measure => have := HK1.out; omega
                case rel => exact ⟨(wrap64 (x5_1 + 1)), (by first | rfl | (simp; done) | (simp [*]; done) | exact congrArg Value.bool (ne_nil_bool _) | exact congrArg Value.bool (eq_nil_bool _)), H', ⟨by have := HK1.out; omega⟩, by repeat (first | exact Drawn0.refl _ | apply Drawn0.step)⟩
            · (rw [if_neg c6] at H); (exact absurd H (by simp))
          · (rw [if_neg c5] at H); (exact absurd H (by simp))
        · (rw [if_neg c4] at H); (have c4b0 : decide (x5_1 < (l0.length : Int)) = false := decide_eq_false c4); (clear c4); (obtain rfl := Option.some.inj H); (go_wp2); (repeat (go_quiet (fail); try go_wp2)); (go_ret); (exact ⟨by first | rfl | (simp; done) | (simp [*]; done), by repeat (first | exact Drawn0.refl _ | apply Drawn0.step)⟩)
  · (rw [if_neg c3] at H); (exact absurd H (by simp))
def element_Check.j0 : Nat → Bool → Int → Int → Int → Bool → Option (Int)
  | 0, _, _, _, _, _ => none
  | k + 1, x20, x104000, x104001, x104002, x104003 => if x20 = true then (some 1) else (if x104000 = 0 then (if (mn (wrap64 (x104000 + x104001)) 1) > x104002 then (some 11) else (if x104003 = true then (some 11) else (some 0))) else (if x104001 = 0 then (some 11) else (if (mn (wrap64 (x104000 + x104001)) 1) > x104002 then (some 11) else (if x104003 = true then (some 0) else (some 0)))))
def element_Check.f (k : Nat) (a0_0 : Int) (a0_1 : Int) (a0_2 : Int) (a0_3 : Bool) : Option (Int) := if (mn (mn a0_0 a0_1) a0_2) < 0 then (element_Check.j0 k true a0_0 a0_1 a0_2 a0_3) else (element_Check.j0 k (decide ((mx (mx a0_0 a0_1) a0_2) > 65535)) a0_0 a0_1 a0_2 a0_3)
theorem element_Check.mono_l : ∀ k, (∀ y0 y1 y2 y3 y4, LeO (element_Check.j0 k y0 y1 y2 y3 y4) (element_Check.j0 (k + 1) y0 y1 y2 y3 y4))
  | 0 => fun _ _ _ _ _ r h => by simp [element_Check.j0] at h
  | k + 1 => by
    have ih0 := element_Check.mono_l k
    · (intro y0 y1 y2 y3 y4); (unfold element_Check.j0)
      repeat' first
      | (with_reducible exact ih0 _ _ _ _ _)
      | (with_reducible exact LeO.refl _)
      | (with_reducible exact LeO.none _)
      | (with_reducible refine LeO.ite ?_ ?_)
      | (with_reducible refine LeO.bind ?_ (fun _ => ?_))
theorem element_Check.mono : ∀ a0 a1 a2 a3 k, LeO (element_Check.f k a0 a1 a2 a3) (element_Check.f (k + 1) a0 a1 a2 a3) := by
  (intro a0 a1 a2 a3 k); (have ih0 := element_Check.mono_l k); (unfold element_Check.f)
  repeat' first
      | (with_reducible exact ih0 _ _ _ _ _)
      | (with_reducible exact LeO.refl _)
      | (with_reducible exact LeO.none _)
      | (with_reducible refine LeO.ite ?_ ?_)
      | (with_reducible refine LeO.bind ?_ (fun _ => ?_))
set_option maxHeartbeats 8000000 in
set_option maxRecDepth 100000 in
theorem element_Check.calls (k : Nat) (a0_0 : Int) (a0_1 : Int) (a0_2 : Int) (a0_3 : Bool) (r : Int) (w : World) (h : element_Check.f k a0_0 a0_1 a0_2 a0_3 = some r) :
    Calls Tryz.prog 46 #[.agg #[.int .i64 a0_0, .int .i64 a0_1, .int .i64 a0_2, .bool a0_3]] w fun e w' => e = .returned (.int .i64 r) ∧ Below w.heap.size w w' := by
  (have hu44 := Tryz.underlying44); (have HB := Aside0.mk (Below.refl w.heap.size w)); (have H : (if (mn (mn a0_0 a0_1) a0_2) < 0 then (element_Check.j0 k true a0_0 a0_1 a0_2 a0_3) else (element_Check.j0 k (decide ((mx (mx a0_0 a0_1) a0_2) > 65535)) a0_0 a0_1 a0_2 a0_3)) = some r := h); (clear h); (have HC2 := Aside0.mk H); (clear H); (go_enter Tryz.func46, Tryz.ntmps46); (go_upto_region 1 with (first | ((with_reducible refine gate_dst (N := 1) rfl ?_); (try (refine gate_guard (by rfl) ?_; dsimp only)); refine Bx 1 #[.int .i64 a0_0, .int .i64 a0_1, .int .i64 a0_2, .bool a0_3] 44 ?_; intro gb103 hg w3 hbox hb; have BK103 := Aside0.mk (hbox); have GW103 := Gs w hg; have GE103 := Gs w hg; replace HB := Bs hb; clear hb hbox hg))); (try simp only [Act.put, List.setIfInBounds_toArray, List.set_cons_zero, List.set_cons_succ]); (go_cut [20] (fun v20 wc => ∃ (kq : Nat) (x20_1 : Bool), v20 = .bool x20_1 ∧ Aside0 (element_Check.j0 kq x20_1 a0_0 a0_1 a0_2 a0_3 = some r) ∧ Aside0 (kq ≤ k) ∧ Aside0 (wc.heap[gb103]? = some (.cells #[.int .i64 a0_0, .int .i64 a0_1, .int .i64 a0_2, .bool a0_3] 44 (0, 0))) ∧ Aside0 (Below w.heap.size w wc)))
  case first =>
    (have H := HC2.out); (clear HC2); (obtain ⟨ji4, hji4⟩ : ∃ j_ : Int, (mn a0_0 a0_1) = j_ := ⟨_, rfl⟩); (replace H : (if (mn (ji4) a0_2) < 0 then (element_Check.j0 k true a0_0 a0_1 a0_2 a0_3) else (element_Check.j0 k (decide ((mx (mx a0_0 a0_1) a0_2) > 65535)) a0_0 a0_1 a0_2 a0_3)) = some r := by first | (rw [hji4] at H; exact H) | (simp only [hji4] at H ⊢; exact H)); (have hji4_ : (if a0_1 < a0_0 then a0_1 else a0_0) = ji4 := hji4); (obtain ⟨ji5, hji5⟩ : ∃ j_ : Int, (mn (ji4) a0_2) = j_ := ⟨_, rfl⟩); (replace H : (if (ji5) < 0 then (element_Check.j0 k true a0_0 a0_1 a0_2 a0_3) else (element_Check.j0 k (decide ((mx (mx a0_0 a0_1) a0_2) > 65535)) a0_0 a0_1 a0_2 a0_3)) = some r := by first | (rw [hji5] at H; exact H) | (simp only [hji5] at H ⊢; exact H)); (have hji5_ : (if a0_2 < (ji4) then a0_2 else (ji4)) = ji5 := hji5); (by_cases c6 : (ji5) < 0)
    · (rw [if_pos c6] at H); (have c6b0 : decide ((ji5) < 0) = true := decide_eq_true c6); (clear c6); (first | rw [c6b0] | (simp only [i64_w, i32_w]; rw [c6b0]) | skip); (have H' := Aside0.mk H); (clear H); (obtain ⟨hcz7_0, hcz7_1, hcz7_2, hcz7_3, hfz7_0, hfz7_1, hfz7_2, hfz7_3⟩ := Bz4 BK103.out); (go_wp2); (go_meet)
      case rel => exact ⟨_, (true), (by first | rfl | (simp; done) | (simp [*]; done) | exact congrArg Value.bool (ne_nil_bool _) | exact congrArg Value.bool (eq_nil_bool _)), H', ⟨by first | omega | exact Nat.le_refl _⟩, ⟨by (with_reducible repeat (first | refine blk_drewN ?_ _ | refine blk_drew ?_ | refine blk_alloc ?_ _)); exact BK103.out⟩, ⟨Hb⟩⟩
    · (rw [if_neg c6] at H); (have c6b0 : decide ((ji5) < 0) = false := decide_eq_false c6); (clear c6); (first | rw [c6b0] | (simp only [i64_w, i32_w]; rw [c6b0]) | skip); (obtain ⟨ji8, hji8⟩ : ∃ j_ : Int, (mx a0_0 a0_1) = j_ := ⟨_, rfl⟩); (replace H : (element_Check.j0 k (decide ((mx (ji8) a0_2) > 65535)) a0_0 a0_1 a0_2 a0_3) = some r := by first | (rw [hji8] at H; exact H) | (simp only [hji8] at H ⊢; exact H)); (have hji8_ : (if a0_0 < a0_1 then a0_1 else a0_0) = ji8 := hji8); (obtain ⟨ji9, hji9⟩ : ∃ j_ : Int, (mx (ji8) a0_2) = j_ := ⟨_, rfl⟩); (replace H : (element_Check.j0 k (decide ((ji9) > 65535)) a0_0 a0_1 a0_2 a0_3) = some r := by first | (rw [hji9] at H; exact H) | (simp only [hji9] at H ⊢; exact H)); (have hji9_ : (if (ji8) < a0_2 then a0_2 else (ji8)) = ji9 := hji9); (have H' := Aside0.mk H); (clear H); (obtain ⟨hcz10_0, hcz10_1, hcz10_2, hcz10_3, hfz10_0, hfz10_1, hfz10_2, hfz10_3⟩ := Bz4 BK103.out); (go_wp2); (go_meet)
      case rel => exact ⟨_, (decide ((ji9) > 65535)), (by first | rfl | (simp; done) | (simp only [← hji9] <;> (first | rfl | simp)) | (simp [*]; done)), H', ⟨by first | omega | exact Nat.le_refl _⟩, ⟨by (with_reducible repeat (first | refine blk_drewN ?_ _ | refine blk_drew ?_ | refine blk_alloc ?_ _)); exact BK103.out⟩, ⟨Hb⟩⟩
  case rest =>
    (clear HC2); (try clear p2); (try clear c4); (try clear c6); (try clear c6b0); (obtain ⟨kq, x20_1, rfl, HA, HJ1, BK103, HB⟩ := hcut)
    cases kq with
    | zero => exact absurd HA.out (by simp [element_Check.j0])
    | succ kj1 =>
      (have H := HA.out); (clear HA); (simp only [element_Check.j0] at H); (by_cases c11 : x20_1 = true)
      · (subst c11); (have H1 : (some 1) = some r := by rw [if_pos rfl] at H; exact H); (clear H); (have H := H1); (clear H1); (obtain rfl := Option.some.inj H); (go_wp2); (go_ret); (exact ⟨Er, Hb⟩)
      · (replace c11 := Bool.eq_false_iff.mpr c11); (subst c11); (have H1 : (if a0_0 = 0 then (if (mn (wrap64 (a0_0 + a0_1)) 1) > a0_2 then (some 11) else (if a0_3 = true then (some 11) else (some 0))) else (if a0_1 = 0 then (some 11) else (if (mn (wrap64 (a0_0 + a0_1)) 1) > a0_2 then (some 11) else (if a0_3 = true then (some 0) else (some 0))))) = some r := by rw [if_neg (show ¬ (false = true) by decide)] at H; exact H); (clear H); (have H := H1); (clear H1); (by_cases c12 : a0_0 = 0)
        · (rw [if_pos c12] at H); (have c12b0 : (a0_0 == 0) = true := beq_iff_eq.mpr c12); (have c12b1 : (a0_0 != 0) = false := bne_eq_false_iff_eq.mpr c12); (clear c12); (obtain ⟨ji13, hji13⟩ : ∃ j_ : Int, (mn (wrap64 (a0_0 + a0_1)) 1) = j_ := ⟨_, rfl⟩); (replace H : (if (ji13) > a0_2 then (some 11) else (if a0_3 = true then (some 11) else (some 0))) = some r := by first | (rw [hji13] at H; exact H) | (simp only [hji13] at H ⊢; exact H)); (have hji13_ : (if 1 < (wrap64 (a0_0 + a0_1)) then 1 else (wrap64 (a0_0 + a0_1))) = ji13 := hji13); (by_cases c14 : (ji13) > a0_2)
          · (rw [if_pos c14] at H); (have c14b0 : decide (a0_2 < (ji13)) = true := decide_eq_true c14); (clear c14); (obtain rfl := Option.some.inj H); (obtain ⟨hcz15_0, hcz15_1, hcz15_2, hcz15_3, hfz15_0, hfz15_1, hfz15_2, hfz15_3⟩ := Bz4 BK103.out); (go_wp2); (go_ret); (exact ⟨by first | rfl | (simp [errW_none, errW_some] <;> rfl) | (simp only [← hji13]; first | rfl | (simp [errW_none, errW_some] <;> rfl)) | (simp [*, errW_none, errW_some] <;> rfl), Hb⟩)
          · (rw [if_neg c14] at H); (have c14b0 : decide (a0_2 < (ji13)) = false := decide_eq_false c14); (clear c14); (by_cases c16 : a0_3 = true)
            · (subst c16); (have H1 : (some 11) = some r := by rw [if_pos rfl] at H; exact H); (clear H); (have H := H1); (clear H1); (obtain rfl := Option.some.inj H); (obtain ⟨hcz17_0, hcz17_1, hcz17_2, hcz17_3, hfz17_0, hfz17_1, hfz17_2, hfz17_3⟩ := Bz4 BK103.out); (go_wp2); (go_ret); (exact ⟨by first | rfl | (simp [errW_none, errW_some] <;> rfl) | (simp only [← hji13]; first | rfl | (simp [errW_none, errW_some] <;> rfl)) | (simp [*, errW_none, errW_some] <;> rfl), Hb⟩)
            · (replace c16 := Bool.eq_false_iff.mpr c16); (subst c16); (have H1 : (some 0) = some r := by rw [if_neg (show ¬ (false = true) by decide)] at H; exact H); (clear H); (have H := H1); (clear H1); (obtain rfl := Option.some.inj H); (obtain ⟨hcz18_0, hcz18_1, hcz18_2, hcz18_3, hfz18_0, hfz18_1, hfz18_2, hfz18_3⟩ := Bz4 BK103.out); (go_wp2); (go_ret); (exact ⟨by first | rfl | (simp [errW_none, errW_some] <;> rfl) | (simp only [← hji13]; first | rfl | (simp [errW_none, errW_some] <;> rfl)) | (simp [*, errW_none, errW_some] <;> rfl), Hb⟩)
        · (rw [if_neg c12] at H); (have c12b0 : (a0_0 == 0) = false := beq_eq_false_iff_ne.mpr c12); (have c12b1 : (a0_0 != 0) = true := bne_iff_ne.mpr c12); (by_cases c19 : a0_1 = 0)
          · (rw [if_pos c19] at H); (have c19b0 : (a0_1 == 0) = true := beq_iff_eq.mpr c19); (have c19b1 : (a0_1 != 0) = false := bne_eq_false_iff_eq.mpr c19); (clear c19); (obtain rfl := Option.some.inj H); (obtain ⟨hcz20_0, hcz20_1, hcz20_2, hcz20_3, hfz20_0, hfz20_1, hfz20_2, hfz20_3⟩ := Bz4 BK103.out); (go_wp2); (go_ret); (exact ⟨Er, Hb⟩)
          · (rw [if_neg c19] at H); (have c19b0 : (a0_1 == 0) = false := beq_eq_false_iff_ne.mpr c19); (have c19b1 : (a0_1 != 0) = true := bne_iff_ne.mpr c19); (obtain ⟨ji21, hji21⟩ : ∃ j_ : Int, (mn (wrap64 (a0_0 + a0_1)) 1) = j_ := ⟨_, rfl⟩); (replace H : (if (ji21) > a0_2 then (some 11) else (if a0_3 = true then (some 0) else (some 0))) = some r := by first | (rw [hji21] at H; exact H) | (simp only [hji21] at H ⊢; exact H)); (have hji21_ : (if 1 < (wrap64 (a0_0 + a0_1)) then 1 else (wrap64 (a0_0 + a0_1))) = ji21 := hji21); (by_cases c22 : (ji21) > a0_2)
            · (rw [if_pos c22] at H); (have c22b0 : decide (a0_2 < (ji21)) = true := decide_eq_true c22); (clear c22); (obtain rfl := Option.some.inj H); (obtain ⟨hcz23_0, hcz23_1, hcz23_2, hcz23_3, hfz23_0, hfz23_1, hfz23_2, hfz23_3⟩ := Bz4 BK103.out); (go_wp2); (go_ret); (exact ⟨by first | rfl | (simp [errW_none, errW_some] <;> rfl) | (simp only [← hji21]; first | rfl | (simp [errW_none, errW_some] <;> rfl)) | (simp [*, errW_none, errW_some] <;> rfl), Hb⟩)
            · (rw [if_neg c22] at H); (have c22b0 : decide (a0_2 < (ji21)) = false := decide_eq_false c22); (clear c22); (by_cases c24 : a0_3 = true)
              · (subst c24); (have H1 : (some 0) = some r := by rw [if_pos rfl] at H; exact H); (clear H); (have H := H1); (clear H1); (obtain rfl := Option.some.inj H); (obtain ⟨hcz25_0, hcz25_1, hcz25_2, hcz25_3, hfz25_0, hfz25_1, hfz25_2, hfz25_3⟩ := Bz4 BK103.out); (go_wp2); (go_ret); (exact ⟨by first | rfl | (simp [errW_none, errW_some] <;> rfl) | (simp only [← hji21]; first | rfl | (simp [errW_none, errW_some] <;> rfl)) | (simp [*, errW_none, errW_some] <;> rfl), Hb⟩)
              · (replace c24 := Bool.eq_false_iff.mpr c24); (subst c24); (have H1 : (some 0) = some r := by rw [if_neg (show ¬ (false = true) by decide)] at H; exact H); (clear H); (have H := H1); (clear H1); (obtain rfl := Option.some.inj H); (obtain ⟨hcz26_0, hcz26_1, hcz26_2, hcz26_3, hfz26_0, hfz26_1, hfz26_2, hfz26_3⟩ := Bz4 BK103.out); (go_wp2); (go_ret); (exact ⟨by first | rfl | (simp [errW_none, errW_some] <;> rfl) | (simp only [← hji21]; first | rfl | (simp [errW_none, errW_some] <;> rfl)) | (simp [*, errW_none, errW_some] <;> rfl), Hb⟩)
def element_checkAll.l0 : Nat → List (S44) → Int → Int → Option (Int)
  | 0, _, _, _ => none
  | k + 1, x6, x7, x8 => if x8 < x7 then (if 0 ≤ x8 then (if x8 < (x6.length : Int) then ((element_Check.f k ((rd_T44 x6 x8).f0) ((rd_T44 x6 x8).f1) ((rd_T44 x6 x8).f2) ((rd_T44 x6 x8).f3)).bind fun t106 => (if t106 = 0 then (element_checkAll.l0 k x6 x7 (wrap64 (x8 + 1))) else (some t106))) else (none)) else (none)) else (some 0)
def element_checkAll.f (k : Nat) (l0 : List (S44)) : Option (Int) := element_checkAll.l0 k l0 (l0.length : Int) 0
theorem element_checkAll.mono_l : ∀ k, (∀ y0 y1 y2, LeO (element_checkAll.l0 k y0 y1 y2) (element_checkAll.l0 (k + 1) y0 y1 y2))
  | 0 => fun _ _ _ r h => by simp [element_checkAll.l0] at h
  | k + 1 => by
    have ih0 := element_checkAll.mono_l k
    · (intro y0 y1 y2); (unfold element_checkAll.l0)
      repeat' first
      | (with_reducible exact ih0 _ _ _)
      | (with_reducible exact element_Check.mono _ _ _ _ _)
      | (with_reducible exact LeO.refl _)
      | (with_reducible exact LeO.none _)
      | (with_reducible refine LeO.ite ?_ ?_)
      | (with_reducible refine LeO.bind ?_ (fun _ => ?_))
theorem element_checkAll.mono : ∀ a0 k, LeO (element_checkAll.f k a0) (element_checkAll.f (k + 1) a0) := by
  (intro a0 k); (have ih0 := element_checkAll.mono_l k); (unfold element_checkAll.f)
  repeat' first
      | (with_reducible exact ih0 _ _ _)
      | (with_reducible exact element_Check.mono _ _ _ _ _)
      | (with_reducible exact LeO.refl _)
      | (with_reducible exact LeO.none _)
      | (with_reducible refine LeO.ite ?_ ?_)
      | (with_reducible refine LeO.bind ?_ (fun _ => ?_))
set_option maxHeartbeats 8000000 in
set_option maxRecDepth 100000 in
theorem element_checkAll.calls (k : Nat) (A0 : Option Addr) (c0 : Nat) (l0 : List (S44)) (r : Int) (w : World) (hr0 : Kd.C k44 w A0 l0.length l0) (hc0 : l0.length ≤ c0) (h : element_checkAll.f k l0 = some r) :
    Calls Tryz.prog 21 #[.slice A0 l0.length c0] w fun e w' => e = .returned (.int .i64 r) ∧ Below w.heap.size w w' := by
  (have hu44 := Tryz.underlying44); (have HR0 := Aside0.mk hr0); (have HC0 := Aside0.mk hc0); (clear hr0 hc0); (have HB := Aside0.mk (Below.refl w.heap.size w)); (have H : (element_checkAll.l0 k l0 (l0.length : Int) 0) = some r := h); (clear h); (have H' := Aside0.mk H); (clear H); (go_enter Tryz.func21, Tryz.ntmps21); (go_wp2); (go_loopg [8] k (fun kq v8 w' => ∃ (x8_1 : Int), v8 = .int .i64 x8_1 ∧ Aside0 (element_checkAll.l0 kq l0 (l0.length : Int) x8_1 = some r) ∧ Aside0 (kq ≤ k) ∧ Aside0 (Below w.heap.size w w')))
  case atStart => exact ⟨(0), (by first | rfl | (simp; done) | (simp [*]; done) | exact congrArg Value.bool (ne_nil_bool _) | exact congrArg Value.bool (eq_nil_bool _)), H', ⟨Nat.le_refl _⟩, ⟨Hb⟩⟩
  case round =>
    (clear H'); (obtain ⟨x8_1, rfl, HA, HK1, HB⟩ := hrel)
    cases gk with
    | zero => exact absurd HA.out (by simp [element_checkAll.l0])
    | succ k1 =>
      (have H := HA.out); (clear HA); (simp only [element_checkAll.l0] at H); (by_cases c2 : x8_1 < (l0.length : Int))
      · (rw [if_pos c2] at H); (have c2b0 : decide (x8_1 < (l0.length : Int)) = true := decide_eq_true c2); (clear c2); (by_cases c3 : 0 ≤ x8_1)
        · (rw [if_pos c3] at H); (have c3b0 : decide (0 ≤ x8_1) = true := decide_eq_true c3); (clear c3); (by_cases c4 : x8_1 < (l0.length : Int))
          · (rw [if_pos c4] at H); (have c4b0 : decide (x8_1 < (l0.length : Int)) = true := decide_eq_true c4); (clear c4); (replace H := Option.bind_eq_some_iff.mp H); (obtain ⟨t106, A50, H⟩ := H); (replace H : (if t106 = 0 then (element_checkAll.l0 k1 l0 (l0.length : Int) (wrap64 (x8_1 + 1))) else (some t106)) = some r := H); (have A5 := Aside0.mk A50); (clear A50); (by_cases c6 : t106 = 0)
            · (rw [if_pos c6] at H); (have c6b0 : (t106 == 0) = true := beq_iff_eq.mpr c6); (have c6b1 : (t106 != 0) = false := bne_eq_false_iff_eq.mpr c6); (clear c6); (have H' := Aside0.mk H); (clear H); (have p104 : 0 ≤ (x8_1 : Int) := Oa); (have q104 : x8_1 < (l0.length : Int) := Oa); (obtain ⟨ad104, e104, hx104_0, hx104_1, hx104_2, hx104_3⟩ := at_T44 HR0.out x8_1 p104 q104); (cases e104); (replace hx104_0 := (HB.out.cell (World.block_lt_of_cell? w _ hx104_0)).trans hx104_0); (replace hx104_1 := (HB.out.cell (World.block_lt_of_cell? w _ hx104_1)).trans hx104_1); (replace hx104_2 := (HB.out.cell (World.block_lt_of_cell? w _ hx104_2)).trans hx104_2); (replace hx104_3 := (HB.out.cell (World.block_lt_of_cell? w _ hx104_3)).trans hx104_3); (replace p104 := eq_true p104); (replace q104 := eq_true q104); (go_wp2_with (first | ((with_reducible refine gate_dst (N := 4) rfl ?_); refine Bx 4 #[.int .i64 0, .int .i64 0, .int .i64 0, .bool false] 44 ?_; intro gb105 hg w7 hbox hb; have BK105 := Aside0.mk (hbox); have GW105 := Gs w hg; have GE105 := Gs w hg; replace HB := Bs hb; clear hb hbox hg; have hcz8_0 : w7.cell? ⟨gb105, 0, none⟩ = some (.int .i64 0) := (blk_cell BK105.out 0).trans rfl; have hcz8_1 : w7.cell? ⟨gb105, 1, none⟩ = some (.int .i64 0) := (blk_cell BK105.out 1).trans rfl; have hcz8_2 : w7.cell? ⟨gb105, 2, none⟩ = some (.int .i64 0) := (blk_cell BK105.out 2).trans rfl; have hcz8_3 : w7.cell? ⟨gb105, 3, none⟩ = some (.bool false) := (blk_cell BK105.out 3).trans rfl; have hfz8_0 := blk_frozen BK105.out 0; have hfz8_1 := blk_frozen BK105.out 1; have hfz8_2 := blk_frozen BK105.out 2; have hfz8_3 := blk_frozen BK105.out 3) | ((with_reducible refine gate_callee (f := 46) rfl ?_); refine Gl (some 13) Tryz.func46 #[.agg #[.int .i64 ((rd_T44 l0 x8_1).f0), .int .i64 ((rd_T44 l0 x8_1).f1), .int .i64 ((rd_T44 l0 x8_1).f2), .bool ((rd_T44 l0 x8_1).f3)]] ?_; (with_reducible refine (element_Check.calls k1 ((rd_T44 l0 x8_1).f0) ((rd_T44 l0 x8_1).f1) ((rd_T44 l0 x8_1).f2) ((rd_T44 l0 x8_1).f3) t106 _ A5.out).mono ?_); rintro e w9 ⟨rfl, hb⟩; refine ⟨_, rfl, ?_⟩; replace BK105 := Aside0.mk (blk_below (g := gb105) (o := .cells #[.int .i64 ((rd_T44 l0 x8_1).f0), .int .i64 ((rd_T44 l0 x8_1).f1), .int .i64 ((rd_T44 l0 x8_1).f2), .bool ((rd_T44 l0 x8_1).f3)] 44 (0, 0)) Bk hb); replace HB := Bs hb))); (go_roundg k1)
              case measure => have := HK1.out; omega
              case rel => exact ⟨(wrap64 (x8_1 + 1)), (by first | rfl | (simp; done) | (simp [*]; done) | exact congrArg Value.bool (ne_nil_bool _) | exact congrArg Value.bool (eq_nil_bool _)), H', ⟨by have := HK1.out; omega⟩, ⟨Hb⟩⟩
            · (rw [if_neg c6] at H); (have c6b0 : (t106 == 0) = false := beq_eq_false_iff_ne.mpr c6); (have c6b1 : (t106 != 0) = true := bne_iff_ne.mpr c6); (obtain rfl := Option.some.inj H); (have p104 : 0 ≤ (x8_1 : Int) := Oa); (have q104 : x8_1 < (l0.length : Int) := Oa); (obtain ⟨ad104, e104, hx104_0, hx104_1, hx104_2, hx104_3⟩ := at_T44 HR0.out x8_1 p104 q104); (cases e104); (replace hx104_0 := (HB.out.cell (World.block_lt_of_cell? w _ hx104_0)).trans hx104_0); (replace hx104_1 := (HB.out.cell (World.block_lt_of_cell? w _ hx104_1)).trans hx104_1); (replace hx104_2 := (HB.out.cell (World.block_lt_of_cell? w _ hx104_2)).trans hx104_2); (replace hx104_3 := (HB.out.cell (World.block_lt_of_cell? w _ hx104_3)).trans hx104_3); (replace p104 := eq_true p104); (replace q104 := eq_true q104); (go_wp2_with (first | ((with_reducible refine gate_dst (N := 4) rfl ?_); refine Bx 4 #[.int .i64 0, .int .i64 0, .int .i64 0, .bool false] 44 ?_; intro gb105 hg w10 hbox hb; have BK105 := Aside0.mk (hbox); have GW105 := Gs w hg; have GE105 := Gs w hg; replace HB := Bs hb; clear hb hbox hg; have hcz11_0 : w10.cell? ⟨gb105, 0, none⟩ = some (.int .i64 0) := (blk_cell BK105.out 0).trans rfl; have hcz11_1 : w10.cell? ⟨gb105, 1, none⟩ = some (.int .i64 0) := (blk_cell BK105.out 1).trans rfl; have hcz11_2 : w10.cell? ⟨gb105, 2, none⟩ = some (.int .i64 0) := (blk_cell BK105.out 2).trans rfl; have hcz11_3 : w10.cell? ⟨gb105, 3, none⟩ = some (.bool false) := (blk_cell BK105.out 3).trans rfl; have hfz11_0 := blk_frozen BK105.out 0; have hfz11_1 := blk_frozen BK105.out 1; have hfz11_2 := blk_frozen BK105.out 2; have hfz11_3 := blk_frozen BK105.out 3) | ((with_reducible refine gate_callee (f := 46) rfl ?_); refine Gl (some 13) Tryz.func46 #[.agg #[.int .i64 ((rd_T44 l0 x8_1).f0), .int .i64 ((rd_T44 l0 x8_1).f1), .int .i64 ((rd_T44 l0 x8_1).f2), .bool ((rd_T44 l0 x8_1).f3)]] ?_; (with_reducible refine (element_Check.calls k1 ((rd_T44 l0 x8_1).f0) ((rd_T44 l0 x8_1).f1) ((rd_T44 l0 x8_1).f2) ((rd_T44 l0 x8_1).f3) t106 _ A5.out).mono ?_); rintro e w12 ⟨rfl, hb⟩; refine ⟨_, rfl, ?_⟩; replace BK105 := Aside0.mk (blk_below (g := gb105) (o := .cells #[.int .i64 ((rd_T44 l0 x8_1).f0), .int .i64 ((rd_T44 l0 x8_1).f1), .int .i64 ((rd_T44 l0 x8_1).f2), .bool ((rd_T44 l0 x8_1).f3)] 44 (0, 0)) Bk hb); replace HB := Bs hb))); (go_ret); (exact ⟨Er, Hb⟩)
          · (rw [if_neg c4] at H); (exact absurd H (by simp))
        · (rw [if_neg c3] at H); (exact absurd H (by simp))
      · (rw [if_neg c2] at H); (have c2b0 : decide (x8_1 < (l0.length : Int)) = false := decide_eq_false c2); (clear c2); (obtain rfl := Option.some.inj H); (go_wp2); (go_ret); (exact ⟨Er, Hb⟩)
def codepoint_Valid.f (a0 : Int) : Option (Bool) := if a0 ≥ 0 then (some (decide (a0 ≤ 1114111))) else (some false)
set_option maxHeartbeats 8000000 in
set_option maxRecDepth 100000 in
theorem codepoint_Valid.calls (a0 : Int) (r : Bool) (w : World) (h : codepoint_Valid.f a0 = some r) :
    Calls Tryz.prog 77 #[.int .i64 a0] w fun e w' => e = .returned (.bool r) ∧ Drawn0 w w' := by
  (have H : (if a0 ≥ 0 then (some (decide (a0 ≤ 1114111))) else (some false)) = some r := h); (clear h); (by_cases c2 : a0 ≥ 0)
  · (rw [if_pos c2] at H); (have c2b0 : decide (0 ≤ a0) = true := decide_eq_true c2); (clear c2); (obtain rfl := Option.some.inj H); (go_enter Tryz.func77, Tryz.ntmps77); (go_wp2); (go_ret); (exact ⟨by first | rfl | (simp; done) | (simp [*]; done), by repeat (first | exact Drawn0.refl _ | apply Drawn0.step)⟩)
  · (rw [if_neg c2] at H); (have c2b0 : decide (0 ≤ a0) = false := decide_eq_false c2); (clear c2); (obtain rfl := Option.some.inj H); (go_enter Tryz.func77, Tryz.ntmps77); (go_wp2); (go_ret); (exact ⟨by first | rfl | (simp; done) | (simp [*]; done), by repeat (first | exact Drawn0.refl _ | apply Drawn0.step)⟩)
def escape_valid.l0 : Nat → List Int → Int → Int → Option (Bool)
  | 0, _, _, _ => none
  | k + 1, x5, x6, x7 => if x7 < x6 then (if 0 ≤ x7 then (if x7 < (x5.length : Int) then ((codepoint_Valid.f (rd x5 x7)).bind fun t108 => (if t108 = true then (escape_valid.l0 k x5 x6 (wrap64 (x7 + 1))) else (some false))) else (none)) else (none)) else (some true)
def escape_valid.f (k : Nat) (l0 : List Int) : Option (Bool) := escape_valid.l0 k l0 (l0.length : Int) 0
theorem escape_valid.mono_l : ∀ k, (∀ y0 y1 y2, LeO (escape_valid.l0 k y0 y1 y2) (escape_valid.l0 (k + 1) y0 y1 y2))
  | 0 => fun _ _ _ r h => by simp [escape_valid.l0] at h
  | k + 1 => by
    have ih0 := escape_valid.mono_l k
    · (intro y0 y1 y2); (unfold escape_valid.l0)
      repeat' first
      | (with_reducible exact ih0 _ _ _)
      | (with_reducible exact LeO.refl _)
      | (with_reducible exact LeO.none _)
      | (with_reducible refine LeO.ite ?_ ?_)
      | (with_reducible refine LeO.bind ?_ (fun _ => ?_))
theorem escape_valid.mono : ∀ a0 k, LeO (escape_valid.f k a0) (escape_valid.f (k + 1) a0) := by
  (intro a0 k); (have ih0 := escape_valid.mono_l k); (unfold escape_valid.f)
  repeat' first
      | (with_reducible exact ih0 _ _ _)
      | (with_reducible exact LeO.refl _)
      | (with_reducible exact LeO.none _)
      | (with_reducible refine LeO.ite ?_ ?_)
      | (with_reducible refine LeO.bind ?_ (fun _ => ?_))
set_option maxHeartbeats 8000000 in
set_option maxRecDepth 100000 in
theorem escape_valid.calls (k : Nat) (A0 : Option Addr) (c0 : Nat) (l0 : List Int) (r : Bool) (w : World) (hr0 : Kd.C (Kd.int .i64) w A0 l0.length l0) (hc0 : l0.length ≤ c0) (h : escape_valid.f k l0 = some r) :
    Calls Tryz.prog 56 #[.slice A0 l0.length c0] w fun e w' => e = .returned (.bool r) ∧ Drawn0 w w' := by
  (have HR0 := Aside0.mk hr0); (have HC0 := Aside0.mk hc0); (clear hr0 hc0); (have H : (escape_valid.l0 k l0 (l0.length : Int) 0) = some r := h); (clear h); (have H' := Aside0.mk H); (clear H); (go_enter Tryz.func56, Tryz.ntmps56); (go_wp2); (go_loopg [7] k (fun kq v7 w' => ∃ (x7_1 : Int), v7 = .int .i64 x7_1 ∧ Aside0 (escape_valid.l0 kq l0 (l0.length : Int) x7_1 = some r) ∧ Aside0 (kq ≤ k) ∧ Drawn0 w w'))
  case atStart => exact ⟨(0), (by first | rfl | (simp; done) | (simp [*]; done) | exact congrArg Value.bool (ne_nil_bool _) | exact congrArg Value.bool (eq_nil_bool _)), H', ⟨Nat.le_refl _⟩, by repeat (first | exact Drawn0.refl _ | apply Drawn0.step)⟩
  case round =>
    (clear H'); (obtain ⟨x7_1, rfl, HA, HK1, ⟨m1, rfl⟩⟩ := hrel)
    cases gk with
    | zero => exact absurd HA.out (by simp [escape_valid.l0])
    | succ k1 =>
      (have H := HA.out); (clear HA); (simp only [escape_valid.l0] at H); (by_cases c2 : x7_1 < (l0.length : Int))
      · (rw [if_pos c2] at H); (have c2b0 : decide (x7_1 < (l0.length : Int)) = true := decide_eq_true c2); (clear c2); (by_cases c3 : 0 ≤ x7_1)
        · (rw [if_pos c3] at H); (have c3b0 : decide (0 ≤ x7_1) = true := decide_eq_true c3); (clear c3); (by_cases c4 : x7_1 < (l0.length : Int))
          · (rw [if_pos c4] at H); (have c4b0 : decide (x7_1 < (l0.length : Int)) = true := decide_eq_true c4); (clear c4); (replace H := Option.bind_eq_some_iff.mp H); (obtain ⟨t108, A50, H⟩ := H); (replace H : (if t108 = true then (escape_valid.l0 k1 l0 (l0.length : Int) (wrap64 (x7_1 + 1))) else (some false)) = some r := H); (have A5 := Aside0.mk A50); (clear A50); (by_cases c6 : t108 = true)
            · (subst c6); (have H1 : (escape_valid.l0 k1 l0 (l0.length : Int) (wrap64 (x7_1 + 1))) = some r := by rw [if_pos rfl] at H; exact H); (clear H); (have H := H1); (clear H1); (have H' := Aside0.mk H); (clear H); (have p107 : 0 ≤ (x7_1 : Int) := Oa); (have q107 : x7_1 < (l0.length : Int) := Oa); (obtain ⟨ad107, e107, hx107_0⟩ := Kd.at_int HR0.out x7_1 p107 q107); (cases e107); (replace p107 := eq_true p107); (replace q107 := eq_true q107); (go_wp2_with (first | ((with_reducible refine gate_callee (f := 77) rfl ?_); refine Gl (some 12) Tryz.func77 #[.int .i64 (rd l0 x7_1)] ?_; (with_reducible refine (codepoint_Valid.calls (rd l0 x7_1) true _ A5.out).mono ?_); rintro e w' ⟨rfl, ⟨nd, rfl⟩⟩; refine ⟨_, rfl, ?_⟩))); (go_roundg k1)
              case measure => have := HK1.out; omega
              case rel => exact ⟨(wrap64 (x7_1 + 1)), (by first | rfl | (simp; done) | (simp [*]; done) | exact congrArg Value.bool (ne_nil_bool _) | exact congrArg Value.bool (eq_nil_bool _)), H', ⟨by have := HK1.out; omega⟩, by repeat (first | exact Drawn0.refl _ | apply Drawn0.step)⟩
            · (replace c6 := Bool.eq_false_iff.mpr c6); (subst c6); (have H1 : (some false) = some r := by rw [if_neg (show ¬ (false = true) by decide)] at H; exact H); (clear H); (have H := H1); (clear H1); (obtain rfl := Option.some.inj H); (have p107 : 0 ≤ (x7_1 : Int) := Oa); (have q107 : x7_1 < (l0.length : Int) := Oa); (obtain ⟨ad107, e107, hx107_0⟩ := Kd.at_int HR0.out x7_1 p107 q107); (cases e107); (replace p107 := eq_true p107); (replace q107 := eq_true q107); (go_wp2_with (first | ((with_reducible refine gate_callee (f := 77) rfl ?_); refine Gl (some 12) Tryz.func77 #[.int .i64 (rd l0 x7_1)] ?_; (with_reducible refine (codepoint_Valid.calls (rd l0 x7_1) false _ A5.out).mono ?_); rintro e w' ⟨rfl, ⟨nd, rfl⟩⟩; refine ⟨_, rfl, ?_⟩))); (go_ret); (exact ⟨by first | rfl | (simp; done) | (simp [*]; done), by repeat (first | exact Drawn0.refl _ | apply Drawn0.step)⟩)
          · (rw [if_neg c4] at H); (exact absurd H (by simp))
        · (rw [if_neg c3] at H); (exact absurd H (by simp))
      · (rw [if_neg c2] at H); (have c2b0 : decide (x7_1 < (l0.length : Int)) = false := decide_eq_false c2); (clear c2); (obtain rfl := Option.some.inj H); (go_wp2); (go_ret); (exact ⟨by first | rfl | (simp; done) | (simp [*]; done), by repeat (first | exact Drawn0.refl _ | apply Drawn0.step)⟩)
end Go.Proofs.YtdaijpjjilmkkaaGreatDoor.Pr
