/- Texts of the claim ElementFiles, joined: Prx25, UBase, HCut, ECut, EPure, HBuild, Prx23, HElText. -/
import Derived.Test.YtdaijpjjilmkkaaGreatDoorZElementFiles22
import Derived.Test.YtdaijpjjilmkkaaGreatDoorZElementFiles26
import Derived.Test.YtdaijpjjilmkkaaGreatDoorZElementFiles24
import Derived.Lib.Strings
import Derived.Test.YtdaijpjjilmkkaaGreatDoorZElementFiles0
import Derived.Lib.SplitLaws
import Derived.Shelf.Strings.BuilderF
import Derived.Lib.FrozenHead2
import Derived.Lib.OthersKept
import Derived.WalkKit
import Derived.RangeFuncBox
import Derived.Test.YtdaijpjjilmkkaaGreatDoorProg
import Derived.Lib.Hide
namespace Go.Proofs.YtdaijpjjilmkkaaGreatDoor.Pr
open Go.RowKit Go.Proofs.YtdaijpjjilmkkaaGreatDoorW.PrintWords Go.Proofs.YtdaijpjjilmkkaaGreatDoorW.PrintLast Go.Proofs.YtdaijpjjilmkkaaGreatDoorW.PrintMore
attribute [local go_sem] max2_int min2_int max_two min_two max_three min_three max_four min_four   -- for this text's walks alone
set_option linter.unusedVariables false
set_option linter.unusedSimpArgs false
def element_words.f (l0 : List ByteArray) : Option (ByteArray) := (strings_Join.f l0 (⟨#[32]⟩ : ByteArray)).bind fun t327 => (if t327.size + 1 ≤ 9223372036854775807 then (some (t327 ++ (⟨#[10]⟩ : ByteArray))) else (none))
set_option maxHeartbeats 8000000 in
set_option maxRecDepth 100000 in
theorem element_words.calls (A0 : Option Addr) (c0 : Nat) (l0 : List ByteArray) (r : ByteArray) (w : World) (hr0 : Kd.C Kd.string w A0 l0.length l0) (hc0 : l0.length ≤ c0) (h : element_words.f l0 = some r) :
    Calls Tryz.prog 28 #[.slice A0 l0.length c0] w fun e w' => e = .returned (.string r) ∧ Below w.heap.size w w' := by
  (have HR0 := Aside0.mk hr0); (have HC0 := Aside0.mk hc0); (clear hr0 hc0); (have HB := Aside0.mk (Below.refl w.heap.size w)); (have H : ((strings_Join.f l0 (⟨#[32]⟩ : ByteArray)).bind fun t327 => (if t327.size + 1 ≤ 9223372036854775807 then (some (t327 ++ (⟨#[10]⟩ : ByteArray))) else (none))) = some r := h); (clear h); (replace H := Option.bind_eq_some_iff.mp H); (obtain ⟨t327, A20, H⟩ := H); (replace H : (if t327.size + 1 ≤ 9223372036854775807 then (some (t327 ++ (⟨#[10]⟩ : ByteArray))) else (none)) = some r := H); (have A2 := Aside0.mk A20); (clear A20); (by_cases c3 : t327.size + 1 ≤ 9223372036854775807)
  · (rw [if_pos c3] at H); (have c3b0 := eq_true c3); (have c3b1 : decide (t327.size + 1 ≤ 9223372036854775807) = true := decide_eq_true c3); (try have c3b2 : (9223372036854775807 < t327.size + 1) = False := eq_false (Nat.not_lt.2 c3)); (obtain rfl := Option.some.inj H); (go_enter Tryz.func28, Tryz.ntmps28); (go_wp2_with (first | ((with_reducible refine gate_callee (f := 54) rfl ?_); refine goesL_ (some 4) rfl rfl Tryz.func54 (by kernel_rfl) rfl #[.slice A0 l0.length c0, .string (⟨#[32]⟩ : ByteArray)] rfl (by (try simp only [List.map_toArray, List.map_cons, List.map_nil]); first | done | rfl | (simp only [List.length_drop, List.length_take]; rfl)) ?_; (with_reducible refine (strings_Join.calls _ _ l0 (⟨#[32]⟩ : ByteArray) t327 _ ?side1 ?side2 A2.out).mono ?_); (case side1 => repeat (first | exact HR0.out | (with_reducible refine Kd.C_alloc ?_ _) | (with_reducible refine Kd.C_drewN ?_ _) | (with_reducible refine Kd.C_drew ?_))); (case side2 => exact HC0.out); rintro e w4 ⟨rfl, hb⟩; refine ⟨_, rfl, ?_⟩; have n0_ := Aside0.mk (below_step (by repeat (first | (with_reducible first | exact HB.out | apply below_alloc | apply pw_below_drewN | apply below_drew1) | exact HB.out)) hb); clear HB; have HB := n0_; clear n0_))); (go_ret); (exact ⟨by first | rfl | (simp [errW_none, errW_some] <;> rfl) | (simp [*, errW_none, errW_some] <;> rfl), by repeat (first | (with_reducible first | exact HB.out | apply below_alloc | apply pw_below_drewN | apply below_drew1) | exact HB.out)⟩)
  · (rw [if_neg c3] at H); (exact absurd H (by simp))
mutual
def codepoint_Parse.l0 : Nat → ByteArray → Int → Int → Int → Option (Int × Int)
  | 0, _, _, _, _ => none
  | k + 1, x0, x4, x11, x12 => if x12 < x11 then (if 0 ≤ x12 then (if x12 < (x0.size : Int) then (if (bt x0 x12) ≥ 48 then (codepoint_Parse.j1 k x0 x4 (bt x0 x12) x11 x12 (decide ((bt x0 x12) ≤ 57))) else (codepoint_Parse.j1 k x0 x4 (bt x0 x12) x11 x12 false)) else (none)) else (none)) else (if x0.toList = ([] : List UInt8) then (some (0, 3)) else ((codepoint_Hex.f x4).bind fun t328 => (if t328.toList = x0.toList then (some (x4, 0)) else (some (0, 3)))))
def codepoint_Parse.j1 : Nat → ByteArray → Int → Int → Int → Int → Bool → Option (Int × Int)
  | 0, _, _, _, _, _, _ => none
  | k + 1, x0, x4, x6, x11, x12, x18 => if x18 = true then (codepoint_Parse.l0 k x0 (wrap64 ((wrap64 (x4 * 16)) + ((x6 - 48) % 256))) x11 (wrap64 (x12 + 1))) else (if x6 ≥ 65 then (if x6 ≤ 70 then (codepoint_Parse.l0 k x0 (wrap64 ((wrap64 ((wrap64 (x4 * 16)) + ((x6 - 65) % 256))) + 10)) x11 (wrap64 (x12 + 1))) else (some (0, 3))) else (some (0, 3)))
end
def codepoint_Parse.f (k : Nat) (a0 : ByteArray) : Option (Int × Int) := if (a0.size : Int) > 6 then (some (0, 3)) else (codepoint_Parse.l0 k a0 0 (a0.size : Int) 0)
theorem codepoint_Parse.mono_l : ∀ k, (∀ y0 y1 y2 y3, LeO (codepoint_Parse.l0 k y0 y1 y2 y3) (codepoint_Parse.l0 (k + 1) y0 y1 y2 y3)) ∧ (∀ y0 y1 y2 y3 y4 y5, LeO (codepoint_Parse.j1 k y0 y1 y2 y3 y4 y5) (codepoint_Parse.j1 (k + 1) y0 y1 y2 y3 y4 y5))
  | 0 => ⟨fun _ _ _ _ r h => by simp [codepoint_Parse.l0] at h, fun _ _ _ _ _ _ r h => by simp [codepoint_Parse.j1] at h⟩
  | k + 1 => by
    (obtain ⟨ih0, ih1⟩ := codepoint_Parse.mono_l k); (refine ⟨?_, ?_⟩)
    · (intro y0 y1 y2 y3); (unfold codepoint_Parse.l0)
      repeat' first
      | (with_reducible exact ih0 _ _ _ _)
      | (with_reducible exact ih1 _ _ _ _ _ _)
      | (with_reducible exact LeO.refl _)
      | (with_reducible exact LeO.none _)
      | (with_reducible refine LeO.ite ?_ ?_)
      | (with_reducible refine LeO.bind ?_ (fun _ => ?_))
      | exact ih0 _ _ _ _
      | exact ih1 _ _ _ _ _ _
      | exact LeO.none _
      | refine LeO.ite ?_ ?_
      | refine LeO.bind ?_ (fun _ => ?_)
    · (intro y0 y1 y2 y3 y4 y5); (unfold codepoint_Parse.j1)
      repeat' first
      | (with_reducible exact ih0 _ _ _ _)
      | (with_reducible exact ih1 _ _ _ _ _ _)
      | (with_reducible exact LeO.refl _)
      | (with_reducible exact LeO.none _)
      | (with_reducible refine LeO.ite ?_ ?_)
      | (with_reducible refine LeO.bind ?_ (fun _ => ?_))
      | exact ih0 _ _ _ _
      | exact ih1 _ _ _ _ _ _
      | exact LeO.none _
      | refine LeO.ite ?_ ?_
      | refine LeO.bind ?_ (fun _ => ?_)
theorem codepoint_Parse.mono : ∀ a0 k, LeO (codepoint_Parse.f k a0) (codepoint_Parse.f (k + 1) a0) := by
  (intro a0 k); (obtain ⟨ih0, ih1⟩ := codepoint_Parse.mono_l k); (unfold codepoint_Parse.f)
  repeat' first
      | (with_reducible exact ih0 _ _ _ _)
      | (with_reducible exact ih1 _ _ _ _ _ _)
      | (with_reducible exact LeO.refl _)
      | (with_reducible exact LeO.none _)
      | (with_reducible refine LeO.ite ?_ ?_)
      | (with_reducible refine LeO.bind ?_ (fun _ => ?_))
      | exact ih0 _ _ _ _
      | exact ih1 _ _ _ _ _ _
      | exact LeO.none _
      | refine LeO.ite ?_ ?_
      | refine LeO.bind ?_ (fun _ => ?_)
set_option maxHeartbeats 8000000 in
set_option maxRecDepth 100000 in
theorem codepoint_Parse.calls (k : Nat) (a0 : ByteArray) (r1 : Int) (r2 : Int) (w : World) (h : codepoint_Parse.f k a0 = some (r1, r2)) :
    Calls Tryz.prog 70 #[.string a0] w fun e w' => e = .returned (.tuple #[.int .i64 r1, .int .i64 r2]) ∧ Below w.heap.size w w' := by
  (have HB := Aside0.mk (Below.refl w.heap.size w)); (have H : (if (a0.size : Int) > 6 then (some (0, 3)) else (codepoint_Parse.l0 k a0 0 (a0.size : Int) 0)) = some (r1, r2) := h); (clear h); (by_cases c2 : (a0.size : Int) > 6)
  · (rw [if_pos c2] at H); (have c2b0 : decide (6 < (a0.size : Int)) = true := decide_eq_true c2); (have c2b1 : decide (6 < a0.size) = true := decide_eq_true (by omega)); (clear c2); (simp only [Option.some.injEq, Prod.mk.injEq] at H); (obtain ⟨rfl, rfl⟩ := H); (go_enter Tryz.func70, Tryz.ntmps70); (go_wp2); (go_ret2); (exact ⟨by first | rfl | (simp [errW_none, errW_some] <;> rfl) | (simp [*, errW_none, errW_some] <;> rfl), by repeat (first | (with_reducible first | exact HB.out | apply below_alloc | apply pw_below_drewN | apply below_drew1) | exact HB.out)⟩)
  · (rw [if_neg c2] at H); (have c2b0 : decide (6 < (a0.size : Int)) = false := decide_eq_false c2); (have c2b1 : decide (6 < a0.size) = false := decide_eq_false (by omega)); (clear c2); (have H' := Aside0.mk H); (clear H); (go_enter Tryz.func70, Tryz.ntmps70); (go_wp2); (go_loopg [4, 12] k (fun kq v4 v12 w' => ∃ (x4_1 : Int) (x12_1 : Int), v4 = .int .i64 x4_1 ∧ v12 = .int .i64 x12_1 ∧ Aside0 (codepoint_Parse.l0 kq a0 x4_1 (a0.size : Int) x12_1 = some (r1, r2)) ∧ Aside0 (kq ≤ k) ∧ Aside0 (Below w.heap.size w w')))
    case atStart => exact ⟨(0), (0), (by first | rfl | (simp; done) | (simp [*]; done) | exact congrArg Value.bool (ne_nil_bool _) | exact congrArg Value.bool (eq_nil_bool _)), (by first | rfl | (simp; done) | (simp [*]; done) | exact congrArg Value.bool (ne_nil_bool _) | exact congrArg Value.bool (eq_nil_bool _)), H', ⟨Nat.le_refl _⟩, ⟨by repeat (first | (with_reducible first | exact HB.out | apply below_alloc | apply pw_below_drewN | apply below_drew1) | exact HB.out)⟩⟩
    case round =>
      (clear H'); (try clear c2); (try clear c2b0); (try clear c2b1); (try clear p2); (obtain ⟨x4_1, x12_1, rfl, rfl, HA, HK1, HB⟩ := hrel)
      cases gk with
      | zero => exact absurd HA.out (by simp [codepoint_Parse.l0])
      | succ k1 =>
        (have H := HA.out); (clear HA); (simp only [codepoint_Parse.l0] at H); (by_cases c3 : x12_1 < (a0.size : Int))
        · (rw [if_pos c3] at H); (have c3b0 : decide (x12_1 < (a0.size : Int)) = true := decide_eq_true c3); (clear c3); (by_cases c4 : 0 ≤ x12_1)
          · (rw [if_pos c4] at H); (have c4b0 : decide (0 ≤ x12_1) = true := decide_eq_true c4); (clear c4); (by_cases c5 : x12_1 < (a0.size : Int))
            · (rw [if_pos c5] at H); (have c5b0 : decide (x12_1 < (a0.size : Int)) = true := decide_eq_true c5); (clear c5); (have HC7 := Aside0.mk H); (clear H); (have p6 : 0 ≤ (x12_1 : Int) := of_decide_eq_true (by first | (with_reducible assumption) | assumption)); (have q6 : x12_1 < (a0.size : Int) := of_decide_eq_true (by first | (with_reducible assumption) | assumption)); (have hx6 := bt_at a0 x12_1); (replace p6 := eq_true p6); (replace q6 := eq_true q6); (go_upto_region 9 with (fail)); (go_cut [18] (fun v18 wc => ∃ (kq : Nat) (x18_6 : Bool), v18 = .bool x18_6 ∧ Aside0 (codepoint_Parse.j1 kq a0 x4_1 (bt a0 x12_1) (a0.size : Int) x12_1 x18_6 = some (r1, r2)) ∧ Aside0 (kq ≤ k1) ∧ Aside0 (Below w.heap.size w wc)))
              case first =>
                (have H := HC7.out); (clear HC7); (by_cases c8 : (bt a0 x12_1) ≥ 48)
                · (rw [if_pos c8] at H); (have c8b0 : decide (48 ≤ (bt a0 x12_1)) = true := decide_eq_true c8); (clear c8); (first | rw [c8b0] | (simp only [i64_w, i32_w]; rw [c8b0]) | skip); (have H' := Aside0.mk H); (clear H); (go_wp2); (go_meet)
                  case rel => exact ⟨_, (decide ((bt a0 x12_1) ≤ 57)), (by first | rfl | (simp; done) | (simp [*]; done) | exact congrArg Value.bool (ne_nil_bool _) | exact congrArg Value.bool (eq_nil_bool _)), H', ⟨by have := HK1.out; first | omega | exact Nat.le_refl _⟩, ⟨by repeat (first | (with_reducible first | exact HB.out | apply below_alloc | apply pw_below_drewN | apply below_drew1) | exact HB.out)⟩⟩
                · (rw [if_neg c8] at H); (have c8b0 : decide (48 ≤ (bt a0 x12_1)) = false := decide_eq_false c8); (clear c8); (first | rw [c8b0] | (simp only [i64_w, i32_w]; rw [c8b0]) | skip); (have H' := Aside0.mk H); (clear H); (go_wp2); (go_meet)
                  case rel => exact ⟨_, (false), (by first | rfl | (simp; done) | (simp [*]; done) | exact congrArg Value.bool (ne_nil_bool _) | exact congrArg Value.bool (eq_nil_bool _)), H', ⟨by have := HK1.out; first | omega | exact Nat.le_refl _⟩, ⟨by repeat (first | (with_reducible first | exact HB.out | apply below_alloc | apply pw_below_drewN | apply below_drew1) | exact HB.out)⟩⟩
              case rest =>
                (clear HC7); (try clear c2); (try clear c2b0); (try clear c2b1); (try clear p2); (try clear c3); (try clear c3b0); (try clear c4); (try clear c4b0); (try clear c5); (try clear c5b0); (try clear p6); (try clear q6); (try clear hx6); (try clear c7); (try clear c8); (try clear c8b0); (try clear p2); (try clear p6); (try clear q6); (obtain ⟨kq, x18_6, rfl, HA, HJ6, HB⟩ := hcut)
                cases kq with
                | zero => exact absurd HA.out (by simp [codepoint_Parse.j1])
                | succ kj6 =>
                  (have H := HA.out); (clear HA); (simp only [codepoint_Parse.j1] at H); (by_cases c9 : x18_6 = true)
                  · (subst c9); (have H1 : (codepoint_Parse.l0 kj6 a0 (wrap64 ((wrap64 (x4_1 * 16)) + (((bt a0 x12_1) - 48) % 256))) (a0.size : Int) (wrap64 (x12_1 + 1))) = some (r1, r2) := by rw [if_pos rfl] at H; exact H); (clear H); (have H := H1); (clear H1); (have H' := Aside0.mk H); (clear H); (go_wp2); (go_roundg kj6)
                    case measure => have := HK1.out; have := HJ6.out; omega
                    case rel => exact ⟨(wrap64 ((wrap64 (x4_1 * 16)) + (((bt a0 x12_1) - 48) % 256))), (wrap64 (x12_1 + 1)), (by first | rfl | (simp; done) | (simp [*]; done) | exact congrArg Value.bool (ne_nil_bool _) | exact congrArg Value.bool (eq_nil_bool _)), (by first | rfl | (simp; done) | (simp [*]; done) | exact congrArg Value.bool (ne_nil_bool _) | exact congrArg Value.bool (eq_nil_bool _)), H', ⟨by have := HK1.out; have := HJ6.out; omega⟩, ⟨by repeat (first | (with_reducible first | exact HB.out | apply below_alloc | apply pw_below_drewN | apply below_drew1) | exact HB.out)⟩⟩
                  · (replace c9 := Bool.eq_false_iff.mpr c9); (subst c9); (have H1 : (if (bt a0 x12_1) ≥ 65 then (if (bt a0 x12_1) ≤ 70 then (codepoint_Parse.l0 kj6 a0 (wrap64 ((wrap64 ((wrap64 (x4_1 * 16)) + (((bt a0 x12_1) - 65) % 256))) + 10)) (a0.size : Int) (wrap64 (x12_1 + 1))) else (some (0, 3))) else (some (0, 3))) = some (r1, r2) := by rw [if_neg (show ¬ (false = true) by decide)] at H; exact H); (clear H); (have H := H1); (clear H1); (by_cases c10 : (bt a0 x12_1) ≥ 65)
                    · (rw [if_pos c10] at H); (have c10b0 : decide (65 ≤ (bt a0 x12_1)) = true := decide_eq_true c10); (clear c10); (by_cases c11 : (bt a0 x12_1) ≤ 70)
                      · (rw [if_pos c11] at H); (have c11b0 : decide ((bt a0 x12_1) ≤ 70) = true := decide_eq_true c11); (clear c11); (have H' := Aside0.mk H); (clear H); (go_wp2); (go_roundg kj6)
                        case measure => have := HK1.out; have := HJ6.out; omega
                        case rel => exact ⟨(wrap64 ((wrap64 ((wrap64 (x4_1 * 16)) + (((bt a0 x12_1) - 65) % 256))) + 10)), (wrap64 (x12_1 + 1)), (by first | rfl | (simp; done) | (simp [*]; done) | exact congrArg Value.bool (ne_nil_bool _) | exact congrArg Value.bool (eq_nil_bool _)), (by first | rfl | (simp; done) | (simp [*]; done) | exact congrArg Value.bool (ne_nil_bool _) | exact congrArg Value.bool (eq_nil_bool _)), H', ⟨by have := HK1.out; have := HJ6.out; omega⟩, ⟨by repeat (first | (with_reducible first | exact HB.out | apply below_alloc | apply pw_below_drewN | apply below_drew1) | exact HB.out)⟩⟩
                      · (rw [if_neg c11] at H); (have c11b0 : decide ((bt a0 x12_1) ≤ 70) = false := decide_eq_false c11); (clear c11); (simp only [Option.some.injEq, Prod.mk.injEq] at H); (obtain ⟨rfl, rfl⟩ := H); (go_wp2); (go_ret2); (exact ⟨by first | rfl | (simp [errW_none, errW_some] <;> rfl) | (simp [*, errW_none, errW_some] <;> rfl), by repeat (first | (with_reducible first | exact HB.out | apply below_alloc | apply pw_below_drewN | apply below_drew1) | exact HB.out)⟩)
                    · (rw [if_neg c10] at H); (have c10b0 : decide (65 ≤ (bt a0 x12_1)) = false := decide_eq_false c10); (clear c10); (simp only [Option.some.injEq, Prod.mk.injEq] at H); (obtain ⟨rfl, rfl⟩ := H); (go_wp2); (go_ret2); (exact ⟨by first | rfl | (simp [errW_none, errW_some] <;> rfl) | (simp [*, errW_none, errW_some] <;> rfl), by repeat (first | (with_reducible first | exact HB.out | apply below_alloc | apply pw_below_drewN | apply below_drew1) | exact HB.out)⟩)
            · (rw [if_neg c5] at H); (exact absurd H (by simp))
          · (rw [if_neg c4] at H); (exact absurd H (by simp))
        · (rw [if_neg c3] at H); (have c3b0 : decide (x12_1 < (a0.size : Int)) = false := decide_eq_false c3); (clear c3); (by_cases c12 : a0.toList = ([] : List UInt8))
          · (rw [if_pos c12] at H); (have c12b0 : (a0.toList == ([] : List UInt8)) = true := beq_iff_eq.mpr c12); (have c12b1 : (a0.toList != ([] : List UInt8)) = false := bne_eq_false_iff_eq.mpr c12); (clear c12); (simp only [Option.some.injEq, Prod.mk.injEq] at H); (obtain ⟨rfl, rfl⟩ := H); (go_wp2); (go_ret2); (exact ⟨by first | rfl | (simp [errW_none, errW_some] <;> rfl) | (simp [*, errW_none, errW_some] <;> rfl), by repeat (first | (with_reducible first | exact HB.out | apply below_alloc | apply pw_below_drewN | apply below_drew1) | exact HB.out)⟩)
          · (rw [if_neg c12] at H); (have c12b0 : (a0.toList == ([] : List UInt8)) = false := beq_eq_false_iff_ne.mpr c12); (have c12b1 : (a0.toList != ([] : List UInt8)) = true := bne_iff_ne.mpr c12); (replace H := Option.bind_eq_some_iff.mp H); (obtain ⟨t328, A130, H⟩ := H); (replace H : (if t328.toList = a0.toList then (some (x4_1, 0)) else (some (0, 3))) = some (r1, r2) := H); (have A13 := Aside0.mk A130); (clear A130); (by_cases c14 : t328.toList = a0.toList)
            · (rw [if_pos c14] at H); (have c14b0 : (t328.toList == a0.toList) = true := beq_iff_eq.mpr c14); (have c14b1 : (t328.toList != a0.toList) = false := bne_eq_false_iff_eq.mpr c14); (clear c14); (simp only [Option.some.injEq, Prod.mk.injEq] at H); (obtain ⟨rfl, rfl⟩ := H); (go_wp2_with (first | (go_at_call 57; (with_reducible refine (codepoint_Hex.calls x4_1 t328 _ A13.out).mono ?_); rintro e w15 ⟨rfl, hb⟩; have n0_ := Aside0.mk (below_step (by repeat (first | (with_reducible first | exact HB.out | apply below_alloc | apply pw_below_drewN | apply below_drew1) | exact HB.out)) hb); clear HB; have HB := n0_; clear n0_))); (go_ret2); (exact ⟨by first | rfl | (simp [errW_none, errW_some] <;> rfl) | (simp [*, errW_none, errW_some] <;> rfl), by repeat (first | (with_reducible first | exact HB.out | apply below_alloc | apply pw_below_drewN | apply below_drew1) | exact HB.out)⟩)
            · (rw [if_neg c14] at H); (have c14b0 : (t328.toList == a0.toList) = false := beq_eq_false_iff_ne.mpr c14); (have c14b1 : (t328.toList != a0.toList) = true := bne_iff_ne.mpr c14); (simp only [Option.some.injEq, Prod.mk.injEq] at H); (obtain ⟨rfl, rfl⟩ := H); (go_wp2_with (first | (go_at_call 57; (with_reducible refine (codepoint_Hex.calls x4_1 t328 _ A13.out).mono ?_); rintro e w16 ⟨rfl, hb⟩; have n0_ := Aside0.mk (below_step (by repeat (first | (with_reducible first | exact HB.out | apply below_alloc | apply pw_below_drewN | apply below_drew1) | exact HB.out)) hb); clear HB; have HB := n0_; clear n0_))); (go_ret2); (exact ⟨by first | rfl | (simp [errW_none, errW_some] <;> rfl) | (simp [*, errW_none, errW_some] <;> rfl), by repeat (first | (with_reducible first | exact HB.out | apply below_alloc | apply pw_below_drewN | apply below_drew1) | exact HB.out)⟩)
def escape_ParseCodes.l0 : Nat → List Int → List ByteArray → Int → Int → Option (List Int × Int)
  | 0, _, _, _, _ => none
  | k + 1, x4, x12, x13, x14 => if x14 < x13 then (if 0 ≤ x14 then (if x14 < (x12.length : Int) then ((codepoint_Parse.f k (rdOf ByteArray.empty x12 x14)).bind fun bt333 => (if bt333.2 = 0 then (if x4.length < 17592186044416 then (escape_ParseCodes.l0 k (x4 ++ [bt333.1]) x12 x13 (wrap64 (x14 + 1))) else (none)) else (some (([] : List Int), 3)))) else (none)) else (none)) else (some (x4, 0))
def escape_ParseCodes.f (k : Nat) (a0 : ByteArray) : Option (List Int × Int) := if a0.toList = ([] : List UInt8) then (some (([] : List Int), 0)) else ((strings_Split.f a0 (⟨#[32]⟩ : ByteArray)).bind fun t329 => (escape_ParseCodes.l0 k ([] : List Int) t329 (t329.length : Int) 0))
theorem escape_ParseCodes.mono_l : ∀ k, (∀ y0 y1 y2 y3, LeO (escape_ParseCodes.l0 k y0 y1 y2 y3) (escape_ParseCodes.l0 (k + 1) y0 y1 y2 y3))
  | 0 => fun _ _ _ _ r h => by simp [escape_ParseCodes.l0] at h
  | k + 1 => by
    have ih0 := escape_ParseCodes.mono_l k
    · (intro y0 y1 y2 y3); (unfold escape_ParseCodes.l0)
      repeat' first
      | (with_reducible exact ih0 _ _ _ _)
      | (with_reducible exact codepoint_Parse.mono _ _)
      | (with_reducible exact LeO.refl _)
      | (with_reducible exact LeO.none _)
      | (with_reducible refine LeO.ite ?_ ?_)
      | (with_reducible refine LeO.bind ?_ (fun _ => ?_))
      | exact ih0 _ _ _ _
      | exact codepoint_Parse.mono _ _
      | exact LeO.none _
      | refine LeO.ite ?_ ?_
      | refine LeO.bind ?_ (fun _ => ?_)
theorem escape_ParseCodes.mono : ∀ a0 k, LeO (escape_ParseCodes.f k a0) (escape_ParseCodes.f (k + 1) a0) := by
  (intro a0 k); (have ih0 := escape_ParseCodes.mono_l k); (unfold escape_ParseCodes.f)
  repeat' first
      | (with_reducible exact ih0 _ _ _ _)
      | (with_reducible exact codepoint_Parse.mono _ _)
      | (with_reducible exact LeO.refl _)
      | (with_reducible exact LeO.none _)
      | (with_reducible refine LeO.ite ?_ ?_)
      | (with_reducible refine LeO.bind ?_ (fun _ => ?_))
      | exact ih0 _ _ _ _
      | exact codepoint_Parse.mono _ _
      | exact LeO.none _
      | refine LeO.ite ?_ ?_
      | refine LeO.bind ?_ (fun _ => ?_)
set_option maxHeartbeats 8000000 in
set_option maxRecDepth 100000 in
theorem escape_ParseCodes.calls (k : Nat) (a0 : ByteArray) (r1 : List Int) (r2 : Int) (w : World) (h : escape_ParseCodes.f k a0 = some (r1, r2)) (hG : GW w) :
    Calls Tryz.prog 67 #[.string a0] w fun e w' => ∃ v0_ : Value, e = .returned (.tuple #[v0_, .int .i64 r2]) ∧ Kd.R (Kd.int .i64) 3 w' w.heap.size (fun _ => True) v0_ r1 ∧ Below w.heap.size w w' := by
  (have HG := Aside0.mk hG); (clear hG); (have HB := Aside0.mk (Below.refl w.heap.size w)); (have H : (if a0.toList = ([] : List UInt8) then (some (([] : List Int), 0)) else ((strings_Split.f a0 (⟨#[32]⟩ : ByteArray)).bind fun t329 => (escape_ParseCodes.l0 k ([] : List Int) t329 (t329.length : Int) 0))) = some (r1, r2) := h); (clear h); (by_cases c2 : a0.toList = ([] : List UInt8))
  · (rw [if_pos c2] at H); (have c2b0 : (a0.toList == ([] : List UInt8)) = true := beq_iff_eq.mpr c2); (have c2b1 : (a0.toList != ([] : List UInt8)) = false := bne_eq_false_iff_eq.mpr c2); (clear c2); (simp only [Option.some.injEq, Prod.mk.injEq] at H); (obtain ⟨rfl, rfl⟩ := H); (go_enter Tryz.func67, Tryz.ntmps67); (go_wp2); (go_ret2); (exact ⟨_, by first | rfl | (simp [errW_none, errW_some] <;> rfl) | (simp [*, errW_none, errW_some] <;> rfl), by first | exact Kd.R_nil _ _ _ _ _ | exact Kd.N_nil _ _ _ _ _ | exact Kd.V_nil _ _ _ _ _ | exact Kd.Q_nil _ _ _ _ _ | exact Kd.S_nil _ _ _ _ _, by repeat (first | (with_reducible first | exact HB.out | apply below_alloc | apply pw_below_drewN | apply below_drew1) | exact HB.out)⟩)
  · (rw [if_neg c2] at H); (have c2b0 : (a0.toList == ([] : List UInt8)) = false := beq_eq_false_iff_ne.mpr c2); (have c2b1 : (a0.toList != ([] : List UInt8)) = true := bne_iff_ne.mpr c2); (replace H := Option.bind_eq_some_iff.mp H); (obtain ⟨t329, A30, H⟩ := H); (replace H : (escape_ParseCodes.l0 k ([] : List Int) t329 (t329.length : Int) 0) = some (r1, r2) := H); (have A3 := Aside0.mk A30); (clear A30); (have H' := Aside0.mk H); (clear H); (go_enter Tryz.func67, Tryz.ntmps67); (go_wp2_with (first | ((with_reducible refine gate_callee (f := 36) rfl ?_); refine goesL_ (some 12) rfl rfl Tryz.func36 (by kernel_rfl) rfl #[.string a0, .string (⟨#[32]⟩ : ByteArray)] rfl (by (try simp only [List.map_toArray, List.map_cons, List.map_nil]); first | done | rfl | (simp only [List.length_drop, List.length_take]; rfl)) ?_; (with_reducible refine (strings_Split.calls a0 (⟨#[32]⟩ : ByteArray) t329 _ A3.out ?sideG).mono ?_); (case sideG => exact GW.below HG.out (by repeat (first | (with_reducible first | exact HB.out | apply below_alloc | apply pw_below_drewN | apply below_drew1) | exact HB.out))); rintro e w4 ⟨v330, rfl, ho0, hb⟩; refine ⟨_, rfl, ?_⟩; have n0_ := Aside0.mk (Kd.R_lower ho0 (below_size (by repeat (first | (with_reducible first | exact HB.out | apply below_alloc | apply pw_below_drewN | apply below_drew1) | exact HB.out)))); have n1_ := Aside0.mk (below_step (by repeat (first | (with_reducible first | exact HB.out | apply below_alloc | apply pw_below_drewN | apply below_drew1) | exact HB.out)) hb); clear HB; have HO331 := n0_; have HB := n1_; clear n0_ n1_; (try clear ho0); obtain ⟨Ao5, co5, eo5⟩ := Kd.R_slice HO331.out; subst eo5))); (go_loopg [4, 14] k (fun kq v4 v14 w' => ∃ (x4_1 : List Int) (x14_1 : Int), v14 = .int .i64 x14_1 ∧ Aside0 (escape_ParseCodes.l0 kq x4_1 t329 (t329.length : Int) x14_1 = some (r1, r2)) ∧ Aside0 (kq ≤ k) ∧ Aside0 (Kd.R (Kd.int .i64) 3 w' w.heap.size (fun _ => True) v4 x4_1) ∧ Aside0 (Kd.R Kd.string 9 w' w.heap.size (fun _ => True) (.slice Ao5 t329.length co5) t329) ∧ Aside0 (Below w.heap.size w w')))
    case atStart => exact ⟨(([] : List Int)), (0), (by first | rfl | (simp; done) | (simp [*]; done) | exact congrArg Value.bool (ne_nil_bool _) | exact congrArg Value.bool (eq_nil_bool _)), H', ⟨Nat.le_refl _⟩, ⟨by first | exact Kd.R_nil _ _ _ _ _ | exact Kd.N_nil _ _ _ _ _ | exact Kd.V_nil _ _ _ _ _ | exact Kd.Q_nil _ _ _ _ _ | exact Kd.S_nil _ _ _ _ _⟩, ⟨by (with_reducible repeat (first | apply Kd.R_alloc | apply Kd.R_drewN | apply Kd.R_drew)); exact HO331.out⟩, ⟨by repeat (first | (with_reducible first | exact HB.out | apply below_alloc | apply pw_below_drewN | apply below_drew1) | exact HB.out)⟩⟩
    case round =>
      (clear H'); (try clear c2); (try clear c2b0); (try clear c2b1); (try clear p2); (try clear c3); (obtain ⟨x4_1, x14_1, rfl, HA, HK1, HO_4, HO_12, HB⟩ := hrel)
      cases gk with
      | zero => exact absurd HA.out (by simp [escape_ParseCodes.l0])
      | succ k1 =>
        (have H := HA.out); (clear HA); (simp only [escape_ParseCodes.l0] at H); (by_cases c6 : x14_1 < (t329.length : Int))
        · (rw [if_pos c6] at H); (have c6b0 : decide (x14_1 < (t329.length : Int)) = true := decide_eq_true c6); (clear c6); (by_cases c7 : 0 ≤ x14_1)
          · (rw [if_pos c7] at H); (have c7b0 : decide (0 ≤ x14_1) = true := decide_eq_true c7); (clear c7); (by_cases c8 : x14_1 < (t329.length : Int))
            · (rw [if_pos c8] at H); (have c8b0 : decide (x14_1 < (t329.length : Int)) = true := decide_eq_true c8); (clear c8); (replace H := Option.bind_eq_some_iff.mp H); (obtain ⟨⟨t333, t334⟩, A90, H⟩ := H); (replace H : (if t334 = 0 then (if x4_1.length < 17592186044416 then (escape_ParseCodes.l0 k1 (x4_1 ++ [t333]) t329 (t329.length : Int) (wrap64 (x14_1 + 1))) else (none)) else (some (([] : List Int), 3))) = some (r1, r2) := H); (have A9 := Aside0.mk A90); (clear A90); (by_cases c10 : t334 = 0)
              · (rw [if_pos c10] at H); (have c10b0 : (t334 == 0) = true := beq_iff_eq.mpr c10); (have c10b1 : (t334 != 0) = false := bne_eq_false_iff_eq.mpr c10); (clear c10); (by_cases c11 : x4_1.length < 17592186044416)
                · (rw [if_pos c11] at H); (have LMc11 := Aside0.mk c11); (clear c11); (obtain ⟨y335, hy335⟩ : ∃ y_ : List Int, y_ = (x4_1 ++ [t333]) := ⟨_, rfl⟩); (replace H : (escape_ParseCodes.l0 k1 y335 t329 (t329.length : Int) (wrap64 (x14_1 + 1))) = some (r1, r2) := by first | (rw [hy335]; with_reducible exact H) | (have H2_ := (Option.bind_some _ _).symm.trans H; rw [hy335]; with_reducible exact H2_) | (have H2_ := (Option.bind_some _ _).symm.trans H; with_reducible exact H2_) | with_reducible exact H | (rw [hy335]; exact H) | exact H); (have Ny335 := Aside0.mk hy335); (clear hy335); (have H' := Aside0.mk H); (clear H); (have p332 : 0 ≤ (x14_1 : Int) := of_decide_eq_true (by first | (with_reducible assumption) | assumption)); (have q332 : x14_1 < (t329.length : Int) := of_decide_eq_true (by first | (with_reducible assumption) | assumption)); (obtain ⟨ad332, e332, hx332_0⟩ := Kd.at_string (Kd.R_reads' HO_12.out).2.2 x14_1 p332 q332); (cases e332); (replace p332 := eq_true p332); (replace q332 := eq_true q332); (go_wp2_with (first | ((with_reducible refine gate_callee (f := 70) rfl ?_); refine goesL_ (some 20) rfl rfl Tryz.func70 (by kernel_rfl) rfl #[.string (rdOf ByteArray.empty t329 x14_1)] rfl (by (try simp only [List.map_toArray, List.map_cons, List.map_nil]); first | done | rfl | (simp only [List.length_drop, List.length_take]; rfl)) ?_; (with_reducible refine (codepoint_Parse.calls k1 (rdOf ByteArray.empty t329 x14_1) t333 t334 _ A9.out).mono ?_); rintro e w12 ⟨rfl, hb⟩; refine ⟨_, rfl, ?_⟩; have n0_ := Aside0.mk (Kd.R_below (by (with_reducible repeat (first | apply Kd.R_alloc | apply Kd.R_drewN | apply Kd.R_drew)); exact HO_4.out) hb); have n1_ := Aside0.mk (Kd.R_below (by (with_reducible repeat (first | apply Kd.R_alloc | apply Kd.R_drewN | apply Kd.R_drew)); exact HO_12.out) hb); have n2_ := Aside0.mk (below_step (by repeat (first | (with_reducible first | exact HB.out | apply below_alloc | apply pw_below_drewN | apply below_drew1) | exact HB.out)) hb); clear HO_4; clear HO_12; clear HB; have HO_4 := n0_; have HO_12 := n1_; have HB := n2_; clear n0_ n1_ n2_) | ((with_reducible refine gate_builtin (b := .append) (xs := #[.tmp 25, .tmp 27]) rfl ?_); at_builtin; refine Kd.R_append (Kd.int .i64) (w0 := w) w.heap.size rfl (.tmp 25) (.tmp 27) 47 3 (.int .i64 0) 8 rfl Tryz.underlying47 info3 rfl (by decide) (by omega) u4 x4_1 t333 [.int .i64 t333] (fun _ => True) (fun _ => False) rfl rfl ?aP (fun _ hk => hk.elim) ?aF ?aO ?aB ?aS ?aL ?_; (case aP => exact rfl); (case aB => exact (by repeat (first | (with_reducible first | exact HB.out | apply below_alloc | apply pw_below_drewN | apply below_drew1) | exact HB.out))); (case aF => exact (fun _ _ => trivial)); (case aO => exact (by (with_reducible repeat (first | apply Kd.R_alloc | apply Kd.R_drewN | apply Kd.R_drew)); exact HO_4.out)); (case aS => exact (below_size (by repeat (first | (with_reducible first | exact HB.out | apply below_alloc | apply pw_below_drewN | apply below_drew1) | exact HB.out)))); (case aL => have := LMc11.out; omega); intro v336 w13 ho hb hg hat; rw [← Ny335.out] at ho; have n0_ := Aside0.mk (Kd.R_over' (by (with_reducible repeat (first | apply Kd.R_alloc | apply Kd.R_drewN | apply Kd.R_drew)); exact HO_12.out) (Kd.R_typed (by (with_reducible repeat (first | apply Kd.R_alloc | apply Kd.R_drewN | apply Kd.R_drew)); exact HO_4.out)) (by decide) hg); have n1_ := Aside0.mk (hb); have n2_ := Aside0.mk (ho); clear HO_12; clear HB; clear HO_4; have HO_12 := n0_; have HB := n1_; have HO337 := n2_; clear n0_ n1_ n2_; clear ho hb hg hat))); (go_roundg k1)
                  case measure => have := HK1.out; omega
                  case rel => exact ⟨(y335), (wrap64 (x14_1 + 1)), (by first | rfl | (simp; done) | (simp [*]; done) | exact congrArg Value.bool (ne_nil_bool _) | exact congrArg Value.bool (eq_nil_bool _)), H', ⟨by have := HK1.out; omega⟩, ⟨by (with_reducible repeat (first | apply Kd.R_alloc | apply Kd.R_drewN | apply Kd.R_drew)); exact HO337.out⟩, ⟨by (with_reducible repeat (first | apply Kd.R_alloc | apply Kd.R_drewN | apply Kd.R_drew)); exact HO_12.out⟩, ⟨by repeat (first | (with_reducible first | exact HB.out | apply below_alloc | apply pw_below_drewN | apply below_drew1) | exact HB.out)⟩⟩
                · (rw [if_neg c11] at H); (exact absurd H (by simp))
              · (rw [if_neg c10] at H); (have c10b0 : (t334 == 0) = false := beq_eq_false_iff_ne.mpr c10); (have c10b1 : (t334 != 0) = true := bne_iff_ne.mpr c10); (simp only [Option.some.injEq, Prod.mk.injEq] at H); (obtain ⟨rfl, rfl⟩ := H); (have p332 : 0 ≤ (x14_1 : Int) := of_decide_eq_true (by first | (with_reducible assumption) | assumption)); (have q332 : x14_1 < (t329.length : Int) := of_decide_eq_true (by first | (with_reducible assumption) | assumption)); (obtain ⟨ad332, e332, hx332_0⟩ := Kd.at_string (Kd.R_reads' HO_12.out).2.2 x14_1 p332 q332); (cases e332); (replace p332 := eq_true p332); (replace q332 := eq_true q332); (go_wp2_with (first | ((with_reducible refine gate_callee (f := 70) rfl ?_); refine goesL_ (some 20) rfl rfl Tryz.func70 (by kernel_rfl) rfl #[.string (rdOf ByteArray.empty t329 x14_1)] rfl (by (try simp only [List.map_toArray, List.map_cons, List.map_nil]); first | done | rfl | (simp only [List.length_drop, List.length_take]; rfl)) ?_; (with_reducible refine (codepoint_Parse.calls k1 (rdOf ByteArray.empty t329 x14_1) t333 t334 _ A9.out).mono ?_); rintro e w14 ⟨rfl, hb⟩; refine ⟨_, rfl, ?_⟩; have n0_ := Aside0.mk (Kd.R_below (by (with_reducible repeat (first | apply Kd.R_alloc | apply Kd.R_drewN | apply Kd.R_drew)); exact HO_4.out) hb); have n1_ := Aside0.mk (Kd.R_below (by (with_reducible repeat (first | apply Kd.R_alloc | apply Kd.R_drewN | apply Kd.R_drew)); exact HO_12.out) hb); have n2_ := Aside0.mk (below_step (by repeat (first | (with_reducible first | exact HB.out | apply below_alloc | apply pw_below_drewN | apply below_drew1) | exact HB.out)) hb); clear HO_4; clear HO_12; clear HB; have HO_4 := n0_; have HO_12 := n1_; have HB := n2_; clear n0_ n1_ n2_))); (go_ret2); (exact ⟨_, by first | rfl | (simp [errW_none, errW_some] <;> rfl) | (simp [*, errW_none, errW_some] <;> rfl), by first | exact Kd.R_nil _ _ _ _ _ | exact Kd.N_nil _ _ _ _ _ | exact Kd.V_nil _ _ _ _ _ | exact Kd.Q_nil _ _ _ _ _ | exact Kd.S_nil _ _ _ _ _, by repeat (first | (with_reducible first | exact HB.out | apply below_alloc | apply pw_below_drewN | apply below_drew1) | exact HB.out)⟩)
            · (rw [if_neg c8] at H); (exact absurd H (by simp))
          · (rw [if_neg c7] at H); (exact absurd H (by simp))
        · (rw [if_neg c6] at H); (have c6b0 : decide (x14_1 < (t329.length : Int)) = false := decide_eq_false c6); (clear c6); (simp only [Option.some.injEq, Prod.mk.injEq] at H); (obtain ⟨rfl, rfl⟩ := H); (go_wp2); (go_ret2); (exact ⟨_, by first | rfl | (simp [errW_none, errW_some] <;> rfl) | (simp [*, errW_none, errW_some] <;> rfl), by (with_reducible repeat (first | apply Kd.R_alloc | apply Kd.R_drewN | apply Kd.R_drew)); exact HO_4.out, by repeat (first | (with_reducible first | exact HB.out | apply below_alloc | apply pw_below_drewN | apply below_drew1) | exact HB.out)⟩)
end Go.Proofs.YtdaijpjjilmkkaaGreatDoor.Pr

/- Plain laws of the notation of code points: the digits of a code point, their reading, and lists of bytes; the reference's functions and the program's compute them. -/
namespace Go.Proofs.YtdaijpjjilmkkaaGreatDoor.Pr
open Go.RowKit Go.Proofs.YtdaijpjjilmkkaaGreatDoorW.PrintWords Go.Proofs.YtdaijpjjilmkkaaGreatDoorW.PrintLast Go.Proofs.YtdaijpjjilmkkaaGreatDoorW.PrintMore
set_option linter.unusedVariables false
set_option linter.unusedSimpArgs false
theorem wrap_id {x : Int} (h0 : -9223372036854775808 ≤ x) (h1 : x ≤ 9223372036854775807) : wrap64 x = x := by unfold wrap64; omega
theorem wrap_succ (i : Nat) (h : i < 9223372036854775807) : wrap64 ((i : Int) + 1) = ((i + 1 : Nat) : Int) := by unfold wrap64; omega
abbrev ofL (l : List UInt8) : ByteArray := ⟨l.toArray⟩
theorem ofL_eq (s : ByteArray) : ofL s.data.toList = s := by apply ByteArray.ext; simp
theorem ofL_list (l : List UInt8) : (ofL l).data.toList = l := by simp
theorem ofL_size (l : List UInt8) : (ofL l).size = l.length := rfl
theorem ofL_toList (l : List UInt8) : (ofL l).toList = l := by rw [Lib.toList_data]
theorem ofL_append (a b : List UInt8) : ofL a ++ ofL b = ofL (a ++ b) := by apply ByteArray.ext; simp
theorem ofL_extract (l : List UInt8) (i j : Nat) : (ofL l).extract i j = ofL ((l.drop i).take (j - i)) := by
  rw [← ofL_eq ((ofL l).extract i j), Lib.extract_data]
theorem bt_ofL (l : List UInt8) (i : Nat) (h : i < l.length) : bt (ofL l) (i : Int) = ((l[i]).toNat : Int) := by
  (unfold bt); (have : ((i : Int)).toNat < (ofL l).size := by rw [ofL_size]; simpa using h); (rw [dif_pos this]); (rfl)
theorem strOfNums_ofL (xs : List Int) : strOfNums xs = ofL (xs.map fun n => UInt8.ofNat n.toNat) := rfl
def hexL (n : Nat) : List UInt8 := (hexNums n).map fun d => UInt8.ofNat d.toNat
theorem hexL_length (n : Nat) : (hexL n).length = hexLen n := by simp [hexL, hexNums]
theorem hexL_at (n j : Nat) (h : j < hexLen n) : (hexL n)[j]? = some (UInt8.ofNat (hexDig (n / 16 ^ (hexLen n - 1 - j) % 16)).toNat) := by
  simp [hexL, hexNums, h]
theorem hexOf_ofL (n : Nat) (h : n ≤ 1114111) : hexOf (n : Int) = ofL (hexL n) := by
  (unfold hexOf); (rw [if_pos (by omega), Int.toNat_natCast]); (rfl)
theorem digit_cut (d : Nat) (h : d < 16) : (⟨#[48, 49, 50, 51, 52, 53, 54, 55, 56, 57, 65, 66, 67, 68, 69, 70]⟩ : ByteArray).extract d (d + 1) = ofL [UInt8.ofNat (hexDig d).toNat] := by
  match d, h with
  | 0, _ | 1, _ | 2, _ | 3, _ | 4, _ | 5, _ | 6, _ | 7, _ | 8, _ | 9, _ | 10, _ | 11, _ | 12, _ | 13, _ | 14, _ | 15, _ => rfl
  | n + 16, h => omega
theorem ref_hex_step (n : Nat) (hn : n ≤ 1114111) (d : Nat) : ∀ (j k : Nat), j + d = hexLen n → d < k →
    r01_Hex.l0 k ((n / 16 ^ j : Nat) : Int) (ofL ((hexL n).drop d)) = some (ofL (hexL n)) := by
  have hL := hexLen_le n
  induction d with
  | zero =>
    (intro j k hj hk); (obtain ⟨k, rfl⟩ : ∃ m, k = m + 1 := ⟨k - 1, by omega⟩); (obtain rfl : j = hexLen n := by omega); (simp only [r01_Hex.l0])
    rw [hexLen_stop n hn, List.drop_zero, ofL_size, hexL_length, if_neg (by omega), if_neg (by decide)]
  | succ d ih =>
    (intro j k hj hk); (obtain ⟨k, rfl⟩ : ∃ m, k = m + 1 := ⟨k - 1, by omega⟩); (have hjl : j < hexLen n := by omega); (have hsz : (ofL ((hexL n).drop (d + 1))).size = j := by rw [ofL_size, List.length_drop, hexL_length]; omega); (have hq1 : n / 16 ^ (j + 1) = n / 16 ^ j / 16 := by rw [Nat.pow_succ, ← Nat.div_div_eq_div_mul]); (have hle : n / 16 ^ j ≤ 1114111 := Nat.le_trans (Nat.div_le_self _ _) hn)
    have hd : (hexL n).drop d = UInt8.ofNat (hexDig (n / 16 ^ j % 16)).toNat :: (hexL n).drop (d + 1) := by
      (have hdl : d < (hexL n).length := by rw [hexL_length]; omega); (have := hexL_at n d (by omega)); (rw [List.getElem?_eq_getElem hdl, show hexLen n - 1 - d = j by omega] at this); (rw [List.drop_eq_getElem_cons hdl, Option.some.inj this])
    (have hpos : 4 ≤ j → 0 < n / 16 ^ j := fun h => hexLen_go n j hn hjl h); (have hih := ih (j + 1) k (by omega) (by omega)); (rw [hd, hq1] at hih); (obtain ⟨q, hq⟩ : ∃ q, n / 16 ^ j = q := ⟨_, rfl⟩); (rw [hq] at hle hpos hih ⊢)
    have hmod : Int.tmod (q : Int) 16 = ((q % 16 : Nat) : Int) := by
      rw [Int.tmod_eq_emod_of_nonneg (by omega)]; rfl
    have hdiv : Int.tdiv (q : Int) 16 = ((q / 16 : Nat) : Int) := by
      rw [Int.tdiv_eq_ediv_of_nonneg (by omega)]; rfl
    (have hlt : q % 16 < 16 := Nat.mod_lt _ (by decide)); (have hcut := digit_cut _ hlt); (simp only [r01_Hex.l0, hmod, hdiv]); (rw [wrap_succ _ (by omega), wrap_id (by omega) (by omega), Int.toNat_natCast, Int.toNat_natCast, hcut, ofL_append, hsz, ofL_size]); (have hone : [UInt8.ofNat (hexDig (q % 16)).toNat].length = 1 := rfl); (rw [hone]); (by_cases h4 : j < 4)
    · (rw [if_pos (by omega), if_pos (by omega), if_pos (by omega), if_pos (by omega), if_pos (by omega)]); (exact hih)
    · (have := hpos (by omega)); (rw [if_neg (by omega), if_pos (by omega), if_pos (by omega), if_pos (by omega), if_pos (by omega), if_pos (by omega)]); (exact hih)
theorem ref_valid (c : Int) : r01_Valid.f c = some (decide (0 ≤ c ∧ c ≤ 1114111)) := by
  (unfold r01_Valid.f); (by_cases h0 : c ≥ 0)
  · rw [if_pos h0]; congr 1; simp [h0]
  · rw [if_neg h0]; congr 1; simp; omega
theorem ref_hex (c : Int) : r01_Hex.f 7 c = some (hexOf c) := by
  (unfold r01_Hex.f); (rw [ref_valid, Option.bind_some]); (by_cases h : 0 ≤ c ∧ c ≤ 1114111)
  · (rw [if_pos (by simpa using h)]); (obtain ⟨n, rfl⟩ := Int.eq_ofNat_of_zero_le h.1); (have hn : n ≤ 1114111 := by omega); (have hL := hexLen_le n); (have := ref_hex_step n hn (hexLen n) 0 7 (by omega) (by omega)); (rw [List.drop_of_length_le (by rw [hexL_length]; omega)] at this); (rw [hexOf_ofL n hn, ← this]); (simp)
  · (rw [if_neg (by simpa using h)]); (unfold hexOf); (rw [if_neg h])
def hv (b : Nat) : Int := if 48 ≤ b ∧ b ≤ 57 then (b : Int) - 48 else if 65 ≤ b ∧ b ≤ 70 then (b : Int) - 55 else -1
def valL : List UInt8 → Int → Option Int
  | [], a => some a
  | b :: t, a => if hv b.toNat < 0 then none else valL t (16 * a + hv b.toNat)
def readV (l : List UInt8) : Option Int → Int × Int
  | none => (0, 3)
  | some v => if hexOf v = ofL l then (v, 0) else (0, 3)
theorem readV_some (l : List UInt8) (v : Int) : readV l (some v) = if hexOf v = ofL l then (v, 0) else (0, 3) := rfl
theorem valL_nil (a : Int) : valL [] a = some a := rfl
def parseS (l : List UInt8) : Int × Int := if 4 ≤ l.length ∧ l.length ≤ 6 then readV l (valL l 0) else (0, 3)
theorem hexOf_eq (v : Int) (l : List UInt8) : ((hexOf v).toList = (ofL l).toList) ↔ hexOf v = ofL l := by
  (rw [Lib.toList_data, Lib.toList_data]); (constructor)
  · intro h; rw [← ofL_eq (hexOf v), h, ofL_eq]
  · intro h; rw [h]
theorem pow_le6 (i : Nat) (h : i ≤ 6) : (16 : Int) ^ i ≤ 16777216 := by
  match i, h with
  | 0, _ | 1, _ | 2, _ | 3, _ | 4, _ | 5, _ | 6, _ => decide
  | n + 7, h => omega
theorem prog_parse_loop (l : List UInt8) (h6 : l.length ≤ 6) (hne : l ≠ []) (d : Nat) : ∀ (i k : Nat) (a : Int), i + d = l.length → 2 * d + 2 ≤ k → 0 ≤ a → a < 16 ^ i →
    codepoint_Parse.l0 k (ofL l) a (l.length : Int) (i : Int) = some (readV l (valL (l.drop i) a)) := by
  induction d with
  | zero =>
    (intro i k a hi hk h0 h1); (obtain ⟨k, rfl⟩ : ∃ m, k = m + 1 := ⟨k - 1, by omega⟩); (simp only [codepoint_Parse.l0, codepoint_Hex.f]); (rw [if_neg (by omega), List.drop_of_length_le (by omega), if_neg (by rw [ofL_toList]; exact hne), Option.bind_some]); (rw [valL_nil, readV_some]); (by_cases h : hexOf a = ofL l)
    · rw [if_pos ((hexOf_eq a l).2 h), if_pos h]
    · rw [if_neg (fun h' => h ((hexOf_eq a l).1 h')), if_neg h]
  | succ d ih =>
    (intro i k a hi hk h0 h1); (obtain ⟨k, rfl⟩ : ∃ m, k = m + 2 := ⟨k - 2, by omega⟩); (have hlt : i < l.length := by omega); (have hp := pow_le6 i (by omega)); (have hih := fun v hv0 hv1 => ih (i + 1) k v (by omega) (by omega) hv0 hv1); (have hb256 := (l[i]).toNat_lt); (have hd : l.drop i = l[i] :: l.drop (i + 1) := List.drop_eq_getElem_cons hlt); (simp only [codepoint_Parse.l0, codepoint_Parse.j1]); (rw [if_pos (by omega), if_pos (by omega), if_pos (by rw [ofL_size]; omega), bt_ofL l i hlt, hd]); (simp only [valL]); (obtain ⟨b, hb⟩ : ∃ b, (l[i]).toNat = b := ⟨_, rfl⟩); (rw [hb] at hb256 ⊢); (by_cases h48 : 48 ≤ b)
    · (rw [if_pos (by omega)]); (by_cases h57 : b ≤ 57)
      · (have hh : hv b = (b : Int) - 48 := by unfold hv; rw [if_pos ⟨h48, h57⟩]); (rw [if_pos (by simp; omega), hh, if_neg (by omega), wrap_id (x := a * 16) (by omega) (by omega), wrap_id (by omega) (by omega), wrap_succ _ (by omega)]); (have := hih (16 * a + ((b : Int) - 48)) (by omega) (by rw [Int.pow_succ]; omega)); (rw [show a * 16 + ((b : Int) - 48) % 256 = 16 * a + ((b : Int) - 48) by omega]); (exact this)
      · (rw [if_neg (by simp; omega)]); (by_cases h65 : 65 ≤ b)
        · (rw [if_pos (by omega)]); (by_cases h70 : b ≤ 70)
          · (have hh : hv b = (b : Int) - 55 := by unfold hv; rw [if_neg (by omega), if_pos ⟨h65, h70⟩]); (rw [if_pos (by omega), hh, if_neg (by omega), wrap_id (x := a * 16) (by omega) (by omega), wrap_id (x := a * 16 + _) (by omega) (by omega), wrap_id (by omega) (by omega), wrap_succ _ (by omega)]); (have := hih (16 * a + ((b : Int) - 55)) (by omega) (by rw [Int.pow_succ]; omega)); (rw [show a * 16 + ((b : Int) - 65) % 256 + 10 = 16 * a + ((b : Int) - 55) by omega]); (exact this)
          · (have hh : hv b = -1 := by unfold hv; rw [if_neg (by omega), if_neg (by omega)]); (rw [if_neg (by omega), hh, if_pos (by decide)]; rfl)
        · (have hh : hv b = -1 := by unfold hv; rw [if_neg (by omega), if_neg (by omega)]); (rw [if_neg (by omega), hh, if_pos (by decide)]; rfl)
    · (have hh : hv b = -1 := by unfold hv; rw [if_neg (by omega), if_neg (by omega)]); (rw [if_neg (by omega), if_neg (by decide), if_neg (by omega), hh, if_pos (by decide)]; rfl)
theorem hexOf_size (v : Int) : (hexOf v).size = 0 ∨ 4 ≤ (hexOf v).size := by
  (unfold hexOf); (split)
  · (right); (rw [strOfNums_size]); (simp [hexNums]); (exact (hexLen_le _).1)
  · left; rfl
theorem prog_parse (l : List UInt8) : Ev (fun k => codepoint_Parse.f k (ofL l)) (parseS l) := by
  (refine Ev.of (fun k => codepoint_Parse.mono _ k) (k := 2 * l.length + 2) ?_); (unfold codepoint_Parse.f parseS); (rw [ofL_size]); (by_cases h6 : l.length ≤ 6)
  · (rw [if_neg (by omega)]); (by_cases hne : l = [])
    · (subst hne); (simp only [codepoint_Parse.l0, List.length_nil, ofL_toList]); (simp)
    · (have hpos : 0 < l.length := List.length_pos_iff.2 hne); (have := prog_parse_loop l h6 hne l.length 0 (2 * l.length + 2) 0 (by omega) (by omega) (by omega) (by simp)); (rw [List.drop_zero] at this); (refine Eq.trans this ?_); (by_cases h4 : 4 ≤ l.length)
      · rw [if_pos ⟨h4, h6⟩]
      · rw [if_neg (by omega)]
        cases hv : valL l 0 with
        | none => rfl
        | some v =>
          (rw [readV_some, if_neg]); (intro h); (have hs := hexOf_size v); (rw [h, ofL_size] at hs); (omega)
  · rw [if_pos (by omega), if_neg (by omega)]
end Go.Proofs.YtdaijpjjilmkkaaGreatDoor.Pr

/- The contracts of strings.Cut and strings.TrimRight (a cutset of one ASCII byte), in the form of the printed contracts. -/
namespace Go.Proofs.YtdaijpjjilmkkaaGreatDoor.Pr
open Go.RowKit Go.Shelf Go.Proofs.YtdaijpjjilmkkaaGreatDoorW.PrintWords Go.Proofs.YtdaijpjjilmkkaaGreatDoorW.PrintLast Go.Proofs.YtdaijpjjilmkkaaGreatDoorW.PrintMore
set_option linter.unusedVariables false
def strings_Cut.f (a0 a1 : ByteArray) : Option (ByteArray × ByteArray × Bool) :=
  if a0.size < 4294967281 then some (⟨(Lib.cut a0.data.toList a1.data.toList).1.toArray⟩, ⟨(Lib.cut a0.data.toList a1.data.toList).2.1.toArray⟩, (Lib.cut a0.data.toList a1.data.toList).2.2) else none
theorem strings_Cut.calls (a0 a1 r1 r2 : ByteArray) (r3 : Bool) (w : World) (h : strings_Cut.f a0 a1 = some (r1, r2, r3)) (hG : GW w) :
    Calls Tryz.prog 37 #[.string a0, .string a1] w fun e w' => e = .returned (.tuple #[.string r1, .string r2, .bool r3]) ∧ Below w.heap.size w w' := by
  (unfold strings_Cut.f at h); (by_cases hc : a0.size < 4294967281)
  · (rw [if_pos hc] at h); (simp only [Option.some.injEq, Prod.mk.injEq] at h); (obtain ⟨rfl, rfl, rfl⟩ := h); (obtain ⟨m, hm⟩ := hG.len); (refine (Tryz.strings_Cut a0 a1 m w hc hm).mono ?_); (rintro e w' ⟨rfl, n, rfl⟩); (exact ⟨rfl, pw_below_drewN (Below.refl _ _) n⟩)
  · rw [if_neg hc] at h; cases h
def strings_TrimRight.f (a0 a1 : ByteArray) : Option ByteArray :=
  if a0.size ≤ 9223372036854775807 ∧ a1 = ⟨#[32]⟩ then some ⟨(Lib.trimRightB a0.data.toList 32).toArray⟩ else none
theorem strings_TrimRight.calls (a0 a1 r : ByteArray) (w : World) (h : strings_TrimRight.f a0 a1 = some r) :
    Calls Tryz.prog 38 #[.string a0, .string a1] w fun e w' => e = .returned (.string r) ∧ Below w.heap.size w w' := by
  (unfold strings_TrimRight.f at h); (by_cases hc : a0.size ≤ 9223372036854775807 ∧ a1 = ⟨#[32]⟩)
  · (rw [if_pos hc] at h); (obtain rfl := Option.some.inj h); (obtain ⟨h1, rfl⟩ := hc); (refine (Tryz.strings_TrimRight_one a0 32 (by decide) w h1).mono ?_); (rintro e w' ⟨rfl, rfl⟩); (exact ⟨rfl, Below.refl _ _⟩)
  · rw [if_neg hc] at h; cases h
end Go.Proofs.YtdaijpjjilmkkaaGreatDoor.Pr

/- Plain laws: a text cut at a byte, at its first byte; strings.Split and strings.Cut on lists. -/
namespace Go.Proofs.YtdaijpjjilmkkaaGreatDoor.Pr
open Go.RowKit Go.Proofs.YtdaijpjjilmkkaaGreatDoorW.PrintWords Go.Proofs.YtdaijpjjilmkkaaGreatDoorW.PrintLast Go.Proofs.YtdaijpjjilmkkaaGreatDoorW.PrintMore
set_option linter.unusedVariables false
set_option linter.unusedSimpArgs false
def cutAt (c : UInt8) : List UInt8 → List (List UInt8)
  | [] => [[]]
  | b :: t => if b = c then [] :: cutAt c t else match cutAt c t with
    | [] => [[b]]
    | p :: r => (b :: p) :: r
theorem cutAt_ne (c : UInt8) (l : List UInt8) : cutAt c l ≠ [] := by
  cases l with
  | nil => simp [cutAt]
  | cons b t =>
    (unfold cutAt); (split)
    · simp
    · split <;> simp
theorem cutAt_len (c : UInt8) (l : List UInt8) : (cutAt c l).length ≤ l.length + 1 := by
  induction l with
  | nil => simp [cutAt]
  | cons b t ih =>
    (unfold cutAt); (split)
    · simp; exact ih
    · split
      · simp
      · next p r h => rw [h] at ih; simp at ih ⊢; omega
theorem cut_f (l sep : List UInt8) (h : l.length ≤ 1000000) : strings_Cut.f (ofL l) (ofL sep) = some (ofL (Lib.cut l sep).1, ofL (Lib.cut l sep).2.1, (Lib.cut l sep).2.2) := by
  (unfold strings_Cut.f); (rw [if_pos (by rw [ofL_size]; omega), ofL_list, ofL_list])
theorem split_at (c : UInt8) : ∀ l : List UInt8, Lib.splitK [c] 0 (Lib.count l [c]) l = cutAt c l
  | [] => by rw [Lib.count_miss (by simp [Lib.index])]; rfl
  | b :: t => by
    (have ih := split_at c t); (by_cases h : b = c)
    · (subst h); (have hix : Lib.index (b :: t) [b] = ((0 : Nat) : Int) := by rw [Lib.index]; simp [List.isPrefixOf]); (rw [Lib.count_cons_eq, Nat.add_comm, Lib.splitK, if_neg (by rw [hix]; decide), hix, cutAt, if_pos rfl, ← ih]); (simp)
    · (have hp : ([c] : List UInt8).isPrefixOf (b :: t) = false := by simp [List.isPrefixOf, Ne.symm h]); (have hix : Lib.index (b :: t) [c] = if Lib.index t [c] == -1 then -1 else Lib.index t [c] + 1 := by rw [Lib.index, hp]; simp); (rw [Lib.count_cons_ne b c t h, cutAt, if_neg h, ← ih]); (by_cases hm : Lib.index t [c] = -1)
      · rw [Lib.count_miss hm]; rfl
      · (have hge := Lib.index_ge t [c]); (obtain ⟨j, hj⟩ : ∃ j : Nat, Lib.index t [c] = j := ⟨(Lib.index t [c]).toNat, by omega⟩); (have hc := Lib.count_hit (s := t) (sub := [c]) (i := j) (by simp) hj); (have hix' : Lib.index (b :: t) [c] = ((j + 1 : Nat) : Int) := by rw [hix, if_neg (fun e => hm (beq_iff_eq.1 e)), hj]; omega); (rw [hc, Nat.add_comm, Lib.splitK, Lib.splitK, hix', hj, if_neg (by first | (simp; done) | (simp; omega)), if_neg (by first | (simp; done) | (simp; omega))]); (simp only [Int.toNat_natCast, List.length_cons, List.length_nil]); (rw [show j + 1 + (0 + 1) = (j + (0 + 1)) + 1 by omega, List.drop_succ_cons]); (simp)
theorem splitc_f (c : UInt8) (l : List UInt8) (hl : l.length ≤ 1000000) : strings_Split.f (ofL l) (ofL [c]) = some ((cutAt c l).map ofL) := by
  (unfold strings_Split.f); (rw [if_pos ⟨by rw [ofL_size]; omega, by rw [ofL_size]; simp⟩]); (have h := Lib.splitB_data (ofL [c]) 0 (Lib.countB (ofL l) (ofL [c])) (ofL l)); (have hc : Lib.countB (ofL l) (ofL [c]) = Lib.count l [c] := by unfold Lib.countB; simp); (rw [hc] at h ⊢); (rw [ofL_list, ofL_list, split_at c l] at h); (rw [← h, List.map_map]); (congr 1); (refine (List.map_id _).symm.trans (List.map_congr_left fun s _ => ?_)); (exact (ofL_eq s).symm)
theorem cutAt_mem (c : UInt8) : ∀ (l q : List UInt8), q ∈ cutAt c l → q.length ≤ l.length
  | [], q, h => by simp [cutAt] at h; simp [h]
  | b :: t, q, h => by
    (unfold cutAt at h); (split at h)
    · rcases List.mem_cons.1 h with rfl | h
      · simp
      · have := cutAt_mem c t q h; simp; omega
    · split at h
      · next hn => exact absurd hn (cutAt_ne c t)
      · next p r hr =>
        rcases List.mem_cons.1 h with rfl | h
        · have := cutAt_mem c t p (by rw [hr]; exact List.mem_cons_self ..); simp; omega
        · have := cutAt_mem c t q (by rw [hr]; exact List.mem_cons_of_mem _ h); simp; omega
theorem rdc_at (ps : List (List UInt8)) (i : Nat) (h : i < ps.length) : rdOf ByteArray.empty (ps.map ofL) (i : Int) = ofL ps[i] := by simp [rdOf, h]
theorem cut_at (c : UInt8) (l : List UInt8) : (Lib.cut l [c] = (l, [], false) ∧ c ∉ l) ∨ ∃ a b, l = a ++ c :: b ∧ c ∉ a ∧ Lib.cut l [c] = (a, b, true) := by
  unfold Lib.cut
  induction l with
  | nil => left; refine ⟨?_, by simp⟩; rw [if_neg (by simp [Lib.index])]
  | cons x t ih =>
    by_cases h : x = c
    · (subst h); (right); (have hix : Lib.index (x :: t) [x] = ((0 : Nat) : Int) := by rw [Lib.index]; simp [List.isPrefixOf]); (refine ⟨[], t, rfl, by simp, ?_⟩); (rw [hix]); (simp)
    · (have hp : ([c] : List UInt8).isPrefixOf (x :: t) = false := by simp [List.isPrefixOf, Ne.symm h]); (have hix : Lib.index (x :: t) [c] = if Lib.index t [c] == -1 then -1 else Lib.index t [c] + 1 := by rw [Lib.index, hp]; simp); (have hge := Lib.index_ge t [c]); (by_cases hm : Lib.index t [c] = -1)
      · (rw [hix, hm]); (rw [hm] at ih); (rcases ih with ⟨-, h2⟩ | ⟨a, b, -, -, h3⟩)
        · (left); (exact ⟨by rw [if_neg (by decide)], by simp [Ne.symm h, h2]⟩)
        · (rw [if_neg (by decide)] at h3); (simp at h3)
      · (obtain ⟨j, hj⟩ : ∃ j : Nat, Lib.index t [c] = j := ⟨(Lib.index t [c]).toNat, by omega⟩); (have hix' : Lib.index (x :: t) [c] = ((j + 1 : Nat) : Int) := by rw [hix, if_neg (fun e => hm (beq_iff_eq.1 e)), hj]; omega); (rw [hix', if_pos (by omega)]); (rw [hj, if_pos (by omega)] at ih); (rcases ih with ⟨h1, -⟩ | ⟨a, b, h1, h2, h3⟩)
        · simp at h1
        · (right); (simp only [Prod.mk.injEq, and_true] at h3); (refine ⟨x :: a, b, by rw [h1]; rfl, by simp [Ne.symm h, h2], ?_⟩); (rw [← h3.1, ← h3.2]); (simp)
end Go.Proofs.YtdaijpjjilmkkaaGreatDoor.Pr

/- Plain laws of the collation elements: their text, and its reading. -/
namespace Go.Proofs.YtdaijpjjilmkkaaGreatDoor.Pr
open Go.RowKit Go.Proofs.YtdaijpjjilmkkaaGreatDoorW.PrintWords Go.Proofs.YtdaijpjjilmkkaaGreatDoorW.PrintLast Go.Proofs.YtdaijpjjilmkkaaGreatDoorW.PrintMore
set_option linter.unusedVariables false
set_option linter.unusedSimpArgs false
def hexT (c : Int) : List UInt8 := (hexOf c).data.toList
theorem hexT_len (c : Int) : (hexT c).length ≤ 6 := by
  (unfold hexT hexOf); (split)
  · (have := (hexLen_le c.toNat).2); (simp [strOfNums, hexNums]); (exact this)
  · simp
theorem hexT_nat (n : Nat) (hn : n ≤ 1114111) : hexT (n : Int) = hexL n := by unfold hexT; rw [hexOf_ofL n hn, ofL_list]
theorem hexT_len4 (c : Int) (h : 0 ≤ c ∧ c ≤ 65535) : (hexT c).length = 4 := by
  (obtain ⟨n, rfl⟩ := Int.eq_ofNat_of_zero_le h.1); (rw [hexT_nat n (by omega), hexL_length]); (unfold hexLen); (rw [if_pos (by omega)])
def dig4 (l : List UInt8) : Option Int := if l.length = 4 ∧ (parseS l).2 = 0 then some (parseS l).1 else none
def elT (x : S44) : List UInt8 := 91 :: (if x.f3 = true then 42 else 46) :: (hexT x.f0 ++ 46 :: (hexT x.f1 ++ 46 :: (hexT x.f2 ++ [93])))
def okW (x : S44) : Prop := (0 ≤ x.f0 ∧ x.f0 ≤ 65535) ∧ (0 ≤ x.f1 ∧ x.f1 ≤ 65535) ∧ (0 ≤ x.f2 ∧ x.f2 ≤ 65535)
theorem elT_len (x : S44) (h : okW x) : (elT x).length = 17 := by
  (unfold elT); (simp [hexT_len4 _ h.1, hexT_len4 _ h.2.1, hexT_len4 _ h.2.2])
def oneE (t : List UInt8) : Option S44 :=
  if t.getD 0 0 = 91 ∧ (t.getD 1 0 = 42 ∨ t.getD 1 0 = 46) ∧ t.getD 16 0 = 93 then
    match cutAt 46 ((t.drop 2).take 14) with
    | [p, q, r] => (dig4 p).bind fun a => (dig4 q).bind fun b => (dig4 r).bind fun c => some ⟨a, b, c, t.getD 1 0 == 42⟩
    | _ => none
  else none
def readN : Nat → List UInt8 → Option (List S44)
  | 0, l => if l = [] then some [] else none
  | n + 1, l => if l = [] then some [] else if l.length < 17 then none else (oneE (l.take 17)).bind fun e => (readN n (l.drop 17)).map fun r => e :: r
def readE (l : List UInt8) : Option (List S44) := readN l.length l
def checkE (x : S44) : Int :=
  if (0 ≤ x.f0 ∧ x.f0 ≤ 65535) ∧ (0 ≤ x.f1 ∧ x.f1 ≤ 65535) ∧ (0 ≤ x.f2 ∧ x.f2 ≤ 65535) then
    (if (x.f0 ≠ 0 ∧ (x.f1 = 0 ∨ x.f2 = 0)) ∨ (x.f1 ≠ 0 ∧ x.f2 = 0) ∨ (x.f3 = true ∧ x.f0 = 0) then 11 else 0)
  else 1
def errE : List S44 → Int
  | [] => 0
  | x :: r => if checkE x = 0 then errE r else checkE x
end Go.Proofs.YtdaijpjjilmkkaaGreatDoor.Pr

/- The contracts of strings.Builder's copyCheck and WriteString in this translation, after the shelf's (the panic in copyCheck's body is a refused statement here, so that the shelf's own do not fit): the builder holds the bytes written behind those that it held. -/
set_option linter.unusedVariables false
set_option linter.unusedSimpArgs false
namespace Go.Proofs.YtdaijpjjilmkkaaGreatDoor.Bd
open Go.RowKit
theorem sizeBuilder : (Tryz.prog.info? 59).map (·.size) = some 2 := by kernel_rfl
theorem liesBuilder : liesAt Tryz.prog Tryz.prog.depth 59 (2 / Tryz.prog.cellsOf 59) 0 59 1 = true := by kernel_rfl
theorem infoByte : (Tryz.prog.info? 5).map (fun i => (i.zero, i.size, i.bytes)) = some (some (.int .u8 0), 1, 1) := by kernel_rfl
set_option maxHeartbeats 1000000 in
set_option maxRecDepth 100000 in
theorem copyCheck_used (b : Nat) (w : World) (h0 : w.cell? ⟨b, 0, none⟩ = some (.pointer (some ⟨b, 0, none⟩))) :
    Calls Tryz.prog 53 #[.pointer (some ⟨b, 0, none⟩)] w fun e w' => e = .returned (.tuple #[]) ∧ w' = w := by
  (obtain ⟨j, hj, _⟩ := Option.map_eq_some_iff.1 sizeBuilder); (go_enter Tryz.func53, Tryz.ntmps53); (go_wp2); (rw [Lib.run_neq_ptr_same w _ Tryz.underlying56 hj]); (go_wp2); (go_end0); (exact ⟨rfl, rfl⟩)
set_option maxHeartbeats 1000000 in
set_option maxRecDepth 100000 in
theorem copyCheck_fresh (b : Nat) (w : World) (h0 : w.cell? ⟨b, 0, none⟩ = some (.pointer none)) (hsh : w.shape? b = some (59, 2)) (hfz : w.frozen? ⟨b, 0, none⟩ = false) :
    Calls Tryz.prog 53 #[.pointer (some ⟨b, 0, none⟩)] w fun e w' => e = .returned (.tuple #[]) ∧ w' = w.setCell ⟨b, 0, none⟩ (.pointer (some ⟨b, 0, none⟩)) := by
  (obtain ⟨j, hj, hjs⟩ := Option.map_eq_some_iff.1 sizeBuilder); (go_enter Tryz.func53, Tryz.ntmps53); (go_wp2); (rw [Lib.run_to_unsafe w ⟨b, 0, none⟩ Tryz.underlying56 Tryz.underlying115 hj (by rw [hjs]; decide) hsh (Nat.zero_lt_succ 1)]); (simp only [Result.andThen]); (rw [Oper.upon_value]); (go_wp2); (rw [run_callFunc_extern Tryz.func74 (by kernel_rfl) (by kernel_rfl) (by kernel_rfl) (e := Extern.AbiNoEscape.same) (by kernel_rfl)]); (rw [Lib.run_noEscape]); (simp only [Result.andThen]); (rw [Oper.upon_value]); (go_wp2); (rw [Lib.run_from_unsafe w ⟨b, 0, none⟩ Tryz.underlying115 Tryz.underlying56 hj hsh liesBuilder]); (simp only [Result.andThen]); (rw [Oper.upon_value]); (go_wp2); (go_end0); (exact ⟨rfl, rfl⟩)
abbrev Is (B b : Nat) (bs : List Value) (w : World) : Prop := Lib.IsBuilderF 59 5 B b bs w
theorem copyCheck (B b : Nat) (bs : List Value) (w : World) (h : Is B b bs w) :
    Calls Tryz.prog 53 #[.pointer (some ⟨b, 0, none⟩)] w fun e w' => e = .returned (.tuple #[]) ∧ (Lib.BuilderAtF 59 5 B b (.pointer (some ⟨b, 0, none⟩)) bs w' ∧ Below B w w' ∧ Lib.OthersKept 5 (some b) w w') := by
  rcases h with h | h
  · (refine (copyCheck_fresh b w h.cell0 h.shape h.frozen0).mono ?_); (rintro e w' ⟨rfl, rfl⟩); (exact ⟨rfl, h.used _, (Below.refl B w).setCell (p := ⟨b, 0, none⟩) h.1 _, (Lib.OthersKept.refl _ _ w).setCell ⟨b, 0, none⟩ rfl _⟩)
  · (refine (copyCheck_used b w h.cell0).mono ?_); (rintro e w' ⟨rfl, rfl⟩); (exact ⟨rfl, h, Below.refl B _, Lib.OthersKept.refl _ _ _⟩)
set_option maxHeartbeats 2000000 in
set_option maxRecDepth 100000 in
theorem WriteString (B b : Nat) (bs : List Value) (s : ByteArray) (w : World) (h : Is B b bs w) (hlen : bs.length + s.size ≤ 140737488355328) (hBw : B ≤ w.heap.size) :
    Calls Tryz.prog 27 #[.pointer (some ⟨b, 0, none⟩), .string s] w fun e w' => e = .returned (.tuple #[.int .i64 s.size, .nilIface]) ∧ (Is B b (bs ++ Lib.strCells s) w' ∧ Below B w w' ∧ Lib.OthersKept 5 (some b) w w') := by
  (obtain ⟨i0, hi, hz0, hz1, hz2⟩ := info_parts infoByte); (go_enter Tryz.func27, Tryz.ntmps27); (go_wp2_with (go_at_call 53; refine (copyCheck B b bs _ h).mono ?_)); (rintro e w1 ⟨rfl, h1, hb1, hk1⟩); (obtain ⟨hB, v, hbk, hown, hne⟩ := h1); (have c0 : w1.cell? ⟨b, 0, none⟩ = some (.pointer (some ⟨b, 0, none⟩)) := by rw [Lib.cell_of_heap hbk]; rfl); (have c1 : w1.cell? ⟨b, 1, none⟩ = some v := by rw [Lib.cell_of_heap hbk]; rfl); (go_wp2_with (at_builtin; refine Lib.wpList_append_own_stringF _ rfl _ _ 57 9 rfl B 5 i0 Tryz.underlying57 Tryz.underlying9 hi hz0 hz1 hz2 _ _ _ rfl hown s rfl ?c3 ?c4 ?c5 ?_))
  case c3 => unfold maxLen; omega
  case c4 => omega
  case c5 => have := hb1.size; omega
  intro v' w2 hown' hgrow _
  have hlt : b < w1.heap.size := by
    rcases Nat.lt_or_ge b w1.heap.size with h' | h'
    · exact h'
    · simp [Array.getElem?_eq_none h'] at hbk
  have hb2 : w2.heap[b]? = some (.cells #[.pointer (some ⟨b, 0, none⟩), v] 59 (0, 0)) := by
    (rw [hgrow.block b hlt (fun e => hne e.symm)]); (exact hbk)
  (have d0 : w2.cell? ⟨b, 0, none⟩ = some (.pointer (some ⟨b, 0, none⟩)) := by rw [Lib.cell_of_heap hb2]; rfl); (have d1 : w2.cell? ⟨b, 1, none⟩ = some v := by rw [Lib.cell_of_heap hb2]; rfl); (have f1 : w2.frozen? ⟨b, 1, none⟩ = false := Lib.frozen_of_heap hb2 1)
  obtain ⟨ao, n', cap, rfl⟩ : ∃ ao n' cap, v' = .slice ao n' cap := by
    rcases hown'.2 with ⟨hv, _⟩ | ⟨g, cap, cur, fz, hv, _⟩
    · exact ⟨_, _, _, hv⟩
    · exact ⟨_, _, _, hv⟩
  (go_wp2); (go_ret2); (refine ⟨rfl, .inr ?_, ?_, (hk1.grown hgrow (Lib.ownsRowF_kind hown)).setCell ⟨b, 1, none⟩ rfl _⟩)
  · exact Lib.BuilderAtF.put (T := 59) (e := 5) hB hb2 (bs' := bs ++ Lib.strCells s) (by simpa [Lib.strCells_length] using hown') (by decide)
  · exact (hb1.grown hgrow (by have := hb1.size; omega) (fun k hk => (hown.lt k hk).1)).setCell (p := ⟨b, 1, none⟩) hB _
theorem fresh (w : World) : Is w.heap.size w.heap.size [] (w.alloc (.cells #[.pointer none, .slice none 0 0] 59)) := Lib.IsBuilderF.of (Lib.fresh_isBuilder _ _ w)
theorem kept {B b : Nat} {bs : List Value} {w w' : World} {row : Option Nat} (h : Is B b bs w) (hg : w.grownBy w' row) (hr : ∀ r, row = some r → ∃ o : Obj, w.heap[r]? = some o ∧ o.isCells = false) : Is B b bs w' := by
  have one : ∀ p, Lib.BuilderAtF 59 5 B b p bs w → Lib.BuilderAtF 59 5 B b p bs w' := by
    (rintro p h1); (have hlt := h1.lt); (obtain ⟨hB, v, hb, hown, hne⟩ := h1); (refine ⟨hB, v, (hg.block b hlt (fun e => ?_)).trans hb, hown.kept hg ?_, hne⟩)
    · (obtain ⟨o, ho, hc⟩ := hr b e.symm); (rw [hb] at ho; cases ho; cases hc)
    · cases hv : v.ownBlock with
      | none => exact .inl rfl
      | some g =>
        (refine .inr fun e => ?_); (obtain ⟨c, fz, hc⟩ := Lib.ownsRowF_kind hown g hv); (obtain ⟨o, ho, hcc⟩ := hr g e.symm); (rw [hc] at ho; cases ho; cases hcc)
  exact h.elim (fun h => .inl (one _ h)) (fun h => .inr (one _ h))
end Go.Proofs.YtdaijpjjilmkkaaGreatDoor.Bd

namespace Go.Proofs.YtdaijpjjilmkkaaGreatDoor.Pr
open Go.RowKit Go.Proofs.YtdaijpjjilmkkaaGreatDoorW.PrintWords Go.Proofs.YtdaijpjjilmkkaaGreatDoorW.PrintLast Go.Proofs.YtdaijpjjilmkkaaGreatDoorW.PrintMore
attribute [local go_sem] max2_int min2_int max_two min_two max_three min_three max_four min_four   -- for this text's walks alone
set_option linter.unusedVariables false
set_option linter.unusedSimpArgs false
def element_weights.l0 : Nat → List ByteArray → List Int → Int → Int → Option (ByteArray)
  | 0, _, _, _, _ => none
  | k + 1, x3, x6, x7, x8 => if x8 < x7 then (if 0 ≤ x8 then (if x8 < (x6.length : Int) then ((codepoint_Hex.f (rd x6 x8)).bind fun t292 => (if x3.length < 8796093022208 then (element_weights.l0 k (x3 ++ [t292]) x6 x7 (wrap64 (x8 + 1))) else (none))) else (none)) else (none)) else ((strings_Join.f x3 (⟨#[46]⟩ : ByteArray)).bind fun t296 => (some t296))
def element_weights.f (k : Nat) (l0 : List Int) : Option (ByteArray) := element_weights.l0 k ([] : List ByteArray) l0 (l0.length : Int) 0
theorem element_weights.mono_l : ∀ k, (∀ y0 y1 y2 y3, LeO (element_weights.l0 k y0 y1 y2 y3) (element_weights.l0 (k + 1) y0 y1 y2 y3))
  | 0 => fun _ _ _ _ r h => by simp [element_weights.l0] at h
  | k + 1 => by
    have ih0 := element_weights.mono_l k
    · (intro y0 y1 y2 y3); (unfold element_weights.l0)
      repeat' first
      | (with_reducible exact ih0 _ _ _ _)
      | (with_reducible exact LeO.refl _)
      | (with_reducible exact LeO.none _)
      | (with_reducible refine LeO.ite ?_ ?_)
      | (with_reducible refine LeO.bind ?_ (fun _ => ?_))
      | exact ih0 _ _ _ _
      | exact LeO.none _
      | refine LeO.ite ?_ ?_
      | refine LeO.bind ?_ (fun _ => ?_)
theorem element_weights.mono : ∀ a0 k, LeO (element_weights.f k a0) (element_weights.f (k + 1) a0) := by
  (intro a0 k); (have ih0 := element_weights.mono_l k); (unfold element_weights.f)
  repeat' first
      | (with_reducible exact ih0 _ _ _ _)
      | (with_reducible exact LeO.refl _)
      | (with_reducible exact LeO.none _)
      | (with_reducible refine LeO.ite ?_ ?_)
      | (with_reducible refine LeO.bind ?_ (fun _ => ?_))
      | exact ih0 _ _ _ _
      | exact LeO.none _
      | refine LeO.ite ?_ ?_
      | refine LeO.bind ?_ (fun _ => ?_)
set_option maxHeartbeats 8000000 in
set_option maxRecDepth 100000 in
theorem element_weights.calls (k : Nat) (A0 : Option Addr) (c0 : Nat) (l0 : List Int) (r : ByteArray) (w : World) (hr0 : Kd.C (Kd.int .i64) w A0 l0.length l0) (hc0 : l0.length ≤ c0) (h : element_weights.f k l0 = some r) :
    Calls Tryz.prog 49 #[.slice A0 l0.length c0] w fun e w' => e = .returned (.string r) ∧ Below w.heap.size w w' := by
  (have HR0 := Aside0.mk hr0); (have HC0 := Aside0.mk hc0); (clear hr0 hc0); (have HB := Aside0.mk (Below.refl w.heap.size w)); (have H : (element_weights.l0 k ([] : List ByteArray) l0 (l0.length : Int) 0) = some r := h); (clear h); (have H' := Aside0.mk H); (clear H); (go_enter Tryz.func49, Tryz.ntmps49); (go_wp2); (go_loopg [3, 8] k (fun kq v3 v8 w' => ∃ (x3_1 : List ByteArray) (x8_1 : Int), v8 = .int .i64 x8_1 ∧ Aside0 (element_weights.l0 kq x3_1 l0 (l0.length : Int) x8_1 = some r) ∧ Aside0 (kq ≤ k) ∧ Aside0 (Kd.R Kd.string 9 w' w.heap.size (fun _ => True) v3 x3_1) ∧ Aside0 (Below w.heap.size w w')))
  case atStart => exact ⟨(([] : List ByteArray)), (0), (by first | rfl | (simp; done) | (simp [*]; done) | exact congrArg Value.bool (ne_nil_bool _) | exact congrArg Value.bool (eq_nil_bool _)), H', ⟨Nat.le_refl _⟩, ⟨by first | exact Kd.R_nil _ _ _ _ _ | exact Kd.N_nil _ _ _ _ _ | exact Kd.V_nil _ _ _ _ _ | exact Kd.Q_nil _ _ _ _ _ | exact Kd.S_nil _ _ _ _ _⟩, ⟨by repeat (first | (with_reducible first | exact HB.out | apply below_alloc | apply pw_below_drewN | apply below_drew1) | exact HB.out)⟩⟩
  case round =>
    (clear H'); (obtain ⟨x3_1, x8_1, rfl, HA, HK1, HO_3, HB⟩ := hrel)
    cases gk with
    | zero => exact absurd HA.out (by simp [element_weights.l0])
    | succ k1 =>
      (have H := HA.out); (clear HA); (simp only [element_weights.l0] at H); (by_cases c2 : x8_1 < (l0.length : Int))
      · (rw [if_pos c2] at H); (have c2b0 : decide (x8_1 < (l0.length : Int)) = true := decide_eq_true c2); (clear c2); (by_cases c3 : 0 ≤ x8_1)
        · (rw [if_pos c3] at H); (have c3b0 : decide (0 ≤ x8_1) = true := decide_eq_true c3); (clear c3); (by_cases c4 : x8_1 < (l0.length : Int))
          · (rw [if_pos c4] at H); (have c4b0 : decide (x8_1 < (l0.length : Int)) = true := decide_eq_true c4); (clear c4); (replace H := Option.bind_eq_some_iff.mp H); (obtain ⟨t292, A50, H⟩ := H); (replace H : (if x3_1.length < 8796093022208 then (element_weights.l0 k1 (x3_1 ++ [t292]) l0 (l0.length : Int) (wrap64 (x8_1 + 1))) else (none)) = some r := H); (have A5 := Aside0.mk A50); (clear A50); (by_cases c6 : x3_1.length < 8796093022208)
            · (rw [if_pos c6] at H); (have LMc6 := Aside0.mk c6); (clear c6); (obtain ⟨y293, hy293⟩ : ∃ y_ : List ByteArray, y_ = (x3_1 ++ [t292]) := ⟨_, rfl⟩); (replace H : (element_weights.l0 k1 y293 l0 (l0.length : Int) (wrap64 (x8_1 + 1))) = some r := by first | (rw [hy293]; with_reducible exact H) | (have H2_ := (Option.bind_some _ _).symm.trans H; rw [hy293]; with_reducible exact H2_) | (have H2_ := (Option.bind_some _ _).symm.trans H; with_reducible exact H2_) | with_reducible exact H | (rw [hy293]; exact H) | exact H); (have Ny293 := Aside0.mk hy293); (clear hy293); (have H' := Aside0.mk H); (clear H); (have p291 : 0 ≤ (x8_1 : Int) := of_decide_eq_true (by first | (with_reducible assumption) | assumption)); (have q291 : x8_1 < (l0.length : Int) := of_decide_eq_true (by first | (with_reducible assumption) | assumption)); (obtain ⟨ad291, e291, hx291_0⟩ := Kd.at_int HR0.out x8_1 p291 q291); (cases e291); (replace hx291_0 := (HB.out.cell (World.block_lt_of_cell? w _ hx291_0)).trans hx291_0); (replace p291 := eq_true p291); (replace q291 := eq_true q291); (go_wp2_with (first | ((with_reducible refine gate_callee (f := 57) rfl ?_); refine goesL_ (some 14) rfl rfl Tryz.func57 (by kernel_rfl) rfl #[.int .i64 (rd l0 x8_1)] rfl (by (try simp only [List.map_toArray, List.map_cons, List.map_nil]); first | done | rfl | (simp only [List.length_drop, List.length_take]; rfl)) ?_; (with_reducible refine (codepoint_Hex.calls (rd l0 x8_1) t292 _ A5.out).mono ?_); rintro e w7 ⟨rfl, hb⟩; refine ⟨_, rfl, ?_⟩; have n0_ := Aside0.mk (Kd.R_below (by (with_reducible repeat (first | apply Kd.R_alloc | apply Kd.R_drewN | apply Kd.R_drew)); exact HO_3.out) hb); have n1_ := Aside0.mk (below_step (by repeat (first | (with_reducible first | exact HB.out | apply below_alloc | apply pw_below_drewN | apply below_drew1) | exact HB.out)) hb); clear HO_3; clear HB; have HO_3 := n0_; have HB := n1_; clear n0_ n1_) | ((with_reducible refine gate_builtin (b := .append) (xs := #[.tmp 12, .tmp 15]) rfl ?_); at_builtin; refine Kd.R_append Kd.string (w0 := w) w.heap.size rfl (.tmp 12) (.tmp 15) 68 9 (.string ⟨#[]⟩) 16 rfl Tryz.underlying68 info9 rfl (by decide) (by omega) u3 x3_1 t292 [.string t292] (fun _ => True) (fun _ => False) rfl rfl ?aP (fun _ hk => hk.elim) ?aF ?aO ?aB ?aS ?aL ?_; (case aP => exact rfl); (case aB => exact (by repeat (first | (with_reducible first | exact HB.out | apply below_alloc | apply pw_below_drewN | apply below_drew1) | exact HB.out))); (case aF => exact (fun _ _ => trivial)); (case aO => exact (by (with_reducible repeat (first | apply Kd.R_alloc | apply Kd.R_drewN | apply Kd.R_drew)); exact HO_3.out)); (case aS => exact (below_size (by repeat (first | (with_reducible first | exact HB.out | apply below_alloc | apply pw_below_drewN | apply below_drew1) | exact HB.out)))); (case aL => have := LMc6.out; omega); intro v294 w8 ho hb hg hat; rw [← Ny293.out] at ho; have n0_ := Aside0.mk (hb); have n1_ := Aside0.mk (ho); clear HB; clear HO_3; have HB := n0_; have HO295 := n1_; clear n0_ n1_; clear ho hb hg hat))); (go_roundg k1)
              case measure => have := HK1.out; omega
              case rel => exact ⟨(y293), (wrap64 (x8_1 + 1)), (by first | rfl | (simp; done) | (simp [*]; done) | exact congrArg Value.bool (ne_nil_bool _) | exact congrArg Value.bool (eq_nil_bool _)), H', ⟨by have := HK1.out; omega⟩, ⟨by (with_reducible repeat (first | apply Kd.R_alloc | apply Kd.R_drewN | apply Kd.R_drew)); exact HO295.out⟩, ⟨by repeat (first | (with_reducible first | exact HB.out | apply below_alloc | apply pw_below_drewN | apply below_drew1) | exact HB.out)⟩⟩
            · (rw [if_neg c6] at H); (exact absurd H (by simp))
          · (rw [if_neg c4] at H); (exact absurd H (by simp))
        · (rw [if_neg c3] at H); (exact absurd H (by simp))
      · (rw [if_neg c2] at H); (have c2b0 : decide (x8_1 < (l0.length : Int)) = false := decide_eq_false c2); (clear c2); (replace H := Option.bind_eq_some_iff.mp H); (obtain ⟨t296, A90, H⟩ := H); (replace H : (some t296) = some r := H); (have A9 := Aside0.mk A90); (clear A90); (obtain rfl := Option.some.inj H); (obtain ⟨Ao10, co10, eo10⟩ := Kd.R_slice HO_3.out); (subst eo10); (go_wp2_with (first | ((with_reducible refine gate_callee (f := 54) rfl ?_); refine goesL_ (some 19) rfl rfl Tryz.func54 (by kernel_rfl) rfl #[.slice Ao10 x3_1.length co10, .string (⟨#[46]⟩ : ByteArray)] rfl (by (try simp only [List.map_toArray, List.map_cons, List.map_nil]); first | done | rfl | (simp only [List.length_drop, List.length_take]; rfl)) ?_; (with_reducible refine (strings_Join.calls _ _ x3_1 (⟨#[46]⟩ : ByteArray) t296 _ ?side1 ?side2 A9.out).mono ?_); (case side1 => repeat (first | exact (Kd.R_reads' HO_3.out).2.2 | (with_reducible refine Kd.C_alloc ?_ _) | (with_reducible refine Kd.C_drewN ?_ _) | (with_reducible refine Kd.C_drew ?_))); (case side2 => exact (Kd.R_reads' HO_3.out).2.1); rintro e w11 ⟨rfl, hb⟩; refine ⟨_, rfl, ?_⟩; have n0_ := Aside0.mk (Kd.R_below (by (with_reducible repeat (first | apply Kd.R_alloc | apply Kd.R_drewN | apply Kd.R_drew)); exact HO_3.out) hb); have n1_ := Aside0.mk (below_step (by repeat (first | (with_reducible first | exact HB.out | apply below_alloc | apply pw_below_drewN | apply below_drew1) | exact HB.out)) hb); clear HO_3; clear HB; have HO_3 := n0_; have HB := n1_; clear n0_ n1_))); (go_ret); (exact ⟨by first | rfl | (simp [errW_none, errW_some] <;> rfl) | (simp [*, errW_none, errW_some] <;> rfl), by repeat (first | (with_reducible first | exact HB.out | apply below_alloc | apply pw_below_drewN | apply below_drew1) | exact HB.out)⟩)
def escape_Codes.l0 : Nat → List ByteArray → List Int → Int → Int → Option (ByteArray × Int)
  | 0, _, _, _, _ => none
  | k + 1, x4, x10, x11, x12 => if x12 < x11 then (if 0 ≤ x12 then (if x12 < (x10.length : Int) then ((codepoint_Hex.f (rd x10 x12)).bind fun t299 => (if x4.length < 8796093022208 then (escape_Codes.l0 k (x4 ++ [t299]) x10 x11 (wrap64 (x12 + 1))) else (none))) else (none)) else (none)) else ((strings_Join.f x4 (⟨#[32]⟩ : ByteArray)).bind fun t303 => (some (t303, 0)))
def escape_Codes.f (k : Nat) (l0 : List Int) : Option (ByteArray × Int) := (escape_valid.f k l0).bind fun t297 => (if t297 = true then (escape_Codes.l0 k ([] : List ByteArray) l0 (l0.length : Int) 0) else (some ((⟨#[]⟩ : ByteArray), 1)))
theorem escape_Codes.mono_l : ∀ k, (∀ y0 y1 y2 y3, LeO (escape_Codes.l0 k y0 y1 y2 y3) (escape_Codes.l0 (k + 1) y0 y1 y2 y3))
  | 0 => fun _ _ _ _ r h => by simp [escape_Codes.l0] at h
  | k + 1 => by
    have ih0 := escape_Codes.mono_l k
    · (intro y0 y1 y2 y3); (unfold escape_Codes.l0)
      repeat' first
      | (with_reducible exact ih0 _ _ _ _)
      | (with_reducible exact escape_valid.mono _ _)
      | (with_reducible exact LeO.refl _)
      | (with_reducible exact LeO.none _)
      | (with_reducible refine LeO.ite ?_ ?_)
      | (with_reducible refine LeO.bind ?_ (fun _ => ?_))
      | exact ih0 _ _ _ _
      | exact escape_valid.mono _ _
      | exact LeO.none _
      | refine LeO.ite ?_ ?_
      | refine LeO.bind ?_ (fun _ => ?_)
theorem escape_Codes.mono : ∀ a0 k, LeO (escape_Codes.f k a0) (escape_Codes.f (k + 1) a0) := by
  (intro a0 k); (have ih0 := escape_Codes.mono_l k); (unfold escape_Codes.f)
  repeat' first
      | (with_reducible exact ih0 _ _ _ _)
      | (with_reducible exact escape_valid.mono _ _)
      | (with_reducible exact LeO.refl _)
      | (with_reducible exact LeO.none _)
      | (with_reducible refine LeO.ite ?_ ?_)
      | (with_reducible refine LeO.bind ?_ (fun _ => ?_))
      | exact ih0 _ _ _ _
      | exact escape_valid.mono _ _
      | exact LeO.none _
      | refine LeO.ite ?_ ?_
      | refine LeO.bind ?_ (fun _ => ?_)
set_option maxHeartbeats 8000000 in
set_option maxRecDepth 100000 in
theorem escape_Codes.calls (k : Nat) (A0 : Option Addr) (c0 : Nat) (l0 : List Int) (r1 : ByteArray) (r2 : Int) (w : World) (hr0 : Kd.C (Kd.int .i64) w A0 l0.length l0) (hc0 : l0.length ≤ c0) (h : escape_Codes.f k l0 = some (r1, r2)) :
    Calls Tryz.prog 30 #[.slice A0 l0.length c0] w fun e w' => e = .returned (.tuple #[.string r1, .int .i64 r2]) ∧ Below w.heap.size w w' := by
  (have HR0 := Aside0.mk hr0); (have HC0 := Aside0.mk hc0); (clear hr0 hc0); (have HB := Aside0.mk (Below.refl w.heap.size w)); (have H : ((escape_valid.f k l0).bind fun t297 => (if t297 = true then (escape_Codes.l0 k ([] : List ByteArray) l0 (l0.length : Int) 0) else (some ((⟨#[]⟩ : ByteArray), 1)))) = some (r1, r2) := h); (clear h); (replace H := Option.bind_eq_some_iff.mp H); (obtain ⟨t297, A20, H⟩ := H); (replace H : (if t297 = true then (escape_Codes.l0 k ([] : List ByteArray) l0 (l0.length : Int) 0) else (some ((⟨#[]⟩ : ByteArray), 1))) = some (r1, r2) := H); (have A2 := Aside0.mk A20); (clear A20); (by_cases c3 : t297 = true)
  · (subst c3); (have H1 : (escape_Codes.l0 k ([] : List ByteArray) l0 (l0.length : Int) 0) = some (r1, r2) := by rw [if_pos rfl] at H; exact H); (clear H); (have H := H1); (clear H1); (have H' := Aside0.mk H); (clear H); (go_enter Tryz.func30, Tryz.ntmps30); (go_wp2_with (first | ((with_reducible refine gate_callee (f := 56) rfl ?_); refine goesL_ (some 8) rfl rfl Tryz.func56 (by kernel_rfl) rfl #[.slice A0 l0.length c0] rfl (by (try simp only [List.map_toArray, List.map_cons, List.map_nil]); first | done | rfl | (simp only [List.length_drop, List.length_take]; rfl)) ?_; (with_reducible refine (escape_valid.calls k _ _ l0 true _ ?side1 ?side2 A2.out).mono ?_); (case side1 => repeat (first | exact HR0.out | (with_reducible refine Kd.C_alloc ?_ _) | (with_reducible refine Kd.C_drewN ?_ _) | (with_reducible refine Kd.C_drew ?_))); (case side2 => exact HC0.out); rintro e w' ⟨rfl, ⟨nd, rfl⟩⟩; refine ⟨_, rfl, ?_⟩))); (go_loopg [4, 12] k (fun kq v4 v12 w' => ∃ (x4_1 : List ByteArray) (x12_1 : Int), v12 = .int .i64 x12_1 ∧ Aside0 (escape_Codes.l0 kq x4_1 l0 (l0.length : Int) x12_1 = some (r1, r2)) ∧ Aside0 (kq ≤ k) ∧ Aside0 (Kd.R Kd.string 9 w' w.heap.size (fun _ => True) v4 x4_1) ∧ Aside0 (Below w.heap.size w w')))
    case atStart => exact ⟨(([] : List ByteArray)), (0), (by first | rfl | (simp; done) | (simp [*]; done) | exact congrArg Value.bool (ne_nil_bool _) | exact congrArg Value.bool (eq_nil_bool _)), H', ⟨Nat.le_refl _⟩, ⟨by first | exact Kd.R_nil _ _ _ _ _ | exact Kd.N_nil _ _ _ _ _ | exact Kd.V_nil _ _ _ _ _ | exact Kd.Q_nil _ _ _ _ _ | exact Kd.S_nil _ _ _ _ _⟩, ⟨by repeat (first | (with_reducible first | exact HB.out | apply below_alloc | apply pw_below_drewN | apply below_drew1) | exact HB.out)⟩⟩
    case round =>
      (clear H'); (try clear p2); (try clear c3); (obtain ⟨x4_1, x12_1, rfl, HA, HK1, HO_4, HB⟩ := hrel)
      cases gk with
      | zero => exact absurd HA.out (by simp [escape_Codes.l0])
      | succ k1 =>
        (have H := HA.out); (clear HA); (simp only [escape_Codes.l0] at H); (by_cases c4 : x12_1 < (l0.length : Int))
        · (rw [if_pos c4] at H); (have c4b0 : decide (x12_1 < (l0.length : Int)) = true := decide_eq_true c4); (clear c4); (by_cases c5 : 0 ≤ x12_1)
          · (rw [if_pos c5] at H); (have c5b0 : decide (0 ≤ x12_1) = true := decide_eq_true c5); (clear c5); (by_cases c6 : x12_1 < (l0.length : Int))
            · (rw [if_pos c6] at H); (have c6b0 : decide (x12_1 < (l0.length : Int)) = true := decide_eq_true c6); (clear c6); (replace H := Option.bind_eq_some_iff.mp H); (obtain ⟨t299, A70, H⟩ := H); (replace H : (if x4_1.length < 8796093022208 then (escape_Codes.l0 k1 (x4_1 ++ [t299]) l0 (l0.length : Int) (wrap64 (x12_1 + 1))) else (none)) = some (r1, r2) := H); (have A7 := Aside0.mk A70); (clear A70); (by_cases c8 : x4_1.length < 8796093022208)
              · (rw [if_pos c8] at H); (have LMc8 := Aside0.mk c8); (clear c8); (obtain ⟨y300, hy300⟩ : ∃ y_ : List ByteArray, y_ = (x4_1 ++ [t299]) := ⟨_, rfl⟩); (replace H : (escape_Codes.l0 k1 y300 l0 (l0.length : Int) (wrap64 (x12_1 + 1))) = some (r1, r2) := by first | (rw [hy300]; with_reducible exact H) | (have H2_ := (Option.bind_some _ _).symm.trans H; rw [hy300]; with_reducible exact H2_) | (have H2_ := (Option.bind_some _ _).symm.trans H; with_reducible exact H2_) | with_reducible exact H | (rw [hy300]; exact H) | exact H); (have Ny300 := Aside0.mk hy300); (clear hy300); (have H' := Aside0.mk H); (clear H); (have p298 : 0 ≤ (x12_1 : Int) := of_decide_eq_true (by first | (with_reducible assumption) | assumption)); (have q298 : x12_1 < (l0.length : Int) := of_decide_eq_true (by first | (with_reducible assumption) | assumption)); (obtain ⟨ad298, e298, hx298_0⟩ := Kd.at_int HR0.out x12_1 p298 q298); (cases e298); (replace hx298_0 := (HB.out.cell (World.block_lt_of_cell? w _ hx298_0)).trans hx298_0); (replace p298 := eq_true p298); (replace q298 := eq_true q298); (go_wp2_with (first | ((with_reducible refine gate_callee (f := 57) rfl ?_); refine goesL_ (some 18) rfl rfl Tryz.func57 (by kernel_rfl) rfl #[.int .i64 (rd l0 x12_1)] rfl (by (try simp only [List.map_toArray, List.map_cons, List.map_nil]); first | done | rfl | (simp only [List.length_drop, List.length_take]; rfl)) ?_; (with_reducible refine (codepoint_Hex.calls (rd l0 x12_1) t299 _ A7.out).mono ?_); rintro e w9 ⟨rfl, hb⟩; refine ⟨_, rfl, ?_⟩; have n0_ := Aside0.mk (Kd.R_below (by (with_reducible repeat (first | apply Kd.R_alloc | apply Kd.R_drewN | apply Kd.R_drew)); exact HO_4.out) hb); have n1_ := Aside0.mk (below_step (by repeat (first | (with_reducible first | exact HB.out | apply below_alloc | apply pw_below_drewN | apply below_drew1) | exact HB.out)) hb); clear HO_4; clear HB; have HO_4 := n0_; have HB := n1_; clear n0_ n1_) | ((with_reducible refine gate_builtin (b := .append) (xs := #[.tmp 16, .tmp 19]) rfl ?_); at_builtin; refine Kd.R_append Kd.string (w0 := w) w.heap.size rfl (.tmp 16) (.tmp 19) 68 9 (.string ⟨#[]⟩) 16 rfl Tryz.underlying68 info9 rfl (by decide) (by omega) u4 x4_1 t299 [.string t299] (fun _ => True) (fun _ => False) rfl rfl ?aP (fun _ hk => hk.elim) ?aF ?aO ?aB ?aS ?aL ?_; (case aP => exact rfl); (case aB => exact (by repeat (first | (with_reducible first | exact HB.out | apply below_alloc | apply pw_below_drewN | apply below_drew1) | exact HB.out))); (case aF => exact (fun _ _ => trivial)); (case aO => exact (by (with_reducible repeat (first | apply Kd.R_alloc | apply Kd.R_drewN | apply Kd.R_drew)); exact HO_4.out)); (case aS => exact (below_size (by repeat (first | (with_reducible first | exact HB.out | apply below_alloc | apply pw_below_drewN | apply below_drew1) | exact HB.out)))); (case aL => have := LMc8.out; omega); intro v301 w10 ho hb hg hat; rw [← Ny300.out] at ho; have n0_ := Aside0.mk (hb); have n1_ := Aside0.mk (ho); clear HB; clear HO_4; have HB := n0_; have HO302 := n1_; clear n0_ n1_; clear ho hb hg hat))); (go_roundg k1)
                case measure => have := HK1.out; omega
                case rel => exact ⟨(y300), (wrap64 (x12_1 + 1)), (by first | rfl | (simp; done) | (simp [*]; done) | exact congrArg Value.bool (ne_nil_bool _) | exact congrArg Value.bool (eq_nil_bool _)), H', ⟨by have := HK1.out; omega⟩, ⟨by (with_reducible repeat (first | apply Kd.R_alloc | apply Kd.R_drewN | apply Kd.R_drew)); exact HO302.out⟩, ⟨by repeat (first | (with_reducible first | exact HB.out | apply below_alloc | apply pw_below_drewN | apply below_drew1) | exact HB.out)⟩⟩
              · (rw [if_neg c8] at H); (exact absurd H (by simp))
            · (rw [if_neg c6] at H); (exact absurd H (by simp))
          · (rw [if_neg c5] at H); (exact absurd H (by simp))
        · (rw [if_neg c4] at H); (have c4b0 : decide (x12_1 < (l0.length : Int)) = false := decide_eq_false c4); (clear c4); (replace H := Option.bind_eq_some_iff.mp H); (obtain ⟨t303, A110, H⟩ := H); (replace H : (some (t303, 0)) = some (r1, r2) := H); (have A11 := Aside0.mk A110); (clear A110); (simp only [Option.some.injEq, Prod.mk.injEq] at H); (obtain ⟨rfl, rfl⟩ := H); (obtain ⟨Ao12, co12, eo12⟩ := Kd.R_slice HO_4.out); (subst eo12); (go_wp2_with (first | ((with_reducible refine gate_callee (f := 54) rfl ?_); refine goesL_ (some 23) rfl rfl Tryz.func54 (by kernel_rfl) rfl #[.slice Ao12 x4_1.length co12, .string (⟨#[32]⟩ : ByteArray)] rfl (by (try simp only [List.map_toArray, List.map_cons, List.map_nil]); first | done | rfl | (simp only [List.length_drop, List.length_take]; rfl)) ?_; (with_reducible refine (strings_Join.calls _ _ x4_1 (⟨#[32]⟩ : ByteArray) t303 _ ?side1 ?side2 A11.out).mono ?_); (case side1 => repeat (first | exact (Kd.R_reads' HO_4.out).2.2 | (with_reducible refine Kd.C_alloc ?_ _) | (with_reducible refine Kd.C_drewN ?_ _) | (with_reducible refine Kd.C_drew ?_))); (case side2 => exact (Kd.R_reads' HO_4.out).2.1); rintro e w13 ⟨rfl, hb⟩; refine ⟨_, rfl, ?_⟩; have n0_ := Aside0.mk (Kd.R_below (by (with_reducible repeat (first | apply Kd.R_alloc | apply Kd.R_drewN | apply Kd.R_drew)); exact HO_4.out) hb); have n1_ := Aside0.mk (below_step (by repeat (first | (with_reducible first | exact HB.out | apply below_alloc | apply pw_below_drewN | apply below_drew1) | exact HB.out)) hb); clear HO_4; clear HB; have HO_4 := n0_; have HB := n1_; clear n0_ n1_))); (go_ret2); (exact ⟨by first | rfl | (simp [errW_none, errW_some] <;> rfl) | (simp [*, errW_none, errW_some] <;> rfl), by repeat (first | (with_reducible first | exact HB.out | apply below_alloc | apply pw_below_drewN | apply below_drew1) | exact HB.out)⟩)
  · (replace c3 := Bool.eq_false_iff.mpr c3); (subst c3); (have H1 : (some ((⟨#[]⟩ : ByteArray), 1)) = some (r1, r2) := by rw [if_neg (show ¬ (false = true) by decide)] at H; exact H); (clear H); (have H := H1); (clear H1); (simp only [Option.some.injEq, Prod.mk.injEq] at H); (obtain ⟨rfl, rfl⟩ := H); (go_enter Tryz.func30, Tryz.ntmps30); (go_wp2_with (first | ((with_reducible refine gate_callee (f := 56) rfl ?_); refine goesL_ (some 8) rfl rfl Tryz.func56 (by kernel_rfl) rfl #[.slice A0 l0.length c0] rfl (by (try simp only [List.map_toArray, List.map_cons, List.map_nil]); first | done | rfl | (simp only [List.length_drop, List.length_take]; rfl)) ?_; (with_reducible refine (escape_valid.calls k _ _ l0 false _ ?side1 ?side2 A2.out).mono ?_); (case side1 => repeat (first | exact HR0.out | (with_reducible refine Kd.C_alloc ?_ _) | (with_reducible refine Kd.C_drewN ?_ _) | (with_reducible refine Kd.C_drew ?_))); (case side2 => exact HC0.out); rintro e w' ⟨rfl, ⟨nd, rfl⟩⟩; refine ⟨_, rfl, ?_⟩))); (go_ret2); (exact ⟨by first | rfl | (simp [errW_none, errW_some] <;> rfl) | (simp [*, errW_none, errW_some] <;> rfl), by repeat (first | (with_reducible first | exact HB.out | apply below_alloc | apply pw_below_drewN | apply below_drew1) | exact HB.out)⟩)
end Go.Proofs.YtdaijpjjilmkkaaGreatDoor.Pr

/- The contract of element.text: the text of elements, one behind the other. -/
namespace Go.Proofs.YtdaijpjjilmkkaaGreatDoor.Pr
open Go.RowKit Go.Shelf Go.Proofs.YtdaijpjjilmkkaaGreatDoorW.PrintWords Go.Proofs.YtdaijpjjilmkkaaGreatDoorW.PrintLast Go.Proofs.YtdaijpjjilmkkaaGreatDoorW.PrintMore
set_option linter.unusedVariables false
set_option linter.unusedSimpArgs false
def weightsT (a b c : Int) : List UInt8 := hexT a ++ 46 :: (hexT b ++ 46 :: hexT c)
theorem weightsT_len (a b c : Int) : (weightsT a b c).length ≤ 20 := by
  (have h0 := hexT_len a); (have h1 := hexT_len b); (have h2 := hexT_len c); (unfold weightsT); (simp); (omega)
theorem weights_f (a b c : Int) : element_weights.f 5 [a, b, c] = some (ofL (weightsT a b c)) := by
  have hj : strings_Join.f [hexOf a, hexOf b, hexOf c] (⟨#[46]⟩ : ByteArray) = some (ofL (weightsT a b c)) := by
    have e : Lib.join ([hexOf a, hexOf b, hexOf c].map (·.data.toList)) ((⟨#[46]⟩ : ByteArray)).data.toList = weightsT a b c := by
      (unfold weightsT hexT); (simp [Lib.join, Lib.joinTail])
    (unfold strings_Join.f); (rw [e, if_pos ⟨by simp, by have := weightsT_len a b c; omega⟩])
  (unfold element_weights.f); (simp only [element_weights.l0, codepoint_Hex.f, Option.bind_some]); (have w0 : wrap64 (0 + 1) = 1 := by unfold wrap64; omega); (have w1 : wrap64 (1 + 1) = 2 := by unfold wrap64; omega); (have w2 : wrap64 (2 + 1) = 3 := by unfold wrap64; omega); (have hl : (([a, b, c] : List Int).length : Int) = 3 := rfl); (rw [hl, w0, w1, w2, if_pos (by decide), if_pos (by decide), if_pos (by decide), if_pos (by simp), if_pos (by decide), if_pos (by decide), if_pos (by decide), if_pos (by simp), if_pos (by decide), if_pos (by decide), if_pos (by decide), if_pos (by simp), if_neg (by decide)]); (rw [show ([] ++ [hexOf (rd [a, b, c] 0)] ++ [hexOf (rd [a, b, c] 1)] ++ [hexOf (rd [a, b, c] 2)] : List ByteArray) = [hexOf a, hexOf b, hexOf c] from rfl, hj, Option.bind_some])
def element_text.f (l0 : List S44) : Option ByteArray := if l0.length ≤ 1000000 then some (ofL (l0.flatMap elT)) else none
theorem elT_le (x : S44) : (elT x).length ≤ 24 := by
  (have h0 := hexT_len x.f0); (have h1 := hexT_len x.f1); (have h2 := hexT_len x.f2); (unfold elT); (simp); (omega)
theorem elsT_len : ∀ l : List S44, (l.flatMap elT).length ≤ 24 * l.length
  | [] => by simp
  | x :: r => by
    (have ih := elsT_len r); (have := elT_le x); (rw [List.flatMap_cons, List.length_append, List.length_cons]); (omega)
theorem grown_of {w w1 : World} (h : Below w.heap.size w w1) : w.grownBy w1 none := ⟨h.os, h.tape, h.output, h.size, fun i hi _ => h.block i hi⟩
theorem cells_more {B b : Nat} {W : World} (a c d : List UInt8) (s : ByteArray) (hs : s.data.toList = c) (hd : a ++ c = d) (h : Bd.Is B b (Lib.byteCells a ++ Lib.strCells s) W) : Bd.Is B b (Lib.byteCells d) W := by
  (subst hd); (rw [Lib.byteCells_append, ← hs]); (exact h)
theorem bcells_len (a : List UInt8) : (Lib.byteCells a).length = a.length := Lib.byteCells_length a
theorem rdE_at (xs : List S44) (i : Nat) (h : i < xs.length) : rd_T44 xs (i : Int) = xs[i] := by simp [rd_T44, h]
set_option maxRecDepth 100000 in
set_option maxHeartbeats 8000000 in
theorem element_text.calls (A0 : Option Addr) (c0 : Nat) (l0 : List S44) (r : ByteArray) (w : World) (hr0 : Kd.C k44 w A0 l0.length l0) (hc0 : l0.length ≤ c0) (h : element_text.f l0 = some r) :
    Calls Tryz.prog 24 #[.slice A0 l0.length c0] w fun e w' => e = .returned (.string r) ∧ Below w.heap.size w w' := by
  (unfold element_text.f at h); (by_cases hl : l0.length ≤ 1000000)
  case neg => rw [if_neg hl] at h; cases h
  (rw [if_pos hl] at h); (have HR := Aside0.mk hr0); (have H := Aside0.mk (Option.some.inj h)); (clear h hr0); (have hu33 := Tryz.underlying44); (go_enter Tryz.func24, Tryz.ntmps24); (go_wp2_with fail); (go_loopg [9] l0.length (fun g v wx => ∃ i : Nat, i ≤ l0.length ∧ v = .int .i64 (i : Int) ∧ i + g = l0.length ∧ Aside0 (Bd.Is w.heap.size w.heap.size (Lib.byteCells ((l0.take i).flatMap elT)) wx) ∧ Aside0 (Below w.heap.size w wx)))
  case atStart => exact ⟨0, by omega, rfl, by omega, ⟨Bd.fresh w⟩, ⟨below_alloc (Below.refl _ _) _⟩⟩
  case round =>
    obtain ⟨i, hile, rfl, hig, HI, HB⟩ := hrel
    cases gk with
    | zero =>
      (obtain rfl : i = l0.length := by omega); (rw [List.take_length] at HI); (go_wp2_with fail); (refine (Tryz.Builder_String_any_k w.heap.size w.heap.size (l0.flatMap elT) _ HI.out HB.out.size).mono ?_); (rintro e W9 ⟨rfl, hI9, hB9, hk9⟩); (go_wp2); (go_ret)
      exact ⟨by rw [← H.out]; rfl, HB.out.trans hB9⟩
    | succ g =>
      (have hi : i < l0.length := by omega); (obtain ⟨ad, rfl, hx0, hx1, hx2, hx3⟩ := at_T44 HR.out (i : Int) (by omega) (by omega)); (obtain ⟨x, hx⟩ : ∃ x, l0[i]'hi = x := ⟨_, rfl⟩); (rw [rdE_at l0 i hi, hx, Int.toNat_natCast] at hx0 hx1 hx2 hx3); (replace hx0 := (HB.out.cell (World.block_lt_of_cell? w _ hx0)).trans hx0); (replace hx1 := (HB.out.cell (World.block_lt_of_cell? w _ hx1)).trans hx1); (replace hx2 := (HB.out.cell (World.block_lt_of_cell? w _ hx2)).trans hx2); (replace hx3 := (HB.out.cell (World.block_lt_of_cell? w _ hx3)).trans hx3)
      have hbz : w.heap.size < wr.heap.size := by
        rcases HI.out with h | h
        · exact h.lt
        · exact h.lt
      obtain ⟨T, hT⟩ : ∃ T, (l0.take i).flatMap elT = T := ⟨_, rfl⟩
      have hTl : T.length ≤ 24000000 := by
        (rw [← hT]); (refine Nat.le_trans (elsT_len _) ?_); (rw [List.length_take]); (omega)
      rw [hT] at HI
      have HF : Aside0 (∀ N : List UInt8, N = elT x → T ++ N = (l0.take (i + 1)).flatMap elT) := ⟨fun N hN => by
        rw [List.take_succ_eq_append_getElem hi, List.flatMap_append, hT, hx, hN]
        simp⟩
      (clear hT hx); (have q0 : (0 ≤ (i : Int)) = True := eq_true (by omega)); (have q1 : ((i : Int) < (l0.length : Int)) = True := eq_true (by omega)); (have hwl := weightsT_len x.f0 x.f1 x.f2); (have hws : (ofL (weightsT x.f0 x.f1 x.f2)).size = (weightsT x.f0 x.f1 x.f2).length := rfl); (have hbig1 : (9223372036854775807 < 2 + (weightsT x.f0 x.f1 x.f2).length) = False := eq_false (by omega)); (have hbig2 : (9223372036854775807 < 2 + (weightsT x.f0 x.f1 x.f2).length + 1) = False := eq_false (by omega))
      cases hm : x.f3 with
      | true =>
        (rw [hm] at hx3); (go_wp2_with fail)
        have hC : Kd.C (Kd.int .i64) ((wr.alloc (.cells #[.int .i64 x.f0, .int .i64 x.f1, .int .i64 x.f2, .bool true] 44)).alloc (.cells #[.int .i64 x.f0, .int .i64 x.f1, .int .i64 x.f2] 3)) (some ⟨wr.heap.size + 1, 0, none⟩) ([x.f0, x.f1, x.f2] : List Int).length [x.f0, x.f1, x.f2] := by
          refine Kd.C_of_reads (d := 0) ⟨rfl, by simp, fun _ => ⟨⟨wr.heap.size + 1, 0, none⟩, rfl, fun j hj => ?_⟩⟩
          have hb : ((wr.alloc (.cells #[.int .i64 x.f0, .int .i64 x.f1, .int .i64 x.f2, .bool true] 44)).alloc (.cells #[.int .i64 x.f0, .int .i64 x.f1, .int .i64 x.f2] 3)).heap[wr.heap.size + 1]? = some (.cells #[.int .i64 x.f0, .int .i64 x.f1, .int .i64 x.f2] 3 (0, 0)) := by
            (have := heap_alloc_new (wr.alloc (.cells #[.int .i64 x.f0, .int .i64 x.f1, .int .i64 x.f2, .bool true] 44)) (.cells #[.int .i64 x.f0, .int .i64 x.f1, .int .i64 x.f2] 3)); (rw [World.size_alloc] at this); (exact this)
          match j, hj with
          | 0, _ => exact (blk_cell hb 0).trans rfl
          | 1, _ => exact (blk_cell hb 1).trans rfl
          | 2, _ => exact (blk_cell hb 2).trans rfl
          | n + 3, h => exact absurd h (by simp)
        (refine (element_weights.calls 5 _ 3 [x.f0, x.f1, x.f2] (ofL (weightsT x.f0 x.f1 x.f2)) _ hC (Nat.le_refl _) (weights_f _ _ _)).mono ?_); (rintro e W1 ⟨rfl, hb1⟩); (have hr1 : Below wr.heap.size wr W1 := (below_alloc (below_alloc (Below.refl _ _) _) _).trans (hb1.mono (by simp; omega))); (have hI1 : Bd.Is w.heap.size w.heap.size (Lib.byteCells T) W1 := Bd.kept HI.out (grown_of hr1) (by simp)); (have hB1 : Below w.heap.size w W1 := HB.out.trans (hr1.mono HB.out.size)); (clear hb1 hr1 hC hx0 hx1 hx2 hx3); (go_wp2_with fail)
        have hS : (⟨#[91]⟩ : ByteArray) ++ (⟨#[42]⟩ : ByteArray) ++ ofL (weightsT x.f0 x.f1 x.f2) ++ (⟨#[93]⟩ : ByteArray) = ofL (elT x) := by
          (rw [show (⟨#[91]⟩ : ByteArray) = ofL [91] from rfl, show (⟨#[42]⟩ : ByteArray) = ofL [42] from rfl, show (⟨#[93]⟩ : ByteArray) = ofL [93] from rfl, ofL_append, ofL_append, ofL_append]); (unfold elT weightsT); (rw [hm]); (simp)
        (rw [hS]); (refine (Bd.WriteString w.heap.size w.heap.size _ (ofL (elT x)) _ hI1 (by rw [bcells_len, ofL_size]; have := elT_le x; omega) hB1.size).mono ?_); (rintro e W2 ⟨rfl, hI2', hb2, hk2⟩); (have hI2 : Bd.Is w.heap.size w.heap.size (Lib.byteCells ((l0.take (i + 1)).flatMap elT)) W2 := cells_more _ (elT x) _ _ (ofL_list _) (HF.out _ rfl) hI2'); (have hB2 : Below w.heap.size w W2 := hB1.trans hb2); (clear hI2' hb2 hk2); (go_wp2_with fail); (go_roundg g)
        case measure => omega
        case rel => exact ⟨i + 1, by omega, by simp, by omega, ⟨hI2⟩, ⟨hB2⟩⟩
      | false =>
        (rw [hm] at hx3); (go_wp2_with fail)
        have hC : Kd.C (Kd.int .i64) ((wr.alloc (.cells #[.int .i64 x.f0, .int .i64 x.f1, .int .i64 x.f2, .bool false] 44)).alloc (.cells #[.int .i64 x.f0, .int .i64 x.f1, .int .i64 x.f2] 3)) (some ⟨wr.heap.size + 1, 0, none⟩) ([x.f0, x.f1, x.f2] : List Int).length [x.f0, x.f1, x.f2] := by
          refine Kd.C_of_reads (d := 0) ⟨rfl, by simp, fun _ => ⟨⟨wr.heap.size + 1, 0, none⟩, rfl, fun j hj => ?_⟩⟩
          have hb : ((wr.alloc (.cells #[.int .i64 x.f0, .int .i64 x.f1, .int .i64 x.f2, .bool false] 44)).alloc (.cells #[.int .i64 x.f0, .int .i64 x.f1, .int .i64 x.f2] 3)).heap[wr.heap.size + 1]? = some (.cells #[.int .i64 x.f0, .int .i64 x.f1, .int .i64 x.f2] 3 (0, 0)) := by
            (have := heap_alloc_new (wr.alloc (.cells #[.int .i64 x.f0, .int .i64 x.f1, .int .i64 x.f2, .bool false] 44)) (.cells #[.int .i64 x.f0, .int .i64 x.f1, .int .i64 x.f2] 3)); (rw [World.size_alloc] at this); (exact this)
          match j, hj with
          | 0, _ => exact (blk_cell hb 0).trans rfl
          | 1, _ => exact (blk_cell hb 1).trans rfl
          | 2, _ => exact (blk_cell hb 2).trans rfl
          | n + 3, h => exact absurd h (by simp)
        (refine (element_weights.calls 5 _ 3 [x.f0, x.f1, x.f2] (ofL (weightsT x.f0 x.f1 x.f2)) _ hC (Nat.le_refl _) (weights_f _ _ _)).mono ?_); (rintro e W1 ⟨rfl, hb1⟩); (have hr1 : Below wr.heap.size wr W1 := (below_alloc (below_alloc (Below.refl _ _) _) _).trans (hb1.mono (by simp; omega))); (have hI1 : Bd.Is w.heap.size w.heap.size (Lib.byteCells T) W1 := Bd.kept HI.out (grown_of hr1) (by simp)); (have hB1 : Below w.heap.size w W1 := HB.out.trans (hr1.mono HB.out.size)); (clear hb1 hr1 hC hx0 hx1 hx2 hx3); (go_wp2_with fail)
        have hS : (⟨#[91]⟩ : ByteArray) ++ (⟨#[46]⟩ : ByteArray) ++ ofL (weightsT x.f0 x.f1 x.f2) ++ (⟨#[93]⟩ : ByteArray) = ofL (elT x) := by
          (rw [show (⟨#[91]⟩ : ByteArray) = ofL [91] from rfl, show (⟨#[46]⟩ : ByteArray) = ofL [46] from rfl, show (⟨#[93]⟩ : ByteArray) = ofL [93] from rfl, ofL_append, ofL_append, ofL_append]); (unfold elT weightsT); (rw [hm]); (simp)
        (rw [hS]); (refine (Bd.WriteString w.heap.size w.heap.size _ (ofL (elT x)) _ hI1 (by rw [bcells_len, ofL_size]; have := elT_le x; omega) hB1.size).mono ?_); (rintro e W2 ⟨rfl, hI2', hb2, hk2⟩); (have hI2 : Bd.Is w.heap.size w.heap.size (Lib.byteCells ((l0.take (i + 1)).flatMap elT)) W2 := cells_more _ (elT x) _ _ (ofL_list _) (HF.out _ rfl) hI2'); (have hB2 : Below w.heap.size w W2 := hB1.trans hb2); (clear hI2' hb2 hk2); (go_wp2_with fail); (go_roundg g)
        case measure => omega
        case rel => exact ⟨i + 1, by omega, by simp, by omega, ⟨hI2⟩, ⟨hB2⟩⟩
end Go.Proofs.YtdaijpjjilmkkaaGreatDoor.Pr
