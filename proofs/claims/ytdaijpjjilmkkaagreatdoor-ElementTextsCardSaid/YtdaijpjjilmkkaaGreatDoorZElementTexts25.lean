/- Texts of the claim ElementTexts, joined: Prx23, HElText, HOne, Prx26, Prx1. -/
import Derived.Test.YtdaijpjjilmkkaaGreatDoorZElementTexts22
import Derived.Test.YtdaijpjjilmkkaaGreatDoorZElementTexts23
import Derived.Test.YtdaijpjjilmkkaaGreatDoorZElementTexts24
import Derived.Lib.Hide
import Derived.WalkMore
-- Written by wip/drive.py of this claim's session, out of the translation. Not trusted: Lean checks it.
namespace Go.Proofs.YtdaijpjjilmkkaaGreatDoor.Pr
open Go.RowKit Go.Proofs.YtdaijpjjilmkkaaGreatDoorW.PrintWords Go.Proofs.YtdaijpjjilmkkaaGreatDoorW.PrintLast Go.Proofs.YtdaijpjjilmkkaaGreatDoorW.PrintMore
attribute [local go_sem] max2_int min2_int max_two min_two max_three min_three max_four min_four   -- for this text's walks alone
set_option linter.unusedVariables false
set_option linter.unusedSimpArgs false
def element_weights.l0 : Nat → List ByteArray → List Int → Int → Int → Option (ByteArray)
  | 0, _, _, _, _ => none
  | k + 1, x3, x6, x7, x8 => if x8 < x7 then (if 0 ≤ x8 then (if x8 < (x6.length : Int) then ((codepoint_Hex.f (rd x6 x8)).bind fun t292 => (if x3.length < 8796093022208 then (element_weights.l0 k (x3 ++ [t292]) x6 x7 (wrap64 (x8 + 1))) else (none))) else (none)) else (none)) else ((strings_Join.f x3 (⟨#[46]⟩ : ByteArray)).bind fun t296 => (some t296))
def element_weights.f (k : Nat) (l0 : List Int) : Option (ByteArray) := element_weights.l0 k ([] : List ByteArray) l0 (l0.length : Int) 0
theorem element_weights.mono_l : ∀ k, (∀ y0 y1 y2 y3, LeO (element_weights.l0 k y0 y1 y2 y3) (element_weights.l0 (k + 1) y0 y1 y2 y3))
  | 0 => fun _ _ _ _ r h => by simp [element_weights.l0] at h
  | k + 1 => by
    have ih0 := element_weights.mono_l k
    · intro y0 y1 y2 y3
      unfold element_weights.l0
      repeat' first
      | (with_reducible exact ih0 _ _ _ _)
      | (with_reducible exact LeO.refl _)
      | (with_reducible exact LeO.none _)
      | (with_reducible refine LeO.ite ?_ ?_)
      | (with_reducible refine LeO.bind ?_ (fun _ => ?_))
      | exact ih0 _ _ _ _
      | exact LeO.none _
      | refine LeO.ite ?_ ?_
      | refine LeO.bind ?_ (fun _ => ?_)
theorem element_weights.mono : ∀ a0 k, LeO (element_weights.f k a0) (element_weights.f (k + 1) a0) := by
  intro a0 k
  have ih0 := element_weights.mono_l k
  unfold element_weights.f
  repeat' first
      | (with_reducible exact ih0 _ _ _ _)
      | (with_reducible exact LeO.refl _)
      | (with_reducible exact LeO.none _)
      | (with_reducible refine LeO.ite ?_ ?_)
      | (with_reducible refine LeO.bind ?_ (fun _ => ?_))
      | exact ih0 _ _ _ _
      | exact LeO.none _
      | refine LeO.ite ?_ ?_
      | refine LeO.bind ?_ (fun _ => ?_)
set_option maxHeartbeats 8000000 in
set_option maxRecDepth 100000 in
theorem element_weights.calls (k : Nat) (A0 : Option Addr) (c0 : Nat) (l0 : List Int) (r : ByteArray) (w : World) (hr0 : Kd.C (Kd.int .i64) w A0 l0.length l0) (hc0 : l0.length ≤ c0) (h : element_weights.f k l0 = some r) :
    Calls Tryz.prog 49 #[.slice A0 l0.length c0] w fun e w' => e = .returned (.string r) ∧ Below w.heap.size w w' := by
  have HR0 := Aside0.mk hr0
  have HC0 := Aside0.mk hc0
  clear hr0 hc0
  have HB := Aside0.mk (Below.refl w.heap.size w)
  have H : (element_weights.l0 k ([] : List ByteArray) l0 (l0.length : Int) 0) = some r := h
  clear h
  have H' := Aside0.mk H
  clear H
  go_enter Tryz.func49, Tryz.ntmps49
  go_wp2
  go_loopg [3, 8] k (fun kq v3 v8 w' => ∃ (x3_1 : List ByteArray) (x8_1 : Int), v8 = .int .i64 x8_1 ∧ Aside0 (element_weights.l0 kq x3_1 l0 (l0.length : Int) x8_1 = some r) ∧ Aside0 (kq ≤ k) ∧ Aside0 (Kd.R Kd.string 9 w' w.heap.size (fun _ => True) v3 x3_1) ∧ Aside0 (Below w.heap.size w w'))
  case atStart => exact ⟨(([] : List ByteArray)), (0), (by first | rfl | (simp; done) | (simp [*]; done) | exact congrArg Value.bool (ne_nil_bool _) | exact congrArg Value.bool (eq_nil_bool _)), H', ⟨Nat.le_refl _⟩, ⟨by first | exact Kd.R_nil _ _ _ _ _ | exact Kd.N_nil _ _ _ _ _ | exact Kd.V_nil _ _ _ _ _ | exact Kd.Q_nil _ _ _ _ _ | exact Kd.S_nil _ _ _ _ _⟩, ⟨by repeat (first | (with_reducible first | exact HB.out | apply below_alloc | apply pw_below_drewN | apply below_drew1) | exact HB.out)⟩⟩
  case round =>
    clear H'
    obtain ⟨x3_1, x8_1, rfl, HA, HK1, HO_3, HB⟩ := hrel
    cases gk with
    | zero => exact absurd HA.out (by simp [element_weights.l0])
    | succ k1 =>
      have H := HA.out
      clear HA
      simp only [element_weights.l0] at H
      by_cases c2 : x8_1 < (l0.length : Int)
      · rw [if_pos c2] at H
        have c2b0 : decide (x8_1 < (l0.length : Int)) = true := decide_eq_true c2
        clear c2
        by_cases c3 : 0 ≤ x8_1
        · rw [if_pos c3] at H
          have c3b0 : decide (0 ≤ x8_1) = true := decide_eq_true c3
          clear c3
          by_cases c4 : x8_1 < (l0.length : Int)
          · rw [if_pos c4] at H
            have c4b0 : decide (x8_1 < (l0.length : Int)) = true := decide_eq_true c4
            clear c4
            replace H := Option.bind_eq_some_iff.mp H
            obtain ⟨t292, A50, H⟩ := H
            replace H : (if x3_1.length < 8796093022208 then (element_weights.l0 k1 (x3_1 ++ [t292]) l0 (l0.length : Int) (wrap64 (x8_1 + 1))) else (none)) = some r := H
            have A5 := Aside0.mk A50
            clear A50
            by_cases c6 : x3_1.length < 8796093022208
            · rw [if_pos c6] at H
              have LMc6 := Aside0.mk c6
              clear c6
              obtain ⟨y293, hy293⟩ : ∃ y_ : List ByteArray, y_ = (x3_1 ++ [t292]) := ⟨_, rfl⟩
              replace H : (element_weights.l0 k1 y293 l0 (l0.length : Int) (wrap64 (x8_1 + 1))) = some r := by first | (rw [hy293]; with_reducible exact H) | (have H2_ := (Option.bind_some _ _).symm.trans H; rw [hy293]; with_reducible exact H2_) | (have H2_ := (Option.bind_some _ _).symm.trans H; with_reducible exact H2_) | with_reducible exact H | (rw [hy293]; exact H) | exact H
              have Ny293 := Aside0.mk hy293
              clear hy293
              have H' := Aside0.mk H
              clear H
              have p291 : 0 ≤ (x8_1 : Int) := of_decide_eq_true (by first | (with_reducible assumption) | assumption)
              have q291 : x8_1 < (l0.length : Int) := of_decide_eq_true (by first | (with_reducible assumption) | assumption)
              obtain ⟨ad291, e291, hx291_0⟩ := Kd.at_int HR0.out x8_1 p291 q291
              cases e291
              replace hx291_0 := (HB.out.cell (World.block_lt_of_cell? w _ hx291_0)).trans hx291_0
              replace p291 := eq_true p291
              replace q291 := eq_true q291
              go_wp2_with (first | ((with_reducible refine gate_callee (f := 57) rfl ?_); refine goesL_ (some 14) rfl rfl Tryz.func57 (by kernel_rfl) rfl #[.int .i64 (rd l0 x8_1)] rfl (by (try simp only [List.map_toArray, List.map_cons, List.map_nil]); first | done | rfl | (simp only [List.length_drop, List.length_take]; rfl)) ?_; (with_reducible refine (codepoint_Hex.calls (rd l0 x8_1) t292 _ A5.out).mono ?_); rintro e w7 ⟨rfl, hb⟩; refine ⟨_, rfl, ?_⟩; have n0_ := Aside0.mk (Kd.R_below (by (with_reducible repeat (first | apply Kd.R_alloc | apply Kd.R_drewN | apply Kd.R_drew)); exact HO_3.out) hb); have n1_ := Aside0.mk (below_step (by repeat (first | (with_reducible first | exact HB.out | apply below_alloc | apply pw_below_drewN | apply below_drew1) | exact HB.out)) hb); clear HO_3; clear HB; have HO_3 := n0_; have HB := n1_; clear n0_ n1_; (try clear hb); (try clear hb2); (try clear hk); (try clear hi)) | ((with_reducible refine gate_builtin (b := .append) (xs := #[.tmp 12, .tmp 15]) rfl ?_); at_builtin; refine Kd.R_append Kd.string (w0 := w) w.heap.size rfl (.tmp 12) (.tmp 15) 68 9 (.string ⟨#[]⟩) 16 rfl Tryz.underlying68 info9 rfl (by decide) (by omega) u3 x3_1 t292 [.string t292] (fun _ => True) (fun _ => False) rfl rfl ?aP (fun _ hk => hk.elim) ?aF ?aO ?aB ?aS ?aL ?_; (case aP => exact rfl); (case aB => exact (by repeat (first | (with_reducible first | exact HB.out | apply below_alloc | apply pw_below_drewN | apply below_drew1) | exact HB.out))); (case aF => exact (fun _ _ => trivial)); (case aO => exact (by (with_reducible repeat (first | apply Kd.R_alloc | apply Kd.R_drewN | apply Kd.R_drew)); exact HO_3.out)); (case aS => exact (below_size (by repeat (first | (with_reducible first | exact HB.out | apply below_alloc | apply pw_below_drewN | apply below_drew1) | exact HB.out)))); (case aL => have := LMc6.out; omega); intro v294 w8 ho hb hg hat; rw [← Ny293.out] at ho; have n0_ := Aside0.mk (hb); have n1_ := Aside0.mk (ho); clear HB; clear HO_3; have HB := n0_; have HO295 := n1_; clear n0_ n1_; clear ho hb hg hat))
              go_roundg k1
              case measure => have := HK1.out; omega
              case rel => exact ⟨(y293), (wrap64 (x8_1 + 1)), (by first | rfl | (simp; done) | (simp [*]; done) | exact congrArg Value.bool (ne_nil_bool _) | exact congrArg Value.bool (eq_nil_bool _)), H', ⟨by have := HK1.out; omega⟩, ⟨by (with_reducible repeat (first | apply Kd.R_alloc | apply Kd.R_drewN | apply Kd.R_drew)); exact HO295.out⟩, ⟨by repeat (first | (with_reducible first | exact HB.out | apply below_alloc | apply pw_below_drewN | apply below_drew1) | exact HB.out)⟩⟩
            · rw [if_neg c6] at H
              exact absurd H (by simp)
          · rw [if_neg c4] at H
            exact absurd H (by simp)
        · rw [if_neg c3] at H
          exact absurd H (by simp)
      · rw [if_neg c2] at H
        have c2b0 : decide (x8_1 < (l0.length : Int)) = false := decide_eq_false c2
        clear c2
        replace H := Option.bind_eq_some_iff.mp H
        obtain ⟨t296, A90, H⟩ := H
        replace H : (some t296) = some r := H
        have A9 := Aside0.mk A90
        clear A90
        obtain rfl := Option.some.inj H
        obtain ⟨Ao10, co10, eo10⟩ := Kd.R_slice HO_3.out
        subst eo10
        go_wp2_with (first | ((with_reducible refine gate_callee (f := 54) rfl ?_); refine goesL_ (some 19) rfl rfl Tryz.func54 (by kernel_rfl) rfl #[.slice Ao10 x3_1.length co10, .string (⟨#[46]⟩ : ByteArray)] rfl (by (try simp only [List.map_toArray, List.map_cons, List.map_nil]); first | done | rfl | (simp only [List.length_drop, List.length_take]; rfl)) ?_; (with_reducible refine (strings_Join.calls _ _ x3_1 (⟨#[46]⟩ : ByteArray) t296 _ ?side1 ?side2 A9.out).mono ?_); (case side1 => repeat (first | exact (Kd.R_reads' HO_3.out).2.2 | (with_reducible refine Kd.C_alloc ?_ _) | (with_reducible refine Kd.C_drewN ?_ _) | (with_reducible refine Kd.C_drew ?_))); (case side2 => exact (Kd.R_reads' HO_3.out).2.1); rintro e w11 ⟨rfl, hb⟩; refine ⟨_, rfl, ?_⟩; have n0_ := Aside0.mk (Kd.R_below (by (with_reducible repeat (first | apply Kd.R_alloc | apply Kd.R_drewN | apply Kd.R_drew)); exact HO_3.out) hb); have n1_ := Aside0.mk (below_step (by repeat (first | (with_reducible first | exact HB.out | apply below_alloc | apply pw_below_drewN | apply below_drew1) | exact HB.out)) hb); clear HO_3; clear HB; have HO_3 := n0_; have HB := n1_; clear n0_ n1_; (try clear hb); (try clear hb2); (try clear hk); (try clear hi)))
        go_ret
        exact ⟨by first | rfl | (simp [errW_none, errW_some] <;> rfl) | (simp [*, errW_none, errW_some] <;> rfl), by repeat (first | (with_reducible first | exact HB.out | apply below_alloc | apply pw_below_drewN | apply below_drew1) | exact HB.out)⟩
def escape_Codes.l0 : Nat → List ByteArray → List Int → Int → Int → Option (ByteArray × Int)
  | 0, _, _, _, _ => none
  | k + 1, x4, x10, x11, x12 => if x12 < x11 then (if 0 ≤ x12 then (if x12 < (x10.length : Int) then ((codepoint_Hex.f (rd x10 x12)).bind fun t299 => (if x4.length < 8796093022208 then (escape_Codes.l0 k (x4 ++ [t299]) x10 x11 (wrap64 (x12 + 1))) else (none))) else (none)) else (none)) else ((strings_Join.f x4 (⟨#[32]⟩ : ByteArray)).bind fun t303 => (some (t303, 0)))
def escape_Codes.f (k : Nat) (l0 : List Int) : Option (ByteArray × Int) := (escape_valid.f k l0).bind fun t297 => (if t297 = true then (escape_Codes.l0 k ([] : List ByteArray) l0 (l0.length : Int) 0) else (some ((⟨#[]⟩ : ByteArray), 1)))
theorem escape_Codes.mono_l : ∀ k, (∀ y0 y1 y2 y3, LeO (escape_Codes.l0 k y0 y1 y2 y3) (escape_Codes.l0 (k + 1) y0 y1 y2 y3))
  | 0 => fun _ _ _ _ r h => by simp [escape_Codes.l0] at h
  | k + 1 => by
    have ih0 := escape_Codes.mono_l k
    · intro y0 y1 y2 y3
      unfold escape_Codes.l0
      repeat' first
      | (with_reducible exact ih0 _ _ _ _)
      | (with_reducible exact escape_valid.mono _ _)
      | (with_reducible exact LeO.refl _)
      | (with_reducible exact LeO.none _)
      | (with_reducible refine LeO.ite ?_ ?_)
      | (with_reducible refine LeO.bind ?_ (fun _ => ?_))
      | exact ih0 _ _ _ _
      | exact escape_valid.mono _ _
      | exact LeO.none _
      | refine LeO.ite ?_ ?_
      | refine LeO.bind ?_ (fun _ => ?_)
theorem escape_Codes.mono : ∀ a0 k, LeO (escape_Codes.f k a0) (escape_Codes.f (k + 1) a0) := by
  intro a0 k
  have ih0 := escape_Codes.mono_l k
  unfold escape_Codes.f
  repeat' first
      | (with_reducible exact ih0 _ _ _ _)
      | (with_reducible exact escape_valid.mono _ _)
      | (with_reducible exact LeO.refl _)
      | (with_reducible exact LeO.none _)
      | (with_reducible refine LeO.ite ?_ ?_)
      | (with_reducible refine LeO.bind ?_ (fun _ => ?_))
      | exact ih0 _ _ _ _
      | exact escape_valid.mono _ _
      | exact LeO.none _
      | refine LeO.ite ?_ ?_
      | refine LeO.bind ?_ (fun _ => ?_)
set_option maxHeartbeats 8000000 in
set_option maxRecDepth 100000 in
theorem escape_Codes.calls (k : Nat) (A0 : Option Addr) (c0 : Nat) (l0 : List Int) (r1 : ByteArray) (r2 : Int) (w : World) (hr0 : Kd.C (Kd.int .i64) w A0 l0.length l0) (hc0 : l0.length ≤ c0) (h : escape_Codes.f k l0 = some (r1, r2)) :
    Calls Tryz.prog 30 #[.slice A0 l0.length c0] w fun e w' => e = .returned (.tuple #[.string r1, .int .i64 r2]) ∧ Below w.heap.size w w' := by
  have HR0 := Aside0.mk hr0
  have HC0 := Aside0.mk hc0
  clear hr0 hc0
  have HB := Aside0.mk (Below.refl w.heap.size w)
  have H : ((escape_valid.f k l0).bind fun t297 => (if t297 = true then (escape_Codes.l0 k ([] : List ByteArray) l0 (l0.length : Int) 0) else (some ((⟨#[]⟩ : ByteArray), 1)))) = some (r1, r2) := h
  clear h
  replace H := Option.bind_eq_some_iff.mp H
  obtain ⟨t297, A20, H⟩ := H
  replace H : (if t297 = true then (escape_Codes.l0 k ([] : List ByteArray) l0 (l0.length : Int) 0) else (some ((⟨#[]⟩ : ByteArray), 1))) = some (r1, r2) := H
  have A2 := Aside0.mk A20
  clear A20
  by_cases c3 : t297 = true
  · subst c3
    have H1 : (escape_Codes.l0 k ([] : List ByteArray) l0 (l0.length : Int) 0) = some (r1, r2) := by rw [if_pos rfl] at H; exact H
    clear H
    have H := H1
    clear H1
    have H' := Aside0.mk H
    clear H
    go_enter Tryz.func30, Tryz.ntmps30
    go_wp2_with (first | ((with_reducible refine gate_callee (f := 56) rfl ?_); refine goesL_ (some 8) rfl rfl Tryz.func56 (by kernel_rfl) rfl #[.slice A0 l0.length c0] rfl (by (try simp only [List.map_toArray, List.map_cons, List.map_nil]); first | done | rfl | (simp only [List.length_drop, List.length_take]; rfl)) ?_; (with_reducible refine (escape_valid.calls k _ _ l0 true _ ?side1 ?side2 A2.out).mono ?_); (case side1 => repeat (first | exact HR0.out | (with_reducible refine Kd.C_alloc ?_ _) | (with_reducible refine Kd.C_drewN ?_ _) | (with_reducible refine Kd.C_drew ?_))); (case side2 => exact HC0.out); rintro e w' ⟨rfl, ⟨nd, rfl⟩⟩; refine ⟨_, rfl, ?_⟩))
    go_loopg [4, 12] k (fun kq v4 v12 w' => ∃ (x4_1 : List ByteArray) (x12_1 : Int), v12 = .int .i64 x12_1 ∧ Aside0 (escape_Codes.l0 kq x4_1 l0 (l0.length : Int) x12_1 = some (r1, r2)) ∧ Aside0 (kq ≤ k) ∧ Aside0 (Kd.R Kd.string 9 w' w.heap.size (fun _ => True) v4 x4_1) ∧ Aside0 (Below w.heap.size w w'))
    case atStart => exact ⟨(([] : List ByteArray)), (0), (by first | rfl | (simp; done) | (simp [*]; done) | exact congrArg Value.bool (ne_nil_bool _) | exact congrArg Value.bool (eq_nil_bool _)), H', ⟨Nat.le_refl _⟩, ⟨by first | exact Kd.R_nil _ _ _ _ _ | exact Kd.N_nil _ _ _ _ _ | exact Kd.V_nil _ _ _ _ _ | exact Kd.Q_nil _ _ _ _ _ | exact Kd.S_nil _ _ _ _ _⟩, ⟨by repeat (first | (with_reducible first | exact HB.out | apply below_alloc | apply pw_below_drewN | apply below_drew1) | exact HB.out)⟩⟩
    case round =>
      clear H'
      try clear p2
      try clear c3
      obtain ⟨x4_1, x12_1, rfl, HA, HK1, HO_4, HB⟩ := hrel
      cases gk with
      | zero => exact absurd HA.out (by simp [escape_Codes.l0])
      | succ k1 =>
        have H := HA.out
        clear HA
        simp only [escape_Codes.l0] at H
        by_cases c4 : x12_1 < (l0.length : Int)
        · rw [if_pos c4] at H
          have c4b0 : decide (x12_1 < (l0.length : Int)) = true := decide_eq_true c4
          clear c4
          by_cases c5 : 0 ≤ x12_1
          · rw [if_pos c5] at H
            have c5b0 : decide (0 ≤ x12_1) = true := decide_eq_true c5
            clear c5
            by_cases c6 : x12_1 < (l0.length : Int)
            · rw [if_pos c6] at H
              have c6b0 : decide (x12_1 < (l0.length : Int)) = true := decide_eq_true c6
              clear c6
              replace H := Option.bind_eq_some_iff.mp H
              obtain ⟨t299, A70, H⟩ := H
              replace H : (if x4_1.length < 8796093022208 then (escape_Codes.l0 k1 (x4_1 ++ [t299]) l0 (l0.length : Int) (wrap64 (x12_1 + 1))) else (none)) = some (r1, r2) := H
              have A7 := Aside0.mk A70
              clear A70
              by_cases c8 : x4_1.length < 8796093022208
              · rw [if_pos c8] at H
                have LMc8 := Aside0.mk c8
                clear c8
                obtain ⟨y300, hy300⟩ : ∃ y_ : List ByteArray, y_ = (x4_1 ++ [t299]) := ⟨_, rfl⟩
                replace H : (escape_Codes.l0 k1 y300 l0 (l0.length : Int) (wrap64 (x12_1 + 1))) = some (r1, r2) := by first | (rw [hy300]; with_reducible exact H) | (have H2_ := (Option.bind_some _ _).symm.trans H; rw [hy300]; with_reducible exact H2_) | (have H2_ := (Option.bind_some _ _).symm.trans H; with_reducible exact H2_) | with_reducible exact H | (rw [hy300]; exact H) | exact H
                have Ny300 := Aside0.mk hy300
                clear hy300
                have H' := Aside0.mk H
                clear H
                have p298 : 0 ≤ (x12_1 : Int) := of_decide_eq_true (by first | (with_reducible assumption) | assumption)
                have q298 : x12_1 < (l0.length : Int) := of_decide_eq_true (by first | (with_reducible assumption) | assumption)
                obtain ⟨ad298, e298, hx298_0⟩ := Kd.at_int HR0.out x12_1 p298 q298
                cases e298
                replace hx298_0 := (HB.out.cell (World.block_lt_of_cell? w _ hx298_0)).trans hx298_0
                replace p298 := eq_true p298
                replace q298 := eq_true q298
                go_wp2_with (first | ((with_reducible refine gate_callee (f := 57) rfl ?_); refine goesL_ (some 18) rfl rfl Tryz.func57 (by kernel_rfl) rfl #[.int .i64 (rd l0 x12_1)] rfl (by (try simp only [List.map_toArray, List.map_cons, List.map_nil]); first | done | rfl | (simp only [List.length_drop, List.length_take]; rfl)) ?_; (with_reducible refine (codepoint_Hex.calls (rd l0 x12_1) t299 _ A7.out).mono ?_); rintro e w9 ⟨rfl, hb⟩; refine ⟨_, rfl, ?_⟩; have n0_ := Aside0.mk (Kd.R_below (by (with_reducible repeat (first | apply Kd.R_alloc | apply Kd.R_drewN | apply Kd.R_drew)); exact HO_4.out) hb); have n1_ := Aside0.mk (below_step (by repeat (first | (with_reducible first | exact HB.out | apply below_alloc | apply pw_below_drewN | apply below_drew1) | exact HB.out)) hb); clear HO_4; clear HB; have HO_4 := n0_; have HB := n1_; clear n0_ n1_; (try clear hb); (try clear hb2); (try clear hk); (try clear hi)) | ((with_reducible refine gate_builtin (b := .append) (xs := #[.tmp 16, .tmp 19]) rfl ?_); at_builtin; refine Kd.R_append Kd.string (w0 := w) w.heap.size rfl (.tmp 16) (.tmp 19) 68 9 (.string ⟨#[]⟩) 16 rfl Tryz.underlying68 info9 rfl (by decide) (by omega) u4 x4_1 t299 [.string t299] (fun _ => True) (fun _ => False) rfl rfl ?aP (fun _ hk => hk.elim) ?aF ?aO ?aB ?aS ?aL ?_; (case aP => exact rfl); (case aB => exact (by repeat (first | (with_reducible first | exact HB.out | apply below_alloc | apply pw_below_drewN | apply below_drew1) | exact HB.out))); (case aF => exact (fun _ _ => trivial)); (case aO => exact (by (with_reducible repeat (first | apply Kd.R_alloc | apply Kd.R_drewN | apply Kd.R_drew)); exact HO_4.out)); (case aS => exact (below_size (by repeat (first | (with_reducible first | exact HB.out | apply below_alloc | apply pw_below_drewN | apply below_drew1) | exact HB.out)))); (case aL => have := LMc8.out; omega); intro v301 w10 ho hb hg hat; rw [← Ny300.out] at ho; have n0_ := Aside0.mk (hb); have n1_ := Aside0.mk (ho); clear HB; clear HO_4; have HB := n0_; have HO302 := n1_; clear n0_ n1_; clear ho hb hg hat))
                go_roundg k1
                case measure => have := HK1.out; omega
                case rel => exact ⟨(y300), (wrap64 (x12_1 + 1)), (by first | rfl | (simp; done) | (simp [*]; done) | exact congrArg Value.bool (ne_nil_bool _) | exact congrArg Value.bool (eq_nil_bool _)), H', ⟨by have := HK1.out; omega⟩, ⟨by (with_reducible repeat (first | apply Kd.R_alloc | apply Kd.R_drewN | apply Kd.R_drew)); exact HO302.out⟩, ⟨by repeat (first | (with_reducible first | exact HB.out | apply below_alloc | apply pw_below_drewN | apply below_drew1) | exact HB.out)⟩⟩
              · rw [if_neg c8] at H
                exact absurd H (by simp)
            · rw [if_neg c6] at H
              exact absurd H (by simp)
          · rw [if_neg c5] at H
            exact absurd H (by simp)
        · rw [if_neg c4] at H
          have c4b0 : decide (x12_1 < (l0.length : Int)) = false := decide_eq_false c4
          clear c4
          replace H := Option.bind_eq_some_iff.mp H
          obtain ⟨t303, A110, H⟩ := H
          replace H : (some (t303, 0)) = some (r1, r2) := H
          have A11 := Aside0.mk A110
          clear A110
          simp only [Option.some.injEq, Prod.mk.injEq] at H
          obtain ⟨rfl, rfl⟩ := H
          obtain ⟨Ao12, co12, eo12⟩ := Kd.R_slice HO_4.out
          subst eo12
          go_wp2_with (first | ((with_reducible refine gate_callee (f := 54) rfl ?_); refine goesL_ (some 23) rfl rfl Tryz.func54 (by kernel_rfl) rfl #[.slice Ao12 x4_1.length co12, .string (⟨#[32]⟩ : ByteArray)] rfl (by (try simp only [List.map_toArray, List.map_cons, List.map_nil]); first | done | rfl | (simp only [List.length_drop, List.length_take]; rfl)) ?_; (with_reducible refine (strings_Join.calls _ _ x4_1 (⟨#[32]⟩ : ByteArray) t303 _ ?side1 ?side2 A11.out).mono ?_); (case side1 => repeat (first | exact (Kd.R_reads' HO_4.out).2.2 | (with_reducible refine Kd.C_alloc ?_ _) | (with_reducible refine Kd.C_drewN ?_ _) | (with_reducible refine Kd.C_drew ?_))); (case side2 => exact (Kd.R_reads' HO_4.out).2.1); rintro e w13 ⟨rfl, hb⟩; refine ⟨_, rfl, ?_⟩; have n0_ := Aside0.mk (Kd.R_below (by (with_reducible repeat (first | apply Kd.R_alloc | apply Kd.R_drewN | apply Kd.R_drew)); exact HO_4.out) hb); have n1_ := Aside0.mk (below_step (by repeat (first | (with_reducible first | exact HB.out | apply below_alloc | apply pw_below_drewN | apply below_drew1) | exact HB.out)) hb); clear HO_4; clear HB; have HO_4 := n0_; have HB := n1_; clear n0_ n1_; (try clear hb); (try clear hb2); (try clear hk); (try clear hi)))
          go_ret2
          exact ⟨by first | rfl | (simp [errW_none, errW_some] <;> rfl) | (simp [*, errW_none, errW_some] <;> rfl), by repeat (first | (with_reducible first | exact HB.out | apply below_alloc | apply pw_below_drewN | apply below_drew1) | exact HB.out)⟩
  · replace c3 := Bool.eq_false_iff.mpr c3
    subst c3
    have H1 : (some ((⟨#[]⟩ : ByteArray), 1)) = some (r1, r2) := by rw [if_neg (show ¬ (false = true) by decide)] at H; exact H
    clear H
    have H := H1
    clear H1
    simp only [Option.some.injEq, Prod.mk.injEq] at H
    obtain ⟨rfl, rfl⟩ := H
    go_enter Tryz.func30, Tryz.ntmps30
    go_wp2_with (first | ((with_reducible refine gate_callee (f := 56) rfl ?_); refine goesL_ (some 8) rfl rfl Tryz.func56 (by kernel_rfl) rfl #[.slice A0 l0.length c0] rfl (by (try simp only [List.map_toArray, List.map_cons, List.map_nil]); first | done | rfl | (simp only [List.length_drop, List.length_take]; rfl)) ?_; (with_reducible refine (escape_valid.calls k _ _ l0 false _ ?side1 ?side2 A2.out).mono ?_); (case side1 => repeat (first | exact HR0.out | (with_reducible refine Kd.C_alloc ?_ _) | (with_reducible refine Kd.C_drewN ?_ _) | (with_reducible refine Kd.C_drew ?_))); (case side2 => exact HC0.out); rintro e w' ⟨rfl, ⟨nd, rfl⟩⟩; refine ⟨_, rfl, ?_⟩))
    go_ret2
    exact ⟨by first | rfl | (simp [errW_none, errW_some] <;> rfl) | (simp [*, errW_none, errW_some] <;> rfl), by repeat (first | (with_reducible first | exact HB.out | apply below_alloc | apply pw_below_drewN | apply below_drew1) | exact HB.out)⟩
end Go.Proofs.YtdaijpjjilmkkaaGreatDoor.Pr

/- The contract of element.text: the text of elements, one behind the other. -/
namespace Go.Proofs.YtdaijpjjilmkkaaGreatDoor.Pr
open Go.RowKit Go.Shelf Go.Proofs.YtdaijpjjilmkkaaGreatDoorW.PrintWords Go.Proofs.YtdaijpjjilmkkaaGreatDoorW.PrintLast Go.Proofs.YtdaijpjjilmkkaaGreatDoorW.PrintMore
set_option linter.unusedVariables false
set_option linter.unusedSimpArgs false
def weightsT (a b c : Int) : List UInt8 := hexT a ++ 46 :: (hexT b ++ 46 :: hexT c)
theorem weightsT_len (a b c : Int) : (weightsT a b c).length ≤ 20 := by
  have h0 := hexT_len a
  have h1 := hexT_len b
  have h2 := hexT_len c
  unfold weightsT
  simp
  omega
theorem weights_f (a b c : Int) : element_weights.f 5 [a, b, c] = some (ofL (weightsT a b c)) := by
  have hj : strings_Join.f [hexOf a, hexOf b, hexOf c] (⟨#[46]⟩ : ByteArray) = some (ofL (weightsT a b c)) := by
    have e : Lib.join ([hexOf a, hexOf b, hexOf c].map (·.data.toList)) ((⟨#[46]⟩ : ByteArray)).data.toList = weightsT a b c := by
      unfold weightsT hexT
      simp [Lib.join, Lib.joinTail]
    unfold strings_Join.f
    rw [e, if_pos ⟨by simp, by have := weightsT_len a b c; omega⟩]
  unfold element_weights.f
  simp only [element_weights.l0, codepoint_Hex.f, Option.bind_some]
  have w0 : wrap64 (0 + 1) = 1 := by unfold wrap64; omega
  have w1 : wrap64 (1 + 1) = 2 := by unfold wrap64; omega
  have w2 : wrap64 (2 + 1) = 3 := by unfold wrap64; omega
  have hl : (([a, b, c] : List Int).length : Int) = 3 := rfl
  rw [hl, w0, w1, w2, if_pos (by decide), if_pos (by decide), if_pos (by decide), if_pos (by simp), if_pos (by decide), if_pos (by decide), if_pos (by decide), if_pos (by simp), if_pos (by decide), if_pos (by decide), if_pos (by decide), if_pos (by simp), if_neg (by decide)]
  rw [show ([] ++ [hexOf (rd [a, b, c] 0)] ++ [hexOf (rd [a, b, c] 1)] ++ [hexOf (rd [a, b, c] 2)] : List ByteArray) = [hexOf a, hexOf b, hexOf c] from rfl, hj, Option.bind_some]
def element_text.f (l0 : List S44) : Option ByteArray := if l0.length ≤ 1000000 then some (ofL (l0.flatMap elT)) else none
theorem elT_le (x : S44) : (elT x).length ≤ 24 := by
  have h0 := hexT_len x.f0
  have h1 := hexT_len x.f1
  have h2 := hexT_len x.f2
  unfold elT
  simp
  omega
theorem elsT_len : ∀ l : List S44, (l.flatMap elT).length ≤ 24 * l.length
  | [] => by simp
  | x :: r => by
    have ih := elsT_len r
    have := elT_le x
    rw [List.flatMap_cons, List.length_append, List.length_cons]
    omega
theorem grown_of {w w1 : World} (h : Below w.heap.size w w1) : w.grownBy w1 none := ⟨h.os, h.tape, h.output, h.size, fun i hi _ => h.block i hi⟩
theorem cells_more {B b : Nat} {W : World} (a c d : List UInt8) (s : ByteArray) (hs : s.data.toList = c) (hd : a ++ c = d) (h : Bd.Is B b (Lib.byteCells a ++ Lib.strCells s) W) : Bd.Is B b (Lib.byteCells d) W := by
  subst hd
  rw [Lib.byteCells_append, ← hs]
  exact h
theorem bcells_len (a : List UInt8) : (Lib.byteCells a).length = a.length := Lib.byteCells_length a
theorem rdE_at (xs : List S44) (i : Nat) (h : i < xs.length) : rd_T44 xs (i : Int) = xs[i] := by simp [rd_T44, h]
set_option maxRecDepth 100000 in
set_option maxHeartbeats 8000000 in
theorem element_text.calls (A0 : Option Addr) (c0 : Nat) (l0 : List S44) (r : ByteArray) (w : World) (hr0 : Kd.C k44 w A0 l0.length l0) (hc0 : l0.length ≤ c0) (h : element_text.f l0 = some r) :
    Calls Tryz.prog 24 #[.slice A0 l0.length c0] w fun e w' => e = .returned (.string r) ∧ Below w.heap.size w w' := by
  unfold element_text.f at h
  by_cases hl : l0.length ≤ 1000000
  case neg => rw [if_neg hl] at h; cases h
  rw [if_pos hl] at h
  have HR := Aside0.mk hr0
  have H := Aside0.mk (Option.some.inj h)
  clear h hr0
  have hu33 := Tryz.underlying44
  go_enter Tryz.func24, Tryz.ntmps24
  go_wp2_with fail
  go_loopg [9] l0.length (fun g v wx => ∃ i : Nat, i ≤ l0.length ∧ v = .int .i64 (i : Int) ∧ i + g = l0.length ∧ Aside0 (Bd.Is w.heap.size w.heap.size (Lib.byteCells ((l0.take i).flatMap elT)) wx) ∧ Aside0 (Below w.heap.size w wx))
  case atStart => exact ⟨0, by omega, rfl, by omega, ⟨Bd.fresh w⟩, ⟨below_alloc (Below.refl _ _) _⟩⟩
  case round =>
    obtain ⟨i, hile, rfl, hig, HI, HB⟩ := hrel
    cases gk with
    | zero =>
      obtain rfl : i = l0.length := by omega
      rw [List.take_length] at HI
      go_wp2_with fail
      refine (Tryz.Builder_String_any_k w.heap.size w.heap.size (l0.flatMap elT) _ HI.out HB.out.size).mono ?_
      rintro e W9 ⟨rfl, hI9, hB9, hk9⟩
      go_wp2
      go_ret
      exact ⟨by rw [← H.out]; rfl, HB.out.trans hB9⟩
    | succ g =>
      have hi : i < l0.length := by omega
      obtain ⟨ad, rfl, hx0, hx1, hx2, hx3⟩ := at_T44 HR.out (i : Int) (by omega) (by omega)
      obtain ⟨x, hx⟩ : ∃ x, l0[i]'hi = x := ⟨_, rfl⟩
      rw [rdE_at l0 i hi, hx, Int.toNat_natCast] at hx0 hx1 hx2 hx3
      replace hx0 := (HB.out.cell (World.block_lt_of_cell? w _ hx0)).trans hx0
      replace hx1 := (HB.out.cell (World.block_lt_of_cell? w _ hx1)).trans hx1
      replace hx2 := (HB.out.cell (World.block_lt_of_cell? w _ hx2)).trans hx2
      replace hx3 := (HB.out.cell (World.block_lt_of_cell? w _ hx3)).trans hx3
      have hbz : w.heap.size < wr.heap.size := by
        rcases HI.out with h | h
        · exact h.lt
        · exact h.lt
      obtain ⟨T, hT⟩ : ∃ T, (l0.take i).flatMap elT = T := ⟨_, rfl⟩
      have hTl : T.length ≤ 24000000 := by
        rw [← hT]
        refine Nat.le_trans (elsT_len _) ?_
        rw [List.length_take]
        omega
      rw [hT] at HI
      have HF : Aside0 (∀ N : List UInt8, N = elT x → T ++ N = (l0.take (i + 1)).flatMap elT) := ⟨fun N hN => by
        rw [List.take_succ_eq_append_getElem hi, List.flatMap_append, hT, hx, hN]
        simp⟩
      clear hT hx
      have q0 : (0 ≤ (i : Int)) = True := eq_true (by omega)
      have q1 : ((i : Int) < (l0.length : Int)) = True := eq_true (by omega)
      have hwl := weightsT_len x.f0 x.f1 x.f2
      have hws : (ofL (weightsT x.f0 x.f1 x.f2)).size = (weightsT x.f0 x.f1 x.f2).length := rfl
      have hbig1 : (9223372036854775807 < 2 + (weightsT x.f0 x.f1 x.f2).length) = False := eq_false (by omega)
      have hbig2 : (9223372036854775807 < 2 + (weightsT x.f0 x.f1 x.f2).length + 1) = False := eq_false (by omega)
      cases hm : x.f3 with
      | true =>
        rw [hm] at hx3
        go_wp2_with fail
        have hC : Kd.C (Kd.int .i64) ((wr.alloc (.cells #[.int .i64 x.f0, .int .i64 x.f1, .int .i64 x.f2, .bool true] 44)).alloc (.cells #[.int .i64 x.f0, .int .i64 x.f1, .int .i64 x.f2] 3)) (some ⟨wr.heap.size + 1, 0, none⟩) ([x.f0, x.f1, x.f2] : List Int).length [x.f0, x.f1, x.f2] := by
          refine Kd.C_of_reads (d := 0) ⟨rfl, by simp, fun _ => ⟨⟨wr.heap.size + 1, 0, none⟩, rfl, fun j hj => ?_⟩⟩
          have hb : ((wr.alloc (.cells #[.int .i64 x.f0, .int .i64 x.f1, .int .i64 x.f2, .bool true] 44)).alloc (.cells #[.int .i64 x.f0, .int .i64 x.f1, .int .i64 x.f2] 3)).heap[wr.heap.size + 1]? = some (.cells #[.int .i64 x.f0, .int .i64 x.f1, .int .i64 x.f2] 3 (0, 0)) := by
            have := heap_alloc_new (wr.alloc (.cells #[.int .i64 x.f0, .int .i64 x.f1, .int .i64 x.f2, .bool true] 44)) (.cells #[.int .i64 x.f0, .int .i64 x.f1, .int .i64 x.f2] 3)
            rw [World.size_alloc] at this
            exact this
          match j, hj with
          | 0, _ => exact (blk_cell hb 0).trans rfl
          | 1, _ => exact (blk_cell hb 1).trans rfl
          | 2, _ => exact (blk_cell hb 2).trans rfl
          | n + 3, h => exact absurd h (by simp)
        refine (element_weights.calls 5 _ 3 [x.f0, x.f1, x.f2] (ofL (weightsT x.f0 x.f1 x.f2)) _ hC (Nat.le_refl _) (weights_f _ _ _)).mono ?_
        rintro e W1 ⟨rfl, hb1⟩
        have hr1 : Below wr.heap.size wr W1 := (below_alloc (below_alloc (Below.refl _ _) _) _).trans (hb1.mono (by simp; omega))
        have hI1 : Bd.Is w.heap.size w.heap.size (Lib.byteCells T) W1 := Bd.kept HI.out (grown_of hr1) (by simp)
        have hB1 : Below w.heap.size w W1 := HB.out.trans (hr1.mono HB.out.size)
        clear hb1 hr1 hC hx0 hx1 hx2 hx3
        go_wp2_with fail
        have hS : (⟨#[91]⟩ : ByteArray) ++ (⟨#[42]⟩ : ByteArray) ++ ofL (weightsT x.f0 x.f1 x.f2) ++ (⟨#[93]⟩ : ByteArray) = ofL (elT x) := by
          rw [show (⟨#[91]⟩ : ByteArray) = ofL [91] from rfl, show (⟨#[42]⟩ : ByteArray) = ofL [42] from rfl, show (⟨#[93]⟩ : ByteArray) = ofL [93] from rfl, ofL_append, ofL_append, ofL_append]
          unfold elT weightsT
          rw [hm]
          simp
        rw [hS]
        refine (Bd.WriteString w.heap.size w.heap.size _ (ofL (elT x)) _ hI1 (by rw [bcells_len, ofL_size]; have := elT_le x; omega) hB1.size).mono ?_
        rintro e W2 ⟨rfl, hI2', hb2, hk2⟩
        have hI2 : Bd.Is w.heap.size w.heap.size (Lib.byteCells ((l0.take (i + 1)).flatMap elT)) W2 := cells_more _ (elT x) _ _ (ofL_list _) (HF.out _ rfl) hI2'
        have hB2 : Below w.heap.size w W2 := hB1.trans hb2
        clear hI2' hb2 hk2
        go_wp2_with fail
        go_roundg g
        case measure => omega
        case rel => exact ⟨i + 1, by omega, by simp, by omega, ⟨hI2⟩, ⟨hB2⟩⟩
      | false =>
        rw [hm] at hx3
        go_wp2_with fail
        have hC : Kd.C (Kd.int .i64) ((wr.alloc (.cells #[.int .i64 x.f0, .int .i64 x.f1, .int .i64 x.f2, .bool false] 44)).alloc (.cells #[.int .i64 x.f0, .int .i64 x.f1, .int .i64 x.f2] 3)) (some ⟨wr.heap.size + 1, 0, none⟩) ([x.f0, x.f1, x.f2] : List Int).length [x.f0, x.f1, x.f2] := by
          refine Kd.C_of_reads (d := 0) ⟨rfl, by simp, fun _ => ⟨⟨wr.heap.size + 1, 0, none⟩, rfl, fun j hj => ?_⟩⟩
          have hb : ((wr.alloc (.cells #[.int .i64 x.f0, .int .i64 x.f1, .int .i64 x.f2, .bool false] 44)).alloc (.cells #[.int .i64 x.f0, .int .i64 x.f1, .int .i64 x.f2] 3)).heap[wr.heap.size + 1]? = some (.cells #[.int .i64 x.f0, .int .i64 x.f1, .int .i64 x.f2] 3 (0, 0)) := by
            have := heap_alloc_new (wr.alloc (.cells #[.int .i64 x.f0, .int .i64 x.f1, .int .i64 x.f2, .bool false] 44)) (.cells #[.int .i64 x.f0, .int .i64 x.f1, .int .i64 x.f2] 3)
            rw [World.size_alloc] at this
            exact this
          match j, hj with
          | 0, _ => exact (blk_cell hb 0).trans rfl
          | 1, _ => exact (blk_cell hb 1).trans rfl
          | 2, _ => exact (blk_cell hb 2).trans rfl
          | n + 3, h => exact absurd h (by simp)
        refine (element_weights.calls 5 _ 3 [x.f0, x.f1, x.f2] (ofL (weightsT x.f0 x.f1 x.f2)) _ hC (Nat.le_refl _) (weights_f _ _ _)).mono ?_
        rintro e W1 ⟨rfl, hb1⟩
        have hr1 : Below wr.heap.size wr W1 := (below_alloc (below_alloc (Below.refl _ _) _) _).trans (hb1.mono (by simp; omega))
        have hI1 : Bd.Is w.heap.size w.heap.size (Lib.byteCells T) W1 := Bd.kept HI.out (grown_of hr1) (by simp)
        have hB1 : Below w.heap.size w W1 := HB.out.trans (hr1.mono HB.out.size)
        clear hb1 hr1 hC hx0 hx1 hx2 hx3
        go_wp2_with fail
        have hS : (⟨#[91]⟩ : ByteArray) ++ (⟨#[46]⟩ : ByteArray) ++ ofL (weightsT x.f0 x.f1 x.f2) ++ (⟨#[93]⟩ : ByteArray) = ofL (elT x) := by
          rw [show (⟨#[91]⟩ : ByteArray) = ofL [91] from rfl, show (⟨#[46]⟩ : ByteArray) = ofL [46] from rfl, show (⟨#[93]⟩ : ByteArray) = ofL [93] from rfl, ofL_append, ofL_append, ofL_append]
          unfold elT weightsT
          rw [hm]
          simp
        rw [hS]
        refine (Bd.WriteString w.heap.size w.heap.size _ (ofL (elT x)) _ hI1 (by rw [bcells_len, ofL_size]; have := elT_le x; omega) hB1.size).mono ?_
        rintro e W2 ⟨rfl, hI2', hb2, hk2⟩
        have hI2 : Bd.Is w.heap.size w.heap.size (Lib.byteCells ((l0.take (i + 1)).flatMap elT)) W2 := cells_more _ (elT x) _ _ (ofL_list _) (HF.out _ rfl) hI2'
        have hB2 : Below w.heap.size w W2 := hB1.trans hb2
        clear hI2' hb2 hk2
        go_wp2_with fail
        go_roundg g
        case measure => omega
        case rel => exact ⟨i + 1, by omega, by simp, by omega, ⟨hI2⟩, ⟨hB2⟩⟩
end Go.Proofs.YtdaijpjjilmkkaaGreatDoor.Pr

/- The contract of element.one (a text of 17 bytes): the element that it spells, or how far it was read. -/
namespace Go.Proofs.YtdaijpjjilmkkaaGreatDoor.Pr
open Go.RowKit Go.Shelf Go.Proofs.YtdaijpjjilmkkaaGreatDoorW.PrintWords Go.Proofs.YtdaijpjjilmkkaaGreatDoorW.PrintLast Go.Proofs.YtdaijpjjilmkkaaGreatDoorW.PrintMore
set_option linter.unusedVariables false
set_option linter.unusedSimpArgs false
def oneQ (m : Bool) : Option Int → Option Int → Option Int → S44 × Bool
  | none, _, _ => (⟨0, 0, 0, m⟩, false)
  | some a, none, _ => (⟨a, 0, 0, m⟩, false)
  | some a, some b, none => (⟨a, b, 0, m⟩, false)
  | some a, some b, some c => (⟨a, b, c, m⟩, true)
def oneM (m : Bool) : List (List UInt8) → S44 × Bool
  | [p, q, r] => oneQ m (dig4 p) (dig4 q) (dig4 r)
  | _ => (⟨0, 0, 0, m⟩, false)
def oneP (t : List UInt8) : S44 × Bool :=
  if t.getD 0 0 = 91 ∧ (t.getD 1 0 = 42 ∨ t.getD 1 0 = 46) ∧ t.getD 16 0 = 93 then oneM (t.getD 1 0 == 42) (cutAt 46 ((t.drop 2).take 14)) else (⟨0, 0, 0, t.getD 1 0 == 42⟩, false)
theorem oneQ_ok (m : Bool) (dp dq dr : Option Int) : (dp.bind fun a => dq.bind fun b => dr.bind fun c => some (⟨a, b, c, m⟩ : S44)) = if (oneQ m dp dq dr).2 = true then some (oneQ m dp dq dr).1 else none := by
  cases dp <;> cases dq <;> cases dr <;> rfl
theorem oneP_ok (t : List UInt8) : oneE t = if (oneP t).2 = true then some (oneP t).1 else none := by
  unfold oneE oneP
  by_cases hc : t.getD 0 0 = 91 ∧ (t.getD 1 0 = 42 ∨ t.getD 1 0 = 46) ∧ t.getD 16 0 = 93
  · rw [if_pos hc, if_pos hc]
    generalize cutAt 46 ((t.drop 2).take 14) = M
    match M with
    | [] => rfl
    | [_] => rfl
    | [_, _] => rfl
    | [p, q, r] => exact oneQ_ok _ _ _ _
    | _ :: _ :: _ :: _ :: _ => rfl
  · rw [if_neg hc, if_neg hc]; rfl
def element_one.f (a0 : ByteArray) : Option (Int × Int × Int × Bool × Bool) :=
  if a0.size = 17 then some ((oneP a0.data.toList).1.f0, (oneP a0.data.toList).1.f1, (oneP a0.data.toList).1.f2, (oneP a0.data.toList).1.f3, (oneP a0.data.toList).2) else none
theorem results_one (tmps : Array Value) (w : World) (B : Nat) (x y z : Int) (m b : Bool) (h2 : tmps.getD 2 undef = .pointer (some ⟨B, 0, none⟩)) (h3 : tmps.getD 3 undef = .bool b)
    (hg : w.heap[B]? = some (.cells #[.int .i64 x, .int .i64 y, .int .i64 z, .bool m] 44 (0, 0))) :
    (results Tryz.f45 tmps).run Tryz.prog w = .ok (.tuple #[.agg #[.int .i64 x, .int .i64 y, .int .i64 z, .bool m], .bool b]) w := by
  have hr : Tryz.f45.results = #[.cell 2 44, .tmp 3] := rfl
  have hl := run_loadVar_row (P := Tryz.prog) w B 44 44 #[.int .i64 x, .int .i64 y, .int .i64 z, .bool m] (0, 0) _ hg Tryz.underlying44 rfl (by kernel_rfl)
  have g2 : tmps[2]?.getD undef = .pointer (some ⟨B, 0, none⟩) := by simpa using h2
  have g3 : tmps[3]?.getD undef = .bool b := by simpa using h3
  simp [results, hr, g2, g3, asAddr, hl]
theorem one_end (w W : World) (a : Act) (x y z x0 y0 z0 : Int) (m b m0 : Bool) (hR : W.heap[w.heap.size]? = some (.cells #[.int .i64 x0, .int .i64 y0, .int .i64 z0, .bool m0] 44 (0, 0))) (hB : Below w.heap.size w W)
    (ha2 : a.tmps.getD 2 undef = .pointer (some ⟨w.heap.size, 0, none⟩)) (ha3 : a.tmps.getD 3 undef = .bool b) (hd : a.defers = []) (R : Ending → World → Prop)
    (hres : ∀ W', Below w.heap.size w W' → R (.returned (.tuple #[.agg #[.int .i64 x, .int .i64 y, .int .i64 z, .bool m], .bool b])) W') :
    bodyPost Tryz.prog Tryz.f45 R .ret a ((((W.setCell ⟨w.heap.size, 0, none⟩ (.int .i64 x)).setCell ⟨w.heap.size, 1, none⟩ (.int .i64 y)).setCell ⟨w.heap.size, 2, none⟩ (.int .i64 z)).setCell ⟨w.heap.size, 3, none⟩ (.bool m)) := by
  have hg := blk_put (blk_put (blk_put (blk_put hR 0 (.int .i64 x) rfl) 1 (.int .i64 y) rfl) 2 (.int .i64 z) rfl) 3 (.bool m) rfl
  refine bodyPost_ret (results_one _ _ _ x y z m b ha2 ha3 hg) hd ?_
  exact hres _ (Below.setCell (Below.setCell (Below.setCell (Below.setCell hB (Nat.le_refl _) _) (Nat.le_refl _) _) (Nat.le_refl _) _) (Nat.le_refl _) _)
theorem bt_get (a0 : ByteArray) (i : Nat) (h : i < a0.size) : ((a0[i]'h).toNat : Int) = ((a0.data.toList.getD i 0).toNat : Int) := by
  rw [List.getD_eq_getElem?_getD, Lib.data_getElem? a0 i h]
  rfl
set_option maxRecDepth 100000 in
set_option maxHeartbeats 8000000 in
theorem element_one.calls (a0 : ByteArray) (r1 r2 r3 : Int) (r4 r5 : Bool) (w : World) (h : element_one.f a0 = some (r1, r2, r3, r4, r5)) (hG : GW w) :
    Calls Tryz.prog 45 #[.string a0] w fun e w' => e = .returned (.tuple #[.agg #[.int .i64 r1, .int .i64 r2, .int .i64 r3, .bool r4], .bool r5]) ∧ Below w.heap.size w w' := by
  unfold element_one.f at h
  by_cases hsz : a0.size = 17
  case neg => rw [if_neg hsz] at h; cases h
  rw [if_pos hsz] at h
  have H := Aside0.mk (Option.some.inj h)
  have HG := Aside0.mk hG
  clear h hG
  have hu33 := Tryz.underlying44
  obtain ⟨t0, ht0⟩ : ∃ t0, a0.data.toList.getD 0 0 = t0 := ⟨_, rfl⟩
  obtain ⟨t1, ht1⟩ : ∃ t1, a0.data.toList.getD 1 0 = t1 := ⟨_, rfl⟩
  obtain ⟨t16, ht16⟩ : ∃ t16, a0.data.toList.getD 16 0 = t16 := ⟨_, rfl⟩
  have hx0 : ∀ h : 0 < a0.size, ((a0[0]'h).toNat : Int) = (t0.toNat : Int) := fun h => by rw [bt_get, ht0]
  have hx1 : ∀ h : 1 < a0.size, ((a0[1]'h).toNat : Int) = (t1.toNat : Int) := fun h => by rw [bt_get, ht1]
  have hx16 : ∀ h : 16 < a0.size, ((a0[16]'h).toNat : Int) = (t16.toNat : Int) := fun h => by rw [bt_get, ht16]
  have HT := Aside0.mk (And.intro ht0 (And.intro ht1 ht16))
  clear ht0 ht1 ht16
  have hM : Aside0 (strings_Split.f (a0.extract 2 16) (⟨#[46]⟩ : ByteArray) = some ((cutAt 46 ((a0.data.toList.drop 2).take 14)).map ofL)) := ⟨by
    have e : a0.extract 2 16 = ofL ((a0.data.toList.drop 2).take 14) := by rw [← ofL_eq (a0.extract 2 16), Lib.extract_data]
    rw [e]
    exact splitc_f 46 _ (by simp; omega)⟩
  obtain ⟨M, hMM⟩ : ∃ M, cutAt 46 ((a0.data.toList.drop 2).take 14) = M := ⟨_, rfl⟩
  rw [hMM] at hM
  have HM := Aside0.mk hMM
  clear hMM
  obtain ⟨m, hm⟩ : ∃ m : Bool, ((t1.toNat : Int) == 42) = m := ⟨_, rfl⟩
  have hb17 : (a0.extract 2 16).size ≤ 9223372036854775807 := by simp; omega
  go_enter Tryz.func45, Tryz.ntmps45
  go_wp2_with fail
  refine (strings_Split.calls _ _ _ _ hM.out (GW.below HG.out (below_alloc (below_alloc (Below.refl _ _) _) _))).mono ?_
  rintro e W1 ⟨v, rfl, hR, hb1⟩
  obtain ⟨A1, c1, rfl⟩ := Kd.R_slice hR
  have hE1 : W1.heap[w.heap.size + 1]? = some (.cells #[.int .i64 0, .int .i64 0, .int .i64 0, .bool m] 44 (0, 0)) := (hb1.block _ (by simp)).trans (by
    have := heap_alloc_new (w.alloc (.cells #[.int .i64 0, .int .i64 0, .int .i64 0, .bool false] 44)) (.cells #[.int .i64 0, .int .i64 0, .int .i64 0, .bool m] 44)
    rw [World.size_alloc] at this
    exact this)
  have hR1 : W1.heap[w.heap.size]? = some (.cells #[.int .i64 0, .int .i64 0, .int .i64 0, .bool false] 44 (0, 0)) := (hb1.block _ (by simp; omega)).trans (by
    rw [Lib.alloc_old _ _ _ (by simp)]
    exact heap_alloc_new _ _)
  have hB1 : Below w.heap.size w W1 := (below_alloc (below_alloc (Below.refl _ _) _) _).trans (hb1.mono (by simp; omega))
  clear hb1
  have c0 := blk_cell hE1 0
  have c1' := blk_cell hE1 1
  have c2 := blk_cell hE1 2
  have c3 := blk_cell hE1 3
  have d0 := blk_cell hR1 0
  have d1 := blk_cell hR1 1
  have d2 := blk_cell hR1 2
  have d3 := blk_cell hR1 3
  have f0 := blk_frozen hR1 0
  have f1 := blk_frozen hR1 1
  have f2 := blk_frozen hR1 2
  have f3 := blk_frozen hR1 3
  have hlen : ((M.map ofL).length : Int) = (M.length : Int) := by rw [List.length_map]
  have hmt : (t1 == 42) = m := by
    rw [← hm]
    by_cases e : t1 = 42
    · rw [e]; rfl
    · rw [beq_eq_false_iff_ne.2 e, beq_eq_false_iff_ne.2 (fun e' => e (UInt8.toNat_inj.1 (by rw [show (42 : UInt8).toNat = 42 from rfl]; omega)))]
  have HMT := Aside0.mk hmt
  clear hmt
  have bad : Aside0 (¬ (t0 = 91 ∧ (t1 = 42 ∨ t1 = 46) ∧ t16 = 93) → oneP a0.data.toList = (⟨0, 0, 0, m⟩, false)) := ⟨fun hn => by
    unfold oneP
    rw [HT.out.1, HT.out.2.1, HT.out.2.2, if_neg hn, HMT.out]⟩
  have good : Aside0 (t0 = 91 ∧ (t1 = 42 ∨ t1 = 46) ∧ t16 = 93 → oneP a0.data.toList = oneM m M) := ⟨fun hn => by
    unfold oneP
    rw [HT.out.1, HT.out.2.1, HT.out.2.2, if_pos hn, HMT.out, HM.out]⟩
  by_cases h0 : t0 = 91
  · have n0 : ((t0.toNat : Int) != 91) = false := by rw [h0]; rfl
    have hcase : (m = true ∧ t1 = 42) ∨ (m = false ∧ t1 = 46 ∧ ((t1.toNat : Int) != 46) = false) ∨ (m = false ∧ t1 ≠ 42 ∧ t1 ≠ 46 ∧ ((t1.toNat : Int) != 46) = true) := by
      cases hmm : m with
      | true => left; rw [hmm] at HMT; exact ⟨rfl, beq_iff_eq.1 HMT.out⟩
      | false =>
        right
        rw [hmm] at HMT
        by_cases e : t1 = 46
        · left; exact ⟨rfl, e, by rw [e]; rfl⟩
        · right; exact ⟨rfl, beq_eq_false_iff_ne.1 HMT.out, e, bne_iff_ne.2 (fun e' => e (UInt8.toNat_inj.1 (by rw [show (46 : UInt8).toNat = 46 from rfl]; omega)))⟩
    rcases hcase with ⟨rfl, h1⟩ | ⟨rfl, h1, k46⟩ | ⟨rfl, h1, h1', k46⟩
    · have k42 : ((t1.toNat : Int) != 42) = false := by rw [h1]; rfl
      by_cases h16 : t16 = 93
      · have n16 : ((t16.toNat : Int) != 93) = false := by rw [h16]; rfl
        have hgood := good.out ⟨h0, Or.inl h1, h16⟩
        by_cases h3 : M.length = 3
        · obtain ⟨pp, pq, pr, rfl⟩ : ∃ pp pq pr, M = [pp, pq, pr] := by
            match M, h3 with
            | [a, b, c], _ => exact ⟨a, b, c, rfl⟩
          have n3 : ((([pp, pq, pr] : List (List UInt8)).length : Int) != 3) = false := rfl
          have hgood' : Aside0 (oneP a0.data.toList = oneQ true (dig4 pp) (dig4 pq) (dig4 pr)) := ⟨hgood⟩
          have hC1 := Aside0.mk hR
          clear hgood
          go_wp2_with fail
          have hz1 := hB1.size
          have hz2 := blk_lt hE1
          go_loopg [46] 3 (fun g v wx => ∃ x y z : Int, Aside0 (wx.heap[w.heap.size + 1]? = some (.cells #[.int .i64 x, .int .i64 y, .int .i64 z, .bool true] 44 (0, 0))) ∧ Aside0 (wx.heap[w.heap.size]? = some (.cells #[.int .i64 0, .int .i64 0, .int .i64 0, .bool false] 44 (0, 0))) ∧
            Aside0 (wx.heap[W1.heap.size]? = some (.cells #[.pointer (some ⟨w.heap.size + 1, 0, none⟩), .pointer (some ⟨w.heap.size + 1, 1, none⟩), .pointer (some ⟨w.heap.size + 1, 2, none⟩)] 109 (0, 0))) ∧
            Aside0 (Kd.R Kd.string 9 wx (((w.alloc (.cells #[.int .i64 0, .int .i64 0, .int .i64 0, .bool false] 44)).alloc (.cells #[.int .i64 0, .int .i64 0, .int .i64 0, .bool true] 44)).heap.size) (fun _ => True) (.slice A1 ([pp, pq, pr].map ofL).length c1) ([pp, pq, pr].map ofL)) ∧ Aside0 (Below w.heap.size w wx) ∧
            ((v = .int .i64 0 ∧ g = 3 ∧ x = 0 ∧ y = 0 ∧ z = 0) ∨ (v = .int .i64 1 ∧ g = 2 ∧ Aside0 (dig4 pp = some x) ∧ y = 0 ∧ z = 0) ∨ (v = .int .i64 2 ∧ g = 1 ∧ Aside0 (dig4 pp = some x) ∧ Aside0 (dig4 pq = some y) ∧ z = 0) ∨
              (v = .int .i64 3 ∧ g = 0 ∧ Aside0 (dig4 pp = some x) ∧ Aside0 (dig4 pq = some y) ∧ Aside0 (dig4 pr = some z))))
          case atStart =>
            refine ⟨0, 0, 0, ⟨?_⟩, ⟨?_⟩, ⟨?_⟩, ⟨Kd.R_alloc hC1.out _⟩, ⟨below_alloc hB1 _⟩, .inl ⟨rfl, rfl, rfl, rfl, rfl⟩⟩
            · exact (Lib.alloc_old _ _ _ (blk_lt hE1)).trans hE1
            · exact (Lib.alloc_old _ _ _ (blk_lt hR1)).trans hR1
            · exact heap_alloc_new _ _
          case round =>
            obtain ⟨x, y, z, HE, HRR, HP, HC, HB, hst⟩ := hrel
            have e0 := blk_cell HE.out 0
            have e1 := blk_cell HE.out 1
            have e2 := blk_cell HE.out 2
            have e3 := blk_cell HE.out 3
            have g0 := blk_cell HRR.out 0
            have g1 := blk_cell HRR.out 1
            have g2 := blk_cell HRR.out 2
            have g3 := blk_cell HRR.out 3
            have k0 := blk_frozen HRR.out 0
            have k1 := blk_frozen HRR.out 1
            have k2 := blk_frozen HRR.out 2
            have k3 := blk_frozen HRR.out 3
            have p0 := blk_cell HP.out 0
            have p1 := blk_cell HP.out 1
            have p2 := blk_cell HP.out 2
            rcases hst with ⟨rfl, rfl, rfl, rfl, rfl⟩ | ⟨rfl, rfl, D0, rfl, rfl⟩ | ⟨rfl, rfl, D0, D1, rfl⟩ | ⟨rfl, rfl, D0, D1, D2⟩
            · obtain ⟨ad, rfl, hx⟩ := Kd.at_string (Kd.R_reads' HC.out).2.2 0 (by decide) (by simp)
              (try rw [show (0 : Int).toNat = 0 from rfl] at hx)
              (try rw [Addr.add_zero'] at hx)
              rw [show rdOf ByteArray.empty ([pp, pq, pr].map ofL) 0 = ofL pp from rfl] at hx
              obtain ⟨K, hK⟩ := prog_parse pp
              have hK' := hK K (Nat.le_refl _)
              dsimp only at hK'
              go_wp2_with fail
              refine (codepoint_Parse.calls K (ofL pp) (parseS pp).1 (parseS pp).2 _ hK').mono ?_
              rintro e W2 ⟨rfl, hd2⟩
              have hb2 : Below wr.heap.size wr W2 := hd2
              have HE2 := (hb2.block _ (blk_lt HE.out)).trans HE.out
              have HRR2 := (hb2.block _ (blk_lt HRR.out)).trans HRR.out
              have HP2 := (hb2.block _ (blk_lt HP.out)).trans HP.out
              have HC2 := Kd.R_below HC.out hb2
              have HB2 := HB.out.trans (hb2.mono HB.out.size)
              have hx2 := (hb2.cell (World.block_lt_of_cell? wr _ hx)).trans hx
              clear hd2 hb2 hx e0 e1 e2 e3 g0 g1 g2 g3 k0 k1 k2 k3 p0 p1 p2
              have e0 := blk_cell HE2 0
              have e1 := blk_cell HE2 1
              have e2 := blk_cell HE2 2
              have e3 := blk_cell HE2 3
              have u0 := blk_frozen HE2 0
              have u1 := blk_frozen HE2 1
              have u2 := blk_frozen HE2 2
              have g0 := blk_cell HRR2 0
              have g1 := blk_cell HRR2 1
              have g2 := blk_cell HRR2 2
              have g3 := blk_cell HRR2 3
              have k0 := blk_frozen HRR2 0
              have k1 := blk_frozen HRR2 1
              have k2 := blk_frozen HRR2 2
              have k3 := blk_frozen HRR2 3
              by_cases hE0 : (parseS pp).2 = 0
              · have hEb : ((parseS pp).2 != 0) = false := bne_eq_false_iff_eq.2 hE0
                by_cases h4 : pp.length = 4
                · have h4b : (((ofL pp).size : Int) != 4) = false := bne_eq_false_iff_eq.2 (by rw [ofL_size]; omega)
                  have h4c : ((pp.length : Int) != 4) = false := bne_eq_false_iff_eq.2 (by omega)
                  have hD : Aside0 (dig4 pp = some (parseS pp).1) := ⟨by unfold dig4; rw [if_pos ⟨h4, hE0⟩]⟩
                  clear hE0 h4
                  go_wp2_with fail
                  go_roundg 2
                  case measure => omega
                  case rel => exact ⟨(parseS pp).1, 0, 0, ⟨blk_put HE2 0 _ rfl⟩, ⟨blk_far HRR2 (by simp) _⟩, ⟨blk_far HP2 (by show W1.heap.size ≠ w.heap.size + 1; omega) _⟩, ⟨Kd.R_set HC2 HE2 (by decide) 0 _⟩, ⟨Below.setCell HB2 (by simp) _⟩, .inr (.inl ⟨rfl, rfl, hD, rfl, rfl⟩)⟩
                · have h4b : (((ofL pp).size : Int) != 4) = true := bne_iff_ne.2 (by rw [ofL_size]; omega)
                  have h4c : ((pp.length : Int) != 4) = true := bne_iff_ne.2 (by omega)
                  have hD : dig4 pp = none := by unfold dig4; rw [if_neg (fun h => h4 h.1)]
                  clear hE0 h4
                  go_wp2_with fail
                  refine one_end w _ _ 0 0 0 0 0 0 true false false HRR2 HB2 rfl rfl rfl _ (fun W' hW' => ⟨?_, hW'⟩)
                  have hH := H.out
                  rw [show oneP a0.data.toList = (⟨0, 0, 0, true⟩, false) by rw [hgood'.out]; rw [hD]; rfl] at hH
                  simp only [Prod.mk.injEq] at hH
                  obtain ⟨rfl, rfl, rfl, rfl, rfl⟩ := hH
                  rfl
              · have hEb : ((parseS pp).2 != 0) = true := bne_iff_ne.2 hE0
                have hD : dig4 pp = none := by unfold dig4; rw [if_neg (fun h => hE0 h.2)]
                clear hE0
                go_wp2_with fail
                refine one_end w _ _ 0 0 0 0 0 0 true false false HRR2 HB2 rfl rfl rfl _ (fun W' hW' => ⟨?_, hW'⟩)
                have hH := H.out
                rw [show oneP a0.data.toList = (⟨0, 0, 0, true⟩, false) by rw [hgood'.out]; rw [hD]; rfl] at hH
                simp only [Prod.mk.injEq] at hH
                obtain ⟨rfl, rfl, rfl, rfl, rfl⟩ := hH
                rfl
            · obtain ⟨ad, rfl, hx⟩ := Kd.at_string (Kd.R_reads' HC.out).2.2 1 (by decide) (by simp)
              (try rw [show (1 : Int).toNat = 1 from rfl] at hx)
              (try rw [Addr.add_zero'] at hx)
              rw [show rdOf ByteArray.empty ([pp, pq, pr].map ofL) 1 = ofL pq from rfl] at hx
              have hxb : wr.cell? ⟨ad.block, ad.off + 1, none⟩ = some (.string (ofL pq)) := hx
              obtain ⟨K, hK⟩ := prog_parse pq
              have hK' := hK K (Nat.le_refl _)
              dsimp only at hK'
              go_wp2_with fail
              refine (codepoint_Parse.calls K (ofL pq) (parseS pq).1 (parseS pq).2 _ hK').mono ?_
              rintro e W2 ⟨rfl, hd2⟩
              have hb2 : Below wr.heap.size wr W2 := hd2
              have HE2 := (hb2.block _ (blk_lt HE.out)).trans HE.out
              have HRR2 := (hb2.block _ (blk_lt HRR.out)).trans HRR.out
              have HP2 := (hb2.block _ (blk_lt HP.out)).trans HP.out
              have HC2 := Kd.R_below HC.out hb2
              have HB2 := HB.out.trans (hb2.mono HB.out.size)
              have hx2 := (hb2.cell (World.block_lt_of_cell? wr _ hx)).trans hx
              have hxb2 : W2.cell? ⟨ad.block, ad.off + 1, none⟩ = some (.string (ofL pq)) := hx2
              clear hxb
              clear hd2 hb2 hx e0 e1 e2 e3 g0 g1 g2 g3 k0 k1 k2 k3 p0 p1 p2
              have e0 := blk_cell HE2 0
              have e1 := blk_cell HE2 1
              have e2 := blk_cell HE2 2
              have e3 := blk_cell HE2 3
              have u0 := blk_frozen HE2 0
              have u1 := blk_frozen HE2 1
              have u2 := blk_frozen HE2 2
              have g0 := blk_cell HRR2 0
              have g1 := blk_cell HRR2 1
              have g2 := blk_cell HRR2 2
              have g3 := blk_cell HRR2 3
              have k0 := blk_frozen HRR2 0
              have k1 := blk_frozen HRR2 1
              have k2 := blk_frozen HRR2 2
              have k3 := blk_frozen HRR2 3
              by_cases hE0 : (parseS pq).2 = 0
              · have hEb : ((parseS pq).2 != 0) = false := bne_eq_false_iff_eq.2 hE0
                by_cases h4 : pq.length = 4
                · have h4b : (((ofL pq).size : Int) != 4) = false := bne_eq_false_iff_eq.2 (by rw [ofL_size]; omega)
                  have h4c : ((pq.length : Int) != 4) = false := bne_eq_false_iff_eq.2 (by omega)
                  have hD : Aside0 (dig4 pq = some (parseS pq).1) := ⟨by unfold dig4; rw [if_pos ⟨h4, hE0⟩]⟩
                  clear hE0 h4
                  go_wp2_with fail
                  go_roundg 1
                  case measure => omega
                  case rel => exact ⟨x, (parseS pq).1, 0, ⟨blk_put HE2 1 _ rfl⟩, ⟨blk_far HRR2 (by simp) _⟩, ⟨blk_far HP2 (by show W1.heap.size ≠ w.heap.size + 1; omega) _⟩, ⟨Kd.R_set HC2 HE2 (by decide) 1 _⟩, ⟨Below.setCell HB2 (by simp) _⟩, .inr (.inr (.inl ⟨rfl, rfl, D0, hD, rfl⟩))⟩
                · have h4b : (((ofL pq).size : Int) != 4) = true := bne_iff_ne.2 (by rw [ofL_size]; omega)
                  have h4c : ((pq.length : Int) != 4) = true := bne_iff_ne.2 (by omega)
                  have hD : dig4 pq = none := by unfold dig4; rw [if_neg (fun h => h4 h.1)]
                  clear hE0 h4
                  go_wp2_with fail
                  refine one_end w _ _ x 0 0 0 0 0 true false false HRR2 HB2 rfl rfl rfl _ (fun W' hW' => ⟨?_, hW'⟩)
                  have hH := H.out
                  rw [show oneP a0.data.toList = (⟨x, 0, 0, true⟩, false) by rw [hgood'.out]; rw [D0.out]; rw [hD]; rfl] at hH
                  simp only [Prod.mk.injEq] at hH
                  obtain ⟨rfl, rfl, rfl, rfl, rfl⟩ := hH
                  rfl
              · have hEb : ((parseS pq).2 != 0) = true := bne_iff_ne.2 hE0
                have hD : dig4 pq = none := by unfold dig4; rw [if_neg (fun h => hE0 h.2)]
                clear hE0
                go_wp2_with fail
                refine one_end w _ _ x 0 0 0 0 0 true false false HRR2 HB2 rfl rfl rfl _ (fun W' hW' => ⟨?_, hW'⟩)
                have hH := H.out
                rw [show oneP a0.data.toList = (⟨x, 0, 0, true⟩, false) by rw [hgood'.out]; rw [D0.out]; rw [hD]; rfl] at hH
                simp only [Prod.mk.injEq] at hH
                obtain ⟨rfl, rfl, rfl, rfl, rfl⟩ := hH
                rfl
            · obtain ⟨ad, rfl, hx⟩ := Kd.at_string (Kd.R_reads' HC.out).2.2 2 (by decide) (by simp)
              (try rw [show (2 : Int).toNat = 2 from rfl] at hx)
              (try rw [Addr.add_zero'] at hx)
              rw [show rdOf ByteArray.empty ([pp, pq, pr].map ofL) 2 = ofL pr from rfl] at hx
              have hxb : wr.cell? ⟨ad.block, ad.off + 2, none⟩ = some (.string (ofL pr)) := hx
              obtain ⟨K, hK⟩ := prog_parse pr
              have hK' := hK K (Nat.le_refl _)
              dsimp only at hK'
              go_wp2_with fail
              refine (codepoint_Parse.calls K (ofL pr) (parseS pr).1 (parseS pr).2 _ hK').mono ?_
              rintro e W2 ⟨rfl, hd2⟩
              have hb2 : Below wr.heap.size wr W2 := hd2
              have HE2 := (hb2.block _ (blk_lt HE.out)).trans HE.out
              have HRR2 := (hb2.block _ (blk_lt HRR.out)).trans HRR.out
              have HP2 := (hb2.block _ (blk_lt HP.out)).trans HP.out
              have HC2 := Kd.R_below HC.out hb2
              have HB2 := HB.out.trans (hb2.mono HB.out.size)
              have hx2 := (hb2.cell (World.block_lt_of_cell? wr _ hx)).trans hx
              have hxb2 : W2.cell? ⟨ad.block, ad.off + 2, none⟩ = some (.string (ofL pr)) := hx2
              clear hxb
              clear hd2 hb2 hx e0 e1 e2 e3 g0 g1 g2 g3 k0 k1 k2 k3 p0 p1 p2
              have e0 := blk_cell HE2 0
              have e1 := blk_cell HE2 1
              have e2 := blk_cell HE2 2
              have e3 := blk_cell HE2 3
              have u0 := blk_frozen HE2 0
              have u1 := blk_frozen HE2 1
              have u2 := blk_frozen HE2 2
              have g0 := blk_cell HRR2 0
              have g1 := blk_cell HRR2 1
              have g2 := blk_cell HRR2 2
              have g3 := blk_cell HRR2 3
              have k0 := blk_frozen HRR2 0
              have k1 := blk_frozen HRR2 1
              have k2 := blk_frozen HRR2 2
              have k3 := blk_frozen HRR2 3
              by_cases hE0 : (parseS pr).2 = 0
              · have hEb : ((parseS pr).2 != 0) = false := bne_eq_false_iff_eq.2 hE0
                by_cases h4 : pr.length = 4
                · have h4b : (((ofL pr).size : Int) != 4) = false := bne_eq_false_iff_eq.2 (by rw [ofL_size]; omega)
                  have h4c : ((pr.length : Int) != 4) = false := bne_eq_false_iff_eq.2 (by omega)
                  have hD : Aside0 (dig4 pr = some (parseS pr).1) := ⟨by unfold dig4; rw [if_pos ⟨h4, hE0⟩]⟩
                  clear hE0 h4
                  go_wp2_with fail
                  go_roundg 0
                  case measure => omega
                  case rel => exact ⟨x, y, (parseS pr).1, ⟨blk_put HE2 2 _ rfl⟩, ⟨blk_far HRR2 (by simp) _⟩, ⟨blk_far HP2 (by show W1.heap.size ≠ w.heap.size + 1; omega) _⟩, ⟨Kd.R_set HC2 HE2 (by decide) 2 _⟩, ⟨Below.setCell HB2 (by simp) _⟩, .inr (.inr (.inr ⟨rfl, rfl, D0, D1, hD⟩))⟩
                · have h4b : (((ofL pr).size : Int) != 4) = true := bne_iff_ne.2 (by rw [ofL_size]; omega)
                  have h4c : ((pr.length : Int) != 4) = true := bne_iff_ne.2 (by omega)
                  have hD : dig4 pr = none := by unfold dig4; rw [if_neg (fun h => h4 h.1)]
                  clear hE0 h4
                  go_wp2_with fail
                  refine one_end w _ _ x y 0 0 0 0 true false false HRR2 HB2 rfl rfl rfl _ (fun W' hW' => ⟨?_, hW'⟩)
                  have hH := H.out
                  rw [show oneP a0.data.toList = (⟨x, y, 0, true⟩, false) by rw [hgood'.out]; rw [D0.out, D1.out]; rw [hD]; rfl] at hH
                  simp only [Prod.mk.injEq] at hH
                  obtain ⟨rfl, rfl, rfl, rfl, rfl⟩ := hH
                  rfl
              · have hEb : ((parseS pr).2 != 0) = true := bne_iff_ne.2 hE0
                have hD : dig4 pr = none := by unfold dig4; rw [if_neg (fun h => hE0 h.2)]
                clear hE0
                go_wp2_with fail
                refine one_end w _ _ x y 0 0 0 0 true false false HRR2 HB2 rfl rfl rfl _ (fun W' hW' => ⟨?_, hW'⟩)
                have hH := H.out
                rw [show oneP a0.data.toList = (⟨x, y, 0, true⟩, false) by rw [hgood'.out]; rw [D0.out, D1.out]; rw [hD]; rfl] at hH
                simp only [Prod.mk.injEq] at hH
                obtain ⟨rfl, rfl, rfl, rfl, rfl⟩ := hH
                rfl
            · go_wp2_with fail
              refine one_end w _ _ x y z 0 0 0 true true false HRR.out HB.out rfl rfl rfl _ (fun W' hW' => ⟨?_, hW'⟩)
              have hH := H.out
              rw [show oneP a0.data.toList = (⟨x, y, z, true⟩, true) by rw [hgood'.out, D0.out, D1.out, D2.out]; rfl] at hH
              simp only [Prod.mk.injEq] at hH
              obtain ⟨rfl, rfl, rfl, rfl, rfl⟩ := hH
              rfl
        · have n3 : ((M.length : Int) != 3) = true := bne_iff_ne.2 (by omega)
          go_wp2_with fail
          refine one_end w _ _ 0 0 0 0 0 0 true false false hR1 hB1 rfl rfl rfl _ (fun W' hW' => ⟨?_, hW'⟩)
          have hH := H.out
          rw [show oneP a0.data.toList = (⟨0, 0, 0, true⟩, false) by rw [hgood]; unfold oneM; split; exact absurd rfl h3; rfl] at hH
          simp only [Prod.mk.injEq] at hH
          obtain ⟨rfl, rfl, rfl, rfl, rfl⟩ := hH
          rfl
      · have n16 : ((t16.toNat : Int) != 93) = true := bne_iff_ne.2 (fun e => h16 (UInt8.toNat_inj.1 (by rw [show (93 : UInt8).toNat = 93 from rfl]; omega)))
        go_wp2_with fail
        refine one_end w _ _ 0 0 0 0 0 0 true false false hR1 hB1 rfl rfl rfl _ (fun W' hW' => ⟨?_, hW'⟩)
        have hH := H.out
        rw [show oneP a0.data.toList = (⟨0, 0, 0, true⟩, false) by exact bad.out (fun h => h16 h.2.2)] at hH
        simp only [Prod.mk.injEq] at hH
        obtain ⟨rfl, rfl, rfl, rfl, rfl⟩ := hH
        rfl
    · have k42 : ((t1.toNat : Int) != 42) = true := by rw [h1]; rfl
      by_cases h16 : t16 = 93
      · have n16 : ((t16.toNat : Int) != 93) = false := by rw [h16]; rfl
        have hgood := good.out ⟨h0, Or.inr h1, h16⟩
        by_cases h3 : M.length = 3
        · obtain ⟨pp, pq, pr, rfl⟩ : ∃ pp pq pr, M = [pp, pq, pr] := by
            match M, h3 with
            | [a, b, c], _ => exact ⟨a, b, c, rfl⟩
          have n3 : ((([pp, pq, pr] : List (List UInt8)).length : Int) != 3) = false := rfl
          have hgood' : Aside0 (oneP a0.data.toList = oneQ false (dig4 pp) (dig4 pq) (dig4 pr)) := ⟨hgood⟩
          have hC1 := Aside0.mk hR
          clear hgood
          go_wp2_with fail
          have hz1 := hB1.size
          have hz2 := blk_lt hE1
          go_loopg [46] 3 (fun g v wx => ∃ x y z : Int, Aside0 (wx.heap[w.heap.size + 1]? = some (.cells #[.int .i64 x, .int .i64 y, .int .i64 z, .bool false] 44 (0, 0))) ∧ Aside0 (wx.heap[w.heap.size]? = some (.cells #[.int .i64 0, .int .i64 0, .int .i64 0, .bool false] 44 (0, 0))) ∧
            Aside0 (wx.heap[W1.heap.size]? = some (.cells #[.pointer (some ⟨w.heap.size + 1, 0, none⟩), .pointer (some ⟨w.heap.size + 1, 1, none⟩), .pointer (some ⟨w.heap.size + 1, 2, none⟩)] 109 (0, 0))) ∧
            Aside0 (Kd.R Kd.string 9 wx (((w.alloc (.cells #[.int .i64 0, .int .i64 0, .int .i64 0, .bool false] 44)).alloc (.cells #[.int .i64 0, .int .i64 0, .int .i64 0, .bool false] 44)).heap.size) (fun _ => True) (.slice A1 ([pp, pq, pr].map ofL).length c1) ([pp, pq, pr].map ofL)) ∧ Aside0 (Below w.heap.size w wx) ∧
            ((v = .int .i64 0 ∧ g = 3 ∧ x = 0 ∧ y = 0 ∧ z = 0) ∨ (v = .int .i64 1 ∧ g = 2 ∧ Aside0 (dig4 pp = some x) ∧ y = 0 ∧ z = 0) ∨ (v = .int .i64 2 ∧ g = 1 ∧ Aside0 (dig4 pp = some x) ∧ Aside0 (dig4 pq = some y) ∧ z = 0) ∨
              (v = .int .i64 3 ∧ g = 0 ∧ Aside0 (dig4 pp = some x) ∧ Aside0 (dig4 pq = some y) ∧ Aside0 (dig4 pr = some z))))
          case atStart =>
            refine ⟨0, 0, 0, ⟨?_⟩, ⟨?_⟩, ⟨?_⟩, ⟨Kd.R_alloc hC1.out _⟩, ⟨below_alloc hB1 _⟩, .inl ⟨rfl, rfl, rfl, rfl, rfl⟩⟩
            · exact (Lib.alloc_old _ _ _ (blk_lt hE1)).trans hE1
            · exact (Lib.alloc_old _ _ _ (blk_lt hR1)).trans hR1
            · exact heap_alloc_new _ _
          case round =>
            obtain ⟨x, y, z, HE, HRR, HP, HC, HB, hst⟩ := hrel
            have e0 := blk_cell HE.out 0
            have e1 := blk_cell HE.out 1
            have e2 := blk_cell HE.out 2
            have e3 := blk_cell HE.out 3
            have g0 := blk_cell HRR.out 0
            have g1 := blk_cell HRR.out 1
            have g2 := blk_cell HRR.out 2
            have g3 := blk_cell HRR.out 3
            have k0 := blk_frozen HRR.out 0
            have k1 := blk_frozen HRR.out 1
            have k2 := blk_frozen HRR.out 2
            have k3 := blk_frozen HRR.out 3
            have p0 := blk_cell HP.out 0
            have p1 := blk_cell HP.out 1
            have p2 := blk_cell HP.out 2
            rcases hst with ⟨rfl, rfl, rfl, rfl, rfl⟩ | ⟨rfl, rfl, D0, rfl, rfl⟩ | ⟨rfl, rfl, D0, D1, rfl⟩ | ⟨rfl, rfl, D0, D1, D2⟩
            · obtain ⟨ad, rfl, hx⟩ := Kd.at_string (Kd.R_reads' HC.out).2.2 0 (by decide) (by simp)
              (try rw [show (0 : Int).toNat = 0 from rfl] at hx)
              (try rw [Addr.add_zero'] at hx)
              rw [show rdOf ByteArray.empty ([pp, pq, pr].map ofL) 0 = ofL pp from rfl] at hx
              obtain ⟨K, hK⟩ := prog_parse pp
              have hK' := hK K (Nat.le_refl _)
              dsimp only at hK'
              go_wp2_with fail
              refine (codepoint_Parse.calls K (ofL pp) (parseS pp).1 (parseS pp).2 _ hK').mono ?_
              rintro e W2 ⟨rfl, hd2⟩
              have hb2 : Below wr.heap.size wr W2 := hd2
              have HE2 := (hb2.block _ (blk_lt HE.out)).trans HE.out
              have HRR2 := (hb2.block _ (blk_lt HRR.out)).trans HRR.out
              have HP2 := (hb2.block _ (blk_lt HP.out)).trans HP.out
              have HC2 := Kd.R_below HC.out hb2
              have HB2 := HB.out.trans (hb2.mono HB.out.size)
              have hx2 := (hb2.cell (World.block_lt_of_cell? wr _ hx)).trans hx
              clear hd2 hb2 hx e0 e1 e2 e3 g0 g1 g2 g3 k0 k1 k2 k3 p0 p1 p2
              have e0 := blk_cell HE2 0
              have e1 := blk_cell HE2 1
              have e2 := blk_cell HE2 2
              have e3 := blk_cell HE2 3
              have u0 := blk_frozen HE2 0
              have u1 := blk_frozen HE2 1
              have u2 := blk_frozen HE2 2
              have g0 := blk_cell HRR2 0
              have g1 := blk_cell HRR2 1
              have g2 := blk_cell HRR2 2
              have g3 := blk_cell HRR2 3
              have k0 := blk_frozen HRR2 0
              have k1 := blk_frozen HRR2 1
              have k2 := blk_frozen HRR2 2
              have k3 := blk_frozen HRR2 3
              by_cases hE0 : (parseS pp).2 = 0
              · have hEb : ((parseS pp).2 != 0) = false := bne_eq_false_iff_eq.2 hE0
                by_cases h4 : pp.length = 4
                · have h4b : (((ofL pp).size : Int) != 4) = false := bne_eq_false_iff_eq.2 (by rw [ofL_size]; omega)
                  have h4c : ((pp.length : Int) != 4) = false := bne_eq_false_iff_eq.2 (by omega)
                  have hD : Aside0 (dig4 pp = some (parseS pp).1) := ⟨by unfold dig4; rw [if_pos ⟨h4, hE0⟩]⟩
                  clear hE0 h4
                  go_wp2_with fail
                  go_roundg 2
                  case measure => omega
                  case rel => exact ⟨(parseS pp).1, 0, 0, ⟨blk_put HE2 0 _ rfl⟩, ⟨blk_far HRR2 (by simp) _⟩, ⟨blk_far HP2 (by show W1.heap.size ≠ w.heap.size + 1; omega) _⟩, ⟨Kd.R_set HC2 HE2 (by decide) 0 _⟩, ⟨Below.setCell HB2 (by simp) _⟩, .inr (.inl ⟨rfl, rfl, hD, rfl, rfl⟩)⟩
                · have h4b : (((ofL pp).size : Int) != 4) = true := bne_iff_ne.2 (by rw [ofL_size]; omega)
                  have h4c : ((pp.length : Int) != 4) = true := bne_iff_ne.2 (by omega)
                  have hD : dig4 pp = none := by unfold dig4; rw [if_neg (fun h => h4 h.1)]
                  clear hE0 h4
                  go_wp2_with fail
                  refine one_end w _ _ 0 0 0 0 0 0 false false false HRR2 HB2 rfl rfl rfl _ (fun W' hW' => ⟨?_, hW'⟩)
                  have hH := H.out
                  rw [show oneP a0.data.toList = (⟨0, 0, 0, false⟩, false) by rw [hgood'.out]; rw [hD]; rfl] at hH
                  simp only [Prod.mk.injEq] at hH
                  obtain ⟨rfl, rfl, rfl, rfl, rfl⟩ := hH
                  rfl
              · have hEb : ((parseS pp).2 != 0) = true := bne_iff_ne.2 hE0
                have hD : dig4 pp = none := by unfold dig4; rw [if_neg (fun h => hE0 h.2)]
                clear hE0
                go_wp2_with fail
                refine one_end w _ _ 0 0 0 0 0 0 false false false HRR2 HB2 rfl rfl rfl _ (fun W' hW' => ⟨?_, hW'⟩)
                have hH := H.out
                rw [show oneP a0.data.toList = (⟨0, 0, 0, false⟩, false) by rw [hgood'.out]; rw [hD]; rfl] at hH
                simp only [Prod.mk.injEq] at hH
                obtain ⟨rfl, rfl, rfl, rfl, rfl⟩ := hH
                rfl
            · obtain ⟨ad, rfl, hx⟩ := Kd.at_string (Kd.R_reads' HC.out).2.2 1 (by decide) (by simp)
              (try rw [show (1 : Int).toNat = 1 from rfl] at hx)
              (try rw [Addr.add_zero'] at hx)
              rw [show rdOf ByteArray.empty ([pp, pq, pr].map ofL) 1 = ofL pq from rfl] at hx
              have hxb : wr.cell? ⟨ad.block, ad.off + 1, none⟩ = some (.string (ofL pq)) := hx
              obtain ⟨K, hK⟩ := prog_parse pq
              have hK' := hK K (Nat.le_refl _)
              dsimp only at hK'
              go_wp2_with fail
              refine (codepoint_Parse.calls K (ofL pq) (parseS pq).1 (parseS pq).2 _ hK').mono ?_
              rintro e W2 ⟨rfl, hd2⟩
              have hb2 : Below wr.heap.size wr W2 := hd2
              have HE2 := (hb2.block _ (blk_lt HE.out)).trans HE.out
              have HRR2 := (hb2.block _ (blk_lt HRR.out)).trans HRR.out
              have HP2 := (hb2.block _ (blk_lt HP.out)).trans HP.out
              have HC2 := Kd.R_below HC.out hb2
              have HB2 := HB.out.trans (hb2.mono HB.out.size)
              have hx2 := (hb2.cell (World.block_lt_of_cell? wr _ hx)).trans hx
              have hxb2 : W2.cell? ⟨ad.block, ad.off + 1, none⟩ = some (.string (ofL pq)) := hx2
              clear hxb
              clear hd2 hb2 hx e0 e1 e2 e3 g0 g1 g2 g3 k0 k1 k2 k3 p0 p1 p2
              have e0 := blk_cell HE2 0
              have e1 := blk_cell HE2 1
              have e2 := blk_cell HE2 2
              have e3 := blk_cell HE2 3
              have u0 := blk_frozen HE2 0
              have u1 := blk_frozen HE2 1
              have u2 := blk_frozen HE2 2
              have g0 := blk_cell HRR2 0
              have g1 := blk_cell HRR2 1
              have g2 := blk_cell HRR2 2
              have g3 := blk_cell HRR2 3
              have k0 := blk_frozen HRR2 0
              have k1 := blk_frozen HRR2 1
              have k2 := blk_frozen HRR2 2
              have k3 := blk_frozen HRR2 3
              by_cases hE0 : (parseS pq).2 = 0
              · have hEb : ((parseS pq).2 != 0) = false := bne_eq_false_iff_eq.2 hE0
                by_cases h4 : pq.length = 4
                · have h4b : (((ofL pq).size : Int) != 4) = false := bne_eq_false_iff_eq.2 (by rw [ofL_size]; omega)
                  have h4c : ((pq.length : Int) != 4) = false := bne_eq_false_iff_eq.2 (by omega)
                  have hD : Aside0 (dig4 pq = some (parseS pq).1) := ⟨by unfold dig4; rw [if_pos ⟨h4, hE0⟩]⟩
                  clear hE0 h4
                  go_wp2_with fail
                  go_roundg 1
                  case measure => omega
                  case rel => exact ⟨x, (parseS pq).1, 0, ⟨blk_put HE2 1 _ rfl⟩, ⟨blk_far HRR2 (by simp) _⟩, ⟨blk_far HP2 (by show W1.heap.size ≠ w.heap.size + 1; omega) _⟩, ⟨Kd.R_set HC2 HE2 (by decide) 1 _⟩, ⟨Below.setCell HB2 (by simp) _⟩, .inr (.inr (.inl ⟨rfl, rfl, D0, hD, rfl⟩))⟩
                · have h4b : (((ofL pq).size : Int) != 4) = true := bne_iff_ne.2 (by rw [ofL_size]; omega)
                  have h4c : ((pq.length : Int) != 4) = true := bne_iff_ne.2 (by omega)
                  have hD : dig4 pq = none := by unfold dig4; rw [if_neg (fun h => h4 h.1)]
                  clear hE0 h4
                  go_wp2_with fail
                  refine one_end w _ _ x 0 0 0 0 0 false false false HRR2 HB2 rfl rfl rfl _ (fun W' hW' => ⟨?_, hW'⟩)
                  have hH := H.out
                  rw [show oneP a0.data.toList = (⟨x, 0, 0, false⟩, false) by rw [hgood'.out]; rw [D0.out]; rw [hD]; rfl] at hH
                  simp only [Prod.mk.injEq] at hH
                  obtain ⟨rfl, rfl, rfl, rfl, rfl⟩ := hH
                  rfl
              · have hEb : ((parseS pq).2 != 0) = true := bne_iff_ne.2 hE0
                have hD : dig4 pq = none := by unfold dig4; rw [if_neg (fun h => hE0 h.2)]
                clear hE0
                go_wp2_with fail
                refine one_end w _ _ x 0 0 0 0 0 false false false HRR2 HB2 rfl rfl rfl _ (fun W' hW' => ⟨?_, hW'⟩)
                have hH := H.out
                rw [show oneP a0.data.toList = (⟨x, 0, 0, false⟩, false) by rw [hgood'.out]; rw [D0.out]; rw [hD]; rfl] at hH
                simp only [Prod.mk.injEq] at hH
                obtain ⟨rfl, rfl, rfl, rfl, rfl⟩ := hH
                rfl
            · obtain ⟨ad, rfl, hx⟩ := Kd.at_string (Kd.R_reads' HC.out).2.2 2 (by decide) (by simp)
              (try rw [show (2 : Int).toNat = 2 from rfl] at hx)
              (try rw [Addr.add_zero'] at hx)
              rw [show rdOf ByteArray.empty ([pp, pq, pr].map ofL) 2 = ofL pr from rfl] at hx
              have hxb : wr.cell? ⟨ad.block, ad.off + 2, none⟩ = some (.string (ofL pr)) := hx
              obtain ⟨K, hK⟩ := prog_parse pr
              have hK' := hK K (Nat.le_refl _)
              dsimp only at hK'
              go_wp2_with fail
              refine (codepoint_Parse.calls K (ofL pr) (parseS pr).1 (parseS pr).2 _ hK').mono ?_
              rintro e W2 ⟨rfl, hd2⟩
              have hb2 : Below wr.heap.size wr W2 := hd2
              have HE2 := (hb2.block _ (blk_lt HE.out)).trans HE.out
              have HRR2 := (hb2.block _ (blk_lt HRR.out)).trans HRR.out
              have HP2 := (hb2.block _ (blk_lt HP.out)).trans HP.out
              have HC2 := Kd.R_below HC.out hb2
              have HB2 := HB.out.trans (hb2.mono HB.out.size)
              have hx2 := (hb2.cell (World.block_lt_of_cell? wr _ hx)).trans hx
              have hxb2 : W2.cell? ⟨ad.block, ad.off + 2, none⟩ = some (.string (ofL pr)) := hx2
              clear hxb
              clear hd2 hb2 hx e0 e1 e2 e3 g0 g1 g2 g3 k0 k1 k2 k3 p0 p1 p2
              have e0 := blk_cell HE2 0
              have e1 := blk_cell HE2 1
              have e2 := blk_cell HE2 2
              have e3 := blk_cell HE2 3
              have u0 := blk_frozen HE2 0
              have u1 := blk_frozen HE2 1
              have u2 := blk_frozen HE2 2
              have g0 := blk_cell HRR2 0
              have g1 := blk_cell HRR2 1
              have g2 := blk_cell HRR2 2
              have g3 := blk_cell HRR2 3
              have k0 := blk_frozen HRR2 0
              have k1 := blk_frozen HRR2 1
              have k2 := blk_frozen HRR2 2
              have k3 := blk_frozen HRR2 3
              by_cases hE0 : (parseS pr).2 = 0
              · have hEb : ((parseS pr).2 != 0) = false := bne_eq_false_iff_eq.2 hE0
                by_cases h4 : pr.length = 4
                · have h4b : (((ofL pr).size : Int) != 4) = false := bne_eq_false_iff_eq.2 (by rw [ofL_size]; omega)
                  have h4c : ((pr.length : Int) != 4) = false := bne_eq_false_iff_eq.2 (by omega)
                  have hD : Aside0 (dig4 pr = some (parseS pr).1) := ⟨by unfold dig4; rw [if_pos ⟨h4, hE0⟩]⟩
                  clear hE0 h4
                  go_wp2_with fail
                  go_roundg 0
                  case measure => omega
                  case rel => exact ⟨x, y, (parseS pr).1, ⟨blk_put HE2 2 _ rfl⟩, ⟨blk_far HRR2 (by simp) _⟩, ⟨blk_far HP2 (by show W1.heap.size ≠ w.heap.size + 1; omega) _⟩, ⟨Kd.R_set HC2 HE2 (by decide) 2 _⟩, ⟨Below.setCell HB2 (by simp) _⟩, .inr (.inr (.inr ⟨rfl, rfl, D0, D1, hD⟩))⟩
                · have h4b : (((ofL pr).size : Int) != 4) = true := bne_iff_ne.2 (by rw [ofL_size]; omega)
                  have h4c : ((pr.length : Int) != 4) = true := bne_iff_ne.2 (by omega)
                  have hD : dig4 pr = none := by unfold dig4; rw [if_neg (fun h => h4 h.1)]
                  clear hE0 h4
                  go_wp2_with fail
                  refine one_end w _ _ x y 0 0 0 0 false false false HRR2 HB2 rfl rfl rfl _ (fun W' hW' => ⟨?_, hW'⟩)
                  have hH := H.out
                  rw [show oneP a0.data.toList = (⟨x, y, 0, false⟩, false) by rw [hgood'.out]; rw [D0.out, D1.out]; rw [hD]; rfl] at hH
                  simp only [Prod.mk.injEq] at hH
                  obtain ⟨rfl, rfl, rfl, rfl, rfl⟩ := hH
                  rfl
              · have hEb : ((parseS pr).2 != 0) = true := bne_iff_ne.2 hE0
                have hD : dig4 pr = none := by unfold dig4; rw [if_neg (fun h => hE0 h.2)]
                clear hE0
                go_wp2_with fail
                refine one_end w _ _ x y 0 0 0 0 false false false HRR2 HB2 rfl rfl rfl _ (fun W' hW' => ⟨?_, hW'⟩)
                have hH := H.out
                rw [show oneP a0.data.toList = (⟨x, y, 0, false⟩, false) by rw [hgood'.out]; rw [D0.out, D1.out]; rw [hD]; rfl] at hH
                simp only [Prod.mk.injEq] at hH
                obtain ⟨rfl, rfl, rfl, rfl, rfl⟩ := hH
                rfl
            · go_wp2_with fail
              refine one_end w _ _ x y z 0 0 0 false true false HRR.out HB.out rfl rfl rfl _ (fun W' hW' => ⟨?_, hW'⟩)
              have hH := H.out
              rw [show oneP a0.data.toList = (⟨x, y, z, false⟩, true) by rw [hgood'.out, D0.out, D1.out, D2.out]; rfl] at hH
              simp only [Prod.mk.injEq] at hH
              obtain ⟨rfl, rfl, rfl, rfl, rfl⟩ := hH
              rfl
        · have n3 : ((M.length : Int) != 3) = true := bne_iff_ne.2 (by omega)
          go_wp2_with fail
          refine one_end w _ _ 0 0 0 0 0 0 false false false hR1 hB1 rfl rfl rfl _ (fun W' hW' => ⟨?_, hW'⟩)
          have hH := H.out
          rw [show oneP a0.data.toList = (⟨0, 0, 0, false⟩, false) by rw [hgood]; unfold oneM; split; exact absurd rfl h3; rfl] at hH
          simp only [Prod.mk.injEq] at hH
          obtain ⟨rfl, rfl, rfl, rfl, rfl⟩ := hH
          rfl
      · have n16 : ((t16.toNat : Int) != 93) = true := bne_iff_ne.2 (fun e => h16 (UInt8.toNat_inj.1 (by rw [show (93 : UInt8).toNat = 93 from rfl]; omega)))
        go_wp2_with fail
        refine one_end w _ _ 0 0 0 0 0 0 false false false hR1 hB1 rfl rfl rfl _ (fun W' hW' => ⟨?_, hW'⟩)
        have hH := H.out
        rw [show oneP a0.data.toList = (⟨0, 0, 0, false⟩, false) by exact bad.out (fun h => h16 h.2.2)] at hH
        simp only [Prod.mk.injEq] at hH
        obtain ⟨rfl, rfl, rfl, rfl, rfl⟩ := hH
        rfl
    · have k42 : ((t1.toNat : Int) != 42) = true := bne_iff_ne.2 (fun e => h1 (UInt8.toNat_inj.1 (by rw [show (42 : UInt8).toNat = 42 from rfl]; omega)))
      go_wp2_with fail
      refine one_end w _ _ 0 0 0 0 0 0 false false false hR1 hB1 rfl rfl rfl _ (fun W' hW' => ⟨?_, hW'⟩)
      have hH := H.out
      rw [show oneP a0.data.toList = (⟨0, 0, 0, false⟩, false) by exact bad.out (fun h => h.2.1.elim h1 h1')] at hH
      simp only [Prod.mk.injEq] at hH
      obtain ⟨rfl, rfl, rfl, rfl, rfl⟩ := hH
      rfl
  · have n0 : ((t0.toNat : Int) != 91) = true := bne_iff_ne.2 (fun e => h0 (UInt8.toNat_inj.1 (by rw [show (91 : UInt8).toNat = 91 from rfl]; omega)))
    go_wp2_with fail
    refine one_end w _ _ 0 0 0 0 0 0 m false false hR1 hB1 rfl rfl rfl _ (fun W' hW' => ⟨?_, hW'⟩)
    have hH := H.out
    rw [show oneP a0.data.toList = (⟨0, 0, 0, m⟩, false) by exact bad.out (fun h => h0 h.1)] at hH
    simp only [Prod.mk.injEq] at hH
    obtain ⟨rfl, rfl, rfl, rfl, rfl⟩ := hH
    rfl
end Go.Proofs.YtdaijpjjilmkkaaGreatDoor.Pr

-- Written by wip/drive.py of this claim's session, out of the translation. Not trusted: Lean checks it.
namespace Go.Proofs.YtdaijpjjilmkkaaGreatDoor.Pr
open Go.RowKit Go.Proofs.YtdaijpjjilmkkaaGreatDoorW.PrintWords Go.Proofs.YtdaijpjjilmkkaaGreatDoorW.PrintLast Go.Proofs.YtdaijpjjilmkkaaGreatDoorW.PrintMore
attribute [local go_sem] max2_int min2_int max_two min_two max_three min_three max_four min_four   -- for this text's walks alone
set_option linter.unusedVariables false
set_option linter.unusedSimpArgs false
def element_Text.f (k : Nat) (l0 : List (S44)) : Option (ByteArray × Int) := (element_checkAll.f k l0).bind fun t338 => (if t338 = 0 then ((element_text.f l0).bind fun t339 => (some (t339, 0))) else (some ((⟨#[]⟩ : ByteArray), t338)))
theorem element_Text.mono : ∀ a0 k, LeO (element_Text.f k a0) (element_Text.f (k + 1) a0) := by
  intro a0 k
  unfold element_Text.f
  repeat' first
      | (with_reducible exact element_checkAll.mono _ _)
      | (with_reducible exact LeO.refl _)
      | (with_reducible exact LeO.none _)
      | (with_reducible refine LeO.ite ?_ ?_)
      | (with_reducible refine LeO.bind ?_ (fun _ => ?_))
      | exact element_checkAll.mono _ _
      | exact LeO.none _
      | refine LeO.ite ?_ ?_
      | refine LeO.bind ?_ (fun _ => ?_)
set_option maxHeartbeats 8000000 in
set_option maxRecDepth 100000 in
theorem element_Text.calls (k : Nat) (A0 : Option Addr) (c0 : Nat) (l0 : List (S44)) (r1 : ByteArray) (r2 : Int) (w : World) (hr0 : Kd.C k44 w A0 l0.length l0) (hc0 : l0.length ≤ c0) (h : element_Text.f k l0 = some (r1, r2)) :
    Calls Tryz.prog 12 #[.slice A0 l0.length c0] w fun e w' => e = .returned (.tuple #[.string r1, .int .i64 r2]) ∧ Below w.heap.size w w' := by
  have HR0 := Aside0.mk hr0
  have HC0 := Aside0.mk hc0
  clear hr0 hc0
  have HB := Aside0.mk (Below.refl w.heap.size w)
  have H : ((element_checkAll.f k l0).bind fun t338 => (if t338 = 0 then ((element_text.f l0).bind fun t339 => (some (t339, 0))) else (some ((⟨#[]⟩ : ByteArray), t338)))) = some (r1, r2) := h
  clear h
  replace H := Option.bind_eq_some_iff.mp H
  obtain ⟨t338, A20, H⟩ := H
  replace H : (if t338 = 0 then ((element_text.f l0).bind fun t339 => (some (t339, 0))) else (some ((⟨#[]⟩ : ByteArray), t338))) = some (r1, r2) := H
  have A2 := Aside0.mk A20
  clear A20
  by_cases c3 : t338 = 0
  · rw [if_pos c3] at H
    have c3b0 : (t338 == 0) = true := beq_iff_eq.mpr c3
    have c3b1 : (t338 != 0) = false := bne_eq_false_iff_eq.mpr c3
    clear c3
    replace H := Option.bind_eq_some_iff.mp H
    obtain ⟨t339, A40, H⟩ := H
    replace H : (some (t339, 0)) = some (r1, r2) := H
    have A4 := Aside0.mk A40
    clear A40
    simp only [Option.some.injEq, Prod.mk.injEq] at H
    obtain ⟨rfl, rfl⟩ := H
    go_enter Tryz.func12, Tryz.ntmps12
    go_wp2_with (first | ((with_reducible refine gate_callee (f := 21) rfl ?_); refine goesL_ (some 6) rfl rfl Tryz.func21 (by kernel_rfl) rfl #[.slice A0 l0.length c0] rfl (by (try simp only [List.map_toArray, List.map_cons, List.map_nil]); first | done | rfl | (simp only [List.length_drop, List.length_take]; rfl)) ?_; (with_reducible refine (element_checkAll.calls k _ _ l0 t338 _ ?side1 ?side2 A2.out).mono ?_); (case side1 => repeat (first | exact HR0.out | (with_reducible refine Kd.C_alloc ?_ _) | (with_reducible refine Kd.C_drewN ?_ _) | (with_reducible refine Kd.C_drew ?_))); (case side2 => exact HC0.out); rintro e w5 ⟨rfl, hb⟩; refine ⟨_, rfl, ?_⟩; have n0_ := Aside0.mk (below_step (by repeat (first | (with_reducible first | exact HB.out | apply below_alloc | apply pw_below_drewN | apply below_drew1) | exact HB.out)) hb); clear HB; have HB := n0_; clear n0_; (try clear hb); (try clear hb2); (try clear hk); (try clear hi)) | ((with_reducible refine gate_callee (f := 24) rfl ?_); refine goesL_ (some 11) rfl rfl Tryz.func24 (by kernel_rfl) rfl #[.slice A0 l0.length c0] rfl (by (try simp only [List.map_toArray, List.map_cons, List.map_nil]); first | done | rfl | (simp only [List.length_drop, List.length_take]; rfl)) ?_; (with_reducible refine (element_text.calls _ _ l0 t339 _ ?side1 ?side2 A4.out).mono ?_); (case side1 => repeat (first | exact (Kd.C_below HR0.out HB.out) | (with_reducible refine Kd.C_alloc ?_ _) | (with_reducible refine Kd.C_drewN ?_ _) | (with_reducible refine Kd.C_drew ?_))); (case side2 => exact HC0.out); rintro e w6 ⟨rfl, hb⟩; refine ⟨_, rfl, ?_⟩; have n0_ := Aside0.mk (below_step (by repeat (first | (with_reducible first | exact HB.out | apply below_alloc | apply pw_below_drewN | apply below_drew1) | exact HB.out)) hb); clear HB; have HB := n0_; clear n0_; (try clear hb); (try clear hb2); (try clear hk); (try clear hi)))
    go_ret2
    exact ⟨by first | rfl | (simp [errW_none, errW_some] <;> rfl) | (simp [*, errW_none, errW_some] <;> rfl), by repeat (first | (with_reducible first | exact HB.out | apply below_alloc | apply pw_below_drewN | apply below_drew1) | exact HB.out)⟩
  · rw [if_neg c3] at H
    have c3b0 : (t338 == 0) = false := beq_eq_false_iff_ne.mpr c3
    have c3b1 : (t338 != 0) = true := bne_iff_ne.mpr c3
    simp only [Option.some.injEq, Prod.mk.injEq] at H
    obtain ⟨rfl, rfl⟩ := H
    go_enter Tryz.func12, Tryz.ntmps12
    go_wp2_with (first | ((with_reducible refine gate_callee (f := 21) rfl ?_); refine goesL_ (some 6) rfl rfl Tryz.func21 (by kernel_rfl) rfl #[.slice A0 l0.length c0] rfl (by (try simp only [List.map_toArray, List.map_cons, List.map_nil]); first | done | rfl | (simp only [List.length_drop, List.length_take]; rfl)) ?_; (with_reducible refine (element_checkAll.calls k _ _ l0 t338 _ ?side1 ?side2 A2.out).mono ?_); (case side1 => repeat (first | exact HR0.out | (with_reducible refine Kd.C_alloc ?_ _) | (with_reducible refine Kd.C_drewN ?_ _) | (with_reducible refine Kd.C_drew ?_))); (case side2 => exact HC0.out); rintro e w7 ⟨rfl, hb⟩; refine ⟨_, rfl, ?_⟩; have n0_ := Aside0.mk (below_step (by repeat (first | (with_reducible first | exact HB.out | apply below_alloc | apply pw_below_drewN | apply below_drew1) | exact HB.out)) hb); clear HB; have HB := n0_; clear n0_; (try clear hb); (try clear hb2); (try clear hk); (try clear hi)))
    go_ret2
    exact ⟨by first | rfl | (simp [errW_none, errW_some] <;> rfl) | (simp [*, errW_none, errW_some] <;> rfl), by repeat (first | (with_reducible first | exact HB.out | apply below_alloc | apply pw_below_drewN | apply below_drew1) | exact HB.out)⟩
def element_read.l0 : Nat → ByteArray → List (S44) → Option ((List (S44)) × Bool)
  | 0, _, _ => none
  | k + 1, x0, x4 => if x0.toList = ([] : List UInt8) then (some (x4, true)) else (if (x0.size : Int) < 17 then (some (([] : List (S44)), false)) else (if 0 ≤ 17 then (if 17 ≤ (x0.size : Int) then ((element_one.f (x0.extract 0 17)).bind fun bt340 => (if bt340.2.2.2.2 = true then (if x4.length < 4398046511104 then (element_read.l0 k (x0.extract 17 x0.size) (x4 ++ [(⟨bt340.1, bt340.2.1, bt340.2.2.1, bt340.2.2.2.1⟩ : S44)])) else (none)) else (some (([] : List (S44)), false)))) else (none)) else (none)))
def element_read.f (k : Nat) (a0 : ByteArray) : Option ((List (S44)) × Bool) := element_read.l0 k a0 ([] : List (S44))
theorem element_read.mono_l : ∀ k, (∀ y0 y1, LeO (element_read.l0 k y0 y1) (element_read.l0 (k + 1) y0 y1))
  | 0 => fun _ _ r h => by simp [element_read.l0] at h
  | k + 1 => by
    have ih0 := element_read.mono_l k
    · intro y0 y1
      unfold element_read.l0
      repeat' first
      | (with_reducible exact ih0 _ _)
      | (with_reducible exact LeO.refl _)
      | (with_reducible exact LeO.none _)
      | (with_reducible refine LeO.ite ?_ ?_)
      | (with_reducible refine LeO.bind ?_ (fun _ => ?_))
      | exact ih0 _ _
      | exact LeO.none _
      | refine LeO.ite ?_ ?_
      | refine LeO.bind ?_ (fun _ => ?_)
theorem element_read.mono : ∀ a0 k, LeO (element_read.f k a0) (element_read.f (k + 1) a0) := by
  intro a0 k
  have ih0 := element_read.mono_l k
  unfold element_read.f
  repeat' first
      | (with_reducible exact ih0 _ _)
      | (with_reducible exact LeO.refl _)
      | (with_reducible exact LeO.none _)
      | (with_reducible refine LeO.ite ?_ ?_)
      | (with_reducible refine LeO.bind ?_ (fun _ => ?_))
      | exact ih0 _ _
      | exact LeO.none _
      | refine LeO.ite ?_ ?_
      | refine LeO.bind ?_ (fun _ => ?_)
set_option maxHeartbeats 8000000 in
set_option maxRecDepth 100000 in
theorem element_read.calls (k : Nat) (a0 : ByteArray) (r1 : List (S44)) (r2 : Bool) (w : World) (h : element_read.f k a0 = some (r1, r2)) (hG : GW w) :
    Calls Tryz.prog 20 #[.string a0] w fun e w' => ∃ v0_ : Value, e = .returned (.tuple #[v0_, .bool r2]) ∧ Kd.R k44 44 w' w.heap.size (fun _ => True) v0_ r1 ∧ Below w.heap.size w w' := by
  have HG := Aside0.mk hG
  clear hG
  have hu44 := Tryz.underlying44
  have HB := Aside0.mk (Below.refl w.heap.size w)
  have H : (element_read.l0 k a0 ([] : List (S44))) = some (r1, r2) := h
  clear h
  have H' := Aside0.mk H
  clear H
  go_enter Tryz.func20, Tryz.ntmps20
  go_wp2
  go_loopg [0, 4] k (fun kq v0 v4 w' => ∃ (x0_1 : ByteArray) (x4_1 : List (S44)), v0 = .string x0_1 ∧ Aside0 (element_read.l0 kq x0_1 x4_1 = some (r1, r2)) ∧ Aside0 (kq ≤ k) ∧ Aside0 (Kd.R k44 44 w' w.heap.size (fun _ => True) v4 x4_1) ∧ Aside0 (Below w.heap.size w w'))
  case atStart => exact ⟨(a0), (([] : List (S44))), (by first | rfl | (simp; done) | (simp [*]; done) | exact congrArg Value.bool (ne_nil_bool _) | exact congrArg Value.bool (eq_nil_bool _)), H', ⟨Nat.le_refl _⟩, ⟨by first | exact Kd.R_nil _ _ _ _ _ | exact Kd.N_nil _ _ _ _ _ | exact Kd.V_nil _ _ _ _ _ | exact Kd.Q_nil _ _ _ _ _ | exact Kd.S_nil _ _ _ _ _⟩, ⟨by repeat (first | (with_reducible first | exact HB.out | apply below_alloc | apply pw_below_drewN | apply below_drew1) | exact HB.out)⟩⟩
  case round =>
    clear H'
    obtain ⟨x0_1, x4_1, rfl, HA, HK1, HO_4, HB⟩ := hrel
    cases gk with
    | zero => exact absurd HA.out (by simp [element_read.l0])
    | succ k1 =>
      have H := HA.out
      clear HA
      simp only [element_read.l0] at H
      by_cases c2 : x0_1.toList = ([] : List UInt8)
      · rw [if_pos c2] at H
        have c2b0 : (x0_1.toList == ([] : List UInt8)) = true := beq_iff_eq.mpr c2
        have c2b1 : (x0_1.toList != ([] : List UInt8)) = false := bne_eq_false_iff_eq.mpr c2
        clear c2
        simp only [Option.some.injEq, Prod.mk.injEq] at H
        obtain ⟨rfl, rfl⟩ := H
        go_wp2
        go_ret2
        exact ⟨_, by first | rfl | (simp [errW_none, errW_some] <;> rfl) | (simp [*, errW_none, errW_some] <;> rfl), by (with_reducible repeat (first | apply Kd.R_alloc | apply Kd.R_drewN | apply Kd.R_drew)); exact HO_4.out, by repeat (first | (with_reducible first | exact HB.out | apply below_alloc | apply pw_below_drewN | apply below_drew1) | exact HB.out)⟩
      · rw [if_neg c2] at H
        have c2b0 : (x0_1.toList == ([] : List UInt8)) = false := beq_eq_false_iff_ne.mpr c2
        have c2b1 : (x0_1.toList != ([] : List UInt8)) = true := bne_iff_ne.mpr c2
        by_cases c3 : (x0_1.size : Int) < 17
        · rw [if_pos c3] at H
          have c3b0 : decide ((x0_1.size : Int) < 17) = true := decide_eq_true c3
          have c3b1 : decide (x0_1.size < 17) = true := decide_eq_true (by omega)
          clear c3
          simp only [Option.some.injEq, Prod.mk.injEq] at H
          obtain ⟨rfl, rfl⟩ := H
          go_wp2
          go_ret2
          exact ⟨_, by first | rfl | (simp [errW_none, errW_some] <;> rfl) | (simp [*, errW_none, errW_some] <;> rfl), by first | exact Kd.R_nil _ _ _ _ _ | exact Kd.N_nil _ _ _ _ _ | exact Kd.V_nil _ _ _ _ _ | exact Kd.Q_nil _ _ _ _ _ | exact Kd.S_nil _ _ _ _ _, by repeat (first | (with_reducible first | exact HB.out | apply below_alloc | apply pw_below_drewN | apply below_drew1) | exact HB.out)⟩
        · rw [if_neg c3] at H
          have c3b0 : decide ((x0_1.size : Int) < 17) = false := decide_eq_false c3
          have c3b1 : decide (x0_1.size < 17) = false := decide_eq_false (by omega)
          clear c3
          by_cases c4 : 0 ≤ 17
          · rw [if_pos c4] at H
            have c4b0 := eq_true c4
            have c4b1 : decide (0 ≤ 17) = true := decide_eq_true c4
            clear c4
            by_cases c5 : 17 ≤ (x0_1.size : Int)
            · rw [if_pos c5] at H
              have c5b0 := eq_true c5
              have c5b1 : decide (17 ≤ (x0_1.size : Int)) = true := decide_eq_true c5
              clear c5
              replace H := Option.bind_eq_some_iff.mp H
              obtain ⟨⟨t340, t341, t342, t343, t344⟩, A60, H⟩ := H
              replace H : (if t344 = true then (if x4_1.length < 4398046511104 then (element_read.l0 k1 (x0_1.extract 17 x0_1.size) (x4_1 ++ [(⟨t340, t341, t342, t343⟩ : S44)])) else (none)) else (some (([] : List (S44)), false))) = some (r1, r2) := H
              have A6 := Aside0.mk A60
              clear A60
              by_cases c7 : t344 = true
              · subst c7
                have H1 : (if x4_1.length < 4398046511104 then (element_read.l0 k1 (x0_1.extract 17 x0_1.size) (x4_1 ++ [(⟨t340, t341, t342, t343⟩ : S44)])) else (none)) = some (r1, r2) := by rw [if_pos rfl] at H; exact H
                clear H
                have H := H1
                clear H1
                by_cases c8 : x4_1.length < 4398046511104
                · rw [if_pos c8] at H
                  have LMc8 := Aside0.mk c8
                  clear c8
                  obtain ⟨y346, hy346⟩ : ∃ y_ : List (S44), y_ = (x4_1 ++ [(⟨t340, t341, t342, t343⟩ : S44)]) := ⟨_, rfl⟩
                  replace H : (element_read.l0 k1 (x0_1.extract 17 x0_1.size) y346) = some (r1, r2) := by first | (rw [hy346]; with_reducible exact H) | (have H2_ := (Option.bind_some _ _).symm.trans H; rw [hy346]; with_reducible exact H2_) | (have H2_ := (Option.bind_some _ _).symm.trans H; with_reducible exact H2_) | with_reducible exact H | (rw [hy346]; exact H) | exact H
                  have Ny346 := Aside0.mk hy346
                  clear hy346
                  have c9b0 := eq_true (of_decide_eq_true (by first | (with_reducible assumption) | assumption) : 17 ≤ (x0_1.size : Int))
                  have H' := Aside0.mk H
                  clear H
                  go_wp2_with (first | ((with_reducible refine gate_callee (f := 45) rfl ?_); refine goesL_ (some 17) rfl rfl Tryz.func45 (by kernel_rfl) rfl #[.string (x0_1.extract 0 17)] rfl (by (try simp only [List.map_toArray, List.map_cons, List.map_nil]); first | done | rfl | (simp only [List.length_drop, List.length_take]; rfl)) ?_; (with_reducible refine (element_one.calls (x0_1.extract 0 17) t340 t341 t342 t343 true _ A6.out ?sideG).mono ?_); (case sideG => exact GW.below HG.out (by repeat (first | (with_reducible first | exact HB.out | apply below_alloc | apply pw_below_drewN | apply below_drew1) | exact HB.out))); rintro e w10 ⟨rfl, hb⟩; refine ⟨_, rfl, ?_⟩; have n0_ := Aside0.mk (Kd.R_below (by (with_reducible repeat (first | apply Kd.R_alloc | apply Kd.R_drewN | apply Kd.R_drew)); exact HO_4.out) hb); have n1_ := Aside0.mk (below_step (by repeat (first | (with_reducible first | exact HB.out | apply below_alloc | apply pw_below_drewN | apply below_drew1) | exact HB.out)) hb); clear HO_4; clear HB; have HO_4 := n0_; have HB := n1_; clear n0_ n1_; (try clear hb); (try clear hb2); (try clear hk); (try clear hi)) | ((with_reducible refine gate_dst (N := 5) rfl ?_); refine box_event ?hg (N := 5) ?hd (cs := #[.int .i64 0, .int .i64 0, .int .i64 0, .bool false]) (t := 44) ?hr ?_; (case hd => rfl); (case hg => rfl); (case hr => first | (go_simp; done) | (go_simp; rfl)); intro gb345 hg w11 hbox hb; have n0_ := Aside0.mk (Kd.R_below (Kd.R_elderB (by (with_reducible repeat (first | apply Kd.R_alloc | apply Kd.R_drewN | apply Kd.R_drew)); exact HO_4.out) gb345 (Nat.le_of_eq hg.symm)) hb); have n1_ := Aside0.mk (below_step (by repeat (first | (with_reducible first | exact HB.out | apply below_alloc | apply pw_below_drewN | apply below_drew1) | exact HB.out)) hb); have n2_ := Aside0.mk (hbox); have n3_ := Aside0.mk ((by rw [hg]; exact (below_size (by repeat (first | (with_reducible first | exact HB.out | apply below_alloc | apply pw_below_drewN | apply below_drew1) | exact HB.out))) : w.heap.size ≤ gb345)); have n4_ := Aside0.mk ((by rw [hg]; exact (below_size (by repeat (first | (with_reducible first | exact HB.out | apply below_alloc | apply pw_below_drewN | apply below_drew1) | exact HB.out))) : w.heap.size ≤ gb345)); clear HO_4; clear HB; have HO_4 := n0_; have HB := n1_; have BK345 := n2_; have GW345 := n3_; have GE345 := n4_; clear n0_ n1_ n2_ n3_ n4_; clear hb hbox hg; have hcz12_0 : w11.cell? ⟨gb345, 0, none⟩ = some (.int .i64 0) := (blk_cell BK345.out 0).trans rfl; have hcz12_1 : w11.cell? ⟨gb345, 1, none⟩ = some (.int .i64 0) := (blk_cell BK345.out 1).trans rfl; have hcz12_2 : w11.cell? ⟨gb345, 2, none⟩ = some (.int .i64 0) := (blk_cell BK345.out 2).trans rfl; have hcz12_3 : w11.cell? ⟨gb345, 3, none⟩ = some (.bool false) := (blk_cell BK345.out 3).trans rfl; have hfz12_0 := blk_frozen BK345.out 0; have hfz12_1 := blk_frozen BK345.out 1; have hfz12_2 := blk_frozen BK345.out 2; have hfz12_3 := blk_frozen BK345.out 3) | ((with_reducible refine gate_builtin (b := .append) (xs := #[.tmp 22, .tmp 24]) rfl ?_); at_builtin; refine Kd.R_append k44 (w0 := w) w.heap.size rfl (.tmp 22) (.tmp 24) 23 44 (.agg #[(.int .i64 0), (.int .i64 0), (.int .i64 0), (.bool false)]) 32 rfl Tryz.underlying23 info44 rfl (by decide) (by omega) u4 x4_1 (⟨t340, t341, t342, t343⟩ : S44) [.int .i64 t340, .int .i64 t341, .int .i64 t342, .bool t343] (fun k_ => k_ ≠ gb345) (fun _ => False) rfl (by first | (go_simp; done) | (go_simp; rfl)) ?aP (fun _ hk => hk.elim) ?aF ?aO ?aB ?aS ?aL ?_; (case aP => exact k44_mkM _ _ _ (⟨t340, t341, t342, t343⟩ : S44)); (case aB => exact (by repeat (first | (with_reducible first | exact HB.out | apply below_alloc | apply pw_below_drewN | apply below_drew1 | refine below_set ?_ GE345.out) | exact HB.out))); (case aF => exact (fun k_ hk => Kd.freshB (g := gb345) (o := .cells #[.int .i64 t340, .int .i64 t341, .int .i64 t342, .bool t343] 44 (0, 0)) (by (with_reducible repeat (first | refine blk_drewN ?_ _ | refine blk_drew ?_ | refine blk_alloc ?_ _)); refine blk_put (cs := #[.int .i64 t340, .int .i64 t341, .int .i64 t342, .bool false]) ?_ 3 _ rfl; (with_reducible repeat (first | refine blk_drewN ?_ _ | refine blk_drew ?_ | refine blk_alloc ?_ _)); refine blk_put (cs := #[.int .i64 t340, .int .i64 t341, .int .i64 0, .bool false]) ?_ 2 _ rfl; (with_reducible repeat (first | refine blk_drewN ?_ _ | refine blk_drew ?_ | refine blk_alloc ?_ _)); refine blk_put (cs := #[.int .i64 t340, .int .i64 0, .int .i64 0, .bool false]) ?_ 1 _ rfl; (with_reducible repeat (first | refine blk_drewN ?_ _ | refine blk_drew ?_ | refine blk_alloc ?_ _)); refine blk_put (cs := #[.int .i64 0, .int .i64 0, .int .i64 0, .bool false]) ?_ 0 _ rfl; (with_reducible repeat (first | refine blk_drewN ?_ _ | refine blk_drew ?_ | refine blk_alloc ?_ _)); exact BK345.out) k_ hk)); (case aO => exact (by (with_reducible repeat (first | apply Kd.R_alloc | apply Kd.R_drewN | apply Kd.R_drew)); exact Kd.R_mono (Kd.R_far (p := ⟨gb345, 3, none⟩) (Kd.R_far (p := ⟨gb345, 2, none⟩) (Kd.R_far (p := ⟨gb345, 1, none⟩) (Kd.R_far (p := ⟨gb345, 0, none⟩) (Kd.R_mono HO_4.out (fun k_ hk => (⟨hk, hk.2⟩ : _ ∧ k_ ≠ gb345))) (fun _ hk => hk.2) (.int .i64 t340)) (fun _ hk => hk.2) (.int .i64 t341)) (fun _ hk => hk.2) (.int .i64 t342)) (fun _ hk => hk.2) (.bool t343)) (fun _ hk => hk.1.2))); (case aS => exact (below_size (by repeat (first | (with_reducible first | exact HB.out | apply below_alloc | apply pw_below_drewN | apply below_drew1 | refine below_set ?_ GE345.out) | exact HB.out)))); (case aL => have := LMc8.out; omega); intro v347 w13 ho hb hg hat; rw [← Ny346.out] at ho; have n0_ := Aside0.mk (blk_grown (g := gb345) (o := .cells #[.int .i64 t340, .int .i64 t341, .int .i64 t342, .bool t343] 44 (0, 0)) (by (with_reducible repeat (first | refine blk_drewN ?_ _ | refine blk_drew ?_ | refine blk_alloc ?_ _)); refine blk_put (cs := #[.int .i64 t340, .int .i64 t341, .int .i64 t342, .bool false]) ?_ 3 _ rfl; (with_reducible repeat (first | refine blk_drewN ?_ _ | refine blk_drew ?_ | refine blk_alloc ?_ _)); refine blk_put (cs := #[.int .i64 t340, .int .i64 t341, .int .i64 0, .bool false]) ?_ 2 _ rfl; (with_reducible repeat (first | refine blk_drewN ?_ _ | refine blk_drew ?_ | refine blk_alloc ?_ _)); refine blk_put (cs := #[.int .i64 t340, .int .i64 0, .int .i64 0, .bool false]) ?_ 1 _ rfl; (with_reducible repeat (first | refine blk_drewN ?_ _ | refine blk_drew ?_ | refine blk_alloc ?_ _)); refine blk_put (cs := #[.int .i64 0, .int .i64 0, .int .i64 0, .bool false]) ?_ 0 _ rfl; (with_reducible repeat (first | refine blk_drewN ?_ _ | refine blk_drew ?_ | refine blk_alloc ?_ _)); exact BK345.out) hg (Kd.R_away HO_4.out (fun _ hk => hk.2))); have n1_ := Aside0.mk (hb); have n2_ := Aside0.mk (ho); clear BK345; clear HB; clear HO_4; have BK345 := n0_; have HB := n1_; have HO348 := n2_; clear n0_ n1_ n2_; clear ho hb hg hat))
                  go_roundg k1
                  case measure => have := HK1.out; omega
                  case rel => exact ⟨(x0_1.extract 17 x0_1.size), (y346), (by first | rfl | (simp; done) | (simp [*]; done) | exact congrArg Value.bool (ne_nil_bool _) | exact congrArg Value.bool (eq_nil_bool _)), H', ⟨by have := HK1.out; omega⟩, ⟨by (with_reducible repeat (first | apply Kd.R_alloc | apply Kd.R_drewN | apply Kd.R_drew)); exact Kd.R_mono HO348.out (fun _ hk => trivial)⟩, ⟨by repeat (first | (with_reducible first | exact HB.out | apply below_alloc | apply pw_below_drewN | apply below_drew1 | refine below_set ?_ GE345.out) | exact HB.out)⟩⟩
                · rw [if_neg c8] at H
                  exact absurd H (by simp)
              · replace c7 := Bool.eq_false_iff.mpr c7
                subst c7
                have H1 : (some (([] : List (S44)), false)) = some (r1, r2) := by rw [if_neg (show ¬ (false = true) by decide)] at H; exact H
                clear H
                have H := H1
                clear H1
                simp only [Option.some.injEq, Prod.mk.injEq] at H
                obtain ⟨rfl, rfl⟩ := H
                go_wp2_with (first | ((with_reducible refine gate_callee (f := 45) rfl ?_); refine goesL_ (some 17) rfl rfl Tryz.func45 (by kernel_rfl) rfl #[.string (x0_1.extract 0 17)] rfl (by (try simp only [List.map_toArray, List.map_cons, List.map_nil]); first | done | rfl | (simp only [List.length_drop, List.length_take]; rfl)) ?_; (with_reducible refine (element_one.calls (x0_1.extract 0 17) t340 t341 t342 t343 false _ A6.out ?sideG).mono ?_); (case sideG => exact GW.below HG.out (by repeat (first | (with_reducible first | exact HB.out | apply below_alloc | apply pw_below_drewN | apply below_drew1) | exact HB.out))); rintro e w14 ⟨rfl, hb⟩; refine ⟨_, rfl, ?_⟩; have n0_ := Aside0.mk (Kd.R_below (by (with_reducible repeat (first | apply Kd.R_alloc | apply Kd.R_drewN | apply Kd.R_drew)); exact HO_4.out) hb); have n1_ := Aside0.mk (below_step (by repeat (first | (with_reducible first | exact HB.out | apply below_alloc | apply pw_below_drewN | apply below_drew1) | exact HB.out)) hb); clear HO_4; clear HB; have HO_4 := n0_; have HB := n1_; clear n0_ n1_; (try clear hb); (try clear hb2); (try clear hk); (try clear hi)) | ((with_reducible refine gate_dst (N := 5) rfl ?_); refine box_event ?hg (N := 5) ?hd (cs := #[.int .i64 0, .int .i64 0, .int .i64 0, .bool false]) (t := 44) ?hr ?_; (case hd => rfl); (case hg => rfl); (case hr => first | (go_simp; done) | (go_simp; rfl)); intro gb345 hg w15 hbox hb; have n0_ := Aside0.mk (Kd.R_below (Kd.R_elderB (by (with_reducible repeat (first | apply Kd.R_alloc | apply Kd.R_drewN | apply Kd.R_drew)); exact HO_4.out) gb345 (Nat.le_of_eq hg.symm)) hb); have n1_ := Aside0.mk (below_step (by repeat (first | (with_reducible first | exact HB.out | apply below_alloc | apply pw_below_drewN | apply below_drew1) | exact HB.out)) hb); have n2_ := Aside0.mk (hbox); have n3_ := Aside0.mk ((by rw [hg]; exact (below_size (by repeat (first | (with_reducible first | exact HB.out | apply below_alloc | apply pw_below_drewN | apply below_drew1) | exact HB.out))) : w.heap.size ≤ gb345)); have n4_ := Aside0.mk ((by rw [hg]; exact (below_size (by repeat (first | (with_reducible first | exact HB.out | apply below_alloc | apply pw_below_drewN | apply below_drew1) | exact HB.out))) : w.heap.size ≤ gb345)); clear HO_4; clear HB; have HO_4 := n0_; have HB := n1_; have BK345 := n2_; have GW345 := n3_; have GE345 := n4_; clear n0_ n1_ n2_ n3_ n4_; clear hb hbox hg; have hcz16_0 : w15.cell? ⟨gb345, 0, none⟩ = some (.int .i64 0) := (blk_cell BK345.out 0).trans rfl; have hcz16_1 : w15.cell? ⟨gb345, 1, none⟩ = some (.int .i64 0) := (blk_cell BK345.out 1).trans rfl; have hcz16_2 : w15.cell? ⟨gb345, 2, none⟩ = some (.int .i64 0) := (blk_cell BK345.out 2).trans rfl; have hcz16_3 : w15.cell? ⟨gb345, 3, none⟩ = some (.bool false) := (blk_cell BK345.out 3).trans rfl; have hfz16_0 := blk_frozen BK345.out 0; have hfz16_1 := blk_frozen BK345.out 1; have hfz16_2 := blk_frozen BK345.out 2; have hfz16_3 := blk_frozen BK345.out 3))
                go_ret2
                exact ⟨_, by first | rfl | (simp [errW_none, errW_some] <;> rfl) | (simp [*, errW_none, errW_some] <;> rfl), by first | exact Kd.R_nil _ _ _ _ _ | exact Kd.N_nil _ _ _ _ _ | exact Kd.V_nil _ _ _ _ _ | exact Kd.Q_nil _ _ _ _ _ | exact Kd.S_nil _ _ _ _ _, by repeat (first | (with_reducible first | exact HB.out | apply below_alloc | apply pw_below_drewN | apply below_drew1 | refine below_set ?_ GE345.out) | exact HB.out)⟩
            · rw [if_neg c5] at H
              exact absurd H (by simp)
          · rw [if_neg c4] at H
            exact absurd H (by simp)
end Go.Proofs.YtdaijpjjilmkkaaGreatDoor.Pr

-- Written by wip/drive.py of this claim's session, out of the translation. Not trusted: Lean checks it.
namespace Go.Proofs.YtdaijpjjilmkkaaGreatDoor.Pr
open Go.RowKit Go.Proofs.YtdaijpjjilmkkaaGreatDoorW.PrintWords Go.Proofs.YtdaijpjjilmkkaaGreatDoorW.PrintLast Go.Proofs.YtdaijpjjilmkkaaGreatDoorW.PrintMore
attribute [local go_sem] max2_int min2_int max_two min_two max_three min_three max_four min_four   -- for this text's walks alone
set_option linter.unusedVariables false
set_option linter.unusedSimpArgs false
theorem eqA39 (d : Nat) (w : World) (x0 y0 : Int) (x1 y1 : Int) :
    (Op.equalIn (d + 2) 39 (.agg #[.int .i64 x0, .int .i64 x1]) (.agg #[.int .i64 y0, .int .i64 y1])).run Tryz.prog w = .ok (x0 == y0 && (x1 == y1)) w := by
  refine eqA_of Tryz.underlying39 (by kernel_rfl) ?_
  refine eqf_cons (by rfl) (by go_simp; rfl) (by go_simp; rfl) (by go_simp) ?_
  exact eqf_last (by rfl) (by go_simp; rfl) (by go_simp; rfl) (by go_simp)
end Go.Proofs.YtdaijpjjilmkkaaGreatDoor.Pr
