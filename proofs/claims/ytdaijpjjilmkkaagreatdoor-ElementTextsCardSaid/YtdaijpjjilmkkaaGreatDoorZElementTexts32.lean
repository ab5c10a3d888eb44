/- Texts of the claim ElementTexts, joined: Prx29, ELawR, Prx3, Prx22, Prx11, ERef, EAlive, ZElem, PElementTexts. -/
import Derived.Test.YtdaijpjjilmkkaaGreatDoorZElementTexts22
import Derived.Test.YtdaijpjjilmkkaaGreatDoorZElementTexts23
import Derived.Test.YtdaijpjjilmkkaaGreatDoorZElementTexts25
import Derived.Test.YtdaijpjjilmkkaaGreatDoorZElementTexts31
import Derived.Test.YtdaijpjjilmkkaaGreatDoorZElementTexts28
import Derived.Lib.ItoaLen
import Derived.Test.YtdaijpjjilmkkaaGreatDoorZElementTexts30
-- Written by wip/drive.py of this claim's session, out of the translation. Not trusted: Lean checks it.
namespace Go.Proofs.YtdaijpjjilmkkaaGreatDoor.Pr
open Go.RowKit Go.Proofs.YtdaijpjjilmkkaaGreatDoorW.PrintWords Go.Proofs.YtdaijpjjilmkkaaGreatDoorW.PrintLast Go.Proofs.YtdaijpjjilmkkaaGreatDoorW.PrintMore
attribute [local go_sem] max2_int min2_int max_two min_two max_three min_three max_four min_four   -- for this text's walks alone
set_option linter.unusedVariables false
set_option linter.unusedSimpArgs false
def unicodetextlaw42_ElementTexts.f (k : Nat) (l0 : List (S44)) : Option (Bool) := (unicodetextref42_SmallElements.f l0).bind fun t407 => (if t407 = true then ((element_Text.f k l0).bind fun bt408 => ((unicodetextref42_Text.f k l0).bind fun bt410 => (if bt408.1.toList = bt410.1.toList then (if bt408.2 = bt410.2 then ((unicodetextlaw42_alive.f k).bind fun t412 => (some t412)) else (none)) else (none)))) else ((unicodetextlaw42_alive.f k).bind fun t413 => (some t413)))
theorem unicodetextlaw42_ElementTexts.mono : ∀ a0 k, LeO (unicodetextlaw42_ElementTexts.f k a0) (unicodetextlaw42_ElementTexts.f (k + 1) a0) := by
  intro a0 k
  unfold unicodetextlaw42_ElementTexts.f
  repeat' first
      | (with_reducible exact element_Text.mono _ _)
      | (with_reducible exact unicodetextlaw42_alive.mono _)
      | (with_reducible exact unicodetextref42_Text.mono _ _)
      | (with_reducible exact LeO.refl _)
      | (with_reducible exact LeO.none _)
      | (with_reducible refine LeO.ite ?_ ?_)
      | (with_reducible refine LeO.bind ?_ (fun _ => ?_))
      | exact element_Text.mono _ _
      | exact unicodetextlaw42_alive.mono _
      | exact unicodetextref42_Text.mono _ _
      | exact LeO.none _
      | refine LeO.ite ?_ ?_
      | refine LeO.bind ?_ (fun _ => ?_)
set_option maxHeartbeats 8000000 in
set_option maxRecDepth 100000 in
theorem unicodetextlaw42_ElementTexts.calls (k : Nat) (A0 : Option Addr) (c0 : Nat) (l0 : List (S44)) (r : Bool) (w : World) (hr0 : Kd.C k44 w A0 l0.length l0) (hc0 : l0.length ≤ c0) (h : unicodetextlaw42_ElementTexts.f k l0 = some r) (hG : GW w) :
    Calls Tryz.prog 4 #[.slice A0 l0.length c0] w fun e w' => e = .returned (.bool r) ∧ Below w.heap.size w w' := by
  have HG := Aside0.mk hG
  clear hG
  have HR0 := Aside0.mk hr0
  have HC0 := Aside0.mk hc0
  clear hr0 hc0
  have HB := Aside0.mk (Below.refl w.heap.size w)
  have H : ((unicodetextref42_SmallElements.f l0).bind fun t407 => (if t407 = true then ((element_Text.f k l0).bind fun bt408 => ((unicodetextref42_Text.f k l0).bind fun bt410 => (if bt408.1.toList = bt410.1.toList then (if bt408.2 = bt410.2 then ((unicodetextlaw42_alive.f k).bind fun t412 => (some t412)) else (none)) else (none)))) else ((unicodetextlaw42_alive.f k).bind fun t413 => (some t413)))) = some r := h
  clear h
  replace H := Option.bind_eq_some_iff.mp H
  obtain ⟨t407, A20, H⟩ := H
  replace H : (if t407 = true then ((element_Text.f k l0).bind fun bt408 => ((unicodetextref42_Text.f k l0).bind fun bt410 => (if bt408.1.toList = bt410.1.toList then (if bt408.2 = bt410.2 then ((unicodetextlaw42_alive.f k).bind fun t412 => (some t412)) else (none)) else (none)))) else ((unicodetextlaw42_alive.f k).bind fun t413 => (some t413))) = some r := H
  have A2 := Aside0.mk A20
  clear A20
  by_cases c3 : t407 = true
  · subst c3
    have H1 : ((element_Text.f k l0).bind fun bt408 => ((unicodetextref42_Text.f k l0).bind fun bt410 => (if bt408.1.toList = bt410.1.toList then (if bt408.2 = bt410.2 then ((unicodetextlaw42_alive.f k).bind fun t412 => (some t412)) else (none)) else (none)))) = some r := by rw [if_pos rfl] at H; exact H
    clear H
    have H := H1
    clear H1
    replace H := Option.bind_eq_some_iff.mp H
    obtain ⟨⟨t408, t409⟩, A40, H⟩ := H
    replace H : ((unicodetextref42_Text.f k l0).bind fun bt410 => (if t408.toList = bt410.1.toList then (if t409 = bt410.2 then ((unicodetextlaw42_alive.f k).bind fun t412 => (some t412)) else (none)) else (none))) = some r := H
    have A4 := Aside0.mk A40
    clear A40
    replace H := Option.bind_eq_some_iff.mp H
    obtain ⟨⟨t410, t411⟩, A50, H⟩ := H
    replace H : (if t408.toList = t410.toList then (if t409 = t411 then ((unicodetextlaw42_alive.f k).bind fun t412 => (some t412)) else (none)) else (none)) = some r := H
    have A5 := Aside0.mk A50
    clear A50
    by_cases c6 : t408.toList = t410.toList
    · rw [if_pos c6] at H
      have c6b0 : (t408.toList == t410.toList) = true := beq_iff_eq.mpr c6
      have c6b1 : (t408.toList != t410.toList) = false := bne_eq_false_iff_eq.mpr c6
      clear c6
      by_cases c7 : t409 = t411
      · rw [if_pos c7] at H
        have c7b0 : (t409 == t411) = true := beq_iff_eq.mpr c7
        have c7b1 : (t409 != t411) = false := bne_eq_false_iff_eq.mpr c7
        clear c7
        replace H := Option.bind_eq_some_iff.mp H
        obtain ⟨t412, A80, H⟩ := H
        replace H : (some t412) = some r := H
        have A8 := Aside0.mk A80
        clear A80
        obtain rfl := Option.some.inj H
        go_enter Tryz.func4, Tryz.ntmps4
        go_wp2_with (first | ((with_reducible refine gate_callee (f := 11) rfl ?_); refine goesL_ (some 8) rfl rfl Tryz.func11 (by kernel_rfl) rfl #[.slice A0 l0.length c0] rfl (by (try simp only [List.map_toArray, List.map_cons, List.map_nil]); first | done | rfl | (simp only [List.length_drop, List.length_take]; rfl)) ?_; (with_reducible refine (unicodetextref42_SmallElements.calls _ _ l0 true _ ?side1 ?side2 A2.out).mono ?_); (case side1 => repeat (first | exact HR0.out | (with_reducible refine Kd.C_alloc ?_ _) | (with_reducible refine Kd.C_drewN ?_ _) | (with_reducible refine Kd.C_drew ?_))); (case side2 => exact HC0.out); rintro e w' ⟨rfl, ⟨nd, rfl⟩⟩; refine ⟨_, rfl, ?_⟩) | ((with_reducible refine gate_callee (f := 12) rfl ?_); refine goesL_ (some 13) rfl rfl Tryz.func12 (by kernel_rfl) rfl #[.slice A0 l0.length c0] rfl (by (try simp only [List.map_toArray, List.map_cons, List.map_nil]); first | done | rfl | (simp only [List.length_drop, List.length_take]; rfl)) ?_; (with_reducible refine (element_Text.calls k _ _ l0 t408 t409 _ ?side1 ?side2 A4.out).mono ?_); (case side1 => repeat (first | exact HR0.out | (with_reducible refine Kd.C_alloc ?_ _) | (with_reducible refine Kd.C_drewN ?_ _) | (with_reducible refine Kd.C_drew ?_))); (case side2 => exact HC0.out); rintro e w9 ⟨rfl, hb⟩; refine ⟨_, rfl, ?_⟩; have n0_ := Aside0.mk (below_step (by repeat (first | (with_reducible first | exact HB.out | apply below_alloc | apply pw_below_drewN | apply below_drew1) | exact HB.out)) hb); clear HB; have HB := n0_; clear n0_; (try clear hb); (try clear hb2); (try clear hk); (try clear hi)) | ((with_reducible refine gate_callee (f := 13) rfl ?_); refine goesL_ (some 18) rfl rfl Tryz.func13 (by kernel_rfl) rfl #[.slice A0 l0.length c0] rfl (by (try simp only [List.map_toArray, List.map_cons, List.map_nil]); first | done | rfl | (simp only [List.length_drop, List.length_take]; rfl)) ?_; (with_reducible refine (unicodetextref42_Text.calls k _ _ l0 t410 t411 _ ?side1 ?side2 A5.out).mono ?_); (case side1 => repeat (first | exact (Kd.C_below HR0.out HB.out) | (with_reducible refine Kd.C_alloc ?_ _) | (with_reducible refine Kd.C_drewN ?_ _) | (with_reducible refine Kd.C_drew ?_))); (case side2 => exact HC0.out); rintro e w10 ⟨rfl, hb⟩; refine ⟨_, rfl, ?_⟩; have n0_ := Aside0.mk (below_step (by repeat (first | (with_reducible first | exact HB.out | apply below_alloc | apply pw_below_drewN | apply below_drew1) | exact HB.out)) hb); clear HB; have HB := n0_; clear n0_; (try clear hb); (try clear hb2); (try clear hk); (try clear hi)) | (go_at_call 7; (with_reducible refine (unicodetextlaw42_alive.calls k  t412 _ A8.out ?sideG).mono ?_); (case sideG => exact GW.below HG.out (by repeat (first | (with_reducible first | exact HB.out | apply below_alloc | apply pw_below_drewN | apply below_drew1) | exact HB.out))); rintro e w11 ⟨rfl, hb⟩; have n0_ := Aside0.mk (below_step (by repeat (first | (with_reducible first | exact HB.out | apply below_alloc | apply pw_below_drewN | apply below_drew1) | exact HB.out)) hb); clear HB; have HB := n0_; clear n0_; (try clear hb); (try clear hb2); (try clear hk); (try clear hi)))
        go_ret
        exact ⟨by first | rfl | (simp [errW_none, errW_some] <;> rfl) | (simp [*, errW_none, errW_some] <;> rfl), by repeat (first | (with_reducible first | exact HB.out | apply below_alloc | apply pw_below_drewN | apply below_drew1) | exact HB.out)⟩
      · rw [if_neg c7] at H
        exact absurd H (by simp)
    · rw [if_neg c6] at H
      exact absurd H (by simp)
  · replace c3 := Bool.eq_false_iff.mpr c3
    subst c3
    have H1 : ((unicodetextlaw42_alive.f k).bind fun t413 => (some t413)) = some r := by rw [if_neg (show ¬ (false = true) by decide)] at H; exact H
    clear H
    have H := H1
    clear H1
    replace H := Option.bind_eq_some_iff.mp H
    obtain ⟨t413, A120, H⟩ := H
    replace H : (some t413) = some r := H
    have A12 := Aside0.mk A120
    clear A120
    obtain rfl := Option.some.inj H
    go_enter Tryz.func4, Tryz.ntmps4
    go_wp2_with (first | ((with_reducible refine gate_callee (f := 11) rfl ?_); refine goesL_ (some 8) rfl rfl Tryz.func11 (by kernel_rfl) rfl #[.slice A0 l0.length c0] rfl (by (try simp only [List.map_toArray, List.map_cons, List.map_nil]); first | done | rfl | (simp only [List.length_drop, List.length_take]; rfl)) ?_; (with_reducible refine (unicodetextref42_SmallElements.calls _ _ l0 false _ ?side1 ?side2 A2.out).mono ?_); (case side1 => repeat (first | exact HR0.out | (with_reducible refine Kd.C_alloc ?_ _) | (with_reducible refine Kd.C_drewN ?_ _) | (with_reducible refine Kd.C_drew ?_))); (case side2 => exact HC0.out); rintro e w' ⟨rfl, ⟨nd, rfl⟩⟩; refine ⟨_, rfl, ?_⟩) | ((with_reducible refine gate_callee (f := 7) rfl ?_); refine goesL_ (some 10) rfl rfl Tryz.func7 (by kernel_rfl) rfl #[] rfl (by (try simp only [List.map_toArray, List.map_cons, List.map_nil]); first | done | rfl | (simp only [List.length_drop, List.length_take]; rfl)) ?_; (with_reducible refine (unicodetextlaw42_alive.calls k  t413 _ A12.out ?sideG).mono ?_); (case sideG => exact GW.below HG.out (by repeat (first | (with_reducible first | exact HB.out | apply below_alloc | apply pw_below_drewN | apply below_drew1) | exact HB.out))); rintro e w13 ⟨rfl, hb⟩; refine ⟨_, rfl, ?_⟩; have n0_ := Aside0.mk (below_step (by repeat (first | (with_reducible first | exact HB.out | apply below_alloc | apply pw_below_drewN | apply below_drew1) | exact HB.out)) hb); clear HB; have HB := n0_; clear n0_; (try clear hb); (try clear hb2); (try clear hk); (try clear hi)))
    go_ret
    exact ⟨by first | rfl | (simp [errW_none, errW_some] <;> rfl) | (simp [*, errW_none, errW_some] <;> rfl), by repeat (first | (with_reducible first | exact HB.out | apply below_alloc | apply pw_below_drewN | apply below_drew1) | exact HB.out)⟩
end Go.Proofs.YtdaijpjjilmkkaaGreatDoor.Pr

/- Plain laws of collations: what ParseFile has read can be written, and is read again; lines out of order; sizes. -/
namespace Go.Proofs.YtdaijpjjilmkkaaGreatDoor.Pr
open Go.RowKit Go.Proofs.YtdaijpjjilmkkaaGreatDoorW.PrintWords Go.Proofs.YtdaijpjjilmkkaaGreatDoorW.PrintLast Go.Proofs.YtdaijpjjilmkkaaGreatDoorW.PrintMore
set_option linter.unusedVariables false
set_option linter.unusedSimpArgs false
structure okR (st : Rd) (N : Nat) : Prop where
  g : ∀ g ∈ st.gs, okG g
  x : ∀ x ∈ st.es, okX x
  f : st.bg = false → st.es = [] ∧ st.gs = []
  b : st.bg = true → in64 st.b1 ∧ in64 st.b2 ∧ in64 st.b3 ∧ (fileT st.es st.gs st.b1 st.b2 st.b3).length ≤ N
  l : st.ls.length = st.es.length
  m : ∀ n ∈ st.ls, 1 ≤ n
def w1 : List UInt8 := [64, 98, 97, 115, 101, 32, 49, 32, 50, 32, 51]
def w2 : List UInt8 := [48, 48, 54, 49, 59, 32]
def w3 : List UInt8 := [64, 103, 114, 111, 117, 112, 32, 120, 32, 49, 32, 50]
def x2 : S49 := ⟨[97], []⟩
end Go.Proofs.YtdaijpjjilmkkaaGreatDoor.Pr

-- Written by wip/drive.py of this claim's session, out of the translation. Not trusted: Lean checks it.
namespace Go.Proofs.YtdaijpjjilmkkaaGreatDoor.Pr
open Go.RowKit Go.Proofs.YtdaijpjjilmkkaaGreatDoorW.PrintWords Go.Proofs.YtdaijpjjilmkkaaGreatDoorW.PrintLast Go.Proofs.YtdaijpjjilmkkaaGreatDoorW.PrintMore
attribute [local go_sem] max2_int min2_int max_two min_two max_three min_three max_four min_four   -- for this text's walks alone
set_option linter.unusedVariables false
set_option linter.unusedSimpArgs false
theorem eqA46 (d : Nat) (w : World) (x0 y0 : ByteArray) (x1 y1 : Int) (x2 y2 : Int) :
    (Op.equalIn (d + 2) 46 (.agg #[.string x0, .int .i64 x1, .int .i64 x2]) (.agg #[.string y0, .int .i64 y1, .int .i64 y2])).run Tryz.prog w = .ok (x0.toList == y0.toList && (x1 == y1 && (x2 == y2))) w := by
  refine eqA_of Tryz.underlying46 (by kernel_rfl) ?_
  refine eqf_cons (by rfl) (by go_simp; rfl) (by go_simp; rfl) (by go_simp) ?_
  refine eqf_cons (by rfl) (by go_simp; rfl) (by go_simp; rfl) (by go_simp) ?_
  exact eqf_last (by rfl) (by go_simp; rfl) (by go_simp; rfl) (by go_simp)
end Go.Proofs.YtdaijpjjilmkkaaGreatDoor.Pr

-- Written by wip/drive.py of this claim's session, out of the translation. Not trusted: Lean checks it.
namespace Go.Proofs.YtdaijpjjilmkkaaGreatDoor.Pr
open Go.RowKit Go.Proofs.YtdaijpjjilmkkaaGreatDoorW.PrintWords Go.Proofs.YtdaijpjjilmkkaaGreatDoorW.PrintLast Go.Proofs.YtdaijpjjilmkkaaGreatDoorW.PrintMore
attribute [local go_sem] max2_int min2_int max_two min_two max_three min_three max_four min_four   -- for this text's walks alone
set_option linter.unusedVariables false
set_option linter.unusedSimpArgs false
attribute [local go_sem high] eqA46
end Go.Proofs.YtdaijpjjilmkkaaGreatDoor.Pr

-- Written by wip/drive.py of this claim's session, out of the translation. Not trusted: Lean checks it.
namespace Go.Proofs.YtdaijpjjilmkkaaGreatDoor.Pr
open Go.RowKit Go.Proofs.YtdaijpjjilmkkaaGreatDoorW.PrintWords Go.Proofs.YtdaijpjjilmkkaaGreatDoorW.PrintLast Go.Proofs.YtdaijpjjilmkkaaGreatDoorW.PrintMore
attribute [local go_sem] max2_int min2_int max_two min_two max_three min_three max_four min_four   -- for this text's walks alone
set_option linter.unusedVariables false
set_option linter.unusedSimpArgs false
end Go.Proofs.YtdaijpjjilmkkaaGreatDoor.Pr

/- Plain laws: what the reference's functions Check, SameElements, Same and Few answer. -/
namespace Go.Proofs.YtdaijpjjilmkkaaGreatDoor.Pr
open Go.RowKit Go.Proofs.YtdaijpjjilmkkaaGreatDoorW.PrintWords Go.Proofs.YtdaijpjjilmkkaaGreatDoorW.PrintLast Go.Proofs.YtdaijpjjilmkkaaGreatDoorW.PrintMore
set_option linter.unusedVariables false
set_option linter.unusedSimpArgs false
theorem Ev.pos {α : Type} {c : Prop} [Decidable c] {f g : Nat → Option α} {r : α} (hc : c) (h : Ev f r) : Ev (fun k => if c then f k else g k) r := Ev.congr (fun k => if_pos hc) h
theorem Ev.neg {α : Type} {c : Prop} [Decidable c] {f g : Nat → Option α} {r : α} (hc : ¬ c) (h : Ev g r) : Ev (fun k => if c then f k else g k) r := Ev.congr (fun k => if_neg hc) h
theorem Ev.got {α β : Type} {o : Option β} {b : β} {g : Nat → β → Option α} {r : α} (h : o = some b) (h2 : Ev (fun k => g k b) r) : Ev (fun k => o.bind (g k)) r := by
  subst h
  exact h2
theorem Ev.succ {α : Type} {F : Nat → Option α} {r : α} (h : Ev (fun k => F (k + 1)) r) : Ev F r := by
  obtain ⟨K, h⟩ := h
  refine ⟨K + 1, fun k hk => ?_⟩
  obtain ⟨m, rfl⟩ : ∃ m, k = m + 1 := ⟨k - 1, by omega⟩
  exact h m (by omega)
theorem weight_f (a : Int) : unicodetextref42_weight.f a = some (decide (0 ≤ a ∧ a ≤ 65535)) := by
  unfold unicodetextref42_weight.f
  by_cases h : a ≥ 0
  · rw [if_pos h]
    congr 1
    exact decide_eq_decide.2 ⟨fun e => ⟨h, e⟩, fun e => e.2⟩
  · rw [if_neg h]
    congr 1
    symm
    exact decide_eq_false (fun e => h e.1)
theorem checkR_ev (x : S44) : Ev (fun k => unicodetextref42_Check.f k x.f0 x.f1 x.f2 x.f3) (checkE x) := by
  obtain ⟨a, b, c, d⟩ := x
  refine Ev.of (fun k => unicodetextref42_Check.mono _ _ _ _ k) (k := 1) ?_
  dsimp only
  unfold unicodetextref42_Check.f checkE
  rw [weight_f, weight_f, weight_f]
  simp only [Option.bind_some, decide_eq_true_eq]
  by_cases ha : 0 ≤ a ∧ a ≤ 65535
  · rw [if_pos ha]
    by_cases hb : 0 ≤ b ∧ b ≤ 65535
    · rw [if_pos hb]
      by_cases hc : 0 ≤ c ∧ c ≤ 65535
      · rw [if_pos ⟨ha, hb, hc⟩, decide_eq_true hc]
        simp only [unicodetextref42_Check.j0, Bool.not_true]
        rw [if_neg (by decide)]
        by_cases a0 : a = 0 <;> by_cases b0 : b = 0 <;> by_cases c0 : c = 0 <;> cases d <;> simp [a0, b0, c0]
      · rw [if_neg (fun h => hc h.2.2), decide_eq_false hc]
        rfl
    · rw [if_neg hb, if_neg (fun h => hb h.2.1)]
      rfl
  · rw [if_neg ha, if_neg (fun h => ha h.1)]
    rfl
theorem sameE_loop (l : List S44) (hl : l.length ≤ 1000000) (d : Nat) : ∀ i : Nat, i + d = l.length → Ev (fun k => unicodetextref42_SameElements.l0 k l l (i : Int)) true := by
  induction d with
  | zero =>
    intro i hi
    refine ⟨1, fun k hk => ?_⟩
    (try dsimp only)
    obtain ⟨k, rfl⟩ : ∃ m, k = m + 1 := ⟨k - 1, by omega⟩
    simp only [unicodetextref42_SameElements.l0]
    rw [if_neg (by omega)]
  | succ d ih =>
    intro i hi
    refine Ev.step (f := fun k => unicodetextref42_SameElements.l0 k l l ((i + 1 : Nat) : Int)) (fun k => ?_) (ih (i + 1) (by omega))
    simp only [unicodetextref42_SameElements.l0]
    rw [if_pos (by omega), if_pos (by omega), if_pos (by omega), if_neg (by simp), wrap_succ i (by omega)]
theorem sameE_ev (l : List S44) (hl : l.length ≤ 1000000) : Ev (fun k => unicodetextref42_SameElements.f k l l) true := by
  have := sameE_loop l hl l.length 0 (by omega)
  exact Ev.pos rfl this
section
variable (es : List S49) (gs : List S46) (a b c : Int)
end
end Go.Proofs.YtdaijpjjilmkkaaGreatDoor.Pr

/- The example of the chapter (alive). -/
namespace Go.Proofs.YtdaijpjjilmkkaaGreatDoor.Pr
open Go.RowKit Go.Proofs.YtdaijpjjilmkkaaGreatDoorW.PrintWords Go.Proofs.YtdaijpjjilmkkaaGreatDoorW.PrintLast Go.Proofs.YtdaijpjjilmkkaaGreatDoorW.PrintMore
set_option linter.unusedVariables false
set_option linter.unusedSimpArgs false
theorem pfile_f (l : List UInt8) (h : l.length ≤ 9223372036854775807) : element_ParseFile.f (ofL l) = some (parseF l) := by
  unfold element_ParseFile.f
  rw [if_pos (by rw [ofL_size]; exact h), ofL_list]
theorem ftext_f (l0 : List S49) (l1 : List S46) (a b c : Int) (h : smallF l0 l1 a b c = true) : element_FileText.f l0 l1 a b c = some (if errF l0 l1 a b c = 0 then (ofL (fileT l0 l1 a b c), 0) else (ofL [], errF l0 l1 a b c)) := by
  unfold element_FileText.f
  rw [if_pos h]
def exE : S44 := ⟨16, 32, 2, false⟩
def exG : S46 := ⟨ofL [108, 97, 116, 105, 110], 16, 31⟩
theorem alive_ev : Ev (fun k => unicodetextlaw42_alive.f k) true := by
  have e0 : errE [exE] = 0 := by decide
  have e1 : [exE].flatMap elT = [91, 46, 48, 48, 49, 48, 46, 48, 48, 50, 48, 46, 48, 48, 48, 50, 93] := by kernel_rfl
  have h1 := text_ev [exE] (by decide)
  rw [if_pos e0, e1] at h1
  have p1 : parseF [64, 98, 97, 115, 101, 32, 49, 32, 50, 32, 51, 10, 64, 103, 114, 111, 117, 112, 32, 108, 97, 116, 105, 110, 32, 49, 54, 32, 51, 49, 32, 35, 32, 108, 101, 116, 116, 101, 114, 115, 10, 48, 48, 54, 49, 59, 32, 91, 46, 48, 48, 49, 48, 46, 48, 48, 50, 48, 46, 48, 48, 48, 50, 93, 10] = ([⟨[97], [exE]⟩], [exG], 1, 2, 3, 0, 0) := by kernel_rfl
  have p2 : parseF [64, 98, 97, 115, 101, 32, 49, 32, 50, 32, 51, 10, 48, 48, 54, 49, 59, 10] = bad 3 2 := by kernel_rfl
  have f1 : element_FileText.f [] [exG] 1 2 3 = some (ofL [64, 98, 97, 115, 101, 32, 49, 32, 50, 32, 51, 10, 64, 103, 114, 111, 117, 112, 32, 108, 97, 116, 105, 110, 32, 49, 54, 32, 51, 49, 10], 0) := by
    rw [ftext_f _ _ _ _ _ (by decide), if_pos (by decide)]
    have e : fileT [] [exG] 1 2 3 = [64, 98, 97, 115, 101, 32, 49, 32, 50, 32, 51, 10, 64, 103, 114, 111, 117, 112, 32, 108, 97, 116, 105, 110, 32, 49, 54, 32, 51, 49, 10] := by kernel_rfl
    rw [e]
  have hs := sameE_ev [exE] (by decide)
  refine Ev.bind h1 ?_
  refine Ev.got ((pfile_f _ (by decide)).trans (congrArg some p1)) ?_
  refine Ev.got ((pfile_f _ (by decide)).trans (congrArg some p2)) ?_
  refine Ev.got f1 ?_
  refine Ev.pos (ofL_toList _) (Ev.pos rfl (Ev.pos rfl (Ev.pos rfl (Ev.pos (by decide) ?_))))
  refine Ev.bind hs (Ev.pos rfl (Ev.pos rfl (Ev.pos rfl (Ev.pos (ofL_toList _) (Ev.now true)))))
theorem alive_tail : Ev (fun k => (unicodetextlaw42_alive.f k).bind fun t => some t) true := Ev.bind alive_ev (Ev.now true)
end Go.Proofs.YtdaijpjjilmkkaaGreatDoor.Pr

/- Plain laws: the reference's elements: their text, its reading, as the program's. -/
namespace Go.Proofs.YtdaijpjjilmkkaaGreatDoor.Pr
open Go.RowKit Go.Proofs.YtdaijpjjilmkkaaGreatDoorW.PrintWords Go.Proofs.YtdaijpjjilmkkaaGreatDoorW.PrintLast Go.Proofs.YtdaijpjjilmkkaaGreatDoorW.PrintMore
set_option linter.unusedVariables false
set_option linter.unusedSimpArgs false
abbrev El := S44
theorem bt_dig (d : Nat) (h : d < 16) : bt (⟨#[48, 49, 50, 51, 52, 53, 54, 55, 56, 57, 65, 66, 67, 68, 69, 70]⟩ : ByteArray) (d : Int) = hexDig d := by
  match d, h with
  | 0, _ | 1, _ | 2, _ | 3, _ | 4, _ | 5, _ | 6, _ | 7, _ | 8, _ | 9, _ | 10, _ | 11, _ | 12, _ | 13, _ | 14, _ | 15, _ => rfl
  | n + 16, h => omega
theorem hexL_four (n : Nat) (h : n ≤ 65535) : hexL n = [UInt8.ofNat (hexDig (n / 4096 % 16)).toNat, UInt8.ofNat (hexDig (n / 256 % 16)).toNat, UInt8.ofNat (hexDig (n / 16 % 16)).toNat, UInt8.ofNat (hexDig (n % 16)).toNat] := by
  have hL : hexLen n = 4 := by unfold hexLen; rw [if_pos (by omega)]
  apply List.ext_getElem?
  intro j
  by_cases hj : j < 4
  · rw [hexL_at n j (by omega), hL]
    match j, hj with
    | 0, _ | 1, _ | 2, _ | 3, _ => simp
    | n + 4, h => omega
  · rw [List.getElem?_eq_none (by rw [hexL_length, hL]; omega), List.getElem?_eq_none (by simp; omega)]
theorem dig_at (n m : Nat) (hn : n ≤ 65535) (hm : 0 < m) : Int.tmod (wrap64 (Int.tdiv (n : Int) (m : Int))) 16 = ((n / m % 16 : Nat) : Int) := by
  have h1 : Int.tdiv (n : Int) (m : Int) = ((n / m : Nat) : Int) := by rw [Int.tdiv_eq_ediv_of_nonneg (by omega)]; rfl
  have h2 : n / m ≤ 65535 := Nat.le_trans (Nat.div_le_self _ _) hn
  obtain ⟨q, hq⟩ : ∃ q, n / m = q := ⟨_, rfl⟩
  rw [hq] at h1 h2 ⊢
  rw [h1, wrap_id (by omega) (by omega), Int.tmod_eq_emod_of_nonneg (by omega)]
  rfl
theorem four_f (c : Int) (h : 0 ≤ c ∧ c ≤ 65535) : unicodetextref42_four.f c = some (ofL (hexT c)) := by
  obtain ⟨n, rfl⟩ := Int.eq_ofNat_of_zero_le h.1
  have hn : n ≤ 65535 := by omega
  have t1 := dig_at n 4096 hn (by decide)
  have t2 := dig_at n 256 hn (by decide)
  have t3 := dig_at n 16 hn (by decide)
  have t4 : Int.tmod (n : Int) 16 = ((n % 16 : Nat) : Int) := by rw [Int.tmod_eq_emod_of_nonneg (by omega)]; rfl
  have l1 : n / 4096 % 16 < 16 := Nat.mod_lt _ (by decide)
  have l2 : n / 256 % 16 < 16 := Nat.mod_lt _ (by decide)
  have l3 : n / 16 % 16 < 16 := Nat.mod_lt _ (by decide)
  have l4 : n % 16 < 16 := Nat.mod_lt _ (by decide)
  unfold unicodetextref42_four.f
  rw [show ((4096 : Nat) : Int) = 4096 from rfl] at t1
  rw [show ((256 : Nat) : Int) = 256 from rfl] at t2
  rw [show ((16 : Nat) : Int) = 16 from rfl] at t3
  rw [t1, t2, t3, t4, if_pos (by omega), if_pos (by omega), if_pos (by omega), if_pos (by omega), if_pos (by omega), if_pos (by omega), if_pos (by omega), if_pos (by omega), bt_dig _ l1, bt_dig _ l2, bt_dig _ l3, bt_dig _ l4, strOfNums_ofL, hexT_nat n (by omega), hexL_four n hn]
  rfl
theorem one_t (x : El) (h : okW x) : unicodetextref42_one.f x.f0 x.f1 x.f2 x.f3 = some (ofL (elT x)) := by
  have l0 := hexT_len4 _ h.1
  have l1 := hexT_len4 _ h.2.1
  have l2 := hexT_len4 _ h.2.2
  have e91 : (⟨#[91]⟩ : ByteArray) = ofL [91] := rfl
  have e42 : (⟨#[42]⟩ : ByteArray) = ofL [42] := rfl
  have e46 : (⟨#[46]⟩ : ByteArray) = ofL [46] := rfl
  have e93 : (⟨#[93]⟩ : ByteArray) = ofL [93] := rfl
  unfold unicodetextref42_one.f
  rw [four_f _ h.1, four_f _ h.2.1, four_f _ h.2.2, e91, e42, e46, e93]
  simp only [Option.bind_some, ofL_append, ofL_size, List.length_append, List.length_cons, List.length_nil, l0, l1, l2]
  cases hb : x.f3 with
  | true =>
    rw [if_pos rfl, if_pos (by decide), if_pos (by decide), if_pos (by decide), if_pos (by decide), if_pos (by decide), if_pos (by decide), if_pos (by decide)]
    unfold elT
    rw [hb, if_pos rfl]
    simp
  | false =>
    rw [if_neg (by decide), if_pos (by decide), if_pos (by decide), if_pos (by decide), if_pos (by decide), if_pos (by decide), if_pos (by decide), if_pos (by decide)]
    unfold elT
    rw [hb, if_neg (by decide)]
    simp
theorem checks_loop (l : List El) (hl : l.length ≤ 2000000) (d : Nat) : ∀ i : Nat, i + d = l.length → Ev (fun k => unicodetextref42_checks.l0 k l (i : Int)) (errE (l.drop i)) := by
  induction d with
  | zero =>
    intro i hi
    refine ⟨1, fun k hk => ?_⟩
    (try dsimp only)
    obtain ⟨k, rfl⟩ : ∃ m, k = m + 1 := ⟨k - 1, by omega⟩
    simp only [unicodetextref42_checks.l0]
    rw [if_neg (by omega), List.drop_of_length_le (by omega)]
    rfl
  | succ d ih =>
    intro i hi
    have hlt : i < l.length := by omega
    have hd : l.drop i = l[i] :: l.drop (i + 1) := List.drop_eq_getElem_cons hlt
    refine Ev.step (f := fun k => (unicodetextref42_Check.f k l[i].f0 l[i].f1 l[i].f2 l[i].f3).bind fun t => (if t = 0 then unicodetextref42_checks.l0 k l ((i + 1 : Nat) : Int) else some t)) (fun k => ?_) ?_
    · simp only [unicodetextref42_checks.l0]
      rw [if_pos (by omega), if_pos (by omega), rdE_at l i hlt, wrap_succ i (by omega)]
    · refine Ev.bind (checkR_ev l[i]) ?_
      rw [hd, errE]
      by_cases h0 : checkE l[i] = 0
      · rw [if_pos h0]
        exact Ev.pos h0 (ih (i + 1) (by omega))
      · rw [if_neg h0]
        exact Ev.neg h0 (Ev.now _)
theorem checks_ev (l : List El) (hl : l.length ≤ 2000000) : Ev (fun k => unicodetextref42_checks.f k l) (errE l) := by
  have := checks_loop l hl l.length 0 (by omega)
  rw [List.drop_zero] at this
  exact this
theorem textR_loop (l : List El) (hl : l.length ≤ 1000) (ho : ∀ x ∈ l, okW x) (d : Nat) : ∀ (i : Nat) (T : List UInt8), i + d = l.length → T.length ≤ 17 * i → Ev (fun k => unicodetextref42_Text.l0 k l (ofL T) (i : Int)) (ofL (T ++ (l.drop i).flatMap elT), 0) := by
  induction d with
  | zero =>
    intro i T hi hT
    refine ⟨1, fun k hk => ?_⟩
    (try dsimp only)
    obtain ⟨k, rfl⟩ : ∃ m, k = m + 1 := ⟨k - 1, by omega⟩
    simp only [unicodetextref42_Text.l0]
    rw [if_neg (by omega), List.drop_of_length_le (by omega), List.flatMap_nil, List.append_nil]
  | succ d ih =>
    intro i T hi hT
    have hlt : i < l.length := by omega
    have hd : l.drop i = l[i] :: l.drop (i + 1) := List.drop_eq_getElem_cons hlt
    have hx := ho l[i] (List.getElem_mem hlt)
    have h17 := elT_len l[i] hx
    have h2 := ih (i + 1) (T ++ elT l[i]) (by omega) (by simp; omega)
    rw [hd, List.flatMap_cons, ← List.append_assoc]
    refine Ev.step (f := fun k => unicodetextref42_Text.l0 k l (ofL (T ++ elT l[i])) ((i + 1 : Nat) : Int)) (fun k => ?_) h2
    simp only [unicodetextref42_Text.l0]
    rw [if_pos (by omega), if_pos (by omega), rdE_at l i hlt, one_t _ hx, Option.bind_some, if_pos (by rw [ofL_size, ofL_size]; omega), ofL_append, wrap_succ i (by omega)]
theorem textR_ev (l : List El) (hl : l.length ≤ 1000) : Ev (fun k => unicodetextref42_Text.f k l) (if errE l = 0 then (ofL (l.flatMap elT), 0) else (ofL [], errE l)) := by
  refine Ev.bind (checks_ev l (by omega)) ?_
  by_cases h0 : errE l = 0
  · rw [if_pos h0]
    have := textR_loop l hl (fun x hx => okW_of x (errE_mem l h0 x hx)) l.length 0 [] (by omega) (by simp)
    rw [List.drop_zero, List.nil_append] at this
    exact Ev.pos h0 this
  · rw [if_neg h0]
    exact Ev.neg h0 (Ev.now _)
end Go.Proofs.YtdaijpjjilmkkaaGreatDoor.Pr

/- ElementTexts: the pure statement. -/
namespace Go.Proofs.YtdaijpjjilmkkaaGreatDoor.Pr
open Go.RowKit Go.Proofs.YtdaijpjjilmkkaaGreatDoorW.PrintWords Go.Proofs.YtdaijpjjilmkkaaGreatDoorW.PrintLast Go.Proofs.YtdaijpjjilmkkaaGreatDoorW.PrintMore
set_option linter.unusedVariables false
set_option linter.unusedSimpArgs false
theorem ElementTexts_pure (l : List S44) : ∃ k, unicodetextlaw42_ElementTexts.f k l = some true := by
  have h : Ev (fun k => unicodetextlaw42_ElementTexts.f k l) true := by
    refine Ev.got rfl ?_
    by_cases hl : l.length ≤ 16
    · exact Ev.pos (decide_eq_true (by omega)) (Ev.bind (text_ev l (by omega)) (Ev.bind (textR_ev l (by omega)) (Ev.pos rfl (Ev.pos rfl alive_tail))))
    · exact Ev.neg (by simp; omega) alive_tail
  obtain ⟨K, h⟩ := h
  exact ⟨K, h K (Nat.le_refl _)⟩
end Go.Proofs.YtdaijpjjilmkkaaGreatDoor.Pr
