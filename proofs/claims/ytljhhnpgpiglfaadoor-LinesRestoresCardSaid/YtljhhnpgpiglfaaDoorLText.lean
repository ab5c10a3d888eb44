/- Plain laws: few, one and Text of the reference; LinesTexts as a pure statement. -/
import Derived.Test.YtljhhnpgpiglfaaDoorLAlive
import Derived.Test.YtljhhnpgpiglfaaDoorHLText
import Derived.Test.YtljhhnpgpiglfaaDoorPrx8
import Derived.Test.YtljhhnpgpiglfaaDoorPrx9
import Derived.Test.YtljhhnpgpiglfaaDoorPrx9
namespace Go.Proofs.YtljhhnpgpiglfaaDoor.Pr
open Go.RowKit Go.Proofs.YtljhhnpgpiglfaaDoorW.PrintWords Go.Proofs.YtljhhnpgpiglfaaDoorW.PrintLast Go.Proofs.YtljhhnpgpiglfaaDoorW.PrintMore
set_option linter.unusedVariables false
set_option linter.unusedSimpArgs false

/-! ### few -/
theorem few_fields (all : List S35) (hl : all.length ≤ 40) (i : Nat) (hi : i < all.length) (R : Bool) (hR : Ev (fun k => unicodetextlaw09_few.l0 k all ((i + 1 : Nat) : Int)) R) (hfl : (all[i]'hi).f3.length ≤ 10) :
    ∀ (r p : List ByteArray), (all[i]'hi).f3 = p ++ r → Ev (fun k => unicodetextlaw09_few.l1 k all (i : Int) (p.length : Int)) (r.all (fun f => decide (f.size ≤ 100)) && R)
  | [], p, h => by
    refine Ev.step (fun k => ?_) hR
    simp only [unicodetextlaw09_few.l1]
    rw [if_pos (by omega), if_pos (by omega), rd_at all i hi, if_neg (by rw [h]; simp), wrap_succ _ (by omega)]
  | f :: r, p, h => by
    have hlen : p.length + (r.length + 1) = (all[i]'hi).f3.length := by rw [h]; simp
    have hx : rdOf ByteArray.empty (all[i]'hi).f3 (p.length : Int) = f := by rw [h]; simp [rdOf]
    by_cases hf : f.size ≤ 100
    · have ih := few_fields all hl i hi R hR hfl r (p ++ [f]) (by rw [h]; simp)
      rw [List.length_append, List.length_singleton] at ih
      rw [List.all_cons, decide_eq_true hf, Bool.true_and]
      refine Ev.step (fun k => ?_) ih
      simp only [unicodetextlaw09_few.l1]
      rw [if_pos (by omega), if_pos (by omega), rd_at all i hi, if_pos (by omega), if_pos (by omega), hx, if_neg (by omega), wrap_succ _ (by omega)]
    · rw [List.all_cons, decide_eq_false hf, Bool.false_and, Bool.false_and]
      refine Ev.step (f := fun _ => some false) (fun k => ?_) (Ev.now _)
      simp only [unicodetextlaw09_few.l1]
      rw [if_pos (by omega), if_pos (by omega), rd_at all i hi, if_pos (by omega), if_pos (by omega), hx, if_pos (by omega)]
theorem few_loop (all : List S35) (hl : all.length ≤ 40) : ∀ (r p : List S35), all = p ++ r → Ev (fun k => unicodetextlaw09_few.l0 k all (p.length : Int)) (r.all smallX)
  | [], p, h => by
    refine Ev.step (f := fun _ => some true) (fun k => ?_) (Ev.now _)
    simp only [unicodetextlaw09_few.l0]
    rw [if_neg (by rw [h]; simp)]
  | x :: r, p, h => by
    have hlt : p.length < all.length := by rw [h]; simp
    have hat : all[p.length]'hlt = x := by simp [h]
    have ih := few_loop all hl r (p ++ [x]) (by rw [h]; simp)
    rw [List.length_append, List.length_singleton] at ih
    have hj : ∀ b : Bool, (b = false → x.f3.length ≤ 10) → Ev (fun k => unicodetextlaw09_few.j1 k all (p.length : Int) b) (!b && (x.f3.all (fun f => decide (f.size ≤ 100)) && r.all smallX)) := by
      intro b hb
      cases b with
      | true =>
        refine Ev.step (f := fun _ => some false) (fun k => ?_) (Ev.now _)
        simp only [unicodetextlaw09_few.j1]
        rw [if_pos trivial]
      | false =>
        have := few_fields all hl p.length hlt (r.all smallX) ih (by rw [hat]; exact hb rfl) x.f3 [] (by rw [hat]; rfl)
        refine Ev.step (fun k => ?_) this
        simp only [unicodetextlaw09_few.j1]
        rfl
    have hw : (!decide ((x.f4.size : Int) > 100)) = decide (x.f4.size ≤ 100) := by
      by_cases hs : x.f4.size ≤ 100
      · rw [decide_eq_true hs, decide_eq_false (by omega)]; rfl
      · rw [decide_eq_false hs, decide_eq_true (by omega)]; rfl
    rw [List.all_cons]
    unfold smallX
    by_cases h10 : x.f3.length ≤ 10
    · have := hj (decide ((x.f4.size : Int) > 100)) (fun _ => h10)
      rw [hw] at this
      rw [decide_eq_true h10, Bool.true_and, Bool.and_comm (x.f3.all _) (decide (x.f4.size ≤ 100)), Bool.and_assoc]
      refine Ev.step (fun k => ?_) this
      simp only [unicodetextlaw09_few.l0]
      rw [if_pos (by omega), if_pos (by omega), rd_at all _ hlt, hat, if_neg (by omega)]
    · have := hj true (fun e => by cases e)
      rw [decide_eq_false h10, Bool.false_and, Bool.false_and, Bool.false_and]
      refine Ev.step (fun k => ?_) this
      simp only [unicodetextlaw09_few.l0]
      rw [if_pos (by omega), if_pos (by omega), rd_at all _ hlt, hat, if_pos (by omega)]
theorem few_ev (l0 : List S35) : Ev (fun k => unicodetextlaw09_few.f k l0) (smallT l0) := by
  unfold smallT
  by_cases h : l0.length ≤ 40
  · obtain ⟨K, g⟩ := few_loop l0 h l0 [] rfl
    refine ⟨K, fun k hk => ?_⟩
    show unicodetextlaw09_few.f k l0 = _
    unfold unicodetextlaw09_few.f
    rw [if_neg (by omega), decide_eq_true h, Bool.true_and]
    exact g k hk
  · refine ⟨0, fun k _ => ?_⟩
    show unicodetextlaw09_few.f k l0 = _
    unfold unicodetextlaw09_few.f
    rw [if_pos (by omega), decide_eq_false h]
    rfl

/-! ### one -/
theorem szl (f : ByteArray) : f.data.toList.length = f.size := by simp
theorem one_loop (n lo hi : Int) (fs : List ByteArray) (note : ByteArray) (hn : fs.length ≤ 10) (hf : ∀ f ∈ fs, f.size ≤ 100) (hs : note.size ≤ 100) : ∀ (r p : List ByteArray) (P : List UInt8), fs = p ++ r → P.length ≤ 1000 + 200 * p.length →
    Ev (fun k => unicodetextref09_one.l0 k (ofL P) (p.length : Int) n lo hi fs note) (ofL (P ++ fieldsT r ++ noteT note ++ [10]))
  | [], p, P, h, hP => by
    have hpl : p.length = fs.length := by rw [h]; simp
    refine Ev.step (f := fun _ => some (ofL (P ++ fieldsT [] ++ noteT note ++ [10]))) (fun k => ?_) (Ev.now _)
    simp only [unicodetextref09_one.l0]
    rw [if_neg (by omega), Lib.toList_data]
    unfold noteT fieldsT
    by_cases hE : note.data.toList = []
    · rw [if_pos hE, if_pos hE, if_pos (by rw [ofL_size]; omega), show ofL P ++ (⟨#[10]⟩ : ByteArray) = ofL (P ++ [10]) from ofL_append P [10]]
      simp
    · rw [if_neg hE, if_neg hE, if_pos (by omega), show (⟨#[32, 35, 32]⟩ : ByteArray) ++ note = ofL ([32, 35, 32] ++ note.data.toList) by rw [← ofL_append, ofL_eq], if_pos (by rw [ofL_size, ofL_size, List.length_append, szl]; simp; omega), ofL_append,
        if_pos (by rw [ofL_size, List.length_append, List.length_append, szl]; simp; omega), show (⟨#[10]⟩ : ByteArray) = ofL [10] from rfl, ofL_append]
      simp
  | f :: r, p, P, h, hP => by
    have hlen : p.length + (r.length + 1) = fs.length := by rw [h]; simp
    have hx : rdOf ByteArray.empty fs (p.length : Int) = f := by rw [h]; simp [rdOf]
    have hfs := hf f (by rw [h]; simp)
    have ih := one_loop n lo hi fs note hn hf hs r (p ++ [f]) (P ++ ([59, 32] ++ f.data.toList)) (by rw [h]; simp) (by rw [List.length_append, List.length_append, List.length_append, szl]; simp; omega)
    rw [List.length_append, List.length_singleton] at ih
    have e : P ++ ([59, 32] ++ f.data.toList) ++ fieldsT r = P ++ fieldsT (f :: r) := by unfold fieldsT; simp
    rw [e] at ih
    refine Ev.step (fun k => ?_) ih
    simp only [unicodetextref09_one.l0]
    rw [if_pos (by omega), if_pos (by omega), hx, if_pos (by omega), show (⟨#[59, 32]⟩ : ByteArray) ++ f = ofL ([59, 32] ++ f.data.toList) by rw [← ofL_append, ofL_eq], if_pos (by rw [ofL_size, ofL_size, List.length_append, szl]; simp; omega), ofL_append, wrap_succ _ (by omega)]
theorem hexT_of (c : Int) : hexOf c = ofL (hexT c) := (ofL_eq _).symm
theorem one_ev (x : S35) (h : smallX x = true) : Ev (fun k => unicodetextref09_one.f k x.f0 x.f1 x.f2 x.f3 x.f4) (ofL (lineT x)) := by
  obtain ⟨h1, h2, h3⟩ := smallX_parts h
  have hs := spanT_len x
  obtain ⟨K, g⟩ := one_loop x.f0 x.f1 x.f2 x.f3 x.f4 h1 h2 h3 x.f3 [] (spanT x) rfl (by simp; omega)
  dsimp only at g
  have hx := hexT_len x.f1
  have hy := hexT_len x.f2
  refine ⟨K + 8, fun k hk => ?_⟩
  obtain ⟨k, rfl⟩ : ∃ m, k = m + 1 := ⟨k - 1, by omega⟩
  show unicodetextref09_one.f (k + 1) x.f0 x.f1 x.f2 x.f3 x.f4 = some (ofL (lineT x))
  have gk := g k (by omega)
  unfold unicodetextref09_one.f
  rw [at_rounds (fun k => unicodetextref01_Hex.mono _ k) (show 7 ≤ k + 1 by omega) (ref_hex x.f1), Option.bind_some]
  unfold spanT at gk
  unfold lineT spanT
  by_cases he : x.f2 = x.f1
  · rw [if_pos he, List.append_nil] at gk
    rw [if_pos he, if_pos he, List.append_nil]
    simp only [unicodetextref09_one.j0]
    rw [hexT_of]
    exact gk
  · rw [if_neg he] at gk
    rw [if_neg he, if_neg he, at_rounds (fun k => unicodetextref01_Hex.mono _ k) (show 7 ≤ k + 1 by omega) (ref_hex x.f2), Option.bind_some]
    simp only [unicodetextref09_one.j0]
    rw [hexT_of x.f1, hexT_of x.f2, show (⟨#[46, 46]⟩ : ByteArray) ++ ofL (hexT x.f2) = ofL ([46, 46] ++ hexT x.f2) from ofL_append [46, 46] _, if_pos (by rw [ofL_size]; omega), if_pos (by rw [ofL_size, ofL_size, List.length_append]; simp; omega), ofL_append]
    exact gk

/-! ### Text -/
theorem small_check (x : S35) (h : smallX x = true) : Ev (fun k => unicodetextref09_Check.f k x.f0 x.f1 x.f2 x.f3 x.f4) (checkX x) ∧ Ev (fun k => lines_Check.f k x.f0 x.f1 x.f2 x.f3 x.f4) (checkX x) := by
  obtain ⟨h1, h2, h3⟩ := smallX_parts h
  exact ⟨refc_ev x.f0 x.f1 x.f2 x.f3 x.f4 (by omega) (fun f hf => by have := h2 f hf; omega) (by omega), linec_ev x.f0 x.f1 x.f2 x.f3 x.f4 (by omega) (fun f hf => by have := h2 f hf; omega) (by omega)⟩
theorem text_build (all : List S35) (hl : all.length ≤ 40) (hs : all.all smallX = true) : ∀ (r p : List S35), all = p ++ r →
    Ev (fun k => unicodetextref09_Text.l1 k all (ofL (p.flatMap lineT)) (p.length : Int)) (ofL (all.flatMap lineT), 0)
  | [], p, h => by
    refine Ev.step (f := fun _ => some (ofL (all.flatMap lineT), 0)) (fun k => ?_) (Ev.now _)
    simp only [unicodetextref09_Text.l1]
    rw [if_neg (by rw [h]; simp), h, List.append_nil]
  | x :: r, p, h => by
    have hlt : p.length < all.length := by rw [h]; simp
    have hat : all[p.length]'hlt = x := by simp [h]
    have hxs : smallX x = true := List.all_eq_true.1 hs x (by rw [h]; simp)
    have hps : p.all smallX = true := List.all_eq_true.2 fun y hy => List.all_eq_true.1 hs y (by rw [h]; simp [hy])
    have hpl := textT_len p hps
    have hxl := lineT_len hxs
    obtain ⟨K1, g1⟩ := one_ev x hxs
    obtain ⟨K2, g2⟩ := text_build all hl hs r (p ++ [x]) (by rw [h]; simp)
    dsimp only at g1 g2
    rw [List.length_append, List.length_singleton, List.flatMap_append] at g2
    refine ⟨K1 + K2 + 1, fun k hk => ?_⟩
    obtain ⟨k, rfl⟩ : ∃ m, k = m + 1 := ⟨k - 1, by omega⟩
    show unicodetextref09_Text.l1 (k + 1) all (ofL (p.flatMap lineT)) (p.length : Int) = _
    simp only [unicodetextref09_Text.l1]
    rw [if_pos (by omega), if_pos (by omega), rd_at all _ hlt, hat, g1 k (by omega), Option.bind_some, if_pos (by rw [ofL_size, ofL_size]; omega), ofL_append, wrap_succ _ (by omega)]
    have e : p.flatMap lineT ++ lineT x = p.flatMap lineT ++ [x].flatMap lineT := by simp
    rw [e]
    exact g2 k (by omega)
theorem text_loop (all : List S35) (hl : all.length ≤ 40) (hs : all.all smallX = true) : ∀ (r p : List S35), all = p ++ r →
    Ev (fun k => unicodetextref09_Text.l0 k all (p.length : Int)) (if errT r = 0 then (ofL (all.flatMap lineT), 0) else (ofL [], errT r))
  | [], p, h => by
    have hb := text_build all hl hs all [] rfl
    rw [errT, if_pos rfl]
    refine Ev.step (fun k => ?_) hb
    simp only [unicodetextref09_Text.l0]
    rw [if_neg (by rw [h]; simp)]
    rfl
  | x :: r, p, h => by
    have hlt : p.length < all.length := by rw [h]; simp
    have hat : all[p.length]'hlt = x := by simp [h]
    have hxs : smallX x = true := List.all_eq_true.1 hs x (by rw [h]; simp)
    obtain ⟨K1, g1⟩ := (small_check x hxs).1
    obtain ⟨K2, g2⟩ := text_loop all hl hs r (p ++ [x]) (by rw [h]; simp)
    dsimp only at g1 g2
    rw [List.length_append, List.length_singleton] at g2
    refine ⟨K1 + K2 + 1, fun k hk => ?_⟩
    obtain ⟨k, rfl⟩ : ∃ m, k = m + 1 := ⟨k - 1, by omega⟩
    show unicodetextref09_Text.l0 (k + 1) all (p.length : Int) = _
    simp only [unicodetextref09_Text.l0]
    rw [if_pos (by omega), if_pos (by omega), rd_at all _ hlt, hat, g1 k (by omega), Option.bind_some, errT]
    by_cases h0 : checkX x = 0
    · rw [if_pos h0, if_pos h0, wrap_succ _ (by omega)]
      exact g2 k (by omega)
    · rw [if_neg h0, if_neg h0, if_neg h0]
theorem text_ev (l0 : List S35) (h : smallT l0 = true) : Ev (fun k => unicodetextref09_Text.f k l0) (if errT l0 = 0 then (ofL (l0.flatMap lineT), 0) else (ofL [], errT l0)) := by
  unfold smallT at h
  simp only [Bool.and_eq_true, decide_eq_true_eq] at h
  exact text_loop l0 h.1 h.2 l0 [] rfl

end Go.Proofs.YtljhhnpgpiglfaaDoor.Pr
