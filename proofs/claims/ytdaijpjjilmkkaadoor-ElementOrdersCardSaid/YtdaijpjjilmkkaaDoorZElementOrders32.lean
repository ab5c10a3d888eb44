/- Texts of the claim ElementOrders, joined: ELawR, Prx3, Prx7, ERef, EAlive, EInts, PElementOrders. -/
import Derived.Test.YtdaijpjjilmkkaaDoorZElementOrders26
import Derived.Lib.ItoaLen
import Derived.Test.YtdaijpjjilmkkaaDoorZElementOrders22
import Derived.Test.YtdaijpjjilmkkaaDoorZElementOrders23
import Derived.Test.YtdaijpjjilmkkaaDoorZElementOrders30
import Derived.Test.YtdaijpjjilmkkaaDoorZElementOrders28
import Derived.Test.YtdaijpjjilmkkaaDoorZElementOrders29
import Derived.Test.YtdaijpjjilmkkaaDoorZElementOrders31
/- Plain laws of collations: what ParseFile has read can be written, and is read again; lines out of order; sizes. -/
namespace Go.Proofs.YtdaijpjjilmkkaaDoor.Pr
open Go.RowKit Go.Proofs.YtdaijpjjilmkkaaDoorW.PrintWords Go.Proofs.YtdaijpjjilmkkaaDoorW.PrintLast Go.Proofs.YtdaijpjjilmkkaaDoorW.PrintMore
set_option linter.unusedVariables false
set_option linter.unusedSimpArgs false
structure okR (st : Rd) (N : Nat) : Prop where
  g : ∀ g ∈ st.gs, okG g
  x : ∀ x ∈ st.es, okX x
  f : st.bg = false → st.es = [] ∧ st.gs = []
  b : st.bg = true → in64 st.b1 ∧ in64 st.b2 ∧ in64 st.b3 ∧ (fileT st.es st.gs st.b1 st.b2 st.b3).length ≤ N
  l : st.ls.length = st.es.length
  m : ∀ n ∈ st.ls, 1 ≤ n
theorem flat_le {α : Type} (f : α → List UInt8) (m : Nat) : ∀ (l : List α), (∀ x ∈ l, (f x).length ≤ m) → (l.flatMap f).length ≤ m * l.length
  | [], _ => Nat.le_refl _
  | y :: r, h => by
    have h1 := h y (by simp)
    have h2 := flat_le f m r fun x hx => h x (List.mem_cons_of_mem _ hx)
    rw [List.flatMap_cons, List.length_append, List.length_cons, Nat.mul_add]
    omega
theorem words4 (p q r t : List UInt8) : (wordsT [p, q, r, t]).length = p.length + q.length + r.length + t.length + 4 := wordsT_len p q r t
def fewB (l0 : List S52) (l1 : List S49) : Bool :=
  decide (l0.length ≤ 12) && decide (l1.length ≤ 8) && l0.all (fun x => decide (x.f0.length ≤ 16) && decide (x.f1.length ≤ 16)) && l1.all (fun g => decide (g.f0.size ≤ 40))
theorem few_parts {l0 : List S52} {l1 : List S49} (h : fewB l0 l1 = true) : l0.length ≤ 12 ∧ l1.length ≤ 8 ∧ (∀ x ∈ l0, x.f0.length ≤ 16 ∧ x.f1.length ≤ 16) ∧ ∀ g ∈ l1, g.f0.size ≤ 40 := by
  unfold fewB at h
  simp only [Bool.and_eq_true, decide_eq_true_eq, List.all_eq_true] at h
  obtain ⟨⟨⟨h1, h2⟩, h3⟩, h4⟩ := h
  exact ⟨h1, h2, h3, h4⟩
theorem few_small {l0 : List S52} {l1 : List S49} {a b c : Int} (h : fewB l0 l1 = true) (hg : ∀ g ∈ l1, i64B g.f1 = true ∧ i64B g.f2 = true) (ha : i64B a = true) (hb : i64B b = true) (hc : i64B c = true) : smallF l0 l1 a b c = true := by
  obtain ⟨h1, h2, h3, h4⟩ := few_parts h
  have hx : l0.all smallX = true := List.all_eq_true.2 fun x hx => by
    have := h3 x hx
    unfold smallX
    rw [Bool.and_eq_true]
    exact ⟨decide_eq_true (by omega), decide_eq_true (by omega)⟩
  have hg2 : l1.all smallG = true := List.all_eq_true.2 fun g hm => by
    have := h4 g hm
    unfold smallG
    rw [(hg g hm).1, (hg g hm).2, Bool.and_true, Bool.and_true]
    exact decide_eq_true (by omega)
  unfold smallF
  rw [hx, hg2, ha, hb, hc]
  simp only [Bool.and_true, Bool.and_eq_true]
  exact ⟨decide_eq_true (by omega), decide_eq_true (by omega)⟩
theorem itoa_le (n : Int) (h : in64 n) : (Lib.itoa n).length ≤ 21 := Lib.itoa_length_le n (by have := h.1; omega) h.2
theorem few_len {l0 : List S52} {l1 : List S49} {a b c : Int} (h : fewB l0 l1 = true) (ho : okF l0 l1 a b c) : (fileT l0 l1 a b c).length ≤ 10000 := by
  obtain ⟨h1, h2, h3, h4⟩ := few_parts h
  have hb : (baseT a b c).length ≤ 72 := by
    have := itoa_le a ho.n1
    have := itoa_le b ho.n2
    have := itoa_le c ho.n3
    unfold baseT
    rw [words4]
    simp only [baseW, List.length_cons, List.length_nil]
    omega
  have hx : (l0.flatMap entryT).length ≤ 400 * l0.length := flat_le entryT 400 l0 fun x hx => by
    have := h3 x hx
    have h5 := join_size x.f0
    have h6 := flat_len x.f1 (ho.x x hx).2
    unfold entryT
    simp only [List.length_append, List.length_cons, List.length_nil]
    omega
  have hg : (l1.flatMap groupT).length ≤ 100 * l1.length := flat_le groupT 100 l1 fun g hg => by
    have := h4 g hg
    have := itoa_le g.f1 (ho.g g hg).2.1
    have := itoa_le g.f2 (ho.g g hg).2.2
    have hz : g.f0.data.toList.length = g.f0.size := by simp
    unfold groupT
    rw [words4, hz]
    simp only [groupW, List.length_cons, List.length_nil]
    omega
  unfold fileT
  simp only [List.length_append]
  omega
def w1 : List UInt8 := [64, 98, 97, 115, 101, 32, 49, 32, 50, 32, 51]
def w2 : List UInt8 := [48, 48, 54, 49, 59, 32]
def w3 : List UInt8 := [64, 103, 114, 111, 117, 112, 32, 120, 32, 49, 32, 50]
def x2 : S52 := ⟨[97], []⟩
theorem line_w1 (st : Rd) (hb : st.bg = true) (n : Int) : lineS st w1 n = none := by
  unfold lineS
  rw [if_neg (by rw [hb]; decide), if_neg (by decide)]
  unfold lineE
  rw [show Lib.cut w1 [59, 32] = (w1, [], false) by decide, if_neg (fun h => by cases h.1)]
theorem okX2 : okX x2 := ⟨by decide, by simp [x2]⟩
theorem entry_w2 : entryN x2 = w2 := by kernel_rfl
theorem line_w3 (st : Rd) (hb : st.bg = true) (he : st.es ≠ []) (n : Int) : lineS st w3 n = none := by
  unfold lineS
  rw [if_neg (by rw [hb]; decide), if_pos (by decide)]
  unfold lineG
  rw [if_neg (fun h => he h.2.2)]
theorem order_a {l0 : List S52} {l1 : List S49} {a b c : Int} (h : okF l0 l1 a b c) (hl : (fileT l0 l1 a b c).length ≤ 10000) : parseF (fileT l0 l1 a b c ++ linesT [w1]) = bad 3 ((1 + l1.length + l0.length : Nat) + 1) := by
  obtain ⟨ms, hp⟩ := parse_more h [w1] (by decide) (by rw [List.length_append]; have : (linesT [w1]).length = 12 := rfl; omega)
  rw [hp, goL_one _ _ _ _ (by decide) (by decide), line_w1 _ rfl]
  show bad 3 ((1 + l1.length + l0.length + 1 : Nat) : Int) = _
  rw [Int.natCast_add]
  rfl
theorem go_w2 (l0 : List S52) (l1 : List S49) (a b c : Int) (ms : List Int) (r : List (List UInt8)) (i : Nat) : goL (w2 :: r) i ⟨l0, l1, a, b, c, true, ms⟩ = goL r (i + 1) ⟨l0 ++ [x2], l1, a, b, c, true, ms ++ [(i : Int) + 1]⟩ := by
  rw [goL_one _ _ _ _ (by decide) (by decide), ← entry_w2, entry_line x2 okX2]
theorem order_b {l0 : List S52} {l1 : List S49} {a b c : Int} (h : okF l0 l1 a b c) (hl : (fileT l0 l1 a b c).length ≤ 10000) : parseF (fileT l0 l1 a b c ++ linesT [w2, w3]) = bad 3 ((1 + l1.length + l0.length : Nat) + 2) := by
  obtain ⟨ms, hp⟩ := parse_more h [w2, w3] (by decide) (by rw [List.length_append]; have : (linesT [w2, w3]).length = 20 := rfl; omega)
  rw [hp, go_w2, goL_one _ _ _ _ (by decide) (by decide), line_w3 _ rfl (by simp)]
  show bad 3 ((1 + l1.length + l0.length + 1 + 1 : Nat) : Int) = _
  rw [show 1 + l1.length + l0.length + 1 + 1 = 1 + l1.length + l0.length + 2 from rfl, Int.natCast_add]
  rfl
theorem order_c {l0 : List S52} {l1 : List S49} {a b c : Int} (h : okF l0 l1 a b c) (hl : (fileT l0 l1 a b c).length ≤ 10000) : parseF (fileT l0 l1 a b c ++ linesT [w2]) = (l0 ++ [x2], l1, a, b, c, 0, 0) := by
  obtain ⟨ms, hp⟩ := parse_more h [w2] (by decide) (by rw [List.length_append]; have : (linesT [w2]).length = 7 := rfl; omega)
  rw [hp, go_w2, goL]
  unfold endL
  dsimp only
  rw [if_neg (by decide), badE_none]
  intro x hx
  rcases List.mem_append.1 hx with hx | hx
  · exact h.e x hx
  · simp only [List.mem_singleton] at hx
    subst hx
    rfl
end Go.Proofs.YtdaijpjjilmkkaaDoor.Pr

-- Written by wip/drive.py of this claim's session, out of the translation. Not trusted: Lean checks it.
namespace Go.Proofs.YtdaijpjjilmkkaaDoor.Pr
open Go.RowKit Go.Proofs.YtdaijpjjilmkkaaDoorW.PrintWords Go.Proofs.YtdaijpjjilmkkaaDoorW.PrintLast Go.Proofs.YtdaijpjjilmkkaaDoorW.PrintMore
attribute [local go_sem] max2_int min2_int max_two min_two max_three min_three max_four min_four   -- for this text's walks alone
set_option linter.unusedVariables false
set_option linter.unusedSimpArgs false
theorem eqA49 (d : Nat) (w : World) (x0 y0 : ByteArray) (x1 y1 : Int) (x2 y2 : Int) :
    (Op.equalIn (d + 2) 49 (.agg #[.string x0, .int .i64 x1, .int .i64 x2]) (.agg #[.string y0, .int .i64 y1, .int .i64 y2])).run Tryd.prog w = .ok (x0.toList == y0.toList && (x1 == y1 && (x2 == y2))) w := by
  refine eqA_of Tryd.underlying49 (by kernel_rfl) ?_
  refine eqf_cons (by rfl) (by go_simp; rfl) (by go_simp; rfl) (by go_simp) ?_
  refine eqf_cons (by rfl) (by go_simp; rfl) (by go_simp; rfl) (by go_simp) ?_
  exact eqf_last (by rfl) (by go_simp; rfl) (by go_simp; rfl) (by go_simp)
end Go.Proofs.YtdaijpjjilmkkaaDoor.Pr

-- Written by wip/drive.py of this claim's session, out of the translation. Not trusted: Lean checks it.
namespace Go.Proofs.YtdaijpjjilmkkaaDoor.Pr
open Go.RowKit Go.Proofs.YtdaijpjjilmkkaaDoorW.PrintWords Go.Proofs.YtdaijpjjilmkkaaDoorW.PrintLast Go.Proofs.YtdaijpjjilmkkaaDoorW.PrintMore
attribute [local go_sem] max2_int min2_int max_two min_two max_three min_three max_four min_four   -- for this text's walks alone
set_option linter.unusedVariables false
set_option linter.unusedSimpArgs false
attribute [local go_sem high] eqA49
end Go.Proofs.YtdaijpjjilmkkaaDoor.Pr

/- Plain laws: what the reference's functions Check, SameElements, Same and Few answer. -/
namespace Go.Proofs.YtdaijpjjilmkkaaDoor.Pr
open Go.RowKit Go.Proofs.YtdaijpjjilmkkaaDoorW.PrintWords Go.Proofs.YtdaijpjjilmkkaaDoorW.PrintLast Go.Proofs.YtdaijpjjilmkkaaDoorW.PrintMore
set_option linter.unusedVariables false
set_option linter.unusedSimpArgs false
theorem Ev.pos {α : Type} {c : Prop} [Decidable c] {f g : Nat → Option α} {r : α} (hc : c) (h : Ev f r) : Ev (fun k => if c then f k else g k) r := Ev.congr (fun k => if_pos hc) h
theorem Ev.neg {α : Type} {c : Prop} [Decidable c] {f g : Nat → Option α} {r : α} (hc : ¬ c) (h : Ev g r) : Ev (fun k => if c then f k else g k) r := Ev.congr (fun k => if_neg hc) h
theorem Ev.got {α β : Type} {o : Option β} {b : β} {g : Nat → β → Option α} {r : α} (h : o = some b) (h2 : Ev (fun k => g k b) r) : Ev (fun k => o.bind (g k)) r := by
  subst h
  exact h2
theorem Ev.succ {α : Type} {F : Nat → Option α} {r : α} (h : Ev (fun k => F (k + 1)) r) : Ev F r := by
  obtain ⟨K, h⟩ := h
  refine ⟨K + 1, fun k hk => ?_⟩
  obtain ⟨m, rfl⟩ : ∃ m, k = m + 1 := ⟨k - 1, by omega⟩
  exact h m (by omega)
theorem sameE_loop (l : List S33) (hl : l.length ≤ 1000000) (d : Nat) : ∀ i : Nat, i + d = l.length → Ev (fun k => unicodetextref42_SameElements.l0 k l l (i : Int)) true := by
  induction d with
  | zero =>
    intro i hi
    refine ⟨1, fun k hk => ?_⟩
    (try dsimp only)
    obtain ⟨k, rfl⟩ : ∃ m, k = m + 1 := ⟨k - 1, by omega⟩
    simp only [unicodetextref42_SameElements.l0]
    rw [if_neg (by omega)]
  | succ d ih =>
    intro i hi
    refine Ev.step (f := fun k => unicodetextref42_SameElements.l0 k l l ((i + 1 : Nat) : Int)) (fun k => ?_) (ih (i + 1) (by omega))
    simp only [unicodetextref42_SameElements.l0]
    rw [if_pos (by omega), if_pos (by omega), if_pos (by omega), if_neg (by simp), wrap_succ i (by omega)]
theorem sameE_ev (l : List S33) (hl : l.length ≤ 1000000) : Ev (fun k => unicodetextref42_SameElements.f k l l) true := by
  have := sameE_loop l hl l.length 0 (by omega)
  exact Ev.pos rfl this
section
variable (es : List S52) (gs : List S49) (a b c : Int)
theorem few_l1 (hg : gs.length ≤ 8) (d : Nat) : ∀ i : Nat, i + d = gs.length → Ev (fun k => unicodetextref42_Few.l1 k (i : Int) es gs a b c) ((gs.drop i).all fun g => decide (g.f0.size ≤ 40)) := by
  induction d with
  | zero =>
    intro i hi
    refine ⟨1, fun k hk => ?_⟩
    (try dsimp only)
    obtain ⟨k, rfl⟩ : ∃ m, k = m + 1 := ⟨k - 1, by omega⟩
    simp only [unicodetextref42_Few.l1]
    rw [if_neg (by omega), List.drop_of_length_le (by omega)]
    rfl
  | succ d ih =>
    intro i hi
    have hlt : i < gs.length := by omega
    have hd : gs.drop i = gs[i] :: gs.drop (i + 1) := List.drop_eq_getElem_cons hlt
    have h2 := ih (i + 1) (by omega)
    rw [hd, List.all_cons]
    by_cases h40 : gs[i].f0.size ≤ 40
    · rw [decide_eq_true h40, Bool.true_and]
      refine Ev.step (f := fun k => unicodetextref42_Few.l1 k ((i + 1 : Nat) : Int) es gs a b c) (fun k => ?_) h2
      simp only [unicodetextref42_Few.l1]
      rw [if_pos (by omega), if_pos (by omega), rdG_at gs i hlt, if_neg (by omega), wrap_succ i (by omega)]
    · rw [decide_eq_false h40, Bool.false_and]
      refine ⟨1, fun k hk => ?_⟩
      (try dsimp only)
      obtain ⟨k, rfl⟩ : ∃ m, k = m + 1 := ⟨k - 1, by omega⟩
      simp only [unicodetextref42_Few.l1]
      rw [if_pos (by omega), if_pos (by omega), rdG_at gs i hlt, if_pos (by omega)]
def fewX (x : S52) : Bool := decide (x.f0.length ≤ 16) && decide (x.f1.length ≤ 16)
theorem few_l0 (hl : es.length ≤ 12) (hg : gs.length ≤ 8) (d : Nat) : ∀ i : Nat, i + d = es.length → Ev (fun k => unicodetextref42_Few.l0 k (i : Int) es gs a b c) ((es.drop i).all fewX && gs.all fun g => decide (g.f0.size ≤ 40)) := by
  induction d with
  | zero =>
    intro i hi
    rw [List.drop_of_length_le (by omega), List.all_nil, Bool.true_and]
    refine Ev.step (f := fun k => unicodetextref42_Few.l1 k 0 es gs a b c) (fun k => ?_) (few_l1 es gs a b c hg gs.length 0 (by omega))
    simp only [unicodetextref42_Few.l0]
    rw [if_neg (by omega)]
  | succ d ih =>
    intro i hi
    have hlt : i < es.length := by omega
    have hd : es.drop i = es[i] :: es.drop (i + 1) := List.drop_eq_getElem_cons hlt
    have h2 := ih (i + 1) (by omega)
    rw [hd, List.all_cons]
    by_cases h0 : es[i].f0.length ≤ 16
    · by_cases h1 : es[i].f1.length ≤ 16
      · rw [show fewX es[i] = true by unfold fewX; rw [decide_eq_true h0, decide_eq_true h1]; rfl, Bool.true_and]
        refine Ev.step (f := fun k => unicodetextref42_Few.l0 k ((i + 1 : Nat) : Int) es gs a b c) (fun k => ?_) h2
        simp only [unicodetextref42_Few.l0, unicodetextref42_SmallElements.f]
        rw [if_pos (by omega), if_pos (by omega), rdX_at es i hlt, if_neg (by omega), Option.bind_some, if_pos (decide_eq_true (by omega)), wrap_succ i (by omega)]
      · rw [show fewX es[i] = false by unfold fewX; rw [decide_eq_false h1, Bool.and_false], Bool.false_and, Bool.false_and]
        refine ⟨1, fun k hk => ?_⟩
        (try dsimp only)
        obtain ⟨k, rfl⟩ : ∃ m, k = m + 1 := ⟨k - 1, by omega⟩
        simp only [unicodetextref42_Few.l0, unicodetextref42_SmallElements.f]
        rw [if_pos (by omega), if_pos (by omega), rdX_at es i hlt, if_neg (by omega), Option.bind_some, if_neg (by simp; omega)]
    · rw [show fewX es[i] = false by unfold fewX; rw [decide_eq_false h0, Bool.false_and], Bool.false_and, Bool.false_and]
      refine ⟨1, fun k hk => ?_⟩
      (try dsimp only)
      obtain ⟨k, rfl⟩ : ∃ m, k = m + 1 := ⟨k - 1, by omega⟩
      simp only [unicodetextref42_Few.l0]
      rw [if_pos (by omega), if_pos (by omega), rdX_at es i hlt, if_pos (by omega)]
theorem few_ev : Ev (fun k => unicodetextref42_Few.f k es gs a b c) (fewB es gs) := by
  unfold fewB
  by_cases hl : es.length ≤ 12
  · rw [decide_eq_true hl, Bool.true_and]
    refine Ev.neg (by omega) ?_
    by_cases hg : gs.length ≤ 8
    · rw [decide_eq_true hg, Bool.true_and, show decide ((gs.length : Int) > 8) = false from decide_eq_false (by omega)]
      refine Ev.step (f := fun k => unicodetextref42_Few.l0 k 0 es gs a b c) (fun k => ?_) (few_l0 es gs a b c hl hg es.length 0 (by omega))
      simp only [unicodetextref42_Few.j0]
      rw [if_neg (by decide)]
    · rw [decide_eq_false hg, Bool.false_and, Bool.false_and, show decide ((gs.length : Int) > 8) = true from decide_eq_true (by omega)]
      refine ⟨1, fun k hk => ?_⟩
      (try dsimp only)
      obtain ⟨k, rfl⟩ : ∃ m, k = m + 1 := ⟨k - 1, by omega⟩
      simp only [unicodetextref42_Few.j0]
      rw [if_pos trivial]
  · rw [decide_eq_false hl, Bool.false_and, Bool.false_and, Bool.false_and]
    refine Ev.pos (by omega) ?_
    refine ⟨1, fun k hk => ?_⟩
    (try dsimp only)
    obtain ⟨k, rfl⟩ : ∃ m, k = m + 1 := ⟨k - 1, by omega⟩
    simp only [unicodetextref42_Few.j0]
    rw [if_pos trivial]
end
end Go.Proofs.YtdaijpjjilmkkaaDoor.Pr

/- The example of the chapter (alive). -/
namespace Go.Proofs.YtdaijpjjilmkkaaDoor.Pr
open Go.RowKit Go.Proofs.YtdaijpjjilmkkaaDoorW.PrintWords Go.Proofs.YtdaijpjjilmkkaaDoorW.PrintLast Go.Proofs.YtdaijpjjilmkkaaDoorW.PrintMore
set_option linter.unusedVariables false
set_option linter.unusedSimpArgs false
theorem pfile_f (l : List UInt8) (h : l.length ≤ 9223372036854775807) : element_ParseFile.f (ofL l) = some (parseF l) := by
  unfold element_ParseFile.f
  rw [if_pos (by rw [ofL_size]; exact h), ofL_list]
theorem ftext_f (l0 : List S52) (l1 : List S49) (a b c : Int) (h : smallF l0 l1 a b c = true) : element_FileText.f l0 l1 a b c = some (if errF l0 l1 a b c = 0 then (ofL (fileT l0 l1 a b c), 0) else (ofL [], errF l0 l1 a b c)) := by
  unfold element_FileText.f
  rw [if_pos h]
def exE : S33 := ⟨16, 32, 2, false⟩
def exG : S49 := ⟨ofL [108, 97, 116, 105, 110], 16, 31⟩
theorem alive_ev : Ev (fun k => unicodetextlaw42_alive.f k) true := by
  have e0 : errE [exE] = 0 := by decide
  have e1 : [exE].flatMap elT = [91, 46, 48, 48, 49, 48, 46, 48, 48, 50, 48, 46, 48, 48, 48, 50, 93] := by kernel_rfl
  have h1 := text_ev [exE] (by decide)
  rw [if_pos e0, e1] at h1
  have p1 : parseF [64, 98, 97, 115, 101, 32, 49, 32, 50, 32, 51, 10, 64, 103, 114, 111, 117, 112, 32, 108, 97, 116, 105, 110, 32, 49, 54, 32, 51, 49, 32, 35, 32, 108, 101, 116, 116, 101, 114, 115, 10, 48, 48, 54, 49, 59, 32, 91, 46, 48, 48, 49, 48, 46, 48, 48, 50, 48, 46, 48, 48, 48, 50, 93, 10] = ([⟨[97], [exE]⟩], [exG], 1, 2, 3, 0, 0) := by kernel_rfl
  have p2 : parseF [64, 98, 97, 115, 101, 32, 49, 32, 50, 32, 51, 10, 48, 48, 54, 49, 59, 10] = bad 3 2 := by kernel_rfl
  have f1 : element_FileText.f [] [exG] 1 2 3 = some (ofL [64, 98, 97, 115, 101, 32, 49, 32, 50, 32, 51, 10, 64, 103, 114, 111, 117, 112, 32, 108, 97, 116, 105, 110, 32, 49, 54, 32, 51, 49, 10], 0) := by
    rw [ftext_f _ _ _ _ _ (by decide), if_pos (by decide)]
    have e : fileT [] [exG] 1 2 3 = [64, 98, 97, 115, 101, 32, 49, 32, 50, 32, 51, 10, 64, 103, 114, 111, 117, 112, 32, 108, 97, 116, 105, 110, 32, 49, 54, 32, 51, 49, 10] := by kernel_rfl
    rw [e]
  have hs := sameE_ev [exE] (by decide)
  refine Ev.bind h1 ?_
  refine Ev.got ((pfile_f _ (by decide)).trans (congrArg some p1)) ?_
  refine Ev.got ((pfile_f _ (by decide)).trans (congrArg some p2)) ?_
  refine Ev.got f1 ?_
  refine Ev.pos (ofL_toList _) (Ev.pos rfl (Ev.pos rfl (Ev.pos rfl (Ev.pos (by decide) ?_))))
  refine Ev.bind hs (Ev.pos rfl (Ev.pos rfl (Ev.pos rfl (Ev.pos (ofL_toList _) (Ev.now true)))))
theorem alive_tail : Ev (fun k => (unicodetextlaw42_alive.f k).bind fun t => some t) true := Ev.bind alive_ev (Ev.now true)
end Go.Proofs.YtdaijpjjilmkkaaDoor.Pr

/- A collation of int64s: what the laws of files ask of their argument. -/
namespace Go.Proofs.YtdaijpjjilmkkaaDoor.Pr
open Go.RowKit Go.Proofs.YtdaijpjjilmkkaaDoorW.PrintWords Go.Proofs.YtdaijpjjilmkkaaDoorW.PrintLast Go.Proofs.YtdaijpjjilmkkaaDoorW.PrintMore
set_option linter.unusedVariables false
set_option linter.unusedSimpArgs false
def intsF (l1 : List S49) (a b c : Int) : Prop := (∀ g ∈ l1, i64B g.f1 = true ∧ i64B g.f2 = true) ∧ i64B a = true ∧ i64B b = true ∧ i64B c = true
theorem small_few {l0 : List S52} {l1 : List S49} {a b c : Int} (h : fewB l0 l1 = true) (hi : intsF l1 a b c) : smallF l0 l1 a b c = true := few_small h hi.1 hi.2.1 hi.2.2.1 hi.2.2.2
end Go.Proofs.YtdaijpjjilmkkaaDoor.Pr

/- ElementOrders: the pure statement. -/
namespace Go.Proofs.YtdaijpjjilmkkaaDoor.Pr
open Go.RowKit Go.Proofs.YtdaijpjjilmkkaaDoorW.PrintWords Go.Proofs.YtdaijpjjilmkkaaDoorW.PrintLast Go.Proofs.YtdaijpjjilmkkaaDoorW.PrintMore
set_option linter.unusedVariables false
set_option linter.unusedSimpArgs false
theorem ElementOrders_ev (l0 : List S52) (l1 : List S49) (a b c : Int) (hi : intsF l1 a b c) : Ev (fun k => unicodetextlaw42_ElementOrders.f k l0 l1 a b c) true := by
  refine Ev.bind (few_ev l0 l1 a b c) ?_
  by_cases hf : fewB l0 l1 = true
  · refine Ev.pos hf ?_
    have hsm := small_few hf hi
    obtain ⟨hl0, hl1, -, -⟩ := few_parts hf
    by_cases he : errF l0 l1 a b c = 0
    · have ho := okF_of he hsm
      have hl := few_len hf ho
      have hw1 : wrap64 (wrap64 (wrap64 (1 + (l1.length : Int)) + (l0.length : Int)) + 1) = ((1 + l1.length + l0.length : Nat) : Int) + 1 := by unfold wrap64; omega
      have hw2 : wrap64 (wrap64 (wrap64 (1 + (l1.length : Int)) + (l0.length : Int)) + 2) = ((1 + l1.length + l0.length : Nat) : Int) + 2 := by unfold wrap64; omega
      have hw3 : ((l0 ++ [x2]).length : Int) = wrap64 ((l0.length : Int) + 1) := by rw [List.length_append]; unfold wrap64; simp [x2]; omega
      have hz : (ofL (fileT l0 l1 a b c)).size ≤ 10000 := by rw [ofL_size]; exact hl
      refine Ev.got ((ftext_f l0 l1 a b c hsm).trans (congrArg some (if_pos he))) (Ev.pos rfl (Ev.pos (by dsimp only; omega) ?_))
      have g : ∀ more : List UInt8, more.length ≤ 100 → element_ParseFile.f (ofL (fileT l0 l1 a b c) ++ ofL more) = some (parseF (fileT l0 l1 a b c ++ more)) := fun more hm => by rw [ofL_append]; exact pfile_f _ (by rw [List.length_append]; omega)
      refine Ev.got ((g (linesT [w1]) (by decide)).trans (congrArg some (order_a ho hl))) (Ev.pos (by dsimp only; omega) ?_)
      refine Ev.got ((g (linesT [w2, w3]) (by decide)).trans (congrArg some (order_b ho hl))) (Ev.pos (by dsimp only; omega) ?_)
      refine Ev.got ((g (linesT [w2]) (by decide)).trans (congrArg some (order_c ho hl))) ?_
      refine Ev.pos ?_ (Ev.pos ?_ (Ev.pos rfl (Ev.pos hw3 alive_tail)))
      · rw [hw1]
        simp [bad]
      · rw [hw2]
        simp [bad]
    · exact Ev.got ((ftext_f l0 l1 a b c hsm).trans (congrArg some (if_neg he))) (Ev.neg he alive_tail)
  · exact Ev.neg hf alive_tail
theorem ElementOrders_pure (l0 : List S52) (l1 : List S49) (a b c : Int) (hi : intsF l1 a b c) : ∃ k, unicodetextlaw42_ElementOrders.f k l0 l1 a b c = some true := by
  obtain ⟨K, h⟩ := ElementOrders_ev l0 l1 a b c hi
  exact ⟨K, h K (Nat.le_refl _)⟩
end Go.Proofs.YtdaijpjjilmkkaaDoor.Pr
