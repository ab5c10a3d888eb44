/- A loop over an iterator that writes one variable of its own between two rounds; lines.each is one: it yields the lines of a text with their numbers. -/
import Derived.RangeFuncBox
import Derived.RangeFuncNested
import Derived.RangeFuncBound
import Derived.RangeFuncCalls
import Derived.RangeFuncLeaves
import Derived.Shelf.Abstract
import Derived.WalkKit
import Derived.OwnWalkIn
import Derived.TacticsInMore
import Derived.LoopNIn
import Derived.LoopIn
import Derived.Lib.Hide
import Derived.Test.YtljhhnpgpiglfaaDoorHTrim
import Derived.Test.YtljhhnpgpiglfaaDoorHGlob
import Derived.Test.YtljhhnpgpiglfaaDoorPrx0
namespace Go.Proofs.YtljhhnpgpiglfaaDoor.Pr
open Go.RowKit Go.Shelf Go.Proofs.YtljhhnpgpiglfaaDoorW.PrintWords Go.Proofs.YtljhhnpgpiglfaaDoorW.PrintLast Go.Proofs.YtljhhnpgpiglfaaDoorW.PrintMore
set_option linter.unusedVariables false
set_option linter.unusedSimpArgs false

/-! ### the loop -/
section
variable {F : Fence} {n : Nat} {P : Program}

/-- What is said of the world does not speak of block g. -/
def Blind {β : Type} (g : Nat) (J : β → World → Prop) : Prop :=
  ∀ s W W' row, J s W → W.grownBy W' row → (∀ r, row = some r → r = g) → J s W'
/-- .. nor of blocks beyond B that hold no cells. -/
def BlindFrom {β : Type} (B g : Nat) (I : β → World → Prop) : Prop :=
  ∀ s W W' row, I s W → W.grownBy W' row → (∀ r, row = some r → r = g ∨ (B ≤ r ∧ ∃ o : Obj, W.heap[r]? = some o ∧ o.isCells = false)) → I s W'
theorem BlindFrom.putObj {β : Type} {B g : Nat} {I : β → World → Prop} (h : BlindFrom B g I) {s : β} {W : World} {l : Nat} {o : Obj} (o' : Obj) (hs : I s W) (hB : B ≤ l) (hl : W.heap[l]? = some o) (ho : o.isCells = false) : I s (W.putObj l o') :=
  h s W _ (some l) hs (grownBy_putObj' W l o') (fun r e => by cases e; exact .inr ⟨hB, o, hl, ho⟩)
theorem BlindFrom.alloc {β : Type} {B g : Nat} {I : β → World → Prop} (h : BlindFrom B g I) {s : β} {W : World} (o : Obj) (hs : I s W) : I s (W.alloc o) :=
  h s W _ none hs (World.grownBy_alloc W o none) (fun r e => by cases e)
theorem BlindFrom.and {β : Type} {B g : Nat} {I I' : β → World → Prop} (h : BlindFrom B g I) (h' : BlindFrom B g I') : BlindFrom B g (fun s W => I s W ∧ I' s W) :=
  fun s W W' row hs hg hr => ⟨h s W W' row hs.1 hg hr, h' s W W' row hs.2 hg hr⟩

/-- What a round that goes on keeps: what lies below n₀, and the iterator's variable. -/
def KeepBox (n₀ g : Nat) (W W' : World) : Prop := Below n₀ W W' ∧ W'.heap[g]? = W.heap[g]?
theorem KeepBox.trans {n₀ g : Nat} {A B C : World} (h : KeepBox n₀ g A B) (k : KeepBox n₀ g B C) : KeepBox n₀ g A C := ⟨h.1.trans k.1, k.2.trans h.2⟩

/-- The promise of an iterator whose variable lies in block g and holds v0 at the start. -/
def SeqBox {α : Type} (F : Fence) (n : Nat) (P : Program) (gf : Nat) (lb : Array Value) (encs : α → Array Value) (n₀ g : Nat) (t : TypeId) (v0 : Value) (X : α → Prop) (S Sp : List α → Prop) (N : Nat) (w0 : World) : Prop :=
  ∀ (l : Nat) (J Jx : List α → World → Prop) (W : World), Boxed W g t v0 → Below n₀ w0 W → n₀ ≤ W.heap.size → Blind g J → Blind g Jx →
    (∀ pre x W1, X x → J pre W1 → pre.length < N → YieldAt F (n - 1) P l (encs x) W1 fun e W' =>
      (e = .returned (.bool true) ∧ J (pre ++ [x]) W' ∧ KeepBox n₀ g W1 W') ∨ (e = .returned (.bool false) ∧ Jx (pre ++ [x]) W')) →
    J [] W →
    CallsIn F n P gf (#[.func (.yield l) #[] #[]] ++ lb) W fun e W' => (∃ v, e = .returned v) ∧ ((∃ xs, S xs ∧ J xs W') ∨ (∃ pre, Sp pre ∧ Jx pre W'))

def boxPost {α : Type} (n₀ g : Nat) (I : List α → World → Prop) (Ix : Code → List α → World → Prop) (xs : List α) (W : World) : Exit → Act → World → Prop
  | .normal, _, W' => KeepsOthers W W' ∧ KeepBox n₀ g W W' ∧ I xs W'
  | .ret, _, W' => KeepsOthers W W' ∧ Ix .ret xs W'
  | .exit id, _, W' => KeepsOthers W W' ∧ Ix (.exit id) xs W'
  | .goto t, _, W' => KeepsOthers W W' ∧ Ix (.goto t) xs W'
  | .panic _, _, _ => False
  | .outgrown, _, _ => False

theorem KeepBox.putObj {n₀ g : Nat} {W : World} {l : Nat} {o : Obj} (o' : Obj) (hl : W.heap[l]? = some o) (h0 : n₀ ≤ l) (hg : g < l) : KeepBox n₀ g W (W.putObj l o') :=
  ⟨(Below.refl _ _).grown (grownBy_putObj' W l o') (by have := (Array.getElem?_eq_some_iff.1 hl).1; omega) (fun k e => by cases e; exact h0), World.putObj_heap_other (by omega)⟩

theorem wpIn_rangeFunc_box {α : Type} {gx : Operand} {ps : Array Tmp} {assign body : Code} {Q : Exit → Act → World → Prop} {a : Act} {w : World}
    (hro : F.round = none) (h1 : 1 ≤ n) {gf : Nat} {lb : Array Value} (hg : a.eval gx = .func (.func gf) #[] lb) (hFg : F.fn gf) (eg : ∀ args w, (callFunc gf args).run P w = .ok (.enter gf args) w)
    {encs : α → Array Value} {n₀ g : Nat} {t : TypeId} {v0 : Value} {X : α → Prop} {S Sp : List α → Prop} {N : Nat} {w0 : World} (hseq : SeqBox F (n - 1) P gf lb encs n₀ g t v0 X S Sp N w0)
    (hbox : Boxed w g t v0) (hb0 : Below n₀ w0 w) (hn₀ : n₀ ≤ w.heap.size) (hps : ∀ x, (encs x).size = ps.size)
    (I : List α → World → Prop) (Ix : Code → List α → World → Prop) (hI : BlindFrom w.heap.size g I) (hIx : ∀ c, BlindFrom w.heap.size g (Ix c)) (h0 : I [] w) (a₁ : α → Act)
    (hassign : ∀ (l : Nat) (x : α) (W : World) (K : Act → World → Prop), K (a₁ x) W →
      assign.wpIn (F.inRound l) (n - 1 - 1) P (Exit.then K (fun _ _ _ => False)) { tmps := (ps.zip (encs x)).foldl (fun t (p, v) => t.setIfInBounds p v) a.tmps, defers := [] } W)
    (hbody : ∀ (l : Nat) (pre : List α) (x : α) (W : World), X x → I pre W → pre.length < N → body.wpIn (F.inRound l) (n - 1 - 1) P (boxPost n₀ g I Ix (pre ++ [x]) W) (a₁ x) W)
    (hdone : ∀ (D : Nat) (xs : List α) (W : World), w.heap.size ≤ D → S xs → I xs W → W.heap[D]? = some (.deferred (some [])) → Q .normal { a with defers := { target := .collected D, args := #[] } :: a.defers } W)
    (hstop : ∀ (D : Nat) (c : Code) (pre : List α) (W : World), w.heap.size ≤ D → Sp pre → Ix c pre W → W.heap[D]? = some (.deferred (some [])) → c.wpIn F n P Q { a with defers := { target := .collected D, args := #[] } :: a.defers } W) :
    (Code.rangeFunc gx ps assign body).wpIn F n P Q a w := by
  have hgl : g < w.heap.size := hbox.lt
  refine wpIn_rangeFunc fun fn hfn => ?_
  rw [hro]
  obtain ⟨rec, hrec⟩ : ∃ rec : LoopState → Option Code → Loop, rec = fun st pe => { state := st, pending := pe, fn, tmps := a.tmps, params := ps, assign, body, defers := w.heap.size } := ⟨_, rfl⟩
  obtain ⟨W1, hW1⟩ : ∃ W1, (w.alloc (.deferred (some []))).alloc (.loop (rec .ready none)) = W1 := ⟨_, rfl⟩
  have hL1 : W1.heap[w.heap.size + 1]? = some (.loop (rec .ready none)) := by
    rw [← hW1]; have := World.alloc_heap_new (w.alloc (.deferred (some []))) (.loop (rec .ready none)); rwa [World.size_alloc] at this
  have hK1 : W1.heap[w.heap.size]? = some (.deferred (some [])) := by
    rw [← hW1]; exact (Below.heap_alloc _ _ _ (by simp)).trans (World.alloc_heap_new w _)
  have hI1 : I [] W1 := by rw [← hW1]; exact hI.alloc _ (hI.alloc _ h0)
  have hx1 : Boxed W1 g t v0 := by rw [← hW1]; exact (hbox.alloc _).alloc _
  have hz1 : W1.heap.size = w.heap.size + 1 + 1 := by rw [← hW1]; simp
  have hb1 : Below n₀ w0 W1 := by
    rw [← hW1]; exact hb0.trans (((Below.refl _ w).alloc hn₀ _).alloc (by simp; omega) _)
  refine ⟨w.heap.size + 1, [{ target := .collected w.heap.size, args := #[] }], W1, { target := .fn (.func gf) lb, args := #[.func (.yield (w.heap.size + 1)) #[] #[]] }, W1, gf,
    #[.func (.yield (w.heap.size + 1)) #[] #[]] ++ lb, W1, ?_, ?_, ?_, ?_, fun _ => h1, ?_⟩
  · rw [← hW1, hrec]; exact run_enterLoop_outer _ _ _ _ _
  · simp only [resolve, hg]
    simp [go_sem]
  · intro f' hf'; simp [Target.leads] at hf'; subst hf'; exact hFg
  · simp [invoke, go_sem, eg]
  · have away : ∀ {A B : World} {row : Option Nat} {k : Nat} {o : Obj}, A.grownBy B row → (∀ r, row = some r → r = g) → g < k → A.heap[k]? = some o → B.heap[k]? = some o :=
      fun hg' hr hk ho => (hg'.block _ (Array.getElem?_eq_some_iff.1 ho).1 (fun e => by have := hr _ e.symm; omega)).trans ho
    refine (hseq (w.heap.size + 1)
      (fun pre W => I pre W ∧ W.heap[w.heap.size + 1]? = some (.loop (rec .ready none)) ∧ W.heap[w.heap.size]? = some (.deferred (some [])))
      (fun pre W => ∃ c, Ix c pre W ∧ W.heap[w.heap.size + 1]? = some (.loop (rec .done (some c))) ∧ W.heap[w.heap.size]? = some (.deferred (some [])))
      W1 hx1 hb1 (by omega)
      (fun s A B row hs hg' hr => ⟨hI s A B row hs.1 hg' (fun r e => .inl (hr r e)), away hg' hr (by omega) hs.2.1, away hg' hr hgl hs.2.2⟩)
      (fun s A B row hs hg' hr => by
        obtain ⟨c, hc, hl, hk⟩ := hs
        exact ⟨c, hIx c s A B row hc hg' (fun r e => .inl (hr r e)), away hg' hr (by omega) hl, away hg' hr hgl hk⟩)
      ?_ ⟨hI1, hL1, hK1⟩).mono ?_
    · rintro pre x W hX ⟨hi, hl, hk⟩ hlen
      have hlt : w.heap.size + 1 < W.heap.size := (Array.getElem?_eq_some_iff.1 hl).1
      have hy := run_yield (P := P) (args := encs x) hl (by rw [hrec]; exact hps x)
      rw [hrec] at hy
      refine ⟨fn, _, assign, body, hy, roundIn_of_wpIn hfn (hassign _ x W _ ⟨_, run_beginRound hl (by rw [hrec]), ?_⟩)⟩
      obtain ⟨Wb, hWb⟩ : ∃ Wb, W.putObj (w.heap.size + 1) (.loop { rec .ready none with state := .busy }) = Wb := ⟨_, rfl⟩
      have hl2 : Wb.heap[w.heap.size + 1]? = some (.loop { rec .ready none with state := .busy }) := by rw [← hWb]; exact World.putObj_heap_same hlt
      have hk2 : Wb.heap[w.heap.size]? = some (.deferred (some [])) := by rw [← hWb]; exact (World.putObj_heap_other (by omega)).trans hk
      have hw2 : KeepBox n₀ g W Wb := by rw [← hWb]; exact KeepBox.putObj _ hl (by omega) (by omega)
      have hi2 : I pre Wb := by rw [← hWb]; exact hI.putObj _ hi (by omega) hl rfl
      rw [hWb]
      refine wpIn_mono (hbody _ pre x Wb hX hi2 hlen) ?_
      have fin : ∀ (jump : Option Code) (W3 : World), KeepsOthers Wb W3 →
          (Instr.endRound (w.heap.size + 1) jump).run P W3 = .ok (.bool jump.isNone) (W3.putObj (w.heap.size + 1) (.loop (rec (if jump.isNone then .ready else .done) jump))) ∧
          W3.heap[w.heap.size + 1]? = some (.loop { rec .ready none with state := .busy }) ∧
          (W3.putObj (w.heap.size + 1) (.loop (rec (if jump.isNone then .ready else .done) jump))).heap[w.heap.size + 1]? = some (.loop (rec (if jump.isNone then .ready else .done) jump)) ∧
          (W3.putObj (w.heap.size + 1) (.loop (rec (if jump.isNone then .ready else .done) jump))).heap[w.heap.size]? = some (.deferred (some [])) := fun jump W3 hk3 => by
        have hl3 := hk3.same _ _ hl2 rfl
        have he := run_endRound (P := P) jump hl3
        rw [hrec] at he ⊢
        exact ⟨he, by rw [hrec] at hl3; exact hl3, World.putObj_heap_same (Array.getElem?_eq_some_iff.1 hl3).1, (World.putObj_heap_other (by omega)).trans (hk3.same _ _ hk2 rfl)⟩
      rintro e a3 W3 hp
      cases e with
      | normal =>
        obtain ⟨hk3, hkp3, hi3⟩ := hp
        obtain ⟨hr, hl3, hl4, hk4⟩ := fin none W3 hk3
        exact ⟨_, _, hr, .inl ⟨rfl, ⟨hI.putObj _ hi3 (by omega) hl3 rfl, hl4, hk4⟩, (hw2.trans hkp3).trans (KeepBox.putObj _ hl3 (by omega) (by omega))⟩⟩
      | ret =>
        obtain ⟨hr, hl3, hl4, hk4⟩ := fin (some .ret) W3 hp.1
        exact ⟨_, _, hr, .inr ⟨rfl, .ret, (hIx _).putObj _ hp.2 (by omega) hl3 rfl, hl4, hk4⟩⟩
      | exit id =>
        obtain ⟨hr, hl3, hl4, hk4⟩ := fin (some (.exit id)) W3 hp.1
        exact ⟨_, _, hr, .inr ⟨rfl, .exit id, (hIx _).putObj _ hp.2 (by omega) hl3 rfl, hl4, hk4⟩⟩
      | goto t =>
        obtain ⟨hr, hl3, hl4, hk4⟩ := fin (some (.goto t)) W3 hp.1
        exact ⟨_, _, hr, .inr ⟨rfl, .goto t, (hIx _).putObj _ hp.2 (by omega) hl3 rfl, hl4, hk4⟩⟩
      | panic ch => exact hp.elim
      | outgrown => exact hp.elim
    · rintro e W2 ⟨⟨v, rfl⟩, (⟨xs, hS, hi, hl, hk⟩ | ⟨pre, hSp, c, hi, hl, hk⟩)⟩
      · exact ⟨none, _, by have := run_endLoop (P := P) hl (by rw [hrec]; simp); rw [hrec] at this; exact this, hdone _ xs _ (Nat.le_refl _) hS (hI.putObj _ hi (by omega) hl rfl) ((World.putObj_heap_other (by omega)).trans hk)⟩
      · exact ⟨some c, _, by have := run_endLoop (P := P) hl (by rw [hrec]; simp); rw [hrec] at this; exact this, hstop _ c pre _ (Nat.le_refl _) hSp ((hIx c).putObj _ hi (by omega) hl rfl) ((World.putObj_heap_other (by omega)).trans hk)⟩
end

end Go.Proofs.YtljhhnpgpiglfaaDoor.Pr

/- lines.each yields the lines of a text with their numbers. -/
namespace Go.Proofs.YtljhhnpgpiglfaaDoor.Pr
open Go.RowKit Go.Shelf Go.Proofs.YtljhhnpgpiglfaaDoorW.PrintWords Go.Proofs.YtljhhnpgpiglfaaDoorW.PrintLast Go.Proofs.YtljhhnpgpiglfaaDoorW.PrintMore
set_option linter.unusedVariables false
set_option linter.unusedSimpArgs false

/-- A text cut at each byte c. -/
def cutAt (c : UInt8) : List UInt8 → List (List UInt8)
  | [] => [[]]
  | b :: t => if b = c then [] :: cutAt c t else match cutAt c t with
    | [] => [[b]]
    | p :: r => (b :: p) :: r
theorem cutAt_ne (c : UInt8) (l : List UInt8) : cutAt c l ≠ [] := by
  cases l with
  | nil => simp [cutAt]
  | cons b t =>
    unfold cutAt
    split
    · simp
    · split <;> simp
def numL : Nat → List (List UInt8) → List (Nat × List UInt8)
  | _, [] => []
  | n, p :: r => (n, p) :: numL (n + 1) r
theorem numL_length : ∀ (n : Nat) (ps : List (List UInt8)), (numL n ps).length = ps.length
  | _, [] => rfl
  | n, p :: r => by simp [numL, numL_length (n + 1) r]
theorem cutAt_len (c : UInt8) (l : List UInt8) : (cutAt c l).length ≤ l.length + 1 := by
  induction l with
  | nil => simp [cutAt]
  | cons b t ih =>
    unfold cutAt
    split
    · simp; exact ih
    · split
      · simp
      · next p r h => rw [h] at ih; simp at ih ⊢; omega

theorem cut_cases (c : UInt8) : ∀ l : List UInt8, (Lib.index l [c] = -1 ∧ cutAt c l = [l]) ∨ ∃ j : Nat, Lib.index l [c] = j ∧ j < l.length ∧ cutAt c l = l.take j :: cutAt c (l.drop (j + 1))
  | [] => Or.inl ⟨by simp [Lib.index], rfl⟩
  | b :: t => by
    by_cases h : b = c
    · subst h
      right
      refine ⟨0, by rw [Lib.index]; simp [List.isPrefixOf], by simp, by simp [cutAt]⟩
    · have hp : ([c] : List UInt8).isPrefixOf (b :: t) = false := by simp [List.isPrefixOf, Ne.symm h]
      have hix : Lib.index (b :: t) [c] = if Lib.index t [c] == -1 then -1 else Lib.index t [c] + 1 := by rw [Lib.index, hp]; simp
      rcases cut_cases c t with ⟨h1, h2⟩ | ⟨j, h1, h2, h3⟩
      · left
        refine ⟨by rw [hix, h1]; rfl, by rw [cutAt, if_neg h, h2]⟩
      · right
        refine ⟨j + 1, by rw [hix, h1, if_neg (by simp)]; omega, by simp; omega, ?_⟩
        rw [cutAt, if_neg h, h3]
        simp

theorem cut_one (c : UInt8) (l : List UInt8) : (Lib.cut l [c] = (l, [], false) ∧ cutAt c l = [l]) ∨ ∃ a b, Lib.cut l [c] = (a, b, true) ∧ (b.length < l.length ∧ a.length ≤ l.length) ∧ cutAt c l = a :: cutAt c b := by
  unfold Lib.cut
  rcases cut_cases c l with ⟨h1, h2⟩ | ⟨j, h1, h2, h3⟩
  · left
    rw [h1, if_neg (by decide)]
    exact ⟨rfl, h2⟩
  · right
    rw [h1, if_pos (by omega)]
    exact ⟨_, _, rfl, ⟨by simp; omega, by rw [List.length_take]; omega⟩, h3⟩

theorem grown_none {w w1 : World} (h : Below w.heap.size w w1) : w.grownBy w1 none := ⟨h.os, h.tape, h.output, h.size, fun i hi _ => h.block i hi⟩

theorem cut_call (l : List UInt8) (c : UInt8) (h : l.length ≤ 65536) : strings_Cut.f (⟨l.toArray⟩ : ByteArray) (⟨#[c]⟩ : ByteArray) = some (⟨(Lib.cut l [c]).1.toArray⟩, ⟨(Lib.cut l [c]).2.1.toArray⟩, (Lib.cut l [c]).2.2) := by
  unfold strings_Cut.f
  have hs : (⟨l.toArray⟩ : ByteArray).size = l.length := rfl
  have e1 : (⟨l.toArray⟩ : ByteArray).data.toList = l := by simp
  have e2 : (⟨#[c]⟩ : ByteArray).data.toList = [c] := rfl
  rw [if_pos (by rw [hs]; omega), e1, e2]

/-- The element at place k, and what comes behind it. -/
theorem drop_num {xs : List (Nat × List UInt8)} {k n : Nat} {p : List UInt8} {r : List (List UInt8)} (h : numL n (p :: r) = xs.drop k) : k < xs.length ∧ xs.take (k + 1) = xs.take k ++ [(n, p)] ∧ numL (n + 1) r = xs.drop (k + 1) := by
  have hlt : k < xs.length := by
    have := congrArg List.length h
    simp [numL] at this
    omega
  rw [List.drop_eq_getElem_cons hlt] at h
  simp only [numL, List.cons.injEq] at h
  exact ⟨hlt, by rw [List.take_succ_eq_append_getElem hlt, ← h.1], h.2⟩

set_option maxRecDepth 100000 in
set_option maxHeartbeats 8000000 in
theorem each_in (n l g n₀ : Nat) (hn : 1 ≤ n) (s : List UInt8) (hs : s.length ≤ 65536) (w0 : World) (hG : GW w0) (hG0 : 0 < n₀) (hng : n₀ ≤ g) (J Jx : List (Nat × List UInt8) → World → Prop) (W : World)
    (hbox : Boxed W g 9 (.string ⟨s.toArray⟩)) (hb0 : Below n₀ w0 W) (hn₀ : n₀ ≤ W.heap.size) (hJ : Blind g J)
    (hY : ∀ pre x W1, (x.2.length ≤ 65536 ∧ x.1 ≤ 65537) → J pre W1 → pre.length < (numL 1 (cutAt 10 s)).length → YieldAt Fence.wide (n - 1) Tryd.prog l #[.int .i64 (x.1 : Int), .string ⟨x.2.toArray⟩] W1 fun e W' =>
      (e = .returned (.bool true) ∧ J (pre ++ [x]) W' ∧ KeepBox n₀ g W1 W') ∨ (e = .returned (.bool false) ∧ Jx (pre ++ [x]) W'))
    (h0 : J [] W) :
    CallsIn Fence.wide n Tryd.prog 40 #[.func (.yield l) #[] #[], .pointer (some ⟨g, 0, none⟩)] W fun e W' => (∃ v, e = .returned v) ∧
      ((∃ ys, ys = numL 1 (cutAt 10 s) ∧ J ys W') ∨ (∃ pre, pre <+: numL 1 (cutAt 10 s) ∧ Jx pre W')) := by
  obtain ⟨xs, hxs⟩ : ∃ xs, numL 1 (cutAt 10 s) = xs := ⟨_, rfl⟩
  have hlen : xs.length ≤ 65537 := by rw [← hxs, numL_length]; have := cutAt_len 10 s; omega
  rw [hxs] at hY ⊢
  have HX := Lib.hid hxs
  clear hxs
  have HG := Lib.hid hG
  clear hG
  refine callsIn_of_wp Tryd.func40 rfl trivial ?_ rfl
  simp only [Tryd.ntmps40, List.size_toArray, List.length_cons, List.length_nil, Nat.reduceAdd, Nat.reduceSub, Array.replicate_succ, Array.replicate_zero, List.push_toArray, List.append_toArray, List.nil_append, List.cons_append]
  gi_wp2
  gi_loopw [3] (fun v wr => ∃ (k : Nat) (sk : List UInt8), v = .int .i64 ((k : Int) + 1) ∧ sk.length ≤ 65536 ∧ Hid (numL (k + 1) (cutAt 10 sk) = xs.drop k) ∧ J (xs.take k) wr ∧ Boxed wr g 9 (.string ⟨sk.toArray⟩) ∧ Below n₀ w0 wr ∧ n₀ ≤ wr.heap.size) (fun v _ => xs.length + 1 - (intOf v).toNat)
  case atStart => exact ⟨0, s, rfl, hs, Lib.hid (by rw [HX.out]; rfl), h0, hbox, hb0, hn₀⟩
  case round =>
    obtain ⟨k, sk, rfl, hsk, HN, hJs, hbx, hbl, hnz⟩ := hrel
    have hcut := cut_call sk 10 hsk
    have hGr : GW wr := by
      obtain ⟨m, hm⟩ := HG.out
      exact ⟨m, (hbl.cell (p := ⟨0, 0, none⟩) hG0).trans hm⟩
    have hcl := hbx.cell
    rcases cut_one 10 sk with ⟨hc1, hc2⟩ | ⟨a, b, hc1, hc3, hc2⟩
    · rw [hc1] at hcut
      have hN := HN.out
      rw [hc2] at hN
      obtain ⟨hlt, htk, hdr⟩ := drop_num hN
      have hk1 : k + 1 = xs.length := by
        have := congrArg List.length hdr
        simp [numL] at this
        omega
      have HT := Lib.hid htk
      have HK := Lib.hid hk1
      clear hc1 hc2 hN htk hdr hk1
      gi_wp2_with (refine ⟨trivial, ?_⟩; gi_at_call 22; refine (callsIn_wide.2 (strings_Cut.calls _ _ _ _ _ _ hcut hGr)).mono ?_)
      rintro e W1 rfl hb1
      have hJ1 : J (xs.take k) W1 := hJ _ wr W1 none hJs (grown_none hb1) (by simp)
      obtain ⟨fn, tmps, assign, body, hy, hR⟩ := hY (xs.take k) (k + 1, sk) W1 ⟨hsk, by show k + 1 ≤ 65537; omega⟩ hJ1 (by rw [List.length_take]; omega)
      dsimp only at hy
      rw [show ((k + 1 : Nat) : Int) = (k : Int) + 1 by omega] at hy
      gi_wp2
      refine hR.mono ?_
      rintro e W3 (⟨rfl, hJ3, hk3⟩ | ⟨rfl, hJx3⟩)
      · gi_wp2
        refine bodyPost_ret (results_none rfl _ _ _) rfl ?_
        exact ⟨⟨_, rfl⟩, .inl ⟨_, rfl, by rw [← HT.out, HK.out, List.take_length] at hJ3; exact hJ3⟩⟩
      · gi_wp2
        refine bodyPost_ret (results_none rfl _ _ _) rfl ?_
        exact ⟨⟨_, rfl⟩, .inr ⟨_, by rw [← HT.out]; exact List.take_prefix _ _, hJx3⟩⟩
    · rw [hc1] at hcut
      have hN := HN.out
      rw [hc2] at hN
      obtain ⟨hlt, htk, hdr⟩ := drop_num hN
      have HT := Lib.hid htk
      have HD := Lib.hid hdr
      clear hc1 hc2 hN htk hdr
      gi_wp2_with (refine ⟨trivial, ?_⟩; gi_at_call 22; refine (callsIn_wide.2 (strings_Cut.calls _ _ _ _ _ _ hcut hGr)).mono ?_)
      rintro e W1 rfl hb1
      have hJ1 : J (xs.take k) W1 := hJ _ wr W1 none hJs (grown_none hb1) (by simp)
      have hbx1 : Boxed W1 g 9 (.string ⟨sk.toArray⟩) := (hb1.block g hbx.lt).trans hbx
      have hbl1 : Below n₀ w0 W1 := hbl.trans (hb1.mono hnz)
      obtain ⟨fn, tmps, assign, body, hy, hR⟩ := hY (xs.take k) (k + 1, a) W1 ⟨Nat.le_trans hc3.2 hsk, by show k + 1 ≤ 65537; omega⟩ hJ1 (by rw [List.length_take]; omega)
      dsimp only at hy
      rw [show ((k + 1 : Nat) : Int) = (k : Int) + 1 by omega] at hy
      gi_wp2
      refine hR.mono ?_
      rintro e W3 (⟨rfl, hJ3, hk3⟩ | ⟨rfl, hJx3⟩)
      · have hbx3 : Boxed W3 g 9 (.string ⟨sk.toArray⟩) := hk3.2.trans hbx1
        have hcl3 := hbx3.cell
        have hfz3 := hbx3.frozen
        gi_wp2
        go_roundw
        case rel =>
          refine ⟨k + 1, b, ?_, by omega, HD, ?_, hbx3.set _, ?_, ?_⟩
          · first | rfl | (simp; done) | (simp [wrap64]; omega)
          · rw [HT.out]; exact hJ _ W3 _ (some g) hJ3 (grownBy_setCell' W3 g _) (by rintro r e; cases e; rfl)
          · exact (hbl1.trans hk3.1).grown (grownBy_setCell' W3 g _) (by have := hk3.1.size; have := hb1.size; omega) (fun j e => by cases e; exact hng)
          · simp; have := hk3.1.size; have := hb1.size; omega
        case measure => simp [intOf]; omega
      · gi_wp2
        refine bodyPost_ret (results_none rfl _ _ _) rfl ?_
        exact ⟨⟨_, rfl⟩, .inr ⟨_, by rw [← HT.out]; exact List.take_prefix _ _, hJx3⟩⟩

end Go.Proofs.YtljhhnpgpiglfaaDoor.Pr
