/- Texts of the claim ElementFileBack, joined: ELawR, ERef, EAlive, EInts, PElementFileBack. -/
import Derived.Test.YtdaijpjjilmkkaaDoorZElementFileBack26
import Derived.Lib.ItoaLen
import Derived.Test.YtdaijpjjilmkkaaDoorZElementFileBack23
import Derived.Test.YtdaijpjjilmkkaaDoorZElementFileBack22
import Derived.Test.YtdaijpjjilmkkaaDoorZElementFileBack31
import Derived.Test.YtdaijpjjilmkkaaDoorZElementFileBack30
import Derived.Test.YtdaijpjjilmkkaaDoorZElementFileBack28
import Derived.Test.YtdaijpjjilmkkaaDoorZElementFileBack29
import Derived.Test.YtdaijpjjilmkkaaDoorZElementFileBack32
/- Plain laws of collations: what ParseFile has read can be written, and is read again; lines out of order; sizes. -/
namespace Go.Proofs.YtdaijpjjilmkkaaDoor.Pr
open Go.RowKit Go.Proofs.YtdaijpjjilmkkaaDoorW.PrintWords Go.Proofs.YtdaijpjjilmkkaaDoorW.PrintLast Go.Proofs.YtdaijpjjilmkkaaDoorW.PrintMore
set_option linter.unusedVariables false
set_option linter.unusedSimpArgs false
theorem cut_some {l sep a b : List UInt8} (h : Lib.cut l sep = (a, b, true)) : l = a ++ (sep ++ b) := by
  unfold Lib.cut at h
  rcases Lib.index_spec l sep with ⟨h1, -⟩ | ⟨i, h1, h2, h3, -⟩
  · rw [h1, if_neg (by decide)] at h
    simp at h
  · rw [h1, if_pos (by omega)] at h
    simp only [Int.toNat_natCast, Prod.mk.injEq, and_true] at h
    obtain ⟨rfl, rfl⟩ := h
    unfold Lib.occAt at h3
    obtain ⟨t, ht⟩ := List.isPrefixOf_iff_prefix.1 h3
    have hd : l.drop (i + sep.length) = t := by rw [← List.drop_drop, ← ht, List.drop_left]
    rw [hd, ht, List.take_append_drop]
def tot : List (List UInt8) → Nat
  | [] => 0
  | l :: r => l.length + 1 + tot r
theorem tot_cut (c : UInt8) : ∀ l : List UInt8, tot (cutAt c l) = l.length + 1
  | [] => rfl
  | x :: t => by
    have ih := tot_cut c t
    by_cases h : x = c
    · subst h
      rw [cutAt_hit, tot, ih]
      simp
      omega
    · rw [cutAt_miss c x t h]
      cases hc : cutAt c t with
      | nil => exact absurd hc (cutAt_ne c t)
      | cons p r =>
        rw [hc, tot] at ih
        rw [glue_cons, tot]
        simp
        omega
theorem tot_drop : ∀ l : List (List UInt8), tot l.dropLast ≤ tot l
  | [] => Nat.le_refl _
  | [x] => by simp [tot]
  | x :: y :: r => by
    have := tot_drop (y :: r)
    rw [List.dropLast_cons_cons, tot, tot]
    omega
theorem tot_lines (s : List UInt8) : tot (linesOf s) ≤ s.length + 1 := by
  unfold linesOf
  have h := tot_cut 10 s
  have h2 := tot_drop (cutAt 10 s)
  split <;> omega
theorem bareL_len (x : List UInt8) : (bareL x).length ≤ x.length := by
  unfold bareL
  rcases cut_at 35 x with ⟨h1, -⟩ | ⟨a, b, h1, -, h3⟩
  · rw [h1]
    exact Nat.le_refl _
  · rw [h3, if_pos rfl, h1]
    have h := (List.dropWhile_suffix (l := a.reverse) (fun y : UInt8 => y == 32)).length_le
    unfold Lib.trimRightB
    simp at h ⊢
    omega
structure okR (st : Rd) (N : Nat) : Prop where
  g : ∀ g ∈ st.gs, okG g
  x : ∀ x ∈ st.es, okX x
  f : st.bg = false → st.es = [] ∧ st.gs = []
  b : st.bg = true → in64 st.b1 ∧ in64 st.b2 ∧ in64 st.b3 ∧ (fileT st.es st.gs st.b1 st.b2 st.b3).length ≤ N
  l : st.ls.length = st.es.length
  m : ∀ n ∈ st.ls, 1 ≤ n
theorem okR_mono {st : Rd} {N M : Nat} (h : okR st N) (hm : N ≤ M) : okR st M := ⟨h.g, h.x, h.f, fun e => ⟨(h.b e).1, (h.b e).2.1, (h.b e).2.2.1, Nat.le_trans (h.b e).2.2.2 hm⟩, h.l, h.m⟩
theorem lineB_ok {st st1 : Rd} {N : Nat} {l : List UInt8} (hR : okR st N) (hb : st.bg = false) (h : lineB st (cutAt 32 l) = some st1) : okR st1 (N + (l.length + 1)) := by
  obtain ⟨p, PT, hp⟩ : ∃ p PT, cutAt 32 l = p :: PT := by
    cases hc : cutAt 32 l with
    | nil => exact absurd hc (cutAt_ne 32 l)
    | cons p PT => exact ⟨p, PT, rfl⟩
  have hj := join_cutAt 32 l
  rw [hp] at h hj
  unfold lineB at h
  rw [List.headD_cons, show (p :: PT).drop 1 = PT from rfl] at h
  by_cases hw : p = baseW
  · rw [if_pos hw] at h
    cases hn : numsL PT with
    | none => rw [hn] at h; cases h
    | some vs =>
      rw [hn] at h
      obtain ⟨e1, e2⟩ := numsL_some PT vs hn
      match vs, h with
      | [x, y, z], h =>
        cases h
        obtain ⟨he, hg⟩ := hR.f hb
        have hl : baseN x y z = l := by
          unfold baseN
          rw [← hj, ← e1, hw]
          rfl
        have hlen : (baseT x y z).length = l.length + 1 := by
          have : baseT x y z = baseN x y z ++ [10] := rfl
          rw [this, hl]
          simp
        refine ⟨hR.g, hR.x, (fun e => by cases e), fun _ => ⟨e2 x (by simp), e2 y (by simp), e2 z (by simp), ?_⟩, hR.l, hR.m⟩
        dsimp only
        rw [he, hg]
        unfold fileT
        simp
        omega
  · rw [if_neg hw] at h
    cases h
theorem lineG_ok {st st1 : Rd} {N : Nat} {l : List UInt8} (hR : okR st N) (hb : st.bg = true) (hw : (cutAt 32 l).headD [] = groupW) (h : lineG st (cutAt 32 l) = some st1) : okR st1 (N + (l.length + 1)) := by
  have hj := join_cutAt 32 l
  unfold lineG at h
  split at h
  · next hc =>
    obtain ⟨h4, hnm, he⟩ := hc
    obtain ⟨p, q, r, t, hps⟩ : ∃ p q r t, cutAt 32 l = [p, q, r, t] := by
      match cutAt 32 l, h4 with
      | [p, q, r, t], _ => exact ⟨p, q, r, t, rfl⟩
    rw [hps] at h hj hw hnm
    rw [show [p, q, r, t].drop 2 = [r, t] from rfl, show [p, q, r, t].getD 1 [] = q from rfl] at h
    rw [show [p, q, r, t].getD 1 [] = q from rfl] at hnm
    rw [List.headD_cons] at hw
    cases hn : numsL [r, t] with
    | none => rw [hn] at h; cases h
    | some vs =>
      rw [hn] at h
      obtain ⟨e1, e2⟩ := numsL_some [r, t] vs hn
      match vs, h with
      | [x, y], h =>
        cases h
        simp only [List.map_cons, List.map_nil, List.cons.injEq, and_true] at e1
        have hl : groupN ⟨ofL q, x, y⟩ = l := by
          unfold groupN
          dsimp only
          rw [e1.1, e1.2, ← hj, hw]
        have hlen : (groupT ⟨ofL q, x, y⟩).length = l.length + 1 := by
          have : groupT ⟨ofL q, x, y⟩ = groupN ⟨ofL q, x, y⟩ ++ [10] := rfl
          rw [this, hl]
          simp
        obtain ⟨b1, b2, b3, b4⟩ := hR.b hb
        refine ⟨fun g hg => ?_, hR.x, (fun e => by rw [show (⟨st.es, st.gs ++ [⟨ofL q, x, y⟩], st.b1, st.b2, st.b3, st.bg, st.ls⟩ : Rd).bg = st.bg from rfl, hb] at e; cases e), fun _ => ⟨b1, b2, b3, ?_⟩, hR.l, hR.m⟩
        · rcases List.mem_append.1 hg with hg | hg
          · exact hR.g g hg
          · simp only [List.mem_singleton] at hg
            subst hg
            exact ⟨hnm, e2 x (by simp), e2 y (by simp)⟩
        · dsimp only
          unfold fileT at b4 ⊢
          rw [List.flatMap_append, List.flatMap_cons, List.flatMap_nil, List.append_nil]
          simp only [List.length_append] at b4 ⊢
          omega
  · cases h
theorem lineE_ok {st st1 : Rd} {N : Nat} {l : List UInt8} {n : Int} (hR : okR st N) (hb : st.bg = true) (hn : 1 ≤ n) (h : lineE st l n = some st1) : okR st1 (N + (l.length + 1)) := by
  obtain ⟨⟨A, B, F⟩, hcut⟩ : ∃ C, Lib.cut l [59, 32] = C := ⟨_, rfl⟩
  unfold lineE at h
  rw [hcut] at h
  dsimp only at h
  split at h
  · next hc =>
    obtain ⟨hF, hC⟩ := hc
    subst hF
    have hl := cut_some hcut
    obtain ⟨c1, c2⟩ := readCodes_some hC
    obtain ⟨els, he, rfl⟩ := Option.map_eq_some_iff.1 h
    obtain ⟨e1, e2⟩ := readE_some he
    have hlen : (entryT ⟨(readCodes A).1, els⟩).length = l.length + 1 := by
      rw [entryT_N]
      unfold entryN
      dsimp only
      rw [c1, e1, ← hl]
      simp
    obtain ⟨b1, b2, b3, b4⟩ := hR.b hb
    refine ⟨hR.g, fun x hx => ?_, (fun e => by dsimp only at e; rw [hb] at e; cases e), fun _ => ⟨b1, b2, b3, ?_⟩, by dsimp only; rw [List.length_append, List.length_append, hR.l]; rfl, fun m hm => ?_⟩
    · rcases List.mem_append.1 hx with hx | hx
      · exact hR.x x hx
      · simp only [List.mem_singleton] at hx
        subst hx
        exact ⟨c2, e2⟩
    · dsimp only
      unfold fileT at b4 ⊢
      rw [List.flatMap_append (xs := st.es), List.flatMap_cons, List.flatMap_nil, List.append_nil]
      simp only [List.length_append] at b4 ⊢
      omega
    · rcases List.mem_append.1 hm with hm | hm
      · exact hR.m m hm
      · simp only [List.mem_singleton] at hm
        subst hm
        exact hn
  · cases h
theorem lineS_ok {st st1 : Rd} {N : Nat} {l : List UInt8} {n : Int} (hR : okR st N) (hn : 1 ≤ n) (h : lineS st l n = some st1) : okR st1 (N + (l.length + 1)) := by
  unfold lineS at h
  by_cases hb : st.bg = false
  · rw [if_pos hb] at h
    exact lineB_ok hR hb h
  · have hb' : st.bg = true := by cases hx : st.bg with | true => rfl | false => exact absurd hx hb
    rw [if_neg hb] at h
    by_cases hw : (cutAt 32 l).headD [] = groupW
    · rw [if_pos hw] at h
      exact lineG_ok hR hb' hw h
    · rw [if_neg hw] at h
      exact lineE_ok hR hb' hn h
theorem goL_ok : ∀ (xs : List (List UInt8)) (i : Nat) (st : Rd) (N : Nat), okR st N → (∀ st1, goL xs i st = .inl st1 → okR st1 (N + tot xs)) ∧ (∀ n, goL xs i st = .inr n → 1 ≤ n)
  | [], i, st, N, hR => ⟨fun st1 h => (by cases h; exact hR), fun n h => (by cases h)⟩
  | x :: r, i, st, N, hR => by
    have hx := bareL_len x
    rw [goL, tot]
    by_cases h0 : bareL x = []
    · rw [if_pos h0]
      obtain ⟨h1, h2⟩ := goL_ok r (i + 1) st N hR
      exact ⟨fun st1 h => okR_mono (h1 st1 h) (by omega), h2⟩
    · rw [if_neg h0]
      cases hl : lineS st (bareL x) ((i : Int) + 1) with
      | none => exact ⟨fun st1 h => (by cases h), fun n h => (by cases h; omega)⟩
      | some st2 =>
        obtain ⟨h1, h2⟩ := goL_ok r (i + 1) st2 _ (lineS_ok hR (by omega) hl)
        exact ⟨fun st1 h => okR_mono (h1 st1 h) (by omega), h2⟩
theorem badE_cases : ∀ (es : List S52) (ls : List Int), ls.length = es.length → (badE es ls = none ∧ ∀ x ∈ es, errE x.f1 = 0) ∨ ∃ e n, badE es ls = some (e, n) ∧ e ≠ 0 ∧ n ∈ ls
  | [], ls, _ => .inl ⟨rfl, by simp⟩
  | x :: r, [], h => by simp at h
  | x :: r, n :: m, h => by
    rw [badE]
    by_cases hx : errE x.f1 = 0
    · rw [if_pos hx]
      rcases badE_cases r m (by simpa using h) with ⟨h1, h2⟩ | ⟨e, k, h1, h2, h3⟩
      · refine .inl ⟨h1, fun y hy => ?_⟩
        rcases List.mem_cons.1 hy with rfl | hy
        · exact hx
        · exact h2 y hy
      · exact .inr ⟨e, k, h1, h2, List.mem_cons_of_mem _ h3⟩
    · rw [if_neg hx]
      exact .inr ⟨_, n, rfl, hx, by simp⟩
theorem parse_back (s : List UInt8) (hs : s.length ≤ 65536) : (∃ es gs a b c, parseF s = (es, gs, a, b, c, 0, 0) ∧ okF es gs a b c ∧ (fileT es gs a b c).length ≤ s.length + 1) ∨ ∃ e n, parseF s = bad e n ∧ e ≠ 0 ∧ 1 ≤ n := by
  have hR : okR Rd.none 0 := ⟨by simp [Rd.none], by simp [Rd.none], fun _ => ⟨rfl, rfl⟩, fun e => (by cases e), rfl, by simp [Rd.none]⟩
  obtain ⟨h1, h2⟩ := goL_ok (linesOf s) 0 Rd.none 0 hR
  have ht := tot_lines s
  unfold parseF
  rw [if_neg (by omega)]
  cases hg : goL (linesOf s) 0 Rd.none with
  | inr n => exact .inr ⟨3, n, rfl, by decide, by have := h2 n hg; omega⟩
  | inl st =>
    have hk := h1 st hg
    unfold endL
    dsimp only
    by_cases hb : st.bg = false
    · rw [if_pos hb]
      exact .inr ⟨3, _, rfl, by decide, by omega⟩
    · have hb' : st.bg = true := by cases hx : st.bg with | true => rfl | false => exact absurd hx hb
      rw [if_neg hb]
      obtain ⟨b1, b2, b3, b4⟩ := hk.b hb'
      rcases badE_cases st.es st.ls hk.l with ⟨h3, h4⟩ | ⟨e, n, h3, h4, h5⟩
      · rw [h3]
        exact .inl ⟨_, _, _, _, _, rfl, ⟨hk.g, hk.x, h4, b1, b2, b3⟩, by omega⟩
      · rw [h3]
        exact .inr ⟨e, n, rfl, h4, hk.m n h5⟩
theorem flat_at {α : Type} (f : α → List UInt8) : ∀ (l : List α) (x : α), x ∈ l → (f x).length ≤ (l.flatMap f).length
  | y :: r, x, h => by
    rw [List.flatMap_cons, List.length_append]
    rcases List.mem_cons.1 h with rfl | h
    · omega
    · have := flat_at f r x h
      omega
theorem flat_ge {α : Type} (f : α → List UInt8) (h : ∀ x, 1 ≤ (f x).length) : ∀ (l : List α), l.length ≤ (l.flatMap f).length
  | [] => Nat.le_refl _
  | y :: r => by
    have h1 := h y
    have h2 := flat_ge f h r
    rw [List.flatMap_cons, List.length_append, List.length_cons]
    omega
theorem flat_le {α : Type} (f : α → List UInt8) (m : Nat) : ∀ (l : List α), (∀ x ∈ l, (f x).length ≤ m) → (l.flatMap f).length ≤ m * l.length
  | [], _ => Nat.le_refl _
  | y :: r, h => by
    have h1 := h y (by simp)
    have h2 := flat_le f m r fun x hx => h x (List.mem_cons_of_mem _ hx)
    rw [List.flatMap_cons, List.length_append, List.length_cons, Nat.mul_add]
    omega
theorem codesT_ge (xs : List Int) (h : xs.all validB = true) : xs.length ≤ (codesT xs).length := by
  cases xs with
  | nil => exact Nat.zero_le _
  | cons x r =>
    have hx : 0 ≤ x ∧ x ≤ 1114111 := by
      rw [List.all_cons, Bool.and_eq_true, valid_iff] at h
      exact h.1
    have h4 := hexT_ne x hx
    rw [codesT_cons, List.length_append, Lib.joinTail_length]
    simp
    omega
theorem words4 (p q r t : List UInt8) : (wordsT [p, q, r, t]).length = p.length + q.length + r.length + t.length + 4 := wordsT_len p q r t
theorem small_of {l0 : List S52} {l1 : List S49} {a b c : Int} (h : okF l0 l1 a b c) (hl : (fileT l0 l1 a b c).length ≤ 100000) : smallF l0 l1 a b c = true := by
  have hi : ∀ n, in64 n → i64B n = true := fun n hn => decide_eq_true ⟨by have := hn.1; omega, hn.2⟩
  unfold fileT at hl
  simp only [List.length_append] at hl
  have h0 : l0.length ≤ (l0.flatMap entryT).length := flat_ge entryT (fun x => by unfold entryT; simp; omega) l0
  have h1 : l1.length ≤ (l1.flatMap groupT).length := flat_ge groupT (fun g => by unfold groupT; rw [words4]; omega) l1
  have hx : l0.all smallX = true := List.all_eq_true.2 fun x hx => by
    have := flat_at entryT l0 x hx
    have h2 := codesT_ge x.f0 (h.x x hx).1
    have h3 := flat_ge elT (fun e => by unfold elT; simp) x.f1
    have h4 : (entryT x).length = (codesT x.f0).length + ((x.f1.flatMap elT).length + 3) := by
      unfold entryT
      simp only [List.length_append, List.length_cons, List.length_nil]
      omega
    unfold smallX
    rw [Bool.and_eq_true]
    exact ⟨decide_eq_true (by omega), decide_eq_true (by omega)⟩
  have hg : l1.all smallG = true := List.all_eq_true.2 fun g hg => by
    have := flat_at groupT l1 g hg
    have h4 : (groupT g).length = groupW.length + g.f0.data.toList.length + (Lib.itoa g.f1).length + (Lib.itoa g.f2).length + 4 := words4 _ _ _ _
    have hz : g.f0.data.toList.length = g.f0.size := by simp
    unfold smallG
    rw [hi _ (h.g g hg).2.1, hi _ (h.g g hg).2.2, Bool.and_true, Bool.and_true]
    exact decide_eq_true (by omega)
  unfold smallF
  rw [hx, hg, hi _ h.n1, hi _ h.n2, hi _ h.n3]
  simp only [Bool.and_true, Bool.and_eq_true]
  exact ⟨decide_eq_true (by omega), decide_eq_true (by omega)⟩
def fewB (l0 : List S52) (l1 : List S49) : Bool :=
  decide (l0.length ≤ 12) && decide (l1.length ≤ 8) && l0.all (fun x => decide (x.f0.length ≤ 16) && decide (x.f1.length ≤ 16)) && l1.all (fun g => decide (g.f0.size ≤ 40))
theorem few_parts {l0 : List S52} {l1 : List S49} (h : fewB l0 l1 = true) : l0.length ≤ 12 ∧ l1.length ≤ 8 ∧ (∀ x ∈ l0, x.f0.length ≤ 16 ∧ x.f1.length ≤ 16) ∧ ∀ g ∈ l1, g.f0.size ≤ 40 := by
  unfold fewB at h
  simp only [Bool.and_eq_true, decide_eq_true_eq, List.all_eq_true] at h
  obtain ⟨⟨⟨h1, h2⟩, h3⟩, h4⟩ := h
  exact ⟨h1, h2, h3, h4⟩
theorem few_small {l0 : List S52} {l1 : List S49} {a b c : Int} (h : fewB l0 l1 = true) (hg : ∀ g ∈ l1, i64B g.f1 = true ∧ i64B g.f2 = true) (ha : i64B a = true) (hb : i64B b = true) (hc : i64B c = true) : smallF l0 l1 a b c = true := by
  obtain ⟨h1, h2, h3, h4⟩ := few_parts h
  have hx : l0.all smallX = true := List.all_eq_true.2 fun x hx => by
    have := h3 x hx
    unfold smallX
    rw [Bool.and_eq_true]
    exact ⟨decide_eq_true (by omega), decide_eq_true (by omega)⟩
  have hg2 : l1.all smallG = true := List.all_eq_true.2 fun g hm => by
    have := h4 g hm
    unfold smallG
    rw [(hg g hm).1, (hg g hm).2, Bool.and_true, Bool.and_true]
    exact decide_eq_true (by omega)
  unfold smallF
  rw [hx, hg2, ha, hb, hc]
  simp only [Bool.and_true, Bool.and_eq_true]
  exact ⟨decide_eq_true (by omega), decide_eq_true (by omega)⟩
theorem itoa_le (n : Int) (h : in64 n) : (Lib.itoa n).length ≤ 21 := Lib.itoa_length_le n (by have := h.1; omega) h.2
theorem few_len {l0 : List S52} {l1 : List S49} {a b c : Int} (h : fewB l0 l1 = true) (ho : okF l0 l1 a b c) : (fileT l0 l1 a b c).length ≤ 10000 := by
  obtain ⟨h1, h2, h3, h4⟩ := few_parts h
  have hb : (baseT a b c).length ≤ 72 := by
    have := itoa_le a ho.n1
    have := itoa_le b ho.n2
    have := itoa_le c ho.n3
    unfold baseT
    rw [words4]
    simp only [baseW, List.length_cons, List.length_nil]
    omega
  have hx : (l0.flatMap entryT).length ≤ 400 * l0.length := flat_le entryT 400 l0 fun x hx => by
    have := h3 x hx
    have h5 := join_size x.f0
    have h6 := flat_len x.f1 (ho.x x hx).2
    unfold entryT
    simp only [List.length_append, List.length_cons, List.length_nil]
    omega
  have hg : (l1.flatMap groupT).length ≤ 100 * l1.length := flat_le groupT 100 l1 fun g hg => by
    have := h4 g hg
    have := itoa_le g.f1 (ho.g g hg).2.1
    have := itoa_le g.f2 (ho.g g hg).2.2
    have hz : g.f0.data.toList.length = g.f0.size := by simp
    unfold groupT
    rw [words4, hz]
    simp only [groupW, List.length_cons, List.length_nil]
    omega
  unfold fileT
  simp only [List.length_append]
  omega
def w1 : List UInt8 := [64, 98, 97, 115, 101, 32, 49, 32, 50, 32, 51]
def w2 : List UInt8 := [48, 48, 54, 49, 59, 32]
def w3 : List UInt8 := [64, 103, 114, 111, 117, 112, 32, 120, 32, 49, 32, 50]
def x2 : S52 := ⟨[97], []⟩
end Go.Proofs.YtdaijpjjilmkkaaDoor.Pr

/- Plain laws: what the reference's functions Check, SameElements, Same and Few answer. -/
namespace Go.Proofs.YtdaijpjjilmkkaaDoor.Pr
open Go.RowKit Go.Proofs.YtdaijpjjilmkkaaDoorW.PrintWords Go.Proofs.YtdaijpjjilmkkaaDoorW.PrintLast Go.Proofs.YtdaijpjjilmkkaaDoorW.PrintMore
set_option linter.unusedVariables false
set_option linter.unusedSimpArgs false
theorem Ev.pos {α : Type} {c : Prop} [Decidable c] {f g : Nat → Option α} {r : α} (hc : c) (h : Ev f r) : Ev (fun k => if c then f k else g k) r := Ev.congr (fun k => if_pos hc) h
theorem Ev.neg {α : Type} {c : Prop} [Decidable c] {f g : Nat → Option α} {r : α} (hc : ¬ c) (h : Ev g r) : Ev (fun k => if c then f k else g k) r := Ev.congr (fun k => if_neg hc) h
theorem Ev.got {α β : Type} {o : Option β} {b : β} {g : Nat → β → Option α} {r : α} (h : o = some b) (h2 : Ev (fun k => g k b) r) : Ev (fun k => o.bind (g k)) r := by
  subst h
  exact h2
theorem Ev.succ {α : Type} {F : Nat → Option α} {r : α} (h : Ev (fun k => F (k + 1)) r) : Ev F r := by
  obtain ⟨K, h⟩ := h
  refine ⟨K + 1, fun k hk => ?_⟩
  obtain ⟨m, rfl⟩ : ∃ m, k = m + 1 := ⟨k - 1, by omega⟩
  exact h m (by omega)
theorem sameE_loop (l : List S33) (hl : l.length ≤ 1000000) (d : Nat) : ∀ i : Nat, i + d = l.length → Ev (fun k => unicodetextref42_SameElements.l0 k l l (i : Int)) true := by
  induction d with
  | zero =>
    intro i hi
    refine ⟨1, fun k hk => ?_⟩
    (try dsimp only)
    obtain ⟨k, rfl⟩ : ∃ m, k = m + 1 := ⟨k - 1, by omega⟩
    simp only [unicodetextref42_SameElements.l0]
    rw [if_neg (by omega)]
  | succ d ih =>
    intro i hi
    refine Ev.step (f := fun k => unicodetextref42_SameElements.l0 k l l ((i + 1 : Nat) : Int)) (fun k => ?_) (ih (i + 1) (by omega))
    simp only [unicodetextref42_SameElements.l0]
    rw [if_pos (by omega), if_pos (by omega), if_pos (by omega), if_neg (by simp), wrap_succ i (by omega)]
theorem sameE_ev (l : List S33) (hl : l.length ≤ 1000000) : Ev (fun k => unicodetextref42_SameElements.f k l l) true := by
  have := sameE_loop l hl l.length 0 (by omega)
  exact Ev.pos rfl this
section
variable (es : List S52) (gs : List S49) (a b c : Int)
theorem same_l2 (x6 : Int) (C : List Int) (hC : C.length ≤ 1000000) (E : List S33) (hnext : Ev (fun k => unicodetextref42_Same.l1 k (wrap64 (x6 + 1)) es gs a b c es gs a b c) true) (d : Nat) : ∀ j : Nat, j + d = C.length →
    Ev (fun k => unicodetextref42_Same.l2 k x6 (j : Int) es gs a b c es gs a b c C E C E) true := by
  induction d with
  | zero =>
    intro j hj
    refine Ev.step (f := fun k => unicodetextref42_Same.l1 k (wrap64 (x6 + 1)) es gs a b c es gs a b c) (fun k => ?_) hnext
    simp only [unicodetextref42_Same.l2]
    rw [if_neg (by omega)]
  | succ d ih =>
    intro j hj
    refine Ev.step (f := fun k => unicodetextref42_Same.l2 k x6 ((j + 1 : Nat) : Int) es gs a b c es gs a b c C E C E) (fun k => ?_) (ih (j + 1) (by omega))
    simp only [unicodetextref42_Same.l2]
    rw [if_pos (by omega), if_pos (by omega), if_pos (by omega), if_true, wrap_succ j (by omega)]
theorem same_l1 (hl : es.length ≤ 1000000) (hx : ∀ x ∈ es, x.f0.length ≤ 1000000 ∧ x.f1.length ≤ 1000000) (d : Nat) : ∀ i : Nat, i + d = es.length → Ev (fun k => unicodetextref42_Same.l1 k (i : Int) es gs a b c es gs a b c) true := by
  induction d with
  | zero =>
    intro i hi
    refine ⟨1, fun k hk => ?_⟩
    (try dsimp only)
    obtain ⟨k, rfl⟩ : ∃ m, k = m + 1 := ⟨k - 1, by omega⟩
    simp only [unicodetextref42_Same.l1]
    rw [if_neg (by omega)]
  | succ d ih =>
    intro i hi
    have hlt : i < es.length := by omega
    have hm := hx es[i] (List.getElem_mem hlt)
    have h2 := same_l2 es gs a b c (i : Int) es[i].f0 hm.1 es[i].f1 (by rw [wrap_succ i (by omega)]; exact ih (i + 1) (by omega)) es[i].f0.length 0 (by omega)
    have h3 : Ev (fun k => unicodetextref42_Same.j3 k (i : Int) (!true) es gs a b c es gs a b c es[i].f0 es[i].f1 es[i].f0 es[i].f1) true := by
      refine Ev.step (f := fun k => unicodetextref42_Same.l2 k (i : Int) 0 es gs a b c es gs a b c es[i].f0 es[i].f1 es[i].f0 es[i].f1) (fun k => ?_) h2
      simp only [unicodetextref42_Same.j3]
      rw [if_neg (by decide)]
    refine Ev.step (f := fun k => (unicodetextref42_SameElements.f k es[i].f1 es[i].f1).bind fun t => unicodetextref42_Same.j3 k (i : Int) (!t) es gs a b c es gs a b c es[i].f0 es[i].f1 es[i].f0 es[i].f1) (fun k => ?_) (Ev.bind (sameE_ev _ hm.2) h3)
    simp only [unicodetextref42_Same.l1]
    rw [if_pos (by omega), if_pos (by omega), if_pos (by omega), if_true, rdX_at es i hlt]
theorem same_l0 (hl : es.length ≤ 1000000) (hg : gs.length ≤ 1000000) (hx : ∀ x ∈ es, x.f0.length ≤ 1000000 ∧ x.f1.length ≤ 1000000) (d : Nat) : ∀ i : Nat, i + d = gs.length → Ev (fun k => unicodetextref42_Same.l0 k (i : Int) es gs a b c es gs a b c) true := by
  induction d with
  | zero =>
    intro i hi
    refine Ev.step (f := fun k => unicodetextref42_Same.l1 k 0 es gs a b c es gs a b c) (fun k => ?_) (same_l1 es gs a b c hl hx es.length 0 (by omega))
    simp only [unicodetextref42_Same.l0]
    rw [if_neg (by omega)]
  | succ d ih =>
    intro i hi
    refine Ev.step (f := fun k => unicodetextref42_Same.l0 k ((i + 1 : Nat) : Int) es gs a b c es gs a b c) (fun k => ?_) (ih (i + 1) (by omega))
    simp only [unicodetextref42_Same.l0]
    rw [if_pos (by omega), if_pos (by omega), if_pos (by omega), if_neg (by simp), wrap_succ i (by omega)]
theorem same_ev (hl : es.length ≤ 1000000) (hg : gs.length ≤ 1000000) (hx : ∀ x ∈ es, x.f0.length ≤ 1000000 ∧ x.f1.length ≤ 1000000) : Ev (fun k => unicodetextref42_Same.f k es gs a b c es gs a b c) true := by
  refine Ev.pos rfl (Ev.pos rfl (Ev.pos rfl (Ev.pos rfl ?_)))
  refine Ev.step (f := fun k => unicodetextref42_Same.l0 k 0 es gs a b c es gs a b c) (fun k => ?_) (same_l0 es gs a b c hl hg hx gs.length 0 (by omega))
  simp only [unicodetextref42_Same.j0]
  rw [if_neg (by simp)]
theorem few_l1 (hg : gs.length ≤ 8) (d : Nat) : ∀ i : Nat, i + d = gs.length → Ev (fun k => unicodetextref42_Few.l1 k (i : Int) es gs a b c) ((gs.drop i).all fun g => decide (g.f0.size ≤ 40)) := by
  induction d with
  | zero =>
    intro i hi
    refine ⟨1, fun k hk => ?_⟩
    (try dsimp only)
    obtain ⟨k, rfl⟩ : ∃ m, k = m + 1 := ⟨k - 1, by omega⟩
    simp only [unicodetextref42_Few.l1]
    rw [if_neg (by omega), List.drop_of_length_le (by omega)]
    rfl
  | succ d ih =>
    intro i hi
    have hlt : i < gs.length := by omega
    have hd : gs.drop i = gs[i] :: gs.drop (i + 1) := List.drop_eq_getElem_cons hlt
    have h2 := ih (i + 1) (by omega)
    rw [hd, List.all_cons]
    by_cases h40 : gs[i].f0.size ≤ 40
    · rw [decide_eq_true h40, Bool.true_and]
      refine Ev.step (f := fun k => unicodetextref42_Few.l1 k ((i + 1 : Nat) : Int) es gs a b c) (fun k => ?_) h2
      simp only [unicodetextref42_Few.l1]
      rw [if_pos (by omega), if_pos (by omega), rdG_at gs i hlt, if_neg (by omega), wrap_succ i (by omega)]
    · rw [decide_eq_false h40, Bool.false_and]
      refine ⟨1, fun k hk => ?_⟩
      (try dsimp only)
      obtain ⟨k, rfl⟩ : ∃ m, k = m + 1 := ⟨k - 1, by omega⟩
      simp only [unicodetextref42_Few.l1]
      rw [if_pos (by omega), if_pos (by omega), rdG_at gs i hlt, if_pos (by omega)]
def fewX (x : S52) : Bool := decide (x.f0.length ≤ 16) && decide (x.f1.length ≤ 16)
theorem few_l0 (hl : es.length ≤ 12) (hg : gs.length ≤ 8) (d : Nat) : ∀ i : Nat, i + d = es.length → Ev (fun k => unicodetextref42_Few.l0 k (i : Int) es gs a b c) ((es.drop i).all fewX && gs.all fun g => decide (g.f0.size ≤ 40)) := by
  induction d with
  | zero =>
    intro i hi
    rw [List.drop_of_length_le (by omega), List.all_nil, Bool.true_and]
    refine Ev.step (f := fun k => unicodetextref42_Few.l1 k 0 es gs a b c) (fun k => ?_) (few_l1 es gs a b c hg gs.length 0 (by omega))
    simp only [unicodetextref42_Few.l0]
    rw [if_neg (by omega)]
  | succ d ih =>
    intro i hi
    have hlt : i < es.length := by omega
    have hd : es.drop i = es[i] :: es.drop (i + 1) := List.drop_eq_getElem_cons hlt
    have h2 := ih (i + 1) (by omega)
    rw [hd, List.all_cons]
    by_cases h0 : es[i].f0.length ≤ 16
    · by_cases h1 : es[i].f1.length ≤ 16
      · rw [show fewX es[i] = true by unfold fewX; rw [decide_eq_true h0, decide_eq_true h1]; rfl, Bool.true_and]
        refine Ev.step (f := fun k => unicodetextref42_Few.l0 k ((i + 1 : Nat) : Int) es gs a b c) (fun k => ?_) h2
        simp only [unicodetextref42_Few.l0, unicodetextref42_SmallElements.f]
        rw [if_pos (by omega), if_pos (by omega), rdX_at es i hlt, if_neg (by omega), Option.bind_some, if_pos (decide_eq_true (by omega)), wrap_succ i (by omega)]
      · rw [show fewX es[i] = false by unfold fewX; rw [decide_eq_false h1, Bool.and_false], Bool.false_and, Bool.false_and]
        refine ⟨1, fun k hk => ?_⟩
        (try dsimp only)
        obtain ⟨k, rfl⟩ : ∃ m, k = m + 1 := ⟨k - 1, by omega⟩
        simp only [unicodetextref42_Few.l0, unicodetextref42_SmallElements.f]
        rw [if_pos (by omega), if_pos (by omega), rdX_at es i hlt, if_neg (by omega), Option.bind_some, if_neg (by simp; omega)]
    · rw [show fewX es[i] = false by unfold fewX; rw [decide_eq_false h0, Bool.false_and], Bool.false_and, Bool.false_and]
      refine ⟨1, fun k hk => ?_⟩
      (try dsimp only)
      obtain ⟨k, rfl⟩ : ∃ m, k = m + 1 := ⟨k - 1, by omega⟩
      simp only [unicodetextref42_Few.l0]
      rw [if_pos (by omega), if_pos (by omega), rdX_at es i hlt, if_pos (by omega)]
theorem few_ev : Ev (fun k => unicodetextref42_Few.f k es gs a b c) (fewB es gs) := by
  unfold fewB
  by_cases hl : es.length ≤ 12
  · rw [decide_eq_true hl, Bool.true_and]
    refine Ev.neg (by omega) ?_
    by_cases hg : gs.length ≤ 8
    · rw [decide_eq_true hg, Bool.true_and, show decide ((gs.length : Int) > 8) = false from decide_eq_false (by omega)]
      refine Ev.step (f := fun k => unicodetextref42_Few.l0 k 0 es gs a b c) (fun k => ?_) (few_l0 es gs a b c hl hg es.length 0 (by omega))
      simp only [unicodetextref42_Few.j0]
      rw [if_neg (by decide)]
    · rw [decide_eq_false hg, Bool.false_and, Bool.false_and, show decide ((gs.length : Int) > 8) = true from decide_eq_true (by omega)]
      refine ⟨1, fun k hk => ?_⟩
      (try dsimp only)
      obtain ⟨k, rfl⟩ : ∃ m, k = m + 1 := ⟨k - 1, by omega⟩
      simp only [unicodetextref42_Few.j0]
      rw [if_pos trivial]
  · rw [decide_eq_false hl, Bool.false_and, Bool.false_and, Bool.false_and]
    refine Ev.pos (by omega) ?_
    refine ⟨1, fun k hk => ?_⟩
    (try dsimp only)
    obtain ⟨k, rfl⟩ : ∃ m, k = m + 1 := ⟨k - 1, by omega⟩
    simp only [unicodetextref42_Few.j0]
    rw [if_pos trivial]
end
end Go.Proofs.YtdaijpjjilmkkaaDoor.Pr

/- The example of the chapter (alive). -/
namespace Go.Proofs.YtdaijpjjilmkkaaDoor.Pr
open Go.RowKit Go.Proofs.YtdaijpjjilmkkaaDoorW.PrintWords Go.Proofs.YtdaijpjjilmkkaaDoorW.PrintLast Go.Proofs.YtdaijpjjilmkkaaDoorW.PrintMore
set_option linter.unusedVariables false
set_option linter.unusedSimpArgs false
theorem ofL_of (s : ByteArray) : ∃ l, s = ofL l ∧ s.size = l.length := ⟨s.data.toList, (ofL_eq s).symm, by simp⟩
theorem pfile_f (l : List UInt8) (h : l.length ≤ 9223372036854775807) : element_ParseFile.f (ofL l) = some (parseF l) := by
  unfold element_ParseFile.f
  rw [if_pos (by rw [ofL_size]; exact h), ofL_list]
theorem ftext_f (l0 : List S52) (l1 : List S49) (a b c : Int) (h : smallF l0 l1 a b c = true) : element_FileText.f l0 l1 a b c = some (if errF l0 l1 a b c = 0 then (ofL (fileT l0 l1 a b c), 0) else (ofL [], errF l0 l1 a b c)) := by
  unfold element_FileText.f
  rw [if_pos h]
def exE : S33 := ⟨16, 32, 2, false⟩
def exG : S49 := ⟨ofL [108, 97, 116, 105, 110], 16, 31⟩
theorem alive_ev : Ev (fun k => unicodetextlaw42_alive.f k) true := by
  have e0 : errE [exE] = 0 := by decide
  have e1 : [exE].flatMap elT = [91, 46, 48, 48, 49, 48, 46, 48, 48, 50, 48, 46, 48, 48, 48, 50, 93] := by kernel_rfl
  have h1 := text_ev [exE] (by decide)
  rw [if_pos e0, e1] at h1
  have p1 : parseF [64, 98, 97, 115, 101, 32, 49, 32, 50, 32, 51, 10, 64, 103, 114, 111, 117, 112, 32, 108, 97, 116, 105, 110, 32, 49, 54, 32, 51, 49, 32, 35, 32, 108, 101, 116, 116, 101, 114, 115, 10, 48, 48, 54, 49, 59, 32, 91, 46, 48, 48, 49, 48, 46, 48, 48, 50, 48, 46, 48, 48, 48, 50, 93, 10] = ([⟨[97], [exE]⟩], [exG], 1, 2, 3, 0, 0) := by kernel_rfl
  have p2 : parseF [64, 98, 97, 115, 101, 32, 49, 32, 50, 32, 51, 10, 48, 48, 54, 49, 59, 10] = bad 3 2 := by kernel_rfl
  have f1 : element_FileText.f [] [exG] 1 2 3 = some (ofL [64, 98, 97, 115, 101, 32, 49, 32, 50, 32, 51, 10, 64, 103, 114, 111, 117, 112, 32, 108, 97, 116, 105, 110, 32, 49, 54, 32, 51, 49, 10], 0) := by
    rw [ftext_f _ _ _ _ _ (by decide), if_pos (by decide)]
    have e : fileT [] [exG] 1 2 3 = [64, 98, 97, 115, 101, 32, 49, 32, 50, 32, 51, 10, 64, 103, 114, 111, 117, 112, 32, 108, 97, 116, 105, 110, 32, 49, 54, 32, 51, 49, 10] := by kernel_rfl
    rw [e]
  have hs := sameE_ev [exE] (by decide)
  refine Ev.bind h1 ?_
  refine Ev.got ((pfile_f _ (by decide)).trans (congrArg some p1)) ?_
  refine Ev.got ((pfile_f _ (by decide)).trans (congrArg some p2)) ?_
  refine Ev.got f1 ?_
  refine Ev.pos (ofL_toList _) (Ev.pos rfl (Ev.pos rfl (Ev.pos rfl (Ev.pos (by decide) ?_))))
  refine Ev.bind hs (Ev.pos rfl (Ev.pos rfl (Ev.pos rfl (Ev.pos (ofL_toList _) (Ev.now true)))))
theorem alive_tail : Ev (fun k => (unicodetextlaw42_alive.f k).bind fun t => some t) true := Ev.bind alive_ev (Ev.now true)
end Go.Proofs.YtdaijpjjilmkkaaDoor.Pr

/- A collation of int64s: what the laws of files ask of their argument. -/
namespace Go.Proofs.YtdaijpjjilmkkaaDoor.Pr
open Go.RowKit Go.Proofs.YtdaijpjjilmkkaaDoorW.PrintWords Go.Proofs.YtdaijpjjilmkkaaDoorW.PrintLast Go.Proofs.YtdaijpjjilmkkaaDoorW.PrintMore
set_option linter.unusedVariables false
set_option linter.unusedSimpArgs false
def intsF (l1 : List S49) (a b c : Int) : Prop := (∀ g ∈ l1, i64B g.f1 = true ∧ i64B g.f2 = true) ∧ i64B a = true ∧ i64B b = true ∧ i64B c = true
theorem small_few {l0 : List S52} {l1 : List S49} {a b c : Int} (h : fewB l0 l1 = true) (hi : intsF l1 a b c) : smallF l0 l1 a b c = true := few_small h hi.1 hi.2.1 hi.2.2.1 hi.2.2.2
theorem same_small {l0 : List S52} {l1 : List S49} {a b c : Int} (h : smallF l0 l1 a b c = true) : Ev (fun k => unicodetextref42_Same.f k l0 l1 a b c l0 l1 a b c) true := by
  obtain ⟨⟨h1, h2, h3⟩, -⟩ := smallF_parts h
  exact same_ev l0 l1 a b c (by omega) (by omega) (fun x hx => by have := h3 x hx; omega)
end Go.Proofs.YtdaijpjjilmkkaaDoor.Pr

/- ElementFileBack: the pure statement. -/
namespace Go.Proofs.YtdaijpjjilmkkaaDoor.Pr
open Go.RowKit Go.Proofs.YtdaijpjjilmkkaaDoorW.PrintWords Go.Proofs.YtdaijpjjilmkkaaDoorW.PrintLast Go.Proofs.YtdaijpjjilmkkaaDoorW.PrintMore
set_option linter.unusedVariables false
set_option linter.unusedSimpArgs false
theorem fileBack_j1 (s : List UInt8) (hs : s.length ≤ 1500) : Ev (fun k => unicodetextlaw42_ElementFileBack.j1 k (ofL s) false) true := by
  refine Ev.succ ?_
  simp only [unicodetextlaw42_ElementFileBack.j1]
  refine Ev.neg (by decide) ?_
  rcases parse_back s (by omega) with ⟨es, gs, a, b, c, hp, ho, hl⟩ | ⟨e, n, hp, he, hn⟩
  · have hsm := small_of ho (by omega)
    refine Ev.got ((pfile_f s (by omega)).trans (congrArg some hp)) (Ev.pos rfl ?_)
    refine Ev.got ((ftext_f es gs a b c hsm).trans (congrArg some (if_pos (errF_of ho)))) ?_
    exact Ev.got ((pfile_f _ (by omega)).trans (congrArg some (parse_file ho (by omega)))) (Ev.pos rfl (Ev.pos rfl (Ev.bind (same_small hsm) (Ev.pos rfl alive_tail))))
  · refine Ev.got ((pfile_f s (by omega)).trans (congrArg some hp)) (Ev.neg he (Ev.pos hn ?_))
    exact Ev.bind (same_ev [] [] 0 0 0 (by decide) (by decide) (by simp)) (Ev.pos rfl alive_tail)
theorem ElementFileBack_ev (l0 : List S52) (l1 : List S49) (a b c : Int) (hi : intsF l1 a b c) (s : List UInt8) : Ev (fun k => unicodetextlaw42_ElementFileBack.f k l0 l1 a b c (ofL s)) true := by
  have hbig : Ev (fun k => unicodetextlaw42_ElementFileBack.j0 k (ofL s) true l0 l1 a b c) true := by
    refine Ev.step (f := fun k => (unicodetextlaw42_alive.f k).bind fun t => some t) (fun k => ?_) alive_tail
    simp only [unicodetextlaw42_ElementFileBack.j0]
    rw [if_pos trivial]
  refine Ev.bind (few_ev l0 l1 a b c) ?_
  by_cases hf : fewB l0 l1 = true
  · refine Ev.pos hf ?_
    by_cases hs : s.length ≤ 1500
    · rw [show decide (((ofL s).size : Int) > 1500) = false from decide_eq_false (by rw [ofL_size]; omega)]
      refine Ev.succ ?_
      simp only [unicodetextlaw42_ElementFileBack.j0]
      refine Ev.neg (by decide) ?_
      have hsm := small_few hf hi
      have hj := fileBack_j1 s hs
      by_cases he : errF l0 l1 a b c = 0
      · have ho := okF_of he hsm
        have hl := few_len hf ho
        refine Ev.got ((ftext_f l0 l1 a b c hsm).trans (congrArg some (if_pos he))) ?_
        exact Ev.got ((pfile_f _ (by omega)).trans (congrArg some (parse_file ho (by omega)))) (Ev.pos rfl (Ev.neg (fun e => by cases e) (Ev.bind (same_small hsm) hj)))
      · refine Ev.got ((ftext_f l0 l1 a b c hsm).trans (congrArg some (if_neg he))) ?_
        exact Ev.got (pfile_f [] (by decide)) (Ev.neg he hj)
    · rw [show decide (((ofL s).size : Int) > 1500) = true from decide_eq_true (by rw [ofL_size]; omega)]
      exact hbig
  · exact Ev.neg hf hbig
theorem ElementFileBack_pure (l0 : List S52) (l1 : List S49) (a b c : Int) (hi : intsF l1 a b c) (s : ByteArray) : ∃ k, unicodetextlaw42_ElementFileBack.f k l0 l1 a b c s = some true := by
  obtain ⟨t, rfl, -⟩ := ofL_of s
  obtain ⟨K, h⟩ := ElementFileBack_ev l0 l1 a b c hi t
  exact ⟨K, h K (Nat.le_refl _)⟩
end Go.Proofs.YtdaijpjjilmkkaaDoor.Pr
