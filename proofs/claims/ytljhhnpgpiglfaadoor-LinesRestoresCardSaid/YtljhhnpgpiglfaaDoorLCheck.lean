/- Plain laws: Check of the program and of the reference. -/
import Derived.Test.YtljhhnpgpiglfaaDoorLRef
import Derived.Test.YtljhhnpgpiglfaaDoorPrx7
import Derived.Test.YtljhhnpgpiglfaaDoorPrx11
namespace Go.Proofs.YtljhhnpgpiglfaaDoor.Pr
open Go.RowKit Go.Proofs.YtljhhnpgpiglfaaDoorW.PrintWords Go.Proofs.YtljhhnpgpiglfaaDoorW.PrintLast Go.Proofs.YtljhhnpgpiglfaaDoorW.PrintMore
set_option linter.unusedVariables false
set_option linter.unusedSimpArgs false

def okN (l : List UInt8) : Bool := !l.contains 10 && (l == trimL l)
def okF (l : List UInt8) : Bool := okN l && !l.contains 59 && !l.contains 35
def okFB (f : ByteArray) : Bool := okF f.data.toList
def spanOk (lo hi : Int) : Bool := decide (0 ≤ lo ∧ lo ≤ 1114111) && decide (0 ≤ hi ∧ hi ≤ 1114111) && !decide (lo > hi)
def checkS (lo hi : Int) (fs : List ByteArray) (note : ByteArray) : Int :=
  if spanOk lo hi = true then (if okN note.data.toList = true then (if fs.all okFB = true then 0 else 3) else 3) else 1

theorem has_loop (c : UInt8) (l : List UInt8) (hl : l.length ≤ 1000000) : ∀ (r p : List UInt8), l = p ++ r → Ev (fun k => unicodetextref09_Has.l0 k (ofL l) (c.toNat : Int) (p.length : Int)) (r.contains c)
  | [], p, h => by
    refine Ev.step (f := fun _ => some false) (fun k => ?_) (Ev.now _)
    simp only [unicodetextref09_Has.l0]
    rw [if_neg (by rw [ofL_size, h]; simp)]
  | x :: r, p, h => by
    have hlen : p.length + (r.length + 1) = l.length := by rw [h]; simp
    have hx : l[p.length]'(by omega) = x := by simp [h]
    by_cases hc : x = c
    · refine Ev.step (f := fun _ => some true) (fun k => ?_) (by rw [hc]; simp; exact Ev.now _)
      simp only [unicodetextref09_Has.l0]
      rw [if_pos (by rw [ofL_size]; omega), if_pos (by omega), bt_ofL l _ (by omega), hx, hc, if_pos rfl]
    · have ih := has_loop c l hl r (p ++ [x]) (by rw [h]; simp)
      rw [List.length_append, List.length_singleton] at ih
      rw [show (x :: r).contains c = r.contains c by simp [Ne.symm hc]]
      refine Ev.step (fun k => ?_) ih
      simp only [unicodetextref09_Has.l0]
      rw [if_pos (by rw [ofL_size]; omega), if_pos (by omega), bt_ofL l _ (by omega), hx, if_neg (fun e => hc (UInt8.toNat_inj.1 (by omega))), wrap_succ _ (by omega)]
theorem has_ev (c : UInt8) (l : List UInt8) (hl : l.length ≤ 1000000) : Ev (fun k => unicodetextref09_Has.f k (ofL l) (c.toNat : Int)) (l.contains c) := has_loop c l hl l [] rfl

theorem free_ev (l : List UInt8) (hl : l.length ≤ 1000000) : Ev (fun k => unicodetextref09_free.f k (ofL l)) (okN l) := by
  obtain ⟨K1, g1⟩ := has_ev 10 l hl
  obtain ⟨K2, g2⟩ := ref_trim l hl
  dsimp only at g1 g2
  refine ⟨K1 + K2, fun k hk => ?_⟩
  show unicodetextref09_free.f k (ofL l) = _
  unfold unicodetextref09_free.f okN
  rw [show (10 : Int) = ((10 : UInt8).toNat : Int) from rfl, g1 k (by omega), Option.bind_some]
  cases l.contains 10 with
  | true => rw [if_pos rfl]; rfl
  | false => rw [if_neg (by decide), g2 k (by omega), Option.bind_some, ofL_toList, ofL_toList]; rfl

theorem refc_loop (n lo hi : Int) (fs : List ByteArray) (note : ByteArray) (hn : fs.length ≤ 1000000) (hf : ∀ f ∈ fs, f.size ≤ 1000000) : ∀ (r p : List ByteArray), fs = p ++ r →
    Ev (fun k => unicodetextref09_Check.l0 k (p.length : Int) n lo hi fs note) (if r.all okFB = true then 0 else 3)
  | [], p, h => by
    refine Ev.step (f := fun _ => some 0) (fun k => ?_) (Ev.now _)
    simp only [unicodetextref09_Check.l0]
    rw [if_neg (by rw [h]; simp)]
  | f :: r, p, h => by
    have hlen : p.length + (r.length + 1) = fs.length := by rw [h]; simp
    have hx : rdOf ByteArray.empty fs (p.length : Int) = ofL f.data.toList := by rw [ofL_eq, h]; simp [rdOf]
    have hfs : f.data.toList.length ≤ 1000000 := by have := hf f (by rw [h]; simp); simpa using this
    obtain ⟨K1, g1⟩ := free_ev f.data.toList hfs
    obtain ⟨K2, g2⟩ := has_ev 59 f.data.toList hfs
    obtain ⟨K3, g3⟩ := has_ev 35 f.data.toList hfs
    obtain ⟨K4, g4⟩ := refc_loop n lo hi fs note hn hf r (p ++ [f]) (by rw [h]; simp)
    dsimp only at g1 g2 g3 g4
    rw [List.length_append, List.length_singleton] at g4
    refine ⟨K1 + K2 + K3 + K4 + 1, fun k hk => ?_⟩
    obtain ⟨k, rfl⟩ : ∃ m, k = m + 1 := ⟨k - 1, by omega⟩
    show unicodetextref09_Check.l0 (k + 1) (p.length : Int) n lo hi fs note = _
    simp only [unicodetextref09_Check.l0]
    rw [if_pos (by omega), if_pos (by omega), hx, g1 k (by omega), Option.bind_some, List.all_cons]
    unfold okFB okF
    cases okN f.data.toList with
    | false => rw [if_neg (by decide)]; simp
    | true =>
      rw [if_pos rfl, show (59 : Int) = ((59 : UInt8).toNat : Int) from rfl, g2 k (by omega), Option.bind_some]
      cases f.data.toList.contains 59 with
      | true => rw [if_pos rfl]; simp
      | false =>
        rw [if_neg (by decide), show (35 : Int) = ((35 : UInt8).toNat : Int) from rfl, g3 k (by omega), Option.bind_some]
        cases f.data.toList.contains 35 with
        | true => rw [if_pos rfl]; simp
        | false =>
          rw [if_neg (by decide), wrap_succ _ (by omega), g4 k (by omega)]
          unfold okFB okF
          simp

theorem refc_ev (n lo hi : Int) (fs : List ByteArray) (note : ByteArray) (hn : fs.length ≤ 1000000) (hf : ∀ f ∈ fs, f.size ≤ 1000000) (hs : note.size ≤ 1000000) :
    Ev (fun k => unicodetextref09_Check.f k n lo hi fs note) (checkS lo hi fs note) := by
  obtain ⟨K1, g1⟩ := free_ev note.data.toList (by simpa using hs)
  obtain ⟨K2, g2⟩ := refc_loop n lo hi fs note hn hf fs [] rfl
  rw [ofL_eq] at g1
  dsimp only at g1 g2
  have hj : ∀ (b : Bool) k, K1 + K2 + 1 ≤ k → unicodetextref09_Check.j0 k b n lo hi fs note = some (if b = true then 1 else if okN note.data.toList = true then (if fs.all okFB = true then 0 else 3) else 3) := by
    intro b k hk
    obtain ⟨k, rfl⟩ : ∃ m, k = m + 1 := ⟨k - 1, by omega⟩
    simp only [unicodetextref09_Check.j0]
    cases b with
    | true => rfl
    | false =>
      rw [if_neg (by decide), if_neg (by decide), g1 k (by omega), Option.bind_some]
      cases okN note.data.toList with
      | true => rw [if_pos rfl, if_pos rfl]; exact g2 k (by omega)
      | false => rfl
  refine ⟨K1 + K2 + 1, fun k hk => ?_⟩
  show unicodetextref09_Check.f k n lo hi fs note = _
  unfold unicodetextref09_Check.f checkS spanOk
  rw [ref_valid, Option.bind_some]
  cases decide (0 ≤ lo ∧ lo ≤ 1114111) with
  | false => rw [if_neg (by decide), hj true k hk]; rfl
  | true =>
    rw [if_pos rfl, ref_valid, Option.bind_some]
    cases decide (0 ≤ hi ∧ hi ≤ 1114111) with
    | false => rw [if_neg (by decide), hj true k hk]; rfl
    | true =>
      rw [if_pos rfl, hj _ k hk]
      cases decide (lo > hi) <;> rfl

/-! ### lines.Check -/
theorem cany (cs : List UInt8) : ∀ l : List UInt8, Lib.containsAny l cs = l.any (cs.contains ·)
  | [] => rfl
  | b :: l => by
    have ih := cany cs l
    have hge := Lib.indexAny_ge cs l
    unfold Lib.containsAny at ih ⊢
    rw [List.any_cons, ← ih, Lib.indexAny]
    cases cs.contains b with
    | true => simp
    | false =>
      simp only [Bool.false_eq_true, if_false, Bool.false_or]
      by_cases hm : Lib.indexAny l cs = -1
      · rw [if_pos (beq_iff_eq.2 hm), hm]
      · rw [if_neg (fun e => hm (beq_iff_eq.1 e)), decide_eq_true (by omega), decide_eq_true (by omega)]
theorem cany3 (l : List UInt8) : Lib.containsAny l [10, 59, 35] = (l.contains 10 || l.contains 59 || l.contains 35) := by
  rw [cany]
  induction l with
  | nil => rfl
  | cons b l ih =>
    rw [List.any_cons, ih]
    simp only [List.contains_cons, List.contains_nil, Bool.or_false]
    rw [show (b == (10 : UInt8)) = ((10 : UInt8) == b) from Bool.beq_comm, show (b == (59 : UInt8)) = ((59 : UInt8) == b) from Bool.beq_comm, show (b == (35 : UInt8)) = ((35 : UInt8) == b) from Bool.beq_comm]
    cases (10 : UInt8) == b <;> cases (59 : UInt8) == b <;> cases (35 : UInt8) == b <;> cases l.contains 10 <;> cases l.contains 59 <;> cases l.contains 35 <;> rfl
theorem cont1 (c : UInt8) (l : List UInt8) : Lib.contains l [c] = l.contains c := by
  have hi : (Lib.index l [c] = -1 ∧ l.contains c = false) ∨ (0 ≤ Lib.index l [c] ∧ l.contains c = true) := by
    rcases cut_at c l with ⟨h1, h2⟩ | ⟨a, b, h1, h2, h3⟩
    · left
      refine ⟨?_, by simpa using h2⟩
      unfold Lib.cut at h1
      have hge := Lib.index_ge l [c]
      by_cases hm : Lib.index l [c] = -1
      · exact hm
      · rw [if_pos (by omega)] at h1
        simp at h1
    · right
      refine ⟨?_, by rw [h1]; simp⟩
      unfold Lib.cut at h3
      by_cases hm : 0 ≤ Lib.index l [c]
      · exact hm
      · rw [if_neg hm] at h3
        simp at h3
  unfold Lib.contains
  rcases hi with ⟨h1, h2⟩ | ⟨h1, h2⟩
  · rw [h1, h2]; rfl
  · rw [h2]; simp [h1]

theorem prog_valid (c : Int) : codepoint_Valid.f c = some (decide (0 ≤ c ∧ c ≤ 1114111)) := by
  unfold codepoint_Valid.f
  by_cases h : c ≥ 0
  · rw [if_pos h]; congr 1; simp; omega
  · rw [if_neg h]; congr 1; simp; omega

theorem b3 : ∀ (x y z t : Bool), (x || y || z) = true → (!x && t && !y && !z) = false := by decide
theorem b3' : ∀ (x y z : Bool), (x || y || z) = false → x = false ∧ y = false ∧ z = false := by decide
theorem linec_loop (n lo hi : Int) (fs : List ByteArray) (note : ByteArray) (hn : fs.length ≤ 1000000) (hf : ∀ f ∈ fs, f.size ≤ 1000000) (hs : note.size ≤ 1000000) : ∀ (r p : List ByteArray), fs = p ++ r →
    Ev (fun k => lines_Check.l0 k fs (fs.length : Int) (p.length : Int) n lo hi fs note) (if okN note.data.toList = true then (if r.all okFB = true then 0 else 3) else 3)
  | [], p, h => by
    refine Ev.step (f := fun _ => some (if okN note.data.toList = true then 0 else 3)) (fun k => ?_) (Ev.now _)
    simp only [lines_Check.l0]
    have ht := trim_f note.data.toList (by simpa using hs)
    rw [ofL_eq] at ht
    rw [if_neg (by rw [h]; simp), ht, show strings_Contains.f note (⟨#[10]⟩ : ByteArray) = some (note.data.toList.contains 10) by unfold strings_Contains.f; rw [if_pos (by omega)]; congr 1; exact cont1 10 _, Option.bind_some]
    unfold okN
    cases hc : note.data.toList.contains 10 with
    | true => rw [if_pos rfl]; simp
    | false =>
      rw [if_neg (by decide), Option.bind_some, ofL_toList, Lib.toList_data]
      by_cases e : trimL note.data.toList = note.data.toList
      · rw [if_pos e, e]; simp
      · rw [if_neg e]; simp [Ne.symm e]
  | f :: r, p, h => by
    have hlen : p.length + (r.length + 1) = fs.length := by rw [h]; simp
    have hx : rdOf ByteArray.empty fs (p.length : Int) = f := by rw [h]; simp [rdOf]
    have hfz : f.size ≤ 1000000 := hf f (by rw [h]; simp)
    obtain ⟨K4, g4⟩ := linec_loop n lo hi fs note hn hf hs r (p ++ [f]) (by rw [h]; simp)
    dsimp only at g4
    rw [List.length_append, List.length_singleton] at g4
    have ht := trim_f f.data.toList (by simpa using hfz)
    rw [ofL_eq] at ht
    refine ⟨K4 + 1, fun k hk => ?_⟩
    obtain ⟨k, rfl⟩ : ∃ m, k = m + 1 := ⟨k - 1, by omega⟩
    show lines_Check.l0 (k + 1) fs (fs.length : Int) (p.length : Int) n lo hi fs note = _
    simp only [lines_Check.l0]
    rw [if_pos (by omega), if_pos (by omega), if_pos (by omega), hx, ht, show strings_ContainsAny.f f (⟨#[10, 59, 35]⟩ : ByteArray) = some (f.data.toList.contains 10 || f.data.toList.contains 59 || f.data.toList.contains 35) by
      unfold strings_ContainsAny.f; rw [if_pos ⟨by omega, by decide, by decide⟩]; congr 1; exact cany3 _, Option.bind_some, List.all_cons]
    rw [show okFB f = (!f.data.toList.contains 10 && (f.data.toList == trimL f.data.toList) && !f.data.toList.contains 59 && !f.data.toList.contains 35) from rfl]
    cases hc : (f.data.toList.contains 10 || f.data.toList.contains 59 || f.data.toList.contains 35) with
    | true =>
      rw [if_pos rfl]
      have := b3 _ _ _ (f.data.toList == trimL f.data.toList) hc
      rw [this]
      simp
    | false =>
      have h3 := b3' _ _ _ hc
      rw [if_neg (by decide), Option.bind_some, ofL_toList, Lib.toList_data, h3.1, h3.2.1, h3.2.2]
      by_cases e : trimL f.data.toList = f.data.toList
      · rw [if_pos e, wrap_succ _ (by omega), g4 k (by omega), e]; simp
      · rw [if_neg e]; simp [Ne.symm e]

theorem linec_ev (n lo hi : Int) (fs : List ByteArray) (note : ByteArray) (hn : fs.length ≤ 1000000) (hf : ∀ f ∈ fs, f.size ≤ 1000000) (hs : note.size ≤ 1000000) :
    Ev (fun k => lines_Check.f k n lo hi fs note) (checkS lo hi fs note) := by
  obtain ⟨K2, g2⟩ := linec_loop n lo hi fs note hn hf hs fs [] rfl
  dsimp only at g2
  have hj : ∀ (b : Bool) k, K2 + 1 ≤ k → lines_Check.j0 k b n lo hi fs note = some (if b = true then 1 else if okN note.data.toList = true then (if fs.all okFB = true then 0 else 3) else 3) := by
    intro b k hk
    obtain ⟨k, rfl⟩ : ∃ m, k = m + 1 := ⟨k - 1, by omega⟩
    simp only [lines_Check.j0]
    cases b with
    | true => rfl
    | false =>
      rw [if_neg (by decide), if_neg (by decide)]
      exact g2 k (by omega)
  refine ⟨K2 + 1, fun k hk => ?_⟩
  show lines_Check.f k n lo hi fs note = _
  unfold lines_Check.f checkS spanOk
  rw [prog_valid, Option.bind_some]
  cases decide (0 ≤ lo ∧ lo ≤ 1114111) with
  | false => rw [if_neg (by decide), hj true k hk]; rfl
  | true =>
    rw [if_pos rfl, prog_valid, Option.bind_some]
    cases decide (0 ≤ hi ∧ hi ≤ 1114111) with
    | false => rw [if_neg (by decide), hj true k hk]; rfl
    | true =>
      rw [if_pos rfl, hj _ k hk]
      cases decide (lo > hi) <;> rfl

end Go.Proofs.YtljhhnpgpiglfaaDoor.Pr
