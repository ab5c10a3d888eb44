/- An argument of the type []api.Line, opened: the lines that its memory holds. -/
import Derived.Test.YtljhhnpgpiglfaaDoorProg
import Derived.Test.YtljhhnpgpiglfaaDoorPrx0
import Derived.WalkKit
import Derived.ProofKit
import Derived.OpenShut
import Derived.SliceStrings
import Derived.Deep.Slices
import Derived.ChangeArms
namespace Go.Proofs.YtljhhnpgpiglfaaDoor.Pr
open Go.RowKit Go.Proofs.YtljhhnpgpiglfaaDoorW.PrintWords Go.Proofs.YtljhhnpgpiglfaaDoorW.PrintLast Go.Proofs.YtljhhnpgpiglfaaDoorW.PrintMore
set_option linter.unusedVariables false
set_option linter.unusedSimpArgs false

section
variable {H : Type} {enc : TypeId × Value → H} {w : World} {base : Nat} {spare : Nat → Bool} {held : Bool}

theorem open_line {fuel : Nat} {cs : List Value} {x : DataW H × List MemPlace} (h : DataW.trod enc Tryd.prog w base spare held fuel 35 cs = some x) : ∃ X : S35, k35.K w X cs := by
  obtain ⟨xs, k, -, -, hl, hxl, hf⟩ := DataW.trod_struct Tryd.underlying35 h
  have hl5 : cs.length = 5 := hl.trans (by kernel_rfl)
  have hx5 : xs.length = 5 := hxl.trans (by kernel_rfl)
  have c3 : Tryd.prog.cellsOf 3 = 1 := by kernel_rfl
  have c9 : Tryd.prog.cellsOf 9 = 1 := by kernel_rfl
  have c31 : Tryd.prog.cellsOf 31 = 1 := by kernel_rfl
  match xs, hx5, cs, hl5 with
  | [y0, y1, y2, y3, y4], _, [v0, v1, v2, v3, v4], _ =>
    have g0 : DataW.trod enc Tryd.prog w base spare held k 3 [v0] = some y0 := by have q := hf 0 _ rfl; simpa [c3, c9, c31] using q
    have g1 : DataW.trod enc Tryd.prog w base spare held k 3 [v1] = some y1 := by have q := hf 1 _ rfl; simpa [c3, c9, c31] using q
    have g2 : DataW.trod enc Tryd.prog w base spare held k 3 [v2] = some y2 := by have q := hf 2 _ rfl; simpa [c3, c9, c31] using q
    have g3 : DataW.trod enc Tryd.prog w base spare held k 31 [v3] = some y3 := by have q := hf 3 _ rfl; simpa [c3, c9, c31] using q
    have g4 : DataW.trod enc Tryd.prog w base spare held k 9 [v4] = some y4 := by have q := hf 4 _ rfl; simpa [c3, c9, c31] using q
    obtain ⟨n0, e0, -, -⟩ := DataW.trod_int Tryd.underlying3 g0
    obtain ⟨n1, e1, -, -⟩ := DataW.trod_int Tryd.underlying3 g1
    obtain ⟨n2, e2, -, -⟩ := DataW.trod_int Tryd.underlying3 g2
    obtain ⟨s4, e4, -, -⟩ := DataW.trod_string Tryd.underlying9 g4
    simp only [List.cons.injEq, and_true] at e0 e1 e2 e4
    subst e0 e1 e2 e4
    rcases Go.ChangeShapes.open_strings Tryd.underlying31 Tryd.underlying9 c9 g3 with ⟨e3, -⟩ | ⟨a, len, cap, ss, e3, -, hlc, hcm, hss, -, hcell, -⟩
    · simp only [List.cons.injEq, and_true] at e3
      subst e3
      exact ⟨⟨n0, n1, n2, [], s4⟩, k35_mk w ⟨n0, n1, n2, [], s4⟩ (A3 := none) (c3 := 0) (Nat.le_refl 0) (Kd.C_nil _ _)⟩
    · simp only [List.cons.injEq, and_true] at e3
      subst e3
      have hle : len ≤ ss.length := by rw [hss]; split <;> omega
      have hlt : (ss.take len).length = len := by rw [List.length_take]; omega
      have hc : Kd.string.C w (some a) (ss.take len).length (ss.take len) := by
        refine Kd.C_of_reads (d := ByteArray.empty) ⟨rfl, by unfold maxLen at hcm; omega, fun _ => ⟨a, rfl, fun j hj => ?_⟩⟩
        rw [hcell j (by omega), List.getD_eq_getElem?_getD, List.getD_eq_getElem?_getD, List.getElem?_take_of_lt (by omega)]
      have hm := k35_mk w ⟨n0, n1, n2, ss.take len, s4⟩ (A3 := some a) (c3 := cap) (by show (ss.take len).length ≤ cap; omega) hc
      rw [show (⟨n0, n1, n2, ss.take len, s4⟩ : S35).f3.length = len from hlt] at hm
      exact ⟨_, hm⟩

theorem open_lines {fuel : Nat} {cs : List Value} {x : DataW H × List MemPlace} (h : DataW.trod enc Tryd.prog w base spare held fuel 23 cs = some x) :
    ∃ (A : Option Addr) (c : Nat) (l0 : List S35), cs = [.slice A l0.length c] ∧ Kd.C k35 w A l0.length l0 ∧ l0.length ≤ c := by
  have c35 : Tryd.prog.cellsOf 35 = 5 := by kernel_rfl
  rcases Go.Deep.open_slice Tryd.underlying23 h with ⟨rfl, -⟩ | ⟨a, len, cap, m, n, D, Pl, rfl, -, hlc, hcm, hm, -, hx⟩
  · exact ⟨none, 0, [], rfl, Kd.C_nil _ _, Nat.le_refl 0⟩
  · rw [c35] at hx
    have hlm : len ≤ m := by rw [hm]; split <;> omega
    have each : ∀ i, i < len → ∃ q : S35 × List Value, q.2.length = 5 ∧ k35.K w q.1 q.2 ∧ ∀ j u, q.2[j]? = some u → w.cell? (a.add (i * 5 + j)) = some u := by
      intro i hi
      obtain ⟨cs', h1, h2⟩ := hx i (by omega)
      obtain ⟨X, hX⟩ := open_line h2
      obtain ⟨_, hlen, hcell⟩ := World.cells?_some h1
      refine ⟨(X, cs'), hlen, hX, fun j u hj => ?_⟩
      have hj5 : j < 5 := by
        have := (List.getElem?_eq_some_iff.1 hj).1
        dsimp only at this
        omega
      have := hcell j hj5
      rw [Go.Deep.add_add] at this
      exact this.trans hj
    letI : Inhabited (S35 × List Value) := ⟨(z35, [])⟩
    obtain ⟨q, hq⟩ := Go.Deep.choose_lt each
    refine ⟨some a, cap, (List.range len).map fun i => (q i).1, by simp, ?_, by simpa using hlc⟩
    refine ⟨rfl, by simp; unfold maxLen at hcm; omega, fun _ => ⟨a, rfl, fun j p hj => ?_⟩⟩
    obtain ⟨hjl, hjp⟩ := List.getElem?_eq_some_iff.1 hj
    simp only [List.length_map, List.length_range] at hjl
    simp only [List.getElem_map, List.getElem_range] at hjp
    subst hjp
    exact ⟨(q j).2, (hq j hjl).1, (hq j hjl).2.1, (hq j hjl).2.2⟩
end

end Go.Proofs.YtljhhnpgpiglfaaDoor.Pr
