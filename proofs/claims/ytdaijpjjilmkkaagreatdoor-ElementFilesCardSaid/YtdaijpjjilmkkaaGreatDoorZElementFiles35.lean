/- Texts of the claim ElementFiles, joined: HOpen, HLaid. -/
import Derived.Test.YtdaijpjjilmkkaaGreatDoorProg
import Derived.Test.YtdaijpjjilmkkaaGreatDoorZElementFiles22
import Derived.Test.YtdaijpjjilmkkaaGreatDoorZElementFiles28
import Derived.WalkKit
import Derived.ProofKit
import Derived.OpenShut
import Derived.SliceStrings
import Derived.Deep.Slices
import Derived.ChangeArms
import Derived.Test.YtdaijpjjilmkkaaGreatDoorZElementFiles0
import Derived.Test.YtdaijpjjilmkkaaGreatDoorZElementFiles26
import Derived.Test.YtdaijpjjilmkkaaGreatDoorRows
import Derived.Lib.LaidTab
import Derived.Lib.LaidU8
import Derived.LaidMore
import Derived.MakeChecks
import Derived.Stop.LaidErr
/- Arguments of the types api.Element, []api.Element and api.Collation, opened: what their memory holds. -/
namespace Go.Proofs.YtdaijpjjilmkkaaGreatDoor.Pr
open Go.RowKit Go.Proofs.YtdaijpjjilmkkaaGreatDoorW.PrintWords Go.Proofs.YtdaijpjjilmkkaaGreatDoorW.PrintLast Go.Proofs.YtdaijpjjilmkkaaGreatDoorW.PrintMore
set_option linter.unusedVariables false
set_option linter.unusedSimpArgs false
section
variable {H : Type} {enc : TypeId × Value → H} {w : World} {base : Nat} {spare : Nat → Bool} {held : Bool}
theorem open_rows {α : Type} (z : α) (d : Kd α) (Pr : α → Prop) {t e : TypeId} (ht : Tryz.prog.underlying t = some (.slice e)) (hce : Tryz.prog.cellsOf e = d.sz)
    (hopen : ∀ (fuel : Nat) (cs : List Value) (x : DataW H × List MemPlace), DataW.trod enc Tryz.prog w base spare held fuel e cs = some x → ∃ X, d.K w X cs ∧ Pr X)
    {fuel : Nat} {cs : List Value} {x : DataW H × List MemPlace} (h : DataW.trod enc Tryz.prog w base spare held fuel t cs = some x) :
    ∃ (A : Option Addr) (c : Nat) (l : List α), cs = [.slice A l.length c] ∧ Kd.C d w A l.length l ∧ l.length ≤ c ∧ ∀ X ∈ l, Pr X := by
  rcases Go.Deep.open_slice ht h with ⟨rfl, -⟩ | ⟨a, len, cap, m, n, D, Pl, rfl, -, hlc, hcm, hm, -, hx⟩
  · exact ⟨none, 0, [], rfl, Kd.C_nil _ _, Nat.le_refl 0, by simp⟩
  · (rw [hce] at hx); (have hlm : len ≤ m := by rw [hm]; split <;> omega)
    have each : ∀ i, i < len → ∃ q : α × List Value, q.2.length = d.sz ∧ (d.K w q.1 q.2 ∧ Pr q.1) ∧ ∀ j u, q.2[j]? = some u → w.cell? (a.add (i * d.sz + j)) = some u := by
      (intro i hi); (obtain ⟨cs', h1, h2⟩ := hx i (by omega)); (obtain ⟨X, hX⟩ := hopen _ _ _ h2); (obtain ⟨_, hlen, hcell⟩ := World.cells?_some h1); (refine ⟨(X, cs'), hlen, hX, fun j u hj => ?_⟩)
      have hj5 : j < d.sz := by
        (have := (List.getElem?_eq_some_iff.1 hj).1); (dsimp only at this); (omega)
      (have := hcell j hj5); (rw [Go.Deep.add_add] at this); (exact this.trans hj)
    letI : Inhabited (α × List Value) := ⟨(z, [])⟩
    (obtain ⟨q, hq⟩ := Go.Deep.choose_lt each); (refine ⟨some a, cap, (List.range len).map fun i => (q i).1, by simp, ?_, by simpa using hlc, ?_⟩)
    · (refine ⟨rfl, by simp; unfold maxLen at hcm; omega, fun _ => ⟨a, rfl, fun j p hj => ?_⟩⟩); (obtain ⟨hjl, hjp⟩ := List.getElem?_eq_some_iff.1 hj); (simp only [List.length_map, List.length_range] at hjl); (simp only [List.getElem_map, List.getElem_range] at hjp); (subst hjp); (exact ⟨(q j).2, (hq j hjl).1, (hq j hjl).2.1.1, (hq j hjl).2.2⟩)
    · (intro X hX); (obtain ⟨i, hi, rfl⟩ := List.mem_map.1 hX); (exact (hq i (List.mem_range.1 hi)).2.1.2)
theorem open_nums {fuel : Nat} {cs : List Value} {x : DataW H × List MemPlace} (h : DataW.trod enc Tryz.prog w base spare held fuel 47 cs = some x) :
    ∃ (A : Option Addr) (c : Nat) (l : List Int), cs = [.slice A l.length c] ∧ Kd.C (Kd.int .i64) w A l.length l ∧ l.length ≤ c := by
  rcases Go.ChangeShapes.open_ints Tryz.underlying47 Tryz.underlying3 (by kernel_rfl) h with ⟨rfl, -⟩ | ⟨a, len, cap, zs, rfl, -, hlc, hcm, hz, -, hcell, -⟩
  · exact ⟨none, 0, [], rfl, Kd.C_nil _ _, Nat.le_refl 0⟩
  · (have hle : len ≤ zs.length := by rw [hz]; split <;> omega); (have hlt : (zs.take len).length = len := by rw [List.length_take]; omega); (refine ⟨some a, cap, zs.take len, by rw [hlt], ?_, by omega⟩); (refine Kd.C_of_reads (d := (0 : Int)) ⟨rfl, by unfold maxLen at hcm; omega, fun _ => ⟨a, rfl, fun j hj => ?_⟩⟩); (rw [hcell j (by omega), List.getD_eq_getElem?_getD, List.getD_eq_getElem?_getD, List.getElem?_take_of_lt (by omega)])
theorem wf_i64 {n : Int} (h : (Lit.int .i64 n).wf = true) : i64B n = true := by
  have h2 : -9223372036854775808 ≤ n ∧ n ≤ 9223372036854775807 := by
    (have h3 : IntKind.i64.min ≤ n ∧ n ≤ 9223372036854775807 := by simpa [Lit.wf] using h); (exact h3)
  exact decide_eq_true h2
set_option maxRecDepth 100000 in
theorem open_element {fuel : Nat} {cs : List Value} {x : DataW H × List MemPlace} (h : DataW.trod enc Tryz.prog w base spare held fuel 44 cs = some x) :
    ∃ (a b c : Int) (d : Bool), cs = [.int .i64 a, .int .i64 b, .int .i64 c, .bool d] := by
  (obtain ⟨xs, k, -, -, hl, hxl, hf⟩ := DataW.trod_struct Tryz.underlying44 h); (have hl5 : cs.length = 4 := hl.trans (by kernel_rfl)); (have hx5 : xs.length = 4 := hxl.trans (by kernel_rfl)); (have c3 : Tryz.prog.cellsOf 3 = 1 := by kernel_rfl); (have c4 : Tryz.prog.cellsOf 4 = 1 := by kernel_rfl)
  match xs, hx5, cs, hl5 with
  | [y0, y1, y2, y3], _, [v0, v1, v2, v3], _ =>
    (have g0 : DataW.trod enc Tryz.prog w base spare held k 3 [v0] = some y0 := by have q := hf 0 _ rfl; simpa [c3, c4] using q); (have g1 : DataW.trod enc Tryz.prog w base spare held k 3 [v1] = some y1 := by have q := hf 1 _ rfl; simpa [c3, c4] using q); (have g2 : DataW.trod enc Tryz.prog w base spare held k 3 [v2] = some y2 := by have q := hf 2 _ rfl; simpa [c3, c4] using q); (have g3 : DataW.trod enc Tryz.prog w base spare held k 4 [v3] = some y3 := by have q := hf 3 _ rfl; simpa [c3, c4] using q); (obtain ⟨n0, e0, -, -⟩ := DataW.trod_int Tryz.underlying3 g0); (obtain ⟨n1, e1, -, -⟩ := DataW.trod_int Tryz.underlying3 g1); (obtain ⟨n2, e2, -, -⟩ := DataW.trod_int Tryz.underlying3 g2); (obtain ⟨b3, e3, -⟩ := DataW.trod_bool Tryz.underlying4 g3); (simp only [List.cons.injEq, and_true] at e0 e1 e2 e3); (subst e0 e1 e2 e3); (exact ⟨n0, n1, n2, b3, rfl⟩)
theorem open_elements {fuel : Nat} {cs : List Value} {x : DataW H × List MemPlace} (h : DataW.trod enc Tryz.prog w base spare held fuel 23 cs = some x) :
    ∃ (A : Option Addr) (c : Nat) (l : List S44), cs = [.slice A l.length c] ∧ Kd.C k44 w A l.length l ∧ l.length ≤ c := by
  obtain ⟨A, c, l, h1, h2, h3, -⟩ := open_rows z44 k44 (fun _ => True) Tryz.underlying23 (by kernel_rfl) (fun fuel cs x h => by
    obtain ⟨a, b, c, d, rfl⟩ := open_element h
    exact ⟨⟨a, b, c, d⟩, k44_mk w ⟨a, b, c, d⟩, trivial⟩) h
  exact ⟨A, c, l, h1, h2, h3⟩
set_option maxRecDepth 100000 in
theorem open_entries {fuel : Nat} {cs : List Value} {x : DataW H × List MemPlace} (h : DataW.trod enc Tryz.prog w base spare held fuel 32 cs = some x) :
    ∃ (A : Option Addr) (c : Nat) (l : List S49), cs = [.slice A l.length c] ∧ Kd.C k49 w A l.length l ∧ l.length ≤ c := by
  obtain ⟨A, c, l, h1, h2, h3, -⟩ := open_rows z49 k49 (fun _ => True) Tryz.underlying32 (by kernel_rfl) (fun fuel cs x h => by
    (obtain ⟨xs, k, -, -, hl, hxl, hf⟩ := DataW.trod_struct Tryz.underlying49 h); (have hl5 : cs.length = 2 := hl.trans (by kernel_rfl)); (have hx5 : xs.length = 2 := hxl.trans (by kernel_rfl)); (have c3 : Tryz.prog.cellsOf 47 = 1 := by kernel_rfl); (have c4 : Tryz.prog.cellsOf 23 = 1 := by kernel_rfl)
    match xs, hx5, cs, hl5 with
    | [y0, y1], _, [v0, v1], _ =>
      (have g0 : DataW.trod enc Tryz.prog w base spare held k 47 [v0] = some y0 := by have q := hf 0 _ rfl; simpa [c3, c4] using q); (have g1 : DataW.trod enc Tryz.prog w base spare held k 23 [v1] = some y1 := by have q := hf 1 _ rfl; simpa [c3, c4] using q); (obtain ⟨A0, d0, l0, e0, m0, n0⟩ := open_nums g0); (obtain ⟨A1, d1, l1, e1, m1, n1⟩ := open_elements g1); (simp only [List.cons.injEq, and_true] at e0 e1); (subst e0 e1)
      exact ⟨⟨l0, l1⟩, k49_mk w ⟨l0, l1⟩ n0 m0 n1 m1, trivial⟩) h
  exact ⟨A, c, l, h1, h2, h3⟩
set_option maxRecDepth 100000 in
theorem open_groups {fuel : Nat} {cs : List Value} {x : DataW H × List MemPlace} (h : DataW.trod enc Tryz.prog w base spare held fuel 33 cs = some x) :
    ∃ (A : Option Addr) (c : Nat) (l : List S46), cs = [.slice A l.length c] ∧ Kd.C k46 w A l.length l ∧ l.length ≤ c ∧ ∀ g ∈ l, i64B g.f1 = true ∧ i64B g.f2 = true := by
  exact open_rows z46 k46 (fun g => i64B g.f1 = true ∧ i64B g.f2 = true) Tryz.underlying33 (by kernel_rfl) (fun fuel cs x h => by
    (obtain ⟨xs, k, -, -, hl, hxl, hf⟩ := DataW.trod_struct Tryz.underlying46 h); (have hl5 : cs.length = 3 := hl.trans (by kernel_rfl)); (have hx5 : xs.length = 3 := hxl.trans (by kernel_rfl)); (have c3 : Tryz.prog.cellsOf 3 = 1 := by kernel_rfl); (have c4 : Tryz.prog.cellsOf 9 = 1 := by kernel_rfl)
    match xs, hx5, cs, hl5 with
    | [y0, y1, y2], _, [v0, v1, v2], _ =>
      (have g0 : DataW.trod enc Tryz.prog w base spare held k 9 [v0] = some y0 := by have q := hf 0 _ rfl; simpa [c3, c4] using q); (have g1 : DataW.trod enc Tryz.prog w base spare held k 3 [v1] = some y1 := by have q := hf 1 _ rfl; simpa [c3, c4] using q); (have g2 : DataW.trod enc Tryz.prog w base spare held k 3 [v2] = some y2 := by have q := hf 2 _ rfl; simpa [c3, c4] using q); (obtain ⟨s0, e0, -, -⟩ := DataW.trod_string Tryz.underlying9 g0); (obtain ⟨n1, e1, -, w1⟩ := DataW.trod_int Tryz.underlying3 g1); (obtain ⟨n2, e2, -, w2⟩ := DataW.trod_int Tryz.underlying3 g2); (simp only [List.cons.injEq, and_true] at e0 e1 e2); (subst e0 e1 e2)
      exact ⟨⟨s0, n1, n2⟩, k46_mk w ⟨s0, n1, n2⟩, wf_i64 w1, wf_i64 w2⟩) h
set_option maxRecDepth 100000 in
theorem open_collation {fuel : Nat} {cs : List Value} {x : DataW H × List MemPlace} (h : DataW.trod enc Tryz.prog w base spare held fuel 35 cs = some x) :
    ∃ (A0 : Option Addr) (c0 : Nat) (l0 : List S49) (A1 : Option Addr) (c1 : Nat) (l1 : List S46) (a b c : Int),
      cs = [.slice A0 l0.length c0, .slice A1 l1.length c1, .int .i64 a, .int .i64 b, .int .i64 c] ∧ Kd.C k49 w A0 l0.length l0 ∧ l0.length ≤ c0 ∧ Kd.C k46 w A1 l1.length l1 ∧ l1.length ≤ c1 ∧
        (∀ g ∈ l1, i64B g.f1 = true ∧ i64B g.f2 = true) ∧ i64B a = true ∧ i64B b = true ∧ i64B c = true := by
  (obtain ⟨xs, k, -, -, hl, hxl, hf⟩ := DataW.trod_struct Tryz.underlying35 h); (have hl5 : cs.length = 5 := hl.trans (by kernel_rfl)); (have hx5 : xs.length = 5 := hxl.trans (by kernel_rfl)); (have c3 : Tryz.prog.cellsOf 3 = 1 := by kernel_rfl); (have c4 : Tryz.prog.cellsOf 32 = 1 := by kernel_rfl); (have c5 : Tryz.prog.cellsOf 33 = 1 := by kernel_rfl)
  match xs, hx5, cs, hl5 with
  | [y0, y1, y2, y3, y4], _, [v0, v1, v2, v3, v4], _ =>
    (have g0 : DataW.trod enc Tryz.prog w base spare held k 32 [v0] = some y0 := by have q := hf 0 _ rfl; simpa [c3, c4, c5] using q); (have g1 : DataW.trod enc Tryz.prog w base spare held k 33 [v1] = some y1 := by have q := hf 1 _ rfl; simpa [c3, c4, c5] using q); (have g2 : DataW.trod enc Tryz.prog w base spare held k 3 [v2] = some y2 := by have q := hf 2 _ rfl; simpa [c3, c4, c5] using q); (have g3 : DataW.trod enc Tryz.prog w base spare held k 3 [v3] = some y3 := by have q := hf 3 _ rfl; simpa [c3, c4, c5] using q); (have g4 : DataW.trod enc Tryz.prog w base spare held k 3 [v4] = some y4 := by have q := hf 4 _ rfl; simpa [c3, c4, c5] using q); (obtain ⟨A0, d0, l0, e0, m0, n0⟩ := open_entries g0); (obtain ⟨A1, d1, l1, e1, m1, n1, w1⟩ := open_groups g1); (obtain ⟨n2, e2, -, w2⟩ := DataW.trod_int Tryz.underlying3 g2); (obtain ⟨n3, e3, -, w3⟩ := DataW.trod_int Tryz.underlying3 g3); (obtain ⟨n4, e4, -, w4⟩ := DataW.trod_int Tryz.underlying3 g4); (simp only [List.cons.injEq, and_true] at e0 e1 e2 e3 e4); (subst e0 e1 e2 e3 e4); (exact ⟨A0, d0, l0, A1, d1, l1, n2, n3, n4, rfl, m0, n0, m1, n1, w1, wf_i64 w2, wf_i64 w3, wf_i64 w4⟩)
end
end Go.Proofs.YtdaijpjjilmkkaaGreatDoor.Pr

/- What the rows' listed variables give the contracts; a world that meets the list. -/
namespace Go.Proofs.YtdaijpjjilmkkaaGreatDoor.Pr
open Go.RowKit
set_option linter.unusedVariables false
set_option linter.unusedSimpArgs false
def laidL : List (String × DataW Unit) := Rows.elementParsesRow.laid
theorem plain_of {W : World} (h : laidMetH Tryz.prog laidL W) : laidMet Tryz.prog laidL W := by
  (rw [Go.MakeChecks.laidMetH_plain Tryz.prog laidL W (by kernel_rfl)] at h); (exact h)
theorem star : "*" ++ "errors.errorString" = "*errors.errorString" := by decide
theorem rowErr (u : TypeId) (h : Tryz.prog.typeName? 3 u = some "*errors.errorString") : u = 168 :=
  typeName_ptr_named (nm := "errors.errorString") (by rw [star]; kernel_rfl) (by kernel_rfl) (by decide) u (by rw [star]; exact h)
theorem gw_of {W : World} (h : laidMetH Tryz.prog laidL W) (hsh : W.ShapedOpen Tryz.prog) : GW W := by
  (have h0 := plain_of h); (have h3 := (laidMet.tail (laidMet.tail h0))); (have h5 := laidMet.tail (laidMet.tail h3)); (have h6 := laidMet.tail h5); (refine ⟨?_, ?_, ?_, ?_⟩)
  · exact Go.Proofs.cell_of_shapedOpen_int (zero := #[.int .i64 0]) (t := 3) hsh (of_decide_eq_true (by kernel_rfl)) (by kernel_rfl) rfl (by kernel_rfl) (by kernel_rfl) Tryz.underlying3
  · exact Lib.tabIs_of_head (g := 1) (t := 143) (e := 130) (n := 20) (by kernel_rfl) (by kernel_rfl) (by kernel_rfl) (by kernel_rfl) (by kernel_rfl) (by kernel_rfl) h3
  · (obtain ⟨a, s, hv, -⟩ := laid_sentinel h6 (g := 4) (ti := 61) (by kernel_rfl) (by kernel_rfl) Tryz.underlying61 rowErr Tryz.underlying168 Tryz.underlying170 rfl rfl Tryz.underlying9 (by kernel_rfl) (by kernel_rfl)); (exact ⟨_, _, by have h0 := World.var?_cell (g := 4) (by kernel_rfl) hv 0; simpa using h0⟩)
  · (obtain ⟨a, s, hv, -⟩ := laid_sentinel h5 (g := 5) (ti := 61) (by kernel_rfl) (by kernel_rfl) Tryz.underlying61 rowErr Tryz.underlying168 Tryz.underlying170 rfl rfl Tryz.underlying9 (by kernel_rfl) (by kernel_rfl)); (exact ⟨_, _, by have h0 := World.var?_cell (g := 5) (by kernel_rfl) hv 0; simpa using h0⟩)
noncomputable def laidWorld (os : Os) : World :=
  { World.doorLaid Tryz.prog 400 os with heap := (World.doorLaid Tryz.prog 400 os).heap.modify 2 fun
      | .cells _ t frozen => .cells (Lib.firstTab.map fun z => Value.int .u8 z).toArray t frozen
      | o => o }
theorem laid_met (os : Os) (args : Array Value) : laidMet Tryz.prog laidL ((laidWorld os).forCall (fun _ _ => 0) ⟨#[], args, []⟩).memory :=
  laidMet_of_run' 8 (by kernel_rfl) (by kernel_rfl)
end Go.Proofs.YtdaijpjjilmkkaaGreatDoor.Pr
