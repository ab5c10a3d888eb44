/- What the contracts of this claim ask of the package-level variables of Go's library: internal/bytealg.MaxLen holds an integer. -/
import Derived.Test.YtljhhnpgpiglfaaDoorProg
import Derived.Below
namespace Go.Proofs.YtljhhnpgpiglfaaDoor.Pr
open Go.RowKit

def GW (w : World) : Prop := ∃ m : Int, w.cell? ⟨0, 0, none⟩ = some (.int .i64 m)
theorem GW.below {w w1 : World} (h : GW w) (hb : Below w.heap.size w w1) : GW w1 := by
  obtain ⟨m, hm⟩ := h
  exact ⟨m, (hb.cell (World.block_lt_of_cell? w _ hm)).trans hm⟩

/-- A string held against the empty one, as the walk spells it. -/
theorem ne_nil_bool (l : List UInt8) : (!l.isEmpty) = (l != []) := by cases l <;> rfl
theorem eq_nil_bool (l : List UInt8) : l.isEmpty = (l == []) := by cases l <;> rfl

end Go.Proofs.YtljhhnpgpiglfaaDoor.Pr
