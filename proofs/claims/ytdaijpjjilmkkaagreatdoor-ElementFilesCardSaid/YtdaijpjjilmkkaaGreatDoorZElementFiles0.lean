/- Texts of the claim ElementFiles, joined: HGlob. -/
import Derived.Test.YtdaijpjjilmkkaaGreatDoorProg
import Derived.Below
import Derived.Lib.LaidTab
import Derived.Lib.ItoaMem
/- What the contracts of this claim ask of the package-level variables of Go's library: internal/bytealg.MaxLen holds an integer, the table of the powers of ten is as it is, the two errors of strconv hold something. -/
namespace Go.Proofs.YtdaijpjjilmkkaaGreatDoor.Pr
open Go.RowKit
structure GW (w : World) : Prop where
  len : ∃ m : Int, w.cell? ⟨0, 0, none⟩ = some (.int .i64 m)
  tab : Lib.TabIs Tryz.prog w "internal/strconv.uint64pow10" .u64 Lib.pow10Tab
  syn : ∃ te pe, w.cell? ⟨4, 0, none⟩ = some (.iface te pe)
  ran : ∃ te pe, w.cell? ⟨5, 0, none⟩ = some (.iface te pe)
theorem cell_below {w w1 : World} {a : Addr} {v : Value} (h : w.cell? a = some v) (hb : Below w.heap.size w w1) : w1.cell? a = some v := (hb.cell (World.block_lt_of_cell? w _ h)).trans h
theorem tab_below {w w1 : World} (h : Lib.TabIs Tryz.prog w "internal/strconv.uint64pow10" .u64 Lib.pow10Tab) (hb : Below w.heap.size w w1) : Lib.TabIs Tryz.prog w1 "internal/strconv.uint64pow10" .u64 Lib.pow10Tab := by
  have hg : Tryz.prog.globalNamed "internal/strconv.uint64pow10" = some 1 := by kernel_rfl
  have hlt : 1 < w.heap.size := by
    (have := h.cell hg 0 (by decide)); (exact World.block_lt_of_cell? w _ this)
  (unfold Lib.TabIs at h ⊢); (rw [← h]); (unfold World.var?); (rw [hg]); (rw [Option.bind_some, Option.bind_some, hb.block _ hlt])
theorem GW.below {w w1 : World} (h : GW w) (hb : Below w.heap.size w w1) : GW w1 :=
  ⟨h.len.elim fun m hm => ⟨m, cell_below hm hb⟩, tab_below h.tab hb, h.syn.elim fun a h => h.elim fun b hm => ⟨a, b, cell_below hm hb⟩, h.ran.elim fun a h => h.elim fun b hm => ⟨a, b, cell_below hm hb⟩⟩
theorem ne_nil_bool (l : List UInt8) : (!l.isEmpty) = (l != []) := by cases l <;> rfl
theorem eq_nil_bool (l : List UInt8) : l.isEmpty = (l == []) := by cases l <;> rfl
end Go.Proofs.YtdaijpjjilmkkaaGreatDoor.Pr
