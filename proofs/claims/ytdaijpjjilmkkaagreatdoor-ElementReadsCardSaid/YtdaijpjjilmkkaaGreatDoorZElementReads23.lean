/- Texts of the claim ElementReads, joined: HGlob, Prx0, Prx1, Prx12, Prx16, Prx17, Prx13. -/
import Derived.Test.YtdaijpjjilmkkaaGreatDoorProg
import Derived.Below
import Derived.Lib.LaidTab
import Derived.Lib.ItoaMem
import Derived.Deep.Draws
import Derived.Deep.AppendLies
import Derived.Maps.AppendAt
import Derived.OwnWalk
import Derived.Laws.BytesArg
import Derived.Laws.MakeOwn
import Derived.Laws.OwnMore
import Derived.Deep.OwnRows
import Derived.Tactics
import Derived.Lib.ConvBytes
import Derived.Laws.Slices
import Derived.WalkKit
import Derived.KernelRfl
import Derived.RowKit3
import Derived.Deep.LoopGhost
import Derived.Deep.QuietTactic
import Derived.BigQuiet
import Derived.WideLaws
import Derived.Deep.DeepCutAuto
import Derived.Deep.CutBlock
import Derived.Deep.RegionHeld3
import Derived.Laws.Rows
import Derived.Lib.AppendStr
import Derived.ArgAppend
import Derived.Laws.IdiomCopy
import Derived.OrdersHeld
import Derived.Laws.BitsLemmas
import Derived.RowKit
import Derived.WalkMore
import Derived.Test.YtdaijpjjilmkkaaGreatDoorZElementReads0
import Derived.Test.YtdaijpjjilmkkaaGreatDoorZElementReads1
import Derived.Test.YtdaijpjjilmkkaaGreatDoorZElementReads2
import Derived.Test.YtdaijpjjilmkkaaGreatDoorZElementReads3
import Derived.Test.YtdaijpjjilmkkaaGreatDoorZElementReads4
import Derived.Test.YtdaijpjjilmkkaaGreatDoorZElementReads5
import Derived.Test.YtdaijpjjilmkkaaGreatDoorZElementReads6
import Derived.Test.YtdaijpjjilmkkaaGreatDoorZElementReads7
import Derived.Test.YtdaijpjjilmkkaaGreatDoorZElementReads8
import Derived.Test.YtdaijpjjilmkkaaGreatDoorZElementReads9
import Derived.Test.YtdaijpjjilmkkaaGreatDoorZElementReads10
import Derived.Test.YtdaijpjjilmkkaaGreatDoorZElementReads11
import Derived.Test.YtdaijpjjilmkkaaGreatDoorZElementReads12
import Derived.Test.YtdaijpjjilmkkaaGreatDoorZElementReads13
import Derived.Test.YtdaijpjjilmkkaaGreatDoorZElementReads14
import Derived.Test.YtdaijpjjilmkkaaGreatDoorZElementReads15
import Derived.Test.YtdaijpjjilmkkaaGreatDoorZElementReads16
import Derived.Test.YtdaijpjjilmkkaaGreatDoorZElementReads17
import Derived.Test.YtdaijpjjilmkkaaGreatDoorZElementReads18
import Derived.Test.YtdaijpjjilmkkaaGreatDoorZElementReads19
import Derived.Test.YtdaijpjjilmkkaaGreatDoorZElementReads20
import Derived.Test.YtdaijpjjilmkkaaGreatDoorZElementReads22
/- What the contracts of this claim ask of the package-level variables of Go's library: internal/bytealg.MaxLen holds an integer, the table of the powers of ten is as it is, the two errors of strconv hold something. -/
namespace Go.Proofs.YtdaijpjjilmkkaaGreatDoor.Pr
open Go.RowKit
structure GW (w : World) : Prop where
  len : ∃ m : Int, w.cell? ⟨0, 0, none⟩ = some (.int .i64 m)
  tab : Lib.TabIs Tryz.prog w "internal/strconv.uint64pow10" .u64 Lib.pow10Tab
  syn : ∃ te pe, w.cell? ⟨4, 0, none⟩ = some (.iface te pe)
  ran : ∃ te pe, w.cell? ⟨5, 0, none⟩ = some (.iface te pe)
theorem cell_below {w w1 : World} {a : Addr} {v : Value} (h : w.cell? a = some v) (hb : Below w.heap.size w w1) : w1.cell? a = some v := (hb.cell (World.block_lt_of_cell? w _ h)).trans h
theorem tab_below {w w1 : World} (h : Lib.TabIs Tryz.prog w "internal/strconv.uint64pow10" .u64 Lib.pow10Tab) (hb : Below w.heap.size w w1) : Lib.TabIs Tryz.prog w1 "internal/strconv.uint64pow10" .u64 Lib.pow10Tab := by
  have hg : Tryz.prog.globalNamed "internal/strconv.uint64pow10" = some 1 := by kernel_rfl
  have hlt : 1 < w.heap.size := by
    (have := h.cell hg 0 (by decide)); (exact World.block_lt_of_cell? w _ this)
  (unfold Lib.TabIs at h ⊢); (rw [← h]); (unfold World.var?); (rw [hg]); (rw [Option.bind_some, Option.bind_some, hb.block _ hlt])
theorem GW.below {w w1 : World} (h : GW w) (hb : Below w.heap.size w w1) : GW w1 :=
  ⟨h.len.elim fun m hm => ⟨m, cell_below hm hb⟩, tab_below h.tab hb, h.syn.elim fun a h => h.elim fun b hm => ⟨a, b, cell_below hm hb⟩, h.ran.elim fun a h => h.elim fun b hm => ⟨a, b, cell_below hm hb⟩⟩
theorem ne_nil_bool (l : List UInt8) : (!l.isEmpty) = (l != []) := by cases l <;> rfl
theorem eq_nil_bool (l : List UInt8) : l.isEmpty = (l == []) := by cases l <;> rfl
end Go.Proofs.YtdaijpjjilmkkaaGreatDoor.Pr

namespace Go.Proofs.YtdaijpjjilmkkaaGreatDoor.Pr
open Go.RowKit Go.Proofs.YtdaijpjjilmkkaaGreatDoorW.PrintWords Go.Proofs.YtdaijpjjilmkkaaGreatDoorW.PrintLast Go.Proofs.YtdaijpjjilmkkaaGreatDoorW.PrintMore
attribute [local go_sem] max2_int min2_int max_two min_two max_three min_three max_four min_four   -- for this text's walks alone
set_option linter.unusedVariables false
set_option linter.unusedSimpArgs false
def errW : Option Int → Value
  | none => .nilIface
  | some c => .iface 0 (.int .i64 c)
theorem errW_none : errW none = .nilIface := rfl
theorem errW_some (c : Int) : errW (some c) = .iface 0 (.int .i64 c) := rfl
theorem info3 : (Tryz.prog.info? 3).map (fun i => (i.zero, i.size, i.bytes)) = some (some (.int .i64 0), 1, 8) := by kernel_rfl
theorem info9 : (Tryz.prog.info? 9).map (fun i => (i.zero, i.size, i.bytes)) = some (some (.string ⟨#[]⟩), 1, 16) := by kernel_rfl
theorem info44 : (Tryz.prog.info? 44).map (fun i => (i.zero, i.size, i.bytes)) = some (some (.agg #[(.int .i64 0), (.int .i64 0), (.int .i64 0), (.bool false)]), 4, 32) := by kernel_rfl
theorem info46 : (Tryz.prog.info? 46).map (fun i => (i.zero, i.size, i.bytes)) = some (some (.agg #[(.string ⟨#[]⟩), (.int .i64 0), (.int .i64 0)]), 3, 32) := by kernel_rfl
theorem info49 : (Tryz.prog.info? 49).map (fun i => (i.zero, i.size, i.bytes)) = some (some (.agg #[(.slice none 0 0), (.slice none 0 0)]), 2, 48) := by kernel_rfl
structure S44 where
  f0 : Int
  f1 : Int
  f2 : Int
  f3 : Bool
def z44 : S44 := ⟨(0 : Int), (0 : Int), (0 : Int), false⟩
def k44 : Kd S44 := Kd.iso (Kd.pair (Kd.int .i64) (Kd.pair (Kd.int .i64) (Kd.pair (Kd.int .i64) Kd.bool))) (fun x : S44 => (x.f0, x.f1, x.f2, x.f3))
theorem k44_open {w : World} {x : S44} {cs : List Value} (h : k44.K w x cs) : cs = [.int .i64 x.f0, .int .i64 x.f1, .int .i64 x.f2, .bool x.f3] := by
  (obtain ⟨_, _, rfl, rfl, ⟨_, _, rfl, rfl, ⟨_, _, rfl, rfl, rfl⟩⟩⟩ := h); (exact rfl)
theorem k44_mkM (w : World) (base : Nat) (ok : Nat → Prop) (x : S44)  : k44.M w base ok x [.int .i64 x.f0, .int .i64 x.f1, .int .i64 x.f2, .bool x.f3] := ⟨[.int .i64 x.f0], [.int .i64 x.f1, .int .i64 x.f2, .bool x.f3], rfl, rfl, ⟨[.int .i64 x.f1], [.int .i64 x.f2, .bool x.f3], rfl, rfl, ⟨[.int .i64 x.f2], [.bool x.f3], rfl, rfl, rfl⟩⟩⟩
def rd_T44 (xs : List S44) (i : Int) : S44 := xs.getD i.toNat z44
theorem at_T44 {w : World} {A : Option Addr} {n : Nat} {xs : List S44} (h : Kd.C k44 w A n xs) (i : Int) (h0 : 0 ≤ i) (h1 : i < n) : ∃ ad , A = some ad ∧ w.cell? (ad.add (i.toNat * 4)) = some (.int .i64 (rd_T44 xs i).f0) ∧ w.cell? ⟨(ad.add (i.toNat * 4)).block, (ad.add (i.toNat * 4)).off + 1, none⟩ = some (.int .i64 (rd_T44 xs i).f1) ∧ w.cell? ⟨(ad.add (i.toNat * 4)).block, (ad.add (i.toNat * 4)).off + 2, none⟩ = some (.int .i64 (rd_T44 xs i).f2) ∧ w.cell? ⟨(ad.add (i.toNat * 4)).block, (ad.add (i.toNat * 4)).off + 3, none⟩ = some (.bool (rd_T44 xs i).f3) := by
  (obtain ⟨ad, c, e, _, hK, hc0⟩ := Kd.C_get h z44 i h0 h1); (have hc : ∀ j u, c[j]? = some u → w.cell? (ad.add (i.toNat * 4 + j)) = some u := hc0); (obtain rfl := k44_open hK); (exact ⟨ad, e, hc 0 _ rfl, by rw [← add_field _ _ 1 (by omega)]; exact hc 1 _ rfl, by rw [← add_field _ _ 2 (by omega)]; exact hc 2 _ rfl, by rw [← add_field _ _ 3 (by omega)]; exact hc 3 _ rfl⟩)
structure S49 where
  f0 : (List Int)
  f1 : (List S44)
def z49 : S49 := ⟨([] : List Int), ([] : List S44)⟩
def k49 : Kd S49 := Kd.iso (Kd.pair (Kd.slice 3 (Kd.int .i64)) (Kd.slice 44 k44)) (fun x : S49 => (x.f0, x.f1))
theorem k49_open {w : World} {x : S49} {cs : List Value} (h : k49.K w x cs) : ∃ A0 c0 A1 c1, cs = [.slice A0 x.f0.length c0, .slice A1 x.f1.length c1] ∧ x.f0.length ≤ c0 ∧ (Kd.int .i64).C w A0 x.f0.length x.f0 ∧ x.f1.length ≤ c1 ∧ k44.C w A1 x.f1.length x.f1 := by
  (obtain ⟨_, _, rfl, ⟨A0, c0, rfl, l0, g0⟩, ⟨A1, c1, rfl, l1, g1⟩⟩ := h); (exact ⟨A0, c0, A1, c1, rfl, l0, g0, l1, g1⟩)
theorem k49_openM {w : World} {base : Nat} {ok : Nat → Prop} {x : S49} {cs : List Value} (h : k49.M w base ok x cs) : ∃ v0 v1, cs = [v0, v1] ∧ (Kd.int .i64).R 3 w base ok v0 x.f0 ∧ k44.R 44 w base ok v1 x.f1 := by
  (obtain ⟨_, _, rfl, ⟨v0, rfl, g0⟩, ⟨v1, rfl, g1⟩⟩ := h); (exact ⟨v0, v1, rfl, g0, g1⟩)
theorem k49_mkM (w : World) (base : Nat) (ok : Nat → Prop) (x : S49) {v0 : Value} (g0 : (Kd.int .i64).R 3 w base ok v0 x.f0) {v1 : Value} (g1 : k44.R 44 w base ok v1 x.f1) : k49.M w base ok x [v0, v1] := ⟨[v0], [v1], rfl, ⟨v0, rfl, g0⟩, ⟨v1, rfl, g1⟩⟩
def rd_T49 (xs : List S49) (i : Int) : S49 := xs.getD i.toNat z49
theorem at_T49 {w : World} {A : Option Addr} {n : Nat} {xs : List S49} (h : Kd.C k49 w A n xs) (i : Int) (h0 : 0 ≤ i) (h1 : i < n) : ∃ ad A0 c0 A1 c1, A = some ad ∧ w.cell? (ad.add (i.toNat * 2)) = some (.slice A0 (rd_T49 xs i).f0.length c0) ∧ w.cell? ⟨(ad.add (i.toNat * 2)).block, (ad.add (i.toNat * 2)).off + 1, none⟩ = some (.slice A1 (rd_T49 xs i).f1.length c1) ∧ (rd_T49 xs i).f0.length ≤ c0 ∧ (Kd.int .i64).C w A0 (rd_T49 xs i).f0.length (rd_T49 xs i).f0 ∧ (rd_T49 xs i).f1.length ≤ c1 ∧ k44.C w A1 (rd_T49 xs i).f1.length (rd_T49 xs i).f1 := by
  (obtain ⟨ad, c, e, _, hK, hc0⟩ := Kd.C_get h z49 i h0 h1); (have hc : ∀ j u, c[j]? = some u → w.cell? (ad.add (i.toNat * 2 + j)) = some u := hc0); (obtain ⟨A0, c0, A1, c1, rfl, l0, g0, l1, g1⟩ := k49_open hK); (exact ⟨ad, A0, c0, A1, c1, e, hc 0 _ rfl, by rw [← add_field _ _ 1 (by omega)]; exact hc 1 _ rfl, l0, g0, l1, g1⟩)
structure S46 where
  f0 : ByteArray
  f1 : Int
  f2 : Int
def z46 : S46 := ⟨(⟨#[]⟩ : ByteArray), (0 : Int), (0 : Int)⟩
def k46 : Kd S46 := Kd.iso (Kd.pair Kd.string (Kd.pair (Kd.int .i64) (Kd.int .i64))) (fun x : S46 => (x.f0, x.f1, x.f2))
theorem k46_open {w : World} {x : S46} {cs : List Value} (h : k46.K w x cs) : cs = [.string x.f0, .int .i64 x.f1, .int .i64 x.f2] := by
  (obtain ⟨_, _, rfl, rfl, ⟨_, _, rfl, rfl, rfl⟩⟩ := h); (exact rfl)
theorem k46_mkM (w : World) (base : Nat) (ok : Nat → Prop) (x : S46)  : k46.M w base ok x [.string x.f0, .int .i64 x.f1, .int .i64 x.f2] := ⟨[.string x.f0], [.int .i64 x.f1, .int .i64 x.f2], rfl, rfl, ⟨[.int .i64 x.f1], [.int .i64 x.f2], rfl, rfl, rfl⟩⟩
def rd_T46 (xs : List S46) (i : Int) : S46 := xs.getD i.toNat z46
theorem at_T46 {w : World} {A : Option Addr} {n : Nat} {xs : List S46} (h : Kd.C k46 w A n xs) (i : Int) (h0 : 0 ≤ i) (h1 : i < n) : ∃ ad , A = some ad ∧ w.cell? (ad.add (i.toNat * 3)) = some (.string (rd_T46 xs i).f0) ∧ w.cell? ⟨(ad.add (i.toNat * 3)).block, (ad.add (i.toNat * 3)).off + 1, none⟩ = some (.int .i64 (rd_T46 xs i).f1) ∧ w.cell? ⟨(ad.add (i.toNat * 3)).block, (ad.add (i.toNat * 3)).off + 2, none⟩ = some (.int .i64 (rd_T46 xs i).f2) := by
  (obtain ⟨ad, c, e, _, hK, hc0⟩ := Kd.C_get h z46 i h0 h1); (have hc : ∀ j u, c[j]? = some u → w.cell? (ad.add (i.toNat * 3 + j)) = some u := hc0); (obtain rfl := k46_open hK); (exact ⟨ad, e, hc 0 _ rfl, by rw [← add_field _ _ 1 (by omega)]; exact hc 1 _ rfl, by rw [← add_field _ _ 2 (by omega)]; exact hc 2 _ rfl⟩)
structure S35 where
  f0 : (List S49)
  f1 : (List S46)
  f2 : Int
  f3 : Int
  f4 : Int
structure S39 where
  f0 : Int
  f1 : Int
end Go.Proofs.YtdaijpjjilmkkaaGreatDoor.Pr

namespace Go.Proofs.YtdaijpjjilmkkaaGreatDoor.Pr
open Go.RowKit Go.Proofs.YtdaijpjjilmkkaaGreatDoorW.PrintWords Go.Proofs.YtdaijpjjilmkkaaGreatDoorW.PrintLast Go.Proofs.YtdaijpjjilmkkaaGreatDoorW.PrintMore
attribute [local go_sem] max2_int min2_int max_two min_two max_three min_three max_four min_four   -- for this text's walks alone
set_option linter.unusedVariables false
set_option linter.unusedSimpArgs false
theorem eqA39 (d : Nat) (w : World) (x0 y0 : Int) (x1 y1 : Int) :
    (Op.equalIn (d + 2) 39 (.agg #[.int .i64 x0, .int .i64 x1]) (.agg #[.int .i64 y0, .int .i64 y1])).run Tryz.prog w = .ok (x0 == y0 && (x1 == y1)) w := by
  (refine eqA_of Tryz.underlying39 (by kernel_rfl) ?_); (refine eqf_cons (by rfl) (by go_simp; rfl) (by go_simp; rfl) (by go_simp) ?_); (exact eqf_last (by rfl) (by go_simp; rfl) (by go_simp; rfl) (by go_simp))
end Go.Proofs.YtdaijpjjilmkkaaGreatDoor.Pr

namespace Go.Proofs.YtdaijpjjilmkkaaGreatDoor.Pr
open Go.RowKit Go.Proofs.YtdaijpjjilmkkaaGreatDoorW.PrintWords Go.Proofs.YtdaijpjjilmkkaaGreatDoorW.PrintLast Go.Proofs.YtdaijpjjilmkkaaGreatDoorW.PrintMore
attribute [local go_sem] max2_int min2_int max_two min_two max_three min_three max_four min_four   -- for this text's walks alone
set_option linter.unusedVariables false
set_option linter.unusedSimpArgs false
def r42_decimal.f : Nat → Int → Option (ByteArray)
  | 0, _ => none
  | k + 1, a0 => (some (([(wrap64 (48 + (Int.tmod a0 10))) % 256] : List Int) : List Int)).bind fun y150 => (if a0 < 10 then (some (strOfNums y150)) else ((r42_decimal.f k (wrap64 (Int.tdiv a0 10))).bind fun t153 => (if t153.size + (strOfNums y150).size ≤ 9223372036854775807 then (some (t153 ++ (strOfNums y150))) else (none))))
theorem r42_decimal.mono_l : ∀ k, (∀ y0, LeO (r42_decimal.f k y0) (r42_decimal.f (k + 1) y0))
  | 0 => fun _ r h => by simp [r42_decimal.f] at h
  | k + 1 => by
    have ih0 := r42_decimal.mono_l k
    · (intro y0); (unfold r42_decimal.f)
      repeat' first
      | (with_reducible exact ih0 _)
      | (with_reducible exact LeO.refl _)
      | (with_reducible exact LeO.none _)
      | (with_reducible refine LeO.ite ?_ ?_)
      | (with_reducible refine LeO.bind ?_ (fun _ => ?_))
theorem r42_decimal.mono : ∀ a0 k, LeO (r42_decimal.f k a0) (r42_decimal.f (k + 1) a0) := by
  (intro a0 k); (have ih0 := r42_decimal.mono_l k); (exact ih0 a0)
set_option maxHeartbeats 8000000 in
set_option maxRecDepth 100000 in
theorem r42_decimal.calls (k : Nat) : ∀ (a0 : Int) (r : ByteArray) (w : World) (h : r42_decimal.f k a0 = some r),
    Calls Tryz.prog 33 #[.int .i64 a0] w fun e w' => e = .returned (.string r) ∧ Below w.heap.size w w' := by
  induction k using Nat.strongRecOn with
  | _ k ih =>
  intro a0 r w h
  cases k with
  | zero => exact absurd h (by simp [r42_decimal.f])
  | succ k =>
  (simp only [r42_decimal.f] at h); (have HB := Aside0.mk (Below.refl w.heap.size w)); (have H : ((some (([(wrap64 (48 + (Int.tmod a0 10))) % 256] : List Int) : List Int)).bind fun y150 => (if a0 < 10 then (some (strOfNums y150)) else ((r42_decimal.f k (wrap64 (Int.tdiv a0 10))).bind fun t153 => (if t153.size + (strOfNums y150).size ≤ 9223372036854775807 then (some (t153 ++ (strOfNums y150))) else (none))))) = some r := h); (clear h); (obtain ⟨y150, hy150⟩ : ∃ y_ : List Int, y_ = (([(wrap64 (48 + (Int.tmod a0 10))) % 256] : List Int)) := ⟨_, rfl⟩); (replace H : (if a0 < 10 then (some (strOfNums y150)) else ((r42_decimal.f k (wrap64 (Int.tdiv a0 10))).bind fun t153 => (if t153.size + (strOfNums y150).size ≤ 9223372036854775807 then (some (t153 ++ (strOfNums y150))) else (none)))) = some r := by first | (rw [hy150]; with_reducible exact H) | (have H2_ := (Option.bind_some _ _).symm.trans H; rw [hy150]; with_reducible exact H2_) | (have H2_ := (Option.bind_some _ _).symm.trans H; with_reducible exact H2_) | with_reducible exact H | (rw [hy150]; exact H) | exact H); (have Ny150 := Aside0.mk hy150); (clear hy150); (by_cases c2 : a0 < 10)
  · (rw [if_pos c2] at H); (have c2b0 : decide (a0 < 10) = true := decide_eq_true c2); (clear c2); (obtain rfl := Option.some.inj H); (go_enter Tryz.func33, Tryz.ntmps33); (go_wp2_with (first | ((with_reducible refine gate_dst (N := 8) rfl ?_); refine Kd.R_lit (Kd.int .u8) _ 5 ?hg (N := 8) ?hd (xs := ([(wrap64 (48 + (Int.tmod a0 10))) % 256] : List Int)) (inner := [.int .u8 ((wrap64 (48 + (Int.tmod a0 10))) % 256)]) (ok := fun _ => True) (okp := fun _ => True) ?hr ?hp (fun _ hk => hk) trivial (Below.refl _ _) (Nat.le_refl _) (by simp) ?_; (case hd => rfl); (case hg => rfl); (case hr => first | (go_simp; done) | (go_simp; rfl)); (case hp => exact (Reps.one (show Kd.M (Kd.int .u8) _ _ _ ((wrap64 (48 + (Int.tmod a0 10))) % 256) [.int .u8 ((wrap64 (48 + (Int.tmod a0 10))) % 256)] from rfl) (Reps.none _ _))); intro v151 w3 ho4 hb hg_ hnew_; clear hg_ hnew_; (first | rw [← Ny150.out] at ho4 | (simp only [Int.reduceToNat] at ho4; rw [← Ny150.out] at ho4)); have HO152 := Aside0.mk (Kd.R_lower ho4 (below_size Hb)); replace HB := Bs hb; clear hb ho4; have hcv5 := own_string (P := Tryz.prog) Tryz.underlying57 Tryz.underlying5 Tryz.underlying9 (Kd.own_of_R HO152.out)))); (go_ret); (exact ⟨Er, Hb⟩)
  · (rw [if_neg c2] at H); (have c2b0 : decide (a0 < 10) = false := decide_eq_false c2); (clear c2); (replace H := Option.bind_eq_some_iff.mp H); (obtain ⟨t153, A60, H⟩ := H); (replace H : (if t153.size + (strOfNums y150).size ≤ 9223372036854775807 then (some (t153 ++ (strOfNums y150))) else (none)) = some r := H); (have A6 := Aside0.mk A60); (clear A60); (by_cases c7 : t153.size + (strOfNums y150).size ≤ 9223372036854775807)
    · (rw [if_pos c7] at H); (have c7b0 := eq_true c7); (have c7b1 : decide (t153.size + (strOfNums y150).size ≤ 9223372036854775807) = true := decide_eq_true c7); (try have c7b2 : (9223372036854775807 < t153.size + (strOfNums y150).size) = False := eq_false (Nat.not_lt.2 c7)); (obtain rfl := Option.some.inj H); (go_enter Tryz.func33, Tryz.ntmps33); (go_wp2_with (first | ((with_reducible refine gate_dst (N := 8) rfl ?_); refine Kd.R_lit (Kd.int .u8) _ 5 ?hg (N := 8) ?hd (xs := ([(wrap64 (48 + (Int.tmod a0 10))) % 256] : List Int)) (inner := [.int .u8 ((wrap64 (48 + (Int.tmod a0 10))) % 256)]) (ok := fun _ => True) (okp := fun _ => True) ?hr ?hp (fun _ hk => hk) trivial (Below.refl _ _) (Nat.le_refl _) (by simp) ?_; (case hd => rfl); (case hg => rfl); (case hr => first | (go_simp; done) | (go_simp; rfl)); (case hp => exact (Reps.one (show Kd.M (Kd.int .u8) _ _ _ ((wrap64 (48 + (Int.tmod a0 10))) % 256) [.int .u8 ((wrap64 (48 + (Int.tmod a0 10))) % 256)] from rfl) (Reps.none _ _))); intro v151 w8 ho9 hb hg_ hnew_; clear hg_ hnew_; (first | rw [← Ny150.out] at ho9 | (simp only [Int.reduceToNat] at ho9; rw [← Ny150.out] at ho9)); have HO152 := Aside0.mk (Kd.R_lower ho9 (below_size Hb)); replace HB := Bs hb; clear hb ho9; have hcv10 := own_string (P := Tryz.prog) Tryz.underlying57 Tryz.underlying5 Tryz.underlying9 (Kd.own_of_R HO152.out)) | ((with_reducible refine gate_callee (f := 33) rfl ?_); refine Gl (some 15) Tryz.func33 #[.int .i64 (wrap64 (Int.tdiv a0 10))] ?_; (with_reducible refine (ih k (by omega) (wrap64 (Int.tdiv a0 10)) t153 _ A6.out).mono ?_); rintro e w11 ⟨rfl, hb⟩; refine ⟨_, rfl, ?_⟩; replace HO152 := Aside0.mk (Kd.R_below (Kr HO152) hb); replace HB := Bs hb))); (go_ret); (exact ⟨Er, Hb⟩)
    · (rw [if_neg c7] at H); (exact absurd H (by simp))
end Go.Proofs.YtdaijpjjilmkkaaGreatDoor.Pr

namespace Go.Proofs.YtdaijpjjilmkkaaGreatDoor.Pr
open Go.RowKit Go.Proofs.YtdaijpjjilmkkaaGreatDoorW.PrintWords Go.Proofs.YtdaijpjjilmkkaaGreatDoorW.PrintLast Go.Proofs.YtdaijpjjilmkkaaGreatDoorW.PrintMore
attribute [local go_sem] max2_int min2_int max_two min_two max_three min_three max_four min_four   -- for this text's walks alone
set_option linter.unusedVariables false
set_option linter.unusedSimpArgs false
def r02_Cut.l0 : Nat → ByteArray → Int → List ByteArray → Int → Int → Option (List ByteArray)
  | 0, _, _, _, _, _ => none
  | k + 1, x0, x1, x5, x6, x7 => if x7 < (x0.size : Int) then (if 0 ≤ x7 then (if (bt x0 x7) = x1 then (if 0 ≤ x6 then (if x6 ≤ x7 then (if x7 ≤ (x0.size : Int) then (if x5.length < 8796093022208 then (r02_Cut.l0 k x0 x1 (x5 ++ [x0.extract (x6 : Int).toNat (x7 : Int).toNat]) (wrap64 (x7 + 1)) (wrap64 (x7 + 1))) else (none)) else (none)) else (none)) else (none)) else (r02_Cut.l0 k x0 x1 x5 x6 (wrap64 (x7 + 1)))) else (none)) else (if 0 ≤ x6 then (if x6 ≤ (x0.size : Int) then (if x5.length < 8796093022208 then (some (x5 ++ [x0.extract (x6 : Int).toNat x0.size])) else (none)) else (none)) else (none))
def r02_Cut.f (k : Nat) (a0 : ByteArray) (a1 : Int) : Option (List ByteArray) := r02_Cut.l0 k a0 a1 ([] : List ByteArray) 0 0
theorem r02_Cut.mono_l : ∀ k, (∀ y0 y1 y2 y3 y4, LeO (r02_Cut.l0 k y0 y1 y2 y3 y4) (r02_Cut.l0 (k + 1) y0 y1 y2 y3 y4))
  | 0 => fun _ _ _ _ _ r h => by simp [r02_Cut.l0] at h
  | k + 1 => by
    have ih0 := r02_Cut.mono_l k
    · (intro y0 y1 y2 y3 y4); (unfold r02_Cut.l0)
      repeat' first
      | (with_reducible exact ih0 _ _ _ _ _)
      | (with_reducible exact LeO.refl _)
      | (with_reducible exact LeO.none _)
      | (with_reducible refine LeO.ite ?_ ?_)
      | (with_reducible refine LeO.bind ?_ (fun _ => ?_))
theorem r02_Cut.mono : ∀ a0 a1 k, LeO (r02_Cut.f k a0 a1) (r02_Cut.f (k + 1) a0 a1) := by
  (intro a0 a1 k); (have ih0 := r02_Cut.mono_l k); (unfold r02_Cut.f)
  repeat' first
      | (with_reducible exact ih0 _ _ _ _ _)
      | (with_reducible exact LeO.refl _)
      | (with_reducible exact LeO.none _)
      | (with_reducible refine LeO.ite ?_ ?_)
      | (with_reducible refine LeO.bind ?_ (fun _ => ?_))
set_option maxHeartbeats 8000000 in
set_option maxRecDepth 100000 in
theorem r02_Cut.calls (k : Nat) (a0 : ByteArray) (a1 : Int) (r : List ByteArray) (w : World) (h : r02_Cut.f k a0 a1 = some r) :
    Calls Tryz.prog 40 #[.string a0, .int .u8 a1] w fun e w' => ∃ v0_ : Value, e = .returned (v0_) ∧ Kd.R Kd.string 9 w' w.heap.size (fun _ => True) v0_ r ∧ Below w.heap.size w w' := by
  (have HB := Aside0.mk (Below.refl w.heap.size w)); (have H : (r02_Cut.l0 k a0 a1 ([] : List ByteArray) 0 0) = some r := h); (clear h); (have H' := Aside0.mk H); (clear H); (go_enter Tryz.func40, Tryz.ntmps40); (go_wp2); (go_loopg [5, 6, 7] k (fun kq v5 v6 v7 w' => ∃ (x5_1 : List ByteArray) (x6_1 : Int) (x7_1 : Int), v6 = .int .i64 x6_1 ∧ v7 = .int .i64 x7_1 ∧ Aside0 (r02_Cut.l0 kq a0 a1 x5_1 x6_1 x7_1 = some r) ∧ Aside0 (kq ≤ k) ∧ Aside0 (Kd.R Kd.string 9 w' w.heap.size (fun _ => True) v5 x5_1) ∧ Aside0 (Below w.heap.size w w')))
  case atStart => exact ⟨(([] : List ByteArray)), (0), (0), (by first | rfl | (simp; done) | (simp [*]; done) | exact congrArg Value.bool (ne_nil_bool _) | exact congrArg Value.bool (eq_nil_bool _)), (by first | rfl | (simp; done) | (simp [*]; done) | exact congrArg Value.bool (ne_nil_bool _) | exact congrArg Value.bool (eq_nil_bool _)), H', ⟨Nat.le_refl _⟩, ⟨Kn⟩, ⟨Hb⟩⟩
  case round =>
    (clear H'); (try clear p2); (obtain ⟨x5_1, x6_1, x7_1, rfl, rfl, HA, HK1, HO_5, HB⟩ := hrel)
    cases gk with
    | zero => exact absurd HA.out (by simp [r02_Cut.l0])
    | succ k1 =>
      (have H := HA.out); (clear HA); (simp only [r02_Cut.l0] at H); (by_cases c3 : x7_1 < (a0.size : Int))
      · (rw [if_pos c3] at H); (have c3b0 : decide (x7_1 < (a0.size : Int)) = true := decide_eq_true c3); (clear c3); (by_cases c4 : 0 ≤ x7_1)
        · (rw [if_pos c4] at H); (have c4b0 : decide (0 ≤ x7_1) = true := decide_eq_true c4); (clear c4); (by_cases c6 : (bt a0 x7_1) = a1)
          · (rw [if_pos c6] at H); (have c6b0 : ((bt a0 x7_1) == a1) = true := beq_iff_eq.mpr c6); (have c6b1 : ((bt a0 x7_1) != a1) = false := bne_eq_false_iff_eq.mpr c6); (clear c6); (by_cases c7 : 0 ≤ x6_1)
            · (rw [if_pos c7] at H); (have c7b0 := eq_true c7); (have c7b1 : decide (0 ≤ x6_1) = true := decide_eq_true c7); (clear c7); (by_cases c8 : x6_1 ≤ x7_1)
              · (rw [if_pos c8] at H); (have c8b0 := eq_true c8); (have c8b1 : decide (x6_1 ≤ x7_1) = true := decide_eq_true c8); (clear c8); (by_cases c9 : x7_1 ≤ (a0.size : Int))
                · (rw [if_pos c9] at H); (have c9b0 := eq_true c9); (have c9b1 : decide (x7_1 ≤ (a0.size : Int)) = true := decide_eq_true c9); (clear c9); (by_cases c10 : x5_1.length < 8796093022208)
                  · (rw [if_pos c10] at H); (have LMc10 := Aside0.mk c10); (clear c10); (obtain ⟨y180, hy180⟩ : ∃ y_ : List ByteArray, y_ = (x5_1 ++ [a0.extract (x6_1 : Int).toNat (x7_1 : Int).toNat]) := ⟨_, rfl⟩); (replace H : (r02_Cut.l0 k1 a0 a1 y180 (wrap64 (x7_1 + 1)) (wrap64 (x7_1 + 1))) = some r := by first | (rw [hy180]; with_reducible exact H) | (have H2_ := (Option.bind_some _ _).symm.trans H; rw [hy180]; with_reducible exact H2_) | (have H2_ := (Option.bind_some _ _).symm.trans H; with_reducible exact H2_) | with_reducible exact H | (rw [hy180]; exact H) | exact H); (have Ny180 := Aside0.mk hy180); (clear hy180); (have H' := Aside0.mk H); (clear H); (have p5 : 0 ≤ (x7_1 : Int) := Oa); (have q5 : x7_1 < (a0.size : Int) := Oa); (have hx5 := bt_at a0 x7_1); (replace p5 := eq_true p5); (replace q5 := eq_true q5); (go_wp2_with (first | ((with_reducible refine gate_builtin (b := .append) (xs := #[.tmp 19, .tmp 24]) rfl ?_); at_builtin; refine Kd.R_append Kd.string (w0 := w) w.heap.size rfl (.tmp 19) (.tmp 24) 68 9 (.string ⟨#[]⟩) 16 rfl Tryz.underlying68 info9 rfl (by decide) (by omega) u5 x5_1 (a0.extract (x6_1 : Int).toNat (x7_1 : Int).toNat) [.string (a0.extract (x6_1 : Int).toNat (x7_1 : Int).toNat)] (fun _ => True) (fun _ => False) rfl rfl ?aP (fun _ hk => hk.elim) ?aF ?aO ?aB ?aS ?aL ?_; (case aP => exact rfl); (case aB => exact Hb); (case aF => exact (fun _ _ => trivial)); (case aO => exact (Kr HO_5)); (case aS => exact (below_size Hb)); (case aL => have := LMc10.out; omega); intro v181 w11 ho hb hg hat; rw [← Ny180.out] at ho; have HO182 := Aside0.mk (ho); replace HB := Aside0.mk (hb); clear HO_5; clear ho hb hg hat))); (go_roundg k1)
                    case measure => have := HK1.out; omega
                    case rel => exact ⟨(y180), (wrap64 (x7_1 + 1)), (wrap64 (x7_1 + 1)), (by first | rfl | (simp; done) | (simp [*]; done) | exact congrArg Value.bool (ne_nil_bool _) | exact congrArg Value.bool (eq_nil_bool _)), (by first | rfl | (simp; done) | (simp [*]; done) | exact congrArg Value.bool (ne_nil_bool _) | exact congrArg Value.bool (eq_nil_bool _)), H', ⟨by have := HK1.out; omega⟩, ⟨by (with_reducible repeat (first | apply Kd.R_alloc | apply Kd.R_drewN | apply Kd.R_drew)); exact HO182.out⟩, ⟨Hb⟩⟩
                  · (rw [if_neg c10] at H); (exact absurd H (by simp))
                · (rw [if_neg c9] at H); (exact absurd H (by simp))
              · (rw [if_neg c8] at H); (exact absurd H (by simp))
            · (rw [if_neg c7] at H); (exact absurd H (by simp))
          · (rw [if_neg c6] at H); (have c6b0 : ((bt a0 x7_1) == a1) = false := beq_eq_false_iff_ne.mpr c6); (have c6b1 : ((bt a0 x7_1) != a1) = true := bne_iff_ne.mpr c6); (have H' := Aside0.mk H); (clear H); (have p5 : 0 ≤ (x7_1 : Int) := Oa); (have q5 : x7_1 < (a0.size : Int) := Oa); (have hx5 := bt_at a0 x7_1); (replace p5 := eq_true p5); (replace q5 := eq_true q5); (go_wp2); (go_roundg k1)
            case measure => have := HK1.out; omega
            case rel => exact ⟨(x5_1), (x6_1), (wrap64 (x7_1 + 1)), (by first | rfl | (simp; done) | (simp [*]; done) | exact congrArg Value.bool (ne_nil_bool _) | exact congrArg Value.bool (eq_nil_bool _)), (by first | rfl | (simp; done) | (simp [*]; done) | exact congrArg Value.bool (ne_nil_bool _) | exact congrArg Value.bool (eq_nil_bool _)), H', ⟨by have := HK1.out; omega⟩, ⟨by (with_reducible repeat (first | apply Kd.R_alloc | apply Kd.R_drewN | apply Kd.R_drew)); exact HO_5.out⟩, ⟨Hb⟩⟩
        · (rw [if_neg c4] at H); (exact absurd H (by simp))
      · (rw [if_neg c3] at H); (have c3b0 : decide (x7_1 < (a0.size : Int)) = false := decide_eq_false c3); (clear c3); (by_cases c12 : 0 ≤ x6_1)
        · (rw [if_pos c12] at H); (have c12b0 := eq_true c12); (have c12b1 : decide (0 ≤ x6_1) = true := decide_eq_true c12); (clear c12); (by_cases c13 : x6_1 ≤ (a0.size : Int))
          · (rw [if_pos c13] at H); (have c13b0 := eq_true c13); (have c13b1 : decide (x6_1 ≤ (a0.size : Int)) = true := decide_eq_true c13); (clear c13); (by_cases c14 : x5_1.length < 8796093022208)
            · (rw [if_pos c14] at H); (have LMc14 := Aside0.mk c14); (clear c14); (obtain ⟨y183, hy183⟩ : ∃ y_ : List ByteArray, y_ = (x5_1 ++ [a0.extract (x6_1 : Int).toNat a0.size]) := ⟨_, rfl⟩); (replace H : (some y183) = some r := by first | (rw [hy183]; with_reducible exact H) | (have H2_ := (Option.bind_some _ _).symm.trans H; rw [hy183]; with_reducible exact H2_) | (have H2_ := (Option.bind_some _ _).symm.trans H; with_reducible exact H2_) | with_reducible exact H | (rw [hy183]; exact H) | exact H); (have Ny183 := Aside0.mk hy183); (clear hy183); (obtain rfl := Option.some.inj H); (go_wp2_with (first | ((with_reducible refine gate_builtin (b := .append) (xs := #[.tmp 28, .tmp 32]) rfl ?_); at_builtin; refine Kd.R_append Kd.string (w0 := w) w.heap.size rfl (.tmp 28) (.tmp 32) 68 9 (.string ⟨#[]⟩) 16 rfl Tryz.underlying68 info9 rfl (by decide) (by omega) u5 x5_1 (a0.extract (x6_1 : Int).toNat a0.size) [.string (a0.extract (x6_1 : Int).toNat a0.size)] (fun _ => True) (fun _ => False) rfl rfl ?aP (fun _ hk => hk.elim) ?aF ?aO ?aB ?aS ?aL ?_; (case aP => exact rfl); (case aB => exact Hb); (case aF => exact (fun _ _ => trivial)); (case aO => exact (Kr HO_5)); (case aS => exact (below_size Hb)); (case aL => have := LMc14.out; omega); intro v184 w15 ho hb hg hat; rw [← Ny183.out] at ho; have HO185 := Aside0.mk (ho); replace HB := Aside0.mk (hb); clear HO_5; clear ho hb hg hat))); (go_ret); (exact ⟨_, Er, by (with_reducible repeat (first | apply Kd.R_alloc | apply Kd.R_drewN | apply Kd.R_drew)); exact HO185.out, Hb⟩)
            · (rw [if_neg c14] at H); (exact absurd H (by simp))
          · (rw [if_neg c13] at H); (exact absurd H (by simp))
        · (rw [if_neg c12] at H); (exact absurd H (by simp))
mutual
def r42_bare.l0 : Nat → ByteArray → Int → Option (ByteArray)
  | 0, _, _ => none
  | k + 1, x0, x3 => if x3 < (x0.size : Int) then (if 0 ≤ x3 then (if (bt x0 x3) = 35 then (if x3 ≤ (x0.size : Int) then (r42_bare.l1 k (x0.extract 0 (x3 : Int).toNat)) else (none)) else (r42_bare.l0 k x0 (wrap64 (x3 + 1)))) else (none)) else (some x0)
def r42_bare.l1 : Nat → ByteArray → Option (ByteArray)
  | 0, _ => none
  | k + 1, x0 => if (x0.size : Int) > 0 then (if 0 ≤ (wrap64 ((x0.size : Int) - 1)) then (if (wrap64 ((x0.size : Int) - 1)) < (x0.size : Int) then (if (bt x0 (wrap64 ((x0.size : Int) - 1))) = 32 then (if (wrap64 ((x0.size : Int) - 1)) ≤ (x0.size : Int) then (r42_bare.l1 k (x0.extract 0 ((wrap64 ((x0.size : Int) - 1)) : Int).toNat)) else (none)) else (some x0)) else (none)) else (none)) else (some x0)
end
def r42_bare.f (k : Nat) (a0 : ByteArray) : Option (ByteArray) := r42_bare.l0 k a0 0
theorem r42_bare.mono_l : ∀ k, (∀ y0 y1, LeO (r42_bare.l0 k y0 y1) (r42_bare.l0 (k + 1) y0 y1)) ∧ (∀ y0, LeO (r42_bare.l1 k y0) (r42_bare.l1 (k + 1) y0))
  | 0 => ⟨fun _ _ r h => by simp [r42_bare.l0] at h, fun _ r h => by simp [r42_bare.l1] at h⟩
  | k + 1 => by
    (obtain ⟨ih0, ih1⟩ := r42_bare.mono_l k); (refine ⟨?_, ?_⟩)
    · (intro y0 y1); (unfold r42_bare.l0)
      repeat' first
      | (with_reducible exact ih0 _ _)
      | (with_reducible exact ih1 _)
      | (with_reducible exact LeO.refl _)
      | (with_reducible exact LeO.none _)
      | (with_reducible refine LeO.ite ?_ ?_)
      | (with_reducible refine LeO.bind ?_ (fun _ => ?_))
    · (intro y0); (unfold r42_bare.l1)
      repeat' first
      | (with_reducible exact ih0 _ _)
      | (with_reducible exact ih1 _)
      | (with_reducible exact LeO.refl _)
      | (with_reducible exact LeO.none _)
      | (with_reducible refine LeO.ite ?_ ?_)
      | (with_reducible refine LeO.bind ?_ (fun _ => ?_))
theorem r42_bare.mono : ∀ a0 k, LeO (r42_bare.f k a0) (r42_bare.f (k + 1) a0) := by
  (intro a0 k); (obtain ⟨ih0, ih1⟩ := r42_bare.mono_l k); (unfold r42_bare.f)
  repeat' first
      | (with_reducible exact ih0 _ _)
      | (with_reducible exact ih1 _)
      | (with_reducible exact LeO.refl _)
      | (with_reducible exact LeO.none _)
      | (with_reducible refine LeO.ite ?_ ?_)
      | (with_reducible refine LeO.bind ?_ (fun _ => ?_))
set_option maxHeartbeats 8000000 in
set_option maxRecDepth 100000 in
theorem r42_bare.calls (k : Nat) (a0 : ByteArray) (r : ByteArray) (w : World) (h : r42_bare.f k a0 = some r) :
    Calls Tryz.prog 41 #[.string a0] w fun e w' => e = .returned (.string r) ∧ Drawn0 w w' := by
  (have H : (r42_bare.l0 k a0 0) = some r := h); (clear h); (have H' := Aside0.mk H); (clear H); (go_enter Tryz.func41, Tryz.ntmps41); (go_wp2); (go_loopg [0, 3] k (fun kq v0 v3 w' => ∃ (x0_1 : ByteArray) (x3_1 : Int), v0 = .string x0_1 ∧ v3 = .int .i64 x3_1 ∧ Aside0 (r42_bare.l0 kq x0_1 x3_1 = some r) ∧ Aside0 (kq ≤ k) ∧ Drawn0 w w'))
  case atStart => exact ⟨(a0), (0), (by first | rfl | (simp; done) | (simp [*]; done) | exact congrArg Value.bool (ne_nil_bool _) | exact congrArg Value.bool (eq_nil_bool _)), (by first | rfl | (simp; done) | (simp [*]; done) | exact congrArg Value.bool (ne_nil_bool _) | exact congrArg Value.bool (eq_nil_bool _)), H', ⟨Nat.le_refl _⟩, by repeat (first | exact Drawn0.refl _ | apply Drawn0.step)⟩
  case round =>
    (clear H'); (obtain ⟨x0_1, x3_1, rfl, rfl, HA, HK1, ⟨m1, rfl⟩⟩ := hrel)
    cases gk with
    | zero => exact absurd HA.out (by simp [r42_bare.l0])
    | succ k1 =>
      (have H := HA.out); (clear HA); (simp only [r42_bare.l0] at H); (by_cases c2 : x3_1 < (x0_1.size : Int))
      · (rw [if_pos c2] at H); (have c2b0 : decide (x3_1 < (x0_1.size : Int)) = true := decide_eq_true c2); (clear c2); (by_cases c3 : 0 ≤ x3_1)
        · (rw [if_pos c3] at H); (have c3b0 : decide (0 ≤ x3_1) = true := decide_eq_true c3); (clear c3); (by_cases c5 : (bt x0_1 x3_1) = 35)
          · (rw [if_pos c5] at H); (have c5b0 : ((bt x0_1 x3_1) == 35) = true := beq_iff_eq.mpr c5); (have c5b1 : ((bt x0_1 x3_1) != 35) = false := bne_eq_false_iff_eq.mpr c5); (clear c5); (have c6b0 := eq_true (Oa : 0 ≤ x3_1)); (by_cases c7 : x3_1 ≤ (x0_1.size : Int))
            · (rw [if_pos c7] at H); (have c7b0 := eq_true c7); (have c7b1 : decide (x3_1 ≤ (x0_1.size : Int)) = true := decide_eq_true c7); (clear c7); (have H' := Aside0.mk H); (clear H); (have p4 : 0 ≤ (x3_1 : Int) := Oa); (have q4 : x3_1 < (x0_1.size : Int) := Oa); (have hx4 := bt_at x0_1 x3_1); (replace p4 := eq_true p4); (replace q4 := eq_true q4); (go_wp2); (go_loopg [0] k1 (fun kq v0 w' => ∃ (x0_2 : ByteArray), v0 = .string x0_2 ∧ Aside0 (r42_bare.l1 kq x0_2 = some r) ∧ Aside0 (kq ≤ k1) ∧ Drawn0 w w'))
              case atStart => exact ⟨(x0_1.extract 0 (x3_1 : Int).toNat), (by first | rfl | (simp; done) | (simp [*]; done) | exact congrArg Value.bool (ne_nil_bool _) | exact congrArg Value.bool (eq_nil_bool _)), H', ⟨Nat.le_refl _⟩, by repeat (first | exact Drawn0.refl _ | apply Drawn0.step)⟩
              case round =>
                (clear H'); (try clear c2); (try clear c2b0); (try clear p2); (try clear c3); (try clear c3b0); (try clear c4); (try clear p4); (try clear q4); (try clear hx4); (try clear c5); (try clear c5b0); (try clear c5b1); (try clear c6); (try clear c6b0); (try clear c7); (try clear c7b0); (try clear c7b1); (try clear p4); (try clear q4); (obtain ⟨x0_2, rfl, HA, HK2, ⟨m2, rfl⟩⟩ := hrel)
                cases gk with
                | zero => exact absurd HA.out (by simp [r42_bare.l1])
                | succ k2 =>
                  (have H := HA.out); (clear HA); (simp only [r42_bare.l1] at H); (by_cases c8 : (x0_2.size : Int) > 0)
                  · (rw [if_pos c8] at H); (have c8b0 : decide (0 < (x0_2.size : Int)) = true := decide_eq_true c8); (have c8b1 : decide (0 < x0_2.size) = true := decide_eq_true (by omega)); (clear c8); (obtain ⟨ji9, hji9⟩ : ∃ j_ : Int, (wrap64 ((x0_2.size : Int) - 1)) = j_ := ⟨_, rfl⟩); (replace H : (if 0 ≤ (ji9) then (if (ji9) < (x0_2.size : Int) then (if (bt x0_2 (ji9)) = 32 then (if (ji9) ≤ (x0_2.size : Int) then (r42_bare.l1 k2 (x0_2.extract 0 ((ji9) : Int).toNat)) else (none)) else (some x0_2)) else (none)) else (none)) = some r := by first | (rw [hji9] at H; exact H) | (simp only [hji9] at H ⊢; exact H)); (have hji9w : (IntKind.i64.wrap ((x0_2.size : Int) - 1)) = ji9 := (i64_w _).trans hji9); (by_cases c10 : 0 ≤ (ji9))
                    · (rw [if_pos c10] at H); (have c10b0 : decide (0 ≤ (ji9)) = true := decide_eq_true c10); (clear c10); (by_cases c11 : (ji9) < (x0_2.size : Int))
                      · (rw [if_pos c11] at H); (have c11b0 : decide ((ji9) < (x0_2.size : Int)) = true := decide_eq_true c11); (clear c11); (by_cases c13 : (bt x0_2 (ji9)) = 32)
                        · (rw [if_pos c13] at H); (have c13b0 : ((bt x0_2 (ji9)) == 32) = true := beq_iff_eq.mpr c13); (have c13b1 : ((bt x0_2 (ji9)) != 32) = false := bne_eq_false_iff_eq.mpr c13); (clear c13); (have c14b0 := eq_true (Oa : 0 ≤ (ji9))); (by_cases c15 : (ji9) ≤ (x0_2.size : Int))
                          · (rw [if_pos c15] at H); (have c15b0 := eq_true c15); (have c15b1 : decide ((ji9) ≤ (x0_2.size : Int)) = true := decide_eq_true c15); (clear c15); (have H' := Aside0.mk H); (clear H); (have p12 : 0 ≤ ((ji9) : Int) := Oa); (have q12 : (ji9) < (x0_2.size : Int) := Oa); (have hx12 := bt_at x0_2 (ji9)); (replace p12 := eq_true p12); (replace q12 := eq_true q12); (go_wp2); (go_roundg k2)
                            case measure => have := HK1.out; have := HK2.out; omega
                            case rel => exact ⟨(x0_2.extract 0 ((ji9) : Int).toNat), (by first | rfl | (simp; done) | (simp only [← hji9] <;> (first | rfl | simp)) | (simp [*]; done)), H', ⟨by have := HK1.out; have := HK2.out; omega⟩, by repeat (first | exact Drawn0.refl _ | apply Drawn0.step)⟩
                          · (rw [if_neg c15] at H); (exact absurd H (by simp))
                        · (rw [if_neg c13] at H); (have c13b0 : ((bt x0_2 (ji9)) == 32) = false := beq_eq_false_iff_ne.mpr c13); (have c13b1 : ((bt x0_2 (ji9)) != 32) = true := bne_iff_ne.mpr c13); (obtain rfl := Option.some.inj H); (have p12 : 0 ≤ ((ji9) : Int) := Oa); (have q12 : (ji9) < (x0_2.size : Int) := Oa); (have hx12 := bt_at x0_2 (ji9)); (replace p12 := eq_true p12); (replace q12 := eq_true q12); (go_wp2); (go_ret); (exact ⟨by first | rfl | (simp; done) | (simp only [← hji9] <;> (first | rfl | simp)) | (simp [*]; done), by repeat (first | exact Drawn0.refl _ | apply Drawn0.step)⟩)
                      · (rw [if_neg c11] at H); (exact absurd H (by simp))
                    · (rw [if_neg c10] at H); (exact absurd H (by simp))
                  · (rw [if_neg c8] at H); (have c8b0 : decide (0 < (x0_2.size : Int)) = false := decide_eq_false c8); (have c8b1 : decide (0 < x0_2.size) = false := decide_eq_false (by omega)); (clear c8); (obtain rfl := Option.some.inj H); (go_wp2); (go_ret); (exact ⟨by first | rfl | (simp; done) | (simp [*]; done), by repeat (first | exact Drawn0.refl _ | apply Drawn0.step)⟩)
            · (rw [if_neg c7] at H); (exact absurd H (by simp))
          · (rw [if_neg c5] at H); (have c5b0 : ((bt x0_1 x3_1) == 35) = false := beq_eq_false_iff_ne.mpr c5); (have c5b1 : ((bt x0_1 x3_1) != 35) = true := bne_iff_ne.mpr c5); (have H' := Aside0.mk H); (clear H); (have p4 : 0 ≤ (x3_1 : Int) := Oa); (have q4 : x3_1 < (x0_1.size : Int) := Oa); (have hx4 := bt_at x0_1 x3_1); (replace p4 := eq_true p4); (replace q4 := eq_true q4); (go_wp2); (go_roundg k1)
            case measure => have := HK1.out; omega
            case rel => exact ⟨(x0_1), (wrap64 (x3_1 + 1)), (by first | rfl | (simp; done) | (simp [*]; done) | exact congrArg Value.bool (ne_nil_bool _) | exact congrArg Value.bool (eq_nil_bool _)), (by first | rfl | (simp; done) | (simp [*]; done) | exact congrArg Value.bool (ne_nil_bool _) | exact congrArg Value.bool (eq_nil_bool _)), H', ⟨by have := HK1.out; omega⟩, by repeat (first | exact Drawn0.refl _ | apply Drawn0.step)⟩
        · (rw [if_neg c3] at H); (exact absurd H (by simp))
      · (rw [if_neg c2] at H); (have c2b0 : decide (x3_1 < (x0_1.size : Int)) = false := decide_eq_false c2); (clear c2); (obtain rfl := Option.some.inj H); (go_wp2); (go_ret); (exact ⟨by first | rfl | (simp; done) | (simp [*]; done), by repeat (first | exact Drawn0.refl _ | apply Drawn0.step)⟩)
mutual
def r42_numeral.l0 : Nat → ByteArray → Int → Int → Option (Int × Bool)
  | 0, _, _, _ => none
  | k + 1, x0, x4, x5 => if x5 < (x0.size : Int) then (if 0 ≤ x5 then (if (bt x0 x5) < 48 then (r42_numeral.j1 k x0 x4 x5 true) else (r42_numeral.j1 k x0 x4 x5 (decide ((bt x0 x5) > 57)))) else (none)) else (if (x0.size : Int) > 0 then ((r42_decimal.f k x4).bind fun t186 => (some (x4, (t186.toList == x0.toList)))) else (some (x4, false)))
def r42_numeral.j1 : Nat → ByteArray → Int → Int → Bool → Option (Int × Bool)
  | 0, _, _, _, _ => none
  | k + 1, x0, x4, x5, x22 => if x22 = true then (some (0, false)) else (if 0 ≤ x5 then (if x5 < (x0.size : Int) then (if x4 > ((9223372036854775807 - (((bt x0 x5) - 48) % 256)) / 10) then (some (0, false)) else (r42_numeral.l0 k x0 (wrap64 ((wrap64 (10 * x4)) + (((bt x0 x5) - 48) % 256))) (wrap64 (x5 + 1)))) else (none)) else (none))
end
def r42_numeral.f (k : Nat) (a0 : ByteArray) : Option (Int × Bool) := r42_numeral.l0 k a0 0 0
theorem r42_numeral.mono_l : ∀ k, (∀ y0 y1 y2, LeO (r42_numeral.l0 k y0 y1 y2) (r42_numeral.l0 (k + 1) y0 y1 y2)) ∧ (∀ y0 y1 y2 y3, LeO (r42_numeral.j1 k y0 y1 y2 y3) (r42_numeral.j1 (k + 1) y0 y1 y2 y3))
  | 0 => ⟨fun _ _ _ r h => by simp [r42_numeral.l0] at h, fun _ _ _ _ r h => by simp [r42_numeral.j1] at h⟩
  | k + 1 => by
    (obtain ⟨ih0, ih1⟩ := r42_numeral.mono_l k); (refine ⟨?_, ?_⟩)
    · (intro y0 y1 y2); (unfold r42_numeral.l0)
      repeat' first
      | (with_reducible exact ih0 _ _ _)
      | (with_reducible exact ih1 _ _ _ _)
      | (with_reducible exact r42_decimal.mono _ _)
      | (with_reducible exact LeO.refl _)
      | (with_reducible exact LeO.none _)
      | (with_reducible refine LeO.ite ?_ ?_)
      | (with_reducible refine LeO.bind ?_ (fun _ => ?_))
    · (intro y0 y1 y2 y3); (unfold r42_numeral.j1)
      repeat' first
      | (with_reducible exact ih0 _ _ _)
      | (with_reducible exact ih1 _ _ _ _)
      | (with_reducible exact r42_decimal.mono _ _)
      | (with_reducible exact LeO.refl _)
      | (with_reducible exact LeO.none _)
      | (with_reducible refine LeO.ite ?_ ?_)
      | (with_reducible refine LeO.bind ?_ (fun _ => ?_))
theorem r42_numeral.mono : ∀ a0 k, LeO (r42_numeral.f k a0) (r42_numeral.f (k + 1) a0) := by
  (intro a0 k); (obtain ⟨ih0, ih1⟩ := r42_numeral.mono_l k); (unfold r42_numeral.f)
  repeat' first
      | (with_reducible exact ih0 _ _ _)
      | (with_reducible exact ih1 _ _ _ _)
      | (with_reducible exact r42_decimal.mono _ _)
      | (with_reducible exact LeO.refl _)
      | (with_reducible exact LeO.none _)
      | (with_reducible refine LeO.ite ?_ ?_)
      | (with_reducible refine LeO.bind ?_ (fun _ => ?_))
set_option maxHeartbeats 8000000 in
set_option maxRecDepth 100000 in
theorem r42_numeral.calls (k : Nat) (a0 : ByteArray) (r1 : Int) (r2 : Bool) (w : World) (h : r42_numeral.f k a0 = some (r1, r2)) :
    Calls Tryz.prog 68 #[.string a0] w fun e w' => e = .returned (.tuple #[.int .i64 r1, .bool r2]) ∧ Below w.heap.size w w' := by
  (have HB := Aside0.mk (Below.refl w.heap.size w)); (have H : (r42_numeral.l0 k a0 0 0) = some (r1, r2) := h); (clear h); (have H' := Aside0.mk H); (clear H); (go_enter Tryz.func68, Tryz.ntmps68); (go_wp2); (go_loopg [4, 5] k (fun kq v4 v5 w' => ∃ (x4_1 : Int) (x5_1 : Int), v4 = .int .i64 x4_1 ∧ v5 = .int .i64 x5_1 ∧ Aside0 (r42_numeral.l0 kq a0 x4_1 x5_1 = some (r1, r2)) ∧ Aside0 (kq ≤ k) ∧ Aside0 (Below w.heap.size w w')))
  case atStart => exact ⟨(0), (0), (by first | rfl | (simp; done) | (simp [*]; done) | exact congrArg Value.bool (ne_nil_bool _) | exact congrArg Value.bool (eq_nil_bool _)), (by first | rfl | (simp; done) | (simp [*]; done) | exact congrArg Value.bool (ne_nil_bool _) | exact congrArg Value.bool (eq_nil_bool _)), H', ⟨Nat.le_refl _⟩, ⟨Hb⟩⟩
  case round =>
    (clear H'); (obtain ⟨x4_1, x5_1, rfl, rfl, HA, HK1, HB⟩ := hrel)
    cases gk with
    | zero => exact absurd HA.out (by simp [r42_numeral.l0])
    | succ k1 =>
      (have H := HA.out); (clear HA); (simp only [r42_numeral.l0] at H); (by_cases c2 : x5_1 < (a0.size : Int))
      · (rw [if_pos c2] at H); (have c2b0 : decide (x5_1 < (a0.size : Int)) = true := decide_eq_true c2); (clear c2); (have HC3 := Aside0.mk H); (clear H); (go_upto_region 5 with (fail)); (go_cut [22] (fun v22 wc => ∃ (kq : Nat) (x22_2 : Bool), v22 = .bool x22_2 ∧ Aside0 (r42_numeral.j1 kq a0 x4_1 x5_1 x22_2 = some (r1, r2)) ∧ Aside0 (kq ≤ k1) ∧ Aside0 (Below w.heap.size w wc)))
        case first =>
          (have H := HC3.out); (clear HC3); (by_cases c4 : 0 ≤ x5_1)
          · (rw [if_pos c4] at H); (have c4b0 : decide (0 ≤ x5_1) = true := decide_eq_true c4); (clear c4); (first | rw [c4b0] | (simp only [i64_w, i32_w]; rw [c4b0]) | skip); (by_cases c6 : (bt a0 x5_1) < 48)
            · (rw [if_pos c6] at H); (have c6b0 : decide ((bt a0 x5_1) < 48) = true := decide_eq_true c6); (clear c6); (have H' := Aside0.mk H); (clear H); (have p5 : 0 ≤ (x5_1 : Int) := Oa); (have q5 : x5_1 < (a0.size : Int) := Oa); (have hx5 := bt_at a0 x5_1); (replace p5 := eq_true p5); (replace q5 := eq_true q5); (go_wp2); (go_meet)
              case rel => exact ⟨_, (true), (by first | rfl | (simp; done) | (simp [*]; done) | exact congrArg Value.bool (ne_nil_bool _) | exact congrArg Value.bool (eq_nil_bool _)), H', ⟨by have := HK1.out; first | omega | exact Nat.le_refl _⟩, ⟨Hb⟩⟩
            · (rw [if_neg c6] at H); (have c6b0 : decide ((bt a0 x5_1) < 48) = false := decide_eq_false c6); (clear c6); (have H' := Aside0.mk H); (clear H); (have p5 : 0 ≤ (x5_1 : Int) := Oa); (have q5 : x5_1 < (a0.size : Int) := Oa); (have hx5 := bt_at a0 x5_1); (replace p5 := eq_true p5); (replace q5 := eq_true q5); (have p7 : 0 ≤ (x5_1 : Int) := Oa); (have q7 : x5_1 < (a0.size : Int) := Oa); (have hx7 := bt_at a0 x5_1); (replace p7 := eq_true p7); (replace q7 := eq_true q7); (go_wp2); (go_meet)
              case rel => exact ⟨_, (decide ((bt a0 x5_1) > 57)), (by first | rfl | (simp; done) | (simp [*]; done) | exact congrArg Value.bool (ne_nil_bool _) | exact congrArg Value.bool (eq_nil_bool _)), H', ⟨by have := HK1.out; first | omega | exact Nat.le_refl _⟩, ⟨Hb⟩⟩
          · (rw [if_neg c4] at H); (exact absurd H (by simp))
        case rest =>
          (clear HC3); (try clear c2); (try clear c2b0); (try clear p2); (try clear c4); (try clear c4b0); (try clear p5); (try clear q5); (try clear hx5); (try clear c6); (try clear c6b0); (try clear p7); (try clear q7); (try clear hx7); (try clear p5); (try clear p7); (try clear q5); (try clear q7); (obtain ⟨kq, x22_2, rfl, HA, HJ2, HB⟩ := hcut)
          cases kq with
          | zero => exact absurd HA.out (by simp [r42_numeral.j1])
          | succ kj2 =>
            (have H := HA.out); (clear HA); (simp only [r42_numeral.j1] at H); (by_cases c8 : x22_2 = true)
            · (subst c8); (have H1 : (some (0, false)) = some (r1, r2) := by rw [if_pos rfl] at H; exact H); (clear H); (have H := H1); (clear H1); (simp only [Option.some.injEq, Prod.mk.injEq] at H); (obtain ⟨rfl, rfl⟩ := H); (go_wp2); (go_ret2); (exact ⟨Er, Hb⟩)
            · (replace c8 := Bool.eq_false_iff.mpr c8); (subst c8); (have H1 : (if 0 ≤ x5_1 then (if x5_1 < (a0.size : Int) then (if x4_1 > ((9223372036854775807 - (((bt a0 x5_1) - 48) % 256)) / 10) then (some (0, false)) else (r42_numeral.l0 kj2 a0 (wrap64 ((wrap64 (10 * x4_1)) + (((bt a0 x5_1) - 48) % 256))) (wrap64 (x5_1 + 1)))) else (none)) else (none)) = some (r1, r2) := by rw [if_neg (show ¬ (false = true) by decide)] at H; exact H); (clear H); (have H := H1); (clear H1); (by_cases c9 : 0 ≤ x5_1)
              · (rw [if_pos c9] at H); (have c9b0 : decide (0 ≤ x5_1) = true := decide_eq_true c9); (clear c9); (by_cases c10 : x5_1 < (a0.size : Int))
                · (rw [if_pos c10] at H); (have c10b0 : decide (x5_1 < (a0.size : Int)) = true := decide_eq_true c10); (clear c10); (by_cases c12 : x4_1 > ((9223372036854775807 - (((bt a0 x5_1) - 48) % 256)) / 10))
                  · (rw [if_pos c12] at H); (have c12b0 : decide (((9223372036854775807 - (((bt a0 x5_1) - 48) % 256)) / 10) < x4_1) = true := decide_eq_true c12); (clear c12); (simp only [Option.some.injEq, Prod.mk.injEq] at H); (obtain ⟨rfl, rfl⟩ := H); (have p11 : 0 ≤ (x5_1 : Int) := Oa); (have q11 : x5_1 < (a0.size : Int) := Oa); (have hx11 := bt_at a0 x5_1); (replace p11 := eq_true p11); (replace q11 := eq_true q11); (go_wp2); (go_ret2); (exact ⟨Er, Hb⟩)
                  · (rw [if_neg c12] at H); (have c12b0 : decide (((9223372036854775807 - (((bt a0 x5_1) - 48) % 256)) / 10) < x4_1) = false := decide_eq_false c12); (clear c12); (have H' := Aside0.mk H); (clear H); (have p11 : 0 ≤ (x5_1 : Int) := Oa); (have q11 : x5_1 < (a0.size : Int) := Oa); (have hx11 := bt_at a0 x5_1); (replace p11 := eq_true p11); (replace q11 := eq_true q11); (go_wp2); (go_roundg kj2)
                    case measure => have := HK1.out; have := HJ2.out; omega
                    case rel => exact ⟨(wrap64 ((wrap64 (10 * x4_1)) + (((bt a0 x5_1) - 48) % 256))), (wrap64 (x5_1 + 1)), (by first | rfl | (simp; done) | (simp [*]; done) | exact congrArg Value.bool (ne_nil_bool _) | exact congrArg Value.bool (eq_nil_bool _)), (by first | rfl | (simp; done) | (simp [*]; done) | exact congrArg Value.bool (ne_nil_bool _) | exact congrArg Value.bool (eq_nil_bool _)), H', ⟨by have := HK1.out; have := HJ2.out; omega⟩, ⟨Hb⟩⟩
                · (rw [if_neg c10] at H); (exact absurd H (by simp))
              · (rw [if_neg c9] at H); (exact absurd H (by simp))
      · (rw [if_neg c2] at H); (have c2b0 : decide (x5_1 < (a0.size : Int)) = false := decide_eq_false c2); (clear c2); (by_cases c13 : (a0.size : Int) > 0)
        · (rw [if_pos c13] at H); (have c13b0 : decide (0 < (a0.size : Int)) = true := decide_eq_true c13); (have c13b1 : decide (0 < a0.size) = true := decide_eq_true (by omega)); (clear c13); (replace H := Option.bind_eq_some_iff.mp H); (obtain ⟨t186, A140, H⟩ := H); (replace H : (some (x4_1, (t186.toList == a0.toList))) = some (r1, r2) := H); (have A14 := Aside0.mk A140); (clear A140); (simp only [Option.some.injEq, Prod.mk.injEq] at H); (obtain ⟨rfl, rfl⟩ := H); (go_wp2_with (first | (go_at_call 33; (with_reducible refine (r42_decimal.calls k1 x4_1 t186 _ A14.out).mono ?_); rintro e w15 ⟨rfl, hb⟩; replace HB := Bs hb))); (go_ret2); (exact ⟨Er, Hb⟩)
        · (rw [if_neg c13] at H); (have c13b0 : decide (0 < (a0.size : Int)) = false := decide_eq_false c13); (have c13b1 : decide (0 < a0.size) = false := decide_eq_false (by omega)); (clear c13); (simp only [Option.some.injEq, Prod.mk.injEq] at H); (obtain ⟨rfl, rfl⟩ := H); (go_wp2); (go_ret2); (exact ⟨Er, Hb⟩)
end Go.Proofs.YtdaijpjjilmkkaaGreatDoor.Pr

namespace Go.Proofs.YtdaijpjjilmkkaaGreatDoor.Pr
open Go.RowKit Go.Proofs.YtdaijpjjilmkkaaGreatDoorW.PrintWords Go.Proofs.YtdaijpjjilmkkaaGreatDoorW.PrintLast Go.Proofs.YtdaijpjjilmkkaaGreatDoorW.PrintMore
attribute [local go_sem] max2_int min2_int max_two min_two max_three min_three max_four min_four   -- for this text's walks alone
set_option linter.unusedVariables false
set_option linter.unusedSimpArgs false
def r42_base.j0 : Nat → List ByteArray → Bool → Option ((List (S49)) × (List (S46)) × Int × Int × Int × Bool)
  | 0, _, _ => none
  | k + 1, x4, x21 => if x21 = true then (some (([] : List (S49)), ([] : List (S46)), 0, 0, 0, false)) else (if 1 < (x4.length : Int) then ((r42_numeral.f k (rdOf ByteArray.empty x4 1)).bind fun bt193 => (if 2 < (x4.length : Int) then ((r42_numeral.f k (rdOf ByteArray.empty x4 2)).bind fun bt196 => (if 3 < (x4.length : Int) then ((r42_numeral.f k (rdOf ByteArray.empty x4 3)).bind fun bt199 => (if bt193.2 = true then (if bt196.2 = true then (some (([] : List (S49)), ([] : List (S46)), bt193.1, bt196.1, bt199.1, bt199.2)) else (some (([] : List (S49)), ([] : List (S46)), bt193.1, bt196.1, bt199.1, false))) else (some (([] : List (S49)), ([] : List (S46)), bt193.1, bt196.1, bt199.1, false)))) else (none))) else (none))) else (none))
def r42_base.f (k : Nat) (a0 : ByteArray) : Option ((List (S49)) × (List (S46)) × Int × Int × Int × Bool) := (r02_Cut.f k a0 32).bind fun t188 => (if (t188.length : Int) = 4 then (if 0 < (t188.length : Int) then (r42_base.j0 k t188 ((rdOf ByteArray.empty t188 0).toList != ([64, 98, 97, 115, 101] : List UInt8))) else (none)) else (r42_base.j0 k t188 true))
theorem r42_base.mono_l : ∀ k, (∀ y0 y1, LeO (r42_base.j0 k y0 y1) (r42_base.j0 (k + 1) y0 y1))
  | 0 => fun _ _ r h => by simp [r42_base.j0] at h
  | k + 1 => by
    have ih0 := r42_base.mono_l k
    · (intro y0 y1); (unfold r42_base.j0)
      repeat' first
      | (with_reducible exact ih0 _ _)
      | (with_reducible exact r02_Cut.mono _ _ _)
      | (with_reducible exact r42_numeral.mono _ _)
      | (with_reducible exact LeO.refl _)
      | (with_reducible exact LeO.none _)
      | (with_reducible refine LeO.ite ?_ ?_)
      | (with_reducible refine LeO.bind ?_ (fun _ => ?_))
theorem r42_base.mono : ∀ a0 k, LeO (r42_base.f k a0) (r42_base.f (k + 1) a0) := by
  (intro a0 k); (have ih0 := r42_base.mono_l k); (unfold r42_base.f)
  repeat' first
      | (with_reducible exact ih0 _ _)
      | (with_reducible exact r02_Cut.mono _ _ _)
      | (with_reducible exact r42_numeral.mono _ _)
      | (with_reducible exact LeO.refl _)
      | (with_reducible exact LeO.none _)
      | (with_reducible refine LeO.ite ?_ ?_)
      | (with_reducible refine LeO.bind ?_ (fun _ => ?_))
set_option maxHeartbeats 8000000 in
set_option maxRecDepth 100000 in
theorem r42_base.calls (k : Nat) (a0 : ByteArray) (r1 : List (S49)) (r2 : List (S46)) (r3 : Int) (r4 : Int) (r5 : Int) (r6 : Bool) (w : World) (h : r42_base.f k a0 = some (r1, r2, r3, r4, r5, r6)) :
    Calls Tryz.prog 42 #[.string a0] w fun e w' => ∃ v0_ v1_ : Value, e = .returned (.tuple #[.agg #[v0_, v1_, .int .i64 r3, .int .i64 r4, .int .i64 r5], .bool r6]) ∧ Kd.S k49 49 w' w.heap.size (fun _ => True) v0_ r1 ∧ Kd.R k46 46 w' w.heap.size (fun _ => True) v1_ r2 ∧ Below w.heap.size w w' := by
  (have hu35 := Tryz.underlying35); (have HB := Aside0.mk (Below.refl w.heap.size w)); (have H : ((r02_Cut.f k a0 32).bind fun t188 => (if (t188.length : Int) = 4 then (if 0 < (t188.length : Int) then (r42_base.j0 k t188 ((rdOf ByteArray.empty t188 0).toList != ([64, 98, 97, 115, 101] : List UInt8))) else (none)) else (r42_base.j0 k t188 true))) = some (r1, r2, r3, r4, r5, r6) := h); (clear h); (replace H := Option.bind_eq_some_iff.mp H); (obtain ⟨t188, A20, H⟩ := H); (replace H : (if (t188.length : Int) = 4 then (if 0 < (t188.length : Int) then (r42_base.j0 k t188 ((rdOf ByteArray.empty t188 0).toList != ([64, 98, 97, 115, 101] : List UInt8))) else (none)) else (r42_base.j0 k t188 true)) = some (r1, r2, r3, r4, r5, r6) := H); (have A2 := Aside0.mk A20); (clear A20); (have HC3 := Aside0.mk H); (clear H); (go_enter Tryz.func42, Tryz.ntmps42); (go_upto_region 2 with (first | ((with_reducible refine gate_dst (N := 2) rfl ?_); refine Bx 2 #[.slice none 0 0, .slice none 0 0, .int .i64 0, .int .i64 0, .int .i64 0] 35 ?_; intro gb187 hg w4 hbox hb; have BK187 := Aside0.mk (hbox); have GW187 := Gs w hg; have GE187 := Gs w hg; replace HB := Bs hb; clear hb hbox hg) | ((with_reducible refine gate_callee (f := 40) rfl ?_); refine Gl (some 12) Tryz.func40 #[.string a0, .int .u8 32] ?_; (with_reducible refine (r02_Cut.calls k a0 32 t188 _ A2.out).mono ?_); rintro e w5 ⟨v189, rfl, ho0, hb⟩; refine ⟨_, rfl, ?_⟩; have HO190 := Aside0.mk (Kd.R_lower ho0 (below_size Hb)); replace BK187 := Nb BK187 hb; replace HB := Bs hb; (try clear ho0)))); (try simp only [Act.put, List.setIfInBounds_toArray, List.set_cons_zero, List.set_cons_succ]); (go_cut [21] (fun v21 wc => ∃ (kq : Nat) (x21_2 : Bool), v21 = .bool x21_2 ∧ Aside0 (r42_base.j0 kq t188 x21_2 = some (r1, r2, r3, r4, r5, r6)) ∧ Aside0 (kq ≤ k) ∧ Aside0 (Kd.R Kd.string 9 wc w.heap.size (fun _ => True) v189 t188) ∧ Aside0 (wc.heap[gb187]? = some (.cells #[(.slice none 0 0), (.slice none 0 0), .int .i64 0, .int .i64 0, .int .i64 0] 35 (0, 0))) ∧ Aside0 (Below w.heap.size w wc)))
  case first =>
    (have H := HC3.out); (clear HC3); (by_cases c6 : (t188.length : Int) = 4)
    · (rw [if_pos c6] at H); (have c6b0 : ((t188.length : Int) == 4) = true := beq_iff_eq.mpr c6); (have c6b1 : ((t188.length : Int) != 4) = false := bne_eq_false_iff_eq.mpr c6); (clear c6); (first | rw [c6b0] | (simp only [i64_w, i32_w]; rw [c6b0]) | skip); (by_cases c7 : 0 < (t188.length : Int))
      · (rw [if_pos c7] at H); (have c7b0 : decide (0 < (t188.length : Int)) = true := decide_eq_true c7); (have c7b1 : decide (0 < t188.length) = true := decide_eq_true (by omega)); (clear c7); (have H' := Aside0.mk H); (clear H); (obtain ⟨Ao8, co8, eo8⟩ := Kd.R_slice HO190.out); (subst eo8); (have p191 : 0 ≤ (0 : Int) := (by omega)); (have q191 : 0 < (t188.length : Int) := Oa); (obtain ⟨ad191, e191, hx191_0⟩ := Kd.at_string (Kd.R_reads' HO190.out).2.2 0 p191 q191); (cases e191); (have qi191 : (0 < t188.length) = True := eq_true (by omega)); (try rw [show ((0 : Int)).toNat = 0 from rfl] at hx191_0); (try rw [Addr.add_zero'] at hx191_0); (replace p191 := eq_true p191); (replace q191 := eq_true q191); (go_wp2); (go_meet)
        case rel => exact ⟨_, (((rdOf ByteArray.empty t188 0).toList != ([64, 98, 97, 115, 101] : List UInt8))), (by first | rfl | (simp; done) | (simp [*]; done) | exact congrArg Value.bool (ne_nil_bool _) | exact congrArg Value.bool (eq_nil_bool _)), H', ⟨by first | omega | exact Nat.le_refl _⟩, ⟨by (with_reducible repeat (first | apply Kd.R_alloc | apply Kd.R_drewN | apply Kd.R_drew)); exact HO190.out⟩, ⟨by (with_reducible repeat (first | refine blk_drewN ?_ _ | refine blk_drew ?_ | refine blk_alloc ?_ _)); exact BK187.out⟩, ⟨Hb⟩⟩
      · (rw [if_neg c7] at H); (exact absurd H (by simp))
    · (rw [if_neg c6] at H); (have c6b0 : ((t188.length : Int) == 4) = false := beq_eq_false_iff_ne.mpr c6); (have c6b1 : ((t188.length : Int) != 4) = true := bne_iff_ne.mpr c6); (first | rw [c6b0] | (simp only [i64_w, i32_w]; rw [c6b0]) | skip); (have H' := Aside0.mk H); (clear H); (obtain ⟨Ao9, co9, eo9⟩ := Kd.R_slice HO190.out); (subst eo9); (go_wp2); (go_meet)
      case rel => exact ⟨_, (true), (by first | rfl | (simp; done) | (simp [*]; done) | exact congrArg Value.bool (ne_nil_bool _) | exact congrArg Value.bool (eq_nil_bool _)), H', ⟨by first | omega | exact Nat.le_refl _⟩, ⟨by (with_reducible repeat (first | apply Kd.R_alloc | apply Kd.R_drewN | apply Kd.R_drew)); exact HO190.out⟩, ⟨by (with_reducible repeat (first | refine blk_drewN ?_ _ | refine blk_drew ?_ | refine blk_alloc ?_ _)); exact BK187.out⟩, ⟨Hb⟩⟩
  case rest =>
    (clear HC3); (try clear p1); (try clear q1); (try clear hx1); (try clear qi1); (try clear p2); (try clear c4); (try clear c6); (try clear c6b0); (try clear c6b1); (try clear c7); (try clear c7b0); (try clear c7b1); (try clear hx191_0); (try clear p191); (try clear q191); (obtain ⟨kq, x21_2, rfl, HA, HJ2, HO_4, BK187, HB⟩ := hcut)
    cases kq with
    | zero => exact absurd HA.out (by simp [r42_base.j0])
    | succ kj2 =>
      (have H := HA.out); (clear HA); (simp only [r42_base.j0] at H); (by_cases c10 : x21_2 = true)
      · (subst c10); (have H1 : (some (([] : List (S49)), ([] : List (S46)), 0, 0, 0, false)) = some (r1, r2, r3, r4, r5, r6) := by rw [if_pos rfl] at H; exact H); (clear H); (have H := H1); (clear H1); (simp only [Option.some.injEq, Prod.mk.injEq] at H); (obtain ⟨rfl, rfl, rfl, rfl, rfl, rfl⟩ := H); (obtain ⟨hcz11_0, hcz11_1, hcz11_2, hcz11_3, hcz11_4, hfz11_0, hfz11_1, hfz11_2, hfz11_3, hfz11_4⟩ := Bz5 BK187.out); (go_wp2); (refine bodyPost_ret (results_ct rfl _ _ gb187 35 #[.slice none 0 0, .slice none 0 0, .int .i64 0, .int .i64 0, .int .i64 0] (0, 0) _ rfl Bk Tryz.underlying35 rfl (by kernel_rfl)) rfl ?_); (exact ⟨_, _, Er, Kn, Kn, Hb⟩)
      · (replace c10 := Bool.eq_false_iff.mpr c10); (subst c10); (have H1 : (if 1 < (t188.length : Int) then ((r42_numeral.f kj2 (rdOf ByteArray.empty t188 1)).bind fun bt193 => (if 2 < (t188.length : Int) then ((r42_numeral.f kj2 (rdOf ByteArray.empty t188 2)).bind fun bt196 => (if 3 < (t188.length : Int) then ((r42_numeral.f kj2 (rdOf ByteArray.empty t188 3)).bind fun bt199 => (if bt193.2 = true then (if bt196.2 = true then (some (([] : List (S49)), ([] : List (S46)), bt193.1, bt196.1, bt199.1, bt199.2)) else (some (([] : List (S49)), ([] : List (S46)), bt193.1, bt196.1, bt199.1, false))) else (some (([] : List (S49)), ([] : List (S46)), bt193.1, bt196.1, bt199.1, false)))) else (none))) else (none))) else (none)) = some (r1, r2, r3, r4, r5, r6) := by rw [if_neg (show ¬ (false = true) by decide)] at H; exact H); (clear H); (have H := H1); (clear H1); (by_cases c12 : 1 < (t188.length : Int))
        · (rw [if_pos c12] at H); (have c12b0 : decide (1 < (t188.length : Int)) = true := decide_eq_true c12); (have c12b1 : decide (1 < t188.length) = true := decide_eq_true (by omega)); (clear c12); (replace H := Option.bind_eq_some_iff.mp H); (obtain ⟨⟨t193, t194⟩, A130, H⟩ := H); (replace H : (if 2 < (t188.length : Int) then ((r42_numeral.f kj2 (rdOf ByteArray.empty t188 2)).bind fun bt196 => (if 3 < (t188.length : Int) then ((r42_numeral.f kj2 (rdOf ByteArray.empty t188 3)).bind fun bt199 => (if t194 = true then (if bt196.2 = true then (some (([] : List (S49)), ([] : List (S46)), t193, bt196.1, bt199.1, bt199.2)) else (some (([] : List (S49)), ([] : List (S46)), t193, bt196.1, bt199.1, false))) else (some (([] : List (S49)), ([] : List (S46)), t193, bt196.1, bt199.1, false)))) else (none))) else (none)) = some (r1, r2, r3, r4, r5, r6) := H); (have A13 := Aside0.mk A130); (clear A130); (by_cases c14 : 2 < (t188.length : Int))
          · (rw [if_pos c14] at H); (have c14b0 : decide (2 < (t188.length : Int)) = true := decide_eq_true c14); (have c14b1 : decide (2 < t188.length) = true := decide_eq_true (by omega)); (clear c14); (replace H := Option.bind_eq_some_iff.mp H); (obtain ⟨⟨t196, t197⟩, A150, H⟩ := H); (replace H : (if 3 < (t188.length : Int) then ((r42_numeral.f kj2 (rdOf ByteArray.empty t188 3)).bind fun bt199 => (if t194 = true then (if t197 = true then (some (([] : List (S49)), ([] : List (S46)), t193, t196, bt199.1, bt199.2)) else (some (([] : List (S49)), ([] : List (S46)), t193, t196, bt199.1, false))) else (some (([] : List (S49)), ([] : List (S46)), t193, t196, bt199.1, false)))) else (none)) = some (r1, r2, r3, r4, r5, r6) := H); (have A15 := Aside0.mk A150); (clear A150); (by_cases c16 : 3 < (t188.length : Int))
            · (rw [if_pos c16] at H); (have c16b0 : decide (3 < (t188.length : Int)) = true := decide_eq_true c16); (have c16b1 : decide (3 < t188.length) = true := decide_eq_true (by omega)); (clear c16); (replace H := Option.bind_eq_some_iff.mp H); (obtain ⟨⟨t199, t200⟩, A170, H⟩ := H); (replace H : (if t194 = true then (if t197 = true then (some (([] : List (S49)), ([] : List (S46)), t193, t196, t199, t200)) else (some (([] : List (S49)), ([] : List (S46)), t193, t196, t199, false))) else (some (([] : List (S49)), ([] : List (S46)), t193, t196, t199, false))) = some (r1, r2, r3, r4, r5, r6) := H); (have A17 := Aside0.mk A170); (clear A170); (by_cases c18 : t194 = true)
              · (subst c18); (have H1 : (if t197 = true then (some (([] : List (S49)), ([] : List (S46)), t193, t196, t199, t200)) else (some (([] : List (S49)), ([] : List (S46)), t193, t196, t199, false))) = some (r1, r2, r3, r4, r5, r6) := by rw [if_pos rfl] at H; exact H); (clear H); (have H := H1); (clear H1); (by_cases c19 : t197 = true)
                · (subst c19); (have H1 : (some (([] : List (S49)), ([] : List (S46)), t193, t196, t199, t200)) = some (r1, r2, r3, r4, r5, r6) := by rw [if_pos rfl] at H; exact H); (clear H); (have H := H1); (clear H1); (simp only [Option.some.injEq, Prod.mk.injEq] at H); (obtain ⟨rfl, rfl, rfl, rfl, rfl, rfl⟩ := H); (obtain ⟨Ao20, co20, eo20⟩ := Kd.R_slice HO_4.out); (subst eo20); (have p192 : 0 ≤ (1 : Int) := (by omega)); (have q192 : 1 < (t188.length : Int) := Oa); (obtain ⟨ad192, e192, hx192_0⟩ := Kd.at_string (Kd.R_reads' HO_4.out).2.2 1 p192 q192); (cases e192); (try simp only [show (1 : Int).toNat = 1 from rfl, Nat.reduceMul, Nat.reduceEqDiff, Go.Addr.add, ↓reduceIte] at hx192_0); (have qi192 : (1 < t188.length) = True := eq_true (by omega)); (try rw [show ((1 : Int)).toNat = 1 from rfl] at hx192_0); (replace p192 := eq_true p192); (replace q192 := eq_true q192); (go_wp2_with (first | ((with_reducible refine gate_callee (f := 68) rfl ?_); refine Gl (some 27) Tryz.func68 #[.string (rdOf ByteArray.empty t188 1)] ?_; (with_reducible refine (r42_numeral.calls kj2 (rdOf ByteArray.empty t188 1) t193 true _ A13.out).mono ?_); rintro e w21 ⟨rfl, hb⟩; refine ⟨_, rfl, ?_⟩; replace HO_4 := Aside0.mk (Kd.R_below (Kr HO_4) hb); replace BK187 := Nb BK187 hb; replace HB := Bs hb; have p195 : 0 ≤ (2 : Int) := (by omega); have q195 : 2 < (t188.length : Int) := Oa; obtain ⟨ad195, e195, hx195_0⟩ := Kd.at_string (Kd.R_reads' HO_4.out).2.2 2 p195 q195; obtain rfl : ad192 = ad195 := (by injection e195); (try simp only [show (2 : Int).toNat = 2 from rfl, Nat.reduceMul, Nat.reduceEqDiff, Go.Addr.add, ↓reduceIte] at hx195_0); have qi195 : (2 < t188.length) = True := eq_true (by omega); (try rw [show ((2 : Int)).toNat = 2 from rfl] at hx195_0); replace p195 := eq_true p195; replace q195 := eq_true q195) | ((with_reducible refine gate_callee (f := 68) rfl ?_); refine Gl (some 34) Tryz.func68 #[.string (rdOf ByteArray.empty t188 2)] ?_; (with_reducible refine (r42_numeral.calls kj2 (rdOf ByteArray.empty t188 2) t196 true _ A15.out).mono ?_); rintro e w22 ⟨rfl, hb⟩; refine ⟨_, rfl, ?_⟩; replace HO_4 := Aside0.mk (Kd.R_below (Kr HO_4) hb); replace BK187 := Nb BK187 hb; replace HB := Bs hb; have p198 : 0 ≤ (3 : Int) := (by omega); have q198 : 3 < (t188.length : Int) := Oa; obtain ⟨ad198, e198, hx198_0⟩ := Kd.at_string (Kd.R_reads' HO_4.out).2.2 3 p198 q198; obtain rfl : ad192 = ad198 := (by injection e198); (try simp only [show (3 : Int).toNat = 3 from rfl, Nat.reduceMul, Nat.reduceEqDiff, Go.Addr.add, ↓reduceIte] at hx198_0); have qi198 : (3 < t188.length) = True := eq_true (by omega); (try rw [show ((3 : Int)).toNat = 3 from rfl] at hx198_0); replace p198 := eq_true p198; replace q198 := eq_true q198) | ((with_reducible refine gate_callee (f := 68) rfl ?_); refine Gl (some 41) Tryz.func68 #[.string (rdOf ByteArray.empty t188 3)] ?_; (with_reducible refine (r42_numeral.calls kj2 (rdOf ByteArray.empty t188 3) t199 t200 _ A17.out).mono ?_); rintro e w23 ⟨rfl, hb⟩; refine ⟨_, rfl, ?_⟩; replace HO_4 := Aside0.mk (Kd.R_below (Kr HO_4) hb); replace BK187 := Nb BK187 hb; replace HB := Bs hb; have hcz24_0 := (Bz5 BK187.out).1; have hcz24_1 := (Bz5 BK187.out).2.1; have hcz24_2 := (Bz5 BK187.out).2.2.1; have hcz24_3 := (Bz5 BK187.out).2.2.2.1; have hcz24_4 := (Bz5 BK187.out).2.2.2.2.1; have hfz24_0 := blk_frozen BK187.out 0; have hfz24_1 := blk_frozen BK187.out 1; have hfz24_2 := blk_frozen BK187.out 2; have hfz24_3 := blk_frozen BK187.out 3; have hfz24_4 := blk_frozen BK187.out 4))); (refine bodyPost_ret (results_ct rfl _ _ gb187 35 #[.slice none 0 0, .slice none 0 0, .int .i64 t193, .int .i64 t196, .int .i64 t199] (0, 0) _ rfl Bk Tryz.underlying35 rfl (by kernel_rfl)) rfl ?_); (exact ⟨_, _, Er, Kn, Kn, Hb⟩)
                · (replace c19 := Bool.eq_false_iff.mpr c19); (subst c19); (have H1 : (some (([] : List (S49)), ([] : List (S46)), t193, t196, t199, false)) = some (r1, r2, r3, r4, r5, r6) := by rw [if_neg (show ¬ (false = true) by decide)] at H; exact H); (clear H); (have H := H1); (clear H1); (simp only [Option.some.injEq, Prod.mk.injEq] at H); (obtain ⟨rfl, rfl, rfl, rfl, rfl, rfl⟩ := H); (obtain ⟨Ao25, co25, eo25⟩ := Kd.R_slice HO_4.out); (subst eo25); (have p192 : 0 ≤ (1 : Int) := (by omega)); (have q192 : 1 < (t188.length : Int) := Oa); (obtain ⟨ad192, e192, hx192_0⟩ := Kd.at_string (Kd.R_reads' HO_4.out).2.2 1 p192 q192); (cases e192); (try simp only [show (1 : Int).toNat = 1 from rfl, Nat.reduceMul, Nat.reduceEqDiff, Go.Addr.add, ↓reduceIte] at hx192_0); (have qi192 : (1 < t188.length) = True := eq_true (by omega)); (try rw [show ((1 : Int)).toNat = 1 from rfl] at hx192_0); (replace p192 := eq_true p192); (replace q192 := eq_true q192); (go_wp2_with (first | ((with_reducible refine gate_callee (f := 68) rfl ?_); refine Gl (some 27) Tryz.func68 #[.string (rdOf ByteArray.empty t188 1)] ?_; (with_reducible refine (r42_numeral.calls kj2 (rdOf ByteArray.empty t188 1) t193 true _ A13.out).mono ?_); rintro e w26 ⟨rfl, hb⟩; refine ⟨_, rfl, ?_⟩; replace HO_4 := Aside0.mk (Kd.R_below (Kr HO_4) hb); replace BK187 := Nb BK187 hb; replace HB := Bs hb; have p195 : 0 ≤ (2 : Int) := (by omega); have q195 : 2 < (t188.length : Int) := Oa; obtain ⟨ad195, e195, hx195_0⟩ := Kd.at_string (Kd.R_reads' HO_4.out).2.2 2 p195 q195; obtain rfl : ad192 = ad195 := (by injection e195); (try simp only [show (2 : Int).toNat = 2 from rfl, Nat.reduceMul, Nat.reduceEqDiff, Go.Addr.add, ↓reduceIte] at hx195_0); have qi195 : (2 < t188.length) = True := eq_true (by omega); (try rw [show ((2 : Int)).toNat = 2 from rfl] at hx195_0); replace p195 := eq_true p195; replace q195 := eq_true q195) | ((with_reducible refine gate_callee (f := 68) rfl ?_); refine Gl (some 34) Tryz.func68 #[.string (rdOf ByteArray.empty t188 2)] ?_; (with_reducible refine (r42_numeral.calls kj2 (rdOf ByteArray.empty t188 2) t196 false _ A15.out).mono ?_); rintro e w27 ⟨rfl, hb⟩; refine ⟨_, rfl, ?_⟩; replace HO_4 := Aside0.mk (Kd.R_below (Kr HO_4) hb); replace BK187 := Nb BK187 hb; replace HB := Bs hb; have p198 : 0 ≤ (3 : Int) := (by omega); have q198 : 3 < (t188.length : Int) := Oa; obtain ⟨ad198, e198, hx198_0⟩ := Kd.at_string (Kd.R_reads' HO_4.out).2.2 3 p198 q198; obtain rfl : ad192 = ad198 := (by injection e198); (try simp only [show (3 : Int).toNat = 3 from rfl, Nat.reduceMul, Nat.reduceEqDiff, Go.Addr.add, ↓reduceIte] at hx198_0); have qi198 : (3 < t188.length) = True := eq_true (by omega); (try rw [show ((3 : Int)).toNat = 3 from rfl] at hx198_0); replace p198 := eq_true p198; replace q198 := eq_true q198) | ((with_reducible refine gate_callee (f := 68) rfl ?_); refine Gl (some 41) Tryz.func68 #[.string (rdOf ByteArray.empty t188 3)] ?_; (with_reducible refine (r42_numeral.calls kj2 (rdOf ByteArray.empty t188 3) t199 t200 _ A17.out).mono ?_); rintro e w28 ⟨rfl, hb⟩; refine ⟨_, rfl, ?_⟩; replace HO_4 := Aside0.mk (Kd.R_below (Kr HO_4) hb); replace BK187 := Nb BK187 hb; replace HB := Bs hb; have hcz29_0 := (Bz5 BK187.out).1; have hcz29_1 := (Bz5 BK187.out).2.1; have hcz29_2 := (Bz5 BK187.out).2.2.1; have hcz29_3 := (Bz5 BK187.out).2.2.2.1; have hcz29_4 := (Bz5 BK187.out).2.2.2.2.1; have hfz29_0 := blk_frozen BK187.out 0; have hfz29_1 := blk_frozen BK187.out 1; have hfz29_2 := blk_frozen BK187.out 2; have hfz29_3 := blk_frozen BK187.out 3; have hfz29_4 := blk_frozen BK187.out 4))); (refine bodyPost_ret (results_ct rfl _ _ gb187 35 #[.slice none 0 0, .slice none 0 0, .int .i64 t193, .int .i64 t196, .int .i64 t199] (0, 0) _ rfl Bk Tryz.underlying35 rfl (by kernel_rfl)) rfl ?_); (exact ⟨_, _, Er, Kn, Kn, Hb⟩)
              · (replace c18 := Bool.eq_false_iff.mpr c18); (subst c18); (have H1 : (some (([] : List (S49)), ([] : List (S46)), t193, t196, t199, false)) = some (r1, r2, r3, r4, r5, r6) := by rw [if_neg (show ¬ (false = true) by decide)] at H; exact H); (clear H); (have H := H1); (clear H1); (simp only [Option.some.injEq, Prod.mk.injEq] at H); (obtain ⟨rfl, rfl, rfl, rfl, rfl, rfl⟩ := H); (obtain ⟨Ao30, co30, eo30⟩ := Kd.R_slice HO_4.out); (subst eo30); (have p192 : 0 ≤ (1 : Int) := (by omega)); (have q192 : 1 < (t188.length : Int) := Oa); (obtain ⟨ad192, e192, hx192_0⟩ := Kd.at_string (Kd.R_reads' HO_4.out).2.2 1 p192 q192); (cases e192); (try simp only [show (1 : Int).toNat = 1 from rfl, Nat.reduceMul, Nat.reduceEqDiff, Go.Addr.add, ↓reduceIte] at hx192_0); (have qi192 : (1 < t188.length) = True := eq_true (by omega)); (try rw [show ((1 : Int)).toNat = 1 from rfl] at hx192_0); (replace p192 := eq_true p192); (replace q192 := eq_true q192); (go_wp2_with (first | ((with_reducible refine gate_callee (f := 68) rfl ?_); refine Gl (some 27) Tryz.func68 #[.string (rdOf ByteArray.empty t188 1)] ?_; (with_reducible refine (r42_numeral.calls kj2 (rdOf ByteArray.empty t188 1) t193 false _ A13.out).mono ?_); rintro e w31 ⟨rfl, hb⟩; refine ⟨_, rfl, ?_⟩; replace HO_4 := Aside0.mk (Kd.R_below (Kr HO_4) hb); replace BK187 := Nb BK187 hb; replace HB := Bs hb; have p195 : 0 ≤ (2 : Int) := (by omega); have q195 : 2 < (t188.length : Int) := Oa; obtain ⟨ad195, e195, hx195_0⟩ := Kd.at_string (Kd.R_reads' HO_4.out).2.2 2 p195 q195; obtain rfl : ad192 = ad195 := (by injection e195); (try simp only [show (2 : Int).toNat = 2 from rfl, Nat.reduceMul, Nat.reduceEqDiff, Go.Addr.add, ↓reduceIte] at hx195_0); have qi195 : (2 < t188.length) = True := eq_true (by omega); (try rw [show ((2 : Int)).toNat = 2 from rfl] at hx195_0); replace p195 := eq_true p195; replace q195 := eq_true q195) | ((with_reducible refine gate_callee (f := 68) rfl ?_); refine Gl (some 34) Tryz.func68 #[.string (rdOf ByteArray.empty t188 2)] ?_; (with_reducible refine (r42_numeral.calls kj2 (rdOf ByteArray.empty t188 2) t196 t197 _ A15.out).mono ?_); rintro e w32 ⟨rfl, hb⟩; refine ⟨_, rfl, ?_⟩; replace HO_4 := Aside0.mk (Kd.R_below (Kr HO_4) hb); replace BK187 := Nb BK187 hb; replace HB := Bs hb; have p198 : 0 ≤ (3 : Int) := (by omega); have q198 : 3 < (t188.length : Int) := Oa; obtain ⟨ad198, e198, hx198_0⟩ := Kd.at_string (Kd.R_reads' HO_4.out).2.2 3 p198 q198; obtain rfl : ad192 = ad198 := (by injection e198); (try simp only [show (3 : Int).toNat = 3 from rfl, Nat.reduceMul, Nat.reduceEqDiff, Go.Addr.add, ↓reduceIte] at hx198_0); have qi198 : (3 < t188.length) = True := eq_true (by omega); (try rw [show ((3 : Int)).toNat = 3 from rfl] at hx198_0); replace p198 := eq_true p198; replace q198 := eq_true q198) | ((with_reducible refine gate_callee (f := 68) rfl ?_); refine Gl (some 41) Tryz.func68 #[.string (rdOf ByteArray.empty t188 3)] ?_; (with_reducible refine (r42_numeral.calls kj2 (rdOf ByteArray.empty t188 3) t199 t200 _ A17.out).mono ?_); rintro e w33 ⟨rfl, hb⟩; refine ⟨_, rfl, ?_⟩; replace HO_4 := Aside0.mk (Kd.R_below (Kr HO_4) hb); replace BK187 := Nb BK187 hb; replace HB := Bs hb; have hcz34_0 := (Bz5 BK187.out).1; have hcz34_1 := (Bz5 BK187.out).2.1; have hcz34_2 := (Bz5 BK187.out).2.2.1; have hcz34_3 := (Bz5 BK187.out).2.2.2.1; have hcz34_4 := (Bz5 BK187.out).2.2.2.2.1; have hfz34_0 := blk_frozen BK187.out 0; have hfz34_1 := blk_frozen BK187.out 1; have hfz34_2 := blk_frozen BK187.out 2; have hfz34_3 := blk_frozen BK187.out 3; have hfz34_4 := blk_frozen BK187.out 4))); (refine bodyPost_ret (results_ct rfl _ _ gb187 35 #[.slice none 0 0, .slice none 0 0, .int .i64 t193, .int .i64 t196, .int .i64 t199] (0, 0) _ rfl Bk Tryz.underlying35 rfl (by kernel_rfl)) rfl ?_); (exact ⟨_, _, Er, Kn, Kn, Hb⟩)
            · (rw [if_neg c16] at H); (exact absurd H (by simp))
          · (rw [if_neg c14] at H); (exact absurd H (by simp))
        · (rw [if_neg c12] at H); (exact absurd H (by simp))
end Go.Proofs.YtdaijpjjilmkkaaGreatDoor.Pr

namespace Go.Proofs.YtdaijpjjilmkkaaGreatDoor.Pr
open Go.RowKit Go.Proofs.YtdaijpjjilmkkaaGreatDoorW.PrintWords Go.Proofs.YtdaijpjjilmkkaaGreatDoorW.PrintLast Go.Proofs.YtdaijpjjilmkkaaGreatDoorW.PrintMore
attribute [local go_sem] max2_int min2_int max_two min_two max_three min_three max_four min_four   -- for this text's walks alone
set_option linter.unusedVariables false
set_option linter.unusedSimpArgs false
def r11_Name.l0 : Nat → ByteArray → Int → Option (Bool)
  | 0, _, _ => none
  | k + 1, x0, x3 => if x3 < (x0.size : Int) then (if 0 ≤ x3 then (if (bt x0 x3) ≥ 65 then (if (bt x0 x3) ≤ 90 then (r11_Name.l0 k x0 (wrap64 (x3 + 1))) else (if (bt x0 x3) ≥ 97 then (if (bt x0 x3) ≤ 122 then (r11_Name.l0 k x0 (wrap64 (x3 + 1))) else (if (bt x0 x3) ≥ 48 then (if (bt x0 x3) ≤ 57 then (r11_Name.l0 k x0 (wrap64 (x3 + 1))) else (if ((bt x0 x3) = 95) then (r11_Name.l0 k x0 (wrap64 (x3 + 1))) else (some false))) else (if ((bt x0 x3) = 95) then (r11_Name.l0 k x0 (wrap64 (x3 + 1))) else (some false)))) else (if (bt x0 x3) ≥ 48 then (if (bt x0 x3) ≤ 57 then (r11_Name.l0 k x0 (wrap64 (x3 + 1))) else (if ((bt x0 x3) = 95) then (r11_Name.l0 k x0 (wrap64 (x3 + 1))) else (some false))) else (if ((bt x0 x3) = 95) then (r11_Name.l0 k x0 (wrap64 (x3 + 1))) else (some false))))) else (if (bt x0 x3) ≥ 97 then (if (bt x0 x3) ≤ 122 then (r11_Name.l0 k x0 (wrap64 (x3 + 1))) else (if (bt x0 x3) ≥ 48 then (if (bt x0 x3) ≤ 57 then (r11_Name.l0 k x0 (wrap64 (x3 + 1))) else (if ((bt x0 x3) = 95) then (r11_Name.l0 k x0 (wrap64 (x3 + 1))) else (some false))) else (if ((bt x0 x3) = 95) then (r11_Name.l0 k x0 (wrap64 (x3 + 1))) else (some false)))) else (if (bt x0 x3) ≥ 48 then (if (bt x0 x3) ≤ 57 then (r11_Name.l0 k x0 (wrap64 (x3 + 1))) else (if ((bt x0 x3) = 95) then (r11_Name.l0 k x0 (wrap64 (x3 + 1))) else (some false))) else (if ((bt x0 x3) = 95) then (r11_Name.l0 k x0 (wrap64 (x3 + 1))) else (some false))))) else (none)) else (if (x0.size : Int) ≥ 1 then (some (decide ((x0.size : Int) ≤ 32))) else (some false))
def r11_Name.f (k : Nat) (a0 : ByteArray) : Option (Bool) := r11_Name.l0 k a0 0
theorem r11_Name.mono_l : ∀ k, (∀ y0 y1, LeO (r11_Name.l0 k y0 y1) (r11_Name.l0 (k + 1) y0 y1))
  | 0 => fun _ _ r h => by simp [r11_Name.l0] at h
  | k + 1 => by
    have ih0 := r11_Name.mono_l k
    · (intro y0 y1); (unfold r11_Name.l0)
      repeat' first
      | (with_reducible exact ih0 _ _)
      | (with_reducible exact LeO.refl _)
      | (with_reducible exact LeO.none _)
      | (with_reducible refine LeO.ite ?_ ?_)
      | (with_reducible refine LeO.bind ?_ (fun _ => ?_))
theorem r11_Name.mono : ∀ a0 k, LeO (r11_Name.f k a0) (r11_Name.f (k + 1) a0) := by
  (intro a0 k); (have ih0 := r11_Name.mono_l k); (unfold r11_Name.f)
  repeat' first
      | (with_reducible exact ih0 _ _)
      | (with_reducible exact LeO.refl _)
      | (with_reducible exact LeO.none _)
      | (with_reducible refine LeO.ite ?_ ?_)
      | (with_reducible refine LeO.bind ?_ (fun _ => ?_))
set_option maxHeartbeats 8000000 in
set_option maxRecDepth 100000 in
theorem r11_Name.calls (k : Nat) (a0 : ByteArray) (r : Bool) (w : World) (h : r11_Name.f k a0 = some r) :
    Calls Tryz.prog 34 #[.string a0] w fun e w' => e = .returned (.bool r) ∧ Drawn0 w w' := by
  (have H : (r11_Name.l0 k a0 0) = some r := h); (clear h); (have H' := Aside0.mk H); (clear H); (go_enter Tryz.func34, Tryz.ntmps34); (go_wp2); (go_loopg [3] k (fun kq v3 w' => ∃ (x3_1 : Int), v3 = .int .i64 x3_1 ∧ Aside0 (r11_Name.l0 kq a0 x3_1 = some r) ∧ Aside0 (kq ≤ k) ∧ Drawn0 w w'))
  case atStart => exact ⟨(0), (by first | rfl | (simp; done) | (simp [*]; done) | exact congrArg Value.bool (ne_nil_bool _) | exact congrArg Value.bool (eq_nil_bool _)), H', ⟨Nat.le_refl _⟩, by repeat (first | exact Drawn0.refl _ | apply Drawn0.step)⟩
  case round =>
    (clear H'); (obtain ⟨x3_1, rfl, HA, HK1, ⟨m1, rfl⟩⟩ := hrel)
    cases gk with
    | zero => exact absurd HA.out (by simp [r11_Name.l0])
    | succ k1 =>
      (have H := HA.out); (clear HA); (simp only [r11_Name.l0] at H); (by_cases c2 : x3_1 < (a0.size : Int))
      · (rw [if_pos c2] at H); (have c2b0 : decide (x3_1 < (a0.size : Int)) = true := decide_eq_true c2); (clear c2); (by_cases c3 : 0 ≤ x3_1)
        · (rw [if_pos c3] at H); (have c3b0 : decide (0 ≤ x3_1) = true := decide_eq_true c3); (clear c3); (by_cases c5 : (bt a0 x3_1) ≥ 65)
          · (rw [if_pos c5] at H); (have c5b0 : decide (65 ≤ (bt a0 x3_1)) = true := decide_eq_true c5); (clear c5); (by_cases c6 : (bt a0 x3_1) ≤ 90)
            · (rw [if_pos c6] at H); (have c6b0 : decide ((bt a0 x3_1) ≤ 90) = true := decide_eq_true c6); (clear c6); (have H' := Aside0.mk H); (clear H); (have p4 : 0 ≤ (x3_1 : Int) := Oa); (have q4 : x3_1 < (a0.size : Int) := Oa); (have hx4 := bt_at a0 x3_1); (replace p4 := eq_true p4); (replace q4 := eq_true q4); (go_wp2); (go_roundg k1)
              case measure => have := HK1.out; omega
              case rel => exact ⟨(wrap64 (x3_1 + 1)), (by first | rfl | (simp; done) | (simp [*]; done) | exact congrArg Value.bool (ne_nil_bool _) | exact congrArg Value.bool (eq_nil_bool _)), H', ⟨by have := HK1.out; omega⟩, by repeat (first | exact Drawn0.refl _ | apply Drawn0.step)⟩
            · (rw [if_neg c6] at H); (have c6b0 : decide ((bt a0 x3_1) ≤ 90) = false := decide_eq_false c6); (clear c6); (by_cases c7 : (bt a0 x3_1) ≥ 97)
              · (rw [if_pos c7] at H); (have c7b0 : decide (97 ≤ (bt a0 x3_1)) = true := decide_eq_true c7); (clear c7); (by_cases c8 : (bt a0 x3_1) ≤ 122)
                · (rw [if_pos c8] at H); (have c8b0 : decide ((bt a0 x3_1) ≤ 122) = true := decide_eq_true c8); (clear c8); (have H' := Aside0.mk H); (clear H); (have p4 : 0 ≤ (x3_1 : Int) := Oa); (have q4 : x3_1 < (a0.size : Int) := Oa); (have hx4 := bt_at a0 x3_1); (replace p4 := eq_true p4); (replace q4 := eq_true q4); (go_wp2); (go_roundg k1)
                  case measure => have := HK1.out; omega
                  case rel => exact ⟨(wrap64 (x3_1 + 1)), (by first | rfl | (simp; done) | (simp [*]; done) | exact congrArg Value.bool (ne_nil_bool _) | exact congrArg Value.bool (eq_nil_bool _)), H', ⟨by have := HK1.out; omega⟩, by repeat (first | exact Drawn0.refl _ | apply Drawn0.step)⟩
                · (rw [if_neg c8] at H); (have c8b0 : decide ((bt a0 x3_1) ≤ 122) = false := decide_eq_false c8); (clear c8); (by_cases c9 : (bt a0 x3_1) ≥ 48)
                  · (rw [if_pos c9] at H); (have c9b0 : decide (48 ≤ (bt a0 x3_1)) = true := decide_eq_true c9); (clear c9); (by_cases c10 : (bt a0 x3_1) ≤ 57)
                    · (rw [if_pos c10] at H); (have c10b0 : decide ((bt a0 x3_1) ≤ 57) = true := decide_eq_true c10); (clear c10); (have H' := Aside0.mk H); (clear H); (have p4 : 0 ≤ (x3_1 : Int) := Oa); (have q4 : x3_1 < (a0.size : Int) := Oa); (have hx4 := bt_at a0 x3_1); (replace p4 := eq_true p4); (replace q4 := eq_true q4); (go_wp2); (go_roundg k1)
                      case measure => have := HK1.out; omega
                      case rel => exact ⟨(wrap64 (x3_1 + 1)), (by first | rfl | (simp; done) | (simp [*]; done) | exact congrArg Value.bool (ne_nil_bool _) | exact congrArg Value.bool (eq_nil_bool _)), H', ⟨by have := HK1.out; omega⟩, by repeat (first | exact Drawn0.refl _ | apply Drawn0.step)⟩
                    · (rw [if_neg c10] at H); (have c10b0 : decide ((bt a0 x3_1) ≤ 57) = false := decide_eq_false c10); (clear c10); (by_cases c11 : ((bt a0 x3_1) = 95))
                      · (rw [if_pos c11] at H); (have c11b0 : ((bt a0 x3_1) == 95) = true := beq_iff_eq.mpr c11); (have c11b1 : ((bt a0 x3_1) != 95) = false := bne_eq_false_iff_eq.mpr c11); (clear c11); (have H' := Aside0.mk H); (clear H); (have p4 : 0 ≤ (x3_1 : Int) := Oa); (have q4 : x3_1 < (a0.size : Int) := Oa); (have hx4 := bt_at a0 x3_1); (replace p4 := eq_true p4); (replace q4 := eq_true q4); (go_wp2); (go_roundg k1)
                        case measure => have := HK1.out; omega
                        case rel => exact ⟨(wrap64 (x3_1 + 1)), (by first | rfl | (simp; done) | (simp [*]; done) | exact congrArg Value.bool (ne_nil_bool _) | exact congrArg Value.bool (eq_nil_bool _)), H', ⟨by have := HK1.out; omega⟩, by repeat (first | exact Drawn0.refl _ | apply Drawn0.step)⟩
                      · (rw [if_neg c11] at H); (have c11b0 : ((bt a0 x3_1) == 95) = false := beq_eq_false_iff_ne.mpr c11); (have c11b1 : ((bt a0 x3_1) != 95) = true := bne_iff_ne.mpr c11); (obtain rfl := Option.some.inj H); (have p4 : 0 ≤ (x3_1 : Int) := Oa); (have q4 : x3_1 < (a0.size : Int) := Oa); (have hx4 := bt_at a0 x3_1); (replace p4 := eq_true p4); (replace q4 := eq_true q4); (go_wp2); (go_ret); (exact ⟨by first | rfl | (simp; done) | (simp [*]; done), by repeat (first | exact Drawn0.refl _ | apply Drawn0.step)⟩)
                  · (rw [if_neg c9] at H); (have c9b0 : decide (48 ≤ (bt a0 x3_1)) = false := decide_eq_false c9); (clear c9); (by_cases c12 : ((bt a0 x3_1) = 95))
                    · (rw [if_pos c12] at H); (have c12b0 : ((bt a0 x3_1) == 95) = true := beq_iff_eq.mpr c12); (have c12b1 : ((bt a0 x3_1) != 95) = false := bne_eq_false_iff_eq.mpr c12); (clear c12); (have H' := Aside0.mk H); (clear H); (have p4 : 0 ≤ (x3_1 : Int) := Oa); (have q4 : x3_1 < (a0.size : Int) := Oa); (have hx4 := bt_at a0 x3_1); (replace p4 := eq_true p4); (replace q4 := eq_true q4); (go_wp2); (go_roundg k1)
                      case measure => have := HK1.out; omega
                      case rel => exact ⟨(wrap64 (x3_1 + 1)), (by first | rfl | (simp; done) | (simp [*]; done) | exact congrArg Value.bool (ne_nil_bool _) | exact congrArg Value.bool (eq_nil_bool _)), H', ⟨by have := HK1.out; omega⟩, by repeat (first | exact Drawn0.refl _ | apply Drawn0.step)⟩
                    · (rw [if_neg c12] at H); (have c12b0 : ((bt a0 x3_1) == 95) = false := beq_eq_false_iff_ne.mpr c12); (have c12b1 : ((bt a0 x3_1) != 95) = true := bne_iff_ne.mpr c12); (obtain rfl := Option.some.inj H); (have p4 : 0 ≤ (x3_1 : Int) := Oa); (have q4 : x3_1 < (a0.size : Int) := Oa); (have hx4 := bt_at a0 x3_1); (replace p4 := eq_true p4); (replace q4 := eq_true q4); (go_wp2); (go_ret); (exact ⟨by first | rfl | (simp; done) | (simp [*]; done), by repeat (first | exact Drawn0.refl _ | apply Drawn0.step)⟩)
              · (rw [if_neg c7] at H); (have c7b0 : decide (97 ≤ (bt a0 x3_1)) = false := decide_eq_false c7); (clear c7); (by_cases c13 : (bt a0 x3_1) ≥ 48)
                · (rw [if_pos c13] at H); (have c13b0 : decide (48 ≤ (bt a0 x3_1)) = true := decide_eq_true c13); (clear c13); (by_cases c14 : (bt a0 x3_1) ≤ 57)
                  · (rw [if_pos c14] at H); (have c14b0 : decide ((bt a0 x3_1) ≤ 57) = true := decide_eq_true c14); (clear c14); (have H' := Aside0.mk H); (clear H); (have p4 : 0 ≤ (x3_1 : Int) := Oa); (have q4 : x3_1 < (a0.size : Int) := Oa); (have hx4 := bt_at a0 x3_1); (replace p4 := eq_true p4); (replace q4 := eq_true q4); (go_wp2); (go_roundg k1)
                    case measure => have := HK1.out; omega
                    case rel => exact ⟨(wrap64 (x3_1 + 1)), (by first | rfl | (simp; done) | (simp [*]; done) | exact congrArg Value.bool (ne_nil_bool _) | exact congrArg Value.bool (eq_nil_bool _)), H', ⟨by have := HK1.out; omega⟩, by repeat (first | exact Drawn0.refl _ | apply Drawn0.step)⟩
                  · (rw [if_neg c14] at H); (have c14b0 : decide ((bt a0 x3_1) ≤ 57) = false := decide_eq_false c14); (clear c14); (by_cases c15 : ((bt a0 x3_1) = 95))
                    · (rw [if_pos c15] at H); (have c15b0 : ((bt a0 x3_1) == 95) = true := beq_iff_eq.mpr c15); (have c15b1 : ((bt a0 x3_1) != 95) = false := bne_eq_false_iff_eq.mpr c15); (clear c15); (have H' := Aside0.mk H); (clear H); (have p4 : 0 ≤ (x3_1 : Int) := Oa); (have q4 : x3_1 < (a0.size : Int) := Oa); (have hx4 := bt_at a0 x3_1); (replace p4 := eq_true p4); (replace q4 := eq_true q4); (go_wp2); (go_roundg k1)
                      case measure => have := HK1.out; omega
                      case rel => exact ⟨(wrap64 (x3_1 + 1)), (by first | rfl | (simp; done) | (simp [*]; done) | exact congrArg Value.bool (ne_nil_bool _) | exact congrArg Value.bool (eq_nil_bool _)), H', ⟨by have := HK1.out; omega⟩, by repeat (first | exact Drawn0.refl _ | apply Drawn0.step)⟩
                    · (rw [if_neg c15] at H); (have c15b0 : ((bt a0 x3_1) == 95) = false := beq_eq_false_iff_ne.mpr c15); (have c15b1 : ((bt a0 x3_1) != 95) = true := bne_iff_ne.mpr c15); (obtain rfl := Option.some.inj H); (have p4 : 0 ≤ (x3_1 : Int) := Oa); (have q4 : x3_1 < (a0.size : Int) := Oa); (have hx4 := bt_at a0 x3_1); (replace p4 := eq_true p4); (replace q4 := eq_true q4); (go_wp2); (go_ret); (exact ⟨by first | rfl | (simp; done) | (simp [*]; done), by repeat (first | exact Drawn0.refl _ | apply Drawn0.step)⟩)
                · (rw [if_neg c13] at H); (have c13b0 : decide (48 ≤ (bt a0 x3_1)) = false := decide_eq_false c13); (clear c13); (by_cases c16 : ((bt a0 x3_1) = 95))
                  · (rw [if_pos c16] at H); (have c16b0 : ((bt a0 x3_1) == 95) = true := beq_iff_eq.mpr c16); (have c16b1 : ((bt a0 x3_1) != 95) = false := bne_eq_false_iff_eq.mpr c16); (clear c16); (have H' := Aside0.mk H); (clear H); (have p4 : 0 ≤ (x3_1 : Int) := Oa); (have q4 : x3_1 < (a0.size : Int) := Oa); (have hx4 := bt_at a0 x3_1); (replace p4 := eq_true p4); (replace q4 := eq_true q4); (go_wp2); (go_roundg k1)
                    case measure => have := HK1.out; omega
                    case rel => exact ⟨(wrap64 (x3_1 + 1)), (by first | rfl | (simp; done) | (simp [*]; done) | exact congrArg Value.bool (ne_nil_bool _) | exact congrArg Value.bool (eq_nil_bool _)), H', ⟨by have := HK1.out; omega⟩, by repeat (first | exact Drawn0.refl _ | apply Drawn0.step)⟩
                  · (rw [if_neg c16] at H); (have c16b0 : ((bt a0 x3_1) == 95) = false := beq_eq_false_iff_ne.mpr c16); (have c16b1 : ((bt a0 x3_1) != 95) = true := bne_iff_ne.mpr c16); (obtain rfl := Option.some.inj H); (have p4 : 0 ≤ (x3_1 : Int) := Oa); (have q4 : x3_1 < (a0.size : Int) := Oa); (have hx4 := bt_at a0 x3_1); (replace p4 := eq_true p4); (replace q4 := eq_true q4); (go_wp2); (go_ret); (exact ⟨by first | rfl | (simp; done) | (simp [*]; done), by repeat (first | exact Drawn0.refl _ | apply Drawn0.step)⟩)
          · (rw [if_neg c5] at H); (have c5b0 : decide (65 ≤ (bt a0 x3_1)) = false := decide_eq_false c5); (clear c5); (by_cases c17 : (bt a0 x3_1) ≥ 97)
            · (rw [if_pos c17] at H); (have c17b0 : decide (97 ≤ (bt a0 x3_1)) = true := decide_eq_true c17); (clear c17); (by_cases c18 : (bt a0 x3_1) ≤ 122)
              · (rw [if_pos c18] at H); (have c18b0 : decide ((bt a0 x3_1) ≤ 122) = true := decide_eq_true c18); (clear c18); (have H' := Aside0.mk H); (clear H); (have p4 : 0 ≤ (x3_1 : Int) := Oa); (have q4 : x3_1 < (a0.size : Int) := Oa); (have hx4 := bt_at a0 x3_1); (replace p4 := eq_true p4); (replace q4 := eq_true q4); (go_wp2); (go_roundg k1)
                case measure => have := HK1.out; omega
                case rel => exact ⟨(wrap64 (x3_1 + 1)), (by first | rfl | (simp; done) | (simp [*]; done) | exact congrArg Value.bool (ne_nil_bool _) | exact congrArg Value.bool (eq_nil_bool _)), H', ⟨by have := HK1.out; omega⟩, by repeat (first | exact Drawn0.refl _ | apply Drawn0.step)⟩
              · (rw [if_neg c18] at H); (have c18b0 : decide ((bt a0 x3_1) ≤ 122) = false := decide_eq_false c18); (clear c18); (by_cases c19 : (bt a0 x3_1) ≥ 48)
                · (rw [if_pos c19] at H); (have c19b0 : decide (48 ≤ (bt a0 x3_1)) = true := decide_eq_true c19); (clear c19); (by_cases c20 : (bt a0 x3_1) ≤ 57)
                  · (rw [if_pos c20] at H); (have c20b0 : decide ((bt a0 x3_1) ≤ 57) = true := decide_eq_true c20); (clear c20); (have H' := Aside0.mk H); (clear H); (have p4 : 0 ≤ (x3_1 : Int) := Oa); (have q4 : x3_1 < (a0.size : Int) := Oa); (have hx4 := bt_at a0 x3_1); (replace p4 := eq_true p4); (replace q4 := eq_true q4); (go_wp2); (go_roundg k1)
                    case measure => have := HK1.out; omega
                    case rel => exact ⟨(wrap64 (x3_1 + 1)), (by first | rfl | (simp; done) | (simp [*]; done) | exact congrArg Value.bool (ne_nil_bool _) | exact congrArg Value.bool (eq_nil_bool _)), H', ⟨by have := HK1.out; omega⟩, by repeat (first | exact Drawn0.refl _ | apply Drawn0.step)⟩
                  · (rw [if_neg c20] at H); (have c20b0 : decide ((bt a0 x3_1) ≤ 57) = false := decide_eq_false c20); (clear c20); (by_cases c21 : ((bt a0 x3_1) = 95))
                    · (rw [if_pos c21] at H); (have c21b0 : ((bt a0 x3_1) == 95) = true := beq_iff_eq.mpr c21); (have c21b1 : ((bt a0 x3_1) != 95) = false := bne_eq_false_iff_eq.mpr c21); (clear c21); (have H' := Aside0.mk H); (clear H); (have p4 : 0 ≤ (x3_1 : Int) := Oa); (have q4 : x3_1 < (a0.size : Int) := Oa); (have hx4 := bt_at a0 x3_1); (replace p4 := eq_true p4); (replace q4 := eq_true q4); (go_wp2); (go_roundg k1)
                      case measure => have := HK1.out; omega
                      case rel => exact ⟨(wrap64 (x3_1 + 1)), (by first | rfl | (simp; done) | (simp [*]; done) | exact congrArg Value.bool (ne_nil_bool _) | exact congrArg Value.bool (eq_nil_bool _)), H', ⟨by have := HK1.out; omega⟩, by repeat (first | exact Drawn0.refl _ | apply Drawn0.step)⟩
                    · (rw [if_neg c21] at H); (have c21b0 : ((bt a0 x3_1) == 95) = false := beq_eq_false_iff_ne.mpr c21); (have c21b1 : ((bt a0 x3_1) != 95) = true := bne_iff_ne.mpr c21); (obtain rfl := Option.some.inj H); (have p4 : 0 ≤ (x3_1 : Int) := Oa); (have q4 : x3_1 < (a0.size : Int) := Oa); (have hx4 := bt_at a0 x3_1); (replace p4 := eq_true p4); (replace q4 := eq_true q4); (go_wp2); (go_ret); (exact ⟨by first | rfl | (simp; done) | (simp [*]; done), by repeat (first | exact Drawn0.refl _ | apply Drawn0.step)⟩)
                · (rw [if_neg c19] at H); (have c19b0 : decide (48 ≤ (bt a0 x3_1)) = false := decide_eq_false c19); (clear c19); (by_cases c22 : ((bt a0 x3_1) = 95))
                  · (rw [if_pos c22] at H); (have c22b0 : ((bt a0 x3_1) == 95) = true := beq_iff_eq.mpr c22); (have c22b1 : ((bt a0 x3_1) != 95) = false := bne_eq_false_iff_eq.mpr c22); (clear c22); (have H' := Aside0.mk H); (clear H); (have p4 : 0 ≤ (x3_1 : Int) := Oa); (have q4 : x3_1 < (a0.size : Int) := Oa); (have hx4 := bt_at a0 x3_1); (replace p4 := eq_true p4); (replace q4 := eq_true q4); (go_wp2); (go_roundg k1)
                    case measure => have := HK1.out; omega
                    case rel => exact ⟨(wrap64 (x3_1 + 1)), (by first | rfl | (simp; done) | (simp [*]; done) | exact congrArg Value.bool (ne_nil_bool _) | exact congrArg Value.bool (eq_nil_bool _)), H', ⟨by have := HK1.out; omega⟩, by repeat (first | exact Drawn0.refl _ | apply Drawn0.step)⟩
                  · (rw [if_neg c22] at H); (have c22b0 : ((bt a0 x3_1) == 95) = false := beq_eq_false_iff_ne.mpr c22); (have c22b1 : ((bt a0 x3_1) != 95) = true := bne_iff_ne.mpr c22); (obtain rfl := Option.some.inj H); (have p4 : 0 ≤ (x3_1 : Int) := Oa); (have q4 : x3_1 < (a0.size : Int) := Oa); (have hx4 := bt_at a0 x3_1); (replace p4 := eq_true p4); (replace q4 := eq_true q4); (go_wp2); (go_ret); (exact ⟨by first | rfl | (simp; done) | (simp [*]; done), by repeat (first | exact Drawn0.refl _ | apply Drawn0.step)⟩)
            · (rw [if_neg c17] at H); (have c17b0 : decide (97 ≤ (bt a0 x3_1)) = false := decide_eq_false c17); (clear c17); (by_cases c23 : (bt a0 x3_1) ≥ 48)
              · (rw [if_pos c23] at H); (have c23b0 : decide (48 ≤ (bt a0 x3_1)) = true := decide_eq_true c23); (clear c23); (by_cases c24 : (bt a0 x3_1) ≤ 57)
                · (rw [if_pos c24] at H); (have c24b0 : decide ((bt a0 x3_1) ≤ 57) = true := decide_eq_true c24); (clear c24); (have H' := Aside0.mk H); (clear H); (have p4 : 0 ≤ (x3_1 : Int) := Oa); (have q4 : x3_1 < (a0.size : Int) := Oa); (have hx4 := bt_at a0 x3_1); (replace p4 := eq_true p4); (replace q4 := eq_true q4); (go_wp2); (go_roundg k1)
                  case measure => have := HK1.out; omega
                  case rel => exact ⟨(wrap64 (x3_1 + 1)), (by first | rfl | (simp; done) | (simp [*]; done) | exact congrArg Value.bool (ne_nil_bool _) | exact congrArg Value.bool (eq_nil_bool _)), H', ⟨by have := HK1.out; omega⟩, by repeat (first | exact Drawn0.refl _ | apply Drawn0.step)⟩
                · (rw [if_neg c24] at H); (have c24b0 : decide ((bt a0 x3_1) ≤ 57) = false := decide_eq_false c24); (clear c24); (by_cases c25 : ((bt a0 x3_1) = 95))
                  · (rw [if_pos c25] at H); (have c25b0 : ((bt a0 x3_1) == 95) = true := beq_iff_eq.mpr c25); (have c25b1 : ((bt a0 x3_1) != 95) = false := bne_eq_false_iff_eq.mpr c25); (clear c25); (have H' := Aside0.mk H); (clear H); (have p4 : 0 ≤ (x3_1 : Int) := Oa); (have q4 : x3_1 < (a0.size : Int) := Oa); (have hx4 := bt_at a0 x3_1); (replace p4 := eq_true p4); (replace q4 := eq_true q4); (go_wp2); (go_roundg k1)
                    case measure => have := HK1.out; omega
                    case rel => exact ⟨(wrap64 (x3_1 + 1)), (by first | rfl | (simp; done) | (simp [*]; done) | exact congrArg Value.bool (ne_nil_bool _) | exact congrArg Value.bool (eq_nil_bool _)), H', ⟨by have := HK1.out; omega⟩, by repeat (first | exact Drawn0.refl _ | apply Drawn0.step)⟩
                  · (rw [if_neg c25] at H); (have c25b0 : ((bt a0 x3_1) == 95) = false := beq_eq_false_iff_ne.mpr c25); (have c25b1 : ((bt a0 x3_1) != 95) = true := bne_iff_ne.mpr c25); (obtain rfl := Option.some.inj H); (have p4 : 0 ≤ (x3_1 : Int) := Oa); (have q4 : x3_1 < (a0.size : Int) := Oa); (have hx4 := bt_at a0 x3_1); (replace p4 := eq_true p4); (replace q4 := eq_true q4); (go_wp2); (go_ret); (exact ⟨by first | rfl | (simp; done) | (simp [*]; done), by repeat (first | exact Drawn0.refl _ | apply Drawn0.step)⟩)
              · (rw [if_neg c23] at H); (have c23b0 : decide (48 ≤ (bt a0 x3_1)) = false := decide_eq_false c23); (clear c23); (by_cases c26 : ((bt a0 x3_1) = 95))
                · (rw [if_pos c26] at H); (have c26b0 : ((bt a0 x3_1) == 95) = true := beq_iff_eq.mpr c26); (have c26b1 : ((bt a0 x3_1) != 95) = false := bne_eq_false_iff_eq.mpr c26); (clear c26); (have H' := Aside0.mk H); (clear H); (have p4 : 0 ≤ (x3_1 : Int) := Oa); (have q4 : x3_1 < (a0.size : Int) := Oa); (have hx4 := bt_at a0 x3_1); (replace p4 := eq_true p4); (replace q4 := eq_true q4); (go_wp2); (go_roundg k1)
                  case measure => have := HK1.out; omega
                  case rel => exact ⟨(wrap64 (x3_1 + 1)), (by first | rfl | (simp; done) | (simp [*]; done) | exact congrArg Value.bool (ne_nil_bool _) | exact congrArg Value.bool (eq_nil_bool _)), H', ⟨by have := HK1.out; omega⟩, by repeat (first | exact Drawn0.refl _ | apply Drawn0.step)⟩
                · (rw [if_neg c26] at H); (have c26b0 : ((bt a0 x3_1) == 95) = false := beq_eq_false_iff_ne.mpr c26); (have c26b1 : ((bt a0 x3_1) != 95) = true := bne_iff_ne.mpr c26); (obtain rfl := Option.some.inj H); (have p4 : 0 ≤ (x3_1 : Int) := Oa); (have q4 : x3_1 < (a0.size : Int) := Oa); (have hx4 := bt_at a0 x3_1); (replace p4 := eq_true p4); (replace q4 := eq_true q4); (go_wp2); (go_ret); (exact ⟨by first | rfl | (simp; done) | (simp [*]; done), by repeat (first | exact Drawn0.refl _ | apply Drawn0.step)⟩)
        · (rw [if_neg c3] at H); (exact absurd H (by simp))
      · (rw [if_neg c2] at H); (have c2b0 : decide (x3_1 < (a0.size : Int)) = false := decide_eq_false c2); (clear c2); (by_cases c27 : (a0.size : Int) ≥ 1)
        · (rw [if_pos c27] at H); (have c27b0 : decide (1 ≤ (a0.size : Int)) = true := decide_eq_true c27); (have c27b1 : decide (1 ≤ a0.size) = true := decide_eq_true (by omega)); (clear c27); (obtain rfl := Option.some.inj H); (go_wp2); (go_ret); (exact ⟨by first | rfl | (simp; done) | (simp [*]; done), by repeat (first | exact Drawn0.refl _ | apply Drawn0.step)⟩)
        · (rw [if_neg c27] at H); (have c27b0 : decide (1 ≤ (a0.size : Int)) = false := decide_eq_false c27); (have c27b1 : decide (1 ≤ a0.size) = false := decide_eq_false (by omega)); (clear c27); (obtain rfl := Option.some.inj H); (go_wp2); (go_ret); (exact ⟨by first | rfl | (simp; done) | (simp [*]; done), by repeat (first | exact Drawn0.refl _ | apply Drawn0.step)⟩)
def r01_Valid.f (a0 : Int) : Option (Bool) := if a0 ≥ 0 then (some (decide (a0 ≤ 1114111))) else (some false)
set_option maxHeartbeats 8000000 in
set_option maxRecDepth 100000 in
theorem r01_Valid.calls (a0 : Int) (r : Bool) (w : World) (h : r01_Valid.f a0 = some r) :
    Calls Tryz.prog 58 #[.int .i64 a0] w fun e w' => e = .returned (.bool r) ∧ Drawn0 w w' := by
  (have H : (if a0 ≥ 0 then (some (decide (a0 ≤ 1114111))) else (some false)) = some r := h); (clear h); (by_cases c2 : a0 ≥ 0)
  · (rw [if_pos c2] at H); (have c2b0 : decide (0 ≤ a0) = true := decide_eq_true c2); (clear c2); (obtain rfl := Option.some.inj H); (go_enter Tryz.func58, Tryz.ntmps58); (go_wp2); (go_ret); (exact ⟨by first | rfl | (simp; done) | (simp [*]; done), by repeat (first | exact Drawn0.refl _ | apply Drawn0.step)⟩)
  · (rw [if_neg c2] at H); (have c2b0 : decide (0 ≤ a0) = false := decide_eq_false c2); (clear c2); (obtain rfl := Option.some.inj H); (go_enter Tryz.func58, Tryz.ntmps58); (go_wp2); (go_ret); (exact ⟨by first | rfl | (simp; done) | (simp [*]; done), by repeat (first | exact Drawn0.refl _ | apply Drawn0.step)⟩)
def r01_Hex.l0 : Nat → Int → ByteArray → Option (ByteArray)
  | 0, _, _ => none
  | k + 1, x0, x3 => if (x3.size : Int) < 4 then (if 0 ≤ (Int.tmod x0 16) then (if (Int.tmod x0 16) ≤ (wrap64 ((Int.tmod x0 16) + 1)) then (if (wrap64 ((Int.tmod x0 16) + 1)) ≤ 16 then (if ((⟨#[48, 49, 50, 51, 52, 53, 54, 55, 56, 57, 65, 66, 67, 68, 69, 70]⟩ : ByteArray).extract ((Int.tmod x0 16) : Int).toNat ((wrap64 ((Int.tmod x0 16) + 1)) : Int).toNat).size + x3.size ≤ 9223372036854775807 then (r01_Hex.l0 k (wrap64 (Int.tdiv x0 16)) (((⟨#[48, 49, 50, 51, 52, 53, 54, 55, 56, 57, 65, 66, 67, 68, 69, 70]⟩ : ByteArray).extract ((Int.tmod x0 16) : Int).toNat ((wrap64 ((Int.tmod x0 16) + 1)) : Int).toNat) ++ x3)) else (none)) else (none)) else (none)) else (none)) else (if x0 > 0 then (if 0 ≤ (Int.tmod x0 16) then (if (Int.tmod x0 16) ≤ (wrap64 ((Int.tmod x0 16) + 1)) then (if (wrap64 ((Int.tmod x0 16) + 1)) ≤ 16 then (if ((⟨#[48, 49, 50, 51, 52, 53, 54, 55, 56, 57, 65, 66, 67, 68, 69, 70]⟩ : ByteArray).extract ((Int.tmod x0 16) : Int).toNat ((wrap64 ((Int.tmod x0 16) + 1)) : Int).toNat).size + x3.size ≤ 9223372036854775807 then (r01_Hex.l0 k (wrap64 (Int.tdiv x0 16)) (((⟨#[48, 49, 50, 51, 52, 53, 54, 55, 56, 57, 65, 66, 67, 68, 69, 70]⟩ : ByteArray).extract ((Int.tmod x0 16) : Int).toNat ((wrap64 ((Int.tmod x0 16) + 1)) : Int).toNat) ++ x3)) else (none)) else (none)) else (none)) else (none)) else (some x3))
def r01_Hex.f (k : Nat) (a0 : Int) : Option (ByteArray) := (r01_Valid.f a0).bind fun t154 => (if t154 = true then (r01_Hex.l0 k a0 (⟨#[]⟩ : ByteArray)) else (some (⟨#[]⟩ : ByteArray)))
theorem r01_Hex.mono_l : ∀ k, (∀ y0 y1, LeO (r01_Hex.l0 k y0 y1) (r01_Hex.l0 (k + 1) y0 y1))
  | 0 => fun _ _ r h => by simp [r01_Hex.l0] at h
  | k + 1 => by
    have ih0 := r01_Hex.mono_l k
    · (intro y0 y1); (unfold r01_Hex.l0)
      repeat' first
      | (with_reducible exact ih0 _ _)
      | (with_reducible exact LeO.refl _)
      | (with_reducible exact LeO.none _)
      | (with_reducible refine LeO.ite ?_ ?_)
      | (with_reducible refine LeO.bind ?_ (fun _ => ?_))
theorem r01_Hex.mono : ∀ a0 k, LeO (r01_Hex.f k a0) (r01_Hex.f (k + 1) a0) := by
  (intro a0 k); (have ih0 := r01_Hex.mono_l k); (unfold r01_Hex.f)
  repeat' first
      | (with_reducible exact ih0 _ _)
      | (with_reducible exact LeO.refl _)
      | (with_reducible exact LeO.none _)
      | (with_reducible refine LeO.ite ?_ ?_)
      | (with_reducible refine LeO.bind ?_ (fun _ => ?_))
set_option maxHeartbeats 8000000 in
set_option maxRecDepth 100000 in
theorem r01_Hex.calls (k : Nat) (a0 : Int) (r : ByteArray) (w : World) (h : r01_Hex.f k a0 = some r) :
    Calls Tryz.prog 59 #[.int .i64 a0] w fun e w' => e = .returned (.string r) ∧ Drawn0 w w' := by
  (have H : ((r01_Valid.f a0).bind fun t154 => (if t154 = true then (r01_Hex.l0 k a0 (⟨#[]⟩ : ByteArray)) else (some (⟨#[]⟩ : ByteArray)))) = some r := h); (clear h); (replace H := Option.bind_eq_some_iff.mp H); (obtain ⟨t154, A20, H⟩ := H); (replace H : (if t154 = true then (r01_Hex.l0 k a0 (⟨#[]⟩ : ByteArray)) else (some (⟨#[]⟩ : ByteArray))) = some r := H); (have A2 := Aside0.mk A20); (clear A20); (by_cases c3 : t154 = true)
  · (subst c3); (have H1 : (r01_Hex.l0 k a0 (⟨#[]⟩ : ByteArray)) = some r := by rw [if_pos rfl] at H; exact H); (clear H); (have H := H1); (clear H1); (have H' := Aside0.mk H); (clear H); (go_enter Tryz.func59, Tryz.ntmps59); (go_wp2_with (first | ((with_reducible refine gate_callee (f := 58) rfl ?_); refine Gl (some 5) Tryz.func58 #[.int .i64 a0] ?_; (with_reducible refine (r01_Valid.calls a0 true _ A2.out).mono ?_); rintro e w' ⟨rfl, ⟨nd, rfl⟩⟩; refine ⟨_, rfl, ?_⟩))); (go_loopg [0, 3] k (fun kq v0 v3 w' => ∃ (x0_1 : Int) (x3_1 : ByteArray), v0 = .int .i64 x0_1 ∧ v3 = .string x3_1 ∧ Aside0 (r01_Hex.l0 kq x0_1 x3_1 = some r) ∧ Aside0 (kq ≤ k) ∧ Drawn0 w w'))
    case atStart => exact ⟨(a0), ((⟨#[]⟩ : ByteArray)), (by first | rfl | (simp; done) | (simp [*]; done) | exact congrArg Value.bool (ne_nil_bool _) | exact congrArg Value.bool (eq_nil_bool _)), (by first | rfl | (simp; done) | (simp [*]; done) | exact congrArg Value.bool (ne_nil_bool _) | exact congrArg Value.bool (eq_nil_bool _)), H', ⟨Nat.le_refl _⟩, by repeat (first | exact Drawn0.refl _ | apply Drawn0.step)⟩
    case round =>
      (clear H'); (try clear p2); (try clear c3); (obtain ⟨x0_1, x3_1, rfl, rfl, HA, HK1, ⟨m1, rfl⟩⟩ := hrel)
      cases gk with
      | zero => exact absurd HA.out (by simp [r01_Hex.l0])
      | succ k1 =>
        (have H := HA.out); (clear HA); (simp only [r01_Hex.l0] at H); (by_cases c4 : (x3_1.size : Int) < 4)
        · (rw [if_pos c4] at H); (have c4b0 : decide ((x3_1.size : Int) < 4) = true := decide_eq_true c4); (have c4b1 : decide (x3_1.size < 4) = true := decide_eq_true (by omega)); (clear c4); (obtain ⟨ji5, hji5⟩ : ∃ j_ : Int, (Int.tmod x0_1 16) = j_ := ⟨_, rfl⟩); (replace H : (if 0 ≤ (ji5) then (if (ji5) ≤ (wrap64 ((ji5) + 1)) then (if (wrap64 ((ji5) + 1)) ≤ 16 then (if ((⟨#[48, 49, 50, 51, 52, 53, 54, 55, 56, 57, 65, 66, 67, 68, 69, 70]⟩ : ByteArray).extract ((ji5) : Int).toNat ((wrap64 ((ji5) + 1)) : Int).toNat).size + x3_1.size ≤ 9223372036854775807 then (r01_Hex.l0 k1 (wrap64 (Int.tdiv x0_1 16)) (((⟨#[48, 49, 50, 51, 52, 53, 54, 55, 56, 57, 65, 66, 67, 68, 69, 70]⟩ : ByteArray).extract ((ji5) : Int).toNat ((wrap64 ((ji5) + 1)) : Int).toNat) ++ x3_1)) else (none)) else (none)) else (none)) else (none)) = some r := by first | (rw [hji5] at H; exact H) | (simp only [hji5] at H ⊢; exact H)); (by_cases c6 : 0 ≤ (ji5))
          · (rw [if_pos c6] at H); (have c6b0 := eq_true c6); (have c6b1 : decide (0 ≤ (ji5)) = true := decide_eq_true c6); (clear c6); (by_cases c7 : (ji5) ≤ (wrap64 ((ji5) + 1)))
            · (rw [if_pos c7] at H); (have c7b0 := eq_true c7); (have c7b1 : decide ((ji5) ≤ (wrap64 ((ji5) + 1))) = true := decide_eq_true c7); (by_cases c8 : (wrap64 ((ji5) + 1)) ≤ 16)
              · (rw [if_pos c8] at H); (have c8b0 := eq_true c8); (have c8b1 : decide ((wrap64 ((ji5) + 1)) ≤ 16) = true := decide_eq_true c8); (by_cases c9 : ((⟨#[48, 49, 50, 51, 52, 53, 54, 55, 56, 57, 65, 66, 67, 68, 69, 70]⟩ : ByteArray).extract ((ji5) : Int).toNat ((wrap64 ((ji5) + 1)) : Int).toNat).size + x3_1.size ≤ 9223372036854775807)
                · (rw [if_pos c9] at H); (have c9b0 := eq_true c9); (have c9b1 : decide (((⟨#[48, 49, 50, 51, 52, 53, 54, 55, 56, 57, 65, 66, 67, 68, 69, 70]⟩ : ByteArray).extract ((ji5) : Int).toNat ((wrap64 ((ji5) + 1)) : Int).toNat).size + x3_1.size ≤ 9223372036854775807) = true := decide_eq_true c9); (try have c9b2 : (9223372036854775807 < ((⟨#[48, 49, 50, 51, 52, 53, 54, 55, 56, 57, 65, 66, 67, 68, 69, 70]⟩ : ByteArray).extract ((ji5) : Int).toNat ((wrap64 ((ji5) + 1)) : Int).toNat).size + x3_1.size) = False := eq_false (Nat.not_lt.2 c9)); (have H' := Aside0.mk H); (clear H); (go_wp2); (go_roundg k1)
                  case measure => have := HK1.out; omega
                  case rel => exact ⟨(wrap64 (Int.tdiv x0_1 16)), (((⟨#[48, 49, 50, 51, 52, 53, 54, 55, 56, 57, 65, 66, 67, 68, 69, 70]⟩ : ByteArray).extract ((ji5) : Int).toNat ((wrap64 ((ji5) + 1)) : Int).toNat) ++ x3_1), (by first | rfl | (simp; done) | (simp [*]; done) | exact congrArg Value.bool (ne_nil_bool _) | exact congrArg Value.bool (eq_nil_bool _)), (by first | rfl | (simp; done) | (simp only [← hji5] <;> (first | rfl | simp)) | (simp [*]; done)), H', ⟨by have := HK1.out; omega⟩, by repeat (first | exact Drawn0.refl _ | apply Drawn0.step)⟩
                · (rw [if_neg c9] at H); (exact absurd H (by simp))
              · (rw [if_neg c8] at H); (exact absurd H (by simp))
            · (rw [if_neg c7] at H); (exact absurd H (by simp))
          · (rw [if_neg c6] at H); (exact absurd H (by simp))
        · (rw [if_neg c4] at H); (have c4b0 : decide ((x3_1.size : Int) < 4) = false := decide_eq_false c4); (have c4b1 : decide (x3_1.size < 4) = false := decide_eq_false (by omega)); (clear c4); (by_cases c10 : x0_1 > 0)
          · (rw [if_pos c10] at H); (have c10b0 : decide (0 < x0_1) = true := decide_eq_true c10); (clear c10); (obtain ⟨ji11, hji11⟩ : ∃ j_ : Int, (Int.tmod x0_1 16) = j_ := ⟨_, rfl⟩); (replace H : (if 0 ≤ (ji11) then (if (ji11) ≤ (wrap64 ((ji11) + 1)) then (if (wrap64 ((ji11) + 1)) ≤ 16 then (if ((⟨#[48, 49, 50, 51, 52, 53, 54, 55, 56, 57, 65, 66, 67, 68, 69, 70]⟩ : ByteArray).extract ((ji11) : Int).toNat ((wrap64 ((ji11) + 1)) : Int).toNat).size + x3_1.size ≤ 9223372036854775807 then (r01_Hex.l0 k1 (wrap64 (Int.tdiv x0_1 16)) (((⟨#[48, 49, 50, 51, 52, 53, 54, 55, 56, 57, 65, 66, 67, 68, 69, 70]⟩ : ByteArray).extract ((ji11) : Int).toNat ((wrap64 ((ji11) + 1)) : Int).toNat) ++ x3_1)) else (none)) else (none)) else (none)) else (none)) = some r := by first | (rw [hji11] at H; exact H) | (simp only [hji11] at H ⊢; exact H)); (by_cases c12 : 0 ≤ (ji11))
            · (rw [if_pos c12] at H); (have c12b0 := eq_true c12); (have c12b1 : decide (0 ≤ (ji11)) = true := decide_eq_true c12); (clear c12); (by_cases c13 : (ji11) ≤ (wrap64 ((ji11) + 1)))
              · (rw [if_pos c13] at H); (have c13b0 := eq_true c13); (have c13b1 : decide ((ji11) ≤ (wrap64 ((ji11) + 1))) = true := decide_eq_true c13); (by_cases c14 : (wrap64 ((ji11) + 1)) ≤ 16)
                · (rw [if_pos c14] at H); (have c14b0 := eq_true c14); (have c14b1 : decide ((wrap64 ((ji11) + 1)) ≤ 16) = true := decide_eq_true c14); (by_cases c15 : ((⟨#[48, 49, 50, 51, 52, 53, 54, 55, 56, 57, 65, 66, 67, 68, 69, 70]⟩ : ByteArray).extract ((ji11) : Int).toNat ((wrap64 ((ji11) + 1)) : Int).toNat).size + x3_1.size ≤ 9223372036854775807)
                  · (rw [if_pos c15] at H); (have c15b0 := eq_true c15); (have c15b1 : decide (((⟨#[48, 49, 50, 51, 52, 53, 54, 55, 56, 57, 65, 66, 67, 68, 69, 70]⟩ : ByteArray).extract ((ji11) : Int).toNat ((wrap64 ((ji11) + 1)) : Int).toNat).size + x3_1.size ≤ 9223372036854775807) = true := decide_eq_true c15); (try have c15b2 : (9223372036854775807 < ((⟨#[48, 49, 50, 51, 52, 53, 54, 55, 56, 57, 65, 66, 67, 68, 69, 70]⟩ : ByteArray).extract ((ji11) : Int).toNat ((wrap64 ((ji11) + 1)) : Int).toNat).size + x3_1.size) = False := eq_false (Nat.not_lt.2 c15)); (have H' := Aside0.mk H); (clear H); (go_wp2); (go_roundg k1)
                    case measure => have := HK1.out; omega
                    case rel => exact ⟨(wrap64 (Int.tdiv x0_1 16)), (((⟨#[48, 49, 50, 51, 52, 53, 54, 55, 56, 57, 65, 66, 67, 68, 69, 70]⟩ : ByteArray).extract ((ji11) : Int).toNat ((wrap64 ((ji11) + 1)) : Int).toNat) ++ x3_1), (by first | rfl | (simp; done) | (simp [*]; done) | exact congrArg Value.bool (ne_nil_bool _) | exact congrArg Value.bool (eq_nil_bool _)), (by first | rfl | (simp; done) | (simp only [← hji11] <;> (first | rfl | simp)) | (simp [*]; done)), H', ⟨by have := HK1.out; omega⟩, by repeat (first | exact Drawn0.refl _ | apply Drawn0.step)⟩
                  · (rw [if_neg c15] at H); (exact absurd H (by simp))
                · (rw [if_neg c14] at H); (exact absurd H (by simp))
              · (rw [if_neg c13] at H); (exact absurd H (by simp))
            · (rw [if_neg c12] at H); (exact absurd H (by simp))
          · (rw [if_neg c10] at H); (have c10b0 : decide (0 < x0_1) = false := decide_eq_false c10); (clear c10); (obtain rfl := Option.some.inj H); (go_wp2); (go_ret); (exact ⟨by first | rfl | (simp; done) | (simp [*]; done), by repeat (first | exact Drawn0.refl _ | apply Drawn0.step)⟩)
  · (replace c3 := Bool.eq_false_iff.mpr c3); (subst c3); (have H1 : (some (⟨#[]⟩ : ByteArray)) = some r := by rw [if_neg (show ¬ (false = true) by decide)] at H; exact H); (clear H); (have H := H1); (clear H1); (obtain rfl := Option.some.inj H); (go_enter Tryz.func59, Tryz.ntmps59); (go_wp2_with (first | ((with_reducible refine gate_callee (f := 58) rfl ?_); refine Gl (some 5) Tryz.func58 #[.int .i64 a0] ?_; (with_reducible refine (r01_Valid.calls a0 false _ A2.out).mono ?_); rintro e w' ⟨rfl, ⟨nd, rfl⟩⟩; refine ⟨_, rfl, ?_⟩))); (go_ret); (exact ⟨by first | rfl | (simp; done) | (simp [*]; done), by repeat (first | exact Drawn0.refl _ | apply Drawn0.step)⟩)
end Go.Proofs.YtdaijpjjilmkkaaGreatDoor.Pr
