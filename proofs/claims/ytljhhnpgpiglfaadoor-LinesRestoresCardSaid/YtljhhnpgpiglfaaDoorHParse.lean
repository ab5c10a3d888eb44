/- The contract of lines.Parse. -/
import Derived.Test.YtljhhnpgpiglfaaDoorLPure
import Derived.WalkMore
import Derived.OwnWalkIn
import Derived.Maps.OwnIn
import Derived.Test.YtljhhnpgpiglfaaDoorPrx0
/- append of one element to a row of one's own, in a walk inside a fence: for rows whose elements are made of cells and rows of their own. -/
namespace Go.Proofs.YtljhhnpgpiglfaaDoor.Pr
open Go.RowKit Go.Proofs.YtljhhnpgpiglfaaDoorW.PrintWords Go.Proofs.YtljhhnpgpiglfaaDoorW.PrintLast Go.Proofs.YtljhhnpgpiglfaaDoorW.PrintMore Go.Proofs.YtljhhnpgpiglfaaDoorW.PrintWords.Kd
set_option linter.unusedVariables false

section
variable {F : Fence} {nF : Nat} {P : Program} {ops : Array Oper} {rest : List Oper} {o : Oper} {a : Act} {Q : Exit → Act → World → Prop} {α : Type}

/-- The cells: what the append leaves of the row. -/
theorem in_append_cells {w0 W : World} (base : Nat) (hgd : o.guard = none) (s x : Operand) (t e : TypeId) (z : Value) (size bytes : Nat)
    (ho : o.op = .call { callee := .builtin .append, args := #[s, x], argTypes := #[t, t] })
    (ht : P.underlying t = some (.slice e)) (hinfo : (P.info? e).map (fun i => (i.zero, i.size, i.bytes)) = some (some z, size, bytes)) (hz : z.cells.size = size) (hs0 : 0 < size) (hb0 : 0 < bytes)
    (v : Value) (n : Nat) (xs ys : List Value) (hs : a.eval s = v) (hx : a.eval x = .slice (some ⟨W.heap.size, 0, none⟩) 1 1) (hys : ys.length = size) (h1 : ∀ u ∈ ys, u.oneCell' = true)
    (HO : W.ownsRow base e size v n xs) (HB : Below base w0 W) (hbase : base ≤ W.heap.size) (hl : (n + 1) * bytes ≤ 140737488355328)
    (h : ∀ v1 w1, w1.ownsRow base e size v1 (n + 1) (xs ++ ys) → Below base w0 w1 → W.grownBy w1 v.ownBlock → (v1.ownBlock = v.ownBlock ∨ ∃ b, v1.ownBlock = some b ∧ W.heap.size ≤ b) → wpListIn F nF P ops Q rest (a.put o.dst v1) w1) :
    wpListIn F nF P ops Q (o :: rest) a (W.alloc (.cells ys.toArray e)) := by
  obtain ⟨i, hi, hzz⟩ := Option.map_eq_some_iff.1 hinfo
  simp only [Prod.mk.injEq] at hzz
  have hlen : n + 1 ≤ 140737488355328 := Nat.le_trans (Nat.le_mul_of_pos_right _ hb0) hl
  refine wpListIn_append_own_at (w := W.alloc (.cells ys.toArray e)) hgd s x t ho base e i z size bytes ht hi hzz.1 hzz.2.1 hzz.2.2 hz hs0 v n xs hs (HO.alloc _) ⟨W.heap.size, 0, none⟩ 1 1 ys hx (by rw [hys]; simp)
    (by simpa using World.news_of_block (cs := ys.toArray) (t := e) (fr := (0, 0)) (heap_alloc_new W (.cells ys.toArray e))) h1 (by simp only [maxLen]; omega) hl (by simp; omega) ?_
  intro v1 w1 hown hg _ hat
  refine h v1 w1 hown ((HB.alloc hbase _).grown hg (by simp; omega) (own_base HO)) (World.grownBy.trans (World.grownBy_alloc W _ _) hg) ?_
  rcases hat with hat | hat
  · exact .inl hat
  · exact .inr ⟨_, hat, by simp⟩

theorem in_append_R (d : Kd α) {w0 W : World} (base : Nat) (hgd : o.guard = none) (s x : Operand) (t e : TypeId) (z : Value) (bytes : Nat)
    (ho : o.op = .call { callee := .builtin .append, args := #[s, x], argTypes := #[t, t] })
    (ht : P.underlying t = some (.slice e)) (hinfo : (P.info? e).map (fun i => (i.zero, i.size, i.bytes)) = some (some z, d.sz, bytes)) (hz : z.cells.size = d.sz) (hs0 : 0 < d.sz) (hb0 : 0 < bytes)
    (v : Value) (xs : List α) (p : α) (cs : List Value) (ok okp : Nat → Prop) (hs : a.eval s = v) (hx : a.eval x = .slice (some ⟨W.heap.size, 0, none⟩) 1 1) (hp : d.M W base okp p cs) (hokp : ∀ k, okp k → ok k ∧ some k ≠ v.ownBlock) (hfresh : ∀ k, W.heap.size ≤ k → ok k)
    (HO : d.R e W base ok v xs) (HB : Below base w0 W) (hbase : base ≤ W.heap.size) (hl : (xs.length + 1) * bytes ≤ 140737488355328)
    (h : ∀ v1 w1, d.R e w1 base ok v1 (xs ++ [p]) → Below base w0 w1 → W.grownBy w1 v.ownBlock → (v1.ownBlock = v.ownBlock ∨ ∃ b, v1.ownBlock = some b ∧ W.heap.size ≤ b) → wpListIn F nF P ops Q rest (a.put o.dst v1) w1) :
    wpListIn F nF P ops Q (o :: rest) a (W.alloc (.cells cs.toArray e)) := by
  obtain ⟨h0, inner, hown, hr⟩ := HO
  exact in_append_cells base hgd s x t e z d.sz bytes ho ht hinfo hz hs0 hb0 v xs.length inner cs hs hx (d.K_len (d.K_of_M hp)) (d.K_one (d.K_of_M hp)) hown HB hbase hl
    fun v1 w1 hown1 hb1 hg1 hat1 => h v1 w1 (R_appended h0 hr hp hokp hfresh hown1 hg1 hat1) hb1 hg1 hat1

theorem in_append_S (d : Kd α) {w0 W : World} (base : Nat) (hgd : o.guard = none) (s x : Operand) (t e : TypeId) (z : Value) (bytes : Nat)
    (ho : o.op = .call { callee := .builtin .append, args := #[s, x], argTypes := #[t, t] })
    (ht : P.underlying t = some (.slice e)) (hinfo : (P.info? e).map (fun i => (i.zero, i.size, i.bytes)) = some (some z, d.sz, bytes)) (hz : z.cells.size = d.sz) (hs0 : 0 < d.sz) (hb0 : 0 < bytes)
    (v : Value) (xs : List α) (p : α) (cs : List Value) (ok okp : Nat → Prop) (hs : a.eval s = v) (hx : a.eval x = .slice (some ⟨W.heap.size, 0, none⟩) 1 1) (hp : d.M W base okp p cs) (hokp : ∀ k, okp k → ok k ∧ some k ≠ v.ownBlock) (hfresh : ∀ k, W.heap.size ≤ k → ok k)
    (HO : S d e W base (fun k => ok k ∧ ¬ okp k) v xs) (HB : Below base w0 W) (hbase : base ≤ W.heap.size) (hl : (xs.length + 1) * bytes ≤ 140737488355328)
    (h : ∀ v1 w1, S d e w1 base ok v1 (xs ++ [p]) → Below base w0 w1 → W.grownBy w1 v.ownBlock → (v1.ownBlock = v.ownBlock ∨ ∃ b, v1.ownBlock = some b ∧ W.heap.size ≤ b) → wpListIn F nF P ops Q rest (a.put o.dst v1) w1) :
    wpListIn F nF P ops Q (o :: rest) a (W.alloc (.cells cs.toArray e)) := by
  obtain ⟨f, hf, hR⟩ := S_tag HO xs.length okp (fun _ hk h2 => h2.2 hk)
  refine in_append_R (tag f d) base hgd s x t e z bytes ho ht hinfo hz hs0 hb0 v xs.zipIdx (p, xs.length) cs ok okp hs hx (d.M_mono (fun k hk => ⟨hk, hf k hk⟩) hp) hokp hfresh (R_mono hR (fun _ hk => hk.1)) HB hbase (by rw [List.length_zipIdx]; exact hl) ?_
  intro v1 w1 hr
  rw [← zip_snoc] at hr
  exact h v1 w1 ⟨f, hr⟩
end

end Go.Proofs.YtljhhnpgpiglfaaDoor.Pr

namespace Go.Proofs.YtljhhnpgpiglfaaDoor.Pr
open Go.RowKit Go.Shelf Go.Proofs.YtljhhnpgpiglfaaDoorW.PrintWords Go.Proofs.YtljhhnpgpiglfaaDoorW.PrintLast Go.Proofs.YtljhhnpgpiglfaaDoorW.PrintMore
set_option linter.unusedVariables false
set_option linter.unusedSimpArgs false
attribute [local go_sem] Oper.semAt_some

set_option maxHeartbeats 1000000 in
theorem each_calls (s : ByteArray) (w : World) :
    Calls Tryd.prog 21 #[.string s] w fun e w' => e = .returned (.func (.func 40) #[] #[.pointer (some ⟨w.heap.size, 0, none⟩)]) ∧ w' = w.alloc (.cells #[.string s] 9) := by
  go_enter Tryd.func21, Tryd.ntmps21
  go_wp2
  go_ret
  exact ⟨rfl, rfl⟩

theorem new_at (W : World) (o : Obj) (k : Nat) (h : W.heap.size = k) : (W.alloc o).heap[k]? = some o := by subst h; exact heap_alloc_new W o

theorem S_blind {α : Type} {d : Kd α} {e base : Nat} {ok : Nat → Prop} {W W' : World} {v : Value} {xs : List α} {row : Option Nat} (h : Kd.S d e W base ok v xs) (hg : W.grownBy W' row)
    (hr : ∀ r, row = some r → r < base ∨ ∃ o : Obj, W.heap[r]? = some o ∧ o.isCells = false) : Kd.S d e W' base ok v xs := by
  refine Kd.S_mono (Kd.S_grown (Kd.S_bound h) hg ?_) (fun _ hk => hk.1)
  rintro k ⟨_, hb, _, q, _, cells, hc⟩ rfl
  rcases hr k rfl with hlt | ⟨o, ho, hn⟩
  · omega
  · rw [hc] at ho; cases ho; cases hn

/-- What holds between two lines: the results' cells are as they were made, the list lies in its cell. -/
def Inv (w : World) (pre : List (Nat × List UInt8)) (W : World) : Prop :=
  ∃ (acc : List S35) (v : Value), accL pre = some acc ∧ W.heap[w.heap.size]? = some (.cells #[.slice none 0 0] 23 (0, 0)) ∧ W.heap[w.heap.size + 1]? = some (.cells #[.int .i64 0, .int .i64 0] 26 (0, 0)) ∧
    Boxed W (w.heap.size + 2) 23 v ∧ Kd.S k35 35 W (w.heap.size + 4) (fun _ => True) v acc ∧ Below w.heap.size w W ∧ w.heap.size + 4 ≤ W.heap.size
/-- What holds where a line was no good. -/
def Bad (w : World) (c : Code) (pre : List (Nat × List UInt8)) (W : World) : Prop :=
  c = .ret ∧ ∃ (pre0 : List (Nat × List UInt8)) (x : Nat × List UInt8) (zs : List S35), pre = pre0 ++ [x] ∧ accL pre0 = some zs ∧ lineR x.1 x.2 = none ∧
    W.heap[w.heap.size]? = some (.cells #[.slice none 0 0] 23 (0, 0)) ∧ W.heap[w.heap.size + 1]? = some (.cells #[.int .i64 3, .int .i64 (x.1 : Int)] 26 (0, 0)) ∧ Below w.heap.size w W ∧ w.heap.size + 4 ≤ W.heap.size

theorem blk_blind {w W W' : World} {row : Option Nat} {k : Nat} {o : Obj} {B : Nat} (h : W.heap[k]? = some o) (ho : o.isCells = true) (hk : k < w.heap.size + 3) (hg : W.grownBy W' row)
    (hr : ∀ r, row = some r → r = w.heap.size + 3 ∨ (B ≤ r ∧ ∃ o : Obj, W.heap[r]? = some o ∧ o.isCells = false)) : W'.heap[k]? = some o := by
  refine (hg.block k (Array.getElem?_eq_some_iff.1 h).1 ?_).trans h
  intro e
  rcases hr k e.symm with h1 | ⟨_, o', h2, h3⟩
  · omega
  · rw [h] at h2; cases h2; rw [ho] at h3; cases h3

theorem below_blind {w W W' : World} {row : Option Nat} {B : Nat} (h : Below w.heap.size w W) (hB : w.heap.size ≤ B) (hg : W.grownBy W' row)
    (hr : ∀ r, row = some r → r = w.heap.size + 3 ∨ (B ≤ r ∧ ∃ o : Obj, W.heap[r]? = some o ∧ o.isCells = false)) : Below w.heap.size w W' :=
  h.grown hg (h.size) (fun k e => by rcases hr k e with h1 | ⟨h1, _⟩ <;> omega)

theorem inv_blind (w : World) (B : Nat) (hB : w.heap.size ≤ B) : BlindFrom B (w.heap.size + 3) (Inv w) := by
  rintro pre W W' row ⟨acc, v, h1, h2, h3, h4, h5, h6, h7⟩ hg hr
  refine ⟨acc, v, h1, blk_blind h2 rfl (by omega) hg hr, blk_blind h3 rfl (by omega) hg hr, blk_blind h4 rfl (by omega) hg hr, S_blind h5 hg ?_, below_blind h6 hB hg hr, Nat.le_trans h7 hg.size⟩
  intro r e
  rcases hr r e with h | ⟨_, h⟩
  · left; omega
  · exact .inr h
theorem bad_blind (w : World) (B : Nat) (hB : w.heap.size ≤ B) (c : Code) : BlindFrom B (w.heap.size + 3) (Bad w c) := by
  rintro pre W W' row ⟨h0, pre0, x, zs, h1, h2, h3, h4, h5, h6, h7⟩ hg hr
  exact ⟨h0, pre0, x, zs, h1, h2, h3, blk_blind h4 rfl (by omega) hg hr, blk_blind h5 rfl (by omega) hg hr, below_blind h6 hB hg hr, Nat.le_trans h7 hg.size⟩

/-- The frame of a line's round. -/
def parseAct (w : World) (a0 : ByteArray) (x : Nat × List UInt8) : Act :=
  { tmps := #[.string a0, undef, .pointer (some ⟨w.heap.size, 0, none⟩), .pointer (some ⟨w.heap.size + 1, 0, none⟩), .pointer (some ⟨w.heap.size + 2, 0, none⟩), .int .i64 (x.1 : Int), .string ⟨x.2.toArray⟩, undef, undef, undef, undef, undef, undef, undef, .string a0, .int .i64 (a0.size : Int), .bool (decide ((65536 : Int) < (a0.size : Int))), undef, .string a0, .func (.func 40) #[] #[.pointer (some ⟨w.heap.size + 3, 0, none⟩)], .int .i64 (x.1 : Int), .string ⟨x.2.toArray⟩, undef, undef, undef, undef, undef, undef, undef, undef, undef, undef, undef, undef, undef, undef, undef, undef, undef, undef, undef, undef, undef, undef, undef, undef, undef, undef, undef, undef, undef, undef, undef, undef, undef, undef, undef, undef, undef, undef, undef, undef, undef, undef, undef, undef, undef, undef, undef, undef, undef, undef], defers := [] }

theorem results_line (tmps : Array Value) (w : World) (B : Nat) (v x y : Value) (h2 : tmps.getD 2 undef = .pointer (some ⟨B, 0, none⟩)) (h3 : tmps.getD 3 undef = .pointer (some ⟨B + 1, 0, none⟩))
    (hg2 : w.heap[B]? = some (.cells #[v] 23 (0, 0))) (hg3 : w.heap[B + 1]? = some (.cells #[x, y] 26 (0, 0))) :
    (results Tryd.f11 tmps).run Tryd.prog w = .ok (.tuple #[v, .agg #[x, y]]) w := by
  have hr : Tryd.f11.results = #[.cell 2 23, .cell 3 26] := rfl
  have hl3 := run_loadVar_row (P := Tryd.prog) w (B + 1) 26 26 #[x, y] (0, 0) _ hg3 Tryd.underlying26 rfl (by kernel_rfl)
  have hc := blk_cell hg2 0
  have hc' : w.cell? ⟨B, 0, none⟩ = some v := hc.trans rfl
  have hl2 : (loadVar 23 ⟨B, 0, none⟩).run Tryd.prog w = .ok v w := by
    have hagg : (isAgg 23).run Tryd.prog w = .ok false w := by
      unfold isAgg
      rw [Sem.run_bind, run_underlying Tryd.underlying23 w]
      rfl
    simp [loadVar, Sem.run_bind, hagg, load, getObj, Sem.run, Result.andThen, hc', go_sem]
  have g2 : tmps[2]?.getD undef = .pointer (some ⟨B, 0, none⟩) := by simpa using h2
  have g3 : tmps[3]?.getD undef = .pointer (some ⟨B + 1, 0, none⟩) := by simpa using h3
  simp [results, hr, g2, g3, asAddr, hl2, hl3]

theorem parse_ret (w W : World) (R : Ending → World → Prop) (a : Act) (D : Nat) (v x y : Value) (ha2 : a.tmps.getD 2 undef = .pointer (some ⟨w.heap.size, 0, none⟩)) (ha3 : a.tmps.getD 3 undef = .pointer (some ⟨w.heap.size + 1, 0, none⟩))
    (hd : a.defers = [{ target := .collected D, args := #[] }]) (hD : w.heap.size + 4 ≤ D) (hK : W.heap[D]? = some (.deferred (some [])))
    (hg2 : W.heap[w.heap.size]? = some (.cells #[v] 23 (0, 0))) (hg3 : W.heap[w.heap.size + 1]? = some (.cells #[x, y] 26 (0, 0)))
    (hR : R (.returned (.tuple #[v, .agg #[x, y]])) (W.putObj D (.deferred none))) : bodyPostM Fence.wide 3 Tryd.prog Tryd.f11 R .ret a W := by
  show LeavesInM Fence.wide 3 Tryd.prog Tryd.f11 a.tmps R a.defers .returning W
  rw [hd]
  refine ⟨by simp, .inl ⟨_, _, rfl, run_takeDeferred hK, ?_⟩⟩
  exact ⟨_, results_line a.tmps _ w.heap.size v x y ha2 ha3 ((World.putObj_heap_other (by omega)).trans hg2) ((World.putObj_heap_other (by omega)).trans hg3), hR⟩

theorem keeps_below {W W' : World} (h : Below W.heap.size W W') : KeepsOthers W W' := ⟨h.size, fun k o ho _ => (h.block k (Array.getElem?_eq_some_iff.1 ho).1).trans ho⟩
theorem inv_below {w W W' : World} {pre : List (Nat × List UInt8)} (h : Inv w pre W) (hb : Below W.heap.size W W') : Inv w pre W' := by
  obtain ⟨acc, v, h1, h2, h3, h4, h5, h6, h7⟩ := h
  have hm : ∀ {k : Nat} {o : Obj}, W.heap[k]? = some o → W'.heap[k]? = some o := fun ho => (hb.block _ (Array.getElem?_eq_some_iff.1 ho).1).trans ho
  exact ⟨acc, v, h1, hm h2, hm h3, hm h4, Kd.S_below h5 hb, h6.trans (hb.mono (Nat.le_trans (by omega) h7)), Nat.le_trans h7 hb.size⟩
theorem inv_blank {w W : World} {pre : List (Nat × List UInt8)} {x : Nat × List UInt8} (h : Inv w pre W) (hx : lineR x.1 x.2 = some []) : Inv w (pre ++ [x]) W := by
  obtain ⟨acc, v, h1, h2⟩ := h
  exact ⟨acc, v, by rw [acc_snoc pre x acc [] h1 hx, List.append_nil], h2⟩
theorem box_below {w W W' : World} {pre : List (Nat × List UInt8)} (h : Inv w pre W) (hb : Below W.heap.size W W') : KeepBox w.heap.size (w.heap.size + 3) W W' := by
  obtain ⟨acc, v, h1, h2, h3, h4, h5, h6, h7⟩ := h
  exact ⟨hb.mono (by omega), hb.block _ (by omega)⟩

set_option maxRecDepth 100000 in
set_option maxHeartbeats 4000000 in
theorem lines_Parse.calls (a0 : ByteArray) (r1 : List S35) (r2 r3 : Int) (w : World) (h : lines_Parse.f a0 = some (r1, r2, r3)) (hG : GW w) :
    Calls Tryd.prog 11 #[.string a0] w fun e w' => ∃ v0_ : Value, e = .returned (.tuple #[v0_, .agg #[.int .i64 r2, .int .i64 r3]]) ∧ Kd.S k35 35 w' w.heap.size (fun _ => True) v0_ r1 ∧ Below w.heap.size w w' := by
  unfold lines_Parse.f at h
  have h := Option.some.inj h
  by_cases hbig : 65536 < a0.size
  · rw [if_pos hbig] at h
    simp only [Prod.mk.injEq] at h
    obtain ⟨rfl, rfl, rfl⟩ := h
    have hb0 : decide ((65536 : Int) < (a0.size : Int)) = true := decide_eq_true (by omega)
    refine (callsIn_wide (n := 3)).1 ?_
    refine callsIn_of_wp Tryd.func11 rfl trivial ?_ rfl
    simp only [Tryd.ntmps11, List.size_toArray, List.length_cons, List.length_nil, Nat.reduceAdd, Nat.reduceSub, Array.replicate_succ, Array.replicate_zero, List.push_toArray, List.append_toArray, List.nil_append, List.cons_append]
    gi_wp2
    refine wpIn_wide.2 (wp_scope_straight ((wpIn_wide (n := 3)).1 ?_))
    gi_wp2
    rw [Exit.noGoto_ret]
    refine bodyPost_ret (results_line _ _ w.heap.size (.slice none 0 0) (.int .i64 2) (.int .i64 0) rfl rfl (blk_alloc (heap_alloc_new w _) _) (new_at (w.alloc _) _ _ (by simp))) rfl ?_
    exact ⟨_, rfl, Kd.S_nil _ _ _ _ _, ((Below.refl _ w).alloc (Nat.le_refl _) _).alloc (by simp) _⟩
  · rw [if_neg hbig] at h
    have hb0 : decide (65536 < a0.size) = false := decide_eq_false hbig
    refine (callsIn_wide (n := 3)).1 ?_
    refine callsIn_of_wp_marks Tryd.func11 rfl trivial ?_ rfl
    simp only [Tryd.ntmps11, List.size_toArray, List.length_cons, List.length_nil, Nat.reduceAdd, Nat.reduceSub, Array.replicate_succ, Array.replicate_zero, List.push_toArray, List.append_toArray, List.nil_append, List.cons_append]
    gi_wp2
    refine wpIn_wide.2 (wp_scope_straight ((wpIn_wide (n := 3)).1 ?_))
    gi_wp2
    refine wpIn_label ?_
    simp only [Exit.then]
    gi_wp2_with (refine ⟨trivial, ?_⟩; gi_at_call 21; refine (callsIn_wide.2 (each_calls a0 _)).mono ?_)
    rintro e w1 ⟨rfl, rfl⟩
    gi_wp2
    obtain ⟨xs, hxs⟩ : ∃ xs, numL 1 (cutAt 10 a0.data.toList) = xs := ⟨_, rfl⟩
    have hsz : a0.data.toList.length ≤ 65536 := by have := ofL_size a0.data.toList; rw [ofL_eq] at this; omega
    refine wpIn_rangeFunc_box (α := Nat × List UInt8) rfl (by omega) (gf := 40) (lb := #[.pointer (some ⟨w.heap.size + 3, 0, none⟩)]) rfl trivial (enters_of Tryd.func40 (by kernel_rfl) rfl)
      (encs := fun x => #[.int .i64 (x.1 : Int), .string ⟨x.2.toArray⟩]) (n₀ := w.heap.size) (g := w.heap.size + 3) (t := 9) (v0 := .string a0) (X := fun x => x.2.length ≤ 65536 ∧ x.1 ≤ 65537) (S := fun ys => ys = xs) (Sp := fun pre => pre <+: xs) (N := xs.length) (w0 := w) ?seq ?box ?b0 ?n0 (fun _ => rfl)
      (Inv w) (Bad w) (inv_blind w _ ?i1) (bad_blind w _ ?i2) ?start (fun x => parseAct w a0 x) ?assign ?body ?done ?stop
    case seq =>
      intro l J Jx W hbx hb hn hJ hJx hY h0
      have hg0 : 0 < w.heap.size := by obtain ⟨m, hm⟩ := hG; exact World.block_lt_of_cell? w _ hm
      have hbx' : Boxed W (w.heap.size + 3) 9 (.string ⟨a0.data.toList.toArray⟩) := by rw [show (⟨a0.data.toList.toArray⟩ : ByteArray) = a0 from ofL_eq a0]; exact hbx
      have := each_in 2 l (w.heap.size + 3) w.heap.size (by omega) a0.data.toList hsz w hG hg0 (by omega) J Jx W hbx' hb hn hJ (by rw [hxs]; exact hY) h0
      rw [hxs] at this
      exact this
    case box => exact new_at (((w.alloc _).alloc _).alloc _) _ _ (by simp)
    case b0 => exact ((((Below.refl _ w).alloc (Nat.le_refl _) _).alloc (by simp) _).alloc (by simp; omega) _).alloc (by simp; omega) _
    case n0 => simp; omega
    case i1 => simp; omega
    case i2 => simp; omega
    case start =>
      refine ⟨[], .slice none 0 0, rfl, ?_, ?_, ?_, Kd.S_nil _ _ _ _ _, ((((Below.refl _ w).alloc (Nat.le_refl _) _).alloc (by simp) _).alloc (by simp; omega) _).alloc (by simp; omega) _, by simp⟩
      · exact blk_alloc (blk_alloc (blk_alloc (heap_alloc_new w _) _) _) _
      · exact blk_alloc (blk_alloc (new_at (w.alloc _) _ _ (by simp)) _) _
      · exact blk_alloc (new_at ((w.alloc _).alloc _) _ _ (by simp)) _
    case assign =>
      intro l x W K hK
      unfold parseAct at hK
      gi_wp2
      exact hK
    case body =>
      rintro l pre x W ⟨hx1, hx2⟩ hI hpl
      have hGW : GW W := by
        obtain ⟨m, hm⟩ := hG
        obtain ⟨_, _, _, _, _, _, _, h6, _⟩ := hI
        exact ⟨m, (h6.cell (p := ⟨0, 0, none⟩) (World.block_lt_of_cell? w _ hm)).trans hm⟩
      have hcut := cut_f x.2 [35] (by omega)
      have hdl : (dataL x.2).length ≤ 65536 := by
        unfold dataL Lib.cut
        split
        · rw [List.length_take]; omega
        · exact hx1
      have htr := trim_f (dataL x.2) (by omega)
      clear hb0 hbig
      unfold parseAct
      gi_wp2_with (refine ⟨trivial, ?_⟩; gi_at_call 22; refine (CallsIn.inRound l (callsIn_wide.2 (strings_Cut.calls _ _ _ _ _ _ hcut hGW))).mono ?_)
      rintro e W1 ⟨rfl, hb1⟩
      gi_wp2_with (refine ⟨trivial, ?_⟩; gi_at_call 23; refine (CallsIn.inRound l (callsIn_wide.2 (lines_trim.calls _ _ _ htr))).mono ?_)
      rintro e W2 ⟨rfl, hb2⟩
      have hb02 : Below W.heap.size W W2 := hb1.trans (hb2.mono hb1.size)
      by_cases hblank : trimL (dataL x.2) = []
      · have hlr : lineR x.1 x.2 = some [] := by unfold lineR; rw [if_pos hblank]
        have he : (trimL (dataL x.2)).isEmpty = true := by rw [hblank]; rfl
        gi_wp2
        exact ⟨keeps_below hb02, box_below hI hb02, inv_blank (inv_below hI hb02) hlr⟩
      · have he : (trimL (dataL x.2)).isEmpty = false := by simpa using hblank
        have hnl : (Lib.cut x.2 [35]).2.1.length ≤ 65536 := by
          unfold Lib.cut
          split
          · rw [List.length_drop]; omega
          · simp
        have htn := trim_f (Lib.cut x.2 [35]).2.1 (by omega)
        gi_wp2_with (refine ⟨trivial, ?_⟩; gi_at_call 23; refine (CallsIn.inRound l (callsIn_wide.2 (lines_trim.calls _ _ _ htn))).mono ?_)
        rintro e W3 ⟨rfl, hb3⟩
        have hGW3 : GW (W3.alloc (.cells #[.int .i64 (x.1 : Int), .int .i64 0, .int .i64 0, .slice none 0 0, .string (ofL (noteL x.2))] 35)) := GW.below hGW (hb02.trans ((hb3.alloc hb3.size _).mono hb02.size))
        have hsp := split_f 59 (dataL x.2) (by omega)
        have hps := cutAt_ne 59 (dataL x.2)
        have hpn := cutAt_len 59 (dataL x.2)
        have hlr : lineR x.1 x.2 = (match cutAt 59 (dataL x.2) with
          | [] => none
          | p :: r => if (spanL (trimL p)).2.2 = true then some [⟨(x.1 : Int), (spanL (trimL p)).1, (spanL (trimL p)).2.1, r.map (fun q => ofL (trimL q)), ofL (noteL x.2)⟩] else none) := by
          unfold lineR; rw [if_neg hblank]; rfl
        obtain ⟨ps, hpsE⟩ : ∃ ps, cutAt 59 (dataL x.2) = ps := ⟨_, rfl⟩
        rw [hpsE] at hsp hps hpn hlr
        have hqs : ∀ q ∈ ps, q.length ≤ 65536 := fun q hq => by rw [← hpsE] at hq; exact Nat.le_trans (cutAt_mem 59 _ q hq) hdl
        have HQS := Lib.hid hqs
        have HLR := Lib.hid hlr
        have HI := Lib.hid hI
        clear hlr hpsE hI hcut htr htn hqs
        obtain ⟨p, r, rfl⟩ : ∃ p r, ps = p :: r := by cases ps with | nil => exact absurd rfl hps | cons p r => exact ⟨p, r, rfl⟩
        gi_wp2_with (refine ⟨trivial, ?_⟩; gi_at_call 24; refine (CallsIn.inRound l (callsIn_wide.2 (strings_Split.calls _ _ _ _ hsp hGW3))).mono ?_)
        rintro e W5 ⟨v36, rfl, hR36, hb5⟩
        obtain ⟨A36, c36, rfl⟩ := Kd.R_slice hR36
        have hB10 : W5.heap[W3.heap.size]? = some (.cells #[.int .i64 (x.1 : Int), .int .i64 0, .int .i64 0, .slice none 0 0, .string (ofL (noteL x.2))] 35 (0, 0)) := (hb5.block _ (by simp)).trans (heap_alloc_new W3 _)
        have hb03 : Below W.heap.size W W3 := hb02.trans (hb3.mono hb02.size)
        have hb05 : Below W.heap.size W W5 := (hb03.alloc hb03.size _).trans (hb5.mono (by simp; have := hb03.size; omega))
        have hlen36 : ((p :: r).map ofL).length = r.length + 1 := by simp
        rw [hlen36] at hR36
        gi_wp2
        gi_loopw [38] (fun v wr => ∃ (i : Nat) (A3 : Option Addr) (c3 : Nat) (lo hi : Int) (fs : List ByteArray), v = .int .i64 (i : Int) ∧ i ≤ r.length + 1 ∧
          Hid ((i = 0 ∧ lo = 0 ∧ hi = 0 ∧ fs = []) ∨ (0 < i ∧ (spanL (trimL p)).2.2 = true ∧ lo = (spanL (trimL p)).1 ∧ hi = (spanL (trimL p)).2.1 ∧ fs = (r.take (i - 1)).map (fun q => ofL (trimL q)))) ∧
          Hid (wr.heap[W3.heap.size]? = some (.cells #[.int .i64 (x.1 : Int), .int .i64 lo, .int .i64 hi, .slice A3 fs.length c3, .string (ofL (noteL x.2))] 35 (0, 0))) ∧
          Hid (Kd.R Kd.string 9 wr W.heap.size (fun k => some k ≠ (Value.slice A36 (r.length + 1) c36).ownBlock) (.slice A3 fs.length c3) fs) ∧
          Hid (Kd.R Kd.string 9 wr W.heap.size (fun k => some k ≠ (Value.slice A3 fs.length c3).ownBlock) (.slice A36 (r.length + 1) c36) ((p :: r).map ofL)) ∧ Below W.heap.size W wr) (fun v _ => r.length + 2 - (intOf v).toNat)
        case atStart =>
          exact ⟨0, none, 0, 0, 0, [], rfl, Nat.zero_le _, Lib.hid (.inl ⟨rfl, rfl, rfl, rfl⟩), Lib.hid hB10, Lib.hid (Kd.R_nil _ _ _ _ _),
            Lib.hid (Kd.R_mono (Kd.R_lower hR36 (by simp; have := hb03.size; omega)) (fun k _ => by simp [Value.ownBlock])), hb05⟩
        case round =>
          obtain ⟨i, A3, c3, lo, hi, fs, rfl, hile, HF, HB, HR3, HR36, hbr⟩ := hrel
          have HG3 := Lib.hid hGW
          by_cases hlt : i < r.length + 1
          · have hq0 : 0 ≤ (i : Int) := by omega
            have hq1 : (i : Int) < ((r.length + 1 : Nat) : Int) := by omega
            obtain ⟨ad, rfl, hx⟩ := Kd.at_string (by have := (Kd.R_reads' HR36.out).2.2; rw [hlen36] at this; exact this) (i : Int) hq0 hq1
            have hil : i < (p :: r).length := by simp; omega
            rw [rdOf_at (p :: r) i hil, Int.toNat_natCast] at hx
            obtain ⟨q, hq⟩ : ∃ q, (p :: r)[i] = q := ⟨_, rfl⟩
            rw [hq] at hx
            have hql : q.length ≤ 65536 := HQS.out q (by rw [← hq]; exact List.getElem_mem hil)
            have HQ := Lib.hid hq
            clear hq
            have htq := trim_f q (by omega)
            have hgi : decide ((0 : Int) < (i : Int)) = decide (0 < i) := by simp
            gi_wp2_with (refine ⟨trivial, ?_⟩; gi_at_call 23; refine (CallsIn.inRound l (callsIn_wide.2 (lines_trim.calls _ _ _ htq))).mono ?_)
            rintro e W6 ⟨rfl, hb6⟩
            have hB6 := (hb6.block _ (blk_lt HB.out)).trans HB.out
            have hR3 := Kd.R_below HR3.out hb6
            have hR36' := Kd.R_below HR36.out hb6
            have hbr6 : Below W.heap.size W W6 := hbr.trans (hb6.mono hbr.size)
            have hc3 : W6.cell? ⟨W3.heap.size, 3, none⟩ = some (.slice A3 fs.length c3) := (blk_cell hB6 3).trans rfl
            by_cases hi0 : 0 < i
            · rw [decide_eq_true hi0] at hgi
              have hfl : fs.length ≤ 65537 := by
                rcases HF.out with ⟨h0, _⟩ | ⟨_, _, _, _, e3⟩
                · omega
                · rw [e3]; simp; omega
              have hz6 := hbr6.size
              gi_wp2_with (gi_at_builtin; refine in_append_R Kd.string (w0 := W6) W.heap.size rfl _ _ 31 9 _ 16 rfl Tryd.underlying31 info9 rfl (by decide) (by decide) (.slice A3 fs.length c3) fs (ofL (trimL q)) [.string (ofL (trimL q))] _ (fun _ => False) rfl rfl rfl (fun k hk => hk.elim) (fun k hk e => by have := Kd.R_lt hR36' k e.symm; omega) hR3 (Below.refl _ _) (by omega) (by omega) ?_)
              intro v1 w1 hR1 hb1' hg1 hat1
              obtain ⟨A1, c1, rfl⟩ := Kd.R_slice hR1
              have hBw := blk_grown hB6 hg1 (Kd.R_ne hR3 hB6 (by decide))
              have hcw := blk_cell hBw 3
              have hfw := blk_frozen hBw 3
              gi_wp2
              go_roundw
              case rel =>
                have hel : (fs ++ [ofL (trimL q)]).length = fs.length + 1 := by simp
                refine ⟨i + 1, A1, c1, lo, hi, fs ++ [ofL (trimL q)], by simp, by omega, Lib.hid ?_, Lib.hid ?_, Lib.hid ?_, Lib.hid ?_, ?_⟩
                · rcases HF.out with ⟨h0, _⟩ | ⟨_, hok, e1, e2, e3⟩
                  · omega
                  · obtain ⟨j, rfl⟩ : ∃ j, i = j + 1 := ⟨i - 1, by omega⟩
                    have hj : j < r.length := by omega
                    have hqq : r[j] = q := by have := HQ.out; simpa using this
                    refine .inr ⟨by omega, hok, e1, e2, ?_⟩
                    rw [e3, show j + 1 + 1 - 1 = j + 1 by omega, show j + 1 - 1 = j by omega, List.take_succ_eq_append_getElem hj, hqq, List.map_append]
                    rfl
                · exact blk_put hBw 3 _ (by rw [hel]; rfl)
                · exact Kd.R_set hR1 hBw (by decide) 3 _
                · exact Kd.R_set (Kd.R_after (Kd.R_mono hR36' (fun k hk => ⟨trivial, hk⟩)) hg1 hat1 |> fun h => Kd.R_mono h (fun k hk => hk.2)) hBw (by decide) 3 _
                · exact Below.setCell (hbr6.grown hg1 hz6 (fun k e => Kd.R_base hR3 k e)) (by have := hb03.size; simp; omega) _
              case measure => simp [intOf]; omega
            · obtain rfl : i = 0 := by omega
              have hft : lo = 0 ∧ hi = 0 ∧ fs = [] := by
                rcases HF.out with ⟨_, h⟩ | ⟨h, _⟩
                · exact h
                · omega
              obtain ⟨rfl, rfl, rfl⟩ := hft
              obtain rfl : p = q := by have := HQ.out; simpa using this
              obtain ⟨K, hK⟩ := span_ev (trimL p) (by have := trimL_len p; omega)
              have hspan := hK K (Nat.le_refl _)
              dsimp only at hspan
              have hGW6 : GW W6 := GW.below hGW hbr6
              have hz6 := hbr6.size
              gi_wp2_with (refine ⟨trivial, ?_⟩; gi_at_call 25; refine (CallsIn.inRound l (callsIn_wide.2 (lines_span.calls K _ (spanL (trimL p)).1 (spanL (trimL p)).2.1 (spanL (trimL p)).2.2 _ hspan hGW6))).mono ?_)
              rintro e W7 ⟨rfl, hb7⟩
              have hB7 := (hb7.block _ (blk_lt hB6)).trans hB6
              have hbr7 : Below W.heap.size W W7 := hbr6.trans (hb7.mono hz6)
              have hcw1 := blk_cell hB7 1
              have hfw1 := blk_frozen hB7 1
              have hcw2 := blk_cell hB7 2
              have hfw2 := blk_frozen hB7 2
              obtain ⟨acc, v, i1, i2, i3, i4, i5, i6, i7⟩ := HI.out
              have hm : ∀ {k : Nat} {o : Obj}, W.heap[k]? = some o → W7.heap[k]? = some o := fun ho => (hbr7.block _ (Array.getElem?_eq_some_iff.1 ho).1).trans ho
              have h3 := hb03.size
              by_cases hok : (spanL (trimL p)).2.2 = true
              · gi_wp2
                go_roundw
                case rel =>
                  refine ⟨1, A3, c3, (spanL (trimL p)).1, (spanL (trimL p)).2.1, [], rfl, by omega, Lib.hid (.inr ⟨by omega, hok, rfl, rfl, rfl⟩), Lib.hid ?_, Lib.hid ?_, Lib.hid ?_, ?_⟩
                  · exact blk_put (blk_put hB7 1 _ rfl) 2 _ rfl
                  · exact Kd.R_set (Kd.R_set (Kd.R_below hR3 hb7) hB7 (by decide) 1 _) (blk_put hB7 1 _ rfl) (by decide) 2 _
                  · exact Kd.R_set (Kd.R_set (Kd.R_below hR36' hb7) hB7 (by decide) 1 _) (blk_put hB7 1 _ rfl) (by decide) 2 _
                  · exact Below.setCell (Below.setCell hbr7 (by simp; omega) _) (by simp; omega) _
                case measure => simp [intOf]
              · have hok' : (spanL (trimL p)).2.2 = false := by simpa using hok
                have g2 := hm i2
                have g3 := hm i3
                have hcr := blk_cell g2 0
                have hfr := blk_frozen g2 0
                have hcr3 := blk_cell g3 0
                have hfr3 := blk_frozen g3 0
                have hcr4 := blk_cell g3 1
                have hfr4 := blk_frozen g3 1
                gi_wp2
                have hlr2 : lineR x.1 x.2 = none := by rw [HLR.out]; simp only [hok']; rfl
                refine ⟨?_, rfl, pre, x, acc, rfl, i1, hlr2, ?_, ?_, ?_, ?_⟩
                · exact (keeps_below hbr7).trans ((KeepsOthers.setCell _ _ _).trans ((KeepsOthers.setCell _ _ _).trans ((KeepsOthers.setCell _ _ _).trans ((KeepsOthers.setCell _ _ _).trans (KeepsOthers.setCell _ _ _)))))
                · exact blk_far (blk_far (blk_put (blk_far (blk_far g2 (by simp; omega) _) (by simp; omega) _) 0 _ rfl) (by simp) _) (by simp) _
                · exact blk_put (blk_put (blk_far (blk_far (blk_far g3 (by simp; omega) _) (by simp; omega) _) (by simp) _) 0 _ rfl) 1 _ rfl
                · exact Below.setCell (Below.setCell (Below.setCell (Below.setCell (Below.setCell (i6.trans (hbr7.mono (by omega))) (by simp; omega) _) (by simp; omega) _) (by simp) _) (by simp) _) (by simp) _
                · have := hbr7.size
                  simp
                  omega
          · obtain rfl : i = r.length + 1 := by omega
            obtain ⟨acc, v, i1, i2, i3, i4, i5, i6, i7⟩ := HI.out
            obtain ⟨Av, cv, rfl⟩ := Kd.S_slice i5
            have hm : ∀ {k : Nat} {o : Obj}, W.heap[k]? = some o → wr.heap[k]? = some o := fun ho => (hbr.block _ (Array.getElem?_eq_some_iff.1 ho).1).trans ho
            have q4 : Boxed wr (w.heap.size + 2) 23 (.slice Av acc.length cv) := hm i4
            have hc4 := q4.cell
            have hal := acc_len pre acc i1
            have hxl : xs.length ≤ 65537 := by rw [← hxs, numL_length]; have := cutAt_len 10 a0.data.toList; omega
            have hB := HB.out
            have b0 : wr.cell? ⟨W3.heap.size, 0, none⟩ = some (.int .i64 (x.1 : Int)) := (blk_cell hB 0).trans rfl
            have b1 : wr.cell? ⟨W3.heap.size, 1, none⟩ = some (.int .i64 lo) := (blk_cell hB 1).trans rfl
            have b2 : wr.cell? ⟨W3.heap.size, 2, none⟩ = some (.int .i64 hi) := (blk_cell hB 2).trans rfl
            have b3 : wr.cell? ⟨W3.heap.size, 3, none⟩ = some (.slice A3 fs.length c3) := (blk_cell hB 3).trans rfl
            have b4 : wr.cell? ⟨W3.heap.size, 4, none⟩ = some (.string (ofL (noteL x.2))) := (blk_cell hB 4).trans rfl
            have hbase3 : ∀ k, some k = (Value.slice A3 fs.length c3).ownBlock → W.heap.size ≤ k := fun k e => Kd.R_base HR3.out k e.symm
            have hlt5 : ∀ k, some k = (Value.slice Av acc.length cv).ownBlock → k < W.heap.size := fun k e => Kd.S_lt i5 k e.symm
            have hlo5 : ∀ k, some k = (Value.slice Av acc.length cv).ownBlock → w.heap.size + 4 ≤ k := fun k e => Kd.S_base i5 k e.symm
            have hzr := hbr.size
            have g3 : Kd.string.R 9 wr (w.heap.size + 4) (fun k => some k = (Value.slice A3 fs.length c3).ownBlock) (.slice A3 fs.length c3) fs := Kd.R_lower (Kd.R_tight rfl HR3.out) i7
            have hSr := Kd.S_mono (Kd.S_old i5 hbr) (ok' := fun k => True ∧ ¬ some k = (Value.slice A3 fs.length c3).ownBlock) (fun k hk => ⟨trivial, fun e => by have := hbase3 k e; omega⟩)
            gi_wp2_with (gi_at_builtin; refine in_append_S k35 (w0 := wr) (w.heap.size + 4) rfl _ _ 23 35 _ 64 rfl Tryd.underlying23 info35 rfl (by decide) (by decide) (.slice Av acc.length cv) acc ⟨(x.1 : Int), lo, hi, fs, ofL (noteL x.2)⟩ [.int .i64 (x.1 : Int), .int .i64 lo, .int .i64 hi, .slice A3 fs.length c3, .string (ofL (noteL x.2))] (fun _ => True) (fun k => some k = (Value.slice A3 fs.length c3).ownBlock) rfl rfl (k35_mkM wr (w.heap.size + 4) _ _ g3) (fun k hk => ⟨trivial, fun e => by have := hbase3 k hk; have := hlt5 k e; omega⟩) (fun _ _ => trivial) hSr (Below.refl _ _) (by omega) (by omega) ?_)
            intro v1 w1 hS1 hb1' hg1 hat1
            obtain ⟨A1, c1, rfl⟩ := Kd.S_slice hS1
            have q4w : Boxed w1 (w.heap.size + 2) 23 (.slice Av acc.length cv) := q4.kept hg1 (fun e => by have := hlo5 _ e; omega)
            have hc5 := q4w.cell
            have hf5 := q4w.frozen
            gi_wp2
            have hft := HF.out
            rcases hft with ⟨h0, _⟩ | ⟨_, hok, rfl, rfl, rfl⟩
            · omega
            have hlr2 : lineR x.1 x.2 = some [⟨(x.1 : Int), (spanL (trimL p)).1, (spanL (trimL p)).2.1, r.map (fun q => ofL (trimL q)), ofL (noteL x.2)⟩] := by rw [HLR.out]; simp only [hok, if_true]
            have htk : (r.take (r.length + 1 - 1)) = r := List.take_of_length_le (by omega)
            rw [htk, List.length_append, List.length_singleton] at hS1
            have away : ∀ {k : Nat} {o : Obj}, W.heap[k]? = some o → k < w.heap.size + 4 → w1.heap[k]? = some o := fun ho hk => (hg1.block _ (by have := (Array.getElem?_eq_some_iff.1 ho).1; omega) (fun e => by have := hlo5 _ e; omega)).trans (hm ho)
            refine ⟨?_, ?_, ?_⟩
            · refine (keeps_below hbr).trans ((KeepsOthers.of_grownBy hg1 ?_).trans (KeepsOthers.setCell _ _ _))
              intro j o ej ho
              obtain ⟨cells, hcs⟩ := Kd.S_typed (Kd.S_below i5 hbr) j ej
              rw [hcs] at ho; cases ho; rfl
            · refine ⟨?_, ?_⟩
              · refine Below.setCell (Below.grown (hbr.mono (by omega)) hg1 (by omega) (fun k e => by have := hlo5 k e.symm; omega)) (by simp) _
              · exact (Below.heap_setCell _ _ _ _ (by simp)).trans ((hg1.block _ (by omega) (fun e => by have := hlo5 _ e; omega)).trans (hbr.block _ (by omega)))
            · refine ⟨acc ++ [⟨(x.1 : Int), (spanL (trimL p)).1, (spanL (trimL p)).2.1, r.map (fun q => ofL (trimL q)), ofL (noteL x.2)⟩], .slice A1 (acc.length + 1) c1, acc_snoc pre x acc _ i1 hlr2, ?_, ?_, ?_, ?_, ?_, ?_⟩
              · exact (Below.heap_setCell _ _ _ _ (by simp)).trans (away i2 (by omega))
              · exact (Below.heap_setCell _ _ _ _ (by simp)).trans (away i3 (by omega))
              · exact q4w.set _
              · exact Kd.S_mono (Kd.S_far (p := ⟨w.heap.size + 2, 0, none⟩) (Kd.S_bound hS1) (fun k hk => by have := hk.2.1; simp; omega) _) (fun _ _ => trivial)
              · exact Below.setCell (Below.grown (i6.trans (hbr.mono (by omega))) hg1 (by omega) (fun k e => by have := hlo5 k e.symm; omega)) (by simp) _
              · have := hg1.size
                simp
                omega
    case done =>
      rintro D ys W hD rfl ⟨acc, v, h1, h2, h3, h4, h5, h6, h7⟩ hK
      obtain ⟨Av, cv, rfl⟩ := Kd.S_slice h5
      have hc4 : W.cell? ⟨w.heap.size + 1 + 1, 0, none⟩ = some (.slice Av acc.length cv) := h4.cell
      have hc2 := blk_cell h2 0
      have hf2 := blk_frozen h2 0
      have hc3 := blk_cell h3 0
      have hf3 := blk_frozen h3 0
      have hc3' := blk_cell h3 1
      have hf3' := blk_frozen h3 1
      gi_wp2
      rw [Exit.noGoto_ret]
      have hq := parses_ok _ [] acc h1
      rw [← hxs, h] at hq
      simp only [List.nil_append, Prod.mk.injEq] at hq
      obtain ⟨rfl, rfl, rfl⟩ := hq
      have hDD : w.heap.size + 4 ≤ D := by simp at hD; omega
      refine parse_ret w _ _ _ D (.slice Av r1.length cv) (.int .i64 0) (.int .i64 0) rfl rfl rfl hDD ?_ ?_ ?_ ?_
      · exact (Below.heap_setCell _ _ _ _ (by simp; omega)).trans ((Below.heap_setCell _ _ _ _ (by simp; omega)).trans ((Below.heap_setCell _ _ _ _ (by simp; omega)).trans hK))
      · exact blk_far (blk_far (blk_put h2 0 _ rfl) (by simp) _) (by simp) _
      · exact blk_put (blk_put (blk_far h3 (by simp) _) 0 _ rfl) 1 _ rfl
      · refine ⟨_, rfl, ?_, ?_⟩
        · have hs := Kd.S_bound h5
          have hs1 := Kd.S_far (p := ⟨w.heap.size, 0, none⟩) hs (fun k hk => by have := hk.2.1; simp; omega) (.slice Av r1.length cv)
          have hs2 := Kd.S_far (p := ⟨w.heap.size + 1, 0, none⟩) hs1 (fun k hk => by have := hk.2.1; simp; omega) (.int .i64 0)
          have hs3 := Kd.S_far (p := ⟨w.heap.size + 1, 1, none⟩) hs2 (fun k hk => by have := hk.2.1; simp; omega) (.int .i64 0)
          refine Kd.S_lower (S_blind (Kd.S_mono hs3 (fun _ _ => trivial)) (grownBy_putObj' _ D _) ?_) (by omega)
          rintro r e
          cases e
          exact .inr ⟨_, (Below.heap_setCell _ _ _ _ (by simp; omega)).trans ((Below.heap_setCell _ _ _ _ (by simp; omega)).trans ((Below.heap_setCell _ _ _ _ (by simp; omega)).trans hK)), rfl⟩
        · refine Below.grown (((h6.setCell (by simp) _).setCell (by simp) _).setCell (by simp) _) (grownBy_putObj' _ D _) (by simp; omega) ?_
          rintro k e
          cases e
          omega
    case stop =>
      rintro D c pre W hD hSp ⟨rfl, pre0, x, zs, h1, h2, h3, h4, h5, h6, h7⟩ hK
      refine wpIn_ret ?_
      simp only [Exit.inBlock, Exit.then, Exit.noGoto_ret]
      obtain ⟨r, hr⟩ := hSp
      have hq := parses_bad pre0 x r [] zs h2 h3
      rw [show pre0 ++ x :: r = xs by rw [← hr, h1]; simp, ← hxs, h] at hq
      simp only [Prod.mk.injEq] at hq
      obtain ⟨rfl, rfl, rfl⟩ := hq
      have hDD : w.heap.size + 4 ≤ D := by simp at hD; omega
      refine parse_ret w _ _ _ D (.slice none 0 0) (.int .i64 3) (.int .i64 (x.1 : Int)) rfl rfl rfl hDD hK h4 h5 ?_
      refine ⟨_, rfl, Kd.S_nil _ _ _ _ _, ?_⟩
      refine Below.grown h6 (grownBy_putObj' _ D _) (by omega) ?_
      rintro k e
      cases e
      omega

end Go.Proofs.YtljhhnpgpiglfaaDoor.Pr
