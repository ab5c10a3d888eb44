/- Texts of the claim ElementFiles, joined: HPFile. -/
import Derived.Test.YtdaijpjjilmkkaaGreatDoorZElementFiles30
import Derived.Lib.Hide
import Derived.WalkMore
import Derived.Test.YtdaijpjjilmkkaaGreatDoorZElementFiles26
/- The contract of element.ParseFile: the collation of a text, or its first fault. Written by wip/gen_pfile.py. -/
namespace Go.Proofs.YtdaijpjjilmkkaaGreatDoor.Pr
open Go.RowKit Go.Shelf Go.Proofs.YtdaijpjjilmkkaaGreatDoorW.PrintWords Go.Proofs.YtdaijpjjilmkkaaGreatDoorW.PrintLast Go.Proofs.YtdaijpjjilmkkaaGreatDoorW.PrintMore
set_option linter.unusedVariables false
set_option linter.unusedSimpArgs false
def element_ParseFile.f (a0 : ByteArray) : Option Out := if a0.size ≤ 9223372036854775807 then some (parseF a0.data.toList) else none
def element_ParseFile.T24 : Bool × List (List Nat × List Nat) := (true, [([], []), ([], []), ([], []), ([2], [2]), ([3], [3]), ([4], [4]), ([], []), ([5, 6], [5, 6]), ([7], [7]), ([1, 8], [1, 8]), ([0, 0], [0]), ([9, 10, 0, 1, 2, 3, 4, 5, 6, 7, 8, 9, 10], [9])])
def element_ParseFile.B24 : List Nat := [0, 0, 0, 4, 12, 28, 0, 124, 252, 510, 1, 2047]
theorem element_ParseFile.tab24 : rtab .any (opsOf Tryz.f17 24) = element_ParseFile.T24 := by kernel_rfl
theorem element_ParseFile.bits24 : waitsOk element_ParseFile.T24.2 element_ParseFile.B24 = true := by kernel_rfl
theorem bareL_le (x : List UInt8) : (bareL x).length ≤ x.length := by
  (unfold bareL); (rcases cut_at 35 x with ⟨h1, -⟩ | ⟨a, b, h1, -, h3⟩)
  · (rw [h1]); (exact Nat.le_refl _)
  · (rw [h3, if_pos rfl, h1]); (have h := (List.dropWhile_suffix (l := a.reverse) (fun y : UInt8 => y == 32)).length_le); (unfold Lib.trimRightB); (simp at h ⊢); (omega)
structure InvR (st : Rd) (k : Nat) : Prop where
  es : st.es.length ≤ k
  gs : st.gs.length ≤ k
  ls : st.ls.length = st.es.length
  el : ∀ x ∈ st.es, x.f1.length ≤ 100000
theorem InvR_mono {st : Rd} {j k : Nat} (h : InvR st j) (hk : j ≤ k) : InvR st k := ⟨Nat.le_trans h.es hk, Nat.le_trans h.gs hk, h.ls, h.el⟩
theorem lineS_inv {st st1 : Rd} {l : List UInt8} {n : Int} {k : Nat} (h : lineS st l n = some st1) (hl : l.length ≤ 100000) (hi : InvR st k) : InvR st1 (k + 1) := by
  have hb : ∀ ps, lineB st ps = some st1 → InvR st1 (k + 1) := by
    (intro ps h); (unfold lineB at h); (split at h)
    · split at h
      · (cases h); (exact ⟨Nat.le_succ_of_le hi.es, Nat.le_succ_of_le hi.gs, hi.ls, hi.el⟩)
      · cases h
    · cases h
  have hg : ∀ ps, lineG st ps = some st1 → InvR st1 (k + 1) := by
    (intro ps h); (unfold lineG at h); (split at h)
    · split at h
      · (cases h); (refine ⟨Nat.le_succ_of_le hi.es, ?_, hi.ls, hi.el⟩); (have := hi.gs); (dsimp only); (rw [List.length_append]); (simp); (omega)
      · cases h
    · cases h
  have he : lineE st l n = some st1 → InvR st1 (k + 1) := by
    (intro h); (unfold lineE at h); (split at h)
    · (obtain ⟨els, he, rfl⟩ := Option.map_eq_some_iff.1 h); (have h1 := readE_len he); (have h2 := (cut_le l [59, 32]).2); (have h3 := hi.es); (have h4 := hi.ls); (refine ⟨?_, Nat.le_succ_of_le hi.gs, ?_, fun x hx => ?_⟩)
      · (dsimp only); (rw [List.length_append]); (simp); (omega)
      · (dsimp only); (rw [List.length_append, List.length_append, h4]); (rfl)
      · (dsimp only at hx); (rcases List.mem_append.1 hx with hx | hx)
        · exact hi.el x hx
        · (simp only [List.mem_singleton] at hx); (subst hx); (dsimp only); (omega)
    · cases h
  (unfold lineS at h); (split at h)
  · exact hb _ h
  · split at h
    · exact hg _ h
    · exact he h
theorem RdIs_below {P : Nat} {st : Rd} {W W1 : World} (h : RdIs P st W) (hb : Below W.heap.size W W1) : RdIs P st W1 := by
  (obtain ⟨vE, vG, vL, hX, hE, hG, hL⟩ := h); (exact ⟨vE, vG, vL, (hb.block _ (blk_lt hX)).trans hX, Kd.S_below hE hb, Kd.R_below hG hb, Kd.R_below hL hb⟩)
theorem results_pf (tmps : Array Value) (w : World) (B : Nat) (v0 v1 : Value) (x y z e n : Int) (h2 : tmps.getD 2 undef = .pointer (some ⟨B, 0, none⟩)) (h3 : tmps.getD 3 undef = .pointer (some ⟨B + 1, 0, none⟩))
    (hg : w.heap[B]? = some (.cells #[v0, v1, .int .i64 x, .int .i64 y, .int .i64 z] 35 (0, 0))) (hf : w.heap[B + 1]? = some (.cells #[.int .i64 e, .int .i64 n] 39 (0, 0))) :
    (results Tryz.f17 tmps).run Tryz.prog w = .ok (.tuple #[.agg #[v0, v1, .int .i64 x, .int .i64 y, .int .i64 z], .agg #[.int .i64 e, .int .i64 n]]) w := by
  (have hr : Tryz.f17.results = #[.cell 2 35, .cell 3 39] := rfl); (have hl := run_loadVar_row (P := Tryz.prog) w B 35 35 #[v0, v1, .int .i64 x, .int .i64 y, .int .i64 z] (0, 0) _ hg Tryz.underlying35 rfl (by kernel_rfl)); (have hm := run_loadVar_row (P := Tryz.prog) w (B + 1) 39 39 #[.int .i64 e, .int .i64 n] (0, 0) _ hf Tryz.underlying39 rfl (by kernel_rfl)); (have g2 : tmps[2]?.getD undef = .pointer (some ⟨B, 0, none⟩) := by simpa using h2); (have g3 : tmps[3]?.getD undef = .pointer (some ⟨B + 1, 0, none⟩) := by simpa using h3); (simp [results, hr, g2, g3, asAddr, hl, hm])
theorem pf_end (w W : World) (a : Act) (u0 u1 u2 u3 u4 g0 g1 v0 v1 : Value) (x y z e n : Int) (hR : W.heap[w.heap.size]? = some (.cells #[u0, u1, u2, u3, u4] 35 (0, 0))) (hF : W.heap[w.heap.size + 1]? = some (.cells #[g0, g1] 39 (0, 0))) (hB : Below w.heap.size w W)
    (ha2 : a.tmps.getD 2 undef = .pointer (some ⟨w.heap.size, 0, none⟩)) (ha3 : a.tmps.getD 3 undef = .pointer (some ⟨w.heap.size + 1, 0, none⟩)) (hd : a.defers = []) (R : Ending → World → Prop)
    (hres : ∀ W', (∀ k, k ≠ w.heap.size → k ≠ w.heap.size + 1 → W'.heap[k]? = W.heap[k]?) → Below w.heap.size w W' → R (.returned (.tuple #[.agg #[v0, v1, .int .i64 x, .int .i64 y, .int .i64 z], .agg #[.int .i64 e, .int .i64 n]])) W') :
    bodyPost Tryz.prog Tryz.f17 R .ret a (((((((W.setCell ⟨w.heap.size, 0, none⟩ v0).setCell ⟨w.heap.size, 1, none⟩ v1).setCell ⟨w.heap.size, 2, none⟩ (.int .i64 x)).setCell ⟨w.heap.size, 3, none⟩ (.int .i64 y)).setCell ⟨w.heap.size, 4, none⟩ (.int .i64 z)).setCell ⟨w.heap.size + 1, 0, none⟩ (.int .i64 e)).setCell ⟨w.heap.size + 1, 1, none⟩ (.int .i64 n)) := by
  (have hg := blk_put (blk_put (blk_put (blk_put (blk_put hR 0 v0 rfl) 1 v1 rfl) 2 (.int .i64 x) rfl) 3 (.int .i64 y) rfl) 4 (.int .i64 z) rfl); (have hg2 := blk_far (p := ⟨w.heap.size + 1, 1, none⟩) (blk_far (p := ⟨w.heap.size + 1, 0, none⟩) hg (by simp) (.int .i64 e)) (by simp) (.int .i64 n)); (have hf := blk_far (p := ⟨w.heap.size, 4, none⟩) (blk_far (p := ⟨w.heap.size, 3, none⟩) (blk_far (p := ⟨w.heap.size, 2, none⟩) (blk_far (p := ⟨w.heap.size, 1, none⟩) (blk_far (p := ⟨w.heap.size, 0, none⟩) hF (by simp) v0) (by simp) v1) (by simp) (.int .i64 x)) (by simp) (.int .i64 y)) (by simp) (.int .i64 z)); (have hf2 := blk_put (blk_put hf 0 (.int .i64 e) rfl) 1 (.int .i64 n) rfl); (refine bodyPost_ret (results_pf _ _ _ v0 v1 x y z e n ha2 ha3 hg2 hf2) hd ?_); (refine hres _ (fun k h0 h1 => ?_) ?_)
  · rw [Below.heap_setCell _ _ _ _ (show k ≠ w.heap.size + 1 from h1), Below.heap_setCell _ _ _ _ (show k ≠ w.heap.size + 1 from h1), Below.heap_setCell _ _ _ _ (show k ≠ w.heap.size from h0), Below.heap_setCell _ _ _ _ (show k ≠ w.heap.size from h0), Below.heap_setCell _ _ _ _ (show k ≠ w.heap.size from h0), Below.heap_setCell _ _ _ _ (show k ≠ w.heap.size from h0), Below.heap_setCell _ _ _ _ (show k ≠ w.heap.size from h0)]
  · exact Below.setCell (Below.setCell (Below.setCell (Below.setCell (Below.setCell (Below.setCell (Below.setCell hB (Nat.le_refl _) _) (Nat.le_refl _) _) (Nat.le_refl _) _) (Nat.le_refl _) _) (Nat.le_refl _) _) (Nat.le_succ _) _) (Nat.le_succ _) _
theorem pf_bad (w W : World) (a : Act) (e n : Int) (hR : W.heap[w.heap.size]? = some (.cells #[.slice none 0 0, .slice none 0 0, .int .i64 0, .int .i64 0, .int .i64 0] 35 (0, 0))) (hF : W.heap[w.heap.size + 1]? = some (.cells #[.int .i64 0, .int .i64 0] 39 (0, 0))) (hB : Below w.heap.size w W)
    (ha2 : a.tmps.getD 2 undef = .pointer (some ⟨w.heap.size, 0, none⟩)) (ha3 : a.tmps.getD 3 undef = .pointer (some ⟨w.heap.size + 1, 0, none⟩)) (hd : a.defers = []) :
    bodyPost Tryz.prog Tryz.f17 (fun e' w' => ∃ v0_ v1_ : Value, e' = .returned (.tuple #[.agg #[v0_, v1_, .int .i64 0, .int .i64 0, .int .i64 0], .agg #[.int .i64 e, .int .i64 n]]) ∧ Kd.S k49 49 w' w.heap.size (fun _ => True) v0_ [] ∧ Kd.R k46 46 w' w.heap.size (fun _ => True) v1_ [] ∧ Below w.heap.size w w') .ret a (((((((W.setCell ⟨w.heap.size, 0, none⟩ (.slice none 0 0)).setCell ⟨w.heap.size, 1, none⟩ (.slice none 0 0)).setCell ⟨w.heap.size, 2, none⟩ (.int .i64 0)).setCell ⟨w.heap.size, 3, none⟩ (.int .i64 0)).setCell ⟨w.heap.size, 4, none⟩ (.int .i64 0)).setCell ⟨w.heap.size + 1, 0, none⟩ (.int .i64 e)).setCell ⟨w.heap.size + 1, 1, none⟩ (.int .i64 n)) :=
  pf_end w W a _ _ _ _ _ _ _ _ _ 0 0 0 e n hR hF hB ha2 ha3 hd _ (fun W' _ hW' => ⟨_, _, rfl, Kd.S_nil _ _ _ _ _, Kd.R_nil _ _ _ _ _, hW'⟩)
set_option maxRecDepth 100000 in
set_option maxHeartbeats 8000000 in
theorem element_ParseFile.calls (a0 : ByteArray) (r1 : List S49) (r2 : List S46) (r3 r4 r5 r6 r7 : Int) (w : World) (h : element_ParseFile.f a0 = some (r1, r2, r3, r4, r5, r6, r7)) (hG : GW w) :
    Calls Tryz.prog 17 #[.string a0] w fun e w' => ∃ v0_ v1_ : Value, e = .returned (.tuple #[.agg #[v0_, v1_, .int .i64 r3, .int .i64 r4, .int .i64 r5], .agg #[.int .i64 r6, .int .i64 r7]]) ∧ Kd.S k49 49 w' w.heap.size (fun _ => True) v0_ r1 ∧ Kd.R k46 46 w' w.heap.size (fun _ => True) v1_ r2 ∧ Below w.heap.size w w' := by
  (obtain ⟨s, rfl⟩ : ∃ s, a0 = ofL s := ⟨a0.data.toList, (ofL_eq a0).symm⟩); (unfold element_ParseFile.f at h); (rw [ofL_list, ofL_size] at h); (by_cases hs0 : s.length ≤ 9223372036854775807)
  case neg => rw [if_neg hs0] at h; cases h
  (rw [if_pos hs0] at h); (have H := Aside0.mk (Option.some.inj h)); (have HG := Aside0.mk hG); (clear h hG); (have hu39 := Tryz.underlying35); (have hu43 := Tryz.underlying39); (have hu52 := Tryz.underlying49); (have hu75 := Tryz.underlying72)
  have hx39 : ((w.alloc (.cells #[.slice none 0 0, .slice none 0 0, .int .i64 0, .int .i64 0, .int .i64 0] 35)).alloc (.cells #[.int .i64 0, .int .i64 0] 39)).heap[w.heap.size]? = some (.cells #[.slice none 0 0, .slice none 0 0, .int .i64 0, .int .i64 0, .int .i64 0] 35 (0, 0)) := by
    (rw [Lib.alloc_old _ _ _ (by simp)]); (exact heap_alloc_new _ _)
  have hx43 : ((w.alloc (.cells #[.slice none 0 0, .slice none 0 0, .int .i64 0, .int .i64 0, .int .i64 0] 35)).alloc (.cells #[.int .i64 0, .int .i64 0] 39)).heap[w.heap.size + 1]? = some (.cells #[.int .i64 0, .int .i64 0] 39 (0, 0)) := by
    (have := heap_alloc_new (w.alloc (.cells #[.slice none 0 0, .slice none 0 0, .int .i64 0, .int .i64 0, .int .i64 0] 35)) (.cells #[.int .i64 0, .int .i64 0] 39)); (rw [World.size_alloc] at this); (exact this)
  (have HB0 : Aside0 (Below w.heap.size w ((w.alloc (.cells #[.slice none 0 0, .slice none 0 0, .int .i64 0, .int .i64 0, .int .i64 0] 35)).alloc (.cells #[.int .i64 0, .int .i64 0] 39))) := ⟨below_alloc (below_alloc (Below.refl _ _) _) _⟩); (by_cases hbig : 65536 < s.length)
  · (have n0 : decide ((65536 : Int) < (s.length : Int)) = true := decide_eq_true (by omega)); (have n1 : decide (65536 < s.length) = true := decide_eq_true hbig); (have HNO : Aside0 (parseF s = bad 2 0) := ⟨by unfold parseF; rw [if_pos hbig]⟩); (have hH := H.out); (rw [HNO.out] at hH); (simp only [bad, Prod.mk.injEq] at hH); (obtain ⟨rfl, rfl, rfl, rfl, rfl, rfl, rfl⟩ := hH); (clear hx39 hx43 HB0); (go_enter Tryz.func17, Tryz.ntmps17); (go_wp2); (repeat ((first | go_step3 | (rw [Exit.noGoto_normal]; (try simp only [Exit.inBlock, Exit.then]))); go_wp2)); (rw [Exit.noGoto_ret]); (refine bodyPost_ret (results_pf _ _ w.heap.size (.slice none 0 0) (.slice none 0 0) 0 0 0 2 0 rfl rfl ?_ ?_) rfl ⟨_, _, rfl, Kd.S_nil _ _ _ _ _, Kd.R_nil _ _ _ _ _, below_alloc (below_alloc (Below.refl _ _) _) _⟩)
    · (rw [Lib.alloc_old _ _ _ (by simp)]); (exact heap_alloc_new _ _)
    · (have := heap_alloc_new (w.alloc (.cells #[.slice none 0 0, .slice none 0 0, .int .i64 0, .int .i64 0, .int .i64 0] 35)) (.cells #[.int .i64 2, .int .i64 0] 39)); (rw [World.size_alloc] at this); (exact this)
  (have n0 : decide ((65536 : Int) < (s.length : Int)) = false := decide_eq_false (by omega)); (have n1 : decide (65536 < s.length) = false := decide_eq_false hbig); (obtain ⟨PS, hPS⟩ : ∃ PS, cutAt 10 s = PS := ⟨_, rfl⟩); (have HPS := Aside0.mk hPS); (have hne : PS ≠ [] := by rw [← hPS]; exact cutAt_ne 10 s); (have hpl : PS.length ≤ 65537 := by rw [← hPS]; have := cutAt_len 10 s; omega); (have HPM : Aside0 (∀ q ∈ PS, q.length ≤ 65536) := ⟨fun q hq => by rw [← hPS] at hq; have := cutAt_mem 10 s q hq; omega⟩); (have hsp : Aside0 (strings_Split.f (ofL s) (⟨#[10]⟩ : ByteArray) = some (PS.map ofL)) := ⟨by rw [← hPS]; exact splitc_f 10 s (by omega)⟩); (obtain ⟨Q, z, rfl⟩ : ∃ Q z, PS = Q ++ [z] := ⟨PS.dropLast, PS.getLast hne, (List.dropLast_concat_getLast hne).symm⟩); (have hQl : Q.length ≤ 65536 := by simp at hpl; omega); (have HX39 := Aside0.mk hx39); (have HX43 := Aside0.mk hx43); (clear hPS hne hpl hx39 hx43); (go_enter Tryz.func17, Tryz.ntmps17); (go_wp2_with fail); (repeat ((first | go_step3 | (rw [Exit.noGoto_normal]; (try simp only [Exit.inBlock, Exit.then]))); go_wp2_with fail)); (refine (strings_Split.calls _ _ _ _ hsp.out (GW.below HG.out HB0.out)).mono ?_); (rintro e W1 ⟨v, rfl, hR, hb⟩); (obtain ⟨A1, c1, rfl⟩ := Kd.R_slice hR); (obtain ⟨-, hc1, hCC⟩ := Kd.R_reads' hR); (have hx39 := (hb.block _ (blk_lt HX39.out)).trans HX39.out); (have hx43 := (hb.block _ (blk_lt HX43.out)).trans HX43.out); (have HB1 : Aside0 (Below w.heap.size w W1) := ⟨HB0.out.trans (hb.mono HB0.out.size)⟩); (have hP0 : w.heap.size < W1.heap.size := blk_lt hx39); (have hP1 : w.heap.size + 1 < W1.heap.size := blk_lt hx43); (clear HX39 HX43); (have HX39 := Aside0.mk hx39); (have HX43 := Aside0.mk hx43); (obtain ⟨ad, rfl, hx⟩ := Kd.at_string hCC (Q.length : Int) (by omega) (by first | (simp; done) | (simp; omega))); (have hrd : rdOf ByteArray.empty ((Q ++ [z]).map ofL) (Q.length : Int) = ofL z := by simp [rdOf]); (rw [hrd, Int.toNat_natCast] at hx); (have hl1 : ((Q ++ [z]).map ofL).length = Q.length + 1 := by simp); (rw [hl1] at hCC hc1 ⊢); (have HCC := Aside0.mk hCC); (clear hrd hx39 hx43 hb hR hCC); (have q0 : (0 ≤ (Q.length : Int)) = True := eq_true (by omega)); (have q1 : ((Q.length : Int) < (Q.length : Int) + 1) = True := eq_true (by omega)); (obtain ⟨i0, hi0, _, hsz, _⟩ := info_parts info9); (by_cases hz : z = [])
  · (have z1 : (z == []) = true := by rw [hz]; rfl); (have z2 : decide (z = []) = true := decide_eq_true hz); (have HLS : Aside0 (linesOf s = Q) := ⟨by rw [linesOf_of HPS.out, if_pos hz]⟩); (obtain ⟨hcut, hA, -⟩ := print_take_of (P := Tryz.prog) Value.string ByteArray.empty 68 9 .i64 Tryz.underlying68 hi0 hsz (some ad) c1 ((Q ++ [z]).map ofL) (Q.length : Int) (by omega) (by simp; omega) (by rw [hl1]; exact hc1)); (have hQt : (((Q ++ [z]).map ofL).take (Q.length : Int).toNat) = Q.map ofL := by simp)
    have HC : Aside0 (Kd.C Kd.string W1 (some ad) Q.length (Q.map ofL)) := ⟨by
      (have := Kd.C_of_reads (h1 := fun _ => rfl) (hA _ (Kd.reads_of_C (by rw [hl1]; exact HCC.out)))); (rw [hQt, List.length_map] at this)
      exact this⟩
    have hcut1 : ∀ W, (Instr.slice 68 (.slice (some ad) (Q.length + 1) c1) none (some (.int .i64 (Q.length : Int))) none).run Tryz.prog W = .ok (.slice (some ad) Q.length c1) W := by
      (intro W); (have := hcut W); (rw [hl1, hQt, List.length_map] at this); (exact this)
    (have hc2 : Q.length ≤ c1 := by omega); (obtain ⟨LS, hLS⟩ : ∃ LS, Q = LS := ⟨_, rfl⟩); (have hLn : LS.length = Q.length := by rw [hLS]); (have HLM : Aside0 (∀ x ∈ LS, x.length ≤ 65536) := ⟨fun x hx => HPM.out x (by rw [← hLS] at hx; simp [hx])⟩); (rw [hLS] at HLS HC); (rw [show LS.length = Q.length from hLn] at HC); (clear hA hcut hQt hLS hz); (obtain ⟨P, hP⟩ : ∃ P, W1.heap.size = P := ⟨_, rfl⟩); (have HP : Aside0 (RdIs P Rd.none (W1.alloc (.cells #[.slice none 0 0, .slice none 0 0, .int .i64 0, .int .i64 0, .int .i64 0, .bool false, .slice none 0 0] 72))) := ⟨by rw [← hP]; exact ⟨_, _, _, heap_alloc_new _ _, Kd.S_nil _ _ _ _ _, Kd.R_nil _ _ _ _ _, Kd.R_nil _ _ _ _ _⟩⟩); (have HBP : Aside0 (Below P W1 (W1.alloc (.cells #[.slice none 0 0, .slice none 0 0, .int .i64 0, .int .i64 0, .int .i64 0, .bool false, .slice none 0 0] 72))) := ⟨by rw [← hP]; exact below_alloc (Below.refl _ _) _⟩); (have hQ0 : w.heap.size < P := by omega); (have hQ1 : w.heap.size + 1 < P := by omega); (have hPw : w.heap.size ≤ P := by omega); (go_wp2_with fail); (repeat ((first | go_step3 | (rw [Exit.noGoto_normal]; (try simp only [Exit.inBlock, Exit.then]))); go_wp2_with fail)); (go_loopg [37] Q.length (fun g v wx => ∃ (i : Nat) (st : Rd), i ≤ Q.length ∧ v = .int .i64 (i : Int) ∧ i + g = Q.length ∧ Aside0 (goL LS 0 Rd.none = goL (LS.drop i) i st) ∧ Aside0 (RdIs P st wx) ∧ Aside0 (InvR st i) ∧ Aside0 (Below P W1 wx)))
    case atStart => exact ⟨0, Rd.none, by omega, rfl, by omega, ⟨by rw [List.drop_zero]⟩, HP, ⟨⟨Nat.le_refl _, Nat.le_refl _, rfl, by simp [Rd.none]⟩⟩, HBP⟩
    case round =>
      (clear HP HBP); (obtain ⟨i, st, hile, rfl, hig, HGO, HRd, HI, HBd⟩ := hrel); (have hBsz := HBd.out.size)
      cases gk with
      | zero =>
        (obtain rfl : i = Q.length := by omega); (have HGO2 : Aside0 (goL LS 0 Rd.none = .inl st) := ⟨by rw [HGO.out, List.drop_of_length_le (by omega)]; rfl⟩); (obtain ⟨vE, vG, vL, hX, hE, hGr, hL⟩ := HRd.out); (have HX := Aside0.mk hX); (have HE := Aside0.mk hE); (have HGr := Aside0.mk hGr); (have HL := Aside0.mk hL); (have hPl := blk_lt hX); (clear hX hE hGr hL HGO)
        cases hbg : st.bg with
        | false =>
          have b5 : wr.cell? ⟨P, 5, none⟩ = some (.bool false) := by rw [← hbg]; exact (blk_cell HX.out 5).trans rfl
          have HNO : Aside0 (parseF s = bad 3 ((Q.length : Int) + 1)) := ⟨by
            (unfold parseF); (rw [if_neg (by omega), HLS.out, HGO2.out]); (unfold endL); (dsimp only); (rw [if_pos hbg, hLn])
            first | done | rfl⟩
          (have hx39 := (HBd.out.block _ hQ0).trans HX39.out); (have hx43 := (HBd.out.block _ hQ1).trans HX43.out); (have HBw : Aside0 (Below w.heap.size w wr) := ⟨HB1.out.trans (HBd.out.mono hPw)⟩); (clear hbg); (have d0 := blk_cell hx39 0); (have d1 := blk_cell hx39 1); (have d2 := blk_cell hx39 2); (have d3 := blk_cell hx39 3); (have d4 := blk_cell hx39 4); (have f0 := blk_frozen hx39 0); (have f1 := blk_frozen hx39 1); (have f2 := blk_frozen hx39 2); (have f3 := blk_frozen hx39 3); (have f4 := blk_frozen hx39 4); (have e0 := blk_cell hx43 0); (have e1 := blk_cell hx43 1); (have g0 := blk_frozen hx43 0); (have g1 := blk_frozen hx43 1); (go_wp2); (repeat ((first | go_step3 | (rw [Exit.noGoto_normal]; (try simp only [Exit.inBlock, Exit.then]))); go_wp2)); (have hH := H.out); (rw [HNO.out] at hH); (simp only [bad, Prod.mk.injEq] at hH); (obtain ⟨rfl, rfl, rfl, rfl, rfl, rfl, rfl⟩ := hH); (try (rw [Exit.noGoto_ret]; (try simp only [Exit.inBlock, Exit.then])))
          exact pf_bad w _ _ _ _ hx39 hx43 HBw.out rfl rfl rfl
        | true =>
          (obtain ⟨AE, cE, rfl⟩ := Kd.S_slice HE.out); (obtain ⟨AG, cG, rfl⟩ := Kd.R_slice HGr.out); (obtain ⟨AL, cL, rfl⟩ := Kd.R_slice HL.out)
          have HEND : Aside0 (parseF s = match badE st.es st.ls with | some (e, n) => bad e n | none => (st.es, st.gs, st.b1, st.b2, st.b3, 0, 0)) := ⟨by
            (unfold parseF); (rw [if_neg (by omega), HLS.out, HGO2.out]); (unfold endL); (dsimp only); (rw [if_neg (by rw [hbg]; decide)])
            cases badE st.es st.ls <;> rfl⟩
          (have hel := HI.out.es); (have b5 : wr.cell? ⟨P, 5, none⟩ = some (.bool true) := by rw [← hbg]; exact (blk_cell HX.out 5).trans rfl); (have b0 : wr.cell? ⟨P, 0, none⟩ = some (.slice AE st.es.length cE) := (blk_cell HX.out 0).trans rfl); (clear hbg HGO2); (go_wp2_with fail); (repeat ((first | go_step3 | (rw [Exit.noGoto_normal]; (try simp only [Exit.inBlock, Exit.then]))); go_wp2_with fail)); (clear b5 b0); (go_loopg [80] st.es.length (fun g v wx => ∃ i : Nat, i ≤ st.es.length ∧ v = .int .i64 (i : Int) ∧ i + g = st.es.length ∧ Aside0 (badE st.es st.ls = badE (st.es.drop i) (st.ls.drop i)) ∧ Aside0 (Below wr.heap.size wr wx)))
          case atStart => exact ⟨0, by omega, rfl, by omega, ⟨by rw [List.drop_zero, List.drop_zero]⟩, ⟨Below.refl _ _⟩⟩
          case round =>
            (obtain ⟨i, hile, rfl, hig, HBE, HBL⟩ := hrel); (have hszl := HBL.out.size); (have HXl := Aside0.mk ((HBL.out.block _ hPl).trans HX.out)); (have HEl := Aside0.mk (Kd.S_below HE.out HBL.out)); (have HGl := Aside0.mk (Kd.R_below HGr.out HBL.out)); (have HLl := Aside0.mk (Kd.R_below HL.out HBL.out)); (have hx39 := (HBL.out.block _ (by omega)).trans ((HBd.out.block _ hQ0).trans HX39.out)); (have hx43 := (HBL.out.block _ (by omega)).trans ((HBd.out.block _ hQ1).trans HX43.out)); (have HBw : Aside0 (Below w.heap.size w wr) := ⟨(HB1.out.trans (HBd.out.mono hPw)).trans (HBL.out.mono (by omega))⟩); (clear HX HE HGr HL)
            cases gk with
            | zero =>
              obtain rfl : i = st.es.length := by omega
              have HYES : Aside0 (parseF s = (st.es, st.gs, st.b1, st.b2, st.b3, 0, 0)) := ⟨by
                rw [HEND.out, HBE.out, List.drop_of_length_le (Nat.le_refl _)]
                rfl⟩
              (have c0 := blk_cell HXl.out 0); (have c1' := blk_cell HXl.out 1); (have c2' := blk_cell HXl.out 2); (have c3' := blk_cell HXl.out 3); (have c4' := blk_cell HXl.out 4); (have d0 := blk_cell hx39 0); (have d1 := blk_cell hx39 1); (have d2 := blk_cell hx39 2); (have d3 := blk_cell hx39 3); (have d4 := blk_cell hx39 4); (have f0 := blk_frozen hx39 0); (have f1 := blk_frozen hx39 1); (have f2 := blk_frozen hx39 2); (have f3 := blk_frozen hx39 3); (have f4 := blk_frozen hx39 4); (have e0 := blk_cell hx43 0); (have e1 := blk_cell hx43 1); (have g0 := blk_frozen hx43 0); (have g1 := blk_frozen hx43 1); (go_wp2); (repeat ((first | go_step3 | (rw [Exit.noGoto_normal]; (try simp only [Exit.inBlock, Exit.then]))); go_wp2)); (have hH := H.out); (rw [HYES.out] at hH); (simp only [Prod.mk.injEq] at hH); (obtain ⟨rfl, rfl, rfl, rfl, rfl, rfl, rfl⟩ := hH); (try (rw [Exit.noGoto_ret]; (try simp only [Exit.inBlock, Exit.then]))); (refine pf_end w wr _ _ _ _ _ _ _ _ (.slice AE st.es.length cE) (.slice AG st.gs.length cG) st.b1 st.b2 st.b3 0 0 hx39 hx43 HBw.out rfl rfl rfl _ (fun W' hm hW' => ⟨_, _, rfl, ?_, ?_, hW'⟩))
              · exact Kd.S_mono (Kd.S_lower (Kd.S_move (Kd.S_bound HEl.out) (fun k hk => hm k (by have := hk.2.1; omega) (by have := hk.2.1; omega))) (by omega)) (fun _ _ => trivial)
              · exact Kd.R_mono (Kd.R_lower (Kd.R_move (Kd.R_bound HGl.out) (fun k hk => hm k (by have := hk.2.1; omega) (by have := hk.2.1; omega))) (by omega)) (fun _ _ => trivial)
            | succ g =>
              (have hi : i < st.es.length := by omega); (have hiL2 : i < st.ls.length := by have := HI.out.ls; omega); (obtain ⟨ad2, B0, d0, B1, d1, ead, hx0, hx1, hl0, hi0, hl1, hi1⟩ := at_T49 (Kd.S_reads' HEl.out).2.2 (i : Int) (by omega) (by omega)); (cases ead); (obtain ⟨x, hx⟩ : ∃ x, st.es[i]'hi = x := ⟨_, rfl⟩); (obtain ⟨m, hm⟩ : ∃ m, st.ls[i]'hiL2 = m := ⟨_, rfl⟩); (rw [rdX_at st.es i hi, hx] at hx0 hx1 hl0 hi0 hl1 hi1); (rw [Int.toNat_natCast] at hx0 hx1); (have hxm : x.f1.length ≤ 100000 := HI.out.el x (by rw [← hx]; exact List.getElem_mem hi)); (have hd1 : st.es.drop i = x :: st.es.drop (i + 1) := by rw [← hx]; exact List.drop_eq_getElem_cons hi); (have hd2 : st.ls.drop i = m :: st.ls.drop (i + 1) := by rw [← hm]; exact List.drop_eq_getElem_cons hiL2); (have HC1 := Aside0.mk hi1); (obtain ⟨K, hK⟩ := checkAll_ev x.f1 (by omega)); (have CK := Aside0.mk (hK K (Nat.le_refl _))); (obtain ⟨E, hE⟩ : ∃ E, errE x.f1 = E := ⟨_, rfl⟩); (have HEE := Aside0.mk hE); (have HBE2 : Aside0 (badE st.es st.ls = if E = 0 then badE (st.es.drop (i + 1)) (st.ls.drop (i + 1)) else some (E, m)) := ⟨by rw [HBE.out, hd1, hd2, badE, hE]⟩); (have q4 : (0 ≤ (i : Int)) = True := eq_true (by omega)); (have q5 : ((i : Int) < (st.es.length : Int)) = True := eq_true (by omega)); (have q6 : ((i : Int) < (st.ls.length : Int)) = True := eq_true (by omega)); (clear hi0 hi1 hd1 hd2 hx hK hE HBE); (go_wp2_with fail); (repeat ((first | go_step3 | (rw [Exit.noGoto_normal]; (try simp only [Exit.inBlock, Exit.then]))); go_wp2_with fail)); (refine (element_checkAll.calls K B1 d1 x.f1 E _ (Kd.C_alloc HC1.out _) hl1 (CK.out.trans (congrArg some HEE.out))).mono ?_); (rintro e W5 ⟨rfl, hb⟩); (have hbr : Below wr.heap.size wr W5 := (below_alloc (Below.refl _ _) _).trans (hb.mono (by simp))); (have HBR := Aside0.mk hbr); (clear hb hbr hx0 hx1 CK HC1); (by_cases he : E = 0)
              · (have heb : (E != 0) = false := bne_eq_false_iff_eq.2 he); (have HBE3 : Aside0 (badE st.es st.ls = badE (st.es.drop (i + 1)) (st.ls.drop (i + 1))) := ⟨by rw [HBE2.out, if_pos he]⟩); (have HBL2 := Aside0.mk (HBL.out.trans (HBR.out.mono hszl))); (clear HBE2 HBL HBR); (go_wp2_with fail); (repeat ((first | go_step3 | (rw [Exit.noGoto_normal]; (try simp only [Exit.inBlock, Exit.then]))); go_wp2_with fail)); (go_roundg g)
                case measure => omega
                case rel => exact ⟨i + 1, by omega, by simp, by omega, HBE3, HBL2⟩
              · (have heb : (E != 0) = true := bne_iff_ne.2 he); (have HNO : Aside0 (parseF s = bad E m) := ⟨by rw [HEND.out, HBE2.out, if_neg he]⟩); (have hx39' := (HBR.out.block _ (blk_lt hx39)).trans hx39); (have hx43' := (HBR.out.block _ (blk_lt hx43)).trans hx43); (have HBz : Aside0 (Below w.heap.size w W5) := ⟨HBw.out.trans (HBR.out.mono HBw.out.size)⟩); (have HX5 := (HBR.out.block _ (blk_lt HXl.out)).trans HXl.out); (have kL : W5.cell? ⟨P, 6, none⟩ = some (.slice AL st.ls.length cL) := (blk_cell HX5 6).trans rfl); (obtain ⟨lad, el, km⟩ := Kd.at_int (Kd.R_reads' (Kd.R_below HLl.out HBR.out)).2.2 (i : Int) (by omega) (by omega)); (cases el); (have hlb := Kd.R_base HLl.out lad.block rfl); (have hab : (lad.add i).block = lad.block := by unfold Addr.add; split <;> rfl)
                have km2 : W5.cell? (lad.add i) = some (.int .i64 m) := by
                  (rw [Int.toNat_natCast, rdI_at st.ls i hiL2, hm] at km); (exact km)
                (clear hx39 hx43 HX5 km HBE2 HEND hm); (have hx39 := hx39'); (have hx43 := hx43'); (have km := km2); (clear hx39' hx43' km2); (go_wp2_with fail); (repeat ((first | go_step3 | (rw [Exit.noGoto_normal]; (try simp only [Exit.inBlock, Exit.then]))); go_wp2_with fail)); (have hx39' := blk_drew hx39); (have hx43' := blk_drew hx43); (have HBz' := Aside0.mk (below_drew HBz.out)); (clear hx39 hx43 HBz); (have hx39 := hx39'); (have hx43 := hx43'); (have HBz := HBz'); (clear hx39' hx43' HBz'); (replace kL : W5.drew.cell? ⟨P, 6, none⟩ = some (.slice (some lad) st.ls.length cL) := kL); (replace km : W5.drew.cell? (lad.add i) = some (.int .i64 m) := km); (refine start_ (n := 12) (S := fun w' => w'.cell? ⟨P, 6, none⟩ = some (.slice (some lad) st.ls.length cL) ∧ w'.cell? (lad.add i) = some (.int .i64 m)) (ds := [11]) #[false, false, false, false, false, false, false, false, false, false, false, false] (by kernel_rfl) rfl rfl ⟨kL, km⟩ (fun hHeld => ?_); refine with_tabW element_ParseFile.tab24 element_ParseFile.bits24 (fun HT_ HW_ => ?_)); (generalize W5.drew = W6 at kL km hx39 hx43 HBz hHeld ⊢); (refine pure_ (i := 0) (N := some 90) (v := ?_) (a' := ?_) #[true, false, false, false, false, false, false, false, false, false, false, false] rfl rfl (any_of HT_.out (by kernel_rfl)) (fun _ _ _ h => h) (Or.inl ⟨by rfl, ?_⟩) ?_ ?_); (rotate_left)
                · (intro w'); (go_simp); (with_reducible rfl)
                rotate_left
                · (simp only [Act.put, List.setIfInBounds_toArray, List.set_cons_zero, List.set_cons_succ, i64_w, i32_w]); (rfl)
                (refine pure_ (i := 1) (N := some 91) (v := ?_) (a' := ?_) #[true, true, false, false, false, false, false, false, false, false, false, false] rfl rfl (any_of HT_.out (by kernel_rfl)) (fun _ _ _ h => h) (Or.inl ⟨by rfl, ?_⟩) ?_ ?_); (rotate_left)
                · (intro w'); (go_simp); (with_reducible rfl)
                rotate_left
                · (simp only [Act.put, List.setIfInBounds_toArray, List.set_cons_zero, List.set_cons_succ, i64_w, i32_w]); (rfl)
                (refine pure_ (i := 2) (N := some 92) (v := ?_) (a' := ?_) #[true, true, true, false, false, false, false, false, false, false, false, false] rfl rfl (any_of HT_.out (by kernel_rfl)) (fun _ _ _ h => h) (Or.inl ⟨by rfl, ?_⟩) ?_ ?_); (rotate_left)
                · (intro w'); (go_simp); (with_reducible rfl)
                rotate_left
                · (simp only [Act.put, List.setIfInBounds_toArray, List.set_cons_zero, List.set_cons_succ, i64_w, i32_w]); (rfl)
                (refine pure_ (i := 3) (N := some 93) (v := ?_) (a' := ?_) #[true, true, true, true, false, false, false, false, false, false, false, false] rfl rfl (any_of HT_.out (by kernel_rfl)) (fun _ _ _ h => h) (Or.inl ⟨by rfl, ?_⟩) ?_ ?_); (rotate_left)
                · (intro w'); (go_simp); (with_reducible rfl)
                rotate_left
                · (simp only [Act.put, List.setIfInBounds_toArray, List.set_cons_zero, List.set_cons_succ, i64_w, i32_w]); (rfl)
                (refine pure_ (i := 4) (N := some 94) (v := ?_) (a' := ?_) #[true, true, true, true, true, false, false, false, false, false, false, false] rfl rfl (any_of HT_.out (by kernel_rfl)) (fun _ _ _ h => h) (Or.inl ⟨by rfl, ?_⟩) ?_ ?_); (rotate_left)
                · (intro w'); (go_simp); (with_reducible rfl)
                rotate_left
                · (simp only [Act.put, List.setIfInBounds_toArray, List.set_cons_zero, List.set_cons_succ, i64_w, i32_w]); (rfl)
                (refine take_ (i := 5) (N := some 95) (v := ?_) (a' := ?_) #[true, true, true, true, true, true, false, false, false, false, false, false] rfl rfl (take_ofW HT_.out HW_.out (by kernel_rfl)) (fun _ _ _ h => h) (Or.inl ⟨by rfl, ?_⟩) hHeld ?_ ?_); (rotate_left)
                · (rintro w' ⟨s0, s1⟩); (go_simp); (with_reducible rfl)
                rotate_left
                · (simp only [Act.put, List.setIfInBounds_toArray, List.set_cons_zero, List.set_cons_succ, i64_w, i32_w]); (rfl)
                (refine pure_ (i := 6) (N := some 96) (v := ?_) (a' := ?_) #[true, true, true, true, true, true, true, false, false, false, false, false] rfl rfl (any_of HT_.out (by kernel_rfl)) (fun _ _ _ h => h) (Or.inl ⟨by rfl, ?_⟩) ?_ ?_); (rotate_left)
                · (intro w'); (go_simp); (with_reducible rfl)
                rotate_left
                · (simp only [Act.put, List.setIfInBounds_toArray, List.set_cons_zero, List.set_cons_succ, i64_w, i32_w]); (rfl)
                (refine pure_ (i := 7) (N := some 97) (v := ?_) (a' := ?_) #[true, true, true, true, true, true, true, true, false, false, false, false] rfl rfl (any_of HT_.out (by kernel_rfl)) (fun _ _ _ h => h) (Or.inl ⟨by rfl, ?_⟩) ?_ ?_); (rotate_left)
                · (intro w'); (go_simp); (with_reducible rfl)
                rotate_left
                · (simp only [Act.put, List.setIfInBounds_toArray, List.set_cons_zero, List.set_cons_succ, i64_w, i32_w]); (rfl)
                (refine take_ (i := 8) (N := some 98) (v := ?_) (a' := ?_) #[true, true, true, true, true, true, true, true, true, false, false, false] rfl rfl (take_ofW HT_.out HW_.out (by kernel_rfl)) (fun _ _ _ h => h) (Or.inl ⟨by rfl, ?_⟩) hHeld ?_ ?_); (rotate_left)
                · (rintro w' ⟨s0, s1⟩); (go_simp); (with_reducible rfl)
                rotate_left
                · (simp only [Act.put, List.setIfInBounds_toArray, List.set_cons_zero, List.set_cons_succ, i64_w, i32_w]); (rfl)
                (refine pure_ (i := 9) (N := some 99) (v := ?_) (a' := ?_) #[true, true, true, true, true, true, true, true, true, true, false, false] rfl rfl (any_of HT_.out (by kernel_rfl)) (fun _ _ _ h => h) (Or.inl ⟨by rfl, ?_⟩) ?_ ?_); (rotate_left)
                · (intro w'); (go_simp); (with_reducible rfl)
                rotate_left
                · (simp only [Act.put, List.setIfInBounds_toArray, List.set_cons_zero, List.set_cons_succ, i64_w, i32_w]); (rfl)
                (refine one_ (i := 10) (N := none) #[true, true, true, true, true, true, true, true, true, true, true, false] rfl rfl (one_of HT_.out (by kernel_rfl)) (by decide) (fun K hK => ?_)); (have s0 := blk_cell hx39 0); (have s1 := blk_cell hx39 1); (have s2 := blk_cell hx39 2); (have s3 := blk_cell hx39 3); (have s4 := blk_cell hx39 4); (have f0 := blk_frozen hx39 0); (have f1 := blk_frozen hx39 1); (have f2 := blk_frozen hx39 2); (have f3 := blk_frozen hx39 3); (have f4 := blk_frozen hx39 4); (refine skip_ (w1 := ?_) (by rfl) rfl ?_ ?_); (rotate_left)
                · (go_simp); (rfl)
                refine hK.out _ _ ⟨?_, ?_⟩ (fun hHeld => ?_)
                · rw [cell_far, cell_far, cell_far, cell_far, cell_far]
                  · exact kL
                  all_goals (show P ≠ w.heap.size; omega)
                · rw [cell_far, cell_far, cell_far, cell_far, cell_far]
                  · exact km
                  all_goals (show (lad.add i).block ≠ w.heap.size; rw [hab]; omega)
                (clear hK K); (clear s0 s1 s2 s3 s4 f0 f1 f2 f3 f4); (have hf := blk_far (p := ⟨w.heap.size, 4, none⟩) (blk_far (p := ⟨w.heap.size, 3, none⟩) (blk_far (p := ⟨w.heap.size, 2, none⟩) (blk_far (p := ⟨w.heap.size, 1, none⟩) (blk_far (p := ⟨w.heap.size, 0, none⟩) hx43 (by simp) (.slice none 0 0)) (by simp) (.slice none 0 0)) (by simp) (.int .i64 0)) (by simp) (.int .i64 0)) (by simp) (.int .i64 0)); (refine last_ (i := 11) (N := none) #[true, true, true, true, true, true, true, true, true, true, true, true] rfl rfl (one_of HT_.out (by kernel_rfl)) (by decide) (fun K hK => ?_)); (have s0 := blk_cell hf 0); (have s1 := blk_cell hf 1); (have f0 := blk_frozen hf 0); (have f1 := blk_frozen hf 1); (refine skip_ (w1 := ?_) (by rfl) rfl ?_ ?_); (rotate_left)
                · (go_simp); (rfl)
                (refine hK.out _ _ ?_); (clear hK K); (refine done_ (done_of HT_.out (by kernel_rfl)) ?_); (go_wp2); (repeat ((first | go_step3 | (rw [Exit.noGoto_normal]; (try simp only [Exit.inBlock, Exit.then]))); go_wp2)); (have hH := H.out); (rw [HNO.out] at hH); (simp only [bad, Prod.mk.injEq] at hH); (obtain ⟨rfl, rfl, rfl, rfl, rfl, rfl, rfl⟩ := hH); (try (rw [Exit.noGoto_ret]; (try simp only [Exit.inBlock, Exit.then])))
                exact pf_bad w _ _ _ _ hx39 hx43 HBz.out rfl rfl rfl
      | succ g =>
        (have hi : i < Q.length := by omega); (have hiL : i < LS.length := by omega); (obtain ⟨ad2, ead, hxi⟩ := Kd.at_string (Kd.C_below HC.out (show Below W1.heap.size W1 wr by rw [hP]; exact HBd.out)) (i : Int) (by omega) (by omega)); (cases ead); (obtain ⟨x, hx⟩ : ∃ x, LS[i] = x := ⟨_, rfl⟩); (have hrd : rdOf ByteArray.empty (LS.map ofL) (i : Int) = ofL x := by rw [rdc_at LS i hiL, hx]); (rw [hrd, Int.toNat_natCast] at hxi); (have hdr : LS.drop i = x :: LS.drop (i + 1) := by rw [← hx]; exact List.drop_eq_getElem_cons hiL); (have hxl : x.length ≤ 65536 := HLM.out x (by rw [← hx]; exact List.getElem_mem hiL)); (clear hx hrd); (have q2 : (0 ≤ (i : Int)) = True := eq_true (by omega)); (have q3 : ((i : Int) < ((Q.length : Nat) : Int)) = True := eq_true (by omega)); (obtain ⟨⟨Ca, Cb, Cf⟩, hcut⟩ : ∃ C, Lib.cut x [35] = C := ⟨_, rfl⟩)
        have HCF : Aside0 (strings_Cut.f (ofL x) (⟨#[35]⟩ : ByteArray) = some (ofL Ca, ofL Cb, Cf)) := ⟨by
          (have := cut_f x [35] (by omega)); (rw [hcut] at this)
          exact this⟩
        (have hGx := Aside0.mk (GW.below HG.out (HB1.out.trans (HBd.out.mono hPw)))); (go_wp2_with fail); (repeat ((first | go_step3 | (rw [Exit.noGoto_normal]; (try simp only [Exit.inBlock, Exit.then]))); go_wp2_with fail)); (refine (strings_Cut.calls _ _ _ _ _ _ HCF.out hGx.out).mono ?_); (rintro e W2 ⟨rfl, hb⟩); (have HRd2 := Aside0.mk (RdIs_below HRd.out hb)); (have HBd2 : Aside0 (Below P W1 W2) := ⟨HBd.out.trans (hb.mono (by omega))⟩); (clear HRd HBd hb hGx HCF); (have HRd := HRd2); (have HBd := HBd2); (clear HRd2 HBd2)
        cases hCf : Cf with
        | false =>
          (have hBl : bareL x = Ca := by unfold bareL; rw [hcut, hCf]; rfl); (clear hcut hCf); (by_cases hD : Ca = [])
          · (have e1 : (Ca == []) = true := by rw [hD]; rfl); (have e2 : decide (Ca = []) = true := decide_eq_true hD); (have HST : Aside0 (goL LS 0 Rd.none = goL (LS.drop (i + 1)) (i + 1) st) := ⟨by rw [HGO.out, hdr, goL, if_pos (hBl.trans hD)]⟩); (clear hdr hBl hxi); (go_wp2_with fail); (repeat ((first | go_step3 | (rw [Exit.noGoto_normal]; (try simp only [Exit.inBlock, Exit.then]))); go_wp2_with fail)); (go_roundg g)
            case measure => omega
            case rel => exact ⟨i + 1, st, by omega, by simp, by omega, HST, HRd, ⟨InvR_mono HI.out (by omega)⟩, HBd⟩
          · (have e1 : (Ca == []) = false := beq_eq_false_iff_ne.2 hD); (have e2 : decide (Ca = []) = false := decide_eq_false hD); (have hDl : Ca.length ≤ 100000 := by rw [← hBl]; have := bareL_le x; omega); (have hI := HI.out); (have HLC := Aside0.mk (line_calls P st Ca ((i : Int) + 1) W2 hDl HRd.out ⟨by have := hI.es; omega, by have := hI.gs; omega, by have := hI.es; have := hI.ls; omega⟩ (GW.below HG.out (HB1.out.trans (HBd.out.mono hPw))))); (clear hI hxi); (go_wp2_with fail); (repeat ((first | go_step3 | (rw [Exit.noGoto_normal]; (try simp only [Exit.inBlock, Exit.then]))); go_wp2_with fail)); (refine HLC.out.mono ?_); (clear HLC); (rintro e W4 ⟨rfl, hb, hyes⟩)
            cases hl : lineS st Ca ((i : Int) + 1) with
            | none =>
              have HNO : Aside0 (parseF s = bad 3 ((i : Int) + 1)) := ⟨by
                (unfold parseF); (rw [if_neg (by omega), HLS.out, HGO.out, hdr, goL, hBl, if_neg hD, hl])
                rfl⟩
              (have hx39 := (hb.block _ hQ0).trans ((HBd.out.block _ hQ0).trans HX39.out)); (have hx43 := (hb.block _ hQ1).trans ((HBd.out.block _ hQ1).trans HX43.out)); (have HBw : Aside0 (Below w.heap.size w W4) := ⟨(HB1.out.trans (HBd.out.mono hPw)).trans (hb.mono hPw)⟩); (clear hb hyes hdr hBl hD); (have d0 := blk_cell hx39 0); (have d1 := blk_cell hx39 1); (have d2 := blk_cell hx39 2); (have d3 := blk_cell hx39 3); (have d4 := blk_cell hx39 4); (have f0 := blk_frozen hx39 0); (have f1 := blk_frozen hx39 1); (have f2 := blk_frozen hx39 2); (have f3 := blk_frozen hx39 3); (have f4 := blk_frozen hx39 4); (have e0 := blk_cell hx43 0); (have e1 := blk_cell hx43 1); (have g0 := blk_frozen hx43 0); (have g1 := blk_frozen hx43 1); (go_wp2); (repeat ((first | go_step3 | (rw [Exit.noGoto_normal]; (try simp only [Exit.inBlock, Exit.then]))); go_wp2)); (have hH := H.out); (rw [HNO.out] at hH); (simp only [bad, Prod.mk.injEq] at hH); (obtain ⟨rfl, rfl, rfl, rfl, rfl, rfl, rfl⟩ := hH); (try (rw [Exit.noGoto_ret]; (try simp only [Exit.inBlock, Exit.then])))
              exact pf_bad w _ _ _ _ hx39 hx43 HBw.out rfl rfl rfl
            | some st1 =>
              (have HST : Aside0 (goL LS 0 Rd.none = goL (LS.drop (i + 1)) (i + 1) st1) := ⟨by rw [HGO.out, hdr, goL, hBl, if_neg hD, hl]⟩); (have HRd1 := Aside0.mk (hyes st1 hl)); (have HBd1 : Aside0 (Below P W1 W4) := ⟨HBd.out.trans hb⟩); (have HI1 := Aside0.mk (lineS_inv hl hDl HI.out)); (clear hb hyes hdr hBl hD hl); (go_wp2_with fail); (repeat ((first | go_step3 | (rw [Exit.noGoto_normal]; (try simp only [Exit.inBlock, Exit.then]))); go_wp2_with fail)); (go_roundg g)
              case measure => omega
              case rel => exact ⟨i + 1, st1, by omega, by simp, by omega, HST, HRd1, HI1, HBd1⟩
        | true =>
          (obtain ⟨T, hT⟩ : ∃ T, Lib.trimRightB Ca 32 = T := ⟨_, rfl⟩); (have hBl : bareL x = T := by unfold bareL; rw [hcut, hCf, ← hT]; rfl); (have hcal : Ca.length ≤ x.length := by have := (cut_le x [35]).1; rw [hcut] at this; exact this)
          have HTR : Aside0 (strings_TrimRight.f (ofL Ca) (⟨#[32]⟩ : ByteArray) = some (ofL T)) := ⟨by
            unfold strings_TrimRight.f
            rw [if_pos ⟨by rw [ofL_size]; omega, rfl⟩, ofL_list, hT]⟩
          (clear hcut hCf hT); (go_wp2_with fail); (repeat ((first | go_step3 | (rw [Exit.noGoto_normal]; (try simp only [Exit.inBlock, Exit.then]))); go_wp2_with fail)); (refine (strings_TrimRight.calls _ _ _ _ HTR.out).mono ?_); (rintro e W3 ⟨rfl, hb⟩); (have hsz2 := HBd.out.size); (have HRd2 := Aside0.mk (RdIs_below HRd.out hb)); (have HBd2 : Aside0 (Below P W1 W3) := ⟨HBd.out.trans (hb.mono (by omega))⟩); (clear HRd HBd hb HTR); (have HRd := HRd2); (have HBd := HBd2); (clear HRd2 HBd2); (by_cases hD : T = [])
          · (have e1 : (T == []) = true := by rw [hD]; rfl); (have e2 : decide (T = []) = true := decide_eq_true hD); (have HST : Aside0 (goL LS 0 Rd.none = goL (LS.drop (i + 1)) (i + 1) st) := ⟨by rw [HGO.out, hdr, goL, if_pos (hBl.trans hD)]⟩); (clear hdr hBl hxi); (go_wp2_with fail); (repeat ((first | go_step3 | (rw [Exit.noGoto_normal]; (try simp only [Exit.inBlock, Exit.then]))); go_wp2_with fail)); (go_roundg g)
            case measure => omega
            case rel => exact ⟨i + 1, st, by omega, by simp, by omega, HST, HRd, ⟨InvR_mono HI.out (by omega)⟩, HBd⟩
          · (have e1 : (T == []) = false := beq_eq_false_iff_ne.2 hD); (have e2 : decide (T = []) = false := decide_eq_false hD); (have hDl : T.length ≤ 100000 := by rw [← hBl]; have := bareL_le x; omega); (have hI := HI.out); (have HLC := Aside0.mk (line_calls P st T ((i : Int) + 1) W3 hDl HRd.out ⟨by have := hI.es; omega, by have := hI.gs; omega, by have := hI.es; have := hI.ls; omega⟩ (GW.below HG.out (HB1.out.trans (HBd.out.mono hPw))))); (clear hI hxi); (go_wp2_with fail); (repeat ((first | go_step3 | (rw [Exit.noGoto_normal]; (try simp only [Exit.inBlock, Exit.then]))); go_wp2_with fail)); (refine HLC.out.mono ?_); (clear HLC); (rintro e W4 ⟨rfl, hb, hyes⟩)
            cases hl : lineS st T ((i : Int) + 1) with
            | none =>
              have HNO : Aside0 (parseF s = bad 3 ((i : Int) + 1)) := ⟨by
                (unfold parseF); (rw [if_neg (by omega), HLS.out, HGO.out, hdr, goL, hBl, if_neg hD, hl])
                rfl⟩
              (have hx39 := (hb.block _ hQ0).trans ((HBd.out.block _ hQ0).trans HX39.out)); (have hx43 := (hb.block _ hQ1).trans ((HBd.out.block _ hQ1).trans HX43.out)); (have HBw : Aside0 (Below w.heap.size w W4) := ⟨(HB1.out.trans (HBd.out.mono hPw)).trans (hb.mono hPw)⟩); (clear hb hyes hdr hBl hD); (have d0 := blk_cell hx39 0); (have d1 := blk_cell hx39 1); (have d2 := blk_cell hx39 2); (have d3 := blk_cell hx39 3); (have d4 := blk_cell hx39 4); (have f0 := blk_frozen hx39 0); (have f1 := blk_frozen hx39 1); (have f2 := blk_frozen hx39 2); (have f3 := blk_frozen hx39 3); (have f4 := blk_frozen hx39 4); (have e0 := blk_cell hx43 0); (have e1 := blk_cell hx43 1); (have g0 := blk_frozen hx43 0); (have g1 := blk_frozen hx43 1); (go_wp2); (repeat ((first | go_step3 | (rw [Exit.noGoto_normal]; (try simp only [Exit.inBlock, Exit.then]))); go_wp2)); (have hH := H.out); (rw [HNO.out] at hH); (simp only [bad, Prod.mk.injEq] at hH); (obtain ⟨rfl, rfl, rfl, rfl, rfl, rfl, rfl⟩ := hH); (try (rw [Exit.noGoto_ret]; (try simp only [Exit.inBlock, Exit.then])))
              exact pf_bad w _ _ _ _ hx39 hx43 HBw.out rfl rfl rfl
            | some st1 =>
              (have HST : Aside0 (goL LS 0 Rd.none = goL (LS.drop (i + 1)) (i + 1) st1) := ⟨by rw [HGO.out, hdr, goL, hBl, if_neg hD, hl]⟩); (have HRd1 := Aside0.mk (hyes st1 hl)); (have HBd1 : Aside0 (Below P W1 W4) := ⟨HBd.out.trans hb⟩); (have HI1 := Aside0.mk (lineS_inv hl hDl HI.out)); (clear hb hyes hdr hBl hD hl); (go_wp2_with fail); (repeat ((first | go_step3 | (rw [Exit.noGoto_normal]; (try simp only [Exit.inBlock, Exit.then]))); go_wp2_with fail)); (go_roundg g)
              case measure => omega
              case rel => exact ⟨i + 1, st1, by omega, by simp, by omega, HST, HRd1, HI1, HBd1⟩
  · (have z1 : (z == []) = false := beq_eq_false_iff_ne.2 hz); (have z2 : decide (z = []) = false := decide_eq_false hz); (have HLS : Aside0 (linesOf s = Q ++ [z]) := ⟨by rw [linesOf_of HPS.out, if_neg hz]⟩); (obtain ⟨LS, hLS⟩ : ∃ LS, Q ++ [z] = LS := ⟨_, rfl⟩); (have hLn : LS.length = Q.length + 1 := by rw [← hLS]; simp); (have HLM : Aside0 (∀ x ∈ LS, x.length ≤ 65536) := ⟨fun x hx => HPM.out x (by rw [hLS]; exact hx)⟩); (rw [hLS] at HLS HCC); (have HC : Aside0 (Kd.C Kd.string W1 (some ad) (Q.length + 1) (LS.map ofL)) := ⟨HCC.out⟩); (have hc2 : Q.length + 1 ≤ c1 := hc1); (clear hLS hz); (obtain ⟨P, hP⟩ : ∃ P, W1.heap.size = P := ⟨_, rfl⟩); (have HP : Aside0 (RdIs P Rd.none (W1.alloc (.cells #[.slice none 0 0, .slice none 0 0, .int .i64 0, .int .i64 0, .int .i64 0, .bool false, .slice none 0 0] 72))) := ⟨by rw [← hP]; exact ⟨_, _, _, heap_alloc_new _ _, Kd.S_nil _ _ _ _ _, Kd.R_nil _ _ _ _ _, Kd.R_nil _ _ _ _ _⟩⟩); (have HBP : Aside0 (Below P W1 (W1.alloc (.cells #[.slice none 0 0, .slice none 0 0, .int .i64 0, .int .i64 0, .int .i64 0, .bool false, .slice none 0 0] 72))) := ⟨by rw [← hP]; exact below_alloc (Below.refl _ _) _⟩); (have hQ0 : w.heap.size < P := by omega); (have hQ1 : w.heap.size + 1 < P := by omega); (have hPw : w.heap.size ≤ P := by omega); (go_wp2_with fail); (repeat ((first | go_step3 | (rw [Exit.noGoto_normal]; (try simp only [Exit.inBlock, Exit.then]))); go_wp2_with fail)); (go_loopg [37] (Q.length + 1) (fun g v wx => ∃ (i : Nat) (st : Rd), i ≤ (Q.length + 1) ∧ v = .int .i64 (i : Int) ∧ i + g = (Q.length + 1) ∧ Aside0 (goL LS 0 Rd.none = goL (LS.drop i) i st) ∧ Aside0 (RdIs P st wx) ∧ Aside0 (InvR st i) ∧ Aside0 (Below P W1 wx)))
    case atStart => exact ⟨0, Rd.none, by omega, rfl, by omega, ⟨by rw [List.drop_zero]⟩, HP, ⟨⟨Nat.le_refl _, Nat.le_refl _, rfl, by simp [Rd.none]⟩⟩, HBP⟩
    case round =>
      (clear HP HBP); (obtain ⟨i, st, hile, rfl, hig, HGO, HRd, HI, HBd⟩ := hrel); (have hBsz := HBd.out.size)
      cases gk with
      | zero =>
        (obtain rfl : i = (Q.length + 1) := by omega); (have HGO2 : Aside0 (goL LS 0 Rd.none = .inl st) := ⟨by rw [HGO.out, List.drop_of_length_le (by omega)]; rfl⟩); (obtain ⟨vE, vG, vL, hX, hE, hGr, hL⟩ := HRd.out); (have HX := Aside0.mk hX); (have HE := Aside0.mk hE); (have HGr := Aside0.mk hGr); (have HL := Aside0.mk hL); (have hPl := blk_lt hX); (clear hX hE hGr hL HGO)
        cases hbg : st.bg with
        | false =>
          have b5 : wr.cell? ⟨P, 5, none⟩ = some (.bool false) := by rw [← hbg]; exact (blk_cell HX.out 5).trans rfl
          have HNO : Aside0 (parseF s = bad 3 (((Q.length + 1) : Int) + 1)) := ⟨by
            (unfold parseF); (rw [if_neg (by omega), HLS.out, HGO2.out]); (unfold endL); (dsimp only); (rw [if_pos hbg, hLn])
            first | done | rfl⟩
          (have hx39 := (HBd.out.block _ hQ0).trans HX39.out); (have hx43 := (HBd.out.block _ hQ1).trans HX43.out); (have HBw : Aside0 (Below w.heap.size w wr) := ⟨HB1.out.trans (HBd.out.mono hPw)⟩); (clear hbg); (have d0 := blk_cell hx39 0); (have d1 := blk_cell hx39 1); (have d2 := blk_cell hx39 2); (have d3 := blk_cell hx39 3); (have d4 := blk_cell hx39 4); (have f0 := blk_frozen hx39 0); (have f1 := blk_frozen hx39 1); (have f2 := blk_frozen hx39 2); (have f3 := blk_frozen hx39 3); (have f4 := blk_frozen hx39 4); (have e0 := blk_cell hx43 0); (have e1 := blk_cell hx43 1); (have g0 := blk_frozen hx43 0); (have g1 := blk_frozen hx43 1); (go_wp2); (repeat ((first | go_step3 | (rw [Exit.noGoto_normal]; (try simp only [Exit.inBlock, Exit.then]))); go_wp2)); (have hH := H.out); (rw [HNO.out] at hH); (simp only [bad, Prod.mk.injEq] at hH); (obtain ⟨rfl, rfl, rfl, rfl, rfl, rfl, rfl⟩ := hH); (try (rw [Exit.noGoto_ret]; (try simp only [Exit.inBlock, Exit.then])))
          exact pf_bad w _ _ _ _ hx39 hx43 HBw.out rfl rfl rfl
        | true =>
          (obtain ⟨AE, cE, rfl⟩ := Kd.S_slice HE.out); (obtain ⟨AG, cG, rfl⟩ := Kd.R_slice HGr.out); (obtain ⟨AL, cL, rfl⟩ := Kd.R_slice HL.out)
          have HEND : Aside0 (parseF s = match badE st.es st.ls with | some (e, n) => bad e n | none => (st.es, st.gs, st.b1, st.b2, st.b3, 0, 0)) := ⟨by
            (unfold parseF); (rw [if_neg (by omega), HLS.out, HGO2.out]); (unfold endL); (dsimp only); (rw [if_neg (by rw [hbg]; decide)])
            cases badE st.es st.ls <;> rfl⟩
          (have hel := HI.out.es); (have b5 : wr.cell? ⟨P, 5, none⟩ = some (.bool true) := by rw [← hbg]; exact (blk_cell HX.out 5).trans rfl); (have b0 : wr.cell? ⟨P, 0, none⟩ = some (.slice AE st.es.length cE) := (blk_cell HX.out 0).trans rfl); (clear hbg HGO2); (go_wp2_with fail); (repeat ((first | go_step3 | (rw [Exit.noGoto_normal]; (try simp only [Exit.inBlock, Exit.then]))); go_wp2_with fail)); (clear b5 b0); (go_loopg [80] st.es.length (fun g v wx => ∃ i : Nat, i ≤ st.es.length ∧ v = .int .i64 (i : Int) ∧ i + g = st.es.length ∧ Aside0 (badE st.es st.ls = badE (st.es.drop i) (st.ls.drop i)) ∧ Aside0 (Below wr.heap.size wr wx)))
          case atStart => exact ⟨0, by omega, rfl, by omega, ⟨by rw [List.drop_zero, List.drop_zero]⟩, ⟨Below.refl _ _⟩⟩
          case round =>
            (obtain ⟨i, hile, rfl, hig, HBE, HBL⟩ := hrel); (have hszl := HBL.out.size); (have HXl := Aside0.mk ((HBL.out.block _ hPl).trans HX.out)); (have HEl := Aside0.mk (Kd.S_below HE.out HBL.out)); (have HGl := Aside0.mk (Kd.R_below HGr.out HBL.out)); (have HLl := Aside0.mk (Kd.R_below HL.out HBL.out)); (have hx39 := (HBL.out.block _ (by omega)).trans ((HBd.out.block _ hQ0).trans HX39.out)); (have hx43 := (HBL.out.block _ (by omega)).trans ((HBd.out.block _ hQ1).trans HX43.out)); (have HBw : Aside0 (Below w.heap.size w wr) := ⟨(HB1.out.trans (HBd.out.mono hPw)).trans (HBL.out.mono (by omega))⟩); (clear HX HE HGr HL)
            cases gk with
            | zero =>
              obtain rfl : i = st.es.length := by omega
              have HYES : Aside0 (parseF s = (st.es, st.gs, st.b1, st.b2, st.b3, 0, 0)) := ⟨by
                rw [HEND.out, HBE.out, List.drop_of_length_le (Nat.le_refl _)]
                rfl⟩
              (have c0 := blk_cell HXl.out 0); (have c1' := blk_cell HXl.out 1); (have c2' := blk_cell HXl.out 2); (have c3' := blk_cell HXl.out 3); (have c4' := blk_cell HXl.out 4); (have d0 := blk_cell hx39 0); (have d1 := blk_cell hx39 1); (have d2 := blk_cell hx39 2); (have d3 := blk_cell hx39 3); (have d4 := blk_cell hx39 4); (have f0 := blk_frozen hx39 0); (have f1 := blk_frozen hx39 1); (have f2 := blk_frozen hx39 2); (have f3 := blk_frozen hx39 3); (have f4 := blk_frozen hx39 4); (have e0 := blk_cell hx43 0); (have e1 := blk_cell hx43 1); (have g0 := blk_frozen hx43 0); (have g1 := blk_frozen hx43 1); (go_wp2); (repeat ((first | go_step3 | (rw [Exit.noGoto_normal]; (try simp only [Exit.inBlock, Exit.then]))); go_wp2)); (have hH := H.out); (rw [HYES.out] at hH); (simp only [Prod.mk.injEq] at hH); (obtain ⟨rfl, rfl, rfl, rfl, rfl, rfl, rfl⟩ := hH); (try (rw [Exit.noGoto_ret]; (try simp only [Exit.inBlock, Exit.then]))); (refine pf_end w wr _ _ _ _ _ _ _ _ (.slice AE st.es.length cE) (.slice AG st.gs.length cG) st.b1 st.b2 st.b3 0 0 hx39 hx43 HBw.out rfl rfl rfl _ (fun W' hm hW' => ⟨_, _, rfl, ?_, ?_, hW'⟩))
              · exact Kd.S_mono (Kd.S_lower (Kd.S_move (Kd.S_bound HEl.out) (fun k hk => hm k (by have := hk.2.1; omega) (by have := hk.2.1; omega))) (by omega)) (fun _ _ => trivial)
              · exact Kd.R_mono (Kd.R_lower (Kd.R_move (Kd.R_bound HGl.out) (fun k hk => hm k (by have := hk.2.1; omega) (by have := hk.2.1; omega))) (by omega)) (fun _ _ => trivial)
            | succ g =>
              (have hi : i < st.es.length := by omega); (have hiL2 : i < st.ls.length := by have := HI.out.ls; omega); (obtain ⟨ad2, B0, d0, B1, d1, ead, hx0, hx1, hl0, hi0, hl1, hi1⟩ := at_T49 (Kd.S_reads' HEl.out).2.2 (i : Int) (by omega) (by omega)); (cases ead); (obtain ⟨x, hx⟩ : ∃ x, st.es[i]'hi = x := ⟨_, rfl⟩); (obtain ⟨m, hm⟩ : ∃ m, st.ls[i]'hiL2 = m := ⟨_, rfl⟩); (rw [rdX_at st.es i hi, hx] at hx0 hx1 hl0 hi0 hl1 hi1); (rw [Int.toNat_natCast] at hx0 hx1); (have hxm : x.f1.length ≤ 100000 := HI.out.el x (by rw [← hx]; exact List.getElem_mem hi)); (have hd1 : st.es.drop i = x :: st.es.drop (i + 1) := by rw [← hx]; exact List.drop_eq_getElem_cons hi); (have hd2 : st.ls.drop i = m :: st.ls.drop (i + 1) := by rw [← hm]; exact List.drop_eq_getElem_cons hiL2); (have HC1 := Aside0.mk hi1); (obtain ⟨K, hK⟩ := checkAll_ev x.f1 (by omega)); (have CK := Aside0.mk (hK K (Nat.le_refl _))); (obtain ⟨E, hE⟩ : ∃ E, errE x.f1 = E := ⟨_, rfl⟩); (have HEE := Aside0.mk hE); (have HBE2 : Aside0 (badE st.es st.ls = if E = 0 then badE (st.es.drop (i + 1)) (st.ls.drop (i + 1)) else some (E, m)) := ⟨by rw [HBE.out, hd1, hd2, badE, hE]⟩); (have q4 : (0 ≤ (i : Int)) = True := eq_true (by omega)); (have q5 : ((i : Int) < (st.es.length : Int)) = True := eq_true (by omega)); (have q6 : ((i : Int) < (st.ls.length : Int)) = True := eq_true (by omega)); (clear hi0 hi1 hd1 hd2 hx hK hE HBE); (go_wp2_with fail); (repeat ((first | go_step3 | (rw [Exit.noGoto_normal]; (try simp only [Exit.inBlock, Exit.then]))); go_wp2_with fail)); (refine (element_checkAll.calls K B1 d1 x.f1 E _ (Kd.C_alloc HC1.out _) hl1 (CK.out.trans (congrArg some HEE.out))).mono ?_); (rintro e W5 ⟨rfl, hb⟩); (have hbr : Below wr.heap.size wr W5 := (below_alloc (Below.refl _ _) _).trans (hb.mono (by simp))); (have HBR := Aside0.mk hbr); (clear hb hbr hx0 hx1 CK HC1); (by_cases he : E = 0)
              · (have heb : (E != 0) = false := bne_eq_false_iff_eq.2 he); (have HBE3 : Aside0 (badE st.es st.ls = badE (st.es.drop (i + 1)) (st.ls.drop (i + 1))) := ⟨by rw [HBE2.out, if_pos he]⟩); (have HBL2 := Aside0.mk (HBL.out.trans (HBR.out.mono hszl))); (clear HBE2 HBL HBR); (go_wp2_with fail); (repeat ((first | go_step3 | (rw [Exit.noGoto_normal]; (try simp only [Exit.inBlock, Exit.then]))); go_wp2_with fail)); (go_roundg g)
                case measure => omega
                case rel => exact ⟨i + 1, by omega, by simp, by omega, HBE3, HBL2⟩
              · (have heb : (E != 0) = true := bne_iff_ne.2 he); (have HNO : Aside0 (parseF s = bad E m) := ⟨by rw [HEND.out, HBE2.out, if_neg he]⟩); (have hx39' := (HBR.out.block _ (blk_lt hx39)).trans hx39); (have hx43' := (HBR.out.block _ (blk_lt hx43)).trans hx43); (have HBz : Aside0 (Below w.heap.size w W5) := ⟨HBw.out.trans (HBR.out.mono HBw.out.size)⟩); (have HX5 := (HBR.out.block _ (blk_lt HXl.out)).trans HXl.out); (have kL : W5.cell? ⟨P, 6, none⟩ = some (.slice AL st.ls.length cL) := (blk_cell HX5 6).trans rfl); (obtain ⟨lad, el, km⟩ := Kd.at_int (Kd.R_reads' (Kd.R_below HLl.out HBR.out)).2.2 (i : Int) (by omega) (by omega)); (cases el); (have hlb := Kd.R_base HLl.out lad.block rfl); (have hab : (lad.add i).block = lad.block := by unfold Addr.add; split <;> rfl)
                have km2 : W5.cell? (lad.add i) = some (.int .i64 m) := by
                  (rw [Int.toNat_natCast, rdI_at st.ls i hiL2, hm] at km); (exact km)
                (clear hx39 hx43 HX5 km HBE2 HEND hm); (have hx39 := hx39'); (have hx43 := hx43'); (have km := km2); (clear hx39' hx43' km2); (go_wp2_with fail); (repeat ((first | go_step3 | (rw [Exit.noGoto_normal]; (try simp only [Exit.inBlock, Exit.then]))); go_wp2_with fail)); (have hx39' := blk_drew hx39); (have hx43' := blk_drew hx43); (have HBz' := Aside0.mk (below_drew HBz.out)); (clear hx39 hx43 HBz); (have hx39 := hx39'); (have hx43 := hx43'); (have HBz := HBz'); (clear hx39' hx43' HBz'); (replace kL : W5.drew.cell? ⟨P, 6, none⟩ = some (.slice (some lad) st.ls.length cL) := kL); (replace km : W5.drew.cell? (lad.add i) = some (.int .i64 m) := km); (refine start_ (n := 12) (S := fun w' => w'.cell? ⟨P, 6, none⟩ = some (.slice (some lad) st.ls.length cL) ∧ w'.cell? (lad.add i) = some (.int .i64 m)) (ds := [11]) #[false, false, false, false, false, false, false, false, false, false, false, false] (by kernel_rfl) rfl rfl ⟨kL, km⟩ (fun hHeld => ?_); refine with_tabW element_ParseFile.tab24 element_ParseFile.bits24 (fun HT_ HW_ => ?_)); (generalize W5.drew = W6 at kL km hx39 hx43 HBz hHeld ⊢); (refine pure_ (i := 0) (N := some 90) (v := ?_) (a' := ?_) #[true, false, false, false, false, false, false, false, false, false, false, false] rfl rfl (any_of HT_.out (by kernel_rfl)) (fun _ _ _ h => h) (Or.inl ⟨by rfl, ?_⟩) ?_ ?_); (rotate_left)
                · (intro w'); (go_simp); (with_reducible rfl)
                rotate_left
                · (simp only [Act.put, List.setIfInBounds_toArray, List.set_cons_zero, List.set_cons_succ, i64_w, i32_w]); (rfl)
                (refine pure_ (i := 1) (N := some 91) (v := ?_) (a' := ?_) #[true, true, false, false, false, false, false, false, false, false, false, false] rfl rfl (any_of HT_.out (by kernel_rfl)) (fun _ _ _ h => h) (Or.inl ⟨by rfl, ?_⟩) ?_ ?_); (rotate_left)
                · (intro w'); (go_simp); (with_reducible rfl)
                rotate_left
                · (simp only [Act.put, List.setIfInBounds_toArray, List.set_cons_zero, List.set_cons_succ, i64_w, i32_w]); (rfl)
                (refine pure_ (i := 2) (N := some 92) (v := ?_) (a' := ?_) #[true, true, true, false, false, false, false, false, false, false, false, false] rfl rfl (any_of HT_.out (by kernel_rfl)) (fun _ _ _ h => h) (Or.inl ⟨by rfl, ?_⟩) ?_ ?_); (rotate_left)
                · (intro w'); (go_simp); (with_reducible rfl)
                rotate_left
                · (simp only [Act.put, List.setIfInBounds_toArray, List.set_cons_zero, List.set_cons_succ, i64_w, i32_w]); (rfl)
                (refine pure_ (i := 3) (N := some 93) (v := ?_) (a' := ?_) #[true, true, true, true, false, false, false, false, false, false, false, false] rfl rfl (any_of HT_.out (by kernel_rfl)) (fun _ _ _ h => h) (Or.inl ⟨by rfl, ?_⟩) ?_ ?_); (rotate_left)
                · (intro w'); (go_simp); (with_reducible rfl)
                rotate_left
                · (simp only [Act.put, List.setIfInBounds_toArray, List.set_cons_zero, List.set_cons_succ, i64_w, i32_w]); (rfl)
                (refine pure_ (i := 4) (N := some 94) (v := ?_) (a' := ?_) #[true, true, true, true, true, false, false, false, false, false, false, false] rfl rfl (any_of HT_.out (by kernel_rfl)) (fun _ _ _ h => h) (Or.inl ⟨by rfl, ?_⟩) ?_ ?_); (rotate_left)
                · (intro w'); (go_simp); (with_reducible rfl)
                rotate_left
                · (simp only [Act.put, List.setIfInBounds_toArray, List.set_cons_zero, List.set_cons_succ, i64_w, i32_w]); (rfl)
                (refine take_ (i := 5) (N := some 95) (v := ?_) (a' := ?_) #[true, true, true, true, true, true, false, false, false, false, false, false] rfl rfl (take_ofW HT_.out HW_.out (by kernel_rfl)) (fun _ _ _ h => h) (Or.inl ⟨by rfl, ?_⟩) hHeld ?_ ?_); (rotate_left)
                · (rintro w' ⟨s0, s1⟩); (go_simp); (with_reducible rfl)
                rotate_left
                · (simp only [Act.put, List.setIfInBounds_toArray, List.set_cons_zero, List.set_cons_succ, i64_w, i32_w]); (rfl)
                (refine pure_ (i := 6) (N := some 96) (v := ?_) (a' := ?_) #[true, true, true, true, true, true, true, false, false, false, false, false] rfl rfl (any_of HT_.out (by kernel_rfl)) (fun _ _ _ h => h) (Or.inl ⟨by rfl, ?_⟩) ?_ ?_); (rotate_left)
                · (intro w'); (go_simp); (with_reducible rfl)
                rotate_left
                · (simp only [Act.put, List.setIfInBounds_toArray, List.set_cons_zero, List.set_cons_succ, i64_w, i32_w]); (rfl)
                (refine pure_ (i := 7) (N := some 97) (v := ?_) (a' := ?_) #[true, true, true, true, true, true, true, true, false, false, false, false] rfl rfl (any_of HT_.out (by kernel_rfl)) (fun _ _ _ h => h) (Or.inl ⟨by rfl, ?_⟩) ?_ ?_); (rotate_left)
                · (intro w'); (go_simp); (with_reducible rfl)
                rotate_left
                · (simp only [Act.put, List.setIfInBounds_toArray, List.set_cons_zero, List.set_cons_succ, i64_w, i32_w]); (rfl)
                (refine take_ (i := 8) (N := some 98) (v := ?_) (a' := ?_) #[true, true, true, true, true, true, true, true, true, false, false, false] rfl rfl (take_ofW HT_.out HW_.out (by kernel_rfl)) (fun _ _ _ h => h) (Or.inl ⟨by rfl, ?_⟩) hHeld ?_ ?_); (rotate_left)
                · (rintro w' ⟨s0, s1⟩); (go_simp); (with_reducible rfl)
                rotate_left
                · (simp only [Act.put, List.setIfInBounds_toArray, List.set_cons_zero, List.set_cons_succ, i64_w, i32_w]); (rfl)
                (refine pure_ (i := 9) (N := some 99) (v := ?_) (a' := ?_) #[true, true, true, true, true, true, true, true, true, true, false, false] rfl rfl (any_of HT_.out (by kernel_rfl)) (fun _ _ _ h => h) (Or.inl ⟨by rfl, ?_⟩) ?_ ?_); (rotate_left)
                · (intro w'); (go_simp); (with_reducible rfl)
                rotate_left
                · (simp only [Act.put, List.setIfInBounds_toArray, List.set_cons_zero, List.set_cons_succ, i64_w, i32_w]); (rfl)
                (refine one_ (i := 10) (N := none) #[true, true, true, true, true, true, true, true, true, true, true, false] rfl rfl (one_of HT_.out (by kernel_rfl)) (by decide) (fun K hK => ?_)); (have s0 := blk_cell hx39 0); (have s1 := blk_cell hx39 1); (have s2 := blk_cell hx39 2); (have s3 := blk_cell hx39 3); (have s4 := blk_cell hx39 4); (have f0 := blk_frozen hx39 0); (have f1 := blk_frozen hx39 1); (have f2 := blk_frozen hx39 2); (have f3 := blk_frozen hx39 3); (have f4 := blk_frozen hx39 4); (refine skip_ (w1 := ?_) (by rfl) rfl ?_ ?_); (rotate_left)
                · (go_simp); (rfl)
                refine hK.out _ _ ⟨?_, ?_⟩ (fun hHeld => ?_)
                · rw [cell_far, cell_far, cell_far, cell_far, cell_far]
                  · exact kL
                  all_goals (show P ≠ w.heap.size; omega)
                · rw [cell_far, cell_far, cell_far, cell_far, cell_far]
                  · exact km
                  all_goals (show (lad.add i).block ≠ w.heap.size; rw [hab]; omega)
                (clear hK K); (clear s0 s1 s2 s3 s4 f0 f1 f2 f3 f4); (have hf := blk_far (p := ⟨w.heap.size, 4, none⟩) (blk_far (p := ⟨w.heap.size, 3, none⟩) (blk_far (p := ⟨w.heap.size, 2, none⟩) (blk_far (p := ⟨w.heap.size, 1, none⟩) (blk_far (p := ⟨w.heap.size, 0, none⟩) hx43 (by simp) (.slice none 0 0)) (by simp) (.slice none 0 0)) (by simp) (.int .i64 0)) (by simp) (.int .i64 0)) (by simp) (.int .i64 0)); (refine last_ (i := 11) (N := none) #[true, true, true, true, true, true, true, true, true, true, true, true] rfl rfl (one_of HT_.out (by kernel_rfl)) (by decide) (fun K hK => ?_)); (have s0 := blk_cell hf 0); (have s1 := blk_cell hf 1); (have f0 := blk_frozen hf 0); (have f1 := blk_frozen hf 1); (refine skip_ (w1 := ?_) (by rfl) rfl ?_ ?_); (rotate_left)
                · (go_simp); (rfl)
                (refine hK.out _ _ ?_); (clear hK K); (refine done_ (done_of HT_.out (by kernel_rfl)) ?_); (go_wp2); (repeat ((first | go_step3 | (rw [Exit.noGoto_normal]; (try simp only [Exit.inBlock, Exit.then]))); go_wp2)); (have hH := H.out); (rw [HNO.out] at hH); (simp only [bad, Prod.mk.injEq] at hH); (obtain ⟨rfl, rfl, rfl, rfl, rfl, rfl, rfl⟩ := hH); (try (rw [Exit.noGoto_ret]; (try simp only [Exit.inBlock, Exit.then])))
                exact pf_bad w _ _ _ _ hx39 hx43 HBz.out rfl rfl rfl
      | succ g =>
        (have hi : i < (Q.length + 1) := by omega); (have hiL : i < LS.length := by omega); (obtain ⟨ad2, ead, hxi⟩ := Kd.at_string (Kd.C_below HC.out (show Below W1.heap.size W1 wr by rw [hP]; exact HBd.out)) (i : Int) (by omega) (by omega)); (cases ead); (obtain ⟨x, hx⟩ : ∃ x, LS[i] = x := ⟨_, rfl⟩); (have hrd : rdOf ByteArray.empty (LS.map ofL) (i : Int) = ofL x := by rw [rdc_at LS i hiL, hx]); (rw [hrd, Int.toNat_natCast] at hxi); (have hdr : LS.drop i = x :: LS.drop (i + 1) := by rw [← hx]; exact List.drop_eq_getElem_cons hiL); (have hxl : x.length ≤ 65536 := HLM.out x (by rw [← hx]; exact List.getElem_mem hiL)); (clear hx hrd); (have q2 : (0 ≤ (i : Int)) = True := eq_true (by omega)); (have q3 : ((i : Int) < (((Q.length + 1) : Nat) : Int)) = True := eq_true (by omega)); (obtain ⟨⟨Ca, Cb, Cf⟩, hcut⟩ : ∃ C, Lib.cut x [35] = C := ⟨_, rfl⟩)
        have HCF : Aside0 (strings_Cut.f (ofL x) (⟨#[35]⟩ : ByteArray) = some (ofL Ca, ofL Cb, Cf)) := ⟨by
          (have := cut_f x [35] (by omega)); (rw [hcut] at this)
          exact this⟩
        (have hGx := Aside0.mk (GW.below HG.out (HB1.out.trans (HBd.out.mono hPw)))); (go_wp2_with fail); (repeat ((first | go_step3 | (rw [Exit.noGoto_normal]; (try simp only [Exit.inBlock, Exit.then]))); go_wp2_with fail)); (refine (strings_Cut.calls _ _ _ _ _ _ HCF.out hGx.out).mono ?_); (rintro e W2 ⟨rfl, hb⟩); (have HRd2 := Aside0.mk (RdIs_below HRd.out hb)); (have HBd2 : Aside0 (Below P W1 W2) := ⟨HBd.out.trans (hb.mono (by omega))⟩); (clear HRd HBd hb hGx HCF); (have HRd := HRd2); (have HBd := HBd2); (clear HRd2 HBd2)
        cases hCf : Cf with
        | false =>
          (have hBl : bareL x = Ca := by unfold bareL; rw [hcut, hCf]; rfl); (clear hcut hCf); (by_cases hD : Ca = [])
          · (have e1 : (Ca == []) = true := by rw [hD]; rfl); (have e2 : decide (Ca = []) = true := decide_eq_true hD); (have HST : Aside0 (goL LS 0 Rd.none = goL (LS.drop (i + 1)) (i + 1) st) := ⟨by rw [HGO.out, hdr, goL, if_pos (hBl.trans hD)]⟩); (clear hdr hBl hxi); (go_wp2_with fail); (repeat ((first | go_step3 | (rw [Exit.noGoto_normal]; (try simp only [Exit.inBlock, Exit.then]))); go_wp2_with fail)); (go_roundg g)
            case measure => omega
            case rel => exact ⟨i + 1, st, by omega, by simp, by omega, HST, HRd, ⟨InvR_mono HI.out (by omega)⟩, HBd⟩
          · (have e1 : (Ca == []) = false := beq_eq_false_iff_ne.2 hD); (have e2 : decide (Ca = []) = false := decide_eq_false hD); (have hDl : Ca.length ≤ 100000 := by rw [← hBl]; have := bareL_le x; omega); (have hI := HI.out); (have HLC := Aside0.mk (line_calls P st Ca ((i : Int) + 1) W2 hDl HRd.out ⟨by have := hI.es; omega, by have := hI.gs; omega, by have := hI.es; have := hI.ls; omega⟩ (GW.below HG.out (HB1.out.trans (HBd.out.mono hPw))))); (clear hI hxi); (go_wp2_with fail); (repeat ((first | go_step3 | (rw [Exit.noGoto_normal]; (try simp only [Exit.inBlock, Exit.then]))); go_wp2_with fail)); (refine HLC.out.mono ?_); (clear HLC); (rintro e W4 ⟨rfl, hb, hyes⟩)
            cases hl : lineS st Ca ((i : Int) + 1) with
            | none =>
              have HNO : Aside0 (parseF s = bad 3 ((i : Int) + 1)) := ⟨by
                (unfold parseF); (rw [if_neg (by omega), HLS.out, HGO.out, hdr, goL, hBl, if_neg hD, hl])
                rfl⟩
              (have hx39 := (hb.block _ hQ0).trans ((HBd.out.block _ hQ0).trans HX39.out)); (have hx43 := (hb.block _ hQ1).trans ((HBd.out.block _ hQ1).trans HX43.out)); (have HBw : Aside0 (Below w.heap.size w W4) := ⟨(HB1.out.trans (HBd.out.mono hPw)).trans (hb.mono hPw)⟩); (clear hb hyes hdr hBl hD); (have d0 := blk_cell hx39 0); (have d1 := blk_cell hx39 1); (have d2 := blk_cell hx39 2); (have d3 := blk_cell hx39 3); (have d4 := blk_cell hx39 4); (have f0 := blk_frozen hx39 0); (have f1 := blk_frozen hx39 1); (have f2 := blk_frozen hx39 2); (have f3 := blk_frozen hx39 3); (have f4 := blk_frozen hx39 4); (have e0 := blk_cell hx43 0); (have e1 := blk_cell hx43 1); (have g0 := blk_frozen hx43 0); (have g1 := blk_frozen hx43 1); (go_wp2); (repeat ((first | go_step3 | (rw [Exit.noGoto_normal]; (try simp only [Exit.inBlock, Exit.then]))); go_wp2)); (have hH := H.out); (rw [HNO.out] at hH); (simp only [bad, Prod.mk.injEq] at hH); (obtain ⟨rfl, rfl, rfl, rfl, rfl, rfl, rfl⟩ := hH); (try (rw [Exit.noGoto_ret]; (try simp only [Exit.inBlock, Exit.then])))
              exact pf_bad w _ _ _ _ hx39 hx43 HBw.out rfl rfl rfl
            | some st1 =>
              (have HST : Aside0 (goL LS 0 Rd.none = goL (LS.drop (i + 1)) (i + 1) st1) := ⟨by rw [HGO.out, hdr, goL, hBl, if_neg hD, hl]⟩); (have HRd1 := Aside0.mk (hyes st1 hl)); (have HBd1 : Aside0 (Below P W1 W4) := ⟨HBd.out.trans hb⟩); (have HI1 := Aside0.mk (lineS_inv hl hDl HI.out)); (clear hb hyes hdr hBl hD hl); (go_wp2_with fail); (repeat ((first | go_step3 | (rw [Exit.noGoto_normal]; (try simp only [Exit.inBlock, Exit.then]))); go_wp2_with fail)); (go_roundg g)
              case measure => omega
              case rel => exact ⟨i + 1, st1, by omega, by simp, by omega, HST, HRd1, HI1, HBd1⟩
        | true =>
          (obtain ⟨T, hT⟩ : ∃ T, Lib.trimRightB Ca 32 = T := ⟨_, rfl⟩); (have hBl : bareL x = T := by unfold bareL; rw [hcut, hCf, ← hT]; rfl); (have hcal : Ca.length ≤ x.length := by have := (cut_le x [35]).1; rw [hcut] at this; exact this)
          have HTR : Aside0 (strings_TrimRight.f (ofL Ca) (⟨#[32]⟩ : ByteArray) = some (ofL T)) := ⟨by
            unfold strings_TrimRight.f
            rw [if_pos ⟨by rw [ofL_size]; omega, rfl⟩, ofL_list, hT]⟩
          (clear hcut hCf hT); (go_wp2_with fail); (repeat ((first | go_step3 | (rw [Exit.noGoto_normal]; (try simp only [Exit.inBlock, Exit.then]))); go_wp2_with fail)); (refine (strings_TrimRight.calls _ _ _ _ HTR.out).mono ?_); (rintro e W3 ⟨rfl, hb⟩); (have hsz2 := HBd.out.size); (have HRd2 := Aside0.mk (RdIs_below HRd.out hb)); (have HBd2 : Aside0 (Below P W1 W3) := ⟨HBd.out.trans (hb.mono (by omega))⟩); (clear HRd HBd hb HTR); (have HRd := HRd2); (have HBd := HBd2); (clear HRd2 HBd2); (by_cases hD : T = [])
          · (have e1 : (T == []) = true := by rw [hD]; rfl); (have e2 : decide (T = []) = true := decide_eq_true hD); (have HST : Aside0 (goL LS 0 Rd.none = goL (LS.drop (i + 1)) (i + 1) st) := ⟨by rw [HGO.out, hdr, goL, if_pos (hBl.trans hD)]⟩); (clear hdr hBl hxi); (go_wp2_with fail); (repeat ((first | go_step3 | (rw [Exit.noGoto_normal]; (try simp only [Exit.inBlock, Exit.then]))); go_wp2_with fail)); (go_roundg g)
            case measure => omega
            case rel => exact ⟨i + 1, st, by omega, by simp, by omega, HST, HRd, ⟨InvR_mono HI.out (by omega)⟩, HBd⟩
          · (have e1 : (T == []) = false := beq_eq_false_iff_ne.2 hD); (have e2 : decide (T = []) = false := decide_eq_false hD); (have hDl : T.length ≤ 100000 := by rw [← hBl]; have := bareL_le x; omega); (have hI := HI.out); (have HLC := Aside0.mk (line_calls P st T ((i : Int) + 1) W3 hDl HRd.out ⟨by have := hI.es; omega, by have := hI.gs; omega, by have := hI.es; have := hI.ls; omega⟩ (GW.below HG.out (HB1.out.trans (HBd.out.mono hPw))))); (clear hI hxi); (go_wp2_with fail); (repeat ((first | go_step3 | (rw [Exit.noGoto_normal]; (try simp only [Exit.inBlock, Exit.then]))); go_wp2_with fail)); (refine HLC.out.mono ?_); (clear HLC); (rintro e W4 ⟨rfl, hb, hyes⟩)
            cases hl : lineS st T ((i : Int) + 1) with
            | none =>
              have HNO : Aside0 (parseF s = bad 3 ((i : Int) + 1)) := ⟨by
                (unfold parseF); (rw [if_neg (by omega), HLS.out, HGO.out, hdr, goL, hBl, if_neg hD, hl])
                rfl⟩
              (have hx39 := (hb.block _ hQ0).trans ((HBd.out.block _ hQ0).trans HX39.out)); (have hx43 := (hb.block _ hQ1).trans ((HBd.out.block _ hQ1).trans HX43.out)); (have HBw : Aside0 (Below w.heap.size w W4) := ⟨(HB1.out.trans (HBd.out.mono hPw)).trans (hb.mono hPw)⟩); (clear hb hyes hdr hBl hD); (have d0 := blk_cell hx39 0); (have d1 := blk_cell hx39 1); (have d2 := blk_cell hx39 2); (have d3 := blk_cell hx39 3); (have d4 := blk_cell hx39 4); (have f0 := blk_frozen hx39 0); (have f1 := blk_frozen hx39 1); (have f2 := blk_frozen hx39 2); (have f3 := blk_frozen hx39 3); (have f4 := blk_frozen hx39 4); (have e0 := blk_cell hx43 0); (have e1 := blk_cell hx43 1); (have g0 := blk_frozen hx43 0); (have g1 := blk_frozen hx43 1); (go_wp2); (repeat ((first | go_step3 | (rw [Exit.noGoto_normal]; (try simp only [Exit.inBlock, Exit.then]))); go_wp2)); (have hH := H.out); (rw [HNO.out] at hH); (simp only [bad, Prod.mk.injEq] at hH); (obtain ⟨rfl, rfl, rfl, rfl, rfl, rfl, rfl⟩ := hH); (try (rw [Exit.noGoto_ret]; (try simp only [Exit.inBlock, Exit.then])))
              exact pf_bad w _ _ _ _ hx39 hx43 HBw.out rfl rfl rfl
            | some st1 =>
              (have HST : Aside0 (goL LS 0 Rd.none = goL (LS.drop (i + 1)) (i + 1) st1) := ⟨by rw [HGO.out, hdr, goL, hBl, if_neg hD, hl]⟩); (have HRd1 := Aside0.mk (hyes st1 hl)); (have HBd1 : Aside0 (Below P W1 W4) := ⟨HBd.out.trans hb⟩); (have HI1 := Aside0.mk (lineS_inv hl hDl HI.out)); (clear hb hyes hdr hBl hD hl); (go_wp2_with fail); (repeat ((first | go_step3 | (rw [Exit.noGoto_normal]; (try simp only [Exit.inBlock, Exit.then]))); go_wp2_with fail)); (go_roundg g)
              case measure => omega
              case rel => exact ⟨i + 1, st1, by omega, by simp, by omega, HST, HRd1, HI1, HBd1⟩
end Go.Proofs.YtdaijpjjilmkkaaGreatDoor.Pr
