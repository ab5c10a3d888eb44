/- Texts of the claim ElementFiles, joined: HFile, ELaw, HLine. -/
import Derived.Test.YtdaijpjjilmkkaaGreatDoorZElementFiles29
import Derived.Test.YtdaijpjjilmkkaaGreatDoorZElementFiles27
import Derived.Lib.Hide
import Derived.Lib.ItoaLen
import Derived.WalkMore
/- The contract of element.FileText (lists of at most 100,000): it returns the lines of a collation, or the first error. Written by wip/gen_file.py. -/
namespace Go.Proofs.YtdaijpjjilmkkaaGreatDoor.Pr
open Go.RowKit Go.Shelf Go.Proofs.YtdaijpjjilmkkaaGreatDoorW.PrintWords Go.Proofs.YtdaijpjjilmkkaaGreatDoorW.PrintLast Go.Proofs.YtdaijpjjilmkkaaGreatDoorW.PrintMore
set_option linter.unusedVariables false
set_option linter.unusedSimpArgs false
def element_FileText.f (l0 : List S49) (l1 : List S46) (a b c : Int) : Option (ByteArray × Int) :=
  if smallF l0 l1 a b c = true then some (if errF l0 l1 a b c = 0 then (ofL (fileT l0 l1 a b c), 0) else (ofL [], errF l0 l1 a b c)) else none
def element_FileText.T5 : Bool × List (List Nat × List Nat) := (true, [([], []), ([0], [0]), ([1], [1]), ([], []), ([3], [3]), ([4, 2], [4]), ([], []), ([6], [6]), ([7, 5], [7]), ([2, 5, 8], [2, 5, 8]), ([9, 8], [9]), ([10, 10], [10])])
def element_FileText.B5 : List Nat := [0, 1, 3, 0, 8, 31, 0, 64, 255, 511, 1023, 2047]
theorem element_FileText.tab5 : rtab .any (opsOf Tryz.f15 5) = element_FileText.T5 := by kernel_rfl
theorem element_FileText.bits5 : waitsOk element_FileText.T5.2 element_FileText.B5 = true := by kernel_rfl
def element_FileText.T9 : Bool × List (List Nat × List Nat) := (true, [([], []), ([0], [0]), ([], []), ([2], [2]), ([3], [3]), ([], []), ([5], [5]), ([6, 4], [6]), ([1, 4, 7], [1, 4, 7]), ([8, 7], [8]), ([9, 9], [9])])
def element_FileText.B9 : List Nat := [0, 1, 0, 4, 12, 0, 32, 124, 255, 511, 1023]
theorem element_FileText.tab9 : rtab .any (opsOf Tryz.f15 9) = element_FileText.T9 := by kernel_rfl
theorem element_FileText.bits9 : waitsOk element_FileText.T9.2 element_FileText.B9 = true := by kernel_rfl
theorem itoa_len (n : Int) (h : -9223372036854775808 ≤ n ∧ n ≤ 9223372036854775807) : (Lib.itoa n).length ≤ 64 := by
  (have := Lib.itoa_length_le n h.1 h.2); (omega)
theorem baseT_len' (a b c : Int) (h0 : -9223372036854775808 ≤ a ∧ a ≤ 9223372036854775807) (h1 : -9223372036854775808 ≤ b ∧ b ≤ 9223372036854775807) (h2 : -9223372036854775808 ≤ c ∧ c ≤ 9223372036854775807) : (baseT a b c).length ≤ 300 := by
  (have := itoa_len a h0); (have := itoa_len b h1); (have := itoa_len c h2); (unfold baseT); (rw [wordsT_len]); (simp [baseW]); (omega)
theorem groupT_len (g : S46) (h : g.f0.size ≤ 100000 ∧ (-9223372036854775808 ≤ g.f1 ∧ g.f1 ≤ 9223372036854775807) ∧ (-9223372036854775808 ≤ g.f2 ∧ g.f2 ≤ 9223372036854775807)) : (groupT g).length ≤ 100300 := by
  (have := itoa_len g.f1 h.2.1); (have := itoa_len g.f2 h.2.2); (have e : g.f0.data.toList.length = g.f0.size := by simp); (unfold groupT); (rw [wordsT_len, e]); (simp [groupW]); (omega)
theorem groupsT_len : ∀ l : List S46, (∀ g ∈ l, g.f0.size ≤ 100000 ∧ (-9223372036854775808 ≤ g.f1 ∧ g.f1 ≤ 9223372036854775807) ∧ (-9223372036854775808 ≤ g.f2 ∧ g.f2 ≤ 9223372036854775807)) → (l.flatMap groupT).length ≤ 100300 * l.length
  | [], _ => by simp
  | g :: r, h => by
    (have ih := groupsT_len r (fun x hx => h x (by simp [hx]))); (have := groupT_len g (h g (by simp))); (rw [List.flatMap_cons, List.length_append, List.length_cons]); (omega)
theorem entryT_len (x : S49) (h : x.f0.length ≤ 100000 ∧ x.f1.length ≤ 100000) : (entryT x).length ≤ 4000000 := by
  (have := join_size x.f0); (have := elsT_len x.f1); (unfold entryT); (simp only [List.length_append, List.length_cons, List.length_nil]); (omega)
theorem entriesT_len : ∀ l : List S49, (∀ x ∈ l, x.f0.length ≤ 100000 ∧ x.f1.length ≤ 100000) → (l.flatMap entryT).length ≤ 4000000 * l.length
  | [], _ => by simp
  | x :: r, h => by
    (have ih := entriesT_len r (fun y hy => h y (by simp [hy]))); (have := entryT_len x (h x (by simp))); (rw [List.flatMap_cons, List.length_append, List.length_cons]); (omega)
theorem errF_codes {l0 : List S49} {l1 : List S46} {a b c : Int} (h : errF l0 l1 a b c = 0) (x : S49) (hx : x ∈ l0) : x.f0.all validB = true := by
  (unfold errF at h); (split at h)
  · cases h
  · split at h
    · split at h
      · next h2 => exact List.all_eq_true.1 h2 x hx
      · cases h
    · cases h
set_option maxRecDepth 100000 in
set_option maxHeartbeats 8000000 in
theorem element_FileText.calls (A0_0 : Option Addr) (c0_0 : Nat) (l0_0 : List S49) (A0_1 : Option Addr) (c0_1 : Nat) (l0_1 : List S46) (a0_2 a0_3 a0_4 : Int) (r1 : ByteArray) (r2 : Int) (w : World) (hr0_0 : Kd.C k49 w A0_0 l0_0.length l0_0) (hc0_0 : l0_0.length ≤ c0_0) (hr0_1 : Kd.C k46 w A0_1 l0_1.length l0_1) (hc0_1 : l0_1.length ≤ c0_1) (h : element_FileText.f l0_0 l0_1 a0_2 a0_3 a0_4 = some (r1, r2)) (hG : GW w) :
    Calls Tryz.prog 15 #[.agg #[.slice A0_0 l0_0.length c0_0, .slice A0_1 l0_1.length c0_1, .int .i64 a0_2, .int .i64 a0_3, .int .i64 a0_4]] w fun e w' => e = .returned (.tuple #[.string r1, .int .i64 r2]) ∧ Below w.heap.size w w' := by
  (unfold element_FileText.f at h); (by_cases hs : smallF l0_0 l0_1 a0_2 a0_3 a0_4 = true)
  case neg => rw [if_neg hs] at h; cases h
  (rw [if_pos hs] at h); (have H := Aside0.mk (Option.some.inj h)); (have HG := Aside0.mk hG); (have HR0 := Aside0.mk hr0_0); (have HR1 := Aside0.mk hr0_1); (obtain ⟨K, hK⟩ := checkFile_ev l0_0 l0_1 a0_2 a0_3 a0_4 hs); (have HS := Aside0.mk (smallF_parts hs)); (have CK := Aside0.mk (hK K (Nat.le_refl _))); (clear h hG hr0_0 hr0_1 hK hs); (have h00 := HS.out.1.1); (have h01 := HS.out.1.2.1); (have hu39 := Tryz.underlying35); (have hu49 := Tryz.underlying46); (have hu52 := Tryz.underlying49); (obtain ⟨E, hE⟩ : ∃ E, errF l0_0 l0_1 a0_2 a0_3 a0_4 = E := ⟨_, rfl⟩); (have HE := Aside0.mk hE); (rw [hE] at H); (clear hE); (go_enter Tryz.func15, Tryz.ntmps15); (go_wp2_with fail); (refine (element_checkFile.calls K _ _ l0_0 _ _ l0_1 a0_2 a0_3 a0_4 E _ (Kd.C_alloc HR0.out _) hc0_0 (Kd.C_alloc HR1.out _) hc0_1 (CK.out.trans (congrArg some HE.out))).mono ?_); (rintro e W1 ⟨rfl, hb⟩); (have hX1 : W1.heap[w.heap.size]? = some (.cells #[.slice A0_0 l0_0.length c0_0, .slice A0_1 l0_1.length c0_1, .int .i64 a0_2, .int .i64 a0_3, .int .i64 a0_4] 35 (0, 0)) := (hb.block _ (by simp)).trans (heap_alloc_new w _)); (have hw1 : Below w.heap.size w W1 := (below_alloc (Below.refl _ _) _).trans (hb.mono (by simp))); (clear hb); (by_cases he : E = 0)
  case neg =>
    (have heb : (E != 0) = true := bne_iff_ne.2 he); (have hH := H.out); (rw [if_neg he] at hH); (simp only [Prod.mk.injEq] at hH); (obtain ⟨rfl, rfl⟩ := hH); (clear H HE CK); (go_wp2); (go_ret2); (exact ⟨rfl, hw1⟩)
  (have heb : (E != 0) = false := bne_eq_false_iff_eq.2 he); (have hH := H.out); (rw [if_pos he] at hH); (simp only [Prod.mk.injEq] at hH); (have HH := Aside0.mk hH); (have hcodes : ∀ x ∈ l0_0, x.f0.all validB = true := errF_codes (HE.out.trans he)); (have HV := Aside0.mk hcodes); (clear hH H CK hcodes); (go_wp2_with fail); (have HX := Aside0.mk (blk_drew (blk_alloc hX1 (.cells #[.pointer none, .slice none 0 0] 59)))); (have HI : Aside0 (Bd.Is W1.heap.size W1.heap.size [] (W1.alloc (.cells #[.pointer none, .slice none 0 0] 59)).drew) := ⟨Bd.kept (Bd.fresh W1) (grown_of (below_drew (Below.refl _ _))) (by simp)⟩); (have HB : Aside0 (Below W1.heap.size W1 (W1.alloc (.cells #[.pointer none, .slice none 0 0] 59)).drew) := ⟨below_drew (below_alloc (Below.refl _ _) _)⟩); (have hwB : Below w.heap.size w W1 := hw1); (have hX1lt : w.heap.size < W1.heap.size := blk_lt hX1); (have HW5 : Aside0 (element_words.f [(⟨#[64, 98, 97, 115, 101]⟩ : ByteArray), (⟨(Lib.itoa a0_2).toArray⟩ : ByteArray), (⟨(Lib.itoa a0_3).toArray⟩ : ByteArray), (⟨(Lib.itoa a0_4).toArray⟩ : ByteArray)] = some (ofL (baseT a0_2 a0_3 a0_4))) := ⟨words4_f baseW (Lib.itoa a0_2) (Lib.itoa a0_3) (Lib.itoa a0_4) (by have := itoa_len a0_2 HS.out.2.2.1; have := itoa_len a0_3 HS.out.2.2.2.1; have := itoa_len a0_4 HS.out.2.2.2.2; simp [baseW]; omega)⟩); (have baseT_len := fun (_ _ _ : Int) => baseT_len' a0_2 a0_3 a0_4 HS.out.2.2.1 HS.out.2.2.2.1 HS.out.2.2.2.2); (refine start_ (n := 12) (S := fun w' => w'.cell? ⟨w.heap.size, 2, none⟩ = some (.int .i64 a0_2) ∧ w'.cell? ⟨w.heap.size, 3, none⟩ = some (.int .i64 a0_3) ∧ w'.cell? ⟨w.heap.size, 4, none⟩ = some (.int .i64 a0_4)) (ds := []) #[false, false, false, false, false, false, false, false, false, false, false, false] (by kernel_rfl) rfl rfl ⟨(blk_cell HX.out 2).trans rfl, (blk_cell HX.out 3).trans rfl, (blk_cell HX.out 4).trans rfl⟩ (fun hHeld => ?_); refine with_tabW element_FileText.tab5 element_FileText.bits5 (fun HT_ HW_ => ?_)); (refine pure_ (i := 0) (N := some 17) (v := ?_) (a' := ?_) #[true, false, false, false, false, false, false, false, false, false, false, false] rfl rfl (any_of HT_.out (by kernel_rfl)) (fun _ _ _ h => h) (Or.inl ⟨by rfl, ?_⟩) ?_ ?_); (rotate_left)
  · (intro w'); (go_simp); (with_reducible rfl)
  rotate_left
  · (simp only [Act.put, List.setIfInBounds_toArray, List.set_cons_zero, List.set_cons_succ, i64_w, i32_w]); (rfl)
  (refine take_ (i := 1) (N := some 18) (v := ?_) (a' := ?_) #[true, true, false, false, false, false, false, false, false, false, false, false] rfl rfl (take_ofW HT_.out HW_.out (by kernel_rfl)) (fun _ _ _ h => h) (Or.inl ⟨by rfl, ?_⟩) hHeld ?_ ?_); (rotate_left)
  · (rintro w' ⟨s0, s1, s2⟩); (go_simp); (with_reducible rfl)
  rotate_left
  · (simp only [Act.put, List.setIfInBounds_toArray, List.set_cons_zero, List.set_cons_succ, i64_w, i32_w]); (rfl)
  (refine pure_ (i := 3) (N := some 20) (v := ?_) (a' := ?_) #[true, true, false, true, false, false, false, false, false, false, false, false] rfl rfl (any_of HT_.out (by kernel_rfl)) (fun _ _ _ h => h) (Or.inl ⟨by rfl, ?_⟩) ?_ ?_); (rotate_left)
  · (intro w'); (go_simp); (with_reducible rfl)
  rotate_left
  · (simp only [Act.put, List.setIfInBounds_toArray, List.set_cons_zero, List.set_cons_succ, i64_w, i32_w]); (rfl)
  (refine take_ (i := 4) (N := some 21) (v := ?_) (a' := ?_) #[true, true, false, true, true, false, false, false, false, false, false, false] rfl rfl (take_ofW HT_.out HW_.out (by kernel_rfl)) (fun _ _ _ h => h) (Or.inl ⟨by rfl, ?_⟩) hHeld ?_ ?_); (rotate_left)
  · (rintro w' ⟨s0, s1, s2⟩); (go_simp); (with_reducible rfl)
  rotate_left
  · (simp only [Act.put, List.setIfInBounds_toArray, List.set_cons_zero, List.set_cons_succ, i64_w, i32_w]); (rfl)
  (refine pure_ (i := 6) (N := some 23) (v := ?_) (a' := ?_) #[true, true, false, true, true, false, true, false, false, false, false, false] rfl rfl (any_of HT_.out (by kernel_rfl)) (fun _ _ _ h => h) (Or.inl ⟨by rfl, ?_⟩) ?_ ?_); (rotate_left)
  · (intro w'); (go_simp); (with_reducible rfl)
  rotate_left
  · (simp only [Act.put, List.setIfInBounds_toArray, List.set_cons_zero, List.set_cons_succ, i64_w, i32_w]); (rfl)
  (refine take_ (i := 7) (N := some 24) (v := ?_) (a' := ?_) #[true, true, false, true, true, false, true, true, false, false, false, false] rfl rfl (take_ofW HT_.out HW_.out (by kernel_rfl)) (fun _ _ _ h => h) (Or.inl ⟨by rfl, ?_⟩) hHeld ?_ ?_); (rotate_left)
  · (rintro w' ⟨s0, s1, s2⟩); (go_simp); (with_reducible rfl)
  rotate_left
  · (simp only [Act.put, List.setIfInBounds_toArray, List.set_cons_zero, List.set_cons_succ, i64_w, i32_w]); (rfl)
  (refine one_ (i := 2) (N := some 19) #[true, true, true, true, true, false, true, true, false, false, false, false] rfl rfl (one_of HT_.out (by kernel_rfl)) (by decide) (fun K hK => ?_)); (refine goes_ Tryz.func29 (by kernel_rfl) rfl #[.int .i64 a0_2] (by rfl) rfl rfl (by (try simp only [List.map_toArray, List.map_cons, List.map_nil]); first | done | rfl) ?_); (with_reducible refine (strconv_Itoa.calls a0_2 _ _ (by unfold strconv_Itoa.f; rw [if_pos HS.out.2.2.1]) (GW.below HG.out ((hwB.trans (HB.out.mono hwB.size))))).mono ?_); (rintro e W5 ⟨rfl, hb⟩); (refine ⟨_, rfl, ?_⟩); (have n0_ := Aside0.mk ((hb.block _ (blk_lt HX.out)).trans HX.out)); (have n1_ := Aside0.mk (Bd.kept HI.out (grown_of hb) (by simp))); (have n2_ := Aside0.mk (HB.out.trans (hb.mono HB.out.size))); (clear HX HI HB hb); (have HX := n0_); (have HI := n1_); (have HB := n2_); (clear n0_ n1_ n2_); (refine hK.out _ _ ⟨(blk_cell HX.out 2).trans rfl, (blk_cell HX.out 3).trans rfl, (blk_cell HX.out 4).trans rfl⟩ (fun hHeld => ?_)); (clear hK K); (refine norm_ (a' := ?_) ?_ ?_); (rotate_left)
  · (show Act.put _ (some 19) _ = _); (simp only [Act.put, List.setIfInBounds_toArray, List.set_cons_zero, List.set_cons_succ, i64_w, i32_w]); (rfl)
  (refine one_ (i := 5) (N := some 22) #[true, true, true, true, true, true, true, true, false, false, false, false] rfl rfl (one_of HT_.out (by kernel_rfl)) (by decide) (fun K hK => ?_)); (refine goes_ Tryz.func29 (by kernel_rfl) rfl #[.int .i64 a0_3] (by rfl) rfl rfl (by (try simp only [List.map_toArray, List.map_cons, List.map_nil]); first | done | rfl) ?_); (with_reducible refine (strconv_Itoa.calls a0_3 _ _ (by unfold strconv_Itoa.f; rw [if_pos HS.out.2.2.2.1]) (GW.below HG.out ((hwB.trans (HB.out.mono hwB.size))))).mono ?_); (rintro e W6 ⟨rfl, hb⟩); (refine ⟨_, rfl, ?_⟩); (have n0_ := Aside0.mk ((hb.block _ (blk_lt HX.out)).trans HX.out)); (have n1_ := Aside0.mk (Bd.kept HI.out (grown_of hb) (by simp))); (have n2_ := Aside0.mk (HB.out.trans (hb.mono HB.out.size))); (clear HX HI HB hb); (have HX := n0_); (have HI := n1_); (have HB := n2_); (clear n0_ n1_ n2_); (refine hK.out _ _ ⟨(blk_cell HX.out 2).trans rfl, (blk_cell HX.out 3).trans rfl, (blk_cell HX.out 4).trans rfl⟩ (fun hHeld => ?_)); (clear hK K); (refine norm_ (a' := ?_) ?_ ?_); (rotate_left)
  · (show Act.put _ (some 22) _ = _); (simp only [Act.put, List.setIfInBounds_toArray, List.set_cons_zero, List.set_cons_succ, i64_w, i32_w]); (rfl)
  (refine one_ (i := 8) (N := some 25) #[true, true, true, true, true, true, true, true, true, false, false, false] rfl rfl (one_of HT_.out (by kernel_rfl)) (by decide) (fun K hK => ?_)); (refine goes_ Tryz.func29 (by kernel_rfl) rfl #[.int .i64 a0_4] (by rfl) rfl rfl (by (try simp only [List.map_toArray, List.map_cons, List.map_nil]); first | done | rfl) ?_); (with_reducible refine (strconv_Itoa.calls a0_4 _ _ (by unfold strconv_Itoa.f; rw [if_pos HS.out.2.2.2.2]) (GW.below HG.out ((hwB.trans (HB.out.mono hwB.size))))).mono ?_); (rintro e W7 ⟨rfl, hb⟩); (refine ⟨_, rfl, ?_⟩); (have n0_ := Aside0.mk ((hb.block _ (blk_lt HX.out)).trans HX.out)); (have n1_ := Aside0.mk (Bd.kept HI.out (grown_of hb) (by simp))); (have n2_ := Aside0.mk (HB.out.trans (hb.mono HB.out.size))); (clear HX HI HB hb); (have HX := n0_); (have HI := n1_); (have HB := n2_); (clear n0_ n1_ n2_); (refine hK.out _ _ ⟨(blk_cell HX.out 2).trans rfl, (blk_cell HX.out 3).trans rfl, (blk_cell HX.out 4).trans rfl⟩ (fun hHeld => ?_)); (clear hK K); (refine norm_ (a' := ?_) ?_ ?_); (rotate_left)
  · (show Act.put _ (some 25) _ = _); (simp only [Act.put, List.setIfInBounds_toArray, List.set_cons_zero, List.set_cons_succ, i64_w, i32_w]); (rfl)
  (refine one_ (i := 9) (N := some 26) #[true, true, true, true, true, true, true, true, true, true, false, false] rfl rfl (one_of HT_.out (by kernel_rfl)) (by decide) (fun K hK => ?_)); (refine Kd.R_lit_step Kd.string _ 9 ?hg (N := 26) ?hd (xs := ([(⟨#[64, 98, 97, 115, 101]⟩ : ByteArray), (⟨(Lib.itoa a0_2).toArray⟩ : ByteArray), (⟨(Lib.itoa a0_3).toArray⟩ : ByteArray), (⟨(Lib.itoa a0_4).toArray⟩ : ByteArray)] : List ByteArray)) (inner := [.string (⟨#[64, 98, 97, 115, 101]⟩ : ByteArray), .string (⟨(Lib.itoa a0_2).toArray⟩ : ByteArray), .string (⟨(Lib.itoa a0_3).toArray⟩ : ByteArray), .string (⟨(Lib.itoa a0_4).toArray⟩ : ByteArray)]) (ok := fun _ => True) (okp := fun _ => True) ?hr ?hp (fun _ hk => hk) trivial (Below.refl _ _) (Nat.le_refl _) (by simp) ?_; (case hd => rfl); (case hg => rfl); (case hr => first | (go_simp; done) | (go_simp; rfl)); (case hp => exact (Reps.one (show Kd.M Kd.string _ _ _ (⟨#[64, 98, 97, 115, 101]⟩ : ByteArray) [.string (⟨#[64, 98, 97, 115, 101]⟩ : ByteArray)] from rfl) (Reps.one (show Kd.M Kd.string _ _ _ (⟨(Lib.itoa a0_2).toArray⟩ : ByteArray) [.string (⟨(Lib.itoa a0_2).toArray⟩ : ByteArray)] from rfl) (Reps.one (show Kd.M Kd.string _ _ _ (⟨(Lib.itoa a0_3).toArray⟩ : ByteArray) [.string (⟨(Lib.itoa a0_3).toArray⟩ : ByteArray)] from rfl) (Reps.one (show Kd.M Kd.string _ _ _ (⟨(Lib.itoa a0_4).toArray⟩ : ByteArray) [.string (⟨(Lib.itoa a0_4).toArray⟩ : ByteArray)] from rfl) (Reps.none _ _))))))); (intro v1 W8 hR hb hg_ hnew_); (clear hg_ hnew_); (have n0_ := Aside0.mk ((hb.block _ (blk_lt HX.out)).trans HX.out)); (have n1_ := Aside0.mk (Bd.kept HI.out (grown_of hb) (by simp))); (have n2_ := Aside0.mk (HB.out.trans (hb.mono HB.out.size))); (clear HX HI HB hb); (have HX := n0_); (have HI := n1_); (have HB := n2_); (clear n0_ n1_ n2_); (obtain ⟨Av, cv, rfl⟩ := Kd.R_slice hR); (have HR := Aside0.mk hR); (clear hR); (refine hK.out _ _ ⟨(blk_cell HX.out 2).trans rfl, (blk_cell HX.out 3).trans rfl, (blk_cell HX.out 4).trans rfl⟩ (fun hHeld => ?_)); (clear hK K); (refine norm_ (a' := ?_) ?_ ?_); (rotate_left)
  · (show Act.put _ (some 26) _ = _); (simp only [Act.put, List.setIfInBounds_toArray, List.set_cons_zero, List.set_cons_succ, i64_w, i32_w]); (rfl)
  (refine one_ (i := 10) (N := some 27) #[true, true, true, true, true, true, true, true, true, true, true, false] rfl rfl (one_of HT_.out (by kernel_rfl)) (by decide) (fun K hK => ?_)); (refine goes_ Tryz.func28 (by kernel_rfl) rfl #[.slice Av ([(⟨#[64, 98, 97, 115, 101]⟩ : ByteArray), (⟨(Lib.itoa a0_2).toArray⟩ : ByteArray), (⟨(Lib.itoa a0_3).toArray⟩ : ByteArray), (⟨(Lib.itoa a0_4).toArray⟩ : ByteArray)] : List ByteArray).length cv] (by rfl) rfl rfl (by (try simp only [List.map_toArray, List.map_cons, List.map_nil]); first | done | rfl) ?_); (with_reducible refine (element_words.calls _ _ [(⟨#[64, 98, 97, 115, 101]⟩ : ByteArray), (⟨(Lib.itoa a0_2).toArray⟩ : ByteArray), (⟨(Lib.itoa a0_3).toArray⟩ : ByteArray), (⟨(Lib.itoa a0_4).toArray⟩ : ByteArray)] (ofL (baseT a0_2 a0_3 a0_4)) _ (Kd.R_reads' HR.out).2.2 (Kd.R_reads' HR.out).2.1 HW5.out).mono ?_); (rintro e W9 ⟨rfl, hb⟩); (refine ⟨_, rfl, ?_⟩); (have n0_ := Aside0.mk ((hb.block _ (blk_lt HX.out)).trans HX.out)); (have n1_ := Aside0.mk (Bd.kept HI.out (grown_of hb) (by simp))); (have n2_ := Aside0.mk (HB.out.trans (hb.mono HB.out.size))); (clear HX HI HB hb); (have HX := n0_); (have HI := n1_); (have HB := n2_); (clear n0_ n1_ n2_); (refine hK.out _ _ ⟨(blk_cell HX.out 2).trans rfl, (blk_cell HX.out 3).trans rfl, (blk_cell HX.out 4).trans rfl⟩ (fun hHeld => ?_)); (clear hK K); (refine norm_ (a' := ?_) ?_ ?_); (rotate_left)
  · (show Act.put _ (some 27) _ = _); (simp only [Act.put, List.setIfInBounds_toArray, List.set_cons_zero, List.set_cons_succ, i64_w, i32_w]); (rfl)
  (refine one_ (i := 11) (N := some 28) #[true, true, true, true, true, true, true, true, true, true, true, true] rfl rfl (one_of HT_.out (by kernel_rfl)) (by decide) (fun K hK => ?_)); (refine goes_ Tryz.func27 (by kernel_rfl) rfl #[.pointer (some ⟨W1.heap.size, 0, none⟩), .string (ofL (baseT a0_2 a0_3 a0_4))] (by rfl) rfl rfl (by (try simp only [List.map_toArray, List.map_cons, List.map_nil]); first | done | rfl) ?_); (with_reducible refine (Bd.WriteString W1.heap.size W1.heap.size [] (ofL (baseT a0_2 a0_3 a0_4)) _ HI.out (by rw [ofL_size]; have := baseT_len a0_2 a0_3 a0_4; simp; omega) HB.out.size).mono ?_); (rintro e W10 ⟨rfl, hI, hb, hk⟩); (refine ⟨_, rfl, ?_⟩); (have n0_ := Aside0.mk ((hb.block _ hX1lt).trans HX.out)); (have n1_ := Aside0.mk (cells_more [] (baseT a0_2 a0_3 a0_4) (baseT a0_2 a0_3 a0_4 ++ ([] : List S46).flatMap groupT) _ (ofL_list _) (by simp) hI)); (have n2_ := Aside0.mk (HB.out.trans hb)); (clear HX HI HB hb hI hk HR); (have HX := n0_); (have HI := n1_); (have HB := n2_); (clear n0_ n1_ n2_); (refine hK.out _ _ ⟨(blk_cell HX.out 2).trans rfl, (blk_cell HX.out 3).trans rfl, (blk_cell HX.out 4).trans rfl⟩ (fun hHeld => ?_)); (clear hK K); (refine norm_ (a' := ?_) ?_ ?_); (rotate_left)
  · (show Act.put _ (some 28) _ = _); (simp only [Act.put, List.setIfInBounds_toArray, List.set_cons_zero, List.set_cons_succ, i64_w, i32_w]); (rfl)
  (refine done_ (done_of HT_.out (by kernel_rfl)) ?_); (have e0 := blk_cell HX.out 0); (have e1 := blk_cell HX.out 1); (go_wp2_with fail); (go_loopg [32] l0_1.length (fun g v wx => ∃ i : Nat, i ≤ l0_1.length ∧ v = .int .i64 (i : Int) ∧ i + g = l0_1.length ∧ Aside0 (Bd.Is W1.heap.size W1.heap.size (Lib.byteCells (baseT a0_2 a0_3 a0_4 ++ (l0_1.take i).flatMap groupT)) wx) ∧ Aside0 (Below W1.heap.size W1 wx)))
  case atStart => exact ⟨0, by omega, rfl, by omega, ⟨HI.out⟩, ⟨HB.out⟩⟩
  case round =>
    (clear HX HI HB); (obtain ⟨i, hile, rfl, hig, HI, HB⟩ := hrel); (have HBw : Aside0 (Below w.heap.size w wr) := ⟨hwB.trans (HB.out.mono hwB.size)⟩); (have HXr : Aside0 (wr.heap[w.heap.size]? = some (.cells #[.slice A0_0 l0_0.length c0_0, .slice A0_1 l0_1.length c0_1, .int .i64 a0_2, .int .i64 a0_3, .int .i64 a0_4] 35 (0, 0))) := ⟨(HB.out.block _ hX1lt).trans hX1⟩)
    cases gk with
    | zero =>
      (obtain rfl : i = l0_1.length := by omega); (rw [List.take_length] at HI); (have e0 := blk_cell HXr.out 0); (go_wp2_with fail); (go_loopg [51] l0_0.length (fun g v wx => ∃ i : Nat, i ≤ l0_0.length ∧ v = .int .i64 (i : Int) ∧ i + g = l0_0.length ∧ Aside0 (Bd.Is W1.heap.size W1.heap.size (Lib.byteCells (baseT a0_2 a0_3 a0_4 ++ l0_1.flatMap groupT ++ (l0_0.take i).flatMap entryT)) wx) ∧ Aside0 (Below W1.heap.size W1 wx)))
      case atStart => exact ⟨0, by omega, rfl, by omega, ⟨by simpa using HI.out⟩, ⟨HB.out⟩⟩
      case round =>
        (clear HI HB HBw HXr); (obtain ⟨i, hile, rfl, hig, HI, HB⟩ := hrel)
        cases gk with
        | zero =>
          (obtain rfl : i = l0_0.length := by omega); (rw [List.take_length] at HI); (obtain ⟨T, hT⟩ : ∃ T, fileT l0_0 l0_1 a0_2 a0_3 a0_4 = T := ⟨_, rfl⟩); (have HJ : Aside0 (Bd.Is W1.heap.size W1.heap.size (Lib.byteCells T) wr) := ⟨by rw [← hT]; exact HI.out⟩); (rw [hT] at HH); (clear hT HI); (go_wp2_with fail); (refine (Tryz.Builder_String_any_k W1.heap.size W1.heap.size T _ HJ.out HB.out.size).mono ?_); (rintro e W9 ⟨rfl, hI9, hB9, hk9⟩); (go_wp2); (go_ret2); (obtain ⟨rfl, rfl⟩ := HH.out)
          exact ⟨rfl, (hwB.trans (HB.out.mono hwB.size)).trans (hB9.mono hwB.size)⟩
        | succ g =>
          (have hi : i < l0_0.length := by omega); (have HBw : Aside0 (Below w.heap.size w wr) := ⟨hwB.trans (HB.out.mono hwB.size)⟩); (obtain ⟨ad, B0, d0, B1, d1, rfl, hx0, hx1, hl0, hi0, hl1, hi1⟩ := at_T49 (Kd.C_below HR0.out HBw.out) (i : Int) (by omega) (by omega)); (obtain ⟨x, hx⟩ : ∃ x, l0_0[i]'hi = x := ⟨_, rfl⟩); (rw [rdX_at l0_0 i hi, hx] at hx0 hx1 hl0 hi0 hl1 hi1); (rw [Int.toNat_natCast] at hx0 hx1); (have HC0 := Aside0.mk hi0); (have HC1 := Aside0.mk hi1); (have hxm : x ∈ l0_0 := by rw [← hx]; exact List.getElem_mem hi); (have hxs := HS.out.1.2.2 x hxm); (have hva := HV.out x hxm)
          have HF : Aside0 (∀ N : List UInt8, N = entryT x → (baseT a0_2 a0_3 a0_4 ++ l0_1.flatMap groupT ++ (l0_0.take i).flatMap entryT) ++ N = baseT a0_2 a0_3 a0_4 ++ l0_1.flatMap groupT ++ (l0_0.take (i + 1)).flatMap entryT) := ⟨fun N hN => by
            rw [List.take_succ_eq_append_getElem hi, List.flatMap_append, hx, hN]
            simp⟩
          obtain ⟨T, hT⟩ : ∃ T, baseT a0_2 a0_3 a0_4 ++ l0_1.flatMap groupT ++ (l0_0.take i).flatMap entryT = T := ⟨_, rfl⟩
          have hTl : T.length ≤ 500000000000 := by
            (rw [← hT, List.length_append, List.length_append]); (have h1 := baseT_len' a0_2 a0_3 a0_4 HS.out.2.2.1 HS.out.2.2.2.1 HS.out.2.2.2.2); (have h2 := groupsT_len l0_1 HS.out.2.1); (have h3 := entriesT_len (l0_0.take i) (fun y hy => HS.out.1.2.2 y (List.mem_of_mem_take hy))); (rw [List.length_take] at h3); (omega)
          (rw [hT] at HF HI); (clear hT hx hi0 hi1); (have hct := join_size x.f0); (have het := elsT_len x.f1); (have htx : element_text.f x.f1 = some (ofL (x.f1.flatMap elT)) := by unfold element_text.f; rw [if_pos (by omega)]); (have heq : codesT x.f0 ++ ([59, 32] ++ (x.f1.flatMap elT ++ [10])) = entryT x := rfl); (obtain ⟨TX, hTX⟩ : ∃ TX, x.f1.flatMap elT = TX := ⟨_, rfl⟩); (rw [hTX] at het htx heq); (have HTX := Aside0.mk htx); (have HEQ := Aside0.mk heq); (clear hTX htx heq); (have hcs : (ofL (codesT x.f0)).size = (codesT x.f0).length := rfl); (have hes : (ofL TX).size = TX.length := rfl); (have hbig1 : (9223372036854775807 < (codesT x.f0).length + 2) = False := eq_false (by omega)); (have hbig2 : (9223372036854775807 < (codesT x.f0).length + 2 + TX.length) = False := eq_false (by omega)); (have hbig3 : (9223372036854775807 < (codesT x.f0).length + 2 + TX.length + 1) = False := eq_false (by omega)); (obtain ⟨K2, hK2⟩ := codes_ev x.f0 (by omega))
          have CK2 : Aside0 (escape_Codes.f K2 x.f0 = some (ofL (codesT x.f0), 0)) := ⟨by
            (have := hK2 K2 (Nat.le_refl _)); (unfold codesL at this); (rw [if_pos hva] at this)
            exact this⟩
          (clear hK2); (have q0 : (0 ≤ (i : Int)) = True := eq_true (by omega)); (have q1 : ((i : Int) < (l0_0.length : Int)) = True := eq_true (by omega)); (have hsz := HB.out.size); (go_wp2_with fail); (refine (escape_Codes.calls K2 B0 d0 x.f0 _ _ _ (Kd.C_alloc HC0.out _) hl0 CK2.out).mono ?_); (rintro e W2 ⟨rfl, hb⟩); (have hX2 : W2.heap[wr.heap.size]? = some (.cells #[.slice B0 x.f0.length d0, .slice B1 x.f1.length d1] 49 (0, 0)) := (hb.block _ (by simp)).trans (heap_alloc_new wr _)); (have hbr : Below wr.heap.size wr W2 := (below_alloc (Below.refl _ _) _).trans (hb.mono (by simp))); (have hI2 : Bd.Is W1.heap.size W1.heap.size (Lib.byteCells T) W2 := Bd.kept HI.out (grown_of hbr) (by simp)); (have hB2 : Below W1.heap.size W1 W2 := HB.out.trans (hbr.mono hsz)); (have hC2 := Kd.C_below HC1.out hbr); (clear hb hx0 hx1); (have y1 := blk_cell hX2 1); (go_wp2_with fail); (refine (element_text.calls B1 d1 x.f1 _ _ hC2 hl1 HTX.out).mono ?_); (rintro e W3 ⟨rfl, hb⟩); (have hI3 : Bd.Is W1.heap.size W1.heap.size (Lib.byteCells T) W3 := Bd.kept hI2 (grown_of hb) (by simp)); (have hB3 : Below W1.heap.size W1 W3 := hB2.trans (hb.mono hB2.size)); (clear hb hI2 hB2 hC2 hbr y1 hX2); (go_wp2_with fail)
          have hS : ofL (codesT x.f0) ++ (⟨#[59, 32]⟩ : ByteArray) ++ ofL TX ++ (⟨#[10]⟩ : ByteArray) = ofL (entryT x) := by
            (rw [show (⟨#[59, 32]⟩ : ByteArray) = ofL [59, 32] from rfl, show (⟨#[10]⟩ : ByteArray) = ofL [10] from rfl, ofL_append, ofL_append, ofL_append, ← HEQ.out]); (simp)
          (rw [hS]); (refine (Bd.WriteString W1.heap.size W1.heap.size _ (ofL (entryT x)) _ hI3 (by rw [bcells_len, ofL_size]; have := entryT_len x hxs; omega) hB3.size).mono ?_); (rintro e W4 ⟨rfl, hI4', hb4, hk4⟩); (have hI4 := cells_more _ (entryT x) _ _ (ofL_list _) (HF.out _ rfl) hI4'); (have hB4 : Below W1.heap.size W1 W4 := hB3.trans hb4); (clear hI4' hb4 hk4); (go_wp2_with fail); (go_roundg g)
          case measure => omega
          case rel => exact ⟨i + 1, by omega, by simp, by omega, ⟨hI4⟩, ⟨hB4⟩⟩
    | succ g =>
      (have hi : i < l0_1.length := by omega); (obtain ⟨ad, rfl, hx0, hx1, hx2⟩ := at_T46 (Kd.C_below HR1.out HBw.out) (i : Int) (by omega) (by omega)); (obtain ⟨x, hx⟩ : ∃ x, l0_1[i]'hi = x := ⟨_, rfl⟩); (rw [rdG_at l0_1 i hi, hx, Int.toNat_natCast] at hx0 hx1 hx2); (have hxm : x ∈ l0_1 := by rw [← hx]; exact List.getElem_mem hi); (have hxs := HS.out.2.1 x hxm)
      have HF : Aside0 (∀ N : List UInt8, N = groupT x → (baseT a0_2 a0_3 a0_4 ++ (l0_1.take i).flatMap groupT) ++ N = baseT a0_2 a0_3 a0_4 ++ (l0_1.take (i + 1)).flatMap groupT) := ⟨fun N hN => by
        rw [List.take_succ_eq_append_getElem hi, List.flatMap_append, hx, hN]
        simp⟩
      obtain ⟨T, hT⟩ : ∃ T, baseT a0_2 a0_3 a0_4 ++ (l0_1.take i).flatMap groupT = T := ⟨_, rfl⟩
      have hTl : T.length ≤ 500000000000 := by
        (rw [← hT, List.length_append]); (have h1 := baseT_len' a0_2 a0_3 a0_4 HS.out.2.2.1 HS.out.2.2.2.1 HS.out.2.2.2.2); (have h2 := groupsT_len (l0_1.take i) (fun y hy => HS.out.2.1 y (List.mem_of_mem_take hy))); (rw [List.length_take] at h2); (omega)
      (rw [hT] at HF HI); (clear hT hx); (have hgl := groupT_len x hxs)
      have hbz : W1.heap.size < wr.heap.size := by
        rcases HI.out with h | h
        · exact h.lt
        · exact h.lt
      (have q0 : (0 ≤ (i : Int)) = True := eq_true (by omega)); (have q1 : ((i : Int) < (l0_1.length : Int)) = True := eq_true (by omega)); (have hsz := HB.out.size)
      have HW9 : Aside0 (element_words.f [(⟨#[64, 103, 114, 111, 117, 112]⟩ : ByteArray), x.f0, (⟨(Lib.itoa x.f1).toArray⟩ : ByteArray), (⟨(Lib.itoa x.f2).toArray⟩ : ByteArray)] = some (ofL (groupT x))) := ⟨by
        (have e : x.f0.data.toList.length = x.f0.size := by simp); (have := words4_f groupW x.f0.data.toList (Lib.itoa x.f1) (Lib.itoa x.f2) (by have := itoa_len x.f1 hxs.2.1; have := itoa_len x.f2 hxs.2.2; rw [e]; simp [groupW]; omega)); (rw [ofL_eq] at this)
        exact this⟩
      go_wp2_with fail
      have hW2d : ∀ W2, wr.alloc (.cells #[.string x.f0, .int .i64 x.f1, .int .i64 x.f2] 46) = W2 → Aside0 (W2.drew.heap[wr.heap.size]? = some (.cells #[.string x.f0, .int .i64 x.f1, .int .i64 x.f2] 46 (0, 0))) ∧ Aside0 (Bd.Is W1.heap.size W1.heap.size (Lib.byteCells T) W2.drew) ∧ Aside0 (Below W1.heap.size W1 W2.drew) := by
        (rintro W2 rfl); (exact ⟨⟨blk_drew (heap_alloc_new wr _)⟩, ⟨Bd.kept HI.out (grown_of (below_drew (below_alloc (Below.refl _ _) _))) (by simp)⟩, ⟨below_drew (below_alloc HB.out _)⟩⟩)
      (clear HI HB); (obtain ⟨HX, HI, HB⟩ := hW2d _ rfl); (refine start_ (n := 11) (S := fun w' => w'.cell? ⟨wr.heap.size, 0, none⟩ = some (.string x.f0) ∧ w'.cell? ⟨wr.heap.size, 1, none⟩ = some (.int .i64 x.f1) ∧ w'.cell? ⟨wr.heap.size, 2, none⟩ = some (.int .i64 x.f2)) (ds := []) #[false, false, false, false, false, false, false, false, false, false, false] (by kernel_rfl) rfl rfl ⟨(blk_cell HX.out 0).trans rfl, (blk_cell HX.out 1).trans rfl, (blk_cell HX.out 2).trans rfl⟩ (fun hHeld => ?_); refine with_tabW element_FileText.tab9 element_FileText.bits9 (fun HT_ HW_ => ?_)); (refine pure_ (i := 0) (N := some 36) (v := ?_) (a' := ?_) #[true, false, false, false, false, false, false, false, false, false, false] rfl rfl (any_of HT_.out (by kernel_rfl)) (fun _ _ _ h => h) (Or.inl ⟨by rfl, ?_⟩) ?_ ?_); (rotate_left)
      · (intro w'); (go_simp); (with_reducible rfl)
      rotate_left
      · (simp only [Act.put, List.setIfInBounds_toArray, List.set_cons_zero, List.set_cons_succ, i64_w, i32_w]); (rfl)
      (refine take_ (i := 1) (N := some 37) (v := ?_) (a' := ?_) #[true, true, false, false, false, false, false, false, false, false, false] rfl rfl (take_ofW HT_.out HW_.out (by kernel_rfl)) (fun _ _ _ h => h) (Or.inl ⟨by rfl, ?_⟩) hHeld ?_ ?_); (rotate_left)
      · (rintro w' ⟨s0, s1, s2⟩); (go_simp); (with_reducible rfl)
      rotate_left
      · (simp only [Act.put, List.setIfInBounds_toArray, List.set_cons_zero, List.set_cons_succ, i64_w, i32_w]); (rfl)
      (refine pure_ (i := 2) (N := some 38) (v := ?_) (a' := ?_) #[true, true, true, false, false, false, false, false, false, false, false] rfl rfl (any_of HT_.out (by kernel_rfl)) (fun _ _ _ h => h) (Or.inl ⟨by rfl, ?_⟩) ?_ ?_); (rotate_left)
      · (intro w'); (go_simp); (with_reducible rfl)
      rotate_left
      · (simp only [Act.put, List.setIfInBounds_toArray, List.set_cons_zero, List.set_cons_succ, i64_w, i32_w]); (rfl)
      (refine take_ (i := 3) (N := some 39) (v := ?_) (a' := ?_) #[true, true, true, true, false, false, false, false, false, false, false] rfl rfl (take_ofW HT_.out HW_.out (by kernel_rfl)) (fun _ _ _ h => h) (Or.inl ⟨by rfl, ?_⟩) hHeld ?_ ?_); (rotate_left)
      · (rintro w' ⟨s0, s1, s2⟩); (go_simp); (with_reducible rfl)
      rotate_left
      · (simp only [Act.put, List.setIfInBounds_toArray, List.set_cons_zero, List.set_cons_succ, i64_w, i32_w]); (rfl)
      (refine pure_ (i := 5) (N := some 41) (v := ?_) (a' := ?_) #[true, true, true, true, false, true, false, false, false, false, false] rfl rfl (any_of HT_.out (by kernel_rfl)) (fun _ _ _ h => h) (Or.inl ⟨by rfl, ?_⟩) ?_ ?_); (rotate_left)
      · (intro w'); (go_simp); (with_reducible rfl)
      rotate_left
      · (simp only [Act.put, List.setIfInBounds_toArray, List.set_cons_zero, List.set_cons_succ, i64_w, i32_w]); (rfl)
      (refine take_ (i := 6) (N := some 42) (v := ?_) (a' := ?_) #[true, true, true, true, false, true, true, false, false, false, false] rfl rfl (take_ofW HT_.out HW_.out (by kernel_rfl)) (fun _ _ _ h => h) (Or.inl ⟨by rfl, ?_⟩) hHeld ?_ ?_); (rotate_left)
      · (rintro w' ⟨s0, s1, s2⟩); (go_simp); (with_reducible rfl)
      rotate_left
      · (simp only [Act.put, List.setIfInBounds_toArray, List.set_cons_zero, List.set_cons_succ, i64_w, i32_w]); (rfl)
      (refine one_ (i := 4) (N := some 40) #[true, true, true, true, true, true, true, false, false, false, false] rfl rfl (one_of HT_.out (by kernel_rfl)) (by decide) (fun K hK => ?_)); (refine goes_ Tryz.func29 (by kernel_rfl) rfl #[.int .i64 x.f1] (by rfl) rfl rfl (by (try simp only [List.map_toArray, List.map_cons, List.map_nil]); first | done | rfl) ?_); (with_reducible refine (strconv_Itoa.calls x.f1 _ _ (by unfold strconv_Itoa.f; rw [if_pos hxs.2.1]) (GW.below HG.out ((hwB.trans (HB.out.mono hwB.size))))).mono ?_); (rintro e W5 ⟨rfl, hb⟩); (refine ⟨_, rfl, ?_⟩); (have n0_ := Aside0.mk ((hb.block _ (blk_lt HX.out)).trans HX.out)); (have n1_ := Aside0.mk (Bd.kept HI.out (grown_of hb) (by simp))); (have n2_ := Aside0.mk (HB.out.trans (hb.mono HB.out.size))); (clear HX HI HB hb); (have HX := n0_); (have HI := n1_); (have HB := n2_); (clear n0_ n1_ n2_); (refine hK.out _ _ ⟨(blk_cell HX.out 0).trans rfl, (blk_cell HX.out 1).trans rfl, (blk_cell HX.out 2).trans rfl⟩ (fun hHeld => ?_)); (clear hK K); (refine norm_ (a' := ?_) ?_ ?_); (rotate_left)
      · (show Act.put _ (some 40) _ = _); (simp only [Act.put, List.setIfInBounds_toArray, List.set_cons_zero, List.set_cons_succ, i64_w, i32_w]); (rfl)
      (refine one_ (i := 7) (N := some 43) #[true, true, true, true, true, true, true, true, false, false, false] rfl rfl (one_of HT_.out (by kernel_rfl)) (by decide) (fun K hK => ?_)); (refine goes_ Tryz.func29 (by kernel_rfl) rfl #[.int .i64 x.f2] (by rfl) rfl rfl (by (try simp only [List.map_toArray, List.map_cons, List.map_nil]); first | done | rfl) ?_); (with_reducible refine (strconv_Itoa.calls x.f2 _ _ (by unfold strconv_Itoa.f; rw [if_pos hxs.2.2]) (GW.below HG.out ((hwB.trans (HB.out.mono hwB.size))))).mono ?_); (rintro e W6 ⟨rfl, hb⟩); (refine ⟨_, rfl, ?_⟩); (have n0_ := Aside0.mk ((hb.block _ (blk_lt HX.out)).trans HX.out)); (have n1_ := Aside0.mk (Bd.kept HI.out (grown_of hb) (by simp))); (have n2_ := Aside0.mk (HB.out.trans (hb.mono HB.out.size))); (clear HX HI HB hb); (have HX := n0_); (have HI := n1_); (have HB := n2_); (clear n0_ n1_ n2_); (refine hK.out _ _ ⟨(blk_cell HX.out 0).trans rfl, (blk_cell HX.out 1).trans rfl, (blk_cell HX.out 2).trans rfl⟩ (fun hHeld => ?_)); (clear hK K); (refine norm_ (a' := ?_) ?_ ?_); (rotate_left)
      · (show Act.put _ (some 43) _ = _); (simp only [Act.put, List.setIfInBounds_toArray, List.set_cons_zero, List.set_cons_succ, i64_w, i32_w]); (rfl)
      (refine one_ (i := 8) (N := some 44) #[true, true, true, true, true, true, true, true, true, false, false] rfl rfl (one_of HT_.out (by kernel_rfl)) (by decide) (fun K hK => ?_)); (refine Kd.R_lit_step Kd.string _ 9 ?hg (N := 44) ?hd (xs := ([(⟨#[64, 103, 114, 111, 117, 112]⟩ : ByteArray), x.f0, (⟨(Lib.itoa x.f1).toArray⟩ : ByteArray), (⟨(Lib.itoa x.f2).toArray⟩ : ByteArray)] : List ByteArray)) (inner := [.string (⟨#[64, 103, 114, 111, 117, 112]⟩ : ByteArray), .string x.f0, .string (⟨(Lib.itoa x.f1).toArray⟩ : ByteArray), .string (⟨(Lib.itoa x.f2).toArray⟩ : ByteArray)]) (ok := fun _ => True) (okp := fun _ => True) ?hr ?hp (fun _ hk => hk) trivial (Below.refl _ _) (Nat.le_refl _) (by simp) ?_; (case hd => rfl); (case hg => rfl); (case hr => first | (go_simp; done) | (go_simp; rfl)); (case hp => exact (Reps.one (show Kd.M Kd.string _ _ _ (⟨#[64, 103, 114, 111, 117, 112]⟩ : ByteArray) [.string (⟨#[64, 103, 114, 111, 117, 112]⟩ : ByteArray)] from rfl) (Reps.one (show Kd.M Kd.string _ _ _ x.f0 [.string x.f0] from rfl) (Reps.one (show Kd.M Kd.string _ _ _ (⟨(Lib.itoa x.f1).toArray⟩ : ByteArray) [.string (⟨(Lib.itoa x.f1).toArray⟩ : ByteArray)] from rfl) (Reps.one (show Kd.M Kd.string _ _ _ (⟨(Lib.itoa x.f2).toArray⟩ : ByteArray) [.string (⟨(Lib.itoa x.f2).toArray⟩ : ByteArray)] from rfl) (Reps.none _ _))))))); (intro v1 W8 hR hb hg_ hnew_); (clear hg_ hnew_); (have n0_ := Aside0.mk ((hb.block _ (blk_lt HX.out)).trans HX.out)); (have n1_ := Aside0.mk (Bd.kept HI.out (grown_of hb) (by simp))); (have n2_ := Aside0.mk (HB.out.trans (hb.mono HB.out.size))); (clear HX HI HB hb); (have HX := n0_); (have HI := n1_); (have HB := n2_); (clear n0_ n1_ n2_); (obtain ⟨Av, cv, rfl⟩ := Kd.R_slice hR); (have HR := Aside0.mk hR); (clear hR); (refine hK.out _ _ ⟨(blk_cell HX.out 0).trans rfl, (blk_cell HX.out 1).trans rfl, (blk_cell HX.out 2).trans rfl⟩ (fun hHeld => ?_)); (clear hK K); (refine norm_ (a' := ?_) ?_ ?_); (rotate_left)
      · (show Act.put _ (some 44) _ = _); (simp only [Act.put, List.setIfInBounds_toArray, List.set_cons_zero, List.set_cons_succ, i64_w, i32_w]); (rfl)
      (refine one_ (i := 9) (N := some 45) #[true, true, true, true, true, true, true, true, true, true, false] rfl rfl (one_of HT_.out (by kernel_rfl)) (by decide) (fun K hK => ?_)); (refine goes_ Tryz.func28 (by kernel_rfl) rfl #[.slice Av ([(⟨#[64, 103, 114, 111, 117, 112]⟩ : ByteArray), x.f0, (⟨(Lib.itoa x.f1).toArray⟩ : ByteArray), (⟨(Lib.itoa x.f2).toArray⟩ : ByteArray)] : List ByteArray).length cv] (by rfl) rfl rfl (by (try simp only [List.map_toArray, List.map_cons, List.map_nil]); first | done | rfl) ?_); (with_reducible refine (element_words.calls _ _ [(⟨#[64, 103, 114, 111, 117, 112]⟩ : ByteArray), x.f0, (⟨(Lib.itoa x.f1).toArray⟩ : ByteArray), (⟨(Lib.itoa x.f2).toArray⟩ : ByteArray)] (ofL (groupT x)) _ (Kd.R_reads' HR.out).2.2 (Kd.R_reads' HR.out).2.1 HW9.out).mono ?_); (rintro e W9 ⟨rfl, hb⟩); (refine ⟨_, rfl, ?_⟩); (have n0_ := Aside0.mk ((hb.block _ (blk_lt HX.out)).trans HX.out)); (have n1_ := Aside0.mk (Bd.kept HI.out (grown_of hb) (by simp))); (have n2_ := Aside0.mk (HB.out.trans (hb.mono HB.out.size))); (clear HX HI HB hb); (have HX := n0_); (have HI := n1_); (have HB := n2_); (clear n0_ n1_ n2_); (refine hK.out _ _ ⟨(blk_cell HX.out 0).trans rfl, (blk_cell HX.out 1).trans rfl, (blk_cell HX.out 2).trans rfl⟩ (fun hHeld => ?_)); (clear hK K); (refine norm_ (a' := ?_) ?_ ?_); (rotate_left)
      · (show Act.put _ (some 45) _ = _); (simp only [Act.put, List.setIfInBounds_toArray, List.set_cons_zero, List.set_cons_succ, i64_w, i32_w]); (rfl)
      (refine one_ (i := 10) (N := some 46) #[true, true, true, true, true, true, true, true, true, true, true] rfl rfl (one_of HT_.out (by kernel_rfl)) (by decide) (fun K hK => ?_)); (refine goes_ Tryz.func27 (by kernel_rfl) rfl #[.pointer (some ⟨W1.heap.size, 0, none⟩), .string (ofL (groupT x))] (by rfl) rfl rfl (by (try simp only [List.map_toArray, List.map_cons, List.map_nil]); first | done | rfl) ?_); (with_reducible refine (Bd.WriteString W1.heap.size W1.heap.size _ (ofL (groupT x)) _ HI.out (by rw [bcells_len, ofL_size]; omega) HB.out.size).mono ?_); (rintro e W10 ⟨rfl, hI, hb, hk⟩); (refine ⟨_, rfl, ?_⟩); (have n0_ := Aside0.mk (hk _ _ HX.out (by intro e; have := Option.some.inj e; omega) (by rintro c fz h; cases h))); (have n1_ := Aside0.mk (cells_more _ (groupT x) _ _ (ofL_list _) (HF.out _ rfl) hI)); (have n2_ := Aside0.mk (HB.out.trans hb)); (clear HX HI HB hb hI hk HR); (have HX := n0_); (have HI := n1_); (have HB := n2_); (clear n0_ n1_ n2_); (refine hK.out _ _ ⟨(blk_cell HX.out 0).trans rfl, (blk_cell HX.out 1).trans rfl, (blk_cell HX.out 2).trans rfl⟩ (fun hHeld => ?_)); (clear hK K); (refine norm_ (a' := ?_) ?_ ?_); (rotate_left)
      · (show Act.put _ (some 46) _ = _); (simp only [Act.put, List.setIfInBounds_toArray, List.set_cons_zero, List.set_cons_succ, i64_w, i32_w]); (rfl)
      (refine done_ (done_of HT_.out (by kernel_rfl)) ?_); (go_wp2_with fail); (go_roundg g)
      case measure => omega
      case rel => exact ⟨i + 1, by omega, by simp, by omega, HI, HB⟩
end Go.Proofs.YtdaijpjjilmkkaaGreatDoor.Pr

/- Plain laws of collations: what FileText writes, ParseFile reads back; what ParseFile read, FileText writes. -/
namespace Go.Proofs.YtdaijpjjilmkkaaGreatDoor.Pr
open Go.RowKit Go.Proofs.YtdaijpjjilmkkaaGreatDoorW.PrintWords Go.Proofs.YtdaijpjjilmkkaaGreatDoorW.PrintLast Go.Proofs.YtdaijpjjilmkkaaGreatDoorW.PrintMore
set_option linter.unusedVariables false
set_option linter.unusedSimpArgs false
theorem itoa_dec (u : Nat) : Lib.itoa (u : Int) = Lib.decDigits u := by
  (unfold Lib.itoa); (rw [if_neg (by omega)]); (simp)
theorem join2 (p q : List UInt8) (r : List (List UInt8)) (c : UInt8) : Lib.join (p :: q :: r) [c] = p ++ c :: Lib.join (q :: r) [c] := by
  (rw [Lib.join_cons, Lib.join_cons]); (unfold Lib.joinTail); (simp)
theorem okW_of (x : S44) (h : checkE x = 0) : okW x := by
  (unfold checkE at h); (unfold okW); (split at h)
  · next hc => exact hc
  · cases h
theorem errE_app (a b : List S44) : errE (a ++ b) = if errE a = 0 then errE b else errE a := by
  induction a with
  | nil => rw [List.nil_append, errE, if_pos rfl]
  | cons x r ih =>
    (rw [List.cons_append, errE, errE, ih]); (by_cases h : checkE x = 0)
    · rw [if_pos h, if_pos h]
    · rw [if_neg h, if_neg h, if_neg h]
theorem errE_mem : ∀ (l : List S44), errE l = 0 → ∀ x ∈ l, checkE x = 0
  | [], _, x, hx => by cases hx
  | y :: r, h, x, hx => by
    (rw [errE] at h); (by_cases hy : checkE y = 0)
    · (rw [if_pos hy] at h); (rcases List.mem_cons.1 hx with rfl | hx)
      · exact hy
      · exact errE_mem r h x hx
    · rw [if_neg hy] at h; exact absurd h hy
theorem flat_len : ∀ (l : List S44), (∀ x ∈ l, okW x) → (l.flatMap elT).length = 17 * l.length
  | [], _ => rfl
  | x :: r, h => by
    (rw [List.flatMap_cons, List.length_append, elT_len x (h x (by simp)), flat_len r (fun y hy => h y (List.mem_cons_of_mem _ hy))]); (simp); (omega)
theorem linesOf_of {s : List UInt8} {ls : List (List UInt8)} {r : List UInt8} (h : cutAt 10 s = ls ++ [r]) : linesOf s = if r = [] then ls else ls ++ [r] := by
  (have hl : (ls ++ [r]).getLastD [] = r := by simp); (unfold linesOf); (rw [h, hl]); (by_cases hr : r = [])
  · rw [if_pos hr, if_pos hr]; simp
  · rw [if_neg hr, if_neg hr]
def in64 (n : Int) : Prop := 0 ≤ n ∧ n ≤ 9223372036854775807
def okG (g : S46) : Prop := nameB g.f0.data.toList = true ∧ in64 g.f1 ∧ in64 g.f2
def okX (x : S49) : Prop := x.f0.all validB = true ∧ ∀ e ∈ x.f1, okW e
structure okF (l0 : List S49) (l1 : List S46) (a b c : Int) : Prop where
  g : ∀ g ∈ l1, okG g
  x : ∀ x ∈ l0, okX x
  e : ∀ x ∈ l0, errE x.f1 = 0
  n1 : in64 a
  n2 : in64 b
  n3 : in64 c
end Go.Proofs.YtdaijpjjilmkkaaGreatDoor.Pr

/- The contract of the reader's method line (a line of at most 100,000 bytes): what it reads is laid into the reader. Written by wip/gen_line.py. -/
namespace Go.Proofs.YtdaijpjjilmkkaaGreatDoor.Pr
open Go.RowKit Go.Shelf Go.Proofs.YtdaijpjjilmkkaaGreatDoorW.PrintWords Go.Proofs.YtdaijpjjilmkkaaGreatDoorW.PrintLast Go.Proofs.YtdaijpjjilmkkaaGreatDoorW.PrintMore
set_option linter.unusedVariables false
set_option linter.unusedSimpArgs false
def RdIs (P : Nat) (st : Rd) (W : World) : Prop := ∃ vE vG vL : Value, W.heap[P]? = some (.cells #[vE, vG, .int .i64 st.b1, .int .i64 st.b2, .int .i64 st.b3, .bool st.bg, vL] 72 (0, 0)) ∧ Kd.S k49 49 W (P + 1) (fun k => some k ≠ vL.ownBlock) vE st.es ∧ Kd.R k46 46 W (P + 1) (fun _ => True) vG st.gs ∧ Kd.R (Kd.int .i64) 3 W (P + 1) (fun _ => True) vL st.ls
theorem numsB_L (l : List (List UInt8)) : numsB (l.map ofL) = numsL l := by
  (unfold numsB numsL); (rw [List.mapM_map]); (congr 1)
theorem numerals_f (l : List (List UInt8)) (h : l.length ≤ 1000000) (h2 : ∀ q ∈ l, q.length ≤ 1000000) : element_numerals.f (l.map ofL) = some (match numsL l with | some vs => (vs, true) | none => ([], false)) := by
  unfold element_numerals.f
  rw [if_pos ⟨by simpa using h, List.all_eq_true.2 (fun s hs => by
    obtain ⟨q, hq, rfl⟩ := List.mem_map.1 hs
    exact decide_eq_true (by rw [ofL_size]; exact h2 q hq))⟩, numsB_L]
  cases numsL l <;> rfl
theorem numsL_len : ∀ (l : List (List UInt8)) (vs : List Int), numsL l = some vs → vs.length = l.length
  | [], vs, h => by cases h; rfl
  | q :: r, vs, h => by
    (unfold numsL at h); (rw [List.mapM_cons] at h); (obtain ⟨x, -, h⟩ := Option.bind_eq_some_iff.1 h); (obtain ⟨ys, h1, h⟩ := Option.bind_eq_some_iff.1 h); (cases h); (have := numsL_len r ys h1); (simp [this])
theorem cut_le (s sep : List UInt8) : (Lib.cut s sep).1.length ≤ s.length ∧ (Lib.cut s sep).2.1.length ≤ s.length := by
  (unfold Lib.cut); (split)
  · (simp); (omega)
  · simp
theorem S_setP {α : Type} {d : Kd α} {e P : Nat} {w : World} {ok : Nat → Prop} {v : Value} {xs : List α} (h : Kd.S d e w (P + 1) ok v xs) (j : Nat) (u : Value) : Kd.S d e (w.setCell ⟨P, j, none⟩ u) (P + 1) ok v xs :=
  Kd.S_mono (Kd.S_far (p := ⟨P, j, none⟩) (Kd.S_bound h) (fun k hk => by have := hk.2.1; simp; omega) u) (fun _ hk => hk.1)
theorem R_setP {α : Type} {d : Kd α} {e P : Nat} {w : World} {ok : Nat → Prop} {v : Value} {xs : List α} (h : Kd.R d e w (P + 1) ok v xs) (j : Nat) (u : Value) : Kd.R d e (w.setCell ⟨P, j, none⟩ u) (P + 1) ok v xs :=
  Kd.R_mono (Kd.R_far (p := ⟨P, j, none⟩) (Kd.R_bound h) (fun k hk => by have := hk.2.1; simp; omega) u) (fun _ hk => hk.1)
theorem infoEntry : (Tryz.prog.info? 49).map (fun i => (i.zero, i.size, i.bytes)) = some (some (.agg #[.slice none 0 0, .slice none 0 0]), 2, 48) := by kernel_rfl
def reader_line.T6 : Bool × List (List Nat × List Nat) := (true, [([], []), ([], []), ([], []), ([], []), ([3], [3]), ([4], [4]), ([], []), ([6], [6]), ([7], [7]), ([], []), ([9], [9]), ([10], [10]), ([0, 0, 3, 4, 5, 8, 11], [0]), ([12, 0, 3, 4, 5, 8, 11], [12]), ([13, 0, 3, 4, 5, 8, 11], [13]), ([14, 5, 0, 3, 4, 5, 8, 11], [5, 14]), ([1, 0, 1, 3, 4, 5, 6, 7, 8, 11, 12, 13, 14, 15], [1]), ([16, 0, 1, 3, 4, 5, 6, 7, 8, 11, 12, 13, 14, 15], [16]), ([17, 0, 1, 3, 4, 5, 6, 7, 8, 11, 12, 13, 14, 15], [17]), ([18, 8, 15, 0, 1, 3, 4, 5, 6, 7, 8, 11, 12, 13, 14, 15], [8, 18]), ([2, 0, 1, 2, 3, 4, 5, 6, 7, 8, 9, 10, 11, 12, 13, 14, 15, 16, 17, 18, 19], [2]), ([20, 0, 1, 2, 3, 4, 5, 6, 7, 8, 9, 10, 11, 12, 13, 14, 15, 16, 17, 18, 19], [20]), ([21, 0, 1, 2, 3, 4, 5, 6, 7, 8, 9, 10, 11, 12, 13, 14, 15, 16, 17, 18, 19], [21]), ([22, 11, 19, 0, 1, 2, 3, 4, 5, 6, 7, 8, 9, 10, 11, 12, 13, 14, 15, 16, 17, 18, 19], [11, 22])])
def reader_line.B6 : List Nat := [0, 0, 0, 0, 8, 24, 0, 64, 192, 0, 512, 1536, 4089, 8185, 16377, 32761, 65531, 131067, 262139, 524283, 1048575, 2097151, 4194303, 8388607]
theorem reader_line.tab6 : rtab .any (opsOf Tryz.f39 6) = reader_line.T6 := by kernel_rfl
theorem reader_line.bits6 : waitsOk reader_line.T6.2 reader_line.B6 = true := by kernel_rfl
def reader_line.T14 : Bool × List (List Nat × List Nat) := (true, [([], []), ([], []), ([1], [1]), ([2], [2]), ([3], [3]), ([4], [4]), ([], []), ([6], [6]), ([7], [7]), ([], []), ([9], [9]), ([10], [10]), ([], []), ([12], [12]), ([13], [13]), ([8, 11, 14], [8, 11, 14]), ([15], [15]), ([5, 16], [5, 16]), ([0, 0, 1, 2, 3, 4, 5, 6, 7, 8, 9, 10, 11, 12, 13, 14, 15, 16, 17], [0]), ([18, 0, 1, 2, 3, 4, 5, 6, 7, 8, 9, 10, 11, 12, 13, 14, 15, 16, 17], [18]), ([19, 0, 1, 2, 3, 4, 5, 6, 7, 8, 9, 10, 11, 12, 13, 14, 15, 16, 17], [19]), ([20, 17, 17, 0, 1, 2, 3, 4, 5, 6, 7, 8, 9, 10, 11, 12, 13, 14, 15, 16, 17], [17, 20])])
def reader_line.B14 : List Nat := [0, 0, 2, 6, 14, 30, 0, 64, 192, 0, 512, 1536, 0, 4096, 12288, 32704, 65472, 131070, 262143, 524287, 1048575, 2097151]
theorem reader_line.tab14 : rtab .any (opsOf Tryz.f39 14) = reader_line.T14 := by kernel_rfl
theorem reader_line.bits14 : waitsOk reader_line.T14.2 reader_line.B14 = true := by kernel_rfl
set_option maxRecDepth 100000 in
set_option maxHeartbeats 8000000 in
theorem line_calls (P : Nat) (st : Rd) (s : List UInt8) (n : Int) (w : World) (hs : s.length ≤ 100000) (hI : RdIs P st w) (hl : st.es.length ≤ 200000 ∧ st.gs.length ≤ 200000 ∧ st.ls.length ≤ 200000) (hG : GW w) :
    Calls Tryz.prog 39 #[.pointer (some ⟨P, 0, none⟩), .string (ofL s), .int .i64 n] w fun e w' => e = .returned (.bool (lineS st s n).isSome) ∧ Below P w w' ∧ ∀ st1, lineS st s n = some st1 → RdIs P st1 w' := by
  (obtain ⟨vE, vG, vL, hX, hE, hGr, hL⟩ := hI); (obtain ⟨AE, cE, rfl⟩ := Kd.S_slice hE); (obtain ⟨AG, cG, rfl⟩ := Kd.R_slice hGr); (obtain ⟨AL, cL, rfl⟩ := Kd.R_slice hL); (have HG := Aside0.mk hG); (have HX := Aside0.mk hX); (have HE := Aside0.mk hE); (have HGr := Aside0.mk hGr); (have HL := Aside0.mk hL); (have hP := blk_lt hX); (obtain ⟨hle, hlg, hll⟩ := hl); (clear hG hE hGr hL); (obtain ⟨PS, hPS⟩ : ∃ PS, cutAt 32 s = PS := ⟨_, rfl⟩); (have HPS := Aside0.mk hPS); (have hne : PS ≠ [] := by rw [← hPS]; exact cutAt_ne 32 s); (have hpl : PS.length ≤ 100001 := by rw [← hPS]; have := cutAt_len 32 s; omega); (have HPM : Aside0 (∀ q ∈ PS, q.length ≤ 100000) := ⟨fun q hq => by rw [← hPS] at hq; have := cutAt_mem 32 s q hq; omega⟩); (have hsp : Aside0 (strings_Split.f (ofL s) (⟨#[32]⟩ : ByteArray) = some (PS.map ofL)) := ⟨by rw [← hPS]; exact splitc_f 32 s (by omega)⟩); (obtain ⟨p, PT, rfl⟩ : ∃ p PT, PS = p :: PT := by cases PS with | nil => exact absurd rfl hne | cons p PT => exact ⟨p, PT, rfl⟩); (have hpt : PT.length ≤ 100000 := by simp at hpl; omega); (clear hPS hne hpl); (go_enter Tryz.func39, Tryz.ntmps39); (go_wp2_with fail); (refine (strings_Split.calls _ _ _ _ hsp.out HG.out).mono ?_); (rintro e W1 ⟨v, rfl, hR, hb⟩); (obtain ⟨A1, c1, rfl⟩ := Kd.R_slice hR); (have HR := Aside0.mk hR); (have hX1 := (hb.block _ hP).trans HX.out); (have HB1 := Aside0.mk hb); (obtain ⟨ad, rfl, hx⟩ := Kd.at_string (Kd.R_reads' HR.out).2.2 0 (by decide) (by simp)); (rw [show rdOf ByteArray.empty ((p :: PT).map ofL) 0 = ofL p from rfl] at hx); (try rw [show (0 : Int).toNat = 0 from rfl] at hx); (try rw [Addr.add_zero'] at hx); (clear hX hR hb); (have hc1 := (Kd.R_reads' HR.out).2.1); (obtain ⟨i0, hi0, _, hsz, _⟩ := info_parts info9)
  cases hbg : st.bg with
  | false =>
    (have b5 : W1.cell? ⟨P, 5, none⟩ = some (.bool false) := by rw [← hbg]; exact (blk_cell hX1 5).trans rfl); (obtain ⟨Ad, hcut, hA, hC⟩ := print_drop_of (P := Tryz.prog) Value.string ByteArray.empty 68 9 .i64 Tryz.underlying68 hi0 hsz (some ad) c1 ((p :: PT).map ofL) 1 (by decide) (by simp; omega) hc1); (have HC : Aside0 (Kd.C Kd.string W1 Ad (PT.map ofL).length (PT.map ofL)) := ⟨Kd.C_of_reads (h1 := fun _ => rfl) (hA _ (Kd.reads_of_C (Kd.R_reads' HR.out).2.2))⟩)
    have hcut1 : ∀ W, (Instr.slice 68 (.slice (some ad) (PT.length + 1) c1) (some (.int .i64 1)) none none).run Tryz.prog W = .ok (.slice Ad PT.length (c1 - 1)) W := by
      (intro W); (have := hcut W); (simpa using this)
    (have hC1 : PT.length ≤ c1 - 1 := by simpa using hC); (clear hA hi0 hsz hcut hC); (obtain ⟨VS, OK, hVO⟩ : ∃ VS OK, (match numsL PT with | some vs => (vs, true) | none => ([], false)) = (VS, OK) := ⟨_, _, rfl⟩); (have hnf := numerals_f PT (by omega) (fun q hq => by have := HPM.out q (by simp [hq]); omega)); (rw [hVO] at hnf); (have HNF := Aside0.mk hnf); (have HVO := Aside0.mk hVO); (clear hnf hVO); (go_wp2_with fail); (have hcall := element_numerals.calls Ad (c1 - 1) (PT.map ofL) VS OK W1 HC.out (by simpa using hC1) HNF.out (GW.below HG.out HB1.out)); (rw [List.length_map] at hcall); (refine hcall.mono ?_); (rintro e W2 ⟨v, rfl, hN, hb⟩); (obtain ⟨A2, c2, rfl⟩ := Kd.R_slice hN); (have hX2 := (hb.block _ (blk_lt hX1)).trans hX1); (have HB2 := Aside0.mk (HB1.out.trans (hb.mono HB1.out.size))); (have hx2 := (hb.cell (World.block_lt_of_cell? W1 _ hx)).trans hx); (have HN := Aside0.mk hN); (clear hb hN hcall hcut1 hC1 HC b5 hx); (have HLB : Aside0 (lineS st s n = lineB st (p :: PT)) := ⟨by unfold lineS; rw [if_pos hbg, HPS.out]⟩); (by_cases hpb : p = baseW)
    · have e1 : (p == [64, 98, 97, 115, 101]) = true := by rw [hpb]; rfl
      cases hv : numsL PT with
      | none =>
        (have HNO : Aside0 (lineS st s n = none) := ⟨by rw [HLB.out]; unfold lineB; rw [if_pos (show (p :: PT).headD [] = baseW from hpb), show (p :: PT).drop 1 = PT from rfl, hv]⟩); (have hvo := HVO.out); (rw [hv] at hvo); (cases hvo); (clear hv hpb); (go_wp2); (go_ret)
        exact ⟨by rw [HNO.out]; rfl, HB2.out.mono (by omega), fun st1 h => by rw [HNO.out] at h; cases h⟩
      | some vs =>
        (have hvo := HVO.out); (rw [hv] at hvo); (cases hvo); (by_cases h3 : VS.length = 3)
        · obtain ⟨x, y, z, rfl⟩ : ∃ x y z, VS = [x, y, z] := by
            match VS, h3 with
            | [a, b, c], _ => exact ⟨a, b, c, rfl⟩
          (have HYES : Aside0 (lineS st s n = some ⟨st.es, st.gs, x, y, z, true, st.ls⟩) := ⟨by rw [HLB.out]; unfold lineB; rw [if_pos (show (p :: PT).headD [] = baseW from hpb), show (p :: PT).drop 1 = PT from rfl, hv]⟩); (obtain ⟨ad2, rfl, k0⟩ := Kd.at_int (Kd.R_reads' HN.out).2.2 0 (by decide) (by simp)); (obtain ⟨ad3, e3, k1⟩ := Kd.at_int (Kd.R_reads' HN.out).2.2 1 (by decide) (by simp)); (cases e3); (obtain ⟨ad3, e3, k2⟩ := Kd.at_int (Kd.R_reads' HN.out).2.2 2 (by decide) (by simp)); (cases e3)
          replace k0 : W2.cell? ad2 = some (.int .i64 x) := by
            (rw [show (0 : Int).toNat = 0 from rfl, Addr.add_zero'] at k0); (exact k0)
          (replace k1 : W2.cell? ⟨ad2.block, ad2.off + 1, none⟩ = some (.int .i64 y) := k1); (replace k2 : W2.cell? ⟨ad2.block, ad2.off + 2, none⟩ = some (.int .i64 z) := k2); (clear hv hpb h3); (go_wp2_with fail); (have hX3 := blk_drew hX2); (have HB3 := Aside0.mk (below_drew HB2.out)); (refine start_ (n := 24) (S := fun w' => w'.cell? ad2 = some (.int .i64 x) ∧ w'.cell? ⟨ad2.block, ad2.off + 1, none⟩ = some (.int .i64 y) ∧ w'.cell? ⟨ad2.block, ad2.off + 2, none⟩ = some (.int .i64 z)) (ds := [15, 19, 23]) #[false, false, false, false, false, false, false, false, false, false, false, false, false, false, false, false, false, false, false, false, false, false, false, false] (by kernel_rfl) rfl rfl ⟨k0, k1, k2⟩ (fun hHeld => ?_); refine with_tabW reader_line.tab6 reader_line.bits6 (fun HT_ HW_ => ?_)); (generalize W2.drew = W3 at hX3 HB3 k0 k1 k2 hHeld ⊢); (refine pure_ (i := 0) (N := some 46) (v := ?_) (a' := ?_) #[true, false, false, false, false, false, false, false, false, false, false, false, false, false, false, false, false, false, false, false, false, false, false, false] rfl rfl (any_of HT_.out (by kernel_rfl)) (fun _ _ _ h => h) (Or.inl ⟨by rfl, ?_⟩) ?_ ?_); (rotate_left)
          · (intro w'); (go_simp); (with_reducible rfl)
          rotate_left
          · (simp only [Act.put, List.setIfInBounds_toArray, List.set_cons_zero, List.set_cons_succ, i64_w, i32_w]); (rfl)
          (refine pure_ (i := 1) (N := some 47) (v := ?_) (a' := ?_) #[true, true, false, false, false, false, false, false, false, false, false, false, false, false, false, false, false, false, false, false, false, false, false, false] rfl rfl (any_of HT_.out (by kernel_rfl)) (fun _ _ _ h => h) (Or.inl ⟨by rfl, ?_⟩) ?_ ?_); (rotate_left)
          · (intro w'); (go_simp); (with_reducible rfl)
          rotate_left
          · (simp only [Act.put, List.setIfInBounds_toArray, List.set_cons_zero, List.set_cons_succ, i64_w, i32_w]); (rfl)
          (refine pure_ (i := 2) (N := some 48) (v := ?_) (a' := ?_) #[true, true, true, false, false, false, false, false, false, false, false, false, false, false, false, false, false, false, false, false, false, false, false, false] rfl rfl (any_of HT_.out (by kernel_rfl)) (fun _ _ _ h => h) (Or.inl ⟨by rfl, ?_⟩) ?_ ?_); (rotate_left)
          · (intro w'); (go_simp); (with_reducible rfl)
          rotate_left
          · (simp only [Act.put, List.setIfInBounds_toArray, List.set_cons_zero, List.set_cons_succ, i64_w, i32_w]); (rfl)
          (refine pure_ (i := 3) (N := some 49) (v := ?_) (a' := ?_) #[true, true, true, true, false, false, false, false, false, false, false, false, false, false, false, false, false, false, false, false, false, false, false, false] rfl rfl (any_of HT_.out (by kernel_rfl)) (fun _ _ _ h => h) (Or.inl ⟨by rfl, ?_⟩) ?_ ?_); (rotate_left)
          · (intro w'); (go_simp); (with_reducible rfl)
          rotate_left
          · (simp only [Act.put, List.setIfInBounds_toArray, List.set_cons_zero, List.set_cons_succ, i64_w, i32_w]); (rfl)
          (refine pure_ (i := 4) (N := some 50) (v := ?_) (a' := ?_) #[true, true, true, true, true, false, false, false, false, false, false, false, false, false, false, false, false, false, false, false, false, false, false, false] rfl rfl (any_of HT_.out (by kernel_rfl)) (fun _ _ _ h => h) (Or.inl ⟨by rfl, ?_⟩) ?_ ?_); (rotate_left)
          · (intro w'); (go_simp); (with_reducible rfl)
          rotate_left
          · (simp only [Act.put, List.setIfInBounds_toArray, List.set_cons_zero, List.set_cons_succ, i64_w, i32_w]); (rfl)
          (refine take_ (i := 5) (N := some 51) (v := ?_) (a' := ?_) #[true, true, true, true, true, true, false, false, false, false, false, false, false, false, false, false, false, false, false, false, false, false, false, false] rfl rfl (take_ofW HT_.out HW_.out (by kernel_rfl)) (fun _ _ _ h => h) (Or.inl ⟨by rfl, ?_⟩) hHeld ?_ ?_); (rotate_left)
          · (rintro w' ⟨s0, s1, s2⟩); (go_simp); (with_reducible rfl)
          rotate_left
          · (simp only [Act.put, List.setIfInBounds_toArray, List.set_cons_zero, List.set_cons_succ, i64_w, i32_w]); (rfl)
          (refine pure_ (i := 6) (N := some 52) (v := ?_) (a' := ?_) #[true, true, true, true, true, true, true, false, false, false, false, false, false, false, false, false, false, false, false, false, false, false, false, false] rfl rfl (any_of HT_.out (by kernel_rfl)) (fun _ _ _ h => h) (Or.inl ⟨by rfl, ?_⟩) ?_ ?_); (rotate_left)
          · (intro w'); (go_simp); (with_reducible rfl)
          rotate_left
          · (simp only [Act.put, List.setIfInBounds_toArray, List.set_cons_zero, List.set_cons_succ, i64_w, i32_w]); (rfl)
          (refine pure_ (i := 7) (N := some 53) (v := ?_) (a' := ?_) #[true, true, true, true, true, true, true, true, false, false, false, false, false, false, false, false, false, false, false, false, false, false, false, false] rfl rfl (any_of HT_.out (by kernel_rfl)) (fun _ _ _ h => h) (Or.inl ⟨by rfl, ?_⟩) ?_ ?_); (rotate_left)
          · (intro w'); (go_simp); (with_reducible rfl)
          rotate_left
          · (simp only [Act.put, List.setIfInBounds_toArray, List.set_cons_zero, List.set_cons_succ, i64_w, i32_w]); (rfl)
          (refine take_ (i := 8) (N := some 54) (v := ?_) (a' := ?_) #[true, true, true, true, true, true, true, true, true, false, false, false, false, false, false, false, false, false, false, false, false, false, false, false] rfl rfl (take_ofW HT_.out HW_.out (by kernel_rfl)) (fun _ _ _ h => h) (Or.inl ⟨by rfl, ?_⟩) hHeld ?_ ?_); (rotate_left)
          · (rintro w' ⟨s0, s1, s2⟩); (go_simp); (with_reducible rfl)
          rotate_left
          · (simp only [Act.put, List.setIfInBounds_toArray, List.set_cons_zero, List.set_cons_succ, i64_w, i32_w]); (rfl)
          (refine pure_ (i := 9) (N := some 55) (v := ?_) (a' := ?_) #[true, true, true, true, true, true, true, true, true, true, false, false, false, false, false, false, false, false, false, false, false, false, false, false] rfl rfl (any_of HT_.out (by kernel_rfl)) (fun _ _ _ h => h) (Or.inl ⟨by rfl, ?_⟩) ?_ ?_); (rotate_left)
          · (intro w'); (go_simp); (with_reducible rfl)
          rotate_left
          · (simp only [Act.put, List.setIfInBounds_toArray, List.set_cons_zero, List.set_cons_succ, i64_w, i32_w]); (rfl)
          (refine pure_ (i := 10) (N := some 56) (v := ?_) (a' := ?_) #[true, true, true, true, true, true, true, true, true, true, true, false, false, false, false, false, false, false, false, false, false, false, false, false] rfl rfl (any_of HT_.out (by kernel_rfl)) (fun _ _ _ h => h) (Or.inl ⟨by rfl, ?_⟩) ?_ ?_); (rotate_left)
          · (intro w'); (go_simp); (with_reducible rfl)
          rotate_left
          · (simp only [Act.put, List.setIfInBounds_toArray, List.set_cons_zero, List.set_cons_succ, i64_w, i32_w]); (rfl)
          (refine take_ (i := 11) (N := some 57) (v := ?_) (a' := ?_) #[true, true, true, true, true, true, true, true, true, true, true, true, false, false, false, false, false, false, false, false, false, false, false, false] rfl rfl (take_ofW HT_.out HW_.out (by kernel_rfl)) (fun _ _ _ h => h) (Or.inl ⟨by rfl, ?_⟩) hHeld ?_ ?_); (rotate_left)
          · (rintro w' ⟨s0, s1, s2⟩); (go_simp); (with_reducible rfl)
          rotate_left
          · (simp only [Act.put, List.setIfInBounds_toArray, List.set_cons_zero, List.set_cons_succ, i64_w, i32_w]); (rfl)
          (refine pure_ (i := 12) (N := some 58) (v := ?_) (a' := ?_) #[true, true, true, true, true, true, true, true, true, true, true, true, true, false, false, false, false, false, false, false, false, false, false, false] rfl rfl (any_of HT_.out (by kernel_rfl)) (fun _ _ _ h => h) (Or.inl ⟨by rfl, ?_⟩) ?_ ?_); (rotate_left)
          · (intro w'); (go_simp); (with_reducible rfl)
          rotate_left
          · (simp only [Act.put, List.setIfInBounds_toArray, List.set_cons_zero, List.set_cons_succ, i64_w, i32_w]); (rfl)
          (refine pure_ (i := 13) (N := some 59) (v := ?_) (a' := ?_) #[true, true, true, true, true, true, true, true, true, true, true, true, true, true, false, false, false, false, false, false, false, false, false, false] rfl rfl (any_of HT_.out (by kernel_rfl)) (fun _ _ _ h => h) (Or.inl ⟨by rfl, ?_⟩) ?_ ?_); (rotate_left)
          · (intro w'); (go_simp); (with_reducible rfl)
          rotate_left
          · (simp only [Act.put, List.setIfInBounds_toArray, List.set_cons_zero, List.set_cons_succ, i64_w, i32_w]); (rfl)
          (refine pure_ (i := 14) (N := some 60) (v := ?_) (a' := ?_) #[true, true, true, true, true, true, true, true, true, true, true, true, true, true, true, false, false, false, false, false, false, false, false, false] rfl rfl (any_of HT_.out (by kernel_rfl)) (fun _ _ _ h => h) (Or.inl ⟨by rfl, ?_⟩) ?_ ?_); (rotate_left)
          · (intro w'); (go_simp); (with_reducible rfl)
          rotate_left
          · (simp only [Act.put, List.setIfInBounds_toArray, List.set_cons_zero, List.set_cons_succ, i64_w, i32_w]); (rfl)
          (refine last_ (i := 15) (N := none) #[true, true, true, true, true, true, true, true, true, true, true, true, true, true, true, true, false, false, false, false, false, false, false, false] rfl rfl (one_of HT_.out (by kernel_rfl)) (by decide) (fun K hK => ?_)); (have s0 := (blk_cell hX3 2).trans rfl); (have f0 := blk_frozen hX3 2); (refine skip_ (w1 := ?_) (by rfl) rfl ?_ ?_); (rotate_left)
          · (go_simp); (rfl)
          (refine hK.out _ _ ?_); (clear hK K s0 f0); (have hX4 := blk_put hX3 2 (.int .i64 x) rfl); (refine pure_ (i := 16) (N := some 61) (v := ?_) (a' := ?_) #[true, true, true, true, true, true, true, true, true, true, true, true, true, true, true, true, true, false, false, false, false, false, false, false] rfl rfl (any_of HT_.out (by kernel_rfl)) (fun _ _ _ h => h) (Or.inl ⟨by rfl, ?_⟩) ?_ ?_); (rotate_left)
          · (intro w'); (go_simp); (with_reducible rfl)
          rotate_left
          · (simp only [Act.put, List.setIfInBounds_toArray, List.set_cons_zero, List.set_cons_succ, i64_w, i32_w]); (rfl)
          (refine pure_ (i := 17) (N := some 62) (v := ?_) (a' := ?_) #[true, true, true, true, true, true, true, true, true, true, true, true, true, true, true, true, true, true, false, false, false, false, false, false] rfl rfl (any_of HT_.out (by kernel_rfl)) (fun _ _ _ h => h) (Or.inl ⟨by rfl, ?_⟩) ?_ ?_); (rotate_left)
          · (intro w'); (go_simp); (with_reducible rfl)
          rotate_left
          · (simp only [Act.put, List.setIfInBounds_toArray, List.set_cons_zero, List.set_cons_succ, i64_w, i32_w]); (rfl)
          (refine pure_ (i := 18) (N := some 63) (v := ?_) (a' := ?_) #[true, true, true, true, true, true, true, true, true, true, true, true, true, true, true, true, true, true, true, false, false, false, false, false] rfl rfl (any_of HT_.out (by kernel_rfl)) (fun _ _ _ h => h) (Or.inl ⟨by rfl, ?_⟩) ?_ ?_); (rotate_left)
          · (intro w'); (go_simp); (with_reducible rfl)
          rotate_left
          · (simp only [Act.put, List.setIfInBounds_toArray, List.set_cons_zero, List.set_cons_succ, i64_w, i32_w]); (rfl)
          (refine last_ (i := 19) (N := none) #[true, true, true, true, true, true, true, true, true, true, true, true, true, true, true, true, true, true, true, true, false, false, false, false] rfl rfl (one_of HT_.out (by kernel_rfl)) (by decide) (fun K hK => ?_)); (have s0 := (blk_cell hX4 3).trans rfl); (have f0 := blk_frozen hX4 3); (refine skip_ (w1 := ?_) (by rfl) rfl ?_ ?_); (rotate_left)
          · (go_simp); (rfl)
          (refine hK.out _ _ ?_); (clear hK K s0 f0); (have hX5 := blk_put hX4 3 (.int .i64 y) rfl); (refine pure_ (i := 20) (N := some 64) (v := ?_) (a' := ?_) #[true, true, true, true, true, true, true, true, true, true, true, true, true, true, true, true, true, true, true, true, true, false, false, false] rfl rfl (any_of HT_.out (by kernel_rfl)) (fun _ _ _ h => h) (Or.inl ⟨by rfl, ?_⟩) ?_ ?_); (rotate_left)
          · (intro w'); (go_simp); (with_reducible rfl)
          rotate_left
          · (simp only [Act.put, List.setIfInBounds_toArray, List.set_cons_zero, List.set_cons_succ, i64_w, i32_w]); (rfl)
          (refine pure_ (i := 21) (N := some 65) (v := ?_) (a' := ?_) #[true, true, true, true, true, true, true, true, true, true, true, true, true, true, true, true, true, true, true, true, true, true, false, false] rfl rfl (any_of HT_.out (by kernel_rfl)) (fun _ _ _ h => h) (Or.inl ⟨by rfl, ?_⟩) ?_ ?_); (rotate_left)
          · (intro w'); (go_simp); (with_reducible rfl)
          rotate_left
          · (simp only [Act.put, List.setIfInBounds_toArray, List.set_cons_zero, List.set_cons_succ, i64_w, i32_w]); (rfl)
          (refine pure_ (i := 22) (N := some 66) (v := ?_) (a' := ?_) #[true, true, true, true, true, true, true, true, true, true, true, true, true, true, true, true, true, true, true, true, true, true, true, false] rfl rfl (any_of HT_.out (by kernel_rfl)) (fun _ _ _ h => h) (Or.inl ⟨by rfl, ?_⟩) ?_ ?_); (rotate_left)
          · (intro w'); (go_simp); (with_reducible rfl)
          rotate_left
          · (simp only [Act.put, List.setIfInBounds_toArray, List.set_cons_zero, List.set_cons_succ, i64_w, i32_w]); (rfl)
          (refine last_ (i := 23) (N := none) #[true, true, true, true, true, true, true, true, true, true, true, true, true, true, true, true, true, true, true, true, true, true, true, true] rfl rfl (one_of HT_.out (by kernel_rfl)) (by decide) (fun K hK => ?_)); (have s0 := (blk_cell hX5 4).trans rfl); (have f0 := blk_frozen hX5 4); (refine skip_ (w1 := ?_) (by rfl) rfl ?_ ?_); (rotate_left)
          · (go_simp); (rfl)
          (refine hK.out _ _ ?_); (clear hK K s0 f0); (have hX6 := blk_put hX5 4 (.int .i64 z) rfl); (refine done_ (done_of HT_.out (by kernel_rfl)) ?_); (have b5 := (blk_cell hX6 5).trans rfl); (have f5 := blk_frozen hX6 5); (go_wp2); (go_ret); (have hbP : Below P w W3 := HB3.out.mono (by omega)); (refine ⟨by rw [HYES.out]; rfl, Below.setCell (Below.setCell (Below.setCell (Below.setCell hbP (Nat.le_refl _) _) (Nat.le_refl _) _) (Nat.le_refl _) _) (Nat.le_refl _) _, fun st1 h => ?_⟩); (rw [HYES.out] at h); (cases h); (exact ⟨_, _, _, blk_put hX6 5 (.bool true) rfl, S_setP (S_setP (S_setP (S_setP (Kd.S_below HE.out HB3.out) _ _) _ _) _ _) _ _, R_setP (R_setP (R_setP (R_setP (Kd.R_below HGr.out HB3.out) _ _) _ _) _ _) _ _, R_setP (R_setP (R_setP (R_setP (Kd.R_below HL.out HB3.out) _ _) _ _) _ _) _ _⟩)
        · have n3 : ((VS.length : Int) != 3) = true := bne_iff_ne.2 (by omega)
          have HNO : Aside0 (lineS st s n = none) := ⟨by
            (rw [HLB.out]; unfold lineB); (rw [if_pos (show (p :: PT).headD [] = baseW from hpb), show (p :: PT).drop 1 = PT from rfl, hv]); (split)
            · next h => cases h; exact absurd rfl h3
            · rfl⟩
          (clear hv hpb h3); (go_wp2); (go_ret); (exact ⟨by rw [HNO.out]; rfl, HB2.out.mono (by omega), fun st1 h => by rw [HNO.out] at h; cases h⟩)
    · (have e1 : (p == [64, 98, 97, 115, 101]) = false := beq_eq_false_iff_ne.2 hpb); (have HNO : Aside0 (lineS st s n = none) := ⟨by rw [HLB.out]; unfold lineB; rw [if_neg (show ¬ (p :: PT).headD [] = baseW from hpb)]⟩); (clear hpb); (go_wp2); (go_ret)
      exact ⟨by rw [HNO.out]; rfl, HB2.out.mono (by omega), fun st1 h => by rw [HNO.out] at h; cases h⟩
  | true =>
    (have b5 : W1.cell? ⟨P, 5, none⟩ = some (.bool true) := by rw [← hbg]; exact (blk_cell hX1 5).trans rfl); (by_cases hpg : p = groupW)
    · (have e1 : (p == [64, 103, 114, 111, 117, 112]) = true := by rw [hpg]; rfl); (have HLG : Aside0 (lineS st s n = lineG st (p :: PT)) := ⟨by unfold lineS; rw [if_neg (by rw [hbg]; decide), HPS.out, if_pos (show (p :: PT).headD [] = groupW from hpg)]⟩); (clear hpg); (by_cases h4 : PT.length = 3)
      · obtain ⟨q, r, t, rfl⟩ : ∃ q r t, PT = [q, r, t] := by
          match PT, h4 with
          | [a, b, c], _ => exact ⟨a, b, c, rfl⟩
        (obtain ⟨ad3, e3, kq⟩ := Kd.at_string (Kd.R_reads' HR.out).2.2 1 (by decide) (by simp)); (cases e3); (replace kq : W1.cell? ⟨ad.block, ad.off + 1, none⟩ = some (.string (ofL q)) := kq); (go_wp2_with fail); (refine (element_isName.calls (ofL q) (nameB q) W1 (by unfold element_isName.f; rw [ofL_list])).mono ?_); (rintro e W2 ⟨rfl, hb⟩); (have hX2 := (hb.block _ (blk_lt hX1)).trans hX1); (have HB2 := Aside0.mk (HB1.out.trans (hb.mono HB1.out.size))); (have HR2 := Aside0.mk (Kd.R_below HR.out hb)); (replace kq := (hb.cell (World.block_lt_of_cell? W1 _ kq)).trans kq); (replace hx := (hb.cell (World.block_lt_of_cell? W1 _ hx)).trans hx); (clear hb b5 HR)
        cases hn : nameB q with
        | false =>
          (have HNO : Aside0 (lineS st s n = none) := ⟨by rw [HLG.out]; unfold lineG; rw [if_neg (fun h => by have := h.2.1; rw [show (p :: [q, r, t]).getD 1 [] = q from rfl, hn] at this; cases this)]⟩); (go_wp2); (go_ret)
          exact ⟨by rw [HNO.out]; rfl, HB2.out.mono (by omega), fun st1 h => by rw [HNO.out] at h; cases h⟩
        | true =>
          (have a0 : W2.cell? ⟨P, 0, none⟩ = some (.slice AE st.es.length cE) := (blk_cell hX2 0).trans rfl); (by_cases hes : st.es.length = 0)
          · (have hes0 : st.es = [] := List.eq_nil_of_length_eq_zero hes); (have g0 : decide ((0 : Int) < (st.es.length : Int)) = false := decide_eq_false (by omega)); (have g1 : decide (0 < st.es.length) = false := decide_eq_false (by omega))
            have HLG2 : Aside0 (lineS st s n = match numsL [r, t] with | some [x, y] => some ⟨st.es, st.gs ++ [⟨ofL q, x, y⟩], st.b1, st.b2, st.b3, st.bg, st.ls⟩ | _ => none) := ⟨by
              rw [HLG.out]; unfold lineG; rw [if_pos ⟨rfl, hn, hes0⟩]; rfl⟩
            (clear hes0); (obtain ⟨Ad, hcut, hA, hC⟩ := print_drop_of (P := Tryz.prog) Value.string ByteArray.empty 68 9 .i64 Tryz.underlying68 hi0 hsz (some ad) c1 ((p :: [q, r, t]).map ofL) 2 (by decide) (by simp) hc1); (have HC : Aside0 (Kd.C Kd.string W2 Ad ([r, t].map ofL).length ([r, t].map ofL)) := ⟨Kd.C_of_reads (h1 := fun _ => rfl) (hA _ (Kd.reads_of_C (Kd.R_reads' HR2.out).2.2))⟩)
            have hcut1 : ∀ W, (Instr.slice 68 (.slice (some ad) 4 c1) (some (.int .i64 2)) none none).run Tryz.prog W = .ok (.slice Ad 2 (c1 - 2)) W := by
              (intro W); (have := hcut W); (simpa using this)
            (have hC1 : 2 ≤ c1 - 2 := by simpa using hC); (clear hA hi0 hsz hcut hC); (obtain ⟨VS, OK, hVO⟩ : ∃ VS OK, (match numsL [r, t] with | some vs => (vs, true) | none => ([], false)) = (VS, OK) := ⟨_, _, rfl⟩); (have hnf := numerals_f [r, t] (by simp) (fun u hu => by have := HPM.out u (by simp at hu ⊢; rcases hu with h | h <;> simp [h]); omega)); (rw [hVO] at hnf); (have HNF := Aside0.mk hnf); (have HVO := Aside0.mk hVO); (clear hnf hVO); (go_wp2_with fail); (refine (element_numerals.calls Ad (c1 - 2) ([r, t].map ofL) VS OK W2 HC.out hC1 HNF.out (GW.below HG.out HB2.out)).mono ?_); (rintro e W3 ⟨v, rfl, hN, hb⟩); (obtain ⟨A2, c2, rfl⟩ := Kd.R_slice hN); (have hX3 := (hb.block _ (blk_lt hX2)).trans hX2); (have HB3 := Aside0.mk (HB2.out.trans (hb.mono HB2.out.size))); (replace kq := (hb.cell (World.block_lt_of_cell? W2 _ kq)).trans kq); (have HN := Aside0.mk hN); (clear hb hN hcut1 hC1 HC a0 hx hX2)
            cases hv : numsL [r, t] with
            | none =>
              (have hvo := HVO.out); (rw [hv] at hvo); (cases hvo); (have HNO : Aside0 (lineS st s n = none) := ⟨by rw [HLG2.out, hv]⟩); (clear hv); (go_wp2); (go_ret)
              exact ⟨by rw [HNO.out]; rfl, HB3.out.mono (by omega), fun st1 h => by rw [HNO.out] at h; cases h⟩
            | some vs =>
              (have hvo := HVO.out); (rw [hv] at hvo); (cases hvo)
              obtain ⟨x, y, rfl⟩ : ∃ x y, VS = [x, y] := by
                have h2 := numsL_len _ _ hv
                match VS, h2 with
                | [a, b], _ => exact ⟨a, b, rfl⟩
              (have HYES : Aside0 (lineS st s n = some ⟨st.es, st.gs ++ [⟨ofL q, x, y⟩], st.b1, st.b2, st.b3, st.bg, st.ls⟩) := ⟨by rw [HLG2.out, hv]⟩); (obtain ⟨ad2, rfl, k0⟩ := Kd.at_int (Kd.R_reads' HN.out).2.2 0 (by decide) (by simp)); (obtain ⟨ad3, e3, k1⟩ := Kd.at_int (Kd.R_reads' HN.out).2.2 1 (by decide) (by simp)); (cases e3)
              replace k0 : W3.cell? ad2 = some (.int .i64 x) := by
                (rw [show (0 : Int).toNat = 0 from rfl, Addr.add_zero'] at k0); (exact k0)
              (replace k1 : W3.cell? ⟨ad2.block, ad2.off + 1, none⟩ = some (.int .i64 y) := k1); (have kG : W3.cell? ⟨P, 1, none⟩ = some (.slice AG st.gs.length cG) := (blk_cell hX3 1).trans rfl); (clear hv); (go_wp2_with fail); (have hX4 := blk_drew hX3); (have HB4 := Aside0.mk (below_drew HB3.out)); (have HE4 := Aside0.mk (Kd.S_below HE.out HB4.out)); (have HG4 := Aside0.mk (Kd.R_below HGr.out HB4.out)); (have HL4 := Aside0.mk (Kd.R_below HL.out HB4.out)); (replace kG : W3.drew.cell? ⟨P, 1, none⟩ = some (.slice AG st.gs.length cG) := kG); (replace kq : W3.drew.cell? ⟨ad.block, ad.off + 1, none⟩ = some (.string (ofL q)) := kq); (replace k0 : W3.drew.cell? ad2 = some (.int .i64 x) := k0); (replace k1 : W3.drew.cell? ⟨ad2.block, ad2.off + 1, none⟩ = some (.int .i64 y) := k1); (refine start_ (n := 22) (S := fun w' => w'.cell? ⟨P, 1, none⟩ = some (.slice AG st.gs.length cG) ∧ w'.cell? ⟨ad.block, ad.off + 1, none⟩ = some (.string (ofL q)) ∧ w'.cell? ad2 = some (.int .i64 x) ∧ w'.cell? ⟨ad2.block, ad2.off + 1, none⟩ = some (.int .i64 y)) (ds := [17, 21]) #[false, false, false, false, false, false, false, false, false, false, false, false, false, false, false, false, false, false, false, false, false, false] (by kernel_rfl) rfl rfl ⟨kG, kq, k0, k1⟩ (fun hHeld => ?_); refine with_tabW reader_line.tab14 reader_line.bits14 (fun HT_ HW_ => ?_)); (generalize W3.drew = W4 at hX4 HB4 HE4 HG4 HL4 kG kq k0 k1 hHeld ⊢); (refine pure_ (i := 0) (N := some 101) (v := ?_) (a' := ?_) #[true, false, false, false, false, false, false, false, false, false, false, false, false, false, false, false, false, false, false, false, false, false] rfl rfl (any_of HT_.out (by kernel_rfl)) (fun _ _ _ h => h) (Or.inl ⟨by rfl, ?_⟩) ?_ ?_); (rotate_left)
              · (intro w'); (go_simp); (with_reducible rfl)
              rotate_left
              · (simp only [Act.put, List.setIfInBounds_toArray, List.set_cons_zero, List.set_cons_succ, i64_w, i32_w]); (rfl)
              (refine pure_ (i := 1) (N := some 102) (v := ?_) (a' := ?_) #[true, true, false, false, false, false, false, false, false, false, false, false, false, false, false, false, false, false, false, false, false, false] rfl rfl (any_of HT_.out (by kernel_rfl)) (fun _ _ _ h => h) (Or.inl ⟨by rfl, ?_⟩) ?_ ?_); (rotate_left)
              · (intro w'); (go_simp); (with_reducible rfl)
              rotate_left
              · (simp only [Act.put, List.setIfInBounds_toArray, List.set_cons_zero, List.set_cons_succ, i64_w, i32_w]); (rfl)
              (refine pure_ (i := 2) (N := some 103) (v := ?_) (a' := ?_) #[true, true, true, false, false, false, false, false, false, false, false, false, false, false, false, false, false, false, false, false, false, false] rfl rfl (any_of HT_.out (by kernel_rfl)) (fun _ _ _ h => h) (Or.inl ⟨by rfl, ?_⟩) ?_ ?_); (rotate_left)
              · (intro w'); (go_simp); (with_reducible rfl)
              rotate_left
              · (simp only [Act.put, List.setIfInBounds_toArray, List.set_cons_zero, List.set_cons_succ, i64_w, i32_w]); (rfl)
              (refine pure_ (i := 3) (N := some 104) (v := ?_) (a' := ?_) #[true, true, true, true, false, false, false, false, false, false, false, false, false, false, false, false, false, false, false, false, false, false] rfl rfl (any_of HT_.out (by kernel_rfl)) (fun _ _ _ h => h) (Or.inl ⟨by rfl, ?_⟩) ?_ ?_); (rotate_left)
              · (intro w'); (go_simp); (with_reducible rfl)
              rotate_left
              · (simp only [Act.put, List.setIfInBounds_toArray, List.set_cons_zero, List.set_cons_succ, i64_w, i32_w]); (rfl)
              (refine pure_ (i := 4) (N := some 105) (v := ?_) (a' := ?_) #[true, true, true, true, true, false, false, false, false, false, false, false, false, false, false, false, false, false, false, false, false, false] rfl rfl (any_of HT_.out (by kernel_rfl)) (fun _ _ _ h => h) (Or.inl ⟨by rfl, ?_⟩) ?_ ?_); (rotate_left)
              · (intro w'); (go_simp); (with_reducible rfl)
              rotate_left
              · (simp only [Act.put, List.setIfInBounds_toArray, List.set_cons_zero, List.set_cons_succ, i64_w, i32_w]); (rfl)
              (refine take_ (i := 5) (N := some 106) (v := ?_) (a' := ?_) #[true, true, true, true, true, true, false, false, false, false, false, false, false, false, false, false, false, false, false, false, false, false] rfl rfl (take_ofW HT_.out HW_.out (by kernel_rfl)) (fun _ _ _ h => h) (Or.inl ⟨by rfl, ?_⟩) hHeld ?_ ?_); (rotate_left)
              · (rintro w' ⟨s0, s1, s2, s3⟩); (go_simp); (with_reducible rfl)
              rotate_left
              · (simp only [Act.put, List.setIfInBounds_toArray, List.set_cons_zero, List.set_cons_succ, i64_w, i32_w]); (rfl)
              (refine pure_ (i := 6) (N := some 107) (v := ?_) (a' := ?_) #[true, true, true, true, true, true, true, false, false, false, false, false, false, false, false, false, false, false, false, false, false, false] rfl rfl (any_of HT_.out (by kernel_rfl)) (fun _ _ _ h => h) (Or.inl ⟨by rfl, ?_⟩) ?_ ?_); (rotate_left)
              · (intro w'); (go_simp); (with_reducible rfl)
              rotate_left
              · (simp only [Act.put, List.setIfInBounds_toArray, List.set_cons_zero, List.set_cons_succ, i64_w, i32_w]); (rfl)
              (refine pure_ (i := 7) (N := some 108) (v := ?_) (a' := ?_) #[true, true, true, true, true, true, true, true, false, false, false, false, false, false, false, false, false, false, false, false, false, false] rfl rfl (any_of HT_.out (by kernel_rfl)) (fun _ _ _ h => h) (Or.inl ⟨by rfl, ?_⟩) ?_ ?_); (rotate_left)
              · (intro w'); (go_simp); (with_reducible rfl)
              rotate_left
              · (simp only [Act.put, List.setIfInBounds_toArray, List.set_cons_zero, List.set_cons_succ, i64_w, i32_w]); (rfl)
              (refine take_ (i := 8) (N := some 109) (v := ?_) (a' := ?_) #[true, true, true, true, true, true, true, true, true, false, false, false, false, false, false, false, false, false, false, false, false, false] rfl rfl (take_ofW HT_.out HW_.out (by kernel_rfl)) (fun _ _ _ h => h) (Or.inl ⟨by rfl, ?_⟩) hHeld ?_ ?_); (rotate_left)
              · (rintro w' ⟨s0, s1, s2, s3⟩); (go_simp); (with_reducible rfl)
              rotate_left
              · (simp only [Act.put, List.setIfInBounds_toArray, List.set_cons_zero, List.set_cons_succ, i64_w, i32_w]); (rfl)
              (refine pure_ (i := 9) (N := some 110) (v := ?_) (a' := ?_) #[true, true, true, true, true, true, true, true, true, true, false, false, false, false, false, false, false, false, false, false, false, false] rfl rfl (any_of HT_.out (by kernel_rfl)) (fun _ _ _ h => h) (Or.inl ⟨by rfl, ?_⟩) ?_ ?_); (rotate_left)
              · (intro w'); (go_simp); (with_reducible rfl)
              rotate_left
              · (simp only [Act.put, List.setIfInBounds_toArray, List.set_cons_zero, List.set_cons_succ, i64_w, i32_w]); (rfl)
              (refine pure_ (i := 10) (N := some 111) (v := ?_) (a' := ?_) #[true, true, true, true, true, true, true, true, true, true, true, false, false, false, false, false, false, false, false, false, false, false] rfl rfl (any_of HT_.out (by kernel_rfl)) (fun _ _ _ h => h) (Or.inl ⟨by rfl, ?_⟩) ?_ ?_); (rotate_left)
              · (intro w'); (go_simp); (with_reducible rfl)
              rotate_left
              · (simp only [Act.put, List.setIfInBounds_toArray, List.set_cons_zero, List.set_cons_succ, i64_w, i32_w]); (rfl)
              (refine take_ (i := 11) (N := some 112) (v := ?_) (a' := ?_) #[true, true, true, true, true, true, true, true, true, true, true, true, false, false, false, false, false, false, false, false, false, false] rfl rfl (take_ofW HT_.out HW_.out (by kernel_rfl)) (fun _ _ _ h => h) (Or.inl ⟨by rfl, ?_⟩) hHeld ?_ ?_); (rotate_left)
              · (rintro w' ⟨s0, s1, s2, s3⟩); (go_simp); (with_reducible rfl)
              rotate_left
              · (simp only [Act.put, List.setIfInBounds_toArray, List.set_cons_zero, List.set_cons_succ, i64_w, i32_w]); (rfl)
              (refine pure_ (i := 12) (N := some 113) (v := ?_) (a' := ?_) #[true, true, true, true, true, true, true, true, true, true, true, true, true, false, false, false, false, false, false, false, false, false] rfl rfl (any_of HT_.out (by kernel_rfl)) (fun _ _ _ h => h) (Or.inl ⟨by rfl, ?_⟩) ?_ ?_); (rotate_left)
              · (intro w'); (go_simp); (with_reducible rfl)
              rotate_left
              · (simp only [Act.put, List.setIfInBounds_toArray, List.set_cons_zero, List.set_cons_succ, i64_w, i32_w]); (rfl)
              (refine pure_ (i := 13) (N := some 114) (v := ?_) (a' := ?_) #[true, true, true, true, true, true, true, true, true, true, true, true, true, true, false, false, false, false, false, false, false, false] rfl rfl (any_of HT_.out (by kernel_rfl)) (fun _ _ _ h => h) (Or.inl ⟨by rfl, ?_⟩) ?_ ?_); (rotate_left)
              · (intro w'); (go_simp); (with_reducible rfl)
              rotate_left
              · (simp only [Act.put, List.setIfInBounds_toArray, List.set_cons_zero, List.set_cons_succ, i64_w, i32_w]); (rfl)
              (refine take_ (i := 14) (N := some 115) (v := ?_) (a' := ?_) #[true, true, true, true, true, true, true, true, true, true, true, true, true, true, true, false, false, false, false, false, false, false] rfl rfl (take_ofW HT_.out HW_.out (by kernel_rfl)) (fun _ _ _ h => h) (Or.inl ⟨by rfl, ?_⟩) hHeld ?_ ?_); (rotate_left)
              · (rintro w' ⟨s0, s1, s2, s3⟩); (go_simp); (with_reducible rfl)
              rotate_left
              · (simp only [Act.put, List.setIfInBounds_toArray, List.set_cons_zero, List.set_cons_succ, i64_w, i32_w]); (rfl)
              (refine pure_ (i := 15) (N := some 116) (v := ?_) (a' := ?_) #[true, true, true, true, true, true, true, true, true, true, true, true, true, true, true, true, false, false, false, false, false, false] rfl rfl (any_of HT_.out (by kernel_rfl)) (fun _ _ _ h => h) (Or.inl ⟨by rfl, ?_⟩) ?_ ?_); (rotate_left)
              · (intro w'); (go_simp); (with_reducible rfl)
              rotate_left
              · (simp only [Act.put, List.setIfInBounds_toArray, List.set_cons_zero, List.set_cons_succ, i64_w, i32_w]); (rfl)
              (refine one_ (i := 16) (N := some 117) #[true, true, true, true, true, true, true, true, true, true, true, true, true, true, true, true, true, false, false, false, false, false] rfl rfl (one_of HT_.out (by kernel_rfl)) (by decide) (fun K hK => ?_)); (refine value_ (w1 := ?_) (v := ?_) (by rfl) rfl ?_ ?_); (rotate_left 2)
              · (go_simp); (constructor)
                · rfl
                · rfl
              (refine hK.out _ _ ⟨(World.cell?_alloc_lt _ _ _ (World.block_lt_of_cell? _ _ kG)).trans kG, (World.cell?_alloc_lt _ _ _ (World.block_lt_of_cell? _ _ kq)).trans kq, (World.cell?_alloc_lt _ _ _ (World.block_lt_of_cell? _ _ k0)).trans k0, (World.cell?_alloc_lt _ _ _ (World.block_lt_of_cell? _ _ k1)).trans k1⟩ (fun hHeld => ?_)); (clear hK K); (refine norm_ (a' := ?_) ?_ ?_); (rotate_left)
              · (show Act.put _ (some 117) _ = _); (simp only [Act.put, List.setIfInBounds_toArray, List.set_cons_zero, List.set_cons_succ, i64_w, i32_w]); (rfl)
              (refine last_ (i := 17) (N := some 118) #[true, true, true, true, true, true, true, true, true, true, true, true, true, true, true, true, true, true, false, false, false, false] rfl rfl (one_of HT_.out (by kernel_rfl)) (by decide) (fun K hK => ?_)); (refine Kd.R_append_step k46 (w0 := W4) (P + 1) (by rfl) (.tmp 106) (.tmp 117) 33 46 (.agg #[.string ⟨#[]⟩, .int .i64 0, .int .i64 0]) 32 rfl Tryz.underlying33 info46 rfl (by decide) (by omega) (.slice AG st.gs.length cG) st.gs ⟨ofL q, x, y⟩ [.string (ofL q), .int .i64 x, .int .i64 y] (fun _ => True) (fun _ => False) rfl rfl ?aP (fun _ hk => hk.elim) (fun _ _ => trivial) HG4.out (Below.refl _ _) (by have := HB4.out.size; omega) (by omega) ?_); (case aP => exact k46_mkM _ _ _ ⟨ofL q, x, y⟩); (intro v1 W5 hR5 hb5 hg5 hat5); (obtain ⟨A5, c5, rfl⟩ := Kd.R_slice hR5); (have hX5 := blk_grown hX4 hg5 (fun e => by have := Kd.R_base HG4.out P e.symm; omega)); (have hE5 := Kd.S_over' HE4.out (Kd.R_typed HG4.out) (by decide) hg5); (have hL5 := Kd.R_over' HL4.out (Kd.R_typed HG4.out) (by decide) hg5); (refine hK.out _ _ ?_); (clear hK K); (refine norm_ (a' := ?_) ?_ ?_); (rotate_left)
              · (show Act.put _ (some 118) _ = _); (simp only [Act.put, List.setIfInBounds_toArray, List.set_cons_zero, List.set_cons_succ, i64_w, i32_w]); (rfl)
              (refine pure_ (i := 18) (N := some 119) (v := ?_) (a' := ?_) #[true, true, true, true, true, true, true, true, true, true, true, true, true, true, true, true, true, true, true, false, false, false] rfl rfl (any_of HT_.out (by kernel_rfl)) (fun _ _ _ h => h) (Or.inl ⟨by rfl, ?_⟩) ?_ ?_); (rotate_left)
              · (intro w'); (go_simp); (with_reducible rfl)
              rotate_left
              · (simp only [Act.put, List.setIfInBounds_toArray, List.set_cons_zero, List.set_cons_succ, i64_w, i32_w]); (rfl)
              (refine pure_ (i := 19) (N := some 120) (v := ?_) (a' := ?_) #[true, true, true, true, true, true, true, true, true, true, true, true, true, true, true, true, true, true, true, true, false, false] rfl rfl (any_of HT_.out (by kernel_rfl)) (fun _ _ _ h => h) (Or.inl ⟨by rfl, ?_⟩) ?_ ?_); (rotate_left)
              · (intro w'); (go_simp); (with_reducible rfl)
              rotate_left
              · (simp only [Act.put, List.setIfInBounds_toArray, List.set_cons_zero, List.set_cons_succ, i64_w, i32_w]); (rfl)
              (refine pure_ (i := 20) (N := some 121) (v := ?_) (a' := ?_) #[true, true, true, true, true, true, true, true, true, true, true, true, true, true, true, true, true, true, true, true, true, false] rfl rfl (any_of HT_.out (by kernel_rfl)) (fun _ _ _ h => h) (Or.inl ⟨by rfl, ?_⟩) ?_ ?_); (rotate_left)
              · (intro w'); (go_simp); (with_reducible rfl)
              rotate_left
              · (simp only [Act.put, List.setIfInBounds_toArray, List.set_cons_zero, List.set_cons_succ, i64_w, i32_w]); (rfl)
              (refine last_ (i := 21) (N := none) #[true, true, true, true, true, true, true, true, true, true, true, true, true, true, true, true, true, true, true, true, true, true] rfl rfl (one_of HT_.out (by kernel_rfl)) (by decide) (fun K hK => ?_)); (have s0 := (blk_cell hX5 1).trans rfl); (have f0 := blk_frozen hX5 1); (refine skip_ (w1 := ?_) (by rfl) rfl ?_ ?_); (rotate_left)
              · (go_simp); (rfl)
              (refine hK.out _ _ ?_); (clear hK K s0 f0); (refine done_ (done_of HT_.out (by kernel_rfl)) ?_); (go_wp2); (go_ret); (have hbP : Below P w W5 := (HB4.out.mono (by omega)).trans (hb5.mono (by omega))); (refine ⟨by rw [HYES.out]; rfl, Below.setCell hbP (Nat.le_refl _) _, fun st1 h => ?_⟩); (rw [HYES.out] at h); (cases h); (rw [show (st.gs ++ [(⟨ofL q, x, y⟩ : S46)]).length = st.gs.length + 1 by simp] at hR5); (exact ⟨_, _, _, blk_put hX5 1 _ rfl, S_setP hE5 _ _, R_setP hR5 _ _, R_setP hL5 _ _⟩)
          · (have g0 : decide ((0 : Int) < (st.es.length : Int)) = true := decide_eq_true (by omega)); (have g1 : decide (0 < st.es.length) = true := decide_eq_true (by omega)); (have HNO : Aside0 (lineS st s n = none) := ⟨by rw [HLG.out]; unfold lineG; rw [if_neg (fun h => hes (by rw [h.2.2]; rfl))]⟩); (go_wp2); (go_ret); (exact ⟨by rw [HNO.out]; rfl, HB2.out.mono (by omega), fun st1 h => by rw [HNO.out] at h; cases h⟩)
      · (have n4 : ((PT.length : Int) + 1 != 4) = true := bne_iff_ne.2 (by omega)); (have HNO : Aside0 (lineS st s n = none) := ⟨by rw [HLG.out]; unfold lineG; rw [if_neg (fun h => h4 (by have := h.1; simp at this; omega))]⟩); (go_wp2); (go_ret); (exact ⟨by rw [HNO.out]; rfl, HB1.out.mono (by omega), fun st1 h => by rw [HNO.out] at h; cases h⟩)
    · (have e1 : (p == [64, 103, 114, 111, 117, 112]) = false := beq_eq_false_iff_ne.2 hpg); (have HLE : Aside0 (lineS st s n = lineE st s n) := ⟨by unfold lineS; rw [if_neg (by rw [hbg]; decide), HPS.out, if_neg (show ¬ (p :: PT).headD [] = groupW from hpg)]⟩); (clear hpg); (obtain ⟨⟨Ca, Cb, Cf⟩, hcut⟩ : ∃ C, Lib.cut s [59, 32] = C := ⟨_, rfl⟩); (have hcl := cut_le s [59, 32]); (rw [hcut] at hcl); (dsimp only at hcl)
      have HCF : Aside0 (strings_Cut.f (ofL s) (⟨#[59, 32]⟩ : ByteArray) = some (ofL Ca, ofL Cb, Cf)) := ⟨by
        (have := cut_f s [59, 32] (by omega)); (rw [hcut] at this)
        exact this⟩
      (have HLE2 : Aside0 (lineS st s n = if Cf = true ∧ (readCodes Ca).2 = 0 then (readE Cb).map fun els => ⟨st.es ++ [⟨(readCodes Ca).1, els⟩], st.gs, st.b1, st.b2, st.b3, st.bg, st.ls ++ [n]⟩ else none) := ⟨by rw [HLE.out]; unfold lineE; rw [hcut]⟩); (clear hcut); (obtain ⟨K1, hK1⟩ := pcodes_ev Ca (by omega)); (have HK1 := Aside0.mk (hK1 K1 (Nat.le_refl _))); (obtain ⟨K2, hK2⟩ := read_ev Cb (by omega)); (have HK2 := Aside0.mk (hK2 K2 (Nat.le_refl _))); (clear hK1 hK2); (go_wp2_with fail); (refine (strings_Cut.calls _ _ _ _ _ _ HCF.out (GW.below HG.out HB1.out)).mono ?_); (rintro e W2 ⟨rfl, hb⟩); (have hX2 := (hb.block _ (blk_lt hX1)).trans hX1); (have HB2 := Aside0.mk (HB1.out.trans (hb.mono HB1.out.size))); (clear hb b5 HR hx hX1); (go_wp2_with fail); (refine (escape_ParseCodes.calls K1 (ofL Ca) (readCodes Ca).1 (readCodes Ca).2 W2 HK1.out (GW.below HG.out HB2.out)).mono ?_); (rintro e W3 ⟨vC, rfl, hC3, hb⟩); (have hX3 := (hb.block _ (blk_lt hX2)).trans hX2); (have HB23 := Aside0.mk hb); (have HB3 := Aside0.mk (HB2.out.trans (hb.mono HB2.out.size))); (obtain ⟨AC, cC, rfl⟩ := Kd.R_slice hC3); (have HC3 := Aside0.mk hC3); (clear hb hX2 hC3); (go_wp2_with fail); (refine (element_read.calls K2 (ofL Cb) (readR Cb).1 (readR Cb).2 W3 HK2.out (GW.below HG.out HB3.out)).mono ?_); (rintro e W4 ⟨vX, rfl, hX4r, hb⟩); (have hX4 := (hb.block _ (blk_lt hX3)).trans hX3); (have HB34 := Aside0.mk hb); (have HB4 := Aside0.mk (HB3.out.trans (hb.mono HB3.out.size))); (obtain ⟨AX, cX, rfl⟩ := Kd.R_slice hX4r); (have HX4 := Aside0.mk hX4r); (clear hb hX3 hX4r)
      cases hCf : Cf with
      | false =>
        (have HNO : Aside0 (lineS st s n = none) := ⟨by rw [HLE2.out, if_neg (fun h => by rw [hCf] at h; cases h.1)]⟩); (go_wp2); (go_ret)
        exact ⟨by rw [HNO.out]; rfl, HB4.out.mono (by omega), fun st1 h => by rw [HNO.out] at h; cases h⟩
      | true =>
        by_cases hC0 : (readCodes Ca).2 = 0
        · have m0 : ((readCodes Ca).2 != 0) = false := bne_eq_false_iff_eq.2 hC0
          cases hrd : readE Cb with
          | none =>
            (have hr2 : (readR Cb).2 = false := by unfold readR; rw [hrd]); (have HNO : Aside0 (lineS st s n = none) := ⟨by rw [HLE2.out, hCf, if_pos ⟨rfl, hC0⟩, hrd]; rfl⟩); (clear hC0); (go_wp2); (go_ret)
            exact ⟨by rw [HNO.out]; rfl, HB4.out.mono (by omega), fun st1 h => by rw [HNO.out] at h; cases h⟩
          | some els =>
            (have hr1 : readR Cb = (els, true) := by unfold readR; rw [hrd]); (have HYES : Aside0 (lineS st s n = some ⟨st.es ++ [⟨(readCodes Ca).1, els⟩], st.gs, st.b1, st.b2, st.b3, st.bg, st.ls ++ [n]⟩) := ⟨by rw [HLE2.out, hCf, if_pos ⟨rfl, hC0⟩, hrd]; rfl⟩); (rw [hr1] at HX4 ⊢); (obtain ⟨cs, hcs⟩ : ∃ cs, (readCodes Ca).1 = cs := ⟨_, rfl⟩); (rw [hcs] at HC3 HYES ⊢); (clear hC0 hrd hcs hr1 HK2); (have a0 : W4.cell? ⟨P, 0, none⟩ = some (.slice AE st.es.length cE) := (blk_cell hX4 0).trans rfl); (have hz2 := HB2.out.size); (have hz23 := HB23.out.size); (have hz34 := HB34.out.size); (have HB24 : Aside0 (Below W2.heap.size W2 W4) := ⟨HB23.out.trans (HB34.out.mono HB23.out.size)⟩); (have hLlt : ∀ k, some k = (Value.slice AL st.ls.length cL).ownBlock → k < w.heap.size := fun k e => Kd.R_lt HL.out k e.symm); (have hElt : ∀ k, some k = (Value.slice AE st.es.length cE).ownBlock → k < w.heap.size := fun k e => Kd.S_lt HE.out k e.symm); (have gC : Kd.R (Kd.int .i64) 3 W4 (P + 1) (fun k => W2.heap.size ≤ k) (.slice AC cs.length cC) cs := Kd.R_mono (Kd.R_lower (Kd.R_bound (Kd.R_below HC3.out HB34.out)) (by omega)) (fun k hk => hk.2.1)); (have gX : Kd.R k44 44 W4 (P + 1) (fun k => W2.heap.size ≤ k) (.slice AX els.length cX) els := Kd.R_mono (Kd.R_lower (Kd.R_bound HX4.out) (by omega)) (fun k hk => Nat.le_trans hz23 hk.2.1)); (have gE : Kd.S k49 49 W4 (P + 1) (fun k => some k ≠ (Value.slice AL st.ls.length cL).ownBlock ∧ ¬ W2.heap.size ≤ k) (.slice AE st.es.length cE) st.es := Kd.S_mono (Kd.S_old (Kd.S_below HE.out HB2.out) HB24.out) (fun k hk => ⟨hk.1, by omega⟩)); (have GE := Aside0.mk gE); (have GG := Aside0.mk (Kd.R_below HGr.out HB4.out)); (have GL := Aside0.mk (Kd.R_below HL.out HB4.out)); (have GC := Aside0.mk gC); (have GX := Aside0.mk gX); (clear gE gC gX); (go_wp2_with ((with_reducible refine gate_builtin (b := .append) (xs := #[.tmp 154, .tmp 158]) rfl ?_); at_builtin; refine Kd.S_append k49 (w0 := W4) (P + 1) rfl (.tmp 154) (.tmp 158) 32 49 (.agg #[.slice none 0 0, .slice none 0 0]) 48 rfl Tryz.underlying32 infoEntry rfl (by decide) (by decide) _ st.es ⟨cs, els⟩ [.slice AC cs.length cC, .slice AX els.length cX] (fun k => some k ≠ (Value.slice AL st.ls.length cL).ownBlock) (fun k => W2.heap.size ≤ k) rfl (by first | (go_simp; done) | (go_simp; rfl)) (k49_mkM _ _ _ ⟨cs, els⟩ GC.out GX.out) (fun k hk => ⟨fun e => by have := hLlt k e; omega, fun e => by have := hElt k e; omega⟩) (fun k hk e => by have := hLlt k e; omega) GE.out (Below.refl _ _) (by omega) (by omega) ?_)); (intro v1 w1 hS1 hb1 hg1 hat1); (obtain ⟨A5, c5, rfl⟩ := Kd.S_slice hS1); (have hX5 := blk_grown hX4 hg1 (fun e => by have := Kd.S_base GE.out P e.symm; omega)); (have hG5 := Kd.R_over' GG.out (Kd.S_typed GE.out) (by decide) hg1); (have hL5 := Kd.R_over' GL.out (Kd.S_typed GE.out) (by decide) hg1); (have f0 := blk_frozen hX5 0); (have d0 : w1.cell? ⟨P, 0, none⟩ = some (.slice AE st.es.length cE) := (blk_cell hX5 0).trans rfl); (clear a0); (have hX6 := blk_put hX5 0 (.slice A5 (st.es ++ [(⟨cs, els⟩ : S49)]).length c5) rfl); (have a6 : (w1.setCell ⟨P, 0, none⟩ (.slice A5 (st.es ++ [(⟨cs, els⟩ : S49)]).length c5)).cell? ⟨P, 6, none⟩ = some (.slice AL st.ls.length cL) := (blk_cell hX6 6).trans rfl); (have HS6 := Aside0.mk (S_setP hS1 0 (.slice A5 (st.es ++ [(⟨cs, els⟩ : S49)]).length c5))); (have HG6 := Aside0.mk (R_setP hG5 0 (.slice A5 (st.es ++ [(⟨cs, els⟩ : S49)]).length c5))); (have HL6 := Aside0.mk (R_setP hL5 0 (.slice A5 (st.es ++ [(⟨cs, els⟩ : S49)]).length c5))); (have hbw : Below P w w1 := (HB4.out.mono (by omega)).trans (hb1.mono (by omega))); (have HBP : Aside0 (Below P w (w1.setCell ⟨P, 0, none⟩ (.slice A5 (st.es ++ [(⟨cs, els⟩ : S49)]).length c5))) := ⟨Below.setCell (p := ⟨P, 0, none⟩) hbw (Nat.le_refl _) _⟩); (have hz6 : P + 1 ≤ (w1.setCell ⟨P, 0, none⟩ (.slice A5 (st.es ++ [(⟨cs, els⟩ : S49)]).length c5)).heap.size := blk_lt hX6); (have hlen5 : (st.es ++ [(⟨cs, els⟩ : S49)]).length = st.es.length + 1 := by simp); (rw [hlen5] at hX6 a6 HS6 HG6 HL6 HBP hz6); (clear hbw hS1 hG5 hL5 hb1 hg1 hat1); (go_wp2_with ((with_reducible refine gate_builtin (b := .append) (xs := #[.tmp 167, .tmp 169]) rfl ?_); at_builtin; refine Kd.R_append (Kd.int .i64) (w0 := w1.setCell ⟨P, 0, none⟩ (.slice A5 (st.es.length + 1) c5)) (P + 1) rfl (.tmp 167) (.tmp 169) 47 3 (.int .i64 0) 8 rfl Tryz.underlying47 info3 rfl (by decide) (by decide) _ st.ls n [.int .i64 n] (fun _ => True) (fun _ => False) rfl (by first | (go_simp; done) | (go_simp; rfl)) rfl (fun _ hk => hk.elim) (fun _ _ => trivial) HL6.out (Below.refl _ _) (by omega) (by omega) ?_)); (intro v2 w2 hR2 hb2 hg2 hat2); (rw [show w1.heap.size = (w1.setCell ⟨P, 0, none⟩ (.slice A5 (st.es.length + 1) c5)).heap.size by simp] at hat2); (generalize hW6 : w1.setCell ⟨P, 0, none⟩ (.slice A5 (st.es.length + 1) c5) = W6 at hX6 a6 HS6 HG6 HL6 HBP hz6 hb2 hg2 hat2); (obtain ⟨A7, c7, rfl⟩ := Kd.R_slice hR2); (have hX7 := blk_grown hX6 hg2 (fun e => by have := Kd.R_base HL6.out P e.symm; omega)); (have HS7 := Aside0.mk (Kd.S_after (v := .slice AL st.ls.length cL) (ok := fun _ => True) (Kd.S_mono HS6.out (fun k h => ⟨trivial, h⟩)) hg2 hat2)); (have HG7 := Aside0.mk (Kd.R_over' HG6.out (Kd.R_typed HL6.out) (by decide) hg2)); (have hbq : Below P w w2 := HBP.out.trans (hb2.mono (by omega))); (have HBQ := Aside0.mk hbq); (have f6 := blk_frozen hX7 6); (have d6 : w2.cell? ⟨P, 6, none⟩ = some (.slice AL st.ls.length cL) := (blk_cell hX7 6).trans rfl); (have hlen7 : (st.ls ++ [n]).length = st.ls.length + 1 := by simp); (rw [hlen7] at hR2 HS7 ⊢); (have HR2 := Aside0.mk hR2); (clear hbq hR2 hb2 hg2 hat2 a6); (go_wp2); (go_ret); (refine ⟨by rw [HYES.out]; rfl, Below.setCell (p := ⟨P, 6, none⟩) HBQ.out (Nat.le_refl _) _, fun st1 h => ?_⟩); (rw [HYES.out] at h); (cases h); (exact ⟨_, _, _, blk_put hX7 6 _ rfl, Kd.S_mono (S_setP HS7.out _ _) (fun k h => h.2), R_setP HG7.out _ _, R_setP HR2.out _ _⟩)
        · (have m0 : ((readCodes Ca).2 != 0) = true := bne_iff_ne.2 hC0); (have HNO : Aside0 (lineS st s n = none) := ⟨by rw [HLE2.out, if_neg (fun h => hC0 h.2)]⟩); (clear hC0); (go_wp2); (go_ret); (exact ⟨by rw [HNO.out]; rfl, HB4.out.mono (by omega), fun st1 h => by rw [HNO.out] at h; cases h⟩)
end Go.Proofs.YtdaijpjjilmkkaaGreatDoor.Pr
