/- The contract of codepoint.Hex: for a code point it returns its hexadecimal digits, at least four; for another number it returns the empty string. -/
import Derived.Lib.Hide
import Derived.Test.YtljhhnpgpiglfaaDoorPrx2
namespace Go.Proofs.YtljhhnpgpiglfaaDoor.Pr
open Go.RowKit Go.Proofs.YtljhhnpgpiglfaaDoorW.PrintWords Go.Proofs.YtljhhnpgpiglfaaDoorW.PrintLast Go.Proofs.YtljhhnpgpiglfaaDoorW.PrintMore
set_option linter.unusedVariables false
set_option linter.unusedSimpArgs false

/-- A digit's letter. -/
def hexDig (d : Nat) : Int := if d < 10 then 48 + d else 55 + d
/-- How many digits are written. -/
def hexLen (n : Nat) : Nat := if n < 65536 then 4 else if n < 1048576 then 5 else 6
def hexNums (n : Nat) : List Int := (List.range (hexLen n)).map fun j => hexDig (n / 16 ^ (hexLen n - 1 - j) % 16)
def hexOf (a0 : Int) : ByteArray := if 0 ≤ a0 ∧ a0 ≤ 1114111 then strOfNums (hexNums a0.toNat) else ⟨#[]⟩
def codepoint_Hex.f (a0 : Int) : Option ByteArray := some (hexOf a0)

/-- The buffer behind k rounds: cell j. -/
def hexCell (n k j : Nat) : Value := .int .u8 (if 6 ≤ j + k then hexDig (n / 16 ^ (5 - j) % 16) else 0)
def hexCells (n k : Nat) : Array Value := #[hexCell n k 0, hexCell n k 1, hexCell n k 2, hexCell n k 3, hexCell n k 4, hexCell n k 5]
def hexTab : Array Value := #[.int .u8 48, .int .u8 49, .int .u8 50, .int .u8 51, .int .u8 52, .int .u8 53, .int .u8 54, .int .u8 55, .int .u8 56, .int .u8 57, .int .u8 65, .int .u8 66, .int .u8 67, .int .u8 68, .int .u8 69, .int .u8 70]

theorem hexTab_at (d : Nat) (h : d < 16) : hexTab[d]? = some (.int .u8 (hexDig d)) := by
  match d, h with
  | 0, _ | 1, _ | 2, _ | 3, _ | 4, _ | 5, _ | 6, _ | 7, _ | 8, _ | 9, _ | 10, _ | 11, _ | 12, _ | 13, _ | 14, _ | 15, _ => rfl
  | n + 16, h => omega
theorem hexCells_at (n k j : Nat) (h : j < 6) : (hexCells n k)[j]? = some (hexCell n k j) := by
  match j, h with
  | 0, _ | 1, _ | 2, _ | 3, _ | 4, _ | 5, _ => rfl
  | n + 6, h => omega
theorem hexCell_other (n k j : Nat) (h : j ≠ 5 - k) (hk : k < 6) : hexCell n (k + 1) j = hexCell n k j := by
  unfold hexCell
  by_cases h1 : 6 ≤ j + k
  · rw [if_pos h1, if_pos (by omega)]
  · rw [if_neg h1, if_neg (by omega)]
theorem hexCell_new (n k : Nat) (hk : k < 6) : hexCell n (k + 1) (5 - k) = .int .u8 (hexDig (n / 16 ^ k % 16)) := by
  unfold hexCell
  rw [if_pos (by omega), show 5 - (5 - k) = k by omega]
theorem hexCells_set (n k : Nat) (hk : k < 6) : (hexCells n k).setIfInBounds (5 - k) (.int .u8 (hexDig (n / 16 ^ k % 16))) = hexCells n (k + 1) := by
  apply Array.ext
  · simp [hexCells]
  · intro i h1 h2
    have h6 : i < 6 := by simpa [hexCells] using h2
    have e : (hexCells n (k + 1))[i] = hexCell n (k + 1) i := by
      have := hexCells_at n (k + 1) i h6
      rw [Array.getElem?_eq_getElem h2] at this
      exact Option.some.inj this
    refine Eq.trans ?_ e.symm
    rw [Array.getElem_setIfInBounds]
    split
    · rename_i h; subst h; exact (hexCell_new n k hk).symm
    · rename_i h
      rw [hexCell_other n k i (fun e => h e.symm) hk]
      have := hexCells_at n k i h6
      rw [Array.getElem?_eq_getElem (show i < (hexCells n k).size by simpa [hexCells] using h6)] at this
      exact Option.some.inj this
    · simpa [hexCells] using h6

theorem hexLen_le (n : Nat) : 4 ≤ hexLen n ∧ hexLen n ≤ 6 := by unfold hexLen; (repeat' split) <;> omega
theorem hexLen_go (n k : Nat) (hn : n ≤ 1114111) (hk : k < hexLen n) (h4 : 4 ≤ k) : 0 < n / 16 ^ k := by
  unfold hexLen at hk
  by_cases h1 : n < 65536
  · rw [if_pos h1] at hk; omega
  rw [if_neg h1] at hk
  by_cases h2 : n < 1048576
  · rw [if_pos h2] at hk
    obtain rfl : k = 4 := by omega
    omega
  · rw [if_neg h2] at hk
    have : k = 4 ∨ k = 5 := by omega
    rcases this with rfl | rfl <;> omega
theorem hexLen_stop (n : Nat) (hn : n ≤ 1114111) : n / 16 ^ hexLen n = 0 := by
  unfold hexLen
  split
  · omega
  · split
    · omega
    · omega

theorem setRow_alloc (w : World) (cs old : Array Value) (t : TypeId) : (w.alloc (.cells old t)).setRow w.heap.size cs = w.alloc (.cells cs t) := by
  unfold World.setRow World.alloc
  congr 1
  apply Array.ext
  · simp
  · intro i h1 h2
    rw [Array.getElem_modify]
    split
    · rename_i h; subst h; simp
    · rename_i h
      simp at h1
      rw [Array.getElem_push_lt (by omega), Array.getElem_push_lt (by omega)]
theorem bits_and15 (c : Nat) (h : c ≤ 1114111) : bits .and .i64 (c : Int) 15 = ((c % 16 : Nat) : Int) := by
  have := bits_mask .i64 62 (by decide) (fun n h0 h1 => by rw [IntKind.wrap_i64]; omega) 4 (by decide) (c : Int) (by omega) (by omega)
  simpa using this

theorem hex_rel (n k c a b : Nat) {w wr : World} (hlt : k < hexLen n) (HC : Hid (n / 16 ^ k = c)) (HA : Hid (6 - k = a)) (hT : wr.heap[b]? = some (.cells hexTab 73 (0, 0))) (hC : wr.heap[b + 1]? = some (.cells (hexCells n k) 74 (0, 0)))
    (hB : Below w.heap.size w wr) (hz : w.heap.size ≤ b) :
    (∃ k, k ≤ hexLen n ∧ Value.int .i64 ((c : Int) / 16) = .int .i64 ((n / 16 ^ k : Nat) : Int) ∧ Value.int .i64 ((a : Int) - 1) = .int .i64 ((6 - k : Nat) : Int) ∧
      (wr.setCell ⟨b + 1, a - 1, none⟩ (.int .u8 (hexDig (c % 16)))).heap[b]? = some (.cells hexTab 73 (0, 0)) ∧
      (wr.setCell ⟨b + 1, a - 1, none⟩ (.int .u8 (hexDig (c % 16)))).heap[b + 1]? = some (.cells (hexCells n k) 74 (0, 0)) ∧
      Below w.heap.size w (wr.setCell ⟨b + 1, a - 1, none⟩ (.int .u8 (hexDig (c % 16))))) ∧
    (intOf (.int .i64 ((a : Int) - 1))).toNat < (intOf (.int .i64 (a : Int))).toNat := by
  have hL := hexLen_le n
  have hc := HC.out
  have ha := HA.out
  refine ⟨⟨k + 1, by omega, ?_, ?_, ?_, ?_, ?_⟩, ?_⟩
  · rw [Nat.pow_succ, ← Nat.div_div_eq_div_mul, hc]; rfl
  · congr 1; omega
  · exact (Below.heap_setCell _ _ _ _ (by simp)).trans hT
  · rw [setCell_eq_setRow wr (b + 1) (a - 1) _ _ _ _ hC, setRow_heap _ _ _ _ _ _ hC, ← hc, show a - 1 = 5 - k by omega, hexCells_set n k (by omega)]
  · exact hB.setCell (p := ⟨b + 1, a - 1, none⟩) (by simp; omega) _
  · simp [intOf]; omega

theorem hex_cells (n a b : Nat) {wr : World} (ha : 6 - hexLen n = a) (hC : wr.heap[b]? = some (.cells (hexCells n (hexLen n)) 74 (0, 0))) :
    ∀ i, i < 6 - a → wr.cell? ⟨b, a + i, none⟩ = some (.int .u8 ((hexNums n).getD i 0)) := by
  intro i hi
  have hL := hexLen_le n
  have h1 : wr.cell? ⟨b, a + i, none⟩ = (hexCells n (hexLen n))[a + i]? := by simp [World.cell?, hC]
  rw [h1, hexCells_at n _ _ (by omega)]
  unfold hexCell hexNums
  rw [if_pos (by omega), show 5 - (a + i) = hexLen n - 1 - i by omega]
  have : i < hexLen n := by omega
  simp [List.getD, this]

theorem hex_slice (w : World) (b a : Nat) (ha : a ≤ 2) : (Instr.sliceAt 74 (.pointer (some ⟨b, 0, none⟩)) (some (.int .i64 (a : Int))) none none).run Tryd.prog w = .ok (.slice (some ⟨b, a, none⟩) (6 - a) (6 - a)) w := by
  have hl : Tryd.prog.arrayLen 74 = 6 := by kernel_rfl
  have he : Tryd.prog.elem 74 = 5 := by kernel_rfl
  have hu : Tryd.prog.underlying 74 = some (.array (Tryd.prog.arrayLen 74) (Tryd.prog.elem 74)) := by rw [hl, he]; exact Tryd.underlying74
  rw [run_sliceAt_array_l w _ _ hu .i64 (a : Int) (by omega) (by omega), hl, he]
  have hs : (sizeOf 5).run Tryd.prog w = .ok 1 w := by kernel_rfl
  rw [hs]
  simp only [Result.andThen_ok, slicedAt, Int.toNat_natCast]
  rw [if_neg (by omega), Nat.mul_one, add_plain]

set_option maxHeartbeats 2000000 in
set_option maxRecDepth 100000 in
theorem codepoint_Hex.calls (a0 : Int) (r : ByteArray) (w : World) (h : codepoint_Hex.f a0 = some r) :
    Calls Tryd.prog 36 #[.int .i64 a0] w fun e w' => e = .returned (.string r) ∧ Below w.heap.size w w' := by
  obtain rfl := Option.some.inj h
  clear h
  by_cases hv : 0 ≤ a0 ∧ a0 ≤ 1114111
  · have E := Lib.hid (show hexOf a0 = strOfNums (hexNums a0.toNat) by unfold hexOf; rw [if_pos hv])
    have hV : codepoint_Valid.f a0 = some true := by unfold codepoint_Valid.f; rw [if_pos (by omega)]; simp [hv.2]
    obtain ⟨n, rfl⟩ := Int.eq_ofNat_of_zero_le hv.1
    rw [Int.toNat_natCast] at E
    have hn : n ≤ 1114111 := by omega
    clear hv
    go_enter Tryd.func36, Tryd.ntmps36
    go_wp2_with fail
    refine (codepoint_Valid.calls (n : Int) true _ hV).mono ?_
    rintro e w1 ⟨rfl, hd⟩
    have hb := hd.below
    have hz : w.heap.size ≤ w1.heap.size := hb.size
    clear hd hV
    have hbd : ∀ w, (Instr.build 73 #[(0, .int .u8 48), (1, .int .u8 49), (2, .int .u8 50), (3, .int .u8 51), (4, .int .u8 52), (5, .int .u8 53), (6, .int .u8 54), (7, .int .u8 55), (8, .int .u8 56), (9, .int .u8 57), (10, .int .u8 65), (11, .int .u8 66), (12, .int .u8 67), (13, .int .u8 68), (14, .int .u8 69), (15, .int .u8 70)]).run Tryd.prog w = .ok (.agg hexTab) w := fun _ => by kernel_rfl
    go_wp2_with (refine wpList_store_row rfl 73 (.tmp 3) (.tmp 9) rfl w1.heap.size hexTab rfl rfl 73 (Array.replicate 16 (.int .u8 0)) (heap_alloc_new _ _) (by kernel_rfl) rfl (by decide) ?_; rw [setRow_alloc])
    go_loopw [0, 5] (fun c i wr => ∃ k : Nat, k ≤ hexLen n ∧ c = .int .i64 ((n / 16 ^ k : Nat) : Int) ∧ i = .int .i64 ((6 - k : Nat) : Int) ∧ wr.heap[w1.heap.size]? = some (.cells hexTab 73 (0, 0)) ∧ wr.heap[w1.heap.size + 1]? = some (.cells (hexCells n k) 74 (0, 0)) ∧ Below w.heap.size w wr) (fun _ i _ => (intOf i).toNat)
    case atStart =>
      refine ⟨0, Nat.zero_le _, by simp, by simp, ?_, ?_, ?_⟩
      · exact (Below.heap_alloc _ _ _ (by simp)).trans (heap_alloc_new _ _)
      · have := heap_alloc_new (w1.alloc (.cells hexTab 73)) (.cells (hexCells n 0) 74)
        rw [World.size_alloc] at this
        exact this
      · exact hb.trans ((((Below.refl _ w1).alloc (Nat.le_refl _) _).alloc (by simp) _).mono hz)
    case round =>
      obtain ⟨k, hk, rfl, rfl, hT, hC, hB⟩ := hrel
      have hL := hexLen_le n
      by_cases hlt : k < hexLen n
      · have h1 : 0 < n / 16 ^ k ∨ 2 < 6 - k := by
          by_cases h4 : 4 ≤ k
          · exact .inl (hexLen_go n k hn hlt h4)
          · exact .inr (by omega)
        have hdiv : n / 16 ^ k ≤ n := Nat.div_le_self _ _
        obtain ⟨c, hc⟩ : ∃ c, n / 16 ^ k = c := ⟨_, rfl⟩
        obtain ⟨a, ha⟩ : ∃ a, 6 - k = a := ⟨_, rfl⟩
        rw [hc] at h1 hdiv ⊢
        rw [ha] at h1 ⊢
        have ha1 : 1 ≤ a := by omega
        have ha6 : a ≤ 6 := by omega
        have hc6 : c ≤ 1114111 := by omega
        have hand := bits_and15 c hc6
        have hd16 : c % 16 < 16 := Nat.mod_lt _ (by decide)
        have hl : wr.cell? ⟨w1.heap.size, c % 16, none⟩ = some (.int .u8 (hexDig (c % 16))) := by simp [World.cell?, hT, hexTab_at _ hd16]
        have hs : wr.cell? ⟨w1.heap.size + 1, a - 1, none⟩ = some (hexCell n k (a - 1)) := by simp [World.cell?, hC, hexCells_at n k _ (show a - 1 < 6 by omega)]
        have hf : wr.frozen? ⟨w1.heap.size + 1, a - 1, none⟩ = false := by simp [World.frozen?, hC]
        have HC := Lib.hid hc
        have HA := Lib.hid ha
        clear hc ha
        by_cases h0 : 0 < c
        · clear h1
          go_wp2
          exact hex_rel n k c a w1.heap.size hlt HC HA hT hC hB hz
        · obtain rfl : c = 0 := by omega
          have h2 : 2 < a := by omega
          clear h0 h1 hand hl hd16
          have hand : bits .and .i64 0 15 = 0 := by decide
          have hl : wr.cell? ⟨w1.heap.size, 0, none⟩ = some (.int .u8 48) := by simp [World.cell?, hT, hexTab]
          go_wp2
          exact hex_rel n k 0 a w1.heap.size hlt HC HA hT hC hB hz
      · obtain rfl : k = hexLen n := by omega
        have hst := hexLen_stop n hn
        rw [hst]
        obtain ⟨a, ha⟩ : ∃ a, 6 - hexLen n = a := ⟨_, rfl⟩
        rw [ha]
        have ha2 : a ≤ 2 := by omega
        have hcv := run_convert_bytes_arg (P := Tryd.prog) wr 37 5 Tryd.underlying37 Tryd.underlying5 (w1.heap.size + 1) a (6 - a) (6 - a) (hexNums n) (by simp [hexNums]; omega) (hex_cells n a (w1.heap.size + 1) ha hC) 9 Tryd.underlying9
        have hsl := hex_slice wr (w1.heap.size + 1) a ha2
        have HA := Lib.hid ha
        clear ha hst hlt hL hT hC hk
        rw [show ((0 : Nat) : Int) = 0 from rfl]
        go_wp2
        go_ret
        exact ⟨by rw [E.out]; rfl, hB⟩
  · have E := Lib.hid (show hexOf a0 = ⟨#[]⟩ by unfold hexOf; rw [if_neg hv])
    have hV : codepoint_Valid.f a0 = some false := by
      unfold codepoint_Valid.f
      by_cases h0 : a0 ≥ 0
      · rw [if_pos h0, decide_eq_false (fun h1 => hv ⟨h0, h1⟩)]
      · rw [if_neg h0]
    clear hv
    go_enter Tryd.func36, Tryd.ntmps36
    go_wp2_with fail
    refine (codepoint_Valid.calls a0 false _ hV).mono ?_
    rintro e w' ⟨rfl, hd⟩
    have hb := hd.below
    obtain ⟨⟨m, rfl⟩⟩ := hd
    go_wp2
    go_ret
    exact ⟨by rw [E.out]; rfl, hb⟩

end Go.Proofs.YtljhhnpgpiglfaaDoor.Pr
