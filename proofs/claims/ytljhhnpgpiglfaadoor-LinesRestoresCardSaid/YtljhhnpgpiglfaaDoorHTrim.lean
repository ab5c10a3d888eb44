/- The contracts of strings.Trim (a cutset of ASCII bytes), strings.Cut, strings.Contains, in the form of the printed contracts. -/
import Derived.Test.YtljhhnpgpiglfaaDoorHShelf
import Derived.Test.YtljhhnpgpiglfaaDoorHGlob
import Derived.Shelf.Strings.SlTrimAscii
import Derived.Test.YtljhhnpgpiglfaaDoorPrx0
import Derived.Laws.RangeAny
import Derived.Lib.OthersKept
import Derived.Laws.Runes
import Derived.Lib.MapLaws
import Derived.Lib.RuneBytes
namespace Go.Proofs.YtljhhnpgpiglfaaDoor.Pr
open Go.RowKit Go.Shelf Go.Proofs.YtljhhnpgpiglfaaDoorW.PrintWords Go.Proofs.YtljhhnpgpiglfaaDoorW.PrintLast Go.Proofs.YtljhhnpgpiglfaaDoorW.PrintMore
set_option linter.unusedVariables false

def asciiL (l : List UInt8) : Bool := l.all fun b => decide (b.toNat < 128)
theorem asciiL_at {l : List UInt8} (h : asciiL l = true) : ∀ (j : Nat) b, l[j]? = some b → b.toNat < 128 := ascii_of_all h

def strings_Trim.f (a0 a1 : ByteArray) : Option ByteArray :=
  if a0.size ≤ 9223372036854775807 ∧ a1.size < 4294967281 ∧ asciiL a1.data.toList = true then some ⟨(Lib.trimS a0.data.toList a1.data.toList).toArray⟩ else none
theorem strings_Trim.calls (a0 a1 r : ByteArray) (w : World) (h : strings_Trim.f a0 a1 = some r) :
    Calls Tryd.prog 42 #[.string a0, .string a1] w fun e w' => e = .returned (.string r) ∧ Below w.heap.size w w' := by
  unfold strings_Trim.f at h
  by_cases hc : a0.size ≤ 9223372036854775807 ∧ a1.size < 4294967281 ∧ asciiL a1.data.toList = true
  · rw [if_pos hc] at h
    obtain rfl := Option.some.inj h
    exact Any.strings_Trim_laid Tryd.lays160 (by kernel_rfl) a0 a1 w hc.1 hc.2.1 (asciiL_at hc.2.2)
  · rw [if_neg hc] at h; cases h

def strings_Cut.f (a0 a1 : ByteArray) : Option (ByteArray × ByteArray × Bool) :=
  if a0.size < 4294967281 then some (⟨(Lib.cut a0.data.toList a1.data.toList).1.toArray⟩, ⟨(Lib.cut a0.data.toList a1.data.toList).2.1.toArray⟩, (Lib.cut a0.data.toList a1.data.toList).2.2) else none
theorem strings_Cut.calls (a0 a1 r1 r2 : ByteArray) (r3 : Bool) (w : World) (h : strings_Cut.f a0 a1 = some (r1, r2, r3)) (hG : GW w) :
    Calls Tryd.prog 22 #[.string a0, .string a1] w fun e w' => e = .returned (.tuple #[.string r1, .string r2, .bool r3]) ∧ Below w.heap.size w w' := by
  unfold strings_Cut.f at h
  by_cases hc : a0.size < 4294967281
  · rw [if_pos hc] at h
    simp only [Option.some.injEq, Prod.mk.injEq] at h
    obtain ⟨rfl, rfl, rfl⟩ := h
    obtain ⟨m, hm⟩ := hG
    refine (Tryd.strings_Cut a0 a1 m w hc hm).mono ?_
    rintro e w' ⟨rfl, n, rfl⟩
    exact ⟨rfl, pw_below_drewN (Below.refl _ _) n⟩
  · rw [if_neg hc] at h; cases h

def strings_Contains.f (a0 a1 : ByteArray) : Option Bool := if a0.size < 4294967281 then some (Lib.contains a0.data.toList a1.data.toList) else none
theorem strings_Contains.calls (a0 a1 : ByteArray) (r : Bool) (w : World) (h : strings_Contains.f a0 a1 = some r) (hG : GW w) :
    Calls Tryd.prog 34 #[.string a0, .string a1] w fun e w' => e = .returned (.bool r) ∧ Below w.heap.size w w' := by
  unfold strings_Contains.f at h
  by_cases hc : a0.size < 4294967281
  · rw [if_pos hc] at h
    obtain rfl := Option.some.inj h
    obtain ⟨m, hm⟩ := hG
    refine (Tryd.strings_Contains a0 a1 m w hc hm).mono ?_
    rintro e w' ⟨rfl, rfl⟩
    exact ⟨rfl, Below.refl _ _⟩
  · rw [if_neg hc] at h; cases h

end Go.Proofs.YtljhhnpgpiglfaaDoor.Pr

/- strings.ContainsAny for whatever text, where the bytes looked for are ASCII bytes: the runes at 128 and above are walked, too. -/
namespace Go.Proofs.YtljhhnpgpiglfaaDoor.Pr
open Go.RowKit Go.Shelf Go.Lib Go.Proofs.YtljhhnpgpiglfaaDoorW.PrintWords Go.Proofs.YtljhhnpgpiglfaaDoorW.PrintLast Go.Proofs.YtljhhnpgpiglfaaDoorW.PrintMore
set_option linter.unusedVariables false
set_option linter.unusedSimpArgs false

theorem valid_of {r : Int} (h : Lib.validRune r = true) : Utf8.valid r = true := by
  unfold Lib.validRune at h
  have := of_decide_eq_true h
  unfold Utf8.valid
  rcases this with h | h
  · simp [h.1, h.2]
  · simp [h.2]; omega
theorem index_high (l : List UInt8) (c : UInt8) (hl : ∀ (k : Nat) b, l[k]? = some b → b.toNat < 128) (hc : 128 ≤ c.toNat) : Lib.indexByte l c = -1 := by
  have hge := Lib.indexByte_ge l c
  by_cases h : Lib.indexByte l c = -1
  · exact h
  · obtain ⟨o, ho⟩ : ∃ o : Nat, Lib.indexByte l c = o := ⟨(Lib.indexByte l c).toNat, by omega⟩
    have := hl o c (Lib.indexByte_some ho).1
    omega

set_option maxHeartbeats 8000000 in
set_option maxRecDepth 1000000 in
theorem index_rune_high (s : ByteArray) (r : Int) (w : World) (hs : s.size < 4294967281) (hA : ∀ (j : Nat) b, s.data.toList[j]? = some b → b.toNat < 128) (h0 : 128 ≤ r) (h1 : r ≤ 1114111) :
    Calls Tryd.prog 62 #[.string s, .int .i32 r] w fun e w' => e = .returned (.int .i64 (-1)) ∧ Below w.heap.size w w' := by
  have HA : Aside0 (∀ (j : Nat) b, s.data.toList[j]? = some b → b.toNat < 128) := ⟨hA⟩
  clear hA
  have t21 := Tryd.underlying21
  have t9 := Tryd.underlying9
  have hmix : Tryd.prog.follows .mixedOrders = true := by kernel_rfl
  have g0 : decide ((0 : Int) ≤ r) = true := decide_eq_true (by omega)
  have g1 : decide (r < 128) = false := decide_eq_false (by omega)
  by_cases he : r = 65533
  · have ge : (r == 65533) = true := beq_iff_eq.2 he
    go_enter Tryd.func62, Tryd.ntmps62
    go_wp2
    have hr := fun (w1 : World) => True.intro
    go_loopg [5, 6] s.size (fun g _ _ wx => ∃ i : Nat, i + g = s.size ∧ wx = w.iter s i)
    case atStart => exact ⟨0, by omega, rfl⟩
    case round =>
      obtain ⟨i, hig, rfl⟩ := hrel
      cases gk with
      | zero =>
        obtain rfl : i = s.size := by omega
        have hnx := run_next_end (P := Tryd.prog) w s s.size
        go_wp2
        go_ret
        exact ⟨rfl, below_alloc (Below.refl _ _) _⟩
      | succ g =>
        have hi : i < s.size := by omega
        obtain ⟨x, hx⟩ : ∃ x : UInt8, s[i]'hi = x := ⟨_, rfl⟩
        have hxl : s.data.toList[i]? = some x := by rw [← hx]; exact Lib.data_getElem? s i hi
        have hx128 : x.toNat < 128 := HA.out i x hxl
        have hnx := fun ty => run_next_ascii (P := Tryd.prog) w s i ty hi (by rw [hx]; exact hx128)
        rw [hx] at hnx
        have hne : ((x.toNat : Int) == 65533) = false := beq_eq_false_iff_ne.2 (by omega)
        clear hx hxl
        go_wp2
        go_roundg g
        case measure => omega
        case rel => exact ⟨i + 1, by omega, rfl⟩
  · have ge : (r == 65533) = false := beq_eq_false_iff_ne.2 he
    have hv : Lib.validRune r = true ∨ Lib.validRune r = false := by cases Lib.validRune r <;> simp
    rcases hv with hv | hv
    · obtain ⟨rs, hrs⟩ : ∃ rs : ByteArray, Utf8.encode r = rs := ⟨_, rfl⟩
      have hcv : ∀ w1 : World, (convert 21 9 (.int .i32 r)).run Tryd.prog w1 = .ok (.string rs) w1 := fun w1 => by rw [run_convert_int_string w1 _ _ _ _ (by rw [t21]; rfl) t9, hrs]
      obtain ⟨j, hj⟩ : ∃ j : Int, (rs.size : Int) - 1 = j := ⟨_, rfl⟩
      obtain ⟨z0, z1, hlast⟩ : 1 ≤ j ∧ j ≤ 3 ∧ 128 ≤ bt rs j := by
        have hf := encode_facts r (valid_of hv) h0
        rw [hrs] at hf
        obtain ⟨f1, f2, f3⟩ := hf
        have f4 := f3 (by omega)
        have ej : j = ((rs.size - 1 : Nat) : Int) := by omega
        have f5 := bt_at rs j (by omega)
        have f6 : rs[j.toNat]'(by omega) = rs[rs.size - 1]'(by omega) := by congr 1; omega
        rw [f6] at f5
        omega
      have hb0 := bt_range rs j
      go_enter Tryd.func62, Tryd.ntmps62
      go_wp2_with (go_at_call 76; refine (Tryd.utf8_ValidRune r _).mono ?_; rintro e w' ⟨rfl, rfl⟩; rw [hv])
      go_step3
      go_wp2_with (fail)
      go_loopg [9, 10, 11] 1 (fun g x9 x10 x11 wx => g = 1 ∧ x9 = .int .i64 j ∧ wx = w')
      case atStart => exact ⟨rfl, rfl, rfl⟩
      case round =>
        obtain ⟨rfl, rfl, rfl⟩ := hrel
        by_cases hin : j < (s.size : Int)
        · have hd : decide (j < (s.size : Int)) = true := decide_eq_true hin
          have p0 : (0 ≤ j) = True := eq_true (by omega)
          have p1 : (j < (s.size : Int)) = True := eq_true hin
          have p2 : (j < (rs.size : Int)) = True := eq_true (by omega)
          have hx1 := bt_at s j
          have hx2 := bt_at rs j
          have hs128 : bt s j < 128 := by
            have f5 := bt_at s j (by omega)
            have f7 := HA.out j.toNat _ (Lib.data_getElem? s j.toNat (by omega))
            omega
          have hne : (bt s j != bt rs j) = true := bne_iff_ne.2 (by omega)
          have hw1 : IntKind.i64.wrap (j + 1) = j + 1 := wrap_small _ (by omega) (by omega)
          have p3 : (0 ≤ j + 1) = True := eq_true (by omega)
          have p4 : (j + 1 ≤ (s.size : Int)) = True := eq_true (by omega)
          have hib : Lib.indexByte (s.extract (j + 1).toNat s.size).data.toList (bt rs j).toNat.toUInt8 = -1 := by
            refine index_high _ _ (fun k b hk => ?_) (by simp; omega)
            rw [Lib.extract_data, List.getElem?_take] at hk
            split at hk
            · rw [List.getElem?_drop] at hk; exact HA.out _ b hk
            · cases hk
          go_wp2
          go_step3
          go_wp2
          go_region_o
          all_goals go_wp2
          all_goals (go_region_with (go_at_call 75; refine (Tryd.strings_IndexByte _ _ _).mono ?_; rintro e w' ⟨rfl, rfl⟩; rw [hib]))
          all_goals go_wp2
          all_goals (rw [Exit.noGoto_ret]; simp only [Exit.inBlock, Exit.then]; rw [Exit.noGoto_ret]; simp only [Exit.inBlock, Exit.then]; go_ret; exact ⟨rfl, below_drew (below_drew (Below.refl _ _))⟩)
        · have hd : decide (j < (s.size : Int)) = false := decide_eq_false hin
          go_wp2
          go_ret
          exact ⟨rfl, Below.refl _ _⟩
    · go_enter Tryd.func62, Tryd.ntmps62
      go_wp2_with (go_at_call 76; refine (Tryd.utf8_ValidRune r _).mono ?_; rintro e w' ⟨rfl, rfl⟩; rw [hv])
      go_ret
      exact ⟨rfl, Below.refl _ _⟩

theorem decode_step (s : ByteArray) (i : Nat) (h : i < s.size) : ((s[i]'h).toNat < 128 ∧ Utf8.decode s i = ((s[i]'h).toNat, 1)) ∨
    (128 ≤ (Utf8.decode s i).1 ∧ (Utf8.decode s i).1 ≤ 1114111 ∧ 1 ≤ (Utf8.decode s i).2 ∧ i + (Utf8.decode s i).2 ≤ s.size ∧ ∀ k : Nat, i ≤ k → k < i + (Utf8.decode s i).2 → ∀ b, s.data.toList[k]? = some b → 128 ≤ b.toNat) := by
  by_cases ha : (s[i]'h).toNat < 128
  · exact Or.inl ⟨ha, decode_ascii s i h ha⟩
  · right
    have hh := decode_high s i h (by omega)
    have hr := Lib.rune_le s i
    have hsz : s.data.toList.length = s.size := by simp
    have h0 : s.data.toList.getD i 0 = s[i]'h := by rw [List.getD_eq_getElem?_getD, Lib.data_getElem? s i h]; rfl
    have key : ∀ k b, s.data.toList[k]? = some b → s.data.toList.getD k 0 = b := fun k b hk => by rw [List.getD_eq_getElem?_getD, hk]; rfl
    refine ⟨hh.1, hr, hh.2, ?_⟩
    rw [Lib.decode_N] at hh ⊢
    rcases Lib.decodeN_shape (s.data.toList.length - i) (s.data.toList.getD i 0).toNat (s.data.toList.getD (i + 1) 0).toNat (s.data.toList.getD (i + 2) 0).toNat (s.data.toList.getD (i + 3) 0).toNat with ⟨c, e⟩ | ⟨c1, c2, c3, cv, e⟩ | ⟨c1, c2, c3, c4, cv, cs, e⟩ | ⟨c1, c2, c3, c4, c5, cv, cw, e⟩ | e
    · rw [h0] at c; omega
    all_goals
      rw [e]
      dsimp only
      refine ⟨by omega, fun k h1 h2 b hb => ?_⟩
      have hk := key k b hb
      obtain ⟨m, rfl⟩ : ∃ m, k = i + m := ⟨k - i, by omega⟩
      have hm : m = 0 ∨ m = 1 ∨ m = 2 ∨ m = 3 := by omega
      rcases hm with rfl | rfl | rfl | rfl
      all_goals (first | (rw [Nat.add_zero] at hk; rw [← hk, h0]; omega) | (rw [← hk]; omega) | omega)

set_option maxHeartbeats 8000000 in
set_option maxRecDepth 1000000 in
theorem index_any_short (s chars : ByteArray) (w : World) (h2 : 2 ≤ chars.size) (hcs : chars.size < 4294967281) (h8 : s.size ≤ 8) (hA : ∀ (j : Nat) b, chars.data.toList[j]? = some b → b.toNat < 128) :
    Calls Tryd.prog 47 #[.string s, .string chars] w fun e w' => e = .returned (.int .i64 (Lib.indexAny s.data.toList chars.data.toList)) ∧ Below w.heap.size w w' := by
  have HA : Aside0 (∀ (j : Nat) b, chars.data.toList[j]? = some b → b.toNat < 128) := ⟨hA⟩
  clear hA
  have hemp : chars.toList.isEmpty = false := by
    rw [Lib.toList_data]
    cases h : chars.data.toList with
    | nil => have := Lib.size_eq chars; rw [h, List.length_nil] at this; omega
    | cons _ _ => rfl
  have hn1 : ((chars.size : Int) == 1) = false := beq_eq_false_iff_ne.2 (by omega)
  have h8z : decide ((8 : Int) < (s.size : Int)) = false := decide_eq_false (by omega)
  go_enter Tryd.func47, Tryd.ntmps47
  go_wp2_with (go_at_call 63; refine (Tryd.strings_shouldUseASCIISet _ _).mono ?_; rintro e w' ⟨rfl, hw⟩; rw [hw, h8z])
  go_loopg [9, 10] s.size (fun g _ _ wx => ∃ i : Nat, i ≤ s.size ∧ s.size ≤ i + g ∧ Aside0 (wx.heap[w.heap.size]? = some (.stringIter s i)) ∧ Aside0 (Below w.heap.size w wx) ∧ Aside0 (Lib.NoAny s.data.toList chars.data.toList i))
  case atStart => exact ⟨0, by omega, by omega, ⟨World.iter_heap w s 0⟩, ⟨below_alloc (Below.refl _ _) _⟩, ⟨Lib.NoAny.zero _ _⟩⟩
  case round =>
    obtain ⟨i, hle, hig, HI, HB, HN⟩ := hrel
    cases gk with
    | zero =>
      obtain rfl : i = s.size := by omega
      have hnx := fun ty => Lib.run_next_end_at (P := Tryd.prog) wr w.heap.size s s.size ty HI.out (by omega)
      go_wp2
      go_ret
      exact ⟨by rw [Lib.indexAny_none (by rw [← Lib.size_eq]; exact HN.out)]; rfl, HB.out⟩
    | succ g =>
      by_cases hi : i < s.size
      case neg =>
        obtain rfl : i = s.size := by omega
        have hnx := fun ty => Lib.run_next_end_at (P := Tryd.prog) wr w.heap.size s s.size ty HI.out (by omega)
        go_wp2
        go_ret
        exact ⟨by rw [Lib.indexAny_none (by rw [← Lib.size_eq]; exact HN.out)]; rfl, HB.out⟩
      have hnx := fun ty => Lib.run_next_any_at (P := Tryd.prog) wr w.heap.size s i ty HI.out hi
      have hsz : w.heap.size < wr.heap.size := (Array.getElem?_eq_some_iff.1 HI.out).1
      obtain ⟨x, hx⟩ : ∃ x : UInt8, s[i]'hi = x := ⟨_, rfl⟩
      have Hx : Aside0 (s.data.toList[i]? = some x) := ⟨by rw [← hx]; exact Lib.data_getElem? s i hi⟩
      rcases decode_step s i hi with ⟨hd1, hd2⟩ | ⟨hd1, hd2, hd3, hd4, hd5⟩
      · rw [hd2, hx] at hnx
        rw [hx] at hd1
        clear hd2 hx
        dsimp only at hnx
        have hcon := Lib.contains_iff_indexByte chars.data.toList x
        have hback : ((x.toNat : Int)).toNat.toUInt8 = x := by simp
        have HI2 : Aside0 ((wr.iterAt w.heap.size s (i + 1)).heap[w.heap.size]? = some (.stringIter s (i + 1))) := ⟨Lib.iterAt_heap _ _ _ _ _ HI.out⟩
        have HB2 : Aside0 (Below w.heap.size w (wr.iterAt w.heap.size s (i + 1))) := ⟨Lib.below_iterAt HB.out (Nat.le_refl _) _ _⟩
        cases hin : chars.data.toList.contains x
        · rw [hin] at hcon
          have hlt : ¬ ((0 : Int) ≤ Lib.indexByte chars.data.toList x) := of_decide_eq_false hcon.symm
          clear hcon
          go_wp2_with (go_at_call 62; refine (Tryd.strings_IndexRune_ascii _ _ _ (by omega) (by omega)).mono ?_; rintro e w' ⟨rfl, hw⟩; rw [hw, hback])
          go_roundg g
          case measure => omega
          case rel => exact ⟨i + 1, by omega, by omega, HI2, HB2, ⟨HN.out.succ Hx.out hin⟩⟩
        · rw [hin] at hcon
          have hge : (0 : Int) ≤ Lib.indexByte chars.data.toList x := of_decide_eq_true hcon.symm
          clear hcon
          go_wp2_with (go_at_call 62; refine (Tryd.strings_IndexRune_ascii _ _ _ (by omega) (by omega)).mono ?_; rintro e w' ⟨rfl, hw⟩; rw [hw, hback])
          go_ret
          exact ⟨by rw [Lib.indexAny_hit HN.out Hx.out hin]; rfl, HB2.out⟩
      · obtain ⟨r, hr⟩ : ∃ r : Nat, (Utf8.decode s i).1 = r := ⟨_, rfl⟩
        obtain ⟨wd, hwd⟩ : ∃ wd : Nat, (Utf8.decode s i).2 = wd := ⟨_, rfl⟩
        rw [hr] at hd1 hd2
        rw [hwd] at hd3 hd4 hd5
        simp only [hr, hwd] at hnx
        have HI2 : Aside0 ((wr.iterAt w.heap.size s (i + wd)).heap[w.heap.size]? = some (.stringIter s (i + wd))) := ⟨Lib.iterAt_heap _ _ _ _ _ HI.out⟩
        have HB2 : Aside0 (Below w.heap.size w (wr.iterAt w.heap.size s (i + wd))) := ⟨Lib.below_iterAt HB.out (Nat.le_refl _) _ _⟩
        have HN2 : Aside0 (Lib.NoAny s.data.toList chars.data.toList (i + wd)) := ⟨fun k b hk hb => by
          by_cases hki : k < i
          · exact HN.out k b hki hb
          · have h128 := hd5 k (by omega) hk b hb
            cases hc : chars.data.toList.contains b with
            | false => rfl
            | true =>
              obtain ⟨q, hq⟩ := List.mem_iff_getElem?.1 (List.contains_iff_mem.1 hc)
              have := HA.out q b hq
              omega⟩
        have hszz : w.heap.size < (wr.iterAt w.heap.size s (i + wd)).heap.size := by rw [Lib.iterAt_size]; exact hsz
        clear hr hwd hd5 hx Hx
        go_wp2_with (go_at_call 62; refine (index_rune_high chars _ _ hcs HA.out (by omega) (by omega)).mono ?_; rintro e w2 ⟨rfl, hb2⟩; have HI3 : Aside0 (w2.heap[w.heap.size]? = some (.stringIter s (i + wd))) := ⟨(hb2.block _ hszz).trans HI2.out⟩; have HB3 : Aside0 (Below w.heap.size w w2) := ⟨HB2.out.trans (hb2.mono (by omega))⟩; clear hb2)
        go_roundg g
        case measure => omega
        case rel => exact ⟨i + wd, by omega, by omega, HI3, HB3, HN2⟩

theorem index_any (s chars : ByteArray) (w : World) (hs : s.size < 4294967281) (hcs : chars.size < 4294967281) (hA : ∀ (j : Nat) b, chars.data.toList[j]? = some b → b.toNat < 128) :
    Calls Tryd.prog 47 #[.string s, .string chars] w fun e w' => e = .returned (.int .i64 (Lib.indexAny s.data.toList chars.data.toList)) ∧ Below w.heap.size w w' := by
  by_cases h0 : chars.size = 0
  · exact (Tryd.strings_IndexAny_none s chars w h0).mono fun e w' ⟨h1, h2⟩ => ⟨h1, h2 ▸ Below.refl _ _⟩
  by_cases h1 : chars.size = 1
  · exact (Tryd.strings_IndexAny_one s chars w h1 hA).mono fun e w' ⟨h1, h2⟩ => ⟨h1, h2 ▸ Below.refl _ _⟩
  by_cases h8 : s.size ≤ 8
  · exact index_any_short s chars w (by omega) hcs h8 hA
  · have hz : (Tryd.prog.info? (Tryd.lays153_ren.t 116)).map (fun i => (i.zero, i.size)) = some (some (.agg (Array.replicate 256 (.bool false))), 256) := by kernel_rfl
    refine (Any.strings_IndexAny_long Tryd.lays153 (zero_of_info hz).1 (zero_of_info hz).2 s chars w (by omega) (by omega) hs hcs hA).mono fun e w' ⟨h1, h2⟩ => ⟨h1, ?_⟩
    rw [h2]
    exact ((Below.refl _ _).alloc (Nat.le_refl _) _).alloc (by simp) _

def strings_ContainsAny.f (a0 a1 : ByteArray) : Option Bool :=
  if a0.size < 4294967281 ∧ a1.size < 4294967281 ∧ asciiL a1.data.toList = true then some (Lib.containsAny a0.data.toList a1.data.toList) else none
set_option maxHeartbeats 1000000 in
theorem strings_ContainsAny.calls (a0 a1 : ByteArray) (r : Bool) (w : World) (h : strings_ContainsAny.f a0 a1 = some r) (hG : GW w) :
    Calls Tryd.prog 33 #[.string a0, .string a1] w fun e w' => e = .returned (.bool r) ∧ Below w.heap.size w w' := by
  unfold strings_ContainsAny.f at h
  by_cases hc : a0.size < 4294967281 ∧ a1.size < 4294967281 ∧ asciiL a1.data.toList = true
  · rw [if_pos hc] at h
    obtain rfl := Option.some.inj h
    have c := index_any a0 a1 w hc.1 hc.2.1 (asciiL_at hc.2.2)
    clear hc h hG
    go_enter Tryd.func33, Tryd.ntmps33
    go_wp2_with (go_at_call 47; refine c.mono ?_; rintro e w' ⟨rfl, hw⟩)
    go_ret
    exact ⟨rfl, hw⟩
  · rw [if_neg hc] at h; cases h

end Go.Proofs.YtljhhnpgpiglfaaDoor.Pr
