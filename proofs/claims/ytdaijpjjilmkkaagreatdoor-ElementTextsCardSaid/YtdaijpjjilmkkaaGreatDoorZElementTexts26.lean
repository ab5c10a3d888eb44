/- Texts of the claim ElementTexts, joined: HName, HNum, EMod. -/
import Derived.Test.YtdaijpjjilmkkaaGreatDoorZElementTexts24
import Derived.Test.YtdaijpjjilmkkaaGreatDoorZElementTexts0
import Derived.Test.YtdaijpjjilmkkaaGreatDoorZElementTexts22
import Derived.WalkMore
import Derived.Lib.MapLaws
import Derived.Laws.RangeAny
import Derived.Lib.AppendIntMem
/- The contract of element.isName. -/
namespace Go.Proofs.YtdaijpjjilmkkaaGreatDoor.Pr
open Go.RowKit Go.Shelf Go.Proofs.YtdaijpjjilmkkaaGreatDoorW.PrintWords Go.Proofs.YtdaijpjjilmkkaaGreatDoorW.PrintLast Go.Proofs.YtdaijpjjilmkkaaGreatDoorW.PrintMore
set_option linter.unusedVariables false
set_option linter.unusedSimpArgs false
def nameN (x : Nat) : Bool := (decide (65 ≤ x) && decide (x ≤ 90)) || (decide (97 ≤ x) && decide (x ≤ 122)) || (decide (48 ≤ x) && decide (x ≤ 57)) || x == 95
def nameB (l : List UInt8) : Bool := !l.isEmpty && decide (l.length ≤ 32) && l.all fun b => nameN b.toNat
def element_isName.f (a0 : ByteArray) : Option Bool := some (nameB a0.data.toList)
theorem nameN_high {x : Nat} (h : 128 ≤ x) : nameN x = false := by
  unfold nameN
  simp
  omega
theorem decode_step (s : ByteArray) (i : Nat) (h : i < s.size) : ((s[i]'h).toNat < 128 ∧ Utf8.decode s i = ((s[i]'h).toNat, 1)) ∨
    (128 ≤ (Utf8.decode s i).1 ∧ (Utf8.decode s i).1 ≤ 1114111 ∧ 1 ≤ (Utf8.decode s i).2 ∧ i + (Utf8.decode s i).2 ≤ s.size ∧ ∀ k : Nat, i ≤ k → k < i + (Utf8.decode s i).2 → ∀ b, s.data.toList[k]? = some b → 128 ≤ b.toNat) := by
  by_cases ha : (s[i]'h).toNat < 128
  · exact Or.inl ⟨ha, decode_ascii s i h ha⟩
  · right
    have hh := decode_high s i h (by omega)
    have hr := Lib.rune_le s i
    have hsz : s.data.toList.length = s.size := by simp
    have h0 : s.data.toList.getD i 0 = s[i]'h := by rw [List.getD_eq_getElem?_getD, Lib.data_getElem? s i h]; rfl
    have key : ∀ k b, s.data.toList[k]? = some b → s.data.toList.getD k 0 = b := fun k b hk => by rw [List.getD_eq_getElem?_getD, hk]; rfl
    refine ⟨hh.1, hr, hh.2, ?_⟩
    rw [Lib.decode_N] at hh ⊢
    rcases Lib.decodeN_shape (s.data.toList.length - i) (s.data.toList.getD i 0).toNat (s.data.toList.getD (i + 1) 0).toNat (s.data.toList.getD (i + 2) 0).toNat (s.data.toList.getD (i + 3) 0).toNat with ⟨c, e⟩ | ⟨c1, c2, c3, cv, e⟩ | ⟨c1, c2, c3, c4, cv, cs, e⟩ | ⟨c1, c2, c3, c4, c5, cv, cw, e⟩ | e
    · rw [h0] at c; omega
    all_goals
      rw [e]
      dsimp only
      refine ⟨by omega, fun k h1 h2 b hb => ?_⟩
      have hk := key k b hb
      obtain ⟨m, rfl⟩ : ∃ m, k = i + m := ⟨k - i, by omega⟩
      have hm : m = 0 ∨ m = 1 ∨ m = 2 ∨ m = 3 := by omega
      rcases hm with rfl | rfl | rfl | rfl
      all_goals (first | (rw [Nat.add_zero] at hk; rw [← hk, h0]; omega) | (rw [← hk]; omega) | omega)
theorem idx_name (s : ByteArray) : ∀ (f pos : Nat), s.size - pos ≤ f → pos ≤ s.size → decide (0 ≤ Lib.idxFuncFrom (fun x => !nameN x) true s f pos) = !((s.data.toList.drop pos).all fun b => nameN b.toNat) := by
  intro f
  induction f with
  | zero =>
    intro pos hf hp
    have he : s.data.toList.drop pos = [] := List.drop_of_length_le (by simp; omega)
    rw [he]
    rfl
  | succ f ih =>
    intro pos hf hp
    unfold Lib.idxFuncFrom
    by_cases h : pos < s.size
    · rw [if_pos h]
      have hl : pos < s.data.toList.length := by simpa using h
      have hat : s.data.toList[pos]'hl = s[pos]'h := by
        have := Lib.data_getElem? s pos h
        rw [List.getElem?_eq_getElem hl] at this
        exact Option.some.inj this
      have hd : s.data.toList.drop pos = s.data.toList[pos]'hl :: s.data.toList.drop (pos + 1) := List.drop_eq_getElem_cons hl
      rcases decode_step s pos h with ⟨h1, h2⟩ | ⟨h1, h2, h3, h4, h5⟩
      · rw [h2, hd, List.all_cons, hat]
        dsimp only
        cases hn : nameN (s[pos]'h).toNat with
        | true => rw [if_neg (by simp), ih (pos + 1) (by omega) (by omega)]; simp
        | false => rw [if_pos (show (!false) = true from rfl)]; simp
      · have hb : 128 ≤ (s.data.toList[pos]'hl).toNat := h5 pos (Nat.le_refl _) (by omega) _ (List.getElem?_eq_getElem hl)
        rw [hd, List.all_cons, nameN_high hb, if_pos (by rw [nameN_high h1]; rfl)]
        simp
    · rw [if_neg h]
      have he : s.data.toList.drop pos = [] := List.drop_of_length_le (by simp; omega)
      rw [he]
      rfl
set_option maxRecDepth 100000 in
set_option maxHeartbeats 4000000 in
theorem isName_rune (W : World) (x : Nat) : FnGives Tryz.prog 73 #[] #[encR x] (.bool (!nameN x)) W := by
  have hcase : (x < 48) ∨ (48 ≤ x ∧ x ≤ 57) ∨ (58 ≤ x ∧ x ≤ 64) ∨ (65 ≤ x ∧ x ≤ 90) ∨ (91 ≤ x ∧ x ≤ 94) ∨ (x = 95) ∨ (x = 96) ∨ (97 ≤ x ∧ x ≤ 122) ∨ (123 ≤ x) := by omega
  unfold FnGives encR
  rcases hcase with hx | hx | hx | hx | hx | hx | hx | hx | hx
  · have f0 : decide ((65 : Int) ≤ (x : Int)) = false := decide_eq_false (by omega)
    have f1 : decide ((x : Int) ≤ 90) = true := decide_eq_true (by omega)
    have f2 : decide ((97 : Int) ≤ (x : Int)) = false := decide_eq_false (by omega)
    have f3 : decide ((x : Int) ≤ 122) = true := decide_eq_true (by omega)
    have f4 : decide ((48 : Int) ≤ (x : Int)) = false := decide_eq_false (by omega)
    have f5 : decide ((x : Int) ≤ 57) = true := decide_eq_true (by omega)
    have f6 : ((x : Int) == 95) = false := beq_eq_false_iff_ne.2 (by omega)
    have hn : nameN x = false := by unfold nameN; simp; omega
    rw [hn]
    clear hn hx
    go_enter Tryz.func73, Tryz.ntmps73
    go_wp2
    go_ret
    exact ⟨rfl, 0, rfl⟩
  · have f0 : decide ((65 : Int) ≤ (x : Int)) = false := decide_eq_false (by omega)
    have f1 : decide ((x : Int) ≤ 90) = true := decide_eq_true (by omega)
    have f2 : decide ((97 : Int) ≤ (x : Int)) = false := decide_eq_false (by omega)
    have f3 : decide ((x : Int) ≤ 122) = true := decide_eq_true (by omega)
    have f4 : decide ((48 : Int) ≤ (x : Int)) = true := decide_eq_true (by omega)
    have f5 : decide ((x : Int) ≤ 57) = true := decide_eq_true (by omega)
    have f6 : ((x : Int) == 95) = false := beq_eq_false_iff_ne.2 (by omega)
    have hn : nameN x = true := by unfold nameN; simp; omega
    rw [hn]
    clear hn hx
    go_enter Tryz.func73, Tryz.ntmps73
    go_wp2
    go_ret
    exact ⟨rfl, 0, rfl⟩
  · have f0 : decide ((65 : Int) ≤ (x : Int)) = false := decide_eq_false (by omega)
    have f1 : decide ((x : Int) ≤ 90) = true := decide_eq_true (by omega)
    have f2 : decide ((97 : Int) ≤ (x : Int)) = false := decide_eq_false (by omega)
    have f3 : decide ((x : Int) ≤ 122) = true := decide_eq_true (by omega)
    have f4 : decide ((48 : Int) ≤ (x : Int)) = true := decide_eq_true (by omega)
    have f5 : decide ((x : Int) ≤ 57) = false := decide_eq_false (by omega)
    have f6 : ((x : Int) == 95) = false := beq_eq_false_iff_ne.2 (by omega)
    have hn : nameN x = false := by unfold nameN; simp; omega
    rw [hn]
    clear hn hx
    go_enter Tryz.func73, Tryz.ntmps73
    go_wp2
    go_ret
    exact ⟨rfl, 0, rfl⟩
  · have f0 : decide ((65 : Int) ≤ (x : Int)) = true := decide_eq_true (by omega)
    have f1 : decide ((x : Int) ≤ 90) = true := decide_eq_true (by omega)
    have f2 : decide ((97 : Int) ≤ (x : Int)) = false := decide_eq_false (by omega)
    have f3 : decide ((x : Int) ≤ 122) = true := decide_eq_true (by omega)
    have f4 : decide ((48 : Int) ≤ (x : Int)) = true := decide_eq_true (by omega)
    have f5 : decide ((x : Int) ≤ 57) = false := decide_eq_false (by omega)
    have f6 : ((x : Int) == 95) = false := beq_eq_false_iff_ne.2 (by omega)
    have hn : nameN x = true := by unfold nameN; simp; omega
    rw [hn]
    clear hn hx
    go_enter Tryz.func73, Tryz.ntmps73
    go_wp2
    go_ret
    exact ⟨rfl, 0, rfl⟩
  · have f0 : decide ((65 : Int) ≤ (x : Int)) = true := decide_eq_true (by omega)
    have f1 : decide ((x : Int) ≤ 90) = false := decide_eq_false (by omega)
    have f2 : decide ((97 : Int) ≤ (x : Int)) = false := decide_eq_false (by omega)
    have f3 : decide ((x : Int) ≤ 122) = true := decide_eq_true (by omega)
    have f4 : decide ((48 : Int) ≤ (x : Int)) = true := decide_eq_true (by omega)
    have f5 : decide ((x : Int) ≤ 57) = false := decide_eq_false (by omega)
    have f6 : ((x : Int) == 95) = false := beq_eq_false_iff_ne.2 (by omega)
    have hn : nameN x = false := by unfold nameN; simp; omega
    rw [hn]
    clear hn hx
    go_enter Tryz.func73, Tryz.ntmps73
    go_wp2
    go_ret
    exact ⟨rfl, 0, rfl⟩
  · have f0 : decide ((65 : Int) ≤ (x : Int)) = true := decide_eq_true (by omega)
    have f1 : decide ((x : Int) ≤ 90) = false := decide_eq_false (by omega)
    have f2 : decide ((97 : Int) ≤ (x : Int)) = false := decide_eq_false (by omega)
    have f3 : decide ((x : Int) ≤ 122) = true := decide_eq_true (by omega)
    have f4 : decide ((48 : Int) ≤ (x : Int)) = true := decide_eq_true (by omega)
    have f5 : decide ((x : Int) ≤ 57) = false := decide_eq_false (by omega)
    have f6 : ((x : Int) == 95) = true := beq_iff_eq.2 (by omega)
    have hn : nameN x = true := by unfold nameN; simp; omega
    rw [hn]
    clear hn hx
    go_enter Tryz.func73, Tryz.ntmps73
    go_wp2
    go_ret
    exact ⟨rfl, 0, rfl⟩
  · have f0 : decide ((65 : Int) ≤ (x : Int)) = true := decide_eq_true (by omega)
    have f1 : decide ((x : Int) ≤ 90) = false := decide_eq_false (by omega)
    have f2 : decide ((97 : Int) ≤ (x : Int)) = false := decide_eq_false (by omega)
    have f3 : decide ((x : Int) ≤ 122) = true := decide_eq_true (by omega)
    have f4 : decide ((48 : Int) ≤ (x : Int)) = true := decide_eq_true (by omega)
    have f5 : decide ((x : Int) ≤ 57) = false := decide_eq_false (by omega)
    have f6 : ((x : Int) == 95) = false := beq_eq_false_iff_ne.2 (by omega)
    have hn : nameN x = false := by unfold nameN; simp; omega
    rw [hn]
    clear hn hx
    go_enter Tryz.func73, Tryz.ntmps73
    go_wp2
    go_ret
    exact ⟨rfl, 0, rfl⟩
  · have f0 : decide ((65 : Int) ≤ (x : Int)) = true := decide_eq_true (by omega)
    have f1 : decide ((x : Int) ≤ 90) = false := decide_eq_false (by omega)
    have f2 : decide ((97 : Int) ≤ (x : Int)) = true := decide_eq_true (by omega)
    have f3 : decide ((x : Int) ≤ 122) = true := decide_eq_true (by omega)
    have f4 : decide ((48 : Int) ≤ (x : Int)) = true := decide_eq_true (by omega)
    have f5 : decide ((x : Int) ≤ 57) = false := decide_eq_false (by omega)
    have f6 : ((x : Int) == 95) = false := beq_eq_false_iff_ne.2 (by omega)
    have hn : nameN x = true := by unfold nameN; simp; omega
    rw [hn]
    clear hn hx
    go_enter Tryz.func73, Tryz.ntmps73
    go_wp2
    go_ret
    exact ⟨rfl, 0, rfl⟩
  · have f0 : decide ((65 : Int) ≤ (x : Int)) = true := decide_eq_true (by omega)
    have f1 : decide ((x : Int) ≤ 90) = false := decide_eq_false (by omega)
    have f2 : decide ((97 : Int) ≤ (x : Int)) = true := decide_eq_true (by omega)
    have f3 : decide ((x : Int) ≤ 122) = false := decide_eq_false (by omega)
    have f4 : decide ((48 : Int) ≤ (x : Int)) = true := decide_eq_true (by omega)
    have f5 : decide ((x : Int) ≤ 57) = false := decide_eq_false (by omega)
    have f6 : ((x : Int) == 95) = false := beq_eq_false_iff_ne.2 (by omega)
    have hn : nameN x = false := by unfold nameN; simp; omega
    rw [hn]
    clear hn hx
    go_enter Tryz.func73, Tryz.ntmps73
    go_wp2
    go_ret
    exact ⟨rfl, 0, rfl⟩
set_option maxRecDepth 100000 in
set_option maxHeartbeats 4000000 in
theorem element_isName.calls (a0 : ByteArray) (r : Bool) (w : World) (h : element_isName.f a0 = some r) :
    Calls Tryz.prog 52 #[.string a0] w fun e w' => e = .returned (.bool r) ∧ Below w.heap.size w w' := by
  obtain rfl := Option.some.inj h
  clear h
  by_cases he : a0.data.toList = []
  · have hemp : a0.toList.isEmpty = true := by rw [Lib.toList_data, he]; rfl
    have hN : nameB a0.data.toList = false := by unfold nameB; rw [he]; rfl
    rw [hN]
    clear he hN
    go_enter Tryz.func52, Tryz.ntmps52
    go_wp2
    go_ret
    exact ⟨rfl, Below.refl _ _⟩
  · have hemp : a0.toList.isEmpty = false := by rw [Lib.toList_data]; simpa using he
    have hE : a0.data.toList.isEmpty = false := by simpa using he
    have hsz : a0.data.toList.length = a0.size := by simp
    by_cases h32 : a0.size ≤ 32
    · have hd : decide ((32 : Int) < (a0.size : Int)) = false := decide_eq_false (by omega)
      have hN : (!decide (0 ≤ Lib.idxFunc (fun x => !nameN x) true a0)) = nameB a0.data.toList := by
        unfold Lib.idxFunc nameB
        rw [idx_name a0 a0.size 0 (by omega) (by omega), hE, hsz, decide_eq_true h32, List.drop_zero, Bool.not_not]
        rfl
      rw [← hN]
      clear he hE hN
      go_enter Tryz.func52, Tryz.ntmps52
      go_wp2_with fail
      refine (Tryz.strings_ContainsFunc_runes 73 #[] (enters_of Tryz.func73 (by kernel_rfl) rfl) (fun x => !nameN x) a0 _ (fun W x _ _ => isName_rune W x)).mono ?_
      rintro e w1 ⟨rfl, hb⟩
      go_wp2
      go_ret
      exact ⟨rfl, hb⟩
    · have hd : decide ((32 : Int) < (a0.size : Int)) = true := decide_eq_true (by omega)
      have hN : nameB a0.data.toList = false := by unfold nameB; rw [hsz, decide_eq_false h32]; simp
      rw [hN]
      clear he hE hN
      go_enter Tryz.func52, Tryz.ntmps52
      go_wp2
      go_ret
      exact ⟨rfl, Below.refl _ _⟩
end Go.Proofs.YtdaijpjjilmkkaaGreatDoor.Pr

/- The contracts of strconv.Itoa, element.numerals, element.isName. -/
namespace Go.Proofs.YtdaijpjjilmkkaaGreatDoor.Pr
open Go.RowKit Go.Shelf Go.Proofs.YtdaijpjjilmkkaaGreatDoorW.PrintWords Go.Proofs.YtdaijpjjilmkkaaGreatDoorW.PrintLast Go.Proofs.YtdaijpjjilmkkaaGreatDoorW.PrintMore
set_option linter.unusedVariables false
set_option linter.unusedSimpArgs false
def strconv_Itoa.f (n : Int) : Option ByteArray := if -9223372036854775808 ≤ n ∧ n ≤ 9223372036854775807 then some ⟨(Lib.itoa n).toArray⟩ else none
theorem strconv_Itoa.calls (a0 : Int) (r : ByteArray) (w : World) (h : strconv_Itoa.f a0 = some r) (hG : GW w) :
    Calls Tryz.prog 29 #[.int .i64 a0] w fun e w' => e = .returned (.string r) ∧ Below w.heap.size w w' := by
  unfold strconv_Itoa.f at h
  by_cases hc : -9223372036854775808 ≤ a0 ∧ a0 ≤ 9223372036854775807
  · rw [if_pos hc] at h
    obtain rfl := Option.some.inj h
    refine (Tryz.strconv_Itoa a0 hc.1 hc.2 w hG.tab).mono ?_
    rintro e w' ⟨rfl, k, os, rfl⟩
    exact ⟨rfl, Lib.below_grow _ w (Nat.le_refl _) k os⟩
  · rw [if_neg hc] at h; cases h
def numL (l : List UInt8) : Option Int := match Lib.atoiAll l with
  | .ok v => if 0 ≤ v ∧ Lib.itoa v = l then some v else none
  | _ => none
def numsB (l0 : List ByteArray) : Option (List Int) := l0.mapM fun s => numL s.data.toList
def element_numerals.f (l0 : List ByteArray) : Option (List Int × Bool) :=
  if l0.length ≤ 1000000 ∧ l0.all (fun s => decide (s.size ≤ 1000000)) = true then some (match numsB l0 with | some vs => (vs, true) | none => ([], false)) else none
theorem atoi_calls (s : ByteArray) (w : World) (hs : s.size ≤ 1000000) (hG : GW w) :
    Calls Tryz.prog 85 #[.string s] w fun e w' => Below w.heap.size w w' ∧
      ((∃ v, Lib.atoiAll s.data.toList = .ok v ∧ e = .returned (.tuple #[.int .i64 v, .nilIface])) ∨
       ((∀ v, Lib.atoiAll s.data.toList ≠ .ok v) ∧ ∃ n t p, e = .returned (.tuple #[.int .i64 n, .iface t (.pointer p)]))) := by
  cases h : Lib.atoiAll s.data.toList with
  | ok v =>
    refine (Tryz.strconv_Atoi_ok s (by omega) v h w).mono ?_
    rintro e w' ⟨rfl, hw⟩
    refine ⟨?_, .inl ⟨v, rfl, rfl⟩⟩
    rcases hw with rfl | ⟨t, rfl⟩
    · exact Below.refl _ _
    · exact bytes_below (Below.refl _ _) (Nat.le_refl _) _ _
  | range =>
    obtain ⟨te, pe, hv⟩ := hG.ran
    refine (Tryz.strconv_Atoi_range s (by omega) h _ w hv (.inr ⟨te, pe, rfl⟩)).mono ?_
    rintro e w' ⟨N, rfl, -, -, hb⟩
    exact ⟨hb, .inr ⟨fun v e => (by cases e), _, _, _, rfl⟩⟩
  | _ =>
    obtain ⟨te, pe, hv⟩ := hG.syn
    refine (Tryz.strconv_Atoi_syntax s (by omega) h _ w hv (.inr ⟨te, pe, rfl⟩)).mono ?_
    rintro e w' ⟨N, rfl, -, -, hb⟩
    exact ⟨hb, .inr ⟨fun v e => (by cases e), _, _, _, rfl⟩⟩
theorem atoi_bd (l : List UInt8) (v : Int) (h : Lib.atoiAll l = .ok v) : -9223372036854775808 ≤ v ∧ v ≤ 9223372036854775807 := by
  unfold Lib.atoiAll at h
  split at h
  · cases h
  · dsimp only at h
    split at h
    · cases h
    · cases h
    · split at h
      · cases h
      · split at h
        · cases h
        · cases h
          split <;> omega
theorem mapM_snoc {α β : Type} (f : α → Option β) : ∀ (p : List α) (x : α) (acc : List β), p.mapM f = some acc → (p ++ [x]).mapM f = (f x).map fun y => acc ++ [y] := by
  intro p x acc h
  rw [List.mapM_append, h]
  simp only [List.mapM_cons, List.mapM_nil]
  cases f x <;> rfl
theorem mapM_fail {α β : Type} (f : α → Option β) (p : List α) (x : α) (r : List α) (h : f x = none) : (p ++ x :: r).mapM f = none := by
  rw [List.mapM_append]
  simp only [List.mapM_cons, h]
  cases p.mapM f <;> rfl
set_option maxRecDepth 100000 in
set_option maxHeartbeats 8000000 in
theorem element_numerals.calls (A0 : Option Addr) (c0 : Nat) (l0 : List ByteArray) (r1 : List Int) (r2 : Bool) (w : World) (hr0 : Kd.C Kd.string w A0 l0.length l0) (hc0 : l0.length ≤ c0) (h : element_numerals.f l0 = some (r1, r2)) (hG : GW w) :
    Calls Tryz.prog 66 #[.slice A0 l0.length c0] w fun e w' => ∃ v0_ : Value, e = .returned (.tuple #[v0_, .bool r2]) ∧ Kd.R (Kd.int .i64) 3 w' w.heap.size (fun _ => True) v0_ r1 ∧ Below w.heap.size w w' := by
  unfold element_numerals.f at h
  by_cases hc : l0.length ≤ 1000000 ∧ l0.all (fun s => decide (s.size ≤ 1000000)) = true
  case neg => rw [if_neg hc] at h; cases h
  rw [if_pos hc] at h
  obtain ⟨hl, hall⟩ := hc
  have HALL := Aside0.mk hall
  have HR := Aside0.mk hr0
  have HG := Aside0.mk hG
  have H := Aside0.mk (Option.some.inj h)
  clear h hr0 hG hall
  go_enter Tryz.func66, Tryz.ntmps66
  go_wp2_with fail
  go_loopg [4, 11] l0.length (fun g v4 v wx => ∃ (i : Nat) (acc : List Int), i ≤ l0.length ∧ v = .int .i64 (i : Int) ∧ i + g = l0.length ∧ Aside0 (numsB (l0.take i) = some acc) ∧ acc.length ≤ i ∧ Aside0 (Kd.R (Kd.int .i64) 3 wx w.heap.size (fun _ => True) v4 acc) ∧ Aside0 (Below w.heap.size w wx))
  case atStart => exact ⟨0, [], by omega, rfl, by omega, ⟨rfl⟩, Nat.le_refl _, ⟨Kd.R_nil _ _ _ _ _⟩, ⟨Below.refl _ _⟩⟩
  case round =>
    obtain ⟨i, acc, hile, rfl, hig, HM, hal, HO, HB⟩ := hrel
    cases gk with
    | zero =>
      obtain rfl : i = l0.length := by omega
      rw [List.take_length] at HM
      go_wp2
      go_ret2
      have hH := H.out
      rw [HM.out] at hH
      simp only [Prod.mk.injEq] at hH
      obtain ⟨rfl, rfl⟩ := hH
      exact ⟨_, rfl, HO.out, HB.out⟩
    | succ g =>
      have hi : i < l0.length := by omega
      obtain ⟨ad, rfl, hx⟩ := Kd.at_string (Kd.C_below HR.out HB.out) (i : Int) (by omega) (by omega)
      obtain ⟨s, hs⟩ : ∃ s, l0[i]'hi = s := ⟨_, rfl⟩
      have hrd : rdOf ByteArray.empty l0 (i : Int) = s := by rw [← hs]; simp [rdOf, hi]
      rw [hrd, Int.toNat_natCast] at hx
      have hsz : s.size ≤ 1000000 := of_decide_eq_true (List.all_eq_true.1 HALL.out s (by rw [← hs]; exact List.getElem_mem hi))
      have HS := Aside0.mk hs
      have hsp : Aside0 (l0 = l0.take i ++ s :: l0.drop (i + 1)) := ⟨by rw [← hs, ← List.drop_eq_getElem_cons hi, List.take_append_drop]⟩
      have hbad : Aside0 (numL s.data.toList = none → numsB l0 = none) := ⟨fun e => by rw [hsp.out]; exact mapM_fail _ _ _ _ e⟩
      clear hrd hs
      have q0 : (0 ≤ (i : Int)) = True := eq_true (by omega)
      have q1 : ((i : Int) < (l0.length : Int)) = True := eq_true (by omega)
      go_wp2_with fail
      refine (atoi_calls s _ hsz (GW.below HG.out HB.out)).mono ?_
      rintro e W1 ⟨hb1, hres⟩
      have hO1 := Aside0.mk (Kd.R_below HO.out hb1)
      have hB1 := Aside0.mk (HB.out.trans (hb1.mono HB.out.size))
      clear hb1 hx
      rcases hres with ⟨v, hv, rfl⟩ | ⟨hv, n, t, p, rfl⟩
      · have hvb := atoi_bd _ v hv
        have HV := Aside0.mk hv
        clear hv
        by_cases h0 : 0 ≤ v
        · have h0b : decide (v < 0) = false := decide_eq_false (by omega)
          by_cases hq : Lib.itoa v = s.data.toList
          · have hnum : numL s.data.toList = some v := by unfold numL; rw [HV.out]; dsimp only; rw [if_pos ⟨h0, hq⟩]
            have hqb : (((⟨(Lib.itoa v).toArray⟩ : ByteArray).toList) != s.toList) = false := by rw [Lib.toList_data, Lib.toList_data]; simp [hq]
            have hstep : numsB (l0.take (i + 1)) = some (acc ++ [v]) := by
              rw [List.take_succ_eq_append_getElem hi, HS.out]
              unfold numsB
              rw [mapM_snoc _ _ _ acc HM.out, hnum]
              rfl
            have HST := Aside0.mk hstep
            clear hstep hnum
            go_wp2_with fail
            refine (strconv_Itoa.calls v _ _ (by unfold strconv_Itoa.f; rw [if_pos hvb]) (GW.below HG.out hB1.out)).mono ?_
            rintro e W2 ⟨rfl, hb2⟩
            have hO2 := Aside0.mk (Kd.R_below hO1.out hb2)
            have hB2 := Aside0.mk (hB1.out.trans (hb2.mono hB1.out.size))
            clear hb2 hO1 hB1
            go_wp2_with ((with_reducible refine gate_builtin (b := .append) (xs := #[.tmp 32, .tmp 34]) rfl ?_); at_builtin; refine Kd.R_append (Kd.int .i64) (w0 := w) w.heap.size rfl (.tmp 32) (.tmp 34) 47 3 (.int .i64 0) 8 rfl Tryz.underlying47 info3 rfl (by decide) (by decide) _ acc v [.int .i64 v] (fun _ => True) (fun _ => False) rfl (by first | (go_simp; done) | (go_simp; rfl)) rfl (fun _ hk => hk.elim) (fun _ _ => trivial) hO2.out hB2.out hB2.out.size (by omega) ?_)
            intro v1 w1 hR1 hb1 hg1 hat1
            go_wp2_with fail
            go_roundg g
            case measure => omega
            case rel => exact ⟨i + 1, acc ++ [v], by omega, by simp, by omega, HST, by simp; omega, ⟨hR1⟩, ⟨hb1⟩⟩
          · have hqb : (((⟨(Lib.itoa v).toArray⟩ : ByteArray).toList) != s.toList) = true := by rw [Lib.toList_data, Lib.toList_data]; simpa using hq
            have hq2 : (Lib.itoa v != s.toList) = true := by rw [Lib.toList_data]; simpa using hq
            have hq3 : (Lib.itoa v = s.toList) = False := by rw [Lib.toList_data]; exact eq_false hq
            have hq4 : (Lib.itoa v == s.toList) = false := by rw [Lib.toList_data]; simpa using hq
            have hnone : numL s.data.toList = none := by unfold numL; rw [HV.out]; dsimp only; rw [if_neg (fun h => hq h.2)]
            have hH := H.out
            rw [hbad.out hnone] at hH
            simp only [Prod.mk.injEq] at hH
            obtain ⟨rfl, rfl⟩ := hH
            clear hnone
            clear hq
            go_wp2_with fail
            refine (strconv_Itoa.calls v _ _ (by unfold strconv_Itoa.f; rw [if_pos hvb]) (GW.below HG.out hB1.out)).mono ?_
            rintro e W2 ⟨rfl, hb2⟩
            have hB2 := hB1.out.trans (hb2.mono hB1.out.size)
            clear hb2
            go_wp2
            go_ret2
            exact ⟨_, rfl, Kd.R_nil _ _ _ _ _, hB2⟩
        · have h0b : decide (v < 0) = true := decide_eq_true (by omega)
          have hnone : numL s.data.toList = none := by unfold numL; rw [HV.out]; dsimp only; rw [if_neg (fun h => h0 h.1)]
          have hH := H.out
          rw [hbad.out hnone] at hH
          simp only [Prod.mk.injEq] at hH
          obtain ⟨rfl, rfl⟩ := hH
          clear hnone
          clear h0
          go_wp2
          go_ret2
          exact ⟨_, rfl, Kd.R_nil _ _ _ _ _, hB1.out⟩
      · have hnone : numL s.data.toList = none := by
          unfold numL
          split
          · next v e => exact absurd e (hv v)
          · rfl
        have hH := H.out
        rw [hbad.out hnone] at hH
        simp only [Prod.mk.injEq] at hH
        obtain ⟨rfl, rfl⟩ := hH
        clear hnone hv
        go_wp2
        go_ret2
        exact ⟨_, rfl, Kd.R_nil _ _ _ _ _, hB1.out⟩
end Go.Proofs.YtdaijpjjilmkkaaGreatDoor.Pr

/- Plain laws of collations: what FileText and ParseFile compute, as functions on lists. -/
namespace Go.Proofs.YtdaijpjjilmkkaaGreatDoor.Pr
open Go.RowKit Go.Proofs.YtdaijpjjilmkkaaGreatDoorW.PrintWords Go.Proofs.YtdaijpjjilmkkaaGreatDoorW.PrintLast Go.Proofs.YtdaijpjjilmkkaaGreatDoorW.PrintMore
set_option linter.unusedVariables false
set_option linter.unusedSimpArgs false
def validB (c : Int) : Bool := decide (0 ≤ c ∧ c ≤ 1114111)
def codesT (xs : List Int) : List UInt8 := Lib.join (xs.map hexT) [32]
def codesL (xs : List Int) : ByteArray × Int := if xs.all validB = true then (ofL (codesT xs), 0) else (ofL [], 1)
def codesP : List (List UInt8) → List Int → List Int × Int
  | [], acc => (acc, 0)
  | p :: r, acc => if (parseS p).2 = 0 then codesP r (acc ++ [(parseS p).1]) else ([], 3)
def readCodes (l : List UInt8) : List Int × Int := if l = [] then ([], 0) else codesP (cutAt 32 l) []
def i64B (n : Int) : Bool := decide (-9223372036854775808 ≤ n ∧ n ≤ 9223372036854775807)
def smallX (x : S49) : Bool := decide (x.f0.length ≤ 100000) && decide (x.f1.length ≤ 100000)
def smallG (g : S46) : Bool := decide (g.f0.size ≤ 100000) && i64B g.f1 && i64B g.f2
def smallF (l0 : List S49) (l1 : List S46) (a b c : Int) : Bool := decide (l0.length ≤ 100000) && decide (l1.length ≤ 100000) && l0.all smallX && l1.all smallG && i64B a && i64B b && i64B c
def negF (l1 : List S46) (a b c : Int) : Bool := decide (a < 0) || decide (b < 0) || decide (c < 0) || l1.any (fun g => decide (g.f1 < 0) || decide (g.f2 < 0))
def errF (l0 : List S49) (l1 : List S46) (a b c : Int) : Int :=
  if negF l1 a b c = true then 1 else if l1.all (fun g => nameB g.f0.data.toList) = true then (if l0.all (fun x => x.f0.all validB) = true then errE (l0.flatMap (·.f1)) else 1) else 6
def baseW : List UInt8 := [64, 98, 97, 115, 101]
def groupW : List UInt8 := [64, 103, 114, 111, 117, 112]
def wordsT (ps : List (List UInt8)) : List UInt8 := Lib.join ps [32] ++ [10]
def baseT (a b c : Int) : List UInt8 := wordsT [baseW, Lib.itoa a, Lib.itoa b, Lib.itoa c]
def groupT (g : S46) : List UInt8 := wordsT [groupW, g.f0.data.toList, Lib.itoa g.f1, Lib.itoa g.f2]
def entryT (x : S49) : List UInt8 := codesT x.f0 ++ ([59, 32] ++ (x.f1.flatMap elT ++ [10]))
def fileT (l0 : List S49) (l1 : List S46) (a b c : Int) : List UInt8 := baseT a b c ++ l1.flatMap groupT ++ l0.flatMap entryT
structure Rd where
  es : List S49
  gs : List S46
  b1 : Int
  b2 : Int
  b3 : Int
  bg : Bool
  ls : List Int
def Rd.none : Rd := ⟨[], [], 0, 0, 0, false, []⟩
def numsL (l : List (List UInt8)) : Option (List Int) := l.mapM numL
def lineB (st : Rd) (ps : List (List UInt8)) : Option Rd :=
  if ps.headD [] = baseW then (match numsL (ps.drop 1) with
    | some [x, y, z] => some ⟨st.es, st.gs, x, y, z, true, st.ls⟩
    | _ => Option.none) else Option.none
def lineG (st : Rd) (ps : List (List UInt8)) : Option Rd :=
  if ps.length = 4 ∧ nameB (ps.getD 1 []) = true ∧ st.es = [] then (match numsL (ps.drop 2) with
    | some [x, y] => some ⟨st.es, st.gs ++ [⟨ofL (ps.getD 1 []), x, y⟩], st.b1, st.b2, st.b3, st.bg, st.ls⟩
    | _ => Option.none) else Option.none
def lineE (st : Rd) (s : List UInt8) (n : Int) : Option Rd :=
  if (Lib.cut s [59, 32]).2.2 = true ∧ (readCodes (Lib.cut s [59, 32]).1).2 = 0 then (readE (Lib.cut s [59, 32]).2.1).map fun els => ⟨st.es ++ [⟨(readCodes (Lib.cut s [59, 32]).1).1, els⟩], st.gs, st.b1, st.b2, st.b3, st.bg, st.ls ++ [n]⟩ else Option.none
def lineS (st : Rd) (s : List UInt8) (n : Int) : Option Rd :=
  if st.bg = false then lineB st (cutAt 32 s) else if (cutAt 32 s).headD [] = groupW then lineG st (cutAt 32 s) else lineE st s n
def bareL (x : List UInt8) : List UInt8 := if (Lib.cut x [35]).2.2 = true then Lib.trimRightB (Lib.cut x [35]).1 32 else (Lib.cut x [35]).1
def linesOf (s : List UInt8) : List (List UInt8) := if (cutAt 10 s).getLastD [] = [] then (cutAt 10 s).dropLast else cutAt 10 s
def goL : List (List UInt8) → Nat → Rd → Rd ⊕ Nat
  | [], _, st => .inl st
  | x :: r, i, st => if bareL x = [] then goL r (i + 1) st else match lineS st (bareL x) ((i : Int) + 1) with
    | some st1 => goL r (i + 1) st1
    | Option.none => .inr (i + 1)
def badE : List S49 → List Int → Option (Int × Int)
  | x :: r, n :: m => if errE x.f1 = 0 then badE r m else some (errE x.f1, n)
  | _, _ => Option.none
abbrev Out := List S49 × List S46 × Int × Int × Int × Int × Int
def bad (e n : Int) : Out := ([], [], 0, 0, 0, e, n)
def endL (len : Nat) : Rd ⊕ Nat → Out
  | .inr n => bad 3 n
  | .inl st => if st.bg = false then bad 3 ((len : Int) + 1) else match badE st.es st.ls with
    | some (e, n) => bad e n
    | Option.none => (st.es, st.gs, st.b1, st.b2, st.b3, 0, 0)
def parseF (s : List UInt8) : Out := if 65536 < s.length then bad 2 0 else endL (linesOf s).length (goL (linesOf s) 0 Rd.none)
end Go.Proofs.YtdaijpjjilmkkaaGreatDoor.Pr
