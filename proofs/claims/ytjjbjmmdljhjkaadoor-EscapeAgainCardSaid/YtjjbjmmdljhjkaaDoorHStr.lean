/- The contracts of strings.Split (with a separator of one byte at least) and strings.Join, in the form of the printed contracts. -/
import Derived.Test.YtjjbjmmdljhjkaaDoorHShelf
import Derived.Test.YtjjbjmmdljhjkaaDoorHGlob
import Derived.Test.YtjjbjmmdljhjkaaDoorPrx0
namespace Go.Proofs.YtjjbjmmdljhjkaaDoor.Pr
open Go.RowKit Go.Shelf Go.Proofs.YtjjbjmmdljhjkaaDoorW.PrintWords Go.Proofs.YtjjbjmmdljhjkaaDoorW.PrintLast Go.Proofs.YtjjbjmmdljhjkaaDoorW.PrintMore
set_option linter.unusedVariables false

def strings_Split.f (a0 a1 : ByteArray) : Option (List ByteArray) := if a0.size < 4294967281 ∧ 1 ≤ a1.size then some (Lib.splitB a1 0 (Lib.countB a0 a1) a0) else none
theorem strings_Split.calls (a0 a1 : ByteArray) (r : List ByteArray) (w : World) (h : strings_Split.f a0 a1 = some r) (hG : GW w) :
    Calls Tryd.prog 29 #[.string a0, .string a1] w fun e w' => ∃ v0_ : Value, e = .returned (v0_) ∧ Kd.R Kd.string 9 w' w.heap.size (fun _ => True) v0_ r ∧ Below w.heap.size w w' := by
  unfold strings_Split.f at h
  by_cases hc : a0.size < 4294967281 ∧ 1 ≤ a1.size
  · rw [if_pos hc] at h
    obtain rfl := Option.some.inj h
    obtain ⟨m, hm⟩ := hG
    refine (Tryd.strings_Split a0 a1 m w hc.1 hm hc.2).mono ?_
    rintro e w' ⟨rfl, rfl⟩
    refine ⟨_, rfl, ?_, (Below.refl _ _).alloc (Nat.le_refl _) _⟩
    have hl : (Lib.splitB a1 0 (Lib.countB a0 a1) a0).length = Lib.countB a0 a1 + 1 := Lib.splitB_all a1 hc.2 0 _ a0 rfl
    have hn : Lib.countB a0 a1 ≤ a0.size := Lib.countB_le a1 hc.2 _ a0 (Nat.le_refl _)
    have ho := World.ownsRow_lit (base := w.heap.size) (e := 9) (size := 1) w ((Lib.splitB a1 0 (Lib.countB a0 a1) a0).map Value.string).toArray (Lib.countB a0 a1 + 1) (Nat.le_refl _) (by unfold maxLen; omega) (by simp [hl])
    refine Kd.R_of_own (enc := Value.string) (h1 := fun _ => rfl) ?_ (fun _ _ => trivial)
    rw [hl]
    exact ho
  · rw [if_neg hc] at h; cases h

def strings_Join.f (l0 : List ByteArray) (a1 : ByteArray) : Option ByteArray :=
  if l0.length ≤ 140737488355328 ∧ (Lib.join (l0.map (·.data.toList)) a1.data.toList).length ≤ 140737488355328 then some ⟨(Lib.join (l0.map (·.data.toList)) a1.data.toList).toArray⟩ else none
theorem strings_Join.calls (A0 : Option Addr) (c0 : Nat) (l0 : List ByteArray) (a1 : ByteArray) (r : ByteArray) (w : World) (hr0 : Kd.C Kd.string w A0 l0.length l0) (hc0 : l0.length ≤ c0) (h : strings_Join.f l0 a1 = some r) :
    Calls Tryd.prog 37 #[.slice A0 l0.length c0, .string a1] w fun e w' => e = .returned (.string r) ∧ Below w.heap.size w w' := by
  unfold strings_Join.f at h
  by_cases hc : l0.length ≤ 140737488355328 ∧ (Lib.join (l0.map (·.data.toList)) a1.data.toList).length ≤ 140737488355328
  · rw [if_pos hc] at h
    obtain rfl := Option.some.inj h
    cases hl : l0 with
    | nil =>
      refine (Tryd.strings_Join_none A0 c0 a1 w).mono ?_
      rintro e w' ⟨rfl, rfl⟩
      exact ⟨rfl, Below.refl _ _⟩
    | cons x xs =>
      have hat : ∀ (j : Nat) y, l0[j]? = some y → ∃ ad, A0 = some ad ∧ w.cell? (ad.add j) = some (.string y) := by
        intro j y hj
        have hlt : j < l0.length := (List.getElem?_eq_some_iff.1 hj).1
        obtain ⟨ad, e, hcell⟩ := Kd.at_string hr0 (j : Int) (by omega) (by omega)
        rw [Int.toNat_natCast] at hcell
        have hr : rdOf ByteArray.empty l0 (j : Int) = y := by simp [rdOf, hj]
        exact ⟨ad, e, by rw [hcell, hr]⟩
      obtain ⟨ad, rfl, h0⟩ := hat 0 x (by rw [hl]; rfl)
      have hspot : ad.spot = none := by
        unfold World.cell? at h0
        have e0 : ad.add 0 = ad := by unfold Addr.add; rw [if_pos rfl]
        rw [e0] at h0
        split at h0
        · cases hs : ad.spot with
          | none => rfl
          | some n => simp [hs] at h0
        · cases h0
      obtain ⟨bk, o, sp⟩ := ad
      obtain rfl : sp = none := hspot
      have hlt := World.block_lt_of_cell? w _ h0
      have hadd : ∀ j, (⟨bk, o, none⟩ : Addr).add j = ⟨bk, o + j, none⟩ := by intro j; unfold Addr.add; split <;> simp_all
      rw [hadd] at h0 hlt
      rw [← hl]
      refine (Tryd.strings_Join bk o c0 l0 a1 w (fun j y hj => ?_) hlt hc.1 hc0 hc.2).mono ?_
      · obtain ⟨ad2, e2, h2⟩ := hat j y hj
        obtain rfl := Option.some.inj e2
        rw [hadd] at h2
        exact h2
      · rintro e w' ⟨rfl, hb⟩
        exact ⟨rfl, hb⟩
  · rw [if_neg hc] at h; cases h

end Go.Proofs.YtjjbjmmdljhjkaaDoor.Pr
