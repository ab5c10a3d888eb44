/- The contracts of strings.Trim (a cutset of ASCII bytes), strings.Cut, strings.Contains, in the form of the printed contracts. -/
import Derived.Test.YtljhhnpgpiglfaaDoorHShelf
import Derived.Test.YtljhhnpgpiglfaaDoorHGlob
import Derived.Shelf.Strings.SlTrimAscii
import Derived.Test.YtljhhnpgpiglfaaDoorPrx0
namespace Go.Proofs.YtljhhnpgpiglfaaDoor.Pr
open Go.RowKit Go.Shelf Go.Proofs.YtljhhnpgpiglfaaDoorW.PrintWords Go.Proofs.YtljhhnpgpiglfaaDoorW.PrintLast Go.Proofs.YtljhhnpgpiglfaaDoorW.PrintMore
set_option linter.unusedVariables false

def asciiL (l : List UInt8) : Bool := l.all fun b => decide (b.toNat < 128)
theorem asciiL_at {l : List UInt8} (h : asciiL l = true) : ∀ (j : Nat) b, l[j]? = some b → b.toNat < 128 := ascii_of_all h

def strings_Trim.f (a0 a1 : ByteArray) : Option ByteArray :=
  if a0.size ≤ 9223372036854775807 ∧ a1.size < 4294967281 ∧ asciiL a1.data.toList = true then some ⟨(Lib.trimS a0.data.toList a1.data.toList).toArray⟩ else none
theorem strings_Trim.calls (a0 a1 r : ByteArray) (w : World) (h : strings_Trim.f a0 a1 = some r) :
    Calls Tryd.prog 42 #[.string a0, .string a1] w fun e w' => e = .returned (.string r) ∧ Below w.heap.size w w' := by
  unfold strings_Trim.f at h
  by_cases hc : a0.size ≤ 9223372036854775807 ∧ a1.size < 4294967281 ∧ asciiL a1.data.toList = true
  · rw [if_pos hc] at h
    obtain rfl := Option.some.inj h
    exact Any.strings_Trim_laid Tryd.lays160 (by kernel_rfl) a0 a1 w hc.1 hc.2.1 (asciiL_at hc.2.2)
  · rw [if_neg hc] at h; cases h

def strings_Cut.f (a0 a1 : ByteArray) : Option (ByteArray × ByteArray × Bool) :=
  if a0.size < 4294967281 then some (⟨(Lib.cut a0.data.toList a1.data.toList).1.toArray⟩, ⟨(Lib.cut a0.data.toList a1.data.toList).2.1.toArray⟩, (Lib.cut a0.data.toList a1.data.toList).2.2) else none
theorem strings_Cut.calls (a0 a1 r1 r2 : ByteArray) (r3 : Bool) (w : World) (h : strings_Cut.f a0 a1 = some (r1, r2, r3)) (hG : GW w) :
    Calls Tryd.prog 22 #[.string a0, .string a1] w fun e w' => e = .returned (.tuple #[.string r1, .string r2, .bool r3]) ∧ Below w.heap.size w w' := by
  unfold strings_Cut.f at h
  by_cases hc : a0.size < 4294967281
  · rw [if_pos hc] at h
    simp only [Option.some.injEq, Prod.mk.injEq] at h
    obtain ⟨rfl, rfl, rfl⟩ := h
    obtain ⟨m, hm⟩ := hG
    refine (Tryd.strings_Cut a0 a1 m w hc hm).mono ?_
    rintro e w' ⟨rfl, n, rfl⟩
    exact ⟨rfl, pw_below_drewN (Below.refl _ _) n⟩
  · rw [if_neg hc] at h; cases h

def strings_Contains.f (a0 a1 : ByteArray) : Option Bool := if a0.size < 4294967281 then some (Lib.contains a0.data.toList a1.data.toList) else none
theorem strings_Contains.calls (a0 a1 : ByteArray) (r : Bool) (w : World) (h : strings_Contains.f a0 a1 = some r) (hG : GW w) :
    Calls Tryd.prog 34 #[.string a0, .string a1] w fun e w' => e = .returned (.bool r) ∧ Below w.heap.size w w' := by
  unfold strings_Contains.f at h
  by_cases hc : a0.size < 4294967281
  · rw [if_pos hc] at h
    obtain rfl := Option.some.inj h
    obtain ⟨m, hm⟩ := hG
    refine (Tryd.strings_Contains a0 a1 m w hc hm).mono ?_
    rintro e w' ⟨rfl, rfl⟩
    exact ⟨rfl, Below.refl _ _⟩
  · rw [if_neg hc] at h; cases h

end Go.Proofs.YtljhhnpgpiglfaaDoor.Pr
