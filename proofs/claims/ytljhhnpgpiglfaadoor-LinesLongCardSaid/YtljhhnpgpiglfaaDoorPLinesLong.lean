/- LinesLong: the pure statement. -/
import Derived.Test.YtljhhnpgpiglfaaDoorLAlive
import Derived.Test.YtljhhnpgpiglfaaDoorPrx15
namespace Go.Proofs.YtljhhnpgpiglfaaDoor.Pr
open Go.RowKit Go.Proofs.YtljhhnpgpiglfaaDoorW.PrintWords Go.Proofs.YtljhhnpgpiglfaaDoorW.PrintLast Go.Proofs.YtljhhnpgpiglfaaDoorW.PrintMore
set_option linter.unusedVariables false
set_option linter.unusedSimpArgs false

theorem cutAt_none (c : UInt8) : ∀ l : List UInt8, c ∉ l → cutAt c l = [l]
  | [], _ => rfl
  | x :: t, h => by
    rw [cutAt_miss c x t (fun e => h (by rw [e]; simp)), cutAt_none c t (fun e => h (by simp [e]))]
    rfl
theorem trim_spaces (n : Nat) : trimL (List.replicate n 32) = [] := by
  rw [trimL_two, List.dropWhile_replicate]
  rfl
theorem parse_spaces (n : Nat) (h : n ≤ 65536) : parseT (List.replicate n 32) = ([], 0, 0) := by
  unfold parseT
  rw [if_neg (by rw [List.length_replicate]; omega), cutAt_none 10 _ (by simp)]
  have hd : dataL (List.replicate n 32) = List.replicate n 32 := by
    unfold dataL
    rcases cut_at 35 (List.replicate n 32) with ⟨h1, -⟩ | ⟨a, b, h1, -, -⟩
    · rw [h1]
    · have : (35 : UInt8) ∈ List.replicate n (32 : UInt8) := by rw [h1]; simp
      simp at this
  simp only [numL, parsesL]
  rw [show lineR 1 (List.replicate n 32) = some [] by unfold lineR; rw [hd, if_pos (trim_spaces n)]]
  rfl

theorem long_loop (x : Int) (n : Nat) (hn : n ≤ 100000) (r : Bool) (hr : Ev (fun k => unicodetextlaw09_LinesLong.l0 k x (List.replicate n 32) (n : Int)) r) (d : Nat) : ∀ i : Nat, i + d = n →
    Ev (fun k => unicodetextlaw09_LinesLong.l0 k x (List.replicate i 32 ++ List.replicate d 0) (i : Int)) r := by
  induction d with
  | zero =>
    intro i hi
    obtain rfl : i = n := by omega
    rw [List.replicate_zero, List.append_nil]
    exact hr
  | succ d ih =>
    intro i hi
    refine Ev.step (fun k => ?_) (ih (i + 1) (by omega))
    simp only [unicodetextlaw09_LinesLong.l0]
    rw [if_pos (by simp; omega), if_pos (by omega), Int.toNat_natCast, wrap_succ _ (by omega), List.set_append_right _ _ (by simp), List.length_replicate, Nat.sub_self, List.replicate_succ, List.set_cons_zero, List.replicate_succ', List.append_assoc, List.singleton_append]

theorem LinesLong_pure : unicodetextlaw09_LinesLong.Pure := by
  intro x hx
  obtain ⟨KA, hA⟩ := alive_at
  have hb : 0 ≤ x ∧ x ≤ 255 := by
    have h := hx
    simp [Lit.wf, IntKind.min, IntKind.max, IntKind.signed, IntKind.bits] at h
    omega
  have hw : wrap64 (65536 + wrap64 x) = 65536 + x := by rw [wrap_id (x := x) (by omega) (by omega), wrap_id (by omega) (by omega)]
  obtain ⟨n, hn⟩ : ∃ n : Nat, 65536 + x = (n : Int) := ⟨(65536 + x).toNat, by omega⟩
  have hs : strOfNums (List.replicate n 32) = ofL (List.replicate n 32) := by
    rw [strOfNums_ofL]
    simp
  have hend : Ev (fun k => unicodetextlaw09_LinesLong.l0 k x (List.replicate n 32) (n : Int)) true := by
    refine ⟨KA + 1, fun k hk => ?_⟩
    obtain ⟨k, rfl⟩ : ∃ m, k = m + 1 := ⟨k - 1, by omega⟩
    show unicodetextlaw09_LinesLong.l0 (k + 1) x (List.replicate n 32) (n : Int) = some true
    simp only [unicodetextlaw09_LinesLong.l0]
    rw [if_neg (by simp), hs, parse_f, Option.bind_some]
    by_cases h0 : x > 0
    · rw [if_pos h0, show parseT (List.replicate n 32) = ([], 2, 0) by unfold parseT; rw [if_pos (by rw [List.length_replicate]; omega)]]
      rw [if_pos (by decide), if_pos (by decide), hA k (by omega)]
    · rw [if_neg h0, parse_spaces n (by omega), if_pos (by decide), if_pos (by decide), hA k (by omega)]
  have hl := long_loop x n (by omega) true hend n 0 (by omega)
  obtain ⟨K, g⟩ := hl
  refine ⟨K, ?_⟩
  unfold unicodetextlaw09_LinesLong.f
  rw [hw, hn, if_pos (by omega), Int.toNat_natCast, if_pos (by omega)]
  exact g K (Nat.le_refl _)

end Go.Proofs.YtljhhnpgpiglfaaDoor.Pr
