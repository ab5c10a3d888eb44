/- The card of ElementFiles. -/
import Derived.Test.YtdaijpjjilmkkaaGreatDoorCards
import Derived.Test.YtdaijpjjilmkkaaGreatDoorTie
import Derived.Test.YtdaijpjjilmkkaaGreatDoorZElementFiles33
import Derived.Test.YtdaijpjjilmkkaaGreatDoorZElementFiles26
import Derived.Test.YtdaijpjjilmkkaaGreatDoorZElementFiles34
import Derived.Test.YtdaijpjjilmkkaaGreatDoorZElementFiles35
import Derived.WalkKit
import Derived.ProofKit
import Derived.OpenShut
import Derived.ShutString
import Derived.ChangeOld
import Derived.Below
import Derived.SizedLaws
import Derived.HandedShaped
import Derived.Deep.DeepHandedRow
import Derived.Lib.LaidTab
import Derived.LaidMore
import Derived.Lib.LaidU8
/- The card of w42_ElementFiles: its row out of its pure statement and its walk. -/
namespace Go.Proofs.YtdaijpjjilmkkaaGreatDoor.elementFiles
open Go.ChangeShapes Go.WideShapes Go.ChangeAt Go.RowKit
open Go.ChangeMaps (open_string shut_string)
set_option linter.unusedVariables false
theorem own : ownKnob Tryz.prog.godebug = none := by kernel_rfl
theorem laidOut : laidOutB Tryz.prog = true := by kernel_rfl
set_option maxRecDepth 100000 in
theorem contract (H : Type) (enc : TypeId × Value → H) (W : World) (base : Nat) (args : Array Value) (ds gs : List (DataW H)) (before : List MemPlace)
    (hval : ∀ (j : Nat) t v, Tryz.f5.params[j]? = some t → args[j]? = some v → Value.okWide Tryz.prog W .any base t v)
    (hW : DataW.Whole enc Tryz.prog Tryz.f5.params.toList Rows.elementFilesSpec.vars false W args.toList ds gs before)
    (hsh : W.ShapedOpen Tryz.prog) (hlaid : laidMetH Tryz.prog Pr.laidL W) :
    Calls Tryz.prog 5 args W fun e W' => ∃ v, e = .returned v ∧ Rows.elementFilesSpec.post enc Tryz.prog Tryz.f5 false true false false W args v W' := by
  (have hG := Pr.gw_of hlaid hsh); (have hW' := hW); (obtain ⟨p, q, hA, hV, rfl, hfz, hnd⟩ := hW); (rw [Tryz.params5] at hA hval); (obtain ⟨v0, vs0, d0, ds0, p0, q0, hargs, rfl, rfl, h0, r0⟩ := trodAll_cons hA); (obtain ⟨rfl, rfl, rfl⟩ := trodAll_nil r0); (obtain rfl : args = #[v0] := by cases args; simp_all); (obtain ⟨rfl, rfl⟩ := trodVars_none hV); (obtain ⟨cs0, rfl, -⟩ := okWide_struct Tryz.underlying35 (hval 0 35 v0 rfl rfl)); (have k0 := h0); (have lt0 : ∀ x ∈ p0, x.block < W.heap.size := by obtain ⟨m, hm⟩ := k0; exact DataW.trod_lt m _ _ _ hm); (obtain ⟨fuel0, hf0⟩ := h0); (obtain ⟨A0, c0, l0, A1, c1, l1, x2, x3, x4, ecs0, C0, L0, C1, L1, i1, i2, i3, i4⟩ := Pr.open_collation hf0); (obtain ⟨cl0⟩ := cs0); (have ecs : cl0 = _ := ecs0); (subst ecs); (obtain ⟨k, hk⟩ := Pr.ElementFiles_pure l0 l1 x2 x3 x4 ⟨i1, i2, i3, i4⟩); (refine (Pr.w42_ElementFiles.calls k A0 c0 l0 A1 c1 l1 x2 x3 x4 true W C0 L0 C1 L1 hk hG).mono fun e W' ⟨he, bel⟩ => ?_); (subst he); (exact ⟨_, rfl, _, _, _, [], _, [], hW', trodAll_mk1 (shut_bool Tryz.underlying4 _), (trodAll_cons_mk (Below.trod laidOut (by kernel_rfl) (of_decide_eq_true (by kernel_rfl)) k0 bel lt0) trodAll_mk0), rfl, bel.frame _, fun h => by cases h⟩)
set_option maxRecDepth 100000 in
theorem laid_met (os : Os) : laidMet Tryz.prog Rows.elementFilesRow.laid ((Pr.laidWorld os).forCall (fun _ _ => 0) ⟨#[], #[.agg #[.slice none 0 0, .slice none 0 0, .int .i64 0, .int .i64 0, .int .i64 0]], []⟩).memory :=
  Pr.laid_met os _
set_option maxRecDepth 100000 in
theorem reads (os : Os) {H : Type} (enc : TypeId × Value → H) : ∃ places, DataW.whole enc Tryz.prog ((Pr.laidWorld os).forCall (fun _ _ => 0) ⟨#[], #[.agg #[.slice none 0 0, .slice none 0 0, .int .i64 0, .int .i64 0, .int .i64 0]], []⟩).memory Tryz.f5.params.toList Rows.elementFilesSpec.vars false (#[.agg #[.slice none 0 0, .slice none 0 0, .int .i64 0, .int .i64 0, .int .i64 0]] : Array Value).toList 8 = some ([.agg [.nil, .nil, .lit (.int .i64 0), .lit (.int .i64 0), .lit (.int .i64 0)]], [], places) :=
  ⟨[], by kernel_rfl⟩
set_option maxRecDepth 100000 in
theorem lifted (os : Os) (started : os.Started) (H : Type) (enc : TypeId × Value → H) (F : Stop.Interp) :
    ReturnsInHanded {} Tryz.checked os 5 .any ((OpenSpec.ofChange Rows.elementFilesSpec).preRow enc Tryz.prog Tryz.f5 Rows.elementFilesRow.domain false Rows.elementFilesRow.laid) (((OpenSpec.ofChange Rows.elementFilesSpec).at F).post enc Tryz.prog Tryz.f5 false true false false) := by
  obtain ⟨places, hx⟩ := reads os enc
  refine returnsInHanded_of_row (C := Tryz.checked) (s := OpenSpec.ofChange Rows.elementFilesSpec) own started (by kernel_rfl) Tryz.func5
    (witness_row_at (enc := enc) (C := Tryz.checked) false (Pr.laidWorld os) #[.agg #[.slice none 0 0, .slice none 0 0, .int .i64 0, .int .i64 0, .int .i64 0]] rfl (by kernel_rfl) (by kernel_rfl) (by kernel_rfl)
      (OpenSpec.preRow_of_cond 8 hx (by kernel_rfl) (fun k hk => by cases hk) (by kernel_rfl) (laid_met os))) ?_
  (intro W base args ds gs before hval hW _ _ _ hl hsh _); (exact contract H enc W base args ds gs before hval hW hsh hl)
theorem said : Rows.ElementFilesSaid :=
  OpenClaim.holds_of_cond 5 Tryz.f5 rfl rfl rfl rfl rfl rfl rfl ⟨rfl, rfl, rfl, rfl, rfl⟩ rfl rfl rfl rfl rfl (by kernel_rfl) Tryz.func5 (by kernel_rfl)
    (of_decide_eq_true (by kernel_rfl)) (by unfold Func.isWrapper; first | (rw [if_pos (by decide +kernel)]; kernel_rfl) | (rw [if_neg (by decide +kernel)]; exact ⟨rfl, rfl⟩))
    (fun os started H enc _ F => by rw [OpenClaim.pre_eq_preRow]; exact lifted os started H enc F)
theorem plain (f : FuncId) (fn : Func) (hf : Tryz.pinned.checked.prog.funcNamed "unicodetext/unicodetextlaw42.ElementFiles" = some f) (hfn : Tryz.pinned.checked.prog.funcs[f]? = some fn) :
    true = Tryz.pinned.checked.prog.looks [] ∧ ∀ (j : Nat) t, fn.params[j]? = some t → Tryz.pinned.checked.prog.wantsStandIn t = false := by
  (obtain rfl : f = 5 := Option.some.inj ((show Tryz.prog.funcNamed "unicodetext/unicodetextlaw42.ElementFiles" = some 5 by kernel_rfl).symm.trans hf) |>.symm); (obtain rfl : fn = Tryz.f5 := (Option.some.inj (Tryz.func5.symm.trans hfn)).symm); (refine ⟨by kernel_rfl, fun j t ht => ?_⟩); (rw [Tryz.params5] at ht); (have hm := Array.mem_of_getElem? ht); (simp only [List.mem_toArray, List.mem_cons, List.not_mem_nil, or_false] at hm); (subst hm); (exact (show Tryz.prog.wantsStandIn 35 = false by kernel_rfl))
theorem card : Rows.ElementFilesCardSaid :=
  Claim7.holds_tied_plain_at .later [] _ _ _ _ said (fun _ h => by cases h) (by kernel_rfl) (fun _ h => by cases h) elementFiles_row_tie rfl ⟨rfl, rfl⟩ (by kernel_rfl) rfl plain (by kernel_rfl)
end Go.Proofs.YtdaijpjjilmkkaaGreatDoor.elementFiles
