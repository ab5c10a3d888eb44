/- The card of ElementReads. -/
import Derived.Test.YtdaijpjjilmkkaaGreatDoorCards
import Derived.Test.YtdaijpjjilmkkaaGreatDoorTie
import Derived.Test.YtdaijpjjilmkkaaGreatDoorZElementReads33
import Derived.Test.YtdaijpjjilmkkaaGreatDoorZElementReads34
import Derived.Test.YtdaijpjjilmkkaaGreatDoorZElementReads29
import Derived.Test.YtdaijpjjilmkkaaGreatDoorZElementReads21
import Derived.WalkKit
import Derived.ProofKit
import Derived.OpenShut
import Derived.ShutString
import Derived.ChangeOld
import Derived.Below
import Derived.SizedLaws
import Derived.HandedShaped
import Derived.Deep.DeepHandedRow
import Derived.Lib.LaidTab
import Derived.LaidMore
import Derived.Lib.LaidU8
/- The card of w42_ElementReads: its row out of its pure statement and its walk. -/
namespace Go.Proofs.YtdaijpjjilmkkaaGreatDoor.elementReads
open Go.ChangeShapes Go.WideShapes Go.ChangeAt Go.RowKit
open Go.ChangeMaps (open_string shut_string)
set_option linter.unusedVariables false
theorem own : ownKnob Tryz.prog.godebug = none := by kernel_rfl
theorem laidOut : laidOutB Tryz.prog = true := by kernel_rfl
set_option maxRecDepth 100000 in
theorem contract (H : Type) (enc : TypeId × Value → H) (W : World) (base : Nat) (args : Array Value) (ds gs : List (DataW H)) (before : List MemPlace)
    (hval : ∀ (j : Nat) t v, Tryz.f6.params[j]? = some t → args[j]? = some v → Value.okWide Tryz.prog W .any base t v)
    (hW : DataW.Whole enc Tryz.prog Tryz.f6.params.toList Rows.elementReadsSpec.vars false W args.toList ds gs before)
    (hsh : W.ShapedOpen Tryz.prog) (hlaid : laidMetH Tryz.prog Pr.laidL W) :
    Calls Tryz.prog 6 args W fun e W' => ∃ v, e = .returned v ∧ Rows.elementReadsSpec.post enc Tryz.prog Tryz.f6 false true false false W args v W' := by
  (have hG := Pr.gw_of hlaid hsh); (have hW' := hW); (obtain ⟨p, q, hA, hV, rfl, hfz, hnd⟩ := hW); (rw [Tryz.params6] at hA hval); (obtain ⟨v0, vs0, d0, ds0, p0, q0, hargs, rfl, rfl, h0, r0⟩ := trodAll_cons hA); (obtain ⟨rfl, rfl, rfl⟩ := trodAll_nil r0); (obtain rfl : args = #[v0] := by cases args; simp_all); (obtain ⟨rfl, rfl⟩ := trodVars_none hV); (obtain ⟨a0, rfl, rfl, rfl, y0⟩ := open_string Tryz.underlying9 (hval 0 9 v0 rfl rfl) h0); (obtain ⟨k, hk⟩ := Pr.ElementReads_pure a0 y0); (refine (Pr.w42_ElementReads.calls k a0 true W  hk hG).mono fun e W' ⟨he, bel⟩ => ?_); (subst he); (exact ⟨_, rfl, _, _, _, [], _, [], hW', trodAll_mk1 (shut_bool Tryz.underlying4 _), (trodAll_cons_mk (shut_string Tryz.underlying9 y0) trodAll_mk0), rfl, bel.frame _, fun h => by cases h⟩)
set_option maxRecDepth 100000 in
theorem laid_met (os : Os) : laidMet Tryz.prog Rows.elementReadsRow.laid ((Pr.laidWorld os).forCall (fun _ _ => 0) ⟨#[], #[.string ByteArray.empty], []⟩).memory :=
  Pr.laid_met os _
set_option maxRecDepth 100000 in
theorem reads (os : Os) {H : Type} (enc : TypeId × Value → H) : ∃ places, DataW.whole enc Tryz.prog ((Pr.laidWorld os).forCall (fun _ _ => 0) ⟨#[], #[.string ByteArray.empty], []⟩).memory Tryz.f6.params.toList Rows.elementReadsSpec.vars false (#[.string ByteArray.empty] : Array Value).toList 8 = some ([.lit (.string [])], [], places) :=
  ⟨[], by kernel_rfl⟩
set_option maxRecDepth 100000 in
theorem lifted (os : Os) (started : os.Started) (H : Type) (enc : TypeId × Value → H) (F : Stop.Interp) :
    ReturnsInHanded {} Tryz.checked os 6 .any ((OpenSpec.ofChange Rows.elementReadsSpec).preRow enc Tryz.prog Tryz.f6 Rows.elementReadsRow.domain false Rows.elementReadsRow.laid) (((OpenSpec.ofChange Rows.elementReadsSpec).at F).post enc Tryz.prog Tryz.f6 false true false false) := by
  obtain ⟨places, hx⟩ := reads os enc
  refine returnsInHanded_of_row (C := Tryz.checked) (s := OpenSpec.ofChange Rows.elementReadsSpec) own started (by kernel_rfl) Tryz.func6
    (witness_row_at (enc := enc) (C := Tryz.checked) false (Pr.laidWorld os) #[.string ByteArray.empty] rfl (by kernel_rfl) (by kernel_rfl) (by kernel_rfl)
      (OpenSpec.preRow_of_cond 8 hx (by kernel_rfl) (fun k hk => by cases hk) (by kernel_rfl) (laid_met os))) ?_
  (intro W base args ds gs before hval hW _ _ _ hl hsh _); (exact contract H enc W base args ds gs before hval hW hsh hl)
theorem said : Rows.ElementReadsSaid :=
  OpenClaim.holds_of_cond 6 Tryz.f6 rfl rfl rfl rfl rfl rfl rfl ⟨rfl, rfl, rfl, rfl, rfl⟩ rfl rfl rfl rfl rfl (by kernel_rfl) Tryz.func6 (by kernel_rfl)
    (of_decide_eq_true (by kernel_rfl)) (by unfold Func.isWrapper; first | (rw [if_pos (by decide +kernel)]; kernel_rfl) | (rw [if_neg (by decide +kernel)]; exact ⟨rfl, rfl⟩))
    (fun os started H enc _ F => by rw [OpenClaim.pre_eq_preRow]; exact lifted os started H enc F)
theorem plain (f : FuncId) (fn : Func) (hf : Tryz.pinned.checked.prog.funcNamed "unicodetext/unicodetextlaw42.ElementReads" = some f) (hfn : Tryz.pinned.checked.prog.funcs[f]? = some fn) :
    true = Tryz.pinned.checked.prog.looks [] ∧ ∀ (j : Nat) t, fn.params[j]? = some t → Tryz.pinned.checked.prog.wantsStandIn t = false := by
  (obtain rfl : f = 6 := Option.some.inj ((show Tryz.prog.funcNamed "unicodetext/unicodetextlaw42.ElementReads" = some 6 by kernel_rfl).symm.trans hf) |>.symm); (obtain rfl : fn = Tryz.f6 := (Option.some.inj (Tryz.func6.symm.trans hfn)).symm); (refine ⟨by kernel_rfl, fun j t ht => ?_⟩); (rw [Tryz.params6] at ht); (have hm := Array.mem_of_getElem? ht); (simp only [List.mem_toArray, List.mem_cons, List.not_mem_nil, or_false] at hm); (subst hm); (exact (show Tryz.prog.wantsStandIn 9 = false by kernel_rfl))
theorem card : Rows.ElementReadsCardSaid :=
  Claim7.holds_tied_plain_at .later [] _ _ _ _ said (fun _ h => by cases h) (by kernel_rfl) (fun _ h => by cases h) elementReads_row_tie rfl ⟨rfl, rfl⟩ (by kernel_rfl) rfl plain (by kernel_rfl)
end Go.Proofs.YtdaijpjjilmkkaaGreatDoor.elementReads
