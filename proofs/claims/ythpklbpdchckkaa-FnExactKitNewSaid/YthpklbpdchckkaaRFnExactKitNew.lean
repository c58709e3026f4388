/- The row of the law FnExactKitNew: from the plain statement about its twin to the statement. -/
import Derived.Test.YthpklbpdchckkaaRows
import Derived.Test.YthpklbpdchckkaaAKP
import Derived.WalkKit
import Derived.ProofKit
import Derived.OpenShut
import Derived.ShutString
import Derived.ChangeOld
import Derived.Below
import Derived.SizedLaws
namespace Go.Proofs.Ythpklbpdchckkaa.fnExactKitNew
open Go.ChangeShapes Go.WideShapes Go.ChangeAt Go.RowKit
open Go.ChangeMaps (open_string shut_string)
open Go.Proofs.YthpklbpdchckkaaEv Go.Proofs.YthpklbpdchckkaaT
set_option linter.unusedVariables false
theorem own : ownKnob Try.prog.godebug = none := by kernel_rfl
theorem laidOut : laidOutB Try.prog = true := by kernel_rfl
set_option maxRecDepth 100000 in
theorem lifted (os : Os) (started : os.Started) (H : Type) (enc : TypeId × Value → H) :
    ReturnsInHanded {} Try.checked os 3 .any (Rows.fnExactKitNewSpec.pre6 enc Try.prog Try.f3 Rows.fnExactKitNewRow.domain false) (Rows.fnExactKitNewSpec.post enc Try.prog Try.f3 false true false false) := by
  refine returnsInHanded_of_change_sized (C := Try.checked) own started (by kernel_rfl) Try.func3
    (ChangeSpec.witness6 (enc := enc) (C := Try.checked) false ⟨#[], #[], []⟩ 8 (by kernel_rfl) (by kernel_rfl) (by kernel_rfl) (by kernel_rfl)) ?_
  intro W base args ds gs before hval0 hW hcnd hsz0 _
  have hsz : (DataW.weightsEach Try.prog (Try.f3.params.toList ++ Rows.fnExactKitNewSpec.plain.varTypes Try.prog) (ds ++ gs)).all (· ≤ reachBytes) = true := hsz0
  have hval : ∀ (j : Nat) t v, Try.f3.params[j]? = some t → args[j]? = some v → Value.okWide Try.prog W .any base t v := hval0
  have hW' := hW
  obtain ⟨p, q, hA0, hV, rfl, hfz, hnd⟩ := hW
  have hA : DataW.TrodAll enc Try.prog W 0 (fun _ => true) true Try.f3.params.toList args.toList ds p := hA0
  rw [Try.params3] at hA hval hsz
  obtain ⟨hargs, rfl, rfl⟩ := trodAll_nil hA
  obtain rfl : args = #[] := by cases args; simp_all
  obtain ⟨rfl, rfl⟩ := trodVars_none hV
  obtain ⟨M, hrun⟩ := pure_KitNew  
  refine (law_eq (Γ := g3 M) (allG ⟨s7 M, s8 M, s9 M, s10 M, s11 M, trivial⟩) mixed Try.func3 (c := (Try.f3.body.get rfl)) rfl (by kernel_rfl) (N := M) (Λ := L3 M) (qs := []) (by kernel_rfl) trivial
    (l := a3) (d := (())) (av := []) .nil ((e3 M (()) _).trans (hrun fun r0 => some (([Val.c (Cell.bo r0)], []) : List Val × List Val)))).mono fun e W' ⟨he, bel⟩ => ?_
  subst he
  exact ⟨_, rfl, _, _, _, [], _, [], hW', trodAll_mk1 (shut_bool Try.underlying4 _), trodAll_mk0, rfl, bel.frame _, fun h => by cases h⟩
theorem over : Rows.fnExactKitNewRow.holds Try.pinned (OpenSpec.ofChange Rows.fnExactKitNewSpec) :=
  OpenClaim.holds_of_wide 3 Try.f3 rfl rfl rfl rfl rfl rfl rfl ⟨rfl, rfl, rfl, rfl, rfl⟩ rfl rfl rfl rfl rfl (by kernel_rfl) Try.func3 (by kernel_rfl)
    (of_decide_eq_true (by kernel_rfl)) (by unfold Func.isWrapper; first | (rw [if_pos (by decide +kernel)]; kernel_rfl) | (rw [if_neg (by decide +kernel)]; exact ⟨rfl, rfl⟩))
    (fun os started H enc _ => lifted os started H enc)
theorem proved : Rows.FnExactKitNewSaid := over
end Go.Proofs.Ythpklbpdchckkaa.fnExactKitNew
namespace Go.Proofs.Ythpklbpdchckkaa
/-- The row, under a short name, for the claim. -/
theorem fnExactKitNew_holds : Rows.FnExactKitNewSaid := fnExactKitNew.proved
end Go.Proofs.Ythpklbpdchckkaa
