/- The row of the law FnWriteSome: from the plain statement about its twin to the statement. -/
import Derived.Test.YtecdmnmedipjmaaRows
import Derived.Test.YtecdmnmedipjmaaPE
import Derived.WalkKit
import Derived.ProofKit
import Derived.OpenShut
import Derived.ShutString
import Derived.ChangeOld
import Derived.Below
import Derived.SizedLaws
namespace Go.Proofs.Ytecdmnmedipjmaa.fnWriteSome
open Go.ChangeShapes Go.WideShapes Go.ChangeAt Go.RowKit
open Go.ChangeMaps (open_string shut_string)
open Go.Proofs.YtecdmnmedipjmaaEv Go.Proofs.YtecdmnmedipjmaaT
set_option linter.unusedVariables false
theorem own : ownKnob Try.prog.godebug = none := by kernel_rfl
theorem laidOut : laidOutB Try.prog = true := by kernel_rfl
set_option maxRecDepth 100000 in
theorem lifted (os : Os) (started : os.Started) (H : Type) (enc : TypeId × Value → H) :
    ReturnsInHanded {} Try.checked os 10 .any (Rows.fnWriteSomeSpec.pre6 enc Try.prog Try.f10 Rows.fnWriteSomeRow.domain false) (Rows.fnWriteSomeSpec.post enc Try.prog Try.f10 false true false false) := by
  refine returnsInHanded_of_change_sized (C := Try.checked) own started (by kernel_rfl) Try.func10
    (ChangeSpec.witness6 (enc := enc) (C := Try.checked) false ⟨#[], #[.slice none 0 0], []⟩ 8 (by kernel_rfl) (by kernel_rfl) (by kernel_rfl) (by kernel_rfl)) ?_
  intro W base args ds gs before hval0 hW hcnd hsz0 _
  have hsz : (DataW.weightsEach Try.prog (Try.f10.params.toList ++ Rows.fnWriteSomeSpec.plain.varTypes Try.prog) (ds ++ gs)).all (· ≤ reachBytes) = true := hsz0
  have hval : ∀ (j : Nat) t v, Try.f10.params[j]? = some t → args[j]? = some v → Value.okWide Try.prog W .any base t v := hval0
  have hW' := hW
  obtain ⟨p, q, hA0, hV, rfl, hfz, hnd⟩ := hW
  have hA : DataW.TrodAll enc Try.prog W 0 (fun _ => true) true Try.f10.params.toList args.toList ds p := hA0
  rw [Try.params10] at hA hval hsz
  obtain ⟨v0, vs0, d0, ds0, p0, q0, hargs, rfl, rfl, h0, r0⟩ := trodAll_cons hA
  obtain ⟨rfl, rfl, rfl⟩ := trodAll_nil r0
  obtain rfl : args = #[v0] := by cases args; simp_all
  obtain ⟨rfl, rfl⟩ := trodVars_none hV
  simp only [List.cons_append, List.nil_append, DataW.weightsEach, List.all_append, Bool.and_eq_true, List.all_eq_true, decide_eq_true_eq] at hsz
  obtain ⟨z0, _⟩ := hsz
  have k0 := h0
  have lt0 : ∀ x ∈ p0, x.block < W.heap.size := by obtain ⟨m, hm⟩ := k0; exact DataW.trod_lt m _ _ _ hm
  obtain ⟨x0, rd0, wf0⟩ : Typed Try.prog W (.sl 5 (.int .u8)) v0.cells.toList := by obtain ⟨fuel, hf⟩ := h0; exact trod_typed fuel 12 (by kernel_rfl) (by kernel_rfl) hf z0
  obtain ⟨b0, l0, m0, rfl⟩ := okWide_slice Try.underlying54 (hval 0 54 v0 rfl rfl)
  obtain ⟨M, hrun⟩ := pure_WriteSomeL x0 wf0
  refine (law_eq (Γ := g10 M) (allG ⟨s37 M, s42 M, s43 M, s44 M, trivial⟩) mixed Try.func10 (c := (Try.f10.body.get rfl)) rfl (by kernel_rfl) (N := M) (Λ := L10 M) (qs := []) (by kernel_rfl) trivial
    (l := a10) (d := (x0, ())) (av := [_]) (.cons (f := []) (g := []) (arg_v (m := (.ro 5 (.int .u8))) (z := _) rfl rd0) .nil) ((e10 M (x0, ()) _).trans (hrun fun r0 => some (([Val.c (Cell.bo r0)], []) : List Val × List Val)))).mono fun e W' ⟨he, bel⟩ => ?_
  subst he
  exact ⟨_, rfl, _, _, _, [], _, [], hW', trodAll_mk1 (shut_bool Try.underlying4 _), (trodAll_cons_mk (Below.trod laidOut (by kernel_rfl) (of_decide_eq_true (by kernel_rfl)) k0 bel lt0) trodAll_mk0), rfl, bel.frame _, fun h => by cases h⟩
theorem over : Rows.fnWriteSomeRow.holds Try.pinned (OpenSpec.ofChange Rows.fnWriteSomeSpec) :=
  OpenClaim.holds_of_wide 10 Try.f10 rfl rfl rfl rfl rfl rfl rfl ⟨rfl, rfl, rfl, rfl, rfl⟩ rfl rfl rfl rfl rfl (by kernel_rfl) Try.func10 (by kernel_rfl)
    (of_decide_eq_true (by kernel_rfl)) (by unfold Func.isWrapper; first | (rw [if_pos (by decide +kernel)]; kernel_rfl) | (rw [if_neg (by decide +kernel)]; exact ⟨rfl, rfl⟩))
    (fun os started H enc _ => lifted os started H enc)
theorem proved : Rows.FnWriteSomeSaid := over
end Go.Proofs.Ytecdmnmedipjmaa.fnWriteSome
namespace Go.Proofs.Ytecdmnmedipjmaa
/-- The row, under a short name, for the claim. -/
theorem fnWriteSome_holds : Rows.FnWriteSomeSaid := fnWriteSome.proved
end Go.Proofs.Ytecdmnmedipjmaa
