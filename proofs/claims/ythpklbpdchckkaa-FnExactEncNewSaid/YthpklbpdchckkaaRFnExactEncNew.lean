/- The row of the law FnExactEncNew: from the plain statement about its twin to the statement. -/
import Derived.Test.YthpklbpdchckkaaRows
import Derived.Test.YthpklbpdchckkaaAKP
import Derived.WalkKit
import Derived.ProofKit
import Derived.OpenShut
import Derived.ShutString
import Derived.ChangeOld
import Derived.Below
import Derived.SizedLaws
namespace Go.Proofs.Ythpklbpdchckkaa.fnExactEncNew
open Go.ChangeShapes Go.WideShapes Go.ChangeAt Go.RowKit
open Go.ChangeMaps (open_string shut_string)
open Go.Proofs.YthpklbpdchckkaaEv Go.Proofs.YthpklbpdchckkaaT
set_option linter.unusedVariables false
theorem own : ownKnob Try.prog.godebug = none := by kernel_rfl
theorem laidOut : laidOutB Try.prog = true := by kernel_rfl
set_option maxRecDepth 100000 in
theorem lifted (os : Os) (started : os.Started) (H : Type) (enc : TypeId × Value → H) :
    ReturnsInHanded {} Try.checked os 6 .any (Rows.fnExactEncNewSpec.pre6 enc Try.prog Try.f6 Rows.fnExactEncNewRow.domain false) (Rows.fnExactEncNewSpec.post enc Try.prog Try.f6 false true false false) := by
  refine returnsInHanded_of_change_sized (C := Try.checked) own started (by kernel_rfl) Try.func6
    (ChangeSpec.witness6 (enc := enc) (C := Try.checked) false ⟨#[], #[.agg #[.slice none 0 0, .int .i64 0, .int .i64 0, .int .i64 0], .slice none 0 0], []⟩ 8 (by kernel_rfl) (by kernel_rfl) (by kernel_rfl) (by kernel_rfl)) ?_
  intro W base args ds gs before hval0 hW hcnd hsz0 _
  have hsz : (DataW.weightsEach Try.prog (Try.f6.params.toList ++ Rows.fnExactEncNewSpec.plain.varTypes Try.prog) (ds ++ gs)).all (· ≤ reachBytes) = true := hsz0
  have hval : ∀ (j : Nat) t v, Try.f6.params[j]? = some t → args[j]? = some v → Value.okWide Try.prog W .any base t v := hval0
  have hW' := hW
  obtain ⟨p, q, hA0, hV, rfl, hfz, hnd⟩ := hW
  have hA : DataW.TrodAll enc Try.prog W 0 (fun _ => true) true Try.f6.params.toList args.toList ds p := hA0
  rw [Try.params6] at hA hval hsz
  obtain ⟨v0, vs0, d0, ds0, p0, q0, hargs, rfl, rfl, h0, r0⟩ := trodAll_cons hA
  obtain ⟨v1, vs1, d1, ds1, p1, q1, rfl, rfl, rfl, h1, r1⟩ := trodAll_cons r0
  obtain ⟨rfl, rfl, rfl⟩ := trodAll_nil r1
  obtain rfl : args = #[v0, v1] := by cases args; simp_all
  obtain ⟨rfl, rfl⟩ := trodVars_none hV
  simp only [List.cons_append, List.nil_append, DataW.weightsEach, List.all_append, Bool.and_eq_true, List.all_eq_true, decide_eq_true_eq] at hsz
  obtain ⟨z0, z1, _⟩ := hsz
  have k0 := h0
  have lt0 : ∀ x ∈ p0, x.block < W.heap.size := by obtain ⟨m, hm⟩ := k0; exact DataW.trod_lt m _ _ _ hm
  obtain ⟨x0, rd0, wf0⟩ : Typed Try.prog W YlPlan v0.cells.toList := by obtain ⟨fuel, hf⟩ := h0; exact trod_typed fuel 12 (by kernel_rfl) (by kernel_rfl) hf z0
  obtain ⟨c0, rfl⟩ : ∃ c, v0 = .agg c := by have h := (hval 0 48 v0 rfl rfl); unfold Value.okWide at h; rw [Try.underlying48] at h; obtain ⟨c, hc, _⟩ := h; exact ⟨c, hc⟩
  have k1 := h1
  have lt1 : ∀ x ∈ p1, x.block < W.heap.size := by obtain ⟨m, hm⟩ := k1; exact DataW.trod_lt m _ _ _ hm
  obtain ⟨x1, rd1, wf1⟩ : Typed Try.prog W (.sl 3 (.int .i64)) v1.cells.toList := by obtain ⟨fuel, hf⟩ := h1; exact trod_typed fuel 12 (by kernel_rfl) (by kernel_rfl) hf z1
  obtain ⟨b1, l1, m1, rfl⟩ := okWide_slice Try.underlying49 (hval 1 49 v1 rfl rfl)
  obtain ⟨M, hrun⟩ := pure_EncNew x0 x1 wf0 wf1
  refine (law_eq (Γ := g6 M) (allG ⟨s26 M, s28 M, s29 M, s27 M, s30 M, s25 M, s31 M, s32 M, s33 M, s34 M, s35 M, s36 M, trivial⟩) mixed Try.func6 (c := (Try.f6.body.get rfl)) rfl (by kernel_rfl) (N := M) (Λ := L6 M) (qs := []) (by kernel_rfl) trivial
    (l := a6) (d := (x0, x1, ())) (av := [_, _]) (.cons (f := []) (g := []) (arg_a (m := (.pr (.ro 133 YlShape) (.pr (.int .i64) (.pr (.int .i64) (.int .i64))))) (z := _) rfl rd0) (.cons (f := []) (g := []) (arg_v (m := (.ro 3 (.int .i64))) (z := _) rfl rd1) .nil)) ((e6 M (x0, x1, ()) _).trans (hrun fun r0 => some (([Val.c (Cell.bo r0)], []) : List Val × List Val)))).mono fun e W' ⟨he, bel⟩ => ?_
  subst he
  exact ⟨_, rfl, _, _, _, [], _, [], hW', trodAll_mk1 (shut_bool Try.underlying4 _), (trodAll_cons_mk (Below.trod laidOut (by kernel_rfl) (of_decide_eq_true (by kernel_rfl)) k0 bel lt0) (trodAll_cons_mk (Below.trod laidOut (by kernel_rfl) (of_decide_eq_true (by kernel_rfl)) k1 bel lt1) trodAll_mk0)), rfl, bel.frame _, fun h => by cases h⟩
theorem over : Rows.fnExactEncNewRow.holds Try.pinned (OpenSpec.ofChange Rows.fnExactEncNewSpec) :=
  OpenClaim.holds_of_wide 6 Try.f6 rfl rfl rfl rfl rfl rfl rfl ⟨rfl, rfl, rfl, rfl, rfl⟩ rfl rfl rfl rfl rfl (by kernel_rfl) Try.func6 (by kernel_rfl)
    (of_decide_eq_true (by kernel_rfl)) (by unfold Func.isWrapper; first | (rw [if_pos (by decide +kernel)]; kernel_rfl) | (rw [if_neg (by decide +kernel)]; exact ⟨rfl, rfl⟩))
    (fun os started H enc _ => lifted os started H enc)
theorem proved : Rows.FnExactEncNewSaid := over
end Go.Proofs.Ythpklbpdchckkaa.fnExactEncNew
namespace Go.Proofs.Ythpklbpdchckkaa
/-- The row, under a short name, for the claim. -/
theorem fnExactEncNew_holds : Rows.FnExactEncNewSaid := fnExactEncNew.proved
end Go.Proofs.Ythpklbpdchckkaa
