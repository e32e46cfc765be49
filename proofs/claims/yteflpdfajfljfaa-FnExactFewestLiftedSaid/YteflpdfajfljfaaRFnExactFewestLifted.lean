/-
The row of FnExactFewestLifted: for every input the law answers true, and its arguments read as before. No condition.
-/
import Derived.Test.YteflpdfajfljfaaLXFewestLifted
import Derived.Test.YteflpdfajfljfaaOpn
import Derived.ProofKit
import Derived.OpenShut
import Derived.ChangeOld
set_option linter.unusedVariables false
set_option linter.unusedSimpArgs false
set_option maxRecDepth 100000
namespace Go.Proofs.Yteflpdfajfljfaa.fnExactFewestLifted
open Go.ChangeShapes Go.WideShapes Go.ChangeAt Go.RowKit
theorem own : ownKnob Try.prog.godebug = none := by kernel_rfl
theorem readable : ∀ t ∈ [25, 27, 27], Try.prog.readableRec t = true ∧ t < Try.prog.types.size := by
  intro t ht
  simp only [List.mem_cons, List.not_mem_nil, or_false] at ht
  rcases ht with rfl | rfl | rfl <;> exact ⟨by kernel_rfl, of_decide_eq_true (by kernel_rfl)⟩
theorem lifted (os : Os) (started : os.Started) (H : Type) (enc : TypeId × Value → H) :
    ReturnsInHanded {} Try.checked os 7 .any (Rows.fnExactFewestLiftedSpec.pre6 enc Try.prog Try.f7 Rows.fnExactFewestLiftedRow.domain false) (Rows.fnExactFewestLiftedSpec.post enc Try.prog Try.f7 false true false false) := by
  refine returnsInHanded_of_change (C := Try.checked) own started (by kernel_rfl) Try.func7
    (ChangeSpec.witness6 (enc := enc) (C := Try.checked) false ⟨#[], #[.agg #[.int .i8 0, .int .i8 0, .slice none 0 0], .agg #[.int .i8 0, .int .i8 0], .agg #[.int .i8 0, .int .i8 0]], []⟩ 8 (by kernel_rfl) (by kernel_rfl) (by kernel_rfl) (by kernel_rfl)) ?_
  intro W base args ds gs before hval0 hW hcnd _
  have hval : ∀ (j : Nat) t v, Try.f7.params[j]? = some t → args[j]? = some v → Value.okWide Try.prog W .any base t v := hval0
  have hW' := hW
  obtain ⟨p, q, hA0, hV, rfl, hfz, hnd⟩ := hW
  have hA : DataW.TrodAll enc Try.prog W 0 (fun _ => true) true Try.f7.params.toList args.toList ds p := hA0
  have hA1 := hA
  rw [Try.params7] at hA hA1 hval
  obtain ⟨v0, vs0, d0, ds0, p0, r0, hargs, rfl, rfl, h0, m0⟩ := trodAll_cons hA
  obtain ⟨v1, vs1, d1, ds1, p1, r1, rfl, rfl, rfl, h1, m1⟩ := trodAll_cons m0
  obtain ⟨v2, vs2, d2, ds2, p2, r2, rfl, rfl, rfl, h2, m2⟩ := trodAll_cons m1
  obtain ⟨rfl, rfl, rfl⟩ := trodAll_nil m2
  obtain rfl : args = #[v0, v1, v2] := by cases args; simp_all
  obtain ⟨rfl, rfl⟩ := trodVars_none hV
  have hlt : ∀ x ∈ (p0 ++ (p1 ++ (p2 ++ []))), x.block < W.heap.size := fun x hx => by simpa using hW'.lt x (by simpa using hx)
  obtain ⟨q0, z0, rfl, s0, k0⟩ := opnSquare (hval 0 25 v0 rfl rfl) h0
  obtain ⟨q1, rfl, k1⟩ := opnCell (hval 1 27 v1 rfl rfl) h1
  obtain ⟨q2, rfl, k2⟩ := opnCell (hval 2 27 v2 rfl rfl) h2
  clear hA0 hval0
  refine (law_FnExactFewestLifted W q0 z0 s0 k0 q1 k1 q2 k2).mono fun e W' ⟨he, bel⟩ => ?_
  subst he
  exact ⟨_, rfl, _, _, _, [], _, [], hW', trodAll_mk1 (shut_bool Try.underlying4 _), trodAll_below laid_out bel _ _ _ _ readable hA1 hlt, rfl, bel.frame _, fun h => by cases h⟩
theorem over : Rows.fnExactFewestLiftedRow.holds Try.pinned (OpenSpec.ofChange Rows.fnExactFewestLiftedSpec) :=
  OpenClaim.holds_of_wide 7 Try.f7 rfl rfl rfl rfl rfl rfl rfl ⟨rfl, rfl, rfl, rfl, rfl⟩ rfl rfl rfl rfl rfl (by kernel_rfl) Try.func7 (by kernel_rfl)
    (of_decide_eq_true (by kernel_rfl)) (by unfold Func.isWrapper; first | (rw [if_pos (by decide +kernel)]; kernel_rfl) | (rw [if_neg (by decide +kernel)]; exact ⟨rfl, rfl⟩))
    (fun os started H enc _ => lifted os started H enc)
end Go.Proofs.Yteflpdfajfljfaa.fnExactFewestLifted
namespace Go.Proofs.Yteflpdfajfljfaa
/-- The row of the law, whole. -/
theorem fnExactFewestLifted_holds : Rows.FnExactFewestLiftedSaid := fnExactFewestLifted.over
#print axioms fnExactFewestLifted_holds
end Go.Proofs.Yteflpdfajfljfaa
