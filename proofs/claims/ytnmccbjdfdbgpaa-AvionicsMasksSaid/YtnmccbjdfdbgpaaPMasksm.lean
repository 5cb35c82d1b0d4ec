/- What is proved: AvionicsMasks answers true for every input, and leaves its arguments as they were. Conditions: none. -/
import Derived.Test.Ytnmccbjdfdbgpaan10
namespace Go.Proofs.Ytnmccbjdfdbgpaa
open Go.ChangeShapes Go.WideShapes Go.ChangeAt Go.RowKit
theorem avionicsMasksParams : ∀ t ∈ Try.f3.params.toList, Try.prog.readableRec t = true ∧ t < Try.prog.types.size := by
  rw [Try.params3]
  intro t ht
  simp only [List.mem_cons, List.not_mem_nil, or_false] at ht
  rcases ht with rfl | rfl <;> exact ⟨by kernel_rfl, of_decide_eq_true (by kernel_rfl)⟩
set_option maxRecDepth 100000 in
theorem avionicsMasks_lifted (os : Os) (started : os.Started) (H : Type) (enc : TypeId × Value → H) :
    ReturnsInHanded {} Try.checked os 3 .any (Rows.avionicsMasksSpec.pre6 enc Try.prog Try.f3 Rows.avionicsMasksRow.domain false) (Rows.avionicsMasksSpec.post enc Try.prog Try.f3 false true false false) := by
  refine returnsInHanded_of_change_sized (C := Try.checked) ownKnobL started (by kernel_rfl) Try.func3
    (ChangeSpec.witness6 (enc := enc) (C := Try.checked) false ⟨#[], #[.slice none 0 0, .agg #[.int .i64 0, .int .i64 0]], []⟩ 8 (by kernel_rfl) (by kernel_rfl) (by kernel_rfl) (by kernel_rfl)) ?_
  intro W base args ds gs before hval0 hW _ hwt _
  have hval : ∀ (j : Nat) t v, Try.f3.params[j]? = some t → args[j]? = some v → Value.okWide Try.prog W .any base t v := hval0
  have hW' : DataW.Whole enc Try.prog Try.f3.params.toList Rows.avionicsMasksSpec.vars false W args.toList ds gs before := hW
  obtain ⟨p, q, hA0, hV, rfl, _, _⟩ := hW
  have hA : DataW.TrodAll enc Try.prog W 0 (fun _ => true) true Try.f3.params.toList args.toList ds p := hA0
  rw [Try.params3] at hA hval
  obtain ⟨v0, v1, d0, d1, p_0, p_1, rfl, rfl, rfl, h_0, h_1⟩ := trodAll_two hA
  obtain ⟨rfl, rfl⟩ := trodVars_none hV
  have hwt' : (DataW.weightsEach Try.prog ([22, 23] ++ []) ([d0, d1] ++ [])).all (· ≤ reachBytes) = true := hwt
  obtain ⟨A0, c0, l0, rfl, hx0, hw0⟩ := arg_rds (hval 0 22 v0 rfl rfl) (RdW.of_trod h_0 (heavy_all hwt' (j := 0) rfl rfl))
  obtain ⟨a1, b1, rfl, ha1, hb1⟩ := arg_int2 (hval 1 23 v1 rfl rfl) (RdW.of_trod h_1 (heavy_all hwt' (j := 1) rfl rfl))
  refine (masks_any W A0 c0 l0 hx0 hw0 a1 b1 ha1 hb1).mono fun e W' ⟨he, hb⟩ => ?_
  subst he
  exact ⟨_, rfl, law_post laidOut avionicsMasksParams rfl Try.underlying4 rfl hW' rfl rfl rfl hb⟩
theorem avionicsMasks_over : Rows.avionicsMasksRow.holds Try.pinned (OpenSpec.ofChange Rows.avionicsMasksSpec) :=
  OpenClaim.holds_of_wide 3 Try.f3 rfl rfl rfl rfl rfl rfl rfl ⟨rfl, rfl, rfl, rfl, rfl⟩ rfl rfl rfl rfl rfl (by kernel_rfl) Try.func3 (by kernel_rfl)
    (of_decide_eq_true (by kernel_rfl)) (by unfold Func.isWrapper; rw [if_neg (by decide +kernel)]; exact ⟨rfl, rfl⟩)
    (fun os started H enc _ => avionicsMasks_lifted os started H enc)
theorem avionicsMasks_holds : Rows.AvionicsMasksSaid := avionicsMasks_over
#print axioms avionicsMasks_holds
end Go.Proofs.Ytnmccbjdfdbgpaa
