/- What is proved: AvionicsFits answers true for every input, and leaves its arguments as they were. Conditions: none. -/
import Derived.Test.Ytnmccbjdfdbgpaan11
namespace Go.Proofs.Ytnmccbjdfdbgpaa
open Go.ChangeShapes Go.WideShapes Go.ChangeAt Go.RowKit
theorem avionicsFitsParams : ∀ t ∈ Try.f12.params.toList, Try.prog.readableRec t = true ∧ t < Try.prog.types.size := by
  rw [Try.params12]
  intro t ht
  simp only [List.mem_cons, List.not_mem_nil, or_false] at ht
  rcases ht with rfl <;> exact ⟨by kernel_rfl, of_decide_eq_true (by kernel_rfl)⟩
set_option maxRecDepth 100000 in
theorem avionicsFits_lifted (os : Os) (started : os.Started) (H : Type) (enc : TypeId × Value → H) :
    ReturnsInHanded {} Try.checked os 12 .any (Rows.avionicsFitsSpec.pre6 enc Try.prog Try.f12 Rows.avionicsFitsRow.domain false) (Rows.avionicsFitsSpec.post enc Try.prog Try.f12 false true false false) := by
  refine returnsInHanded_of_change_sized (C := Try.checked) ownKnobL started (by kernel_rfl) Try.func12
    (ChangeSpec.witness6 (enc := enc) (C := Try.checked) false ⟨#[], #[.slice none 0 0], []⟩ 8 (by kernel_rfl) (by kernel_rfl) (by kernel_rfl) (by kernel_rfl)) ?_
  intro W base args ds gs before hval0 hW _ hwt _
  have hval : ∀ (j : Nat) t v, Try.f12.params[j]? = some t → args[j]? = some v → Value.okWide Try.prog W .any base t v := hval0
  have hW' : DataW.Whole enc Try.prog Try.f12.params.toList Rows.avionicsFitsSpec.vars false W args.toList ds gs before := hW
  obtain ⟨p, q, hA0, hV, rfl, _, _⟩ := hW
  have hA : DataW.TrodAll enc Try.prog W 0 (fun _ => true) true Try.f12.params.toList args.toList ds p := hA0
  rw [Try.params12] at hA hval
  obtain ⟨v0, d0, rfl, rfl, h_0⟩ := trodAll_one hA
  obtain ⟨rfl, rfl⟩ := trodVars_none hV
  have hwt' : (DataW.weightsEach Try.prog ([41] ++ []) ([d0] ++ [])).all (· ≤ reachBytes) = true := hwt
  obtain ⟨A0, c0, l0, rfl, hx0⟩ := arg_msgs (hval 0 41 v0 rfl rfl) (RdW.of_trod h_0 (heavy_all hwt' (j := 0) rfl rfl))
  refine (fits_any W A0 c0 l0 hx0).mono fun e W' ⟨he, hb⟩ => ?_
  subst he
  exact ⟨_, rfl, law_post laidOut avionicsFitsParams rfl Try.underlying4 rfl hW' rfl rfl rfl hb⟩
theorem avionicsFits_over : Rows.avionicsFitsRow.holds Try.pinned (OpenSpec.ofChange Rows.avionicsFitsSpec) :=
  OpenClaim.holds_of_wide 12 Try.f12 rfl rfl rfl rfl rfl rfl rfl ⟨rfl, rfl, rfl, rfl, rfl⟩ rfl rfl rfl rfl rfl (by kernel_rfl) Try.func12 (by kernel_rfl)
    (of_decide_eq_true (by kernel_rfl)) (by unfold Func.isWrapper; rw [if_neg (by decide +kernel)]; exact ⟨rfl, rfl⟩)
    (fun os started H enc _ => avionicsFits_lifted os started H enc)
theorem avionicsFits_holds : Rows.AvionicsFitsSaid := avionicsFits_over
#print axioms avionicsFits_holds
end Go.Proofs.Ytnmccbjdfdbgpaa
