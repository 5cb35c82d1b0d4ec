/- What is proved: AvionicsServes answers true for every input, and leaves its arguments as they were. Conditions: none. -/
import Derived.Test.Ytnmccbjdfdbgpaan13
namespace Go.Proofs.Ytnmccbjdfdbgpaa
open Go.ChangeShapes Go.WideShapes Go.ChangeAt Go.RowKit
theorem avionicsServesParams : ∀ t ∈ Try.f13.params.toList, Try.prog.readableRec t = true ∧ t < Try.prog.types.size := by
  rw [Try.params13]
  intro t ht
  simp only [List.mem_cons, List.not_mem_nil, or_false] at ht
  rcases ht with rfl | rfl | rfl <;> exact ⟨by kernel_rfl, of_decide_eq_true (by kernel_rfl)⟩
set_option maxRecDepth 100000 in
theorem avionicsServes_lifted (os : Os) (started : os.Started) (H : Type) (enc : TypeId × Value → H) :
    ReturnsInHanded {} Try.checked os 13 .any (Rows.avionicsServesSpec.pre6 enc Try.prog Try.f13 Rows.avionicsServesRow.domain false) (Rows.avionicsServesSpec.post enc Try.prog Try.f13 false true false false) := by
  refine returnsInHanded_of_change_sized (C := Try.checked) ownKnobL started (by kernel_rfl) Try.func13
    (ChangeSpec.witness6 (enc := enc) (C := Try.checked) false ⟨#[], #[.slice none 0 0, .slice none 0 0, .slice none 0 0], []⟩ 8 (by kernel_rfl) (by kernel_rfl) (by kernel_rfl) (by kernel_rfl)) ?_
  intro W base args ds gs before hval0 hW _ hwt _
  have hval : ∀ (j : Nat) t v, Try.f13.params[j]? = some t → args[j]? = some v → Value.okWide Try.prog W .any base t v := hval0
  have hW' : DataW.Whole enc Try.prog Try.f13.params.toList Rows.avionicsServesSpec.vars false W args.toList ds gs before := hW
  obtain ⟨p, q, hA0, hV, rfl, _, _⟩ := hW
  have hA : DataW.TrodAll enc Try.prog W 0 (fun _ => true) true Try.f13.params.toList args.toList ds p := hA0
  rw [Try.params13] at hA hval
  obtain ⟨v0, v1, v2, d0, d1, d2, p_0, p_1, p_2, rfl, rfl, rfl, h_0, h_1, h_2⟩ := trodAll_three hA
  obtain ⟨rfl, rfl⟩ := trodVars_none hV
  have hwt' : (DataW.weightsEach Try.prog ([41, 36, 36] ++ []) ([d0, d1, d2] ++ [])).all (· ≤ reachBytes) = true := hwt
  obtain ⟨A0, c0, l0, rfl, hx0⟩ := arg_msgs (hval 0 41 v0 rfl rfl) (RdW.of_trod h_0 (heavy_all hwt' (j := 0) rfl rfl))
  obtain ⟨A1, c1, l1, rfl, hx1, hw1⟩ := arg_ints (hval 1 36 v1 rfl rfl) (RdW.of_trod h_1 (heavy_all hwt' (j := 1) rfl rfl))
  obtain ⟨A2, c2, l2, rfl, hx2, hw2⟩ := arg_ints (hval 2 36 v2 rfl rfl) (RdW.of_trod h_2 (heavy_all hwt' (j := 2) rfl rfl))
  refine (servesLaw_any W A0 c0 l0 hx0 A1 c1 l1 hx1 hw1 A2 c2 l2 hx2 hw2).mono fun e W' ⟨he, hb⟩ => ?_
  subst he
  exact ⟨_, rfl, law_post laidOut avionicsServesParams rfl Try.underlying4 rfl hW' rfl rfl rfl hb⟩
theorem avionicsServes_over : Rows.avionicsServesRow.holds Try.pinned (OpenSpec.ofChange Rows.avionicsServesSpec) :=
  OpenClaim.holds_of_wide 13 Try.f13 rfl rfl rfl rfl rfl rfl rfl ⟨rfl, rfl, rfl, rfl, rfl⟩ rfl rfl rfl rfl rfl (by kernel_rfl) Try.func13 (by kernel_rfl)
    (of_decide_eq_true (by kernel_rfl)) (by unfold Func.isWrapper; rw [if_neg (by decide +kernel)]; exact ⟨rfl, rfl⟩)
    (fun os started H enc _ => avionicsServes_lifted os started H enc)
theorem avionicsServes_holds : Rows.AvionicsServesSaid := avionicsServes_over
#print axioms avionicsServes_holds
end Go.Proofs.Ytnmccbjdfdbgpaa
