/- What is proved: AvionicsOwns answers true for every input, and leaves its arguments as they were. Conditions: none. -/
import Derived.Test.Ytnmccbjdfdbgpaan19
namespace Go.Proofs.Ytnmccbjdfdbgpaa
open Go.ChangeShapes Go.WideShapes Go.ChangeAt Go.RowKit
theorem avionicsOwnsParams : ∀ t ∈ Try.f14.params.toList, Try.prog.readableRec t = true ∧ t < Try.prog.types.size := by
  rw [Try.params14]
  intro t ht
  simp only [List.mem_cons, List.not_mem_nil, or_false] at ht
  rcases ht with rfl | rfl <;> exact ⟨by kernel_rfl, of_decide_eq_true (by kernel_rfl)⟩
set_option maxRecDepth 100000 in
theorem avionicsOwns_lifted (os : Os) (started : os.Started) (H : Type) (enc : TypeId × Value → H) :
    ReturnsInHanded {} Try.checked os 14 .any (Rows.avionicsOwnsSpec.pre6 enc Try.prog Try.f14 Rows.avionicsOwnsRow.domain false) (Rows.avionicsOwnsSpec.post enc Try.prog Try.f14 false true false false) := by
  refine returnsInHanded_of_change_sized (C := Try.checked) ownKnobL started (by kernel_rfl) Try.func14
    (ChangeSpec.witness6 (enc := enc) (C := Try.checked) false ⟨#[], #[.slice none 0 0, .slice none 0 0], []⟩ 8 (by kernel_rfl) (by kernel_rfl) (by kernel_rfl) (by kernel_rfl)) ?_
  intro W base args ds gs before hval0 hW _ hwt _
  have hval : ∀ (j : Nat) t v, Try.f14.params[j]? = some t → args[j]? = some v → Value.okWide Try.prog W .any base t v := hval0
  have hW' : DataW.Whole enc Try.prog Try.f14.params.toList Rows.avionicsOwnsSpec.vars false W args.toList ds gs before := hW
  obtain ⟨p, q, hA0, hV, rfl, _, _⟩ := hW
  have hA : DataW.TrodAll enc Try.prog W 0 (fun _ => true) true Try.f14.params.toList args.toList ds p := hA0
  rw [Try.params14] at hA hval
  obtain ⟨v0, v1, d0, d1, p_0, p_1, rfl, rfl, rfl, h_0, h_1⟩ := trodAll_two hA
  obtain ⟨rfl, rfl⟩ := trodVars_none hV
  have hwt' : (DataW.weightsEach Try.prog ([22, 41] ++ []) ([d0, d1] ++ [])).all (· ≤ reachBytes) = true := hwt
  obtain ⟨A0, c0, l0, rfl, hx0, hw0⟩ := arg_rds (hval 0 22 v0 rfl rfl) (RdW.of_trod h_0 (heavy_all hwt' (j := 0) rfl rfl))
  obtain ⟨A1, c1, l1, rfl, hx1⟩ := arg_msgs (hval 1 41 v1 rfl rfl) (RdW.of_trod h_1 (heavy_all hwt' (j := 1) rfl rfl))
  refine (owns_any W A0 c0 l0 hx0 hw0 A1 c1 l1 hx1).mono fun e W' ⟨he, hb⟩ => ?_
  subst he
  exact ⟨_, rfl, law_post laidOut avionicsOwnsParams rfl Try.underlying4 rfl hW' rfl rfl rfl hb⟩
theorem avionicsOwns_over : Rows.avionicsOwnsRow.holds Try.pinned (OpenSpec.ofChange Rows.avionicsOwnsSpec) :=
  OpenClaim.holds_of_wide 14 Try.f14 rfl rfl rfl rfl rfl rfl rfl ⟨rfl, rfl, rfl, rfl, rfl⟩ rfl rfl rfl rfl rfl (by kernel_rfl) Try.func14 (by kernel_rfl)
    (of_decide_eq_true (by kernel_rfl)) (by unfold Func.isWrapper; rw [if_neg (by decide +kernel)]; exact ⟨rfl, rfl⟩)
    (fun os started H enc _ => avionicsOwns_lifted os started H enc)
theorem avionicsOwns_holds : Rows.AvionicsOwnsSaid := avionicsOwns_over
#print axioms avionicsOwns_holds
end Go.Proofs.Ytnmccbjdfdbgpaa
