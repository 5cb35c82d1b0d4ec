/- What is proved: AvionicsCuts answers true for every input, and leaves its arguments as they were. Conditions: none. -/
import Derived.Test.Ytnmccbjdfdbgpaan16
namespace Go.Proofs.Ytnmccbjdfdbgpaa
open Go.ChangeShapes Go.WideShapes Go.ChangeAt Go.RowKit
theorem avionicsCutsParams : ∀ t ∈ Try.f8.params.toList, Try.prog.readableRec t = true ∧ t < Try.prog.types.size := by
  rw [Try.params8]
  intro t ht
  simp only [List.mem_cons, List.not_mem_nil, or_false] at ht
  rcases ht with rfl | rfl | rfl <;> exact ⟨by kernel_rfl, of_decide_eq_true (by kernel_rfl)⟩
set_option maxRecDepth 100000 in
theorem avionicsCuts_lifted (os : Os) (started : os.Started) (H : Type) (enc : TypeId × Value → H) :
    ReturnsInHanded {} Try.checked os 8 .any (Rows.avionicsCutsSpec.pre6 enc Try.prog Try.f8 Rows.avionicsCutsRow.domain false) (Rows.avionicsCutsSpec.post enc Try.prog Try.f8 false true false false) := by
  refine returnsInHanded_of_change_sized (C := Try.checked) ownKnobL started (by kernel_rfl) Try.func8
    (ChangeSpec.witness6 (enc := enc) (C := Try.checked) false ⟨#[], #[.agg #[.int .i64 0, .int .i64 0, .slice none 0 0], .slice none 0 0, .slice none 0 0], []⟩ 8 (by kernel_rfl) (by kernel_rfl) (by kernel_rfl) (by kernel_rfl)) ?_
  intro W base args ds gs before hval0 hW _ hwt _
  have hval : ∀ (j : Nat) t v, Try.f8.params[j]? = some t → args[j]? = some v → Value.okWide Try.prog W .any base t v := hval0
  have hW' : DataW.Whole enc Try.prog Try.f8.params.toList Rows.avionicsCutsSpec.vars false W args.toList ds gs before := hW
  obtain ⟨p, q, hA0, hV, rfl, _, _⟩ := hW
  have hA : DataW.TrodAll enc Try.prog W 0 (fun _ => true) true Try.f8.params.toList args.toList ds p := hA0
  rw [Try.params8] at hA hval
  obtain ⟨v0, v1, v2, d0, d1, d2, p_0, p_1, p_2, rfl, rfl, rfl, h_0, h_1, h_2⟩ := trodAll_three hA
  obtain ⟨rfl, rfl⟩ := trodVars_none hV
  have hwt' : (DataW.weightsEach Try.prog ([48, 55, 49] ++ []) ([d0, d1, d2] ++ [])).all (· ≤ reachBytes) = true := hwt
  obtain ⟨N0, F0, A0, c0, l0, rfl, hx0, hN0, hF0, hw0⟩ := arg_council (hval 0 48 v0 rfl rfl) (RdW.of_trod h_0 (heavy_all hwt' (j := 0) rfl rfl))
  obtain ⟨A1, c1, l1, rfl, hx1, hw1⟩ := arg_rows (hval 1 55 v1 rfl rfl) (RdW.of_trod h_1 (heavy_all hwt' (j := 1) rfl rfl))
  obtain ⟨A2, c2, l2, rfl, hx2⟩ := arg_lies (hval 2 49 v2 rfl rfl) (RdW.of_trod h_2 (heavy_all hwt' (j := 2) rfl rfl))
  refine (cuts_any W N0 F0 A0 c0 l0 hx0 hN0 hF0 hw0 A1 c1 l1 hx1 hw1 A2 c2 l2 hx2).mono fun e W' ⟨he, hb⟩ => ?_
  subst he
  exact ⟨_, rfl, law_post laidOut avionicsCutsParams rfl Try.underlying4 rfl hW' rfl rfl rfl hb⟩
theorem avionicsCuts_over : Rows.avionicsCutsRow.holds Try.pinned (OpenSpec.ofChange Rows.avionicsCutsSpec) :=
  OpenClaim.holds_of_wide 8 Try.f8 rfl rfl rfl rfl rfl rfl rfl ⟨rfl, rfl, rfl, rfl, rfl⟩ rfl rfl rfl rfl rfl (by kernel_rfl) Try.func8 (by kernel_rfl)
    (of_decide_eq_true (by kernel_rfl)) (by unfold Func.isWrapper; rw [if_neg (by decide +kernel)]; exact ⟨rfl, rfl⟩)
    (fun os started H enc _ => avionicsCuts_lifted os started H enc)
theorem avionicsCuts_holds : Rows.AvionicsCutsSaid := avionicsCuts_over
#print axioms avionicsCuts_holds
end Go.Proofs.Ytnmccbjdfdbgpaa
