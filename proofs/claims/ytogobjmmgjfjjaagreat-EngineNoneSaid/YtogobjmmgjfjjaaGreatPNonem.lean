/- What is proved: EngineNone answers true for every input, and leaves its arguments as they were. Conditions: none. -/
import Derived.Test.YtogobjmmgjfjjaaGreatmPNone
namespace Go.Proofs.YtogobjmmgjfjjaaGreat
open Go.ChangeShapes Go.WideShapes Go.ChangeAt Go.RowKit
theorem engineNoneParams : ∀ t ∈ Tryz.f12.params.toList, Tryz.prog.readableRec t = true ∧ t < Tryz.prog.types.size := by
  rw [Tryz.params12]
  intro t ht
  simp only [List.mem_cons, List.not_mem_nil, or_false] at ht
  rcases ht with rfl | rfl <;> exact ⟨by kernel_rfl, of_decide_eq_true (by kernel_rfl)⟩
set_option maxRecDepth 100000 in
theorem engineNone_lifted (os : Os) (started : os.Started) (H : Type) (enc : TypeId × Value → H) :
    ReturnsInHanded {} Tryz.checked os 12 .any (Rows.engineNoneSpec.pre6 enc Tryz.prog Tryz.f12 Rows.engineNoneRow.domain false) (Rows.engineNoneSpec.post enc Tryz.prog Tryz.f12 false true false false) := by
  refine returnsInHanded_of_change_sized (C := Tryz.checked) ownKnobL started (by kernel_rfl) Tryz.func12
    (ChangeSpec.witness6 (enc := enc) (C := Tryz.checked) false ⟨#[], #[.agg #[.int .i64 0, .int .i64 0, .int .i64 0, .int .i64 0], .agg #[.int .i64 0, .int .i64 0, .int .i64 0, .int .i64 0]], []⟩ 8 (by kernel_rfl) (by kernel_rfl) (by kernel_rfl) (by kernel_rfl)) ?_
  intro W base args ds gs before hval0 hW _ hwt _
  have hval : ∀ (j : Nat) t v, Tryz.f12.params[j]? = some t → args[j]? = some v → Value.okWide Tryz.prog W .any base t v := hval0
  have hW' : DataW.Whole enc Tryz.prog Tryz.f12.params.toList Rows.engineNoneSpec.vars false W args.toList ds gs before := hW
  obtain ⟨p, q, hA0, hV, rfl, _, _⟩ := hW
  have hA : DataW.TrodAll enc Tryz.prog W 0 (fun _ => true) true Tryz.f12.params.toList args.toList ds p := hA0
  rw [Tryz.params12] at hA hval
  obtain ⟨v0, v1, d0, d1, p_0, p_1, rfl, rfl, rfl, h_0, h_1⟩ := trodAll_two hA
  obtain ⟨rfl, rfl⟩ := trodVars_none hV
  have hwt' : (DataW.weightsEach Tryz.prog ([57, 70] ++ []) ([d0, d1] ++ [])).all (· ≤ reachBytes) = true := hwt
  obtain ⟨what0, a0, b0, c0, rfl⟩ := arg_act (hval 0 57 v0 rfl rfl) (RdW.of_trod h_0 (heavy_all hwt' (j := 0) rfl rfl))
  obtain ⟨k1, o1, l1, h1, rfl⟩ := arg_need (hval 1 70 v1 rfl rfl) (RdW.of_trod h_1 (heavy_all hwt' (j := 1) rfl rfl))
  refine (none_any W what0 a0 b0 c0 k1 o1 l1 h1).mono fun e W' ⟨he, hb⟩ => ?_
  subst he
  exact ⟨_, rfl, law_post laidOut engineNoneParams rfl Tryz.underlying4 rfl hW' rfl rfl rfl hb⟩
theorem engineNone_over : Rows.engineNoneRow.holds Tryz.pinned (OpenSpec.ofChange Rows.engineNoneSpec) :=
  OpenClaim.holds_of_wide 12 Tryz.f12 rfl rfl rfl rfl rfl rfl rfl ⟨rfl, rfl, rfl, rfl, rfl⟩ rfl rfl rfl rfl rfl (by kernel_rfl) Tryz.func12 (by kernel_rfl)
    (of_decide_eq_true (by kernel_rfl)) (by unfold Func.isWrapper; rw [if_neg (by decide +kernel)]; exact ⟨rfl, rfl⟩)
    (fun os started H enc _ => engineNone_lifted os started H enc)
theorem engineNone_holds : Rows.EngineNoneSaid := engineNone_over
#print axioms engineNone_holds
end Go.Proofs.YtogobjmmgjfjjaaGreat
