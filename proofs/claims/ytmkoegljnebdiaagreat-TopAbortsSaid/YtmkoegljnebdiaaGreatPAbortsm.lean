/- What is proved: TopAborts answers true for every input, and leaves its arguments as they were. Conditions: none. -/
import Derived.Test.YtmkoegljnebdiaaGreatdPAborts20
namespace Go.Proofs.YtmkoegljnebdiaaGreat
open Go.ChangeShapes Go.WideShapes Go.ChangeAt Go.RowKit
theorem topAbortsParams : ∀ t ∈ Tryz.f4.params.toList, Tryz.prog.readableRec t = true ∧ t < Tryz.prog.types.size := by
  rw [Tryz.params4]
  intro t ht
  simp only [List.mem_cons, List.not_mem_nil, or_false] at ht
  rcases ht with rfl | rfl | rfl <;> exact ⟨by kernel_rfl, of_decide_eq_true (by kernel_rfl)⟩
set_option maxRecDepth 100000 in
theorem topAborts_lifted (os : Os) (started : os.Started) (H : Type) (enc : TypeId × Value → H) :
    ReturnsInHanded {} Tryz.checked os 4 .any (Rows.topAbortsSpec.pre6 enc Tryz.prog Tryz.f4 Rows.topAbortsRow.domain false) (Rows.topAbortsSpec.post enc Tryz.prog Tryz.f4 false true false false) := by
  refine returnsInHanded_of_change_sized (C := Tryz.checked) ownKnobL started (by kernel_rfl) Tryz.func4
    (ChangeSpec.witness6 (enc := enc) (C := Tryz.checked) false ⟨#[], #[.agg #[.int .i64 0, .int .i64 0, .int .i64 0, .int .i64 0, .int .i64 0, .int .i64 0, .int .i64 0, .int .i64 0, .int .i64 0, .int .i64 0, .int .i64 0, .int .i64 0, .int .i64 0, .int .i64 0, .slice none 0 0, .int .i64 0, .int .i64 0, .int .i64 0, .int .i64 0, .int .i64 0, .int .i64 0, .int .i64 0, .int .i64 0, .int .i64 0, .int .i64 0, .int .i64 0, .int .i64 0, .int .i64 0, .int .i64 0, .int .i64 0], .slice none 0 0, .int .i64 0], []⟩ 8 (by kernel_rfl) (by kernel_rfl) (by kernel_rfl) (by kernel_rfl)) ?_
  intro W base args ds gs before hval0 hW _ _ _
  have hval : ∀ (j : Nat) t v, Tryz.f4.params[j]? = some t → args[j]? = some v → Value.okWide Tryz.prog W .any base t v := hval0
  have hW' : DataW.Whole enc Tryz.prog Tryz.f4.params.toList Rows.topAbortsSpec.vars false W args.toList ds gs before := hW
  obtain ⟨p, q, hA0, hV, rfl, _, _⟩ := hW
  have hA : DataW.TrodAll enc Tryz.prog W 0 (fun _ => true) true Tryz.f4.params.toList args.toList ds p := hA0
  rw [Tryz.params4] at hA hval
  obtain ⟨v0, v1, v2, d0, d1, d2, p_0, p_1, p_2, rfl, rfl, rfl, h_0, h_1, h_2⟩ := trodAll_three hA
  obtain ⟨rfl, rfl⟩ := trodVars_none hV
  obtain ⟨pl, A, n, c, y, s, rfl, wp, wy, ws, hAr⟩ := arg_trip (hval 0 72 v0 rfl rfl) (Rd.of_trod h_0)
  obtain ⟨mA, nm, mc, md, rfl, hnm, wm, hM⟩ := arg_modes (hval 1 73 v1 rfl rfl) (Rd.of_trod h_1)
  obtain ⟨fl, rfl, _⟩ := arg_int (hval 2 3 v2 rfl rfl) (Rd.of_trod h_2)
  refine (topAborts_any pl A n c y s mA nm mc md fl wp wy ws wm W hAr hM hnm).mono fun e W' ⟨he, hb⟩ => ?_
  subst he
  exact ⟨_, rfl, law_post laidOut topAbortsParams rfl Tryz.underlying4 rfl hW' rfl rfl rfl hb⟩
theorem topAborts_over : Rows.topAbortsRow.holds Tryz.pinned (OpenSpec.ofChange Rows.topAbortsSpec) :=
  OpenClaim.holds_of_wide 4 Tryz.f4 rfl rfl rfl rfl rfl rfl rfl ⟨rfl, rfl, rfl, rfl, rfl⟩ rfl rfl rfl rfl rfl (by kernel_rfl) Tryz.func4 (by kernel_rfl)
    (of_decide_eq_true (by kernel_rfl)) (by unfold Func.isWrapper; rw [if_neg (by decide +kernel)]; exact ⟨rfl, rfl⟩)
    (fun os started H enc _ => topAborts_lifted os started H enc)
theorem topAborts_holds : Rows.TopAbortsSaid := topAborts_over
#print axioms topAborts_holds
end Go.Proofs.YtmkoegljnebdiaaGreat
