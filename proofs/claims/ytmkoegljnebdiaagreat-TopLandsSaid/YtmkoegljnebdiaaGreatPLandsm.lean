/- What is proved: TopLands answers true for every input, and leaves its arguments as they were. Conditions: none. -/
import Derived.Test.YtmkoegljnebdiaaGreatdPLands14
namespace Go.Proofs.YtmkoegljnebdiaaGreat
open Go.ChangeShapes Go.WideShapes Go.ChangeAt Go.RowKit
theorem topLandsParams : ∀ t ∈ Tryz.f3.params.toList, Tryz.prog.readableRec t = true ∧ t < Tryz.prog.types.size := by
  rw [Tryz.params3]
  intro t ht
  simp only [List.mem_cons, List.not_mem_nil, or_false] at ht
  rcases ht with rfl | rfl <;> exact ⟨by kernel_rfl, of_decide_eq_true (by kernel_rfl)⟩
set_option maxRecDepth 100000 in
theorem topLands_lifted (os : Os) (started : os.Started) (H : Type) (enc : TypeId × Value → H) :
    ReturnsInHanded {} Tryz.checked os 3 .any (Rows.topLandsSpec.pre6 enc Tryz.prog Tryz.f3 Rows.topLandsRow.domain false) (Rows.topLandsSpec.post enc Tryz.prog Tryz.f3 false true false false) := by
  refine returnsInHanded_of_change_sized (C := Tryz.checked) ownKnobL started (by kernel_rfl) Tryz.func3
    (ChangeSpec.witness6 (enc := enc) (C := Tryz.checked) false ⟨#[], #[.agg #[.int .u8 0, .int .u8 0, .int .u8 0, .int .u8 0, .int .u8 0, .int .u8 0, .int .u8 0, .int .u8 0, .int .u16 0], .agg #[.string ⟨#[]⟩, .slice none 0 0]], []⟩ 8 (by kernel_rfl) (by kernel_rfl) (by kernel_rfl) (by kernel_rfl)) ?_
  intro W base args ds gs before hval0 hW _ _ _
  have hval : ∀ (j : Nat) t v, Tryz.f3.params[j]? = some t → args[j]? = some v → Value.okWide Tryz.prog W .any base t v := hval0
  have hW' : DataW.Whole enc Tryz.prog Tryz.f3.params.toList Rows.topLandsSpec.vars false W args.toList ds gs before := hW
  obtain ⟨p, q, hA0, hV, rfl, _, _⟩ := hW
  have hA : DataW.TrodAll enc Tryz.prog W 0 (fun _ => true) true Tryz.f3.params.toList args.toList ds p := hA0
  rw [Tryz.params3] at hA hval
  obtain ⟨v0, v1, d0, d1, p_0, p_1, rfl, rfl, rfl, h_0, h_1⟩ := trodAll_two hA
  obtain ⟨rfl, rfl⟩ := trodVars_none hV
  obtain ⟨x0, x1, x2, x3, x4, x5, x6, x7, off, rfl, b0, b1, b2, b3, b4, b5, b6, b7, bo⟩ := arg_shot (hval 0 24 v0 rfl rfl) (Rd.of_trod h_0)
  obtain ⟨nm, A, n, c, v, rfl, hz⟩ := arg_zone (hval 1 27 v1 rfl rfl) (Rd.of_trod h_1)
  refine (topLands_any x0 x1 x2 x3 x4 x5 x6 x7 off b0 b1 b2 b3 b4 b5 b6 b7 bo nm A n c v W hz).mono fun e W' ⟨he, hb⟩ => ?_
  subst he
  exact ⟨_, rfl, law_post laidOut topLandsParams rfl Tryz.underlying4 rfl hW' rfl rfl rfl hb⟩
theorem topLands_over : Rows.topLandsRow.holds Tryz.pinned (OpenSpec.ofChange Rows.topLandsSpec) :=
  OpenClaim.holds_of_wide 3 Tryz.f3 rfl rfl rfl rfl rfl rfl rfl ⟨rfl, rfl, rfl, rfl, rfl⟩ rfl rfl rfl rfl rfl (by kernel_rfl) Tryz.func3 (by kernel_rfl)
    (of_decide_eq_true (by kernel_rfl)) (by unfold Func.isWrapper; rw [if_neg (by decide +kernel)]; exact ⟨rfl, rfl⟩)
    (fun os started H enc _ => topLands_lifted os started H enc)
theorem topLands_holds : Rows.TopLandsSaid := topLands_over
#print axioms topLands_holds
end Go.Proofs.YtmkoegljnebdiaaGreat
