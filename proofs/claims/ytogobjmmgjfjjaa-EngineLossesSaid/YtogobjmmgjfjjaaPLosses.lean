/- What is proved: EngineLosses answers true for every input, and leaves its arguments as they were. Conditions: none. -/
import Derived.Test.YtogobjmmgjfjjaaL1
import Derived.Test.YtogobjmmgjfjjaaRd
namespace Go.Proofs.Ytogobjmmgjfjjaa
open Go.ChangeShapes Go.WideShapes Go.ChangeAt Go.RowKit
theorem ownKnobL : ownKnob Try.prog.godebug = none := by kernel_rfl
theorem cellsArr6 : Try.prog.cellsOf 22 = 6 := by kernel_rfl
theorem cellsInt : Try.prog.cellsOf 3 = 1 := by kernel_rfl
theorem list6 {α : Type} (l : List α) (h : l.length = 6) : ∃ a b c d e f, l = [a, b, c, d, e, f] := by
  match l, h with
  | [a, b, c, d, e, f], _ => exact ⟨a, b, c, d, e, f, rfl⟩
theorem rdArr6 {H : Type} {enc : TypeId × Value → H} {w : World} {cs : List Value} (h : Rd enc Try.prog w 22 cs) :
    ∃ a b c d e f : Int, cs = [.int .i64 a, .int .i64 b, .int .i64 c, .int .i64 d, .int .i64 e, .int .i64 f] := by
  obtain ⟨h1, h2⟩ := h.array (e := 3) (n := 6) (by kernel_rfl)
  rw [cellsArr6] at h1
  obtain ⟨c0, c1, c2, c3, c4, c5, rfl⟩ := list6 cs h1
  rw [cellsInt] at h2
  have hi : Try.prog.underlying 3 = some (.int .i64) := by kernel_rfl
  obtain ⟨a, e0, _⟩ := (h2 0 (by omega)).int hi
  obtain ⟨b, e1, _⟩ := (h2 1 (by omega)).int hi
  obtain ⟨c, e2, _⟩ := (h2 2 (by omega)).int hi
  obtain ⟨d, e3, _⟩ := (h2 3 (by omega)).int hi
  obtain ⟨e, e4, _⟩ := (h2 4 (by omega)).int hi
  obtain ⟨f, e5, _⟩ := (h2 5 (by omega)).int hi
  simp at e0 e1 e2 e3 e4 e5
  exact ⟨a, b, c, d, e, f, by rw [e0, e1, e2, e3, e4, e5]⟩
theorem lossesParams : ∀ t ∈ Try.f3.params.toList, Try.prog.readableRec t = true ∧ t < Try.prog.types.size := by
  rw [Try.params3]
  intro t ht
  simp only [List.mem_cons, List.not_mem_nil, or_false] at ht
  rcases ht with rfl | rfl <;> exact ⟨by kernel_rfl, of_decide_eq_true (by kernel_rfl)⟩
set_option maxRecDepth 100000 in
theorem losses_lifted (os : Os) (started : os.Started) (H : Type) (enc : TypeId × Value → H) :
    ReturnsInHanded {} Try.checked os 3 .any (Rows.engineLossesSpec.pre6 enc Try.prog Try.f3 Rows.engineLossesRow.domain false) (Rows.engineLossesSpec.post enc Try.prog Try.f3 false true false false) := by
  refine returnsInHanded_of_change (C := Try.checked) ownKnobL started (by kernel_rfl) Try.func3
    (ChangeSpec.witness6 (enc := enc) (C := Try.checked) false ⟨#[], #[.agg #[.int .i64 0, .int .i64 0, .int .i64 0, .int .i64 0, .int .i64 0, .int .i64 0], .agg #[.int .i64 0, .int .i64 0, .int .i64 0, .int .i64 0, .int .i64 0, .int .i64 0]], []⟩ 8 (by kernel_rfl) (by kernel_rfl) (by kernel_rfl) (by kernel_rfl)) ?_
  intro W base args ds gs before hval0 hW _ _
  have hval : ∀ (j : Nat) t v, Try.f3.params[j]? = some t → args[j]? = some v → Value.okWide Try.prog W .any base t v := hval0
  have hW' : DataW.Whole enc Try.prog Try.f3.params.toList Rows.engineLossesSpec.vars false W args.toList ds gs before := hW
  obtain ⟨p, q, hA0, hV, rfl, _, _⟩ := hW
  have hA : DataW.TrodAll enc Try.prog W 0 (fun _ => true) true Try.f3.params.toList args.toList ds p := hA0
  rw [Try.params3] at hA hval
  obtain ⟨v0, v1, d0, d1, p0, p1, rfl, rfl, rfl, h0, h1⟩ := trodAll_two hA
  obtain ⟨rfl, rfl⟩ := trodVars_none hV
  obtain ⟨cs0, rfl⟩ := okWide_arr Try.underlying22 (hval 0 22 v0 rfl rfl)
  obtain ⟨cs1, rfl⟩ := okWide_arr Try.underlying22 (hval 1 22 v1 rfl rfl)
  obtain ⟨x0, x1, x2, x3, x4, x5, e0⟩ := rdArr6 (Rd.of_trod h0)
  obtain ⟨y0, y1, y2, y3, y4, y5, e1⟩ := rdArr6 (Rd.of_trod h1)
  obtain rfl : cs0 = #[.int .i64 x0, .int .i64 x1, .int .i64 x2, .int .i64 x3, .int .i64 x4, .int .i64 x5] := Array.toList_inj.1 e0
  obtain rfl : cs1 = #[.int .i64 y0, .int .i64 y1, .int .i64 y2, .int .i64 y3, .int .i64 y4, .int .i64 y5] := Array.toList_inj.1 e1
  refine (losses_any W x0 x1 x2 x3 x4 x5 y0 y1 y2 y3 y4 y5).mono fun e W' ⟨he, hb⟩ => ?_
  subst he
  exact ⟨_, rfl, law_post laidOut lossesParams rfl Try.underlying4 rfl hW' rfl rfl rfl hb⟩

theorem losses_over : Rows.engineLossesRow.holds Try.pinned (OpenSpec.ofChange Rows.engineLossesSpec) :=
  OpenClaim.holds_of_wide 3 Try.f3 rfl rfl rfl rfl rfl rfl rfl ⟨rfl, rfl, rfl, rfl, rfl⟩ rfl rfl rfl rfl rfl (by kernel_rfl) Try.func3 (by kernel_rfl)
    (of_decide_eq_true (by kernel_rfl)) (by unfold Func.isWrapper; rw [if_neg (by decide +kernel)]; exact ⟨rfl, rfl⟩)
    (fun os started H enc _ => losses_lifted os started H enc)
theorem engineLosses_holds : Rows.EngineLossesSaid := losses_over
#print axioms engineLosses_holds
end Go.Proofs.Ytogobjmmgjfjjaa
