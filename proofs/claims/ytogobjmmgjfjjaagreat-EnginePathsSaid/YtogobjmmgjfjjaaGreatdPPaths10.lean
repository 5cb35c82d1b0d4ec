/- What is proved: the texts U6, one behind the other; each says at its head what it proves, and under which conditions. -/
import Derived.Test.YtogobjmmgjfjjaaGreatdPPaths9
/- What is proved: no set of Never holds of a system; what Holds answers is the document's. Conditions: the system's numbers are as they always are. -/
namespace Go.Proofs.YtogobjmmgjfjjaaGreat
open Go.RowKit
/-- What is left by the operations of 'w, _ = due(p, w, a)'. -/
def SideR2 (X : SX) (p : PlantD) (E : Int) (T : Sys) (ix : Nat) (u : Value) (w1 : World) : Prop :=
  (ix = 6 ∨ ix = 7 → ∃ R', u = .tuple #[.agg (RA p R'), .int .i64 E] ∧ @RefAt X.exc w1 w1.heap.size R' T) ∧ (ix = 8 → ∃ R', u = .agg (RA p R') ∧ @RefAt X.exc w1 w1.heap.size R' T)
theorem SideR2.keep {X : SX} {p : PlantD} {T : Sys} {w1 w2 : World} {E : Int} {m i j : Nat} {u : Value} (h : SideR2 X p E T i u w1) (he : SideE X T m j w1 w2) : SideR2 X p E T i u w2 := by
  letI : Exc := X.exc
  obtain ⟨h1, h2⟩ := h
  by_cases hj : j = m
  · obtain ⟨k1, k2⟩ := he.2 hj
    refine ⟨fun e => ?_, fun e => ?_⟩
    · obtain ⟨R', a, b⟩ := h1 e; exact ⟨R', a, k1 R' b⟩
    · obtain ⟨R', a, b⟩ := h2 e; exact ⟨R', a, k1 R' b⟩
  · have hb := he.1 hj
    refine ⟨fun e => ?_, fun e => ?_⟩
    · obtain ⟨R', a, b⟩ := h1 e; exact ⟨R', a, (RefAt.below b hb).mono hb.size⟩
    · obtain ⟨R', a, b⟩ := h2 e; exact ⟨R', a, (RefAt.below b hb).mono hb.size⟩
end Go.Proofs.YtogobjmmgjfjjaaGreat
