/- What is proved: the texts W1, one behind the other; each says at its head what it proves, and under which conditions. -/
import Derived.Test.YtogobjmmgjfjjaaGreatdPPaths10
/- What is proved: the plain model of a run of a sequence; a run's calls keep the plant and the system's numbers as they always are. Conditions: those that each lemma states. -/
namespace Go.Proofs.YtogobjmmgjfjjaaGreat
open Go.RowKit
/-! What a run's calls keep. -/
def Keeps (S T : Sys) : Prop := T.p = S.p ∧ (SysOk S → SysOk T)
theorem Keeps.refl (S : Sys) : Keeps S S := ⟨rfl, id⟩
theorem Keeps.trans {S T U : Sys} (h : Keeps S T) (k : Keeps T U) : Keeps S U := ⟨k.1.trans h.1, fun ok => k.2 (h.2 ok)⟩
end Go.Proofs.YtogobjmmgjfjjaaGreat
