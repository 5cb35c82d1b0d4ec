/- What is proved: the texts Pq, one behind the other; each says at its head what it proves, and under which conditions. -/
import Derived.Test.YtcnjenlojnognaaGreatg32
/- What is proved: a few laws of sets and of what Best hands back. Conditions: those that each lemma states. -/
namespace Go.Proofs.YtcnjenlojnognaaGreat
open Go.RowKit

theorem bitsQ_rng {c:CampD} {b:Nat} (hb:b<2 ^ c.cargos.length):∀ i ∈ bitsL b,0≤i∧i<(c.cargos.length:Int):=fun i hi=>by
 obtain ⟨a1,_,a3⟩:=bitsL_mem.1 hi
 refine ⟨a1,?_⟩
 rcases Nat.lt_or_ge i.toNat c.cargos.length with h6 | h6
 ·omega
 ·rw [Nat.testBit_lt_two_pow (Nat.lt_of_lt_of_le hb (Nat.pow_le_pow_right (by decide) h6))] at a3;cases a3
theorem bitsQ_len6 (b:Nat):(bitsL b).length≤6:=by unfold bitsL;rw [List.length_map];exact Nat.le_trans (List.length_filter_le _ _) (by simp)
theorem bstQ_some {d:CampD} (hd:campB d=true):(bstB d).2=if (bestB d).isSome=true then 0 else 7:=by
 unfold bstB
 rw [hd,if_neg (by decide)]
 cases bestB d <;> rfl
end Go.Proofs.YtcnjenlojnognaaGreat
