/- What is proved: contracts of engine.apart, engine.tanked, engine.valved. Conditions: the slices lie in memory as the plain data say. -/
import Derived.Test.YtogobjmmgjfjjaaA1
import Derived.Test.YtogobjmmgjfjjaaMod
namespace Go.Proofs.Ytogobjmmgjfjjaa
open Go.RowKit

theorem zero_bool (w : World) : (zeroValue 4).run Try.prog w = .ok (.bool false) w := by kernel_rfl

set_option maxRecDepth 100000 in
set_option maxHeartbeats 1000000 in
theorem apart_any (w : World) (A : Option Addr) (n c : Nat) (s : Nat → ByteArray) (most : Int) (h : Sl w w.heap.size 1 A n fun i _ => .string (s i)) :
    Calls Try.prog 69 #[.slice A n c, .int .i64 most] w fun e w' => e = .returned (.bool (apartB n s most)) ∧ Below w.heap.size w w' := by
  have hn := h.1
  have hmm := @run_makeMap Try.prog
  go_enter Try.func69, Try.ntmps69
  go_wp2_with fail
  go_loopw [11] (fun i wr => ∃ k : Nat, k ≤ n ∧ i = .int .i64 k ∧ Hid (∀ i, i < k → inB (s i).size 1 32 = true ∧ ∀ j, j < i → s j ≠ s i) ∧ Below w.heap.size w wr ∧ SetS wr w.heap.size ((List.range k).map s)) (fun i _ => n - (intOf i).toNat)
  case atStart => exact ⟨0, Nat.zero_le _, rfl, Lib.hid fun j hj => absurd hj (by omega), (Below.refl _ _).alloc (Nat.le_refl _) _, SetS.made w⟩
  case round =>
    obtain ⟨k, hk, rfl, hl, hb, hs⟩ := hrel
    by_cases hlt : k < n
    · obtain ⟨b, off, rfl, hB, c0⟩ := (h.below hb).at1 hlt
      have hlook := hs.lookup (P := Try.prog) Try.underlying140 Try.underlying9 (zero_bool wr) (s k)
      by_cases h1 : inB (s k).size 1 32 = true
      · by_cases h2 : s k ∈ (List.range k).map s
        · have ha : (((List.range k).map s).any fun x => decide (x = s k)) = true := by rw [List.any_eq_true]; exact ⟨_, h2, by simp⟩
          rw [ha] at hlook
          have Hf : Hid (apartB n s most = false) := Lib.hid (by
            have : (allN n fun i => inB (s i).size 1 32 && allN i fun j => !decide (s j = s i)) = false := by
              unfold allN; rw [List.all_eq_false]
              simp only [List.mem_map, List.mem_range] at h2
              obtain ⟨j, hj, he⟩ := h2
              refine ⟨k, by simpa using hlt, ?_⟩
              simp only [Bool.and_eq_true, h1, true_and, List.all_eq_true, List.mem_range]
              intro hc; have := hc j hj; simp [he] at this
            unfold apartB; rw [this]; rfl)
          clear ha h2 hl hs
          go_wp2_with (go_at_call 17; refine (within_any _ _ _ _).mono ?_; rintro e w' ⟨rfl, rfl⟩)
          go_ret
          exact ⟨ret_bool Hf.out.symm, hb⟩
        · have ha : (((List.range k).map s).any fun x => decide (x = s k)) = false := by rw [List.any_eq_false]; intro x hx; simp; rintro rfl; exact h2 hx
          rw [ha] at hlook
          obtain ⟨w2, hupd, hs2, hz2, hb2⟩ := hs.update (P := Try.prog) Try.underlying140 Try.underlying9 (s k) h2
          have hb3 := hb2 w.heap.size (Nat.le_refl _)
          clear ha hs hb2
          have Hn := Lib.hid h2; clear h2
          go_wp2_with (go_at_call 17; refine (within_any _ _ _ _).mono ?_; rintro e w' ⟨rfl, rfl⟩)
          go_roundw
          case rel =>
            refine ⟨k + 1, by omega, by go_num, Lib.hid fun i hi => ?_, hb.trans hb3, ?_⟩
            · by_cases e : i = k
              · subst e
                refine ⟨h1, fun j hj he => Hn.out ?_⟩
                rw [← he]; exact List.mem_map.2 ⟨j, by simpa using hj, rfl⟩
              · exact hl.out i (by omega)
            · rw [List.range_succ, List.map_append]; exact hs2
          case measure => simp [intOf]; omega
      · have h1' : inB (s k).size 1 32 = false := by simpa using h1
        have Hf : Hid (apartB n s most = false) := Lib.hid (by
          have : (allN n fun i => inB (s i).size 1 32 && allN i fun j => !decide (s j = s i)) = false := by
            unfold allN; rw [List.all_eq_false]
            exact ⟨k, by simpa using hlt, by simp [h1']⟩
          unfold apartB; rw [this]; rfl)
        clear h1 hl hs
        go_wp2_with (go_at_call 17; refine (within_any _ _ _ _).mono ?_; rintro e w' ⟨rfl, rfl⟩)
        go_ret
        exact ⟨ret_bool Hf.out.symm, hb⟩
    · obtain rfl : k = n := by omega
      have Hf : Hid (apartB k s most = inB k 1 most) := Lib.hid (by
        have : (allN k fun i => inB (s i).size 1 32 && allN i fun j => !decide (s j = s i)) = true := by
          unfold allN; rw [List.all_eq_true]
          intro i hi
          have := hl.out i (by simpa using hi)
          simp only [Bool.and_eq_true, this.1, true_and, List.all_eq_true, List.mem_range]
          intro j hj; simpa using this.2 j hj
        unfold apartB; rw [this]; rfl)
      clear hl
      go_wp2_with (go_at_call 17; refine (within_any _ _ _ _).mono ?_; rintro e w' ⟨rfl, rfl⟩)
      go_ret
      exact ⟨ret_bool Hf.out.symm, hb⟩
end Go.Proofs.Ytogobjmmgjfjjaa
