/- What is proved: a contract of engine.Loss. Conditions: none. -/
import Derived.Test.YtogobjmmgjfjjaaF5
import Derived.OwnWalk
namespace Go.Proofs.Ytogobjmmgjfjjaa
open Go.RowKit

def lossV (b a i o f m : Int) (j : Nat) : Int := match j with | 0 => b | 1 => a | 2 => i | 3 => o | 4 => f | _ => m
def lossOk (b a i o f m : Int) : Bool := allN 6 fun j => inB (lossV b a i o f m j) 0 1073741824
def lossB (b a i o f m : Int) : Int × Int × Int := if lossOk b a i o f m then (b + i - o - a - (2 * f + m), b + i - o - a + (2 * f + m), 0) else (0, 0, 4)

theorem loss_ix0 (b a i o f m : Int) (w : World) : (Instr.index 22 (.agg #[.int .i64 b, .int .i64 a, .int .i64 i, .int .i64 o, .int .i64 f, .int .i64 m]) (.int .i64 0)).run Try.prog w = .ok (.int .i64 b) w := by kernel_rfl
theorem loss_ix1 (b a i o f m : Int) (w : World) : (Instr.index 22 (.agg #[.int .i64 b, .int .i64 a, .int .i64 i, .int .i64 o, .int .i64 f, .int .i64 m]) (.int .i64 1)).run Try.prog w = .ok (.int .i64 a) w := by kernel_rfl
theorem loss_ix2 (b a i o f m : Int) (w : World) : (Instr.index 22 (.agg #[.int .i64 b, .int .i64 a, .int .i64 i, .int .i64 o, .int .i64 f, .int .i64 m]) (.int .i64 2)).run Try.prog w = .ok (.int .i64 i) w := by kernel_rfl
theorem loss_ix3 (b a i o f m : Int) (w : World) : (Instr.index 22 (.agg #[.int .i64 b, .int .i64 a, .int .i64 i, .int .i64 o, .int .i64 f, .int .i64 m]) (.int .i64 3)).run Try.prog w = .ok (.int .i64 o) w := by kernel_rfl
theorem loss_ix4 (b a i o f m : Int) (w : World) : (Instr.index 22 (.agg #[.int .i64 b, .int .i64 a, .int .i64 i, .int .i64 o, .int .i64 f, .int .i64 m]) (.int .i64 4)).run Try.prog w = .ok (.int .i64 f) w := by kernel_rfl
theorem loss_ix5 (b a i o f m : Int) (w : World) : (Instr.index 22 (.agg #[.int .i64 b, .int .i64 a, .int .i64 i, .int .i64 o, .int .i64 f, .int .i64 m]) (.int .i64 5)).run Try.prog w = .ok (.int .i64 m) w := by kernel_rfl
theorem loss_ix (b a i o f m : Int) (k : Nat) (hk : k < 6) (w : World) : (Instr.index 22 (.agg #[.int .i64 b, .int .i64 a, .int .i64 i, .int .i64 o, .int .i64 f, .int .i64 m]) (.int .i64 (k : Int))).run Try.prog w = .ok (.int .i64 (lossV b a i o f m k)) w :=
  match k, hk with
  | 0, _ => loss_ix0 b a i o f m w
  | 1, _ => loss_ix1 b a i o f m w
  | 2, _ => loss_ix2 b a i o f m w
  | 3, _ => loss_ix3 b a i o f m w
  | 4, _ => loss_ix4 b a i o f m w
  | 5, _ => loss_ix5 b a i o f m w

set_option maxRecDepth 100000 in
set_option maxHeartbeats 2000000 in
theorem loss_any (w : World) (b a i o f m : Int) :
    Calls Try.prog 5 #[.int .i64 b, .int .i64 a, .int .i64 i, .int .i64 o, .int .i64 f, .int .i64 m] w
      fun e w' => e = .returned (.tuple #[.int .i64 (lossB b a i o f m).1, .int .i64 (lossB b a i o f m).2.1, .int .i64 (lossB b a i o f m).2.2]) ∧ w = w' := by
  go_enter Try.func5, Try.ntmps5
  go_wp2_with fail
  go_loopw [26] (fun v wr => ∃ k : Nat, k ≤ 6 ∧ v = .int .i64 k ∧ Hid (∀ j, j < k → inB (lossV b a i o f m j) 0 1073741824 = true) ∧ w = wr) (fun v _ => 6 - (intOf v).toNat)
  case atStart => exact ⟨0, by omega, rfl, Lib.hid fun j hj => absurd hj (by omega), rfl⟩
  case round =>
    obtain ⟨k, hk, rfl, hl, rfl⟩ := hrel
    by_cases hlt : k < 6
    · have hix : ∀ w : World, (Instr.index 22 (.agg #[.int .i64 b, .int .i64 a, .int .i64 i, .int .i64 o, .int .i64 f, .int .i64 m]) (.int .i64 (k : Int))).run Try.prog w = .ok (.int .i64 (lossV b a i o f m k)) w := by
        exact loss_ix b a i o f m k hlt
      have hki : (k : Int) < 6 := by omega
      go_wp2_with fail
      refine (within_any _ _ _ _).mono ?_
      rintro e w' ⟨rfl, rfl⟩
      cases hq : inB (lossV b a i o f m k) 0 1073741824 with
      | true =>
        have HQ := Lib.hid hq; clear hq
        go_wp2_with fail
        go_roundw
        case rel => exact ⟨k + 1, by omega, by go_num, Lib.hid fun j hj => if e : j = k then by subst e; exact HQ.out else hl.out j (by omega), trivial⟩
        case measure => simp [intOf]; omega
      | false =>
        have HQ := Lib.hid hq; clear hq
        go_wp2_with fail
        go_ret3
        have : lossB b a i o f m = (0, 0, 4) := by
          unfold lossB
          rw [if_neg]
          intro h
          have := allN_iff.1 h k hlt
          rw [HQ.out] at this; cases this
        rw [this]
        exact ⟨rfl, rfl⟩
    · obtain rfl : k = 6 := by omega
      have hall : ∀ j, j < 6 → 0 ≤ lossV b a i o f m j ∧ lossV b a i o f m j ≤ 1073741824 := fun j hj => inB_iff.1 (hl.out j hj)
      have g0 := hall 0 (by omega)
      have g1 := hall 1 (by omega)
      have g2 := hall 2 (by omega)
      have g3 := hall 3 (by omega)
      have g4 := hall 4 (by omega)
      have g5 := hall 5 (by omega)
      simp only [lossV] at g0 g1 g2 g3 g4 g5
      have h1 : IntKind.i64.wrap (b + i) = b + i := IntWalk.i64_in _ (by omega)
      have h2 : IntKind.i64.wrap (b + i - o) = b + i - o := IntWalk.i64_in _ (by omega)
      have h3 : IntKind.i64.wrap (b + i - o - a) = b + i - o - a := IntWalk.i64_in _ (by omega)
      have h4 : IntKind.i64.wrap (2 * f) = 2 * f := IntWalk.i64_in _ (by omega)
      have h5 : IntKind.i64.wrap (2 * f + m) = 2 * f + m := IntWalk.i64_in _ (by omega)
      have h6 : IntKind.i64.wrap (b + i - o - a - (2 * f + m)) = b + i - o - a - (2 * f + m) := IntWalk.i64_in _ (by omega)
      have h7 : IntKind.i64.wrap (b + i - o - a + (2 * f + m)) = b + i - o - a + (2 * f + m) := IntWalk.i64_in _ (by omega)
      have hL := Lib.hid (show lossB b a i o f m = (b + i - o - a - (2 * f + m), b + i - o - a + (2 * f + m), 0) by
        unfold lossB
        rw [if_pos]
        exact allN_iff.2 hl.out)
      go_wp2_with fail
      go_ret3
      rw [hL.out]
      exact ⟨rfl, rfl⟩
end Go.Proofs.Ytogobjmmgjfjjaa
