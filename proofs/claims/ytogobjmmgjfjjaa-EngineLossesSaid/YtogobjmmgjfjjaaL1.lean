/- What is proved: contracts of ullageref07's in and Loss, and of the law EngineLosses: it answers true. Conditions: the numbers are int's. -/
import Derived.Test.YtogobjmmgjfjjaaH3
namespace Go.Proofs.Ytogobjmmgjfjjaa
open Go.RowKit
set_option maxHeartbeats 400000 in
theorem in_any (a b c : Int) (w : World) :
    Calls Try.prog 18 #[.int .i64 a, .int .i64 b, .int .i64 c] w fun e w' => e = .returned (.bool (inB a b c)) ∧ w = w' := by
  go_enter Try.func18, Try.ntmps18
  go_wp2
  all_goals (go_ret; refine ⟨ret_bool ?_, rfl⟩; unfold inB; by_cases h1 : b ≤ a <;> by_cases h2 : a ≤ c <;> simp [h1, h2] <;> omega)

set_option maxRecDepth 100000 in
set_option maxHeartbeats 2000000 in
theorem refLoss_any (w : World) (b a i o f m : Int) :
    Calls Try.prog 6 #[.int .i64 b, .int .i64 a, .int .i64 i, .int .i64 o, .int .i64 f, .int .i64 m] w
      fun e w' => e = .returned (.tuple #[.int .i64 (lossB b a i o f m).1, .int .i64 (lossB b a i o f m).2.1, .int .i64 (lossB b a i o f m).2.2]) ∧ Below w.heap.size w w' := by
  have hb0 : Below w.heap.size w (w.alloc (.cells #[.int .i64 b, .int .i64 a, .int .i64 i, .int .i64 o, .int .i64 f, .int .i64 m] 3)) := (Below.refl _ _).alloc (Nat.le_refl _) _
  have hbk := Bk.new w 3 #[.int .i64 b, .int .i64 a, .int .i64 i, .int .i64 o, .int .i64 f, .int .i64 m]
  have HB := Lib.hid hb0
  have HK := Lib.hid hbk
  clear hb0 hbk
  go_enter Try.func6, Try.ntmps6
  go_wp2_with fail
  obtain ⟨W, hW⟩ : ∃ W, W = w.alloc (.cells #[.int .i64 b, .int .i64 a, .int .i64 i, .int .i64 o, .int .i64 f, .int .i64 m] 3) := ⟨_, rfl⟩
  rw [← hW] at HB HK ⊢
  clear hW
  go_loopw [16] (fun v wr => ∃ k : Nat, k ≤ 6 ∧ v = .int .i64 k ∧ Hid (∀ j, j < k → inB (lossV b a i o f m j) 0 1073741824 = true) ∧ W = wr) (fun v _ => 6 - (intOf v).toNat)
  case atStart => exact ⟨0, by omega, rfl, Lib.hid fun j hj => absurd hj (by omega), rfl⟩
  case round =>
    obtain ⟨k, hk, rfl, hl, rfl⟩ := hrel
    by_cases hlt : k < 6
    · have hc : W.cell? ⟨w.heap.size, k, none⟩ = some (.int .i64 (lossV b a i o f m k)) := by
        match k, hlt with
        | 0, _ => exact HK.out.cell 0
        | 1, _ => exact HK.out.cell 1
        | 2, _ => exact HK.out.cell 2
        | 3, _ => exact HK.out.cell 3
        | 4, _ => exact HK.out.cell 4
        | 5, _ => exact HK.out.cell 5
      have hki : (k : Int) < 6 := by omega
      have h0i : (0 : Int) ≤ (k : Int) := by omega
      go_wp2_with fail
      refine (in_any _ _ _ _).mono ?_
      rintro e w' ⟨rfl, rfl⟩
      cases hq : inB (lossV b a i o f m k) 0 1073741824 with
      | true =>
        have HQ := Lib.hid hq; clear hq
        go_wp2_with fail
        go_roundw
        case rel => exact ⟨k + 1, by omega, by go_num, Lib.hid fun j hj => if e : j = k then by subst e; exact HQ.out else hl.out j (by omega), trivial⟩
        case measure => simp [intOf]; omega
      | false =>
        have HQ := Lib.hid hq; clear hq
        go_wp2_with fail
        go_ret3
        have : lossB b a i o f m = (0, 0, 4) := by
          unfold lossB
          rw [if_neg]
          intro h
          have := allN_iff.1 h k hlt
          rw [HQ.out] at this; cases this
        rw [this]
        exact ⟨rfl, HB.out⟩
    · obtain rfl : k = 6 := by omega
      have hall : ∀ j, j < 6 → 0 ≤ lossV b a i o f m j ∧ lossV b a i o f m j ≤ 1073741824 := fun j hj => inB_iff.1 (hl.out j hj)
      have g0 := hall 0 (by omega)
      have g1 := hall 1 (by omega)
      have g2 := hall 2 (by omega)
      have g3 := hall 3 (by omega)
      have g4 := hall 4 (by omega)
      have g5 := hall 5 (by omega)
      simp only [lossV] at g0 g1 g2 g3 g4 g5
      have h1 : IntKind.i64.wrap (b + i) = b + i := IntWalk.i64_in _ (by omega)
      have h2 : IntKind.i64.wrap (b + i - o) = b + i - o := IntWalk.i64_in _ (by omega)
      have h3 : IntKind.i64.wrap (b + i - o - a) = b + i - o - a := IntWalk.i64_in _ (by omega)
      have h4 : IntKind.i64.wrap (2 * f) = 2 * f := IntWalk.i64_in _ (by omega)
      have h5 : IntKind.i64.wrap (b + i - o - a - 2 * f) = b + i - o - a - 2 * f := IntWalk.i64_in _ (by omega)
      have h6 : IntKind.i64.wrap (b + i - o - a - 2 * f - m) = b + i - o - a - 2 * f - m := IntWalk.i64_in _ (by omega)
      have h7 : IntKind.i64.wrap (b + i - o - a + 2 * f) = b + i - o - a + 2 * f := IntWalk.i64_in _ (by omega)
      have h8 : IntKind.i64.wrap (b + i - o - a + 2 * f + m) = b + i - o - a + 2 * f + m := IntWalk.i64_in _ (by omega)
      have hL := Lib.hid (show lossB b a i o f m = (b + i - o - a - 2 * f - m, b + i - o - a + 2 * f + m, 0) by
        unfold lossB
        rw [if_pos (show lossOk b a i o f m = true from allN_iff.2 hl.out), show b + i - o - a - (2 * f + m) = b + i - o - a - 2 * f - m from by omega, show b + i - o - a + (2 * f + m) = b + i - o - a + 2 * f + m from by omega])
      clear hall hl g0 g1 g2 g3 g4 g5
      go_wp2_with fail
      go_ret3
      rw [hL.out]
      exact ⟨rfl, HB.out⟩
theorem tmod_bd (a b : Int) (h : 0 ≤ b) : -b ≤ a.tmod (b + 1) ∧ a.tmod (b + 1) ≤ b := by
  have h1 := Int.tmod_lt_of_pos a (show 0 < b + 1 by omega)
  have h2 := Int.lt_tmod_of_pos a (show 0 < b + 1 by omega)
  omega
set_option maxRecDepth 100000 in
set_option maxHeartbeats 2000000 in
theorem losses_any (w : World) (x0 x1 x2 x3 x4 x5 y0 y1 y2 y3 y4 y5 : Int) :
    Calls Try.prog 3 #[.agg #[.int .i64 x0, .int .i64 x1, .int .i64 x2, .int .i64 x3, .int .i64 x4, .int .i64 x5], .agg #[.int .i64 y0, .int .i64 y1, .int .i64 y2, .int .i64 y3, .int .i64 y4, .int .i64 y5]] w
      fun e w' => e = .returned (.bool true) ∧ Below w.heap.size w w' := by
  obtain ⟨W, hW⟩ : ∃ W, W = (w.alloc (.cells #[.int .i64 x0, .int .i64 x1, .int .i64 x2, .int .i64 x3, .int .i64 x4, .int .i64 x5] 22)).alloc (.cells #[.int .i64 y0, .int .i64 y1, .int .i64 y2, .int .i64 y3, .int .i64 y4, .int .i64 y5] 22) := ⟨_, rfl⟩
  have hbW : Below w.heap.size w W := by rw [hW]; exact ((Below.refl _ _).alloc (Nat.le_refl _) _).alloc (by simp) _
  have hx : Bk W w.heap.size 22 #[.int .i64 x0, .int .i64 x1, .int .i64 x2, .int .i64 x3, .int .i64 x4, .int .i64 x5] := by rw [hW]; exact (Bk.new _ _ _).alloc _
  have hy : Bk W (w.heap.size + 1) 22 #[.int .i64 y0, .int .i64 y1, .int .i64 y2, .int .i64 y3, .int .i64 y4, .int .i64 y5] := by rw [hW]; exact Bk.newAt _ _ _ _ (by simp)
  have hsz : W.heap.size = w.heap.size + 2 := by rw [hW]; simp
  have HB := Lib.hid hbW
  have HX := Lib.hid hx
  have HY := Lib.hid hy
  have HZ := Lib.hid hsz
  have HW := Lib.hid hW
  clear hbW hx hy hsz hW
  go_enter Try.func3, Try.ntmps3
  go_wp2_with fail
  rw [← HW.out]
  refine (loss_any W x0 x1 x2 x3 x4 x5).mono ?_
  rintro e w' ⟨rfl, rfl⟩
  have c0 : W.cell? ⟨w.heap.size, 0, none⟩ = some (.int .i64 x0) := HX.out.cell 0
  have c1 : W.cell? ⟨w.heap.size, 1, none⟩ = some (.int .i64 x1) := HX.out.cell 1
  have c2 : W.cell? ⟨w.heap.size, 2, none⟩ = some (.int .i64 x2) := HX.out.cell 2
  have c3 : W.cell? ⟨w.heap.size, 3, none⟩ = some (.int .i64 x3) := HX.out.cell 3
  have c4 : W.cell? ⟨w.heap.size, 4, none⟩ = some (.int .i64 x4) := HX.out.cell 4
  have c5 : W.cell? ⟨w.heap.size, 5, none⟩ = some (.int .i64 x5) := HX.out.cell 5
  go_wp2_with fail
  refine (refLoss_any W x0 x1 x2 x3 x4 x5).mono ?_
  rintro e w1 ⟨rfl, hb⟩
  have HX1 := Lib.hid (HX.out.below hb HX.out.lt)
  have HY1 := Lib.hid (HY.out.below hb HY.out.lt)
  have HB1 := Lib.hid (HB.out.trans (hb.mono HB.out.size))
  clear HX HY HB hb c0 c1 c2 c3 c4 c5
  have HA := Lib.hid awake_any
  cases hq : lossOk x0 x1 x2 x3 x4 x5 with
  | false =>
    have hL : lossB x0 x1 x2 x3 x4 x5 = (0, 0, 4) := by unfold lossB; rw [hq]; rfl
    rw [hL]
    clear hq hL
    go_wp2_with fail
    refine (HA.out w1).mono ?_
    rintro e w2 ⟨rfl, hb2⟩
    go_wp2_with fail
    go_ret
    exact ⟨rfl, HB1.out.trans (hb2.mono HB1.out.size)⟩
  | true =>
    have hall := allN_iff.1 (show allN 6 (fun j => inB (lossV x0 x1 x2 x3 x4 x5 j) 0 1073741824) = true from hq)
    have g0 := inB_iff.1 (hall 0 (by omega))
    have g1 := inB_iff.1 (hall 1 (by omega))
    have g2 := inB_iff.1 (hall 2 (by omega))
    have g3 := inB_iff.1 (hall 3 (by omega))
    have g4 := inB_iff.1 (hall 4 (by omega))
    have g5 := inB_iff.1 (hall 5 (by omega))
    simp only [lossV] at g0 g1 g2 g3 g4 g5
    have hL : lossB x0 x1 x2 x3 x4 x5 = (x0 + x2 - x3 - x1 - (2 * x4 + x5), x0 + x2 - x3 - x1 + (2 * x4 + x5), 0) := by unfold lossB; rw [hq]; rfl
    rw [hL]
    clear hq hL hall
    have d0 : w1.cell? ⟨w.heap.size, 0, none⟩ = some (.int .i64 x0) := HX1.out.cell 0
    have d1 : w1.cell? ⟨w.heap.size, 1, none⟩ = some (.int .i64 x1) := HX1.out.cell 1
    have d2 : w1.cell? ⟨w.heap.size, 2, none⟩ = some (.int .i64 x2) := HX1.out.cell 2
    have d3 : w1.cell? ⟨w.heap.size, 3, none⟩ = some (.int .i64 x3) := HX1.out.cell 3
    have d4 : w1.cell? ⟨w.heap.size, 4, none⟩ = some (.int .i64 x4) := HX1.out.cell 4
    have d5 : w1.cell? ⟨w.heap.size, 5, none⟩ = some (.int .i64 x5) := HX1.out.cell 5
    have f0 : w1.cell? ⟨w.heap.size + 1, 0, none⟩ = some (.int .i64 y0) := HY1.out.cell 0
    have f1 : w1.cell? ⟨w.heap.size + 1, 1, none⟩ = some (.int .i64 y1) := HY1.out.cell 1
    have f2 : w1.cell? ⟨w.heap.size + 1, 2, none⟩ = some (.int .i64 y2) := HY1.out.cell 2
    have v4 : IntKind.i64.wrap (x4 + 1) = x4 + 1 := IntWalk.i64_in _ (by omega)
    obtain ⟨t0, t0'⟩ := tmod_bd y0 x4 g4.1
    obtain ⟨t1, t1'⟩ := tmod_bd y1 x4 g4.1
    obtain ⟨t2, t2'⟩ := tmod_bd y2 x5 g5.1
    go_wp2_with fail
    go_quiet (fail)
    go_wp2_with fail
    go_quiet (fail)
    go_wp2_with fail
    refine (HA.out _).mono ?_
    rintro e w2 ⟨rfl, hb2⟩
    go_wp2_with fail
    go_ret
    exact ⟨rfl, HB1.out.trans ((below_drewN (Below.refl _ _) _ : Below w1.heap.size w1 _).trans hb2 |>.mono HB1.out.size)⟩
end Go.Proofs.Ytogobjmmgjfjjaa
