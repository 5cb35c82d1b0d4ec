/- What is proved: the texts Bb, one behind the other; each says at its head what it proves, and under which conditions. -/
import Derived.Test.Ytnmccbjdfdbgpaan8
/- What is proved: AvionicsSchedules returns true, and makes only memory. Conditions: the messages lie in memory. -/
namespace Go.Proofs.Ytnmccbjdfdbgpaa
open Go.RowKit

theorem intsB_self (l : List Int) : intsB l l = true := by
  unfold intsB
  rw [decide_eq_true rfl, Bool.true_and]
  exact allN_iff.2 fun i _ => decide_eq_true rfl
theorem sched_small (l : List MsgD) : (schedB l).1.length ≤ 4096 ∧ (schedB l).2.1.1 ≤ 100000 ∧ (schedB l).2.1.2 ≤ 100000 := by
  unfold schedB
  by_cases h : ¬ (cycleB l).2 = 0
  · rw [if_pos h]; simp
  · rw [if_neg h]
    obtain ⟨_, hok⟩ := cycle_ok (l := l) (by simpa using h)
    have hg := hok.great
    cases ho : overB (jobsB (msgN l) (cycleN l)) (cycleN l) 1 with
    | none => simp [tableB]; omega
    | some p =>
      have := overB_some ho
      simp only [List.length_nil]
      omega
set_option maxRecDepth 100000 in
set_option maxHeartbeats 16000000 in
theorem schedules_any (w : World) (A : Option Addr) (c : Nat) (l : List MsgD) (h : MsgsAt w w.heap.size A l) :
    Calls Try.prog 5 #[.slice A l.length c] w fun e w' => e = .returned (.bool true) ∧ Below w.heap.size w w' := by
  have HL := Lib.hid h
  have hll := h.1
  have HCY := Lib.hid fun (w1 : World) (hb : Below w.heap.size w w1) => cycle_any w1 A c l (Sl.mono (Sl.below HL.out hb) hb.size)
  have HRC := Lib.hid fun (w1 : World) (hb : Below w.heap.size w w1) => refCycle_any w1 A c l (Sl.mono (Sl.below HL.out hb) hb.size)
  have HSC := Lib.hid fun (w1 : World) (hb : Below w.heap.size w w1) => schedule_any w1 A c l (Sl.mono (Sl.below HL.out hb) hb.size)
  have HRS := Lib.hid fun (w1 : World) (hb : Below w.heap.size w w1) => refSchedule_any w1 A c l (Sl.mono (Sl.below HL.out hb) hb.size)
  have HFIN : Hid (∀ (e : Ending) (w' : World), e = .returned (.bool true) → Below w.heap.size w w' → e = .returned (.bool true) ∧ Below w.heap.size w w') := Lib.hid fun _ _ a b => ⟨a, b⟩
  obtain ⟨n, hn⟩ : ∃ n, l.length = n := ⟨_, rfl⟩
  obtain ⟨C0, hC0⟩ : ∃ C0, (cycleB l).1 = C0 := ⟨_, rfl⟩
  obtain ⟨er, her⟩ : ∃ er, (cycleB l).2 = er := ⟨_, rfl⟩
  obtain ⟨R, hR⟩ : ∃ R, schedB l = R := ⟨_, rfl⟩
  have HTL : Hid (R.1.length ≤ 4096 ∧ R.2.1.1 ≤ 100000 ∧ R.2.1.2 ≤ 100000) := Lib.hid (by
    rw [← hR]; exact sched_small l)
  have HSP : Hid (∀ w1 e w', SchPost w1 l e w' → ∃ A c, e = .returned (.tuple #[.slice A R.1.length c, .agg #[.int .i64 (R.2.1.1 : Nat), .int .i64 (R.2.1.2 : Nat)], .int .i64 R.2.2]) ∧ Cl w' w1.heap.size 3 1 A R.1.length (fun i _ => .int .i64 (getI R.1 i)) ∧ Below w1.heap.size w1 w') := Lib.hid fun w1 e w' hp => by
    obtain ⟨A', c', T, p, er', h1, h2, h3, h4⟩ := hp
    rw [hR] at h1
    subst h1
    exact ⟨A', c', h2, h3, h4⟩
  rw [hn] at hll HCY HRC HSC HRS ⊢
  rw [hC0, her] at HCY HRC
  clear h hn hC0 her hR
  go_enter Try.func5, Try.ntmps5
  by_cases h20 : 20 < n
  · have h20i : (20 : Int) < (n : Int) := by omega
    go_wp2_with fail
    refine (awake_any _).mono ?_
    rintro e w1 ⟨rfl, hb1⟩
    go_wp2_with fail
    go_ret
    exact HFIN.out _ _ rfl hb1
  · have h20i : ¬ (20 : Int) < (n : Int) := by omega
    go_wp2_with fail
    refine (HCY.out w (Below.refl _ _)).mono ?_
    rintro e w1 ⟨rfl, hb1⟩
    have HB1 := Lib.hid hb1
    clear hb1
    go_wp2_with fail
    refine (HRC.out w1 HB1.out).mono ?_
    rintro e w2 ⟨rfl, hb2⟩
    have HB2 := Lib.hid (HB1.out.trans (hb2.mono HB1.out.size))
    clear hb2
    go_wp2_with fail
    refine (HSC.out w2 HB2.out).mono ?_
    intro e w3 hp3
    obtain ⟨A3, c3, rfl, hcl3, hb3⟩ := HSP.out _ _ _ hp3
    have HB3 := Lib.hid (HB2.out.trans (hb3.mono HB2.out.size))
    have HCL3 := Lib.hid hcl3
    obtain ⟨m, hm⟩ : ∃ m, R.1.length = m := ⟨_, rfl⟩
    obtain ⟨x, hx⟩ : ∃ x, R.2.1.1 = x := ⟨_, rfl⟩
    obtain ⟨y, hy⟩ : ∃ y, R.2.1.2 = y := ⟨_, rfl⟩
    obtain ⟨z, hz⟩ : ∃ z, R.2.2 = z := ⟨_, rfl⟩
    have HM := Lib.hid hm
    have hsm := HTL.out
    rw [hm, hx, hy] at hsm
    obtain ⟨hs1, hs2, hs3⟩ := hsm
    rw [hx, hy, hm, hz] at HSP ⊢
    rw [hm] at HCL3
    have hms : m ≤ 9223372036854775807 := by omega
    clear hp3 hcl3 hb3 hm hx hy hz
    obtain ⟨W4, hW4⟩ : ∃ W4, w3.alloc (.cells #[.int .i64 x, .int .i64 y] 23) = W4 := ⟨_, rfl⟩
    have HB4 : Hid (Below w3.heap.size w3 W4) := Lib.hid (by rw [← hW4]; exact (Below.refl _ _).alloc (Nat.le_refl _) _)
    have HK4 : Hid (Bk W4 w3.heap.size 23 #[.int .i64 x, .int .i64 y]) := Lib.hid (by rw [← hW4]; exact Bk.new _ _ _)
    go_upto_region 6 with (fail)
    try rw [hW4]
    have HB4w : Hid (Below w.heap.size w W4) := Lib.hid (HB3.out.trans (HB4.out.mono HB3.out.size))
    obtain ⟨b4, hb4⟩ : ∃ b4, w3.heap.size = b4 := ⟨_, rfl⟩
    rw [hb4] at HK4
    try rw [hb4]
    clear hW4 hb4
    go_wp2_with fail
    refine (HRS.out W4 HB4w.out).mono ?_
    intro e w5 hp5
    obtain ⟨A5, c5, rfl, hcl5, hb5⟩ := HSP.out _ _ _ hp5
    have HB5 := Lib.hid (HB4w.out.trans (hb5.mono HB4w.out.size))
    have HCL5 := Lib.hid hcl5
    have HK5 := Lib.hid (HK4.out.below hb5 HK4.out.lt)
    have HQ5 : Hid (Below w3.heap.size w3 w5) := Lib.hid (HB4.out.trans (hb5.mono HB4.out.size))
    clear hp5 hcl5 hb5 HSP
    obtain ⟨W6, hW6⟩ : ∃ W6, w5.alloc (.cells #[.int .i64 x, .int .i64 y] 23) = W6 := ⟨_, rfl⟩
    have HB6 : Hid (Below w5.heap.size w5 W6) := Lib.hid (by rw [← hW6]; exact (Below.refl _ _).alloc (Nat.le_refl _) _)
    have HK6 : Hid (Bk W6 w5.heap.size 23 #[.int .i64 x, .int .i64 y]) := Lib.hid (by rw [← hW6]; exact Bk.new _ _ _)
    have HIN : Hid (Calls Try.prog 23 #[.slice A3 m c3, .slice A5 m c5] W6 fun e w' => e = .returned (.bool true) ∧ Below W6.heap.size W6 w') := Lib.hid (by
      have h3 := (HCL3.out.below (HQ5.out.trans (HB6.out.mono HQ5.out.size))).sl
      have h5 := (HCL5.out.below HB6.out).sl
      have := ints_any W6 A3 A5 c3 c5 R.1 R.1 (by unfold IntsAt; rw [HM.out]; exact h3) (by unfold IntsAt; rw [HM.out]; exact h5)
      rw [intsB_self, HM.out] at this
      exact this)
    go_upto_region 7 with (fail)
    try rw [hW6]
    obtain ⟨b6, hb6⟩ : ∃ b6, w5.heap.size = b6 := ⟨_, rfl⟩
    rw [hb6] at HK6
    try rw [hb6]
    clear hW6 hb6
    go_wp2_with fail
    refine HIN.out.mono ?_
    rintro e w7 ⟨rfl, hb7⟩
    have HB7 : Hid (Below w.heap.size w w7) := Lib.hid ((HB5.out.trans (HB6.out.mono HB5.out.size)).trans (hb7.mono (Nat.le_trans HB5.out.size HB6.out.size)))
    have k6 := HK6.out.below hb7 HK6.out.lt
    have k5 := (HK5.out.below HB6.out HK5.out.lt).below hb7 (Nat.lt_of_lt_of_le HK5.out.lt HB6.out.size)
    have a0 : w7.cell? ⟨b4, 0, none⟩ = some (.int .i64 x) := k5.cell 0
    have a1 : w7.cell? ⟨b4, 1, none⟩ = some (.int .i64 y) := k5.cell 1
    have a2 : w7.cell? ⟨b6, 0, none⟩ = some (.int .i64 x) := k6.cell 0
    have a3 : w7.cell? ⟨b6, 1, none⟩ = some (.int .i64 y) := k6.cell 1
    have heq := run_eq2 x y x y (wf64_of (by omega) (by omega)) (wf64_of (by omega) (by omega)) (wf64_of (by omega) (by omega)) (wf64_of (by omega) (by omega)) w7
    rw [show decide ((x : Int) = x ∧ (y : Int) = y) = true from decide_eq_true ⟨rfl, rfl⟩] at heq
    clear hb7 k5 k6
    go_wp2_with fail
    refine (awake_any _).mono ?_
    rintro e w8 ⟨rfl, hb8⟩
    go_wp2_with fail
    go_ret
    exact HFIN.out _ _ rfl (HB7.out.trans (hb8.mono HB7.out.size))
end Go.Proofs.Ytnmccbjdfdbgpaa
