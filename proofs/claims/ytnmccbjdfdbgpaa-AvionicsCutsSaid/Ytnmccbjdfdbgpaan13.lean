/- What is proved: the texts Bt Bu Bv, one behind the other; each says at its head what it proves, and under which conditions. -/
import Derived.BigQuiet
import Derived.Test.Ytnmccbjdfdbgpaan12
/- What is proved: a contract of the document's Council. Conditions: the list of the faulty lies in memory. -/
namespace Go.Proofs.Ytnmccbjdfdbgpaa
open Go.RowKit

theorem okC_of {N x : Int} {l : List Int} {k : Nat} (h : ∀ j, j < k → okC N l j = true) (hx : getI l k = x) : okC N l k = (inB x 0 (N - 1) && (decide (k = 0) || decide (lastC l k < x))) := by
  unfold okC
  rw [hx]
  have hlast : -1 ≤ lastC l k ∧ (k = 0 → lastC l k = -1) := by
    cases k with
    | zero => exact ⟨Int.le_refl _, fun _ => rfl⟩
    | succ k =>
      have : ∀ j, j < k + 1 → 0 ≤ getI l j := fun j => by
        induction j with
        | zero => intro hj; have := h 0 hj; unfold okC at this; rw [Bool.and_eq_true, decide_eq_true_eq] at this; have h2 : (-1 : Int) < getI l 0 := this.1; omega
        | succ j ih => intro hj; have h1 := ih (by omega); have := h (j + 1) hj; unfold okC at this; rw [Bool.and_eq_true, decide_eq_true_eq] at this; have h2 : getI l j < getI l (j + 1) := this.1; omega
      have h2 := this k (by omega)
      exact ⟨by show -1 ≤ getI l k; omega, fun e => by omega⟩
  rw [Bool.eq_iff_iff, Bool.and_eq_true, Bool.and_eq_true, Bool.or_eq_true, inB_iff]
  simp only [decide_eq_true_eq]
  constructor
  · intro h1; exact ⟨by omega, Or.inr h1.1⟩
  · rintro ⟨h1, h2⟩
    rcases h2 with h2 | h2
    · have := hlast.2 h2; omega
    · omega
set_option maxRecDepth 100000 in
set_option maxHeartbeats 8000000 in
theorem refCouncil_any (w : World) (N F : Int) (A : Option Addr) (c : Nat) (l : List Int) (h : IntsAt w w.heap.size A l) :
    Calls Try.prog 59 #[.agg #[.int .i64 N, .int .i64 F, .slice A l.length c]] w fun e w' => e = .returned (.bool (councilB N F l)) ∧ Below w.heap.size w w' := by
  have hll := h.1
  obtain ⟨qb, hqb⟩ : ∃ qb, w.heap.size = qb := ⟨_, rfl⟩
  have HQB := Lib.hid hqb
  obtain ⟨n, hn⟩ : ∃ n, l.length = n := ⟨_, rfl⟩
  have HN := Lib.hid hn
  obtain ⟨W0, hW0⟩ : ∃ W0, w.alloc (.cells #[.int .i64 N, .int .i64 F, .slice A n c] 48) = W0 := ⟨_, rfl⟩
  have hb0 : Below w.heap.size w W0 := by rw [← hW0]; exact (Below.refl _ w).alloc (Nat.le_refl _) _
  have HB0 : Hid (Below qb w W0) := Lib.hid (by rw [← hqb]; exact hb0)
  have HK0 : Hid (Bk W0 qb 48 #[.int .i64 N, .int .i64 F, .slice A n c]) := Lib.hid (by rw [← hW0, ← hqb]; exact Bk.new _ _ _)
  have HL : Hid (IntsAt W0 w.heap.size A l) := Lib.hid (Sl.below h hb0)
  obtain ⟨R, hR⟩ : ∃ R, councilB N F l = R := ⟨_, rfl⟩
  have HRD : Hid (R = (allN n (okC N l) && inB N 1 7 && inB F 0 2 && decide (3 * F < N) && decide ((n : Int) ≤ F))) := Lib.hid (by rw [← hR]; unfold councilB; rw [hn])
  have HBAD : Hid (∀ k, k < n → okC N l k = false → R = false) := Lib.hid fun k hk hb => by rw [← hR]; exact councilB_no (by rw [hn]; exact hk) hb
  have HFIN : Hid (∀ (b : Bool) (w' : World), b = R → Below qb w w' → Ending.returned (.bool b) = .returned (.bool R) ∧ Below qb w w') := Lib.hid fun b w' h1 h2 => by subst h1; exact ⟨rfl, h2⟩
  have HIN := Lib.hid fun x a b w' => in_any x a b w'
  rw [hn] at hll ⊢
  rw [hR, hqb]
  clear h hn hR hb0
  go_enter Try.func59, Try.ntmps59
  go_upto_region 1 with (fail)
  clear hqb hW0
  have q0 : W0.cell? ⟨qb, 0, none⟩ = some (.int .i64 N) := HK0.out.cell 0
  have q1 : W0.cell? ⟨qb, 1, none⟩ = some (.int .i64 F) := HK0.out.cell 1
  have q2 : W0.cell? ⟨qb, 2, none⟩ = some (.slice A n c) := HK0.out.cell 2
  obtain ⟨b1, hb1⟩ : ∃ b, inB N 1 7 = b := ⟨_, rfl⟩
  have HI1 := Lib.hid (HIN.out N 1 7 W0)
  have HB1 := Lib.hid hb1
  rw [hb1] at HI1 HRD
  clear hb1
  cases b1 with
  | false =>
    have HR : Hid (false = R) := Lib.hid (by rw [HRD.out]; simp)
    go_wp2_with fail
    refine HI1.out.mono ?_
    rintro e w1 ⟨rfl, rfl⟩
    go_wp2_with fail
    go_ret
    exact HFIN.out _ _ HR.out HB0.out
  | true =>
  obtain ⟨hN1, hN7⟩ := inB_iff.1 HB1.out
  obtain ⟨b2, hb2⟩ : ∃ b, inB F 0 2 = b := ⟨_, rfl⟩
  have HI2 := Lib.hid (HIN.out F 0 2 W0)
  have HB2 := Lib.hid hb2
  rw [hb2] at HI2 HRD
  clear hb2
  cases b2 with
  | false =>
    have HR : Hid (false = R) := Lib.hid (by rw [HRD.out]; simp)
    go_wp2_with fail
    refine HI1.out.mono ?_
    rintro e w1 ⟨rfl, rfl⟩
    go_wp2_with fail
    refine HI2.out.mono ?_
    rintro e w1 ⟨rfl, rfl⟩
    go_wp2_with fail
    go_ret
    exact HFIN.out _ _ HR.out HB0.out
  | true =>
  obtain ⟨hF0, hF2⟩ := inB_iff.1 HB2.out
  by_cases h3 : N ≤ 3 * F
  · have HR : Hid (false = R) := Lib.hid (by rw [HRD.out, decide_eq_false (by omega : ¬ 3 * F < N)]; simp)
    go_wp2_with fail
    refine HI1.out.mono ?_
    rintro e w1 ⟨rfl, rfl⟩
    go_wp2_with fail
    refine HI2.out.mono ?_
    rintro e w1 ⟨rfl, rfl⟩
    go_wp2_with fail
    go_ret
    exact HFIN.out _ _ HR.out HB0.out
  by_cases h4 : F < (n : Int)
  · have HR : Hid (false = R) := Lib.hid (by rw [HRD.out, decide_eq_false (by omega : ¬ (n : Int) ≤ F)]; simp)
    go_wp2_with fail
    refine HI1.out.mono ?_
    rintro e w1 ⟨rfl, rfl⟩
    go_wp2_with fail
    refine HI2.out.mono ?_
    rintro e w1 ⟨rfl, rfl⟩
    go_wp2_with fail
    go_ret
    exact HFIN.out _ _ HR.out HB0.out
  have HRT : Hid (R = allN n (okC N l)) := Lib.hid (by rw [HRD.out, decide_eq_true (by omega : 3 * F < N), decide_eq_true (by omega : (n : Int) ≤ F)]; simp)
  go_wp2_with fail
  refine HI1.out.mono ?_
  rintro e w1 ⟨rfl, rfl⟩
  go_wp2_with fail
  refine HI2.out.mono ?_
  rintro e w1 ⟨rfl, rfl⟩
  go_wp2_with fail
  clear q0 q1 q2
  go_loopw [3] (fun i wr => ∃ k : Nat, k ≤ n ∧ i = .int .i64 k ∧ Hid (Below W0.heap.size W0 wr ∧ ∀ j, j < k → okC N l j = true)) (fun i _ => n - (intOf i).toNat)
  case atStart => exact ⟨0, Nat.zero_le _, rfl, Lib.hid ⟨Below.refl _ _, fun j hj => absurd hj (Nat.not_lt_zero j)⟩⟩
  case round =>
    obtain ⟨k, hk, rfl, hs⟩ := hrel
    have HBR : Hid (Below qb w wr) := Lib.hid (HB0.out.trans (hs.out.1.mono (Nat.le_of_lt HK0.out.lt)))
    have HKR := Lib.hid (HK0.out.below hs.out.1 HK0.out.lt)
    have q0 : wr.cell? ⟨qb, 0, none⟩ = some (.int .i64 N) := HKR.out.cell 0
    have q1 : wr.cell? ⟨qb, 1, none⟩ = some (.int .i64 F) := HKR.out.cell 1
    have q2 : wr.cell? ⟨qb, 2, none⟩ = some (.slice A n c) := HKR.out.cell 2
    have HLR : Hid (IntsAt wr w.heap.size A l) := Lib.hid (Sl.below HL.out (hs.out.1.mono (by rw [HQB.out]; exact Nat.le_of_lt HK0.out.lt)))
    by_cases hlt : k < n
    · have hki : (k : Int) < (n : Int) := by omega
      have h0k : (0 : Int) ≤ (k : Int) := by omega
      obtain ⟨x, hx⟩ : ∃ x, getI l k = x := ⟨_, rfl⟩
      have HOK := Lib.hid (okC_of hs.out.2 hx)
      obtain ⟨bb, off, rfl, _, d0⟩ := Sl.at1 HLR.out (i := k) (by rw [HN.out]; exact hlt)
      try dsimp only at d0
      rw [hx] at d0
      have HIW := Lib.hid (fun w' => HIN.out x 0 (N - 1) w')
      obtain ⟨bx, hbx⟩ : ∃ b, inB x 0 (N - 1) = b := ⟨_, rfl⟩
      rw [hbx] at HIW HOK
      clear hx hbx
      cases bx with
      | false =>
        have HR : Hid (false = R) := Lib.hid (HBAD.out k hlt (by rw [HOK.out]; rfl)).symm
        go_wp2_with fail
        go_quiet ((go_at_call 60; exact (HIW.out _).mono fun e w' h => ⟨h.1, _, h.2.symm⟩))
        go_wp2_with fail
        go_ret
        exact HFIN.out _ _ HR.out (below_drewN HBR.out _)
      | true =>
        by_cases hk0 : k = 0
        · have HNX : Hid (okC N l k = true) := Lib.hid (by rw [HOK.out, decide_eq_true hk0]; rfl)
          have HBR2 : Hid (qb ≤ wr.heap.size) := Lib.hid (Nat.le_of_lt HKR.out.lt)
          have HIW2 : Hid (∀ w1, Calls Try.prog 60 #[.int .i64 x, .int .i64 0, .int .i64 (N - 1)] w1 fun e w' => e = .returned (.bool true) ∧ Below w1.heap.size w1 w') := Lib.hid fun w1 => (HIW.out w1).mono fun e w' h => ⟨h.1, by rw [← h.2]; exact Below.refl _ _⟩
          obtain ⟨kx, hkx⟩ : ∃ kx, kx = k := ⟨_, rfl⟩
          rw [← hkx] at d0 hk0 hki h0k HNX hlt ⊢
          have hkz : ∀ j, j < kx + 1 → okC N l j = true := fun j hj => by
            obtain rfl : j = kx := by omega
            exact HNX.out
          have HKZ := Lib.hid hkz
          have HKZ0 := Lib.hid hk0
          clear hkx hkz hk0
          have hkxn : kx ≤ n := by omega
          have HC4 : Hid (∀ w1, Below wr.heap.size wr w1 → w1.cell? ⟨qb, 2, none⟩ = some (.slice (some ⟨bb, off, none⟩) n c) ∧ w1.cell? ⟨qb, 0, none⟩ = some (.int .i64 N) ∧ w1.cell? ⟨bb, off + kx, none⟩ = some (.int .i64 x)) := Lib.hid fun w1 h1 => by
            have h2 := HKR.out.below h1 HKR.out.lt
            have hbb : bb < wr.heap.size := World.block_lt_of_cell? wr _ d0
            exact ⟨h2.cell 2, h2.cell 0, (h1.cell (p := ⟨bb, off + kx, none⟩) hbb).trans d0⟩
          go_wp2_with fail
          refine wp_region_steps (by kernel_rfl) (by kernel_rfl) (fun w1 => Below wr.heap.size wr w1) (fun _ _ _ => True)
            (fun ix u _ _ => match ix with
              | 0 => u = .pointer (some ⟨qb, 2, none⟩)
              | 1 => u = .slice (some ⟨bb, off, none⟩) n c
              | 2 => u = .int .i64 kx
              | 3 => u = .pointer (some ⟨bb, off + kx, none⟩)
              | 4 => u = .int .i64 x
              | 5 => u = .pointer (some ⟨qb, 0, none⟩)
              | 6 => u = .int .i64 N
              | 7 => u = .int .i64 (N - 1)
              | 8 => u = .bool true
              | 9 => u = .bool false
              | 10 => u = .bool false
              | 11 => u = .int .i64 kx
              | 12 => u = .bool false
              | 13 => u = .bool false
              | 14 => True
              | 15 => True
              | 16 => True
              | 17 => True
              | 18 => True
              | 19 => True
              | 20 => True
              | 21 => True
              | 22 => True
              | 23 => True
              | 24 => True
              | 25 => True
              | 26 => u = .bool false
              | _ => u = .bool false) (Below.refl _ _).drew (fun _ _ _ _ _ _ _ _ h _ _ => h) ?_ ?_
          · refine ⟨?_, ?_, ?_, ?_, ?_, ?_, ?_, ?_, ?_, ?_, ?_, ?_, ?_, ?_, ?_, ?_, ?_, ?_, ?_, ?_, ?_, ?_, ?_, ?_, ?_, ?_, ?_, ?_, trivial⟩
            · intro a w1 vs K HJ HK HD HN kk
              have e1 := HK 1 (by decide)
              go_simp; exact kk _ _ (by simp) HJ trivial rfl
            · intro a w1 vs K HJ HK HD HN kk
              have e37 := (HD 0 _ 37 rfl rfl rfl).1.trans (HD 0 _ 37 rfl rfl rfl).2
              have ca := (HC4.out w1 HJ).1
              go_simp; exact kk _ _ (by simp) HJ trivial rfl
            · intro a w1 vs K HJ HK HD HN kk
              have e3 := HK 3 (by decide)
              go_simp; exact kk _ _ (by simp) HJ trivial rfl
            · intro a w1 vs K HJ HK HD HN kk
              have e38 := (HD 1 _ 38 rfl rfl rfl).1.trans (HD 1 _ 38 rfl rfl rfl).2
              have e39 := (HD 2 _ 39 rfl rfl rfl).1.trans (HD 2 _ 39 rfl rfl rfl).2
              go_simp; exact kk _ _ (by simp) HJ trivial rfl
            · intro a w1 vs K HJ HK HD HN kk
              have e40 := (HD 3 _ 40 rfl rfl rfl).1.trans (HD 3 _ 40 rfl rfl rfl).2
              have ca := (HC4.out w1 HJ).2.2
              go_simp; exact kk _ _ (by simp) HJ trivial rfl
            · intro a w1 vs K HJ HK HD HN kk
              have e1 := HK 1 (by decide)
              go_simp; exact kk _ _ (by simp) HJ trivial rfl
            · intro a w1 vs K HJ HK HD HN kk
              have e42 := (HD 5 _ 42 rfl rfl rfl).1.trans (HD 5 _ 42 rfl rfl rfl).2
              have ca := (HC4.out w1 HJ).2.1
              go_simp; exact kk _ _ (by simp) HJ trivial rfl
            · intro a w1 vs K HJ HK HD HN kk
              have e43 := (HD 6 _ 43 rfl rfl rfl).1.trans (HD 6 _ 43 rfl rfl rfl).2
              have hws : IntKind.i64.wrap (N - 1) = N - 1 := IntWalk.i64_in _ (by omega)
              go_simp; exact kk _ _ (by simp) HJ trivial (by first | rfl | (show Value.int _ _ = Value.int _ _; rw [hws]))
            · intro a w1 vs K HJ HK HD HN kk
              have e41 := (HD 4 _ 41 rfl rfl rfl).1.trans (HD 4 _ 41 rfl rfl rfl).2
              have e44 := (HD 7 _ 44 rfl rfl rfl).1.trans (HD 7 _ 44 rfl rfl rfl).2
              exact wpo_call 60 _ _ rfl #[.int .i64 x, .int .i64 0, .int .i64 (N - 1)] (by simp [Act.eval, e41, e44]) (fun args w => by kernel_rfl)
                ((HIW2.out w1).mono fun e w' ⟨he, hb⟩ => ⟨_, he, kk _ _ (by simp) (Below.trans HJ (hb.mono HJ.size)) trivial rfl⟩)
            · intro a w1 vs K HJ HK HD HN kk
              have e45 := (HD 8 _ 45 rfl rfl rfl).1.trans (HD 8 _ 45 rfl rfl rfl).2
              go_simp; exact kk _ _ (by simp) HJ trivial rfl
            · intro a w1 vs K HJ HK HD HN kk
              have e46 := (HD 9 _ 46 rfl rfl rfl).1.trans (HD 9 _ 46 rfl rfl rfl).2
              go_simp; exact kk _ _ (by simp) HJ trivial rfl
            · intro a w1 vs K HJ HK HD HN kk
              have e47 := (HD 10 _ 47 rfl rfl rfl).1.trans (HD 10 _ 47 rfl rfl rfl).2
              rw [if_pos (wanted_yes 10 false rfl rfl rfl e47)]
              have e3 := HK 3 (by decide)
              go_simp; exact kk _ _ (by simp) HJ trivial rfl
            · intro a w1 vs K HJ HK HD HN kk
              have e47 := (HD 10 _ 47 rfl rfl rfl).1.trans (HD 10 _ 47 rfl rfl rfl).2
              rw [if_pos (wanted_yes 10 false rfl rfl rfl e47)]
              have e48 := (HD 11 _ 48 rfl rfl rfl).1.trans (HD 11 _ 48 rfl rfl rfl).2
              have hkp2 : decide (0 < kx) = false := decide_eq_false (by have := HKZ0.out; omega)
              go_simp; exact kk _ _ (by simp) HJ trivial rfl
            · intro a w1 vs K HJ HK HD HN kk
              have e47 := (HD 10 _ 47 rfl rfl rfl).1.trans (HD 10 _ 47 rfl rfl rfl).2
              rw [if_pos (wanted_yes 10 false rfl rfl rfl e47)]
              have e49 := (HD 12 _ 49 rfl rfl rfl).1.trans (HD 12 _ 49 rfl rfl rfl).2
              go_simp; exact kk _ _ (by simp) HJ trivial rfl
            · intro a w1 vs K HJ HK HD HN kk
              have e50 := (HD 13 _ 50 rfl rfl rfl).1.trans (HD 13 _ 50 rfl rfl rfl).2
              rw [if_neg (wanted_no 13 true rfl rfl rfl e50)]
              exact kk undef _ (by simp) HJ trivial trivial
            · intro a w1 vs K HJ HK HD HN kk
              have e50 := (HD 13 _ 50 rfl rfl rfl).1.trans (HD 13 _ 50 rfl rfl rfl).2
              rw [if_neg (wanted_no 13 true rfl rfl rfl e50)]
              exact kk undef _ (by simp) HJ trivial trivial
            · intro a w1 vs K HJ HK HD HN kk
              have e50 := (HD 13 _ 50 rfl rfl rfl).1.trans (HD 13 _ 50 rfl rfl rfl).2
              rw [if_neg (wanted_no 13 true rfl rfl rfl e50)]
              exact kk undef _ (by simp) HJ trivial trivial
            · intro a w1 vs K HJ HK HD HN kk
              have e50 := (HD 13 _ 50 rfl rfl rfl).1.trans (HD 13 _ 50 rfl rfl rfl).2
              rw [if_neg (wanted_no 13 true rfl rfl rfl e50)]
              exact kk undef _ (by simp) HJ trivial trivial
            · intro a w1 vs K HJ HK HD HN kk
              have e50 := (HD 13 _ 50 rfl rfl rfl).1.trans (HD 13 _ 50 rfl rfl rfl).2
              rw [if_neg (wanted_no 13 true rfl rfl rfl e50)]
              exact kk undef _ (by simp) HJ trivial trivial
            · intro a w1 vs K HJ HK HD HN kk
              have e50 := (HD 13 _ 50 rfl rfl rfl).1.trans (HD 13 _ 50 rfl rfl rfl).2
              rw [if_neg (wanted_no 13 true rfl rfl rfl e50)]
              exact kk undef _ (by simp) HJ trivial trivial
            · intro a w1 vs K HJ HK HD HN kk
              have e50 := (HD 13 _ 50 rfl rfl rfl).1.trans (HD 13 _ 50 rfl rfl rfl).2
              rw [if_neg (wanted_no 13 true rfl rfl rfl e50)]
              exact kk undef _ (by simp) HJ trivial trivial
            · intro a w1 vs K HJ HK HD HN kk
              have e50 := (HD 13 _ 50 rfl rfl rfl).1.trans (HD 13 _ 50 rfl rfl rfl).2
              rw [if_neg (wanted_no 13 true rfl rfl rfl e50)]
              exact kk undef _ (by simp) HJ trivial trivial
            · intro a w1 vs K HJ HK HD HN kk
              have e50 := (HD 13 _ 50 rfl rfl rfl).1.trans (HD 13 _ 50 rfl rfl rfl).2
              rw [if_neg (wanted_no 13 true rfl rfl rfl e50)]
              exact kk undef _ (by simp) HJ trivial trivial
            · intro a w1 vs K HJ HK HD HN kk
              have e50 := (HD 13 _ 50 rfl rfl rfl).1.trans (HD 13 _ 50 rfl rfl rfl).2
              rw [if_neg (wanted_no 13 true rfl rfl rfl e50)]
              exact kk undef _ (by simp) HJ trivial trivial
            · intro a w1 vs K HJ HK HD HN kk
              have e50 := (HD 13 _ 50 rfl rfl rfl).1.trans (HD 13 _ 50 rfl rfl rfl).2
              rw [if_neg (wanted_no 13 true rfl rfl rfl e50)]
              exact kk undef _ (by simp) HJ trivial trivial
            · intro a w1 vs K HJ HK HD HN kk
              have e50 := (HD 13 _ 50 rfl rfl rfl).1.trans (HD 13 _ 50 rfl rfl rfl).2
              rw [if_neg (wanted_no 13 true rfl rfl rfl e50)]
              exact kk undef _ (by simp) HJ trivial trivial
            · intro a w1 vs K HJ HK HD HN kk
              have e47 := (HD 10 _ 47 rfl rfl rfl).1.trans (HD 10 _ 47 rfl rfl rfl).2
              rw [if_pos (wanted_yes 10 false rfl rfl rfl e47)]
              have e50 := (HD 13 _ 50 rfl rfl rfl).1.trans (HD 13 _ 50 rfl rfl rfl).2
              go_simp; exact kk _ _ (by simp) HJ trivial rfl
            · intro a w1 vs K HJ HK HD HN kk
              have e47 := (HD 10 _ 47 rfl rfl rfl).1.trans (HD 10 _ 47 rfl rfl rfl).2
              have e63 := (HD 26 _ 63 rfl rfl rfl).1.trans (HD 26 _ 63 rfl rfl rfl).2
              go_simp; exact kk _ _ (by simp) HJ trivial rfl
          · intro vs w6 hw6 hrr
            have e27 : vs 27 = .bool false := hrr 27 _ rfl
            have HB6 := Lib.hid hw6
            clear hrr hw6
            simp only [putAll, Act.put, List.setIfInBounds_toArray, List.set_cons_zero, List.set_cons_succ]
            rw [e27]
            go_wp2_with fail
            go_roundw
            case rel => exact ⟨kx + 1, by omega, by go_num, Lib.hid ⟨hs.out.1.trans (HB6.out.mono hs.out.1.size), HKZ.out⟩⟩
            case measure => simp [intOf]; omega
        · obtain ⟨m, rfl⟩ : ∃ m, k = m + 1 := ⟨k - 1, by omega⟩
          obtain ⟨y, hy⟩ : ∃ y, getI l m = y := ⟨_, rfl⟩
          have HLA : Hid (lastC l (m + 1) = y) := Lib.hid hy
          have hkp : decide ((0 : Int) < ((m + 1 : Nat) : Int)) = true := decide_eq_true (by omega)
          have hk1 : ((m + 1 : Nat) : Int) - 1 = (m : Int) := by omega
          have hm0 : (0 : Int) ≤ (m : Int) := by omega
          have hmn : (m : Int) < (n : Int) := by omega
          obtain ⟨bb', off', hA, _, d1⟩ := Sl.at1 HLR.out (i := m) (by rw [HN.out]; omega)
          injection hA with hA
          injection hA with ha hb _
          subst ha hb
          try dsimp only at d1
          rw [hy] at d1
          obtain ⟨kx, hkx⟩ : ∃ kx, m + 1 = kx := ⟨_, rfl⟩
          rw [HLA.out, decide_eq_false (by omega : ¬ m + 1 = 0), Bool.false_or] at HOK
          have HMK := Lib.hid hkx
          rw [hkx] at d0 hki h0k hkp hk1 HOK hlt ⊢
          clear hy hk0
          have hkxn : kx ≤ n := by omega
          have HBR2 : Hid (qb ≤ wr.heap.size) := Lib.hid (Nat.le_of_lt HKR.out.lt)
          have HIW2 : Hid (∀ w1, Calls Try.prog 60 #[.int .i64 x, .int .i64 0, .int .i64 (N - 1)] w1 fun e w' => e = .returned (.bool true) ∧ Below w1.heap.size w1 w') := Lib.hid fun w1 => (HIW.out w1).mono fun e w' h => ⟨h.1, by rw [← h.2]; exact Below.refl _ _⟩
          have HC4 : Hid (∀ w1, Below wr.heap.size wr w1 → w1.cell? ⟨qb, 2, none⟩ = some (.slice (some ⟨bb, off, none⟩) n c) ∧ w1.cell? ⟨qb, 0, none⟩ = some (.int .i64 N) ∧ w1.cell? ⟨bb, off + kx, none⟩ = some (.int .i64 x) ∧ w1.cell? ⟨bb, off + m, none⟩ = some (.int .i64 y)) := Lib.hid fun w1 h1 => by
            have h2 := HKR.out.below h1 HKR.out.lt
            have hbb : bb < wr.heap.size := World.block_lt_of_cell? wr _ d0
            exact ⟨h2.cell 2, h2.cell 0, (h1.cell (p := ⟨bb, off + kx, none⟩) hbb).trans d0, (h1.cell (p := ⟨bb, off + m, none⟩) hbb).trans d1⟩
          by_cases hle : x ≤ y
          · have HDL : Hid (decide (x ≤ y) = true) := Lib.hid (decide_eq_true hle)
            have HR : Hid (false = R) := Lib.hid (HBAD.out kx hlt (by rw [HOK.out, decide_eq_false (by omega)]; rfl)).symm
            clear hkx
            go_wp2_with fail
            refine wp_region_steps (by kernel_rfl) (by kernel_rfl) (fun w1 => Below wr.heap.size wr w1) (fun _ _ _ => True)
              (fun ix u _ _ => match ix with
                | 0 => u = .pointer (some ⟨qb, 2, none⟩)
                | 1 => u = .slice (some ⟨bb, off, none⟩) n c
                | 2 => u = .int .i64 kx
                | 3 => u = .pointer (some ⟨bb, off + kx, none⟩)
                | 4 => u = .int .i64 x
                | 5 => u = .pointer (some ⟨qb, 0, none⟩)
                | 6 => u = .int .i64 N
                | 7 => u = .int .i64 (N - 1)
                | 8 => u = .bool true
                | 9 => u = .bool false
                | 10 => u = .bool false
                | 11 => u = .int .i64 kx
                | 12 => u = .bool true
                | 13 => u = .bool true
                | 14 => u = .pointer (some ⟨qb, 2, none⟩)
                | 15 => u = .slice (some ⟨bb, off, none⟩) n c
                | 16 => u = .int .i64 kx
                | 17 => u = .pointer (some ⟨bb, off + kx, none⟩)
                | 18 => u = .int .i64 x
                | 19 => u = .pointer (some ⟨qb, 2, none⟩)
                | 20 => u = .slice (some ⟨bb, off, none⟩) n c
                | 21 => u = .int .i64 kx
                | 22 => u = .int .i64 m
                | 23 => u = .pointer (some ⟨bb, off + m, none⟩)
                | 24 => u = .int .i64 y
                | 25 => u = .bool true
                | 26 => u = .bool true
                | _ => u = .bool true) (Below.refl _ _).drew (fun _ _ _ _ _ _ _ _ h _ _ => h) ?_ ?_
            · refine ⟨?_, ?_, ?_, ?_, ?_, ?_, ?_, ?_, ?_, ?_, ?_, ?_, ?_, ?_, ?_, ?_, ?_, ?_, ?_, ?_, ?_, ?_, ?_, ?_, ?_, ?_, ?_, ?_, trivial⟩
              · intro a w1 vs K HJ HK HD HN kk
                have e1 := HK 1 (by decide)
                go_simp; exact kk _ _ (by simp) HJ trivial rfl
              · intro a w1 vs K HJ HK HD HN kk
                have e37 := (HD 0 _ 37 rfl rfl rfl).1.trans (HD 0 _ 37 rfl rfl rfl).2
                have ca := (HC4.out w1 HJ).1
                go_simp; exact kk _ _ (by simp) HJ trivial rfl
              · intro a w1 vs K HJ HK HD HN kk
                have e3 := HK 3 (by decide)
                go_simp; exact kk _ _ (by simp) HJ trivial rfl
              · intro a w1 vs K HJ HK HD HN kk
                have e38 := (HD 1 _ 38 rfl rfl rfl).1.trans (HD 1 _ 38 rfl rfl rfl).2
                have e39 := (HD 2 _ 39 rfl rfl rfl).1.trans (HD 2 _ 39 rfl rfl rfl).2
                go_simp; exact kk _ _ (by simp) HJ trivial rfl
              · intro a w1 vs K HJ HK HD HN kk
                have e40 := (HD 3 _ 40 rfl rfl rfl).1.trans (HD 3 _ 40 rfl rfl rfl).2
                have ca := (HC4.out w1 HJ).2.2.1
                go_simp; exact kk _ _ (by simp) HJ trivial rfl
              · intro a w1 vs K HJ HK HD HN kk
                have e1 := HK 1 (by decide)
                go_simp; exact kk _ _ (by simp) HJ trivial rfl
              · intro a w1 vs K HJ HK HD HN kk
                have e42 := (HD 5 _ 42 rfl rfl rfl).1.trans (HD 5 _ 42 rfl rfl rfl).2
                have ca := (HC4.out w1 HJ).2.1
                go_simp; exact kk _ _ (by simp) HJ trivial rfl
              · intro a w1 vs K HJ HK HD HN kk
                have e43 := (HD 6 _ 43 rfl rfl rfl).1.trans (HD 6 _ 43 rfl rfl rfl).2
                have hws : IntKind.i64.wrap (N - 1) = N - 1 := IntWalk.i64_in _ (by omega)
                go_simp; exact kk _ _ (by simp) HJ trivial (by first | rfl | (show Value.int _ _ = Value.int _ _; rw [hws]))
              · intro a w1 vs K HJ HK HD HN kk
                have e41 := (HD 4 _ 41 rfl rfl rfl).1.trans (HD 4 _ 41 rfl rfl rfl).2
                have e44 := (HD 7 _ 44 rfl rfl rfl).1.trans (HD 7 _ 44 rfl rfl rfl).2
                exact wpo_call 60 _ _ rfl #[.int .i64 x, .int .i64 0, .int .i64 (N - 1)] (by simp [Act.eval, e41, e44]) (fun args w => by kernel_rfl)
                  ((HIW2.out w1).mono fun e w' ⟨he, hb⟩ => ⟨_, he, kk _ _ (by simp) (Below.trans HJ (hb.mono HJ.size)) trivial rfl⟩)
              · intro a w1 vs K HJ HK HD HN kk
                have e45 := (HD 8 _ 45 rfl rfl rfl).1.trans (HD 8 _ 45 rfl rfl rfl).2
                go_simp; exact kk _ _ (by simp) HJ trivial rfl
              · intro a w1 vs K HJ HK HD HN kk
                have e46 := (HD 9 _ 46 rfl rfl rfl).1.trans (HD 9 _ 46 rfl rfl rfl).2
                go_simp; exact kk _ _ (by simp) HJ trivial rfl
              · intro a w1 vs K HJ HK HD HN kk
                have e47 := (HD 10 _ 47 rfl rfl rfl).1.trans (HD 10 _ 47 rfl rfl rfl).2
                rw [if_pos (wanted_yes 10 false rfl rfl rfl e47)]
                have e3 := HK 3 (by decide)
                go_simp; exact kk _ _ (by simp) HJ trivial rfl
              · intro a w1 vs K HJ HK HD HN kk
                have e47 := (HD 10 _ 47 rfl rfl rfl).1.trans (HD 10 _ 47 rfl rfl rfl).2
                rw [if_pos (wanted_yes 10 false rfl rfl rfl e47)]
                have e48 := (HD 11 _ 48 rfl rfl rfl).1.trans (HD 11 _ 48 rfl rfl rfl).2
                have hkp2 : decide (0 < kx) = true := decide_eq_true (by omega)
                go_simp; exact kk _ _ (by simp) HJ trivial rfl
              · intro a w1 vs K HJ HK HD HN kk
                have e47 := (HD 10 _ 47 rfl rfl rfl).1.trans (HD 10 _ 47 rfl rfl rfl).2
                rw [if_pos (wanted_yes 10 false rfl rfl rfl e47)]
                have e49 := (HD 12 _ 49 rfl rfl rfl).1.trans (HD 12 _ 49 rfl rfl rfl).2
                go_simp; exact kk _ _ (by simp) HJ trivial rfl
              · intro a w1 vs K HJ HK HD HN kk
                have e50 := (HD 13 _ 50 rfl rfl rfl).1.trans (HD 13 _ 50 rfl rfl rfl).2
                rw [if_pos (wanted_yes 13 true rfl rfl rfl e50)]
                have e1 := HK 1 (by decide)
                go_simp; exact kk _ _ (by simp) HJ trivial rfl
              · intro a w1 vs K HJ HK HD HN kk
                have e50 := (HD 13 _ 50 rfl rfl rfl).1.trans (HD 13 _ 50 rfl rfl rfl).2
                rw [if_pos (wanted_yes 13 true rfl rfl rfl e50)]
                have e51 := (HD 14 _ 51 rfl rfl rfl).1.trans (HD 14 _ 51 rfl rfl rfl).2
                have ca := (HC4.out w1 HJ).1
                go_simp; exact kk _ _ (by simp) HJ trivial rfl
              · intro a w1 vs K HJ HK HD HN kk
                have e50 := (HD 13 _ 50 rfl rfl rfl).1.trans (HD 13 _ 50 rfl rfl rfl).2
                rw [if_pos (wanted_yes 13 true rfl rfl rfl e50)]
                have e3 := HK 3 (by decide)
                go_simp; exact kk _ _ (by simp) HJ trivial rfl
              · intro a w1 vs K HJ HK HD HN kk
                have e50 := (HD 13 _ 50 rfl rfl rfl).1.trans (HD 13 _ 50 rfl rfl rfl).2
                rw [if_pos (wanted_yes 13 true rfl rfl rfl e50)]
                have e52 := (HD 15 _ 52 rfl rfl rfl).1.trans (HD 15 _ 52 rfl rfl rfl).2
                have e53 := (HD 16 _ 53 rfl rfl rfl).1.trans (HD 16 _ 53 rfl rfl rfl).2
                go_simp; exact kk _ _ (by simp) HJ trivial rfl
              · intro a w1 vs K HJ HK HD HN kk
                have e50 := (HD 13 _ 50 rfl rfl rfl).1.trans (HD 13 _ 50 rfl rfl rfl).2
                rw [if_pos (wanted_yes 13 true rfl rfl rfl e50)]
                have e54 := (HD 17 _ 54 rfl rfl rfl).1.trans (HD 17 _ 54 rfl rfl rfl).2
                have ca := (HC4.out w1 HJ).2.2.1
                go_simp; exact kk _ _ (by simp) HJ trivial rfl
              · intro a w1 vs K HJ HK HD HN kk
                have e50 := (HD 13 _ 50 rfl rfl rfl).1.trans (HD 13 _ 50 rfl rfl rfl).2
                rw [if_pos (wanted_yes 13 true rfl rfl rfl e50)]
                have e1 := HK 1 (by decide)
                go_simp; exact kk _ _ (by simp) HJ trivial rfl
              · intro a w1 vs K HJ HK HD HN kk
                have e50 := (HD 13 _ 50 rfl rfl rfl).1.trans (HD 13 _ 50 rfl rfl rfl).2
                rw [if_pos (wanted_yes 13 true rfl rfl rfl e50)]
                have e56 := (HD 19 _ 56 rfl rfl rfl).1.trans (HD 19 _ 56 rfl rfl rfl).2
                have ca := (HC4.out w1 HJ).1
                go_simp; exact kk _ _ (by simp) HJ trivial rfl
              · intro a w1 vs K HJ HK HD HN kk
                have e50 := (HD 13 _ 50 rfl rfl rfl).1.trans (HD 13 _ 50 rfl rfl rfl).2
                rw [if_pos (wanted_yes 13 true rfl rfl rfl e50)]
                have e3 := HK 3 (by decide)
                go_simp; exact kk _ _ (by simp) HJ trivial rfl
              · intro a w1 vs K HJ HK HD HN kk
                have e50 := (HD 13 _ 50 rfl rfl rfl).1.trans (HD 13 _ 50 rfl rfl rfl).2
                rw [if_pos (wanted_yes 13 true rfl rfl rfl e50)]
                have e58 := (HD 21 _ 58 rfl rfl rfl).1.trans (HD 21 _ 58 rfl rfl rfl).2
                have hws : IntKind.i64.wrap (m : Int) = (m : Int) := IntWalk.i64_in _ (by omega)
                go_simp; exact kk _ _ (by simp) HJ trivial (by first | rfl | (show Value.int _ _ = Value.int _ _; rw [hws]))
              · intro a w1 vs K HJ HK HD HN kk
                have e50 := (HD 13 _ 50 rfl rfl rfl).1.trans (HD 13 _ 50 rfl rfl rfl).2
                rw [if_pos (wanted_yes 13 true rfl rfl rfl e50)]
                have e57 := (HD 20 _ 57 rfl rfl rfl).1.trans (HD 20 _ 57 rfl rfl rfl).2
                have e59 := (HD 22 _ 59 rfl rfl rfl).1.trans (HD 22 _ 59 rfl rfl rfl).2
                go_simp; exact kk _ _ (by simp) HJ trivial rfl
              · intro a w1 vs K HJ HK HD HN kk
                have e50 := (HD 13 _ 50 rfl rfl rfl).1.trans (HD 13 _ 50 rfl rfl rfl).2
                rw [if_pos (wanted_yes 13 true rfl rfl rfl e50)]
                have e60 := (HD 23 _ 60 rfl rfl rfl).1.trans (HD 23 _ 60 rfl rfl rfl).2
                have ca := (HC4.out w1 HJ).2.2.2
                go_simp; exact kk _ _ (by simp) HJ trivial rfl
              · intro a w1 vs K HJ HK HD HN kk
                have e50 := (HD 13 _ 50 rfl rfl rfl).1.trans (HD 13 _ 50 rfl rfl rfl).2
                rw [if_pos (wanted_yes 13 true rfl rfl rfl e50)]
                have e55 := (HD 18 _ 55 rfl rfl rfl).1.trans (HD 18 _ 55 rfl rfl rfl).2
                have e61 := (HD 24 _ 61 rfl rfl rfl).1.trans (HD 24 _ 61 rfl rfl rfl).2
                have hdl := HDL.out
                go_simp; exact kk _ _ (by simp) HJ trivial rfl
              · intro a w1 vs K HJ HK HD HN kk
                have e47 := (HD 10 _ 47 rfl rfl rfl).1.trans (HD 10 _ 47 rfl rfl rfl).2
                rw [if_pos (wanted_yes 10 false rfl rfl rfl e47)]
                have e50 := (HD 13 _ 50 rfl rfl rfl).1.trans (HD 13 _ 50 rfl rfl rfl).2
                have e62 := (HD 25 _ 62 rfl rfl rfl).1.trans (HD 25 _ 62 rfl rfl rfl).2
                go_simp; exact kk _ _ (by simp) HJ trivial rfl
              · intro a w1 vs K HJ HK HD HN kk
                have e47 := (HD 10 _ 47 rfl rfl rfl).1.trans (HD 10 _ 47 rfl rfl rfl).2
                have e63 := (HD 26 _ 63 rfl rfl rfl).1.trans (HD 26 _ 63 rfl rfl rfl).2
                go_simp; exact kk _ _ (by simp) HJ trivial rfl
            · intro vs w6 hw6 hrr
              have e27 : vs 27 = .bool true := hrr 27 _ rfl
              have HB6 := Lib.hid hw6
              clear hrr hw6
              simp only [putAll, Act.put, List.setIfInBounds_toArray, List.set_cons_zero, List.set_cons_succ]
              rw [e27]
              go_wp2_with fail
              go_ret
              exact HFIN.out _ _ HR.out (HBR.out.trans (HB6.out.mono HBR2.out))
          · have HDL : Hid (decide (x ≤ y) = false) := Lib.hid (decide_eq_false hle)
            have HNX : Hid (okC N l kx = true) := Lib.hid (by rw [HOK.out, decide_eq_true (by omega)]; rfl)
            clear hkx
            go_wp2_with fail
            refine wp_region_steps (by kernel_rfl) (by kernel_rfl) (fun w1 => Below wr.heap.size wr w1) (fun _ _ _ => True)
              (fun ix u _ _ => match ix with
                | 0 => u = .pointer (some ⟨qb, 2, none⟩)
                | 1 => u = .slice (some ⟨bb, off, none⟩) n c
                | 2 => u = .int .i64 kx
                | 3 => u = .pointer (some ⟨bb, off + kx, none⟩)
                | 4 => u = .int .i64 x
                | 5 => u = .pointer (some ⟨qb, 0, none⟩)
                | 6 => u = .int .i64 N
                | 7 => u = .int .i64 (N - 1)
                | 8 => u = .bool true
                | 9 => u = .bool false
                | 10 => u = .bool false
                | 11 => u = .int .i64 kx
                | 12 => u = .bool true
                | 13 => u = .bool true
                | 14 => u = .pointer (some ⟨qb, 2, none⟩)
                | 15 => u = .slice (some ⟨bb, off, none⟩) n c
                | 16 => u = .int .i64 kx
                | 17 => u = .pointer (some ⟨bb, off + kx, none⟩)
                | 18 => u = .int .i64 x
                | 19 => u = .pointer (some ⟨qb, 2, none⟩)
                | 20 => u = .slice (some ⟨bb, off, none⟩) n c
                | 21 => u = .int .i64 kx
                | 22 => u = .int .i64 m
                | 23 => u = .pointer (some ⟨bb, off + m, none⟩)
                | 24 => u = .int .i64 y
                | 25 => u = .bool false
                | 26 => u = .bool false
                | _ => u = .bool false) (Below.refl _ _).drew (fun _ _ _ _ _ _ _ _ h _ _ => h) ?_ ?_
            · refine ⟨?_, ?_, ?_, ?_, ?_, ?_, ?_, ?_, ?_, ?_, ?_, ?_, ?_, ?_, ?_, ?_, ?_, ?_, ?_, ?_, ?_, ?_, ?_, ?_, ?_, ?_, ?_, ?_, trivial⟩
              · intro a w1 vs K HJ HK HD HN kk
                have e1 := HK 1 (by decide)
                go_simp; exact kk _ _ (by simp) HJ trivial rfl
              · intro a w1 vs K HJ HK HD HN kk
                have e37 := (HD 0 _ 37 rfl rfl rfl).1.trans (HD 0 _ 37 rfl rfl rfl).2
                have ca := (HC4.out w1 HJ).1
                go_simp; exact kk _ _ (by simp) HJ trivial rfl
              · intro a w1 vs K HJ HK HD HN kk
                have e3 := HK 3 (by decide)
                go_simp; exact kk _ _ (by simp) HJ trivial rfl
              · intro a w1 vs K HJ HK HD HN kk
                have e38 := (HD 1 _ 38 rfl rfl rfl).1.trans (HD 1 _ 38 rfl rfl rfl).2
                have e39 := (HD 2 _ 39 rfl rfl rfl).1.trans (HD 2 _ 39 rfl rfl rfl).2
                go_simp; exact kk _ _ (by simp) HJ trivial rfl
              · intro a w1 vs K HJ HK HD HN kk
                have e40 := (HD 3 _ 40 rfl rfl rfl).1.trans (HD 3 _ 40 rfl rfl rfl).2
                have ca := (HC4.out w1 HJ).2.2.1
                go_simp; exact kk _ _ (by simp) HJ trivial rfl
              · intro a w1 vs K HJ HK HD HN kk
                have e1 := HK 1 (by decide)
                go_simp; exact kk _ _ (by simp) HJ trivial rfl
              · intro a w1 vs K HJ HK HD HN kk
                have e42 := (HD 5 _ 42 rfl rfl rfl).1.trans (HD 5 _ 42 rfl rfl rfl).2
                have ca := (HC4.out w1 HJ).2.1
                go_simp; exact kk _ _ (by simp) HJ trivial rfl
              · intro a w1 vs K HJ HK HD HN kk
                have e43 := (HD 6 _ 43 rfl rfl rfl).1.trans (HD 6 _ 43 rfl rfl rfl).2
                have hws : IntKind.i64.wrap (N - 1) = N - 1 := IntWalk.i64_in _ (by omega)
                go_simp; exact kk _ _ (by simp) HJ trivial (by first | rfl | (show Value.int _ _ = Value.int _ _; rw [hws]))
              · intro a w1 vs K HJ HK HD HN kk
                have e41 := (HD 4 _ 41 rfl rfl rfl).1.trans (HD 4 _ 41 rfl rfl rfl).2
                have e44 := (HD 7 _ 44 rfl rfl rfl).1.trans (HD 7 _ 44 rfl rfl rfl).2
                exact wpo_call 60 _ _ rfl #[.int .i64 x, .int .i64 0, .int .i64 (N - 1)] (by simp [Act.eval, e41, e44]) (fun args w => by kernel_rfl)
                  ((HIW2.out w1).mono fun e w' ⟨he, hb⟩ => ⟨_, he, kk _ _ (by simp) (Below.trans HJ (hb.mono HJ.size)) trivial rfl⟩)
              · intro a w1 vs K HJ HK HD HN kk
                have e45 := (HD 8 _ 45 rfl rfl rfl).1.trans (HD 8 _ 45 rfl rfl rfl).2
                go_simp; exact kk _ _ (by simp) HJ trivial rfl
              · intro a w1 vs K HJ HK HD HN kk
                have e46 := (HD 9 _ 46 rfl rfl rfl).1.trans (HD 9 _ 46 rfl rfl rfl).2
                go_simp; exact kk _ _ (by simp) HJ trivial rfl
              · intro a w1 vs K HJ HK HD HN kk
                have e47 := (HD 10 _ 47 rfl rfl rfl).1.trans (HD 10 _ 47 rfl rfl rfl).2
                rw [if_pos (wanted_yes 10 false rfl rfl rfl e47)]
                have e3 := HK 3 (by decide)
                go_simp; exact kk _ _ (by simp) HJ trivial rfl
              · intro a w1 vs K HJ HK HD HN kk
                have e47 := (HD 10 _ 47 rfl rfl rfl).1.trans (HD 10 _ 47 rfl rfl rfl).2
                rw [if_pos (wanted_yes 10 false rfl rfl rfl e47)]
                have e48 := (HD 11 _ 48 rfl rfl rfl).1.trans (HD 11 _ 48 rfl rfl rfl).2
                have hkp2 : decide (0 < kx) = true := decide_eq_true (by omega)
                go_simp; exact kk _ _ (by simp) HJ trivial rfl
              · intro a w1 vs K HJ HK HD HN kk
                have e47 := (HD 10 _ 47 rfl rfl rfl).1.trans (HD 10 _ 47 rfl rfl rfl).2
                rw [if_pos (wanted_yes 10 false rfl rfl rfl e47)]
                have e49 := (HD 12 _ 49 rfl rfl rfl).1.trans (HD 12 _ 49 rfl rfl rfl).2
                go_simp; exact kk _ _ (by simp) HJ trivial rfl
              · intro a w1 vs K HJ HK HD HN kk
                have e50 := (HD 13 _ 50 rfl rfl rfl).1.trans (HD 13 _ 50 rfl rfl rfl).2
                rw [if_pos (wanted_yes 13 true rfl rfl rfl e50)]
                have e1 := HK 1 (by decide)
                go_simp; exact kk _ _ (by simp) HJ trivial rfl
              · intro a w1 vs K HJ HK HD HN kk
                have e50 := (HD 13 _ 50 rfl rfl rfl).1.trans (HD 13 _ 50 rfl rfl rfl).2
                rw [if_pos (wanted_yes 13 true rfl rfl rfl e50)]
                have e51 := (HD 14 _ 51 rfl rfl rfl).1.trans (HD 14 _ 51 rfl rfl rfl).2
                have ca := (HC4.out w1 HJ).1
                go_simp; exact kk _ _ (by simp) HJ trivial rfl
              · intro a w1 vs K HJ HK HD HN kk
                have e50 := (HD 13 _ 50 rfl rfl rfl).1.trans (HD 13 _ 50 rfl rfl rfl).2
                rw [if_pos (wanted_yes 13 true rfl rfl rfl e50)]
                have e3 := HK 3 (by decide)
                go_simp; exact kk _ _ (by simp) HJ trivial rfl
              · intro a w1 vs K HJ HK HD HN kk
                have e50 := (HD 13 _ 50 rfl rfl rfl).1.trans (HD 13 _ 50 rfl rfl rfl).2
                rw [if_pos (wanted_yes 13 true rfl rfl rfl e50)]
                have e52 := (HD 15 _ 52 rfl rfl rfl).1.trans (HD 15 _ 52 rfl rfl rfl).2
                have e53 := (HD 16 _ 53 rfl rfl rfl).1.trans (HD 16 _ 53 rfl rfl rfl).2
                go_simp; exact kk _ _ (by simp) HJ trivial rfl
              · intro a w1 vs K HJ HK HD HN kk
                have e50 := (HD 13 _ 50 rfl rfl rfl).1.trans (HD 13 _ 50 rfl rfl rfl).2
                rw [if_pos (wanted_yes 13 true rfl rfl rfl e50)]
                have e54 := (HD 17 _ 54 rfl rfl rfl).1.trans (HD 17 _ 54 rfl rfl rfl).2
                have ca := (HC4.out w1 HJ).2.2.1
                go_simp; exact kk _ _ (by simp) HJ trivial rfl
              · intro a w1 vs K HJ HK HD HN kk
                have e50 := (HD 13 _ 50 rfl rfl rfl).1.trans (HD 13 _ 50 rfl rfl rfl).2
                rw [if_pos (wanted_yes 13 true rfl rfl rfl e50)]
                have e1 := HK 1 (by decide)
                go_simp; exact kk _ _ (by simp) HJ trivial rfl
              · intro a w1 vs K HJ HK HD HN kk
                have e50 := (HD 13 _ 50 rfl rfl rfl).1.trans (HD 13 _ 50 rfl rfl rfl).2
                rw [if_pos (wanted_yes 13 true rfl rfl rfl e50)]
                have e56 := (HD 19 _ 56 rfl rfl rfl).1.trans (HD 19 _ 56 rfl rfl rfl).2
                have ca := (HC4.out w1 HJ).1
                go_simp; exact kk _ _ (by simp) HJ trivial rfl
              · intro a w1 vs K HJ HK HD HN kk
                have e50 := (HD 13 _ 50 rfl rfl rfl).1.trans (HD 13 _ 50 rfl rfl rfl).2
                rw [if_pos (wanted_yes 13 true rfl rfl rfl e50)]
                have e3 := HK 3 (by decide)
                go_simp; exact kk _ _ (by simp) HJ trivial rfl
              · intro a w1 vs K HJ HK HD HN kk
                have e50 := (HD 13 _ 50 rfl rfl rfl).1.trans (HD 13 _ 50 rfl rfl rfl).2
                rw [if_pos (wanted_yes 13 true rfl rfl rfl e50)]
                have e58 := (HD 21 _ 58 rfl rfl rfl).1.trans (HD 21 _ 58 rfl rfl rfl).2
                have hws : IntKind.i64.wrap (m : Int) = (m : Int) := IntWalk.i64_in _ (by omega)
                go_simp; exact kk _ _ (by simp) HJ trivial (by first | rfl | (show Value.int _ _ = Value.int _ _; rw [hws]))
              · intro a w1 vs K HJ HK HD HN kk
                have e50 := (HD 13 _ 50 rfl rfl rfl).1.trans (HD 13 _ 50 rfl rfl rfl).2
                rw [if_pos (wanted_yes 13 true rfl rfl rfl e50)]
                have e57 := (HD 20 _ 57 rfl rfl rfl).1.trans (HD 20 _ 57 rfl rfl rfl).2
                have e59 := (HD 22 _ 59 rfl rfl rfl).1.trans (HD 22 _ 59 rfl rfl rfl).2
                go_simp; exact kk _ _ (by simp) HJ trivial rfl
              · intro a w1 vs K HJ HK HD HN kk
                have e50 := (HD 13 _ 50 rfl rfl rfl).1.trans (HD 13 _ 50 rfl rfl rfl).2
                rw [if_pos (wanted_yes 13 true rfl rfl rfl e50)]
                have e60 := (HD 23 _ 60 rfl rfl rfl).1.trans (HD 23 _ 60 rfl rfl rfl).2
                have ca := (HC4.out w1 HJ).2.2.2
                go_simp; exact kk _ _ (by simp) HJ trivial rfl
              · intro a w1 vs K HJ HK HD HN kk
                have e50 := (HD 13 _ 50 rfl rfl rfl).1.trans (HD 13 _ 50 rfl rfl rfl).2
                rw [if_pos (wanted_yes 13 true rfl rfl rfl e50)]
                have e55 := (HD 18 _ 55 rfl rfl rfl).1.trans (HD 18 _ 55 rfl rfl rfl).2
                have e61 := (HD 24 _ 61 rfl rfl rfl).1.trans (HD 24 _ 61 rfl rfl rfl).2
                have hdl := HDL.out
                go_simp; exact kk _ _ (by simp) HJ trivial rfl
              · intro a w1 vs K HJ HK HD HN kk
                have e47 := (HD 10 _ 47 rfl rfl rfl).1.trans (HD 10 _ 47 rfl rfl rfl).2
                rw [if_pos (wanted_yes 10 false rfl rfl rfl e47)]
                have e50 := (HD 13 _ 50 rfl rfl rfl).1.trans (HD 13 _ 50 rfl rfl rfl).2
                have e62 := (HD 25 _ 62 rfl rfl rfl).1.trans (HD 25 _ 62 rfl rfl rfl).2
                go_simp; exact kk _ _ (by simp) HJ trivial rfl
              · intro a w1 vs K HJ HK HD HN kk
                have e47 := (HD 10 _ 47 rfl rfl rfl).1.trans (HD 10 _ 47 rfl rfl rfl).2
                have e63 := (HD 26 _ 63 rfl rfl rfl).1.trans (HD 26 _ 63 rfl rfl rfl).2
                go_simp; exact kk _ _ (by simp) HJ trivial rfl
            · intro vs w6 hw6 hrr
              have e27 : vs 27 = .bool false := hrr 27 _ rfl
              have HB6 := Lib.hid hw6
              clear hrr hw6
              simp only [putAll, Act.put, List.setIfInBounds_toArray, List.set_cons_zero, List.set_cons_succ]
              rw [e27]
              go_wp2_with fail
              go_roundw
              case rel => exact ⟨kx + 1, by omega, by go_num, Lib.hid ⟨hs.out.1.trans (HB6.out.mono hs.out.1.size), fun j hj => by
                by_cases e : j = kx
                · subst e; exact HNX.out
                · exact hs.out.2 j (by have := HMK.out; omega)⟩⟩
              case measure => simp [intOf]; omega
    · obtain rfl : k = n := by omega
      have HR : Hid (true = R) := Lib.hid (by rw [HRT.out]; exact (allN_iff.2 hs.out.2).symm)
      go_wp2_with fail
      go_ret
      exact HFIN.out _ _ HR.out HBR.out
end Go.Proofs.Ytnmccbjdfdbgpaa
/- What is proved: a contract of the document's lie. Conditions: the council, the lies and the path lie in memory. -/
namespace Go.Proofs.Ytnmccbjdfdbgpaa
open Go.RowKit

theorem intsB_iff {l m : List Int} : intsB l m = true ↔ l = m := by
  unfold intsB
  rw [Bool.and_eq_true, decide_eq_true_eq]
  constructor
  · rintro ⟨h1, h2⟩
    apply List.ext_getElem h1
    intro i hi hi'
    have := allN_iff.1 h2 i hi
    rw [decide_eq_true_eq] at this
    unfold getI at this
    rw [List.getD_eq_getElem?_getD, List.getD_eq_getElem?_getD, List.getElem?_eq_getElem hi, List.getElem?_eq_getElem hi'] at this
    exact this
  · rintro rfl
    exact ⟨rfl, allN_iff.2 fun i _ => decide_eq_true rfl⟩
/-- The cells of an agreement. -/
def talkA (N F : Int) (Af : Option Addr) (nf cf : Nat) (A : Option Addr) (nl c : Nat) (fr value : Int) : Array Value := #[.int .i64 N, .int .i64 F, .slice Af nf cf, .slice A nl c, .int .i64 fr, .int .i64 value]
def lieQ (fr : Int) (p : List Int) (t : Int) (x : LieD) : Bool := decide (x.frame = fr) && decide (x.to = t) && decide (x.path = p)
theorem lieB_at {l : List LieD} {fr : Int} {p : List Int} {t : Int} {k : Nat} (hk : k < l.length) (h : ∀ j, j < k → lieQ fr p t (lieAt l j) = false) (hq : lieQ fr p t (lieAt l k) = true) : lieB l fr p t = some (lieAt l k).value := by
  unfold lieB
  have : l.find? (fun x => decide (x.frame = fr) && decide (x.to = t) && decide (x.path = p)) = some (lieAt l k) := by
    have hl : l[k] = lieAt l k := by unfold lieAt; rw [List.getD_eq_getElem?_getD, List.getElem?_eq_getElem hk]; rfl
    refine List.find?_eq_some_iff_getElem.2 ⟨hq, k, hk, hl, fun j hj => ?_⟩
    have hl2 : l[j] = lieAt l j := by unfold lieAt; rw [List.getD_eq_getElem?_getD, List.getElem?_eq_getElem (by omega)]; rfl
    rw [hl2]
    have := h j hj
    unfold lieQ at this
    rw [this]; rfl
  rw [this]; rfl
theorem lieB_none {l : List LieD} {fr : Int} {p : List Int} {t : Int} (h : ∀ j, j < l.length → lieQ fr p t (lieAt l j) = false) : lieB l fr p t = none := by
  unfold lieB
  have : l.find? (fun x => decide (x.frame = fr) && decide (x.to = t) && decide (x.path = p)) = none := by
    rw [List.find?_eq_none]
    intro x hx
    obtain ⟨i, hi, e⟩ := List.getElem_of_mem hx
    have := h i hi
    unfold lieAt at this
    rw [List.getD_eq_getElem?_getD, List.getElem?_eq_getElem hi, Option.getD_some, e] at this
    unfold lieQ at this
    rw [this]; simp
  rw [this]; rfl
set_option maxRecDepth 100000 in
set_option maxHeartbeats 16000000 in
theorem refLie_any (w : World) (N F : Int) (Af : Option Addr) (nf cf : Nat) (A : Option Addr) (c : Nat) (l : List LieD) (fr value : Int) (Ap : Option Addr) (cp : Nat) (p : List Int) (tt : Int) (hl : LiesAt w w.heap.size A l) (hp : IntsAt w w.heap.size Ap p) :
    Calls Try.prog 104 #[.agg (talkA N F Af nf cf A l.length c fr value), .slice Ap p.length cp, .int .i64 tt] w fun e w' => e = .returned (.int .i64 ((lieB l fr p tt).getD 0)) ∧ Below w.heap.size w w' := by
  have hll := hl.len
  have hpp := hp.1
  obtain ⟨qb, hqb⟩ : ∃ qb, w.heap.size = qb := ⟨_, rfl⟩
  have HQB := Lib.hid hqb
  obtain ⟨PA, cc, hs1, hs2⟩ := hl.sl
  have HLS := Lib.hid hs1
  have HLP := Lib.hid hs2
  have HPP := Lib.hid hp
  obtain ⟨nl, hnl⟩ : ∃ nl, l.length = nl := ⟨_, rfl⟩
  have HNL := Lib.hid hnl
  obtain ⟨np, hnp⟩ : ∃ np, p.length = np := ⟨_, rfl⟩
  have HNP := Lib.hid hnp
  obtain ⟨W0, hW0⟩ : ∃ W0, w.alloc (.cells (talkA N F Af nf cf A nl c fr value) 108) = W0 := ⟨_, rfl⟩
  have HB0 : Hid (Below qb w W0) := Lib.hid (by rw [← hW0, ← hqb]; exact (Below.refl _ w).alloc (Nat.le_refl _) _)
  have HK0 : Hid (Bk W0 qb 108 (talkA N F Af nf cf A nl c fr value)) := Lib.hid (by rw [← hW0, ← hqb]; exact Bk.new _ _ _)
  obtain ⟨R, hR⟩ : ∃ R, (lieB l fr p tt).getD 0 = R := ⟨_, rfl⟩
  have HYES : Hid (∀ k, k < nl → (∀ j, j < k → lieQ fr p tt (lieAt l j) = false) → lieQ fr p tt (lieAt l k) = true → R = (lieAt l k).value) := Lib.hid fun k hk h1 h2 => by
    rw [← hR, lieB_at (by rw [hnl]; exact hk) h1 h2]; rfl
  have HNO : Hid ((∀ j, j < nl → lieQ fr p tt (lieAt l j) = false) → R = 0) := Lib.hid fun h1 => by
    rw [← hR, lieB_none (by rw [hnl]; exact h1)]; rfl
  have HFIN : Hid (∀ (x : Int) (w' : World), x = R → Below qb w w' → Ending.returned (.int .i64 x) = .returned (.int .i64 R) ∧ Below qb w w') := Lib.hid fun x w' h1 h2 => by subst h1; exact ⟨rfl, h2⟩
  rw [hnl] at hll ⊢
  rw [hnp] at hpp ⊢
  rw [hR, hqb]
  unfold talkA at hW0 HK0 ⊢
  clear hl hp hs1 hs2 hnl hnp hR
  go_enter Try.func104, Try.ntmps104
  go_upto_region 1 with (fail)
  clear hqb hW0
  go_wp2_with fail
  go_loopw [7] (fun i wr => ∃ k : Nat, k ≤ nl ∧ i = .int .i64 k ∧ Hid (Below W0.heap.size W0 wr ∧ ∀ j, j < k → lieQ fr p tt (lieAt l j) = false)) (fun i _ => nl - (intOf i).toNat)
  case atStart => exact ⟨0, Nat.zero_le _, rfl, Lib.hid ⟨Below.refl _ _, fun j hj => absurd hj (Nat.not_lt_zero j)⟩⟩
  case round =>
    obtain ⟨kx, hk, rfl, hs⟩ := hrel
    have HBR : Hid (Below qb w wr) := Lib.hid (HB0.out.trans (hs.out.1.mono (Nat.le_of_lt HK0.out.lt)))
    have HQR : Hid (qb ≤ wr.heap.size) := Lib.hid (Nat.le_trans (Nat.le_of_lt HK0.out.lt) hs.out.1.size)
    have HKR := Lib.hid (HK0.out.below hs.out.1 HK0.out.lt)
    have q3 : wr.cell? ⟨qb, 3, none⟩ = some (.slice A nl c) := HKR.out.cell 3
    by_cases hlt : kx < nl
    · have hki : (kx : Int) < (nl : Int) := by omega
      have h0k : (0 : Int) ≤ (kx : Int) := by omega
      have hkl : kx < l.length := by rw [HNL.out]; exact hlt
      obtain ⟨bb, off, rfl, _, d0, d1, d2, d3⟩ := Sl.at4 (Sl.below HLS.out (by rw [HQB.out]; exact HBR.out)) (i := kx) hkl
      have hpl := Sl.below (HLP.out kx hkl) (w' := wr) (by rw [HQB.out]; exact HBR.out)
      change wr.cell? _ = some (.int .i64 (lieAt l kx).frame) at d0
      change wr.cell? _ = some (.slice (PA kx) (lieAt l kx).path.length (cc kx)) at d1
      change wr.cell? _ = some (.int .i64 (lieAt l kx).to) at d2
      change wr.cell? _ = some (.int .i64 (lieAt l kx).value) at d3
      have hints : ∀ w1, Below wr.heap.size wr w1 → Calls Try.prog 23 #[.slice (PA kx) (lieAt l kx).path.length (cc kx), .slice Ap p.length cp] w1 fun e w' => e = .returned (.bool (intsB (lieAt l kx).path p)) ∧ Below w1.heap.size w1 w' := fun w1 h1 =>
        have h2 : Below qb w w1 := HBR.out.trans (h1.mono HQR.out)
        ints_any w1 _ _ _ _ _ _ (Sl.mono (Sl.below hpl (h1.mono (by rw [HQB.out]; exact HQR.out))) (by rw [HQB.out]; exact Nat.le_trans HQR.out h1.size)) (Sl.mono (Sl.below HPP.out (by rw [HQB.out]; exact h2)) h2.size)
      have HQE : Hid (lieQ fr p tt (lieAt l kx) = (decide ((lieAt l kx).frame = fr) && decide ((lieAt l kx).to = tt) && intsB (lieAt l kx).path p)) := Lib.hid (by
        unfold lieQ
        congr 1
        rw [Bool.eq_iff_iff, decide_eq_true_eq, intsB_iff])
      have HVAL := Lib.hid (HYES.out kx hlt hs.out.2)
      obtain ⟨lf, hlf⟩ : ∃ lf, (lieAt l kx).frame = lf := ⟨_, rfl⟩
      obtain ⟨lt, hlt2⟩ : ∃ lt, (lieAt l kx).to = lt := ⟨_, rfl⟩
      obtain ⟨lv, hlv⟩ : ∃ lv, (lieAt l kx).value = lv := ⟨_, rfl⟩
      obtain ⟨ll, hll2⟩ : ∃ ll, (lieAt l kx).path.length = ll := ⟨_, rfl⟩
      obtain ⟨lA, hlA⟩ : ∃ lA, PA kx = lA := ⟨_, rfl⟩
      obtain ⟨lc, hlc⟩ : ∃ lc, cc kx = lc := ⟨_, rfl⟩
      obtain ⟨b3, hb3⟩ : ∃ b3, intsB (lieAt l kx).path p = b3 := ⟨_, rfl⟩
      rw [hlf] at d0 HQE
      rw [hlA, hll2, hlc] at d1 hints
      rw [hlt2] at d2 HQE
      rw [hlv] at d3 HVAL
      rw [hb3] at hints HQE
      rw [HNP.out] at hints
      have HIN := Lib.hid hints
      have HC4 : Hid (∀ w1, Below wr.heap.size wr w1 → w1.cell? ⟨qb, 3, none⟩ = some (.slice (some ⟨bb, off, none⟩) nl c) ∧ w1.cell? ⟨qb, 4, none⟩ = some (.int .i64 fr) ∧ w1.cell? ⟨bb, off + kx * 4, none⟩ = some (.int .i64 lf) ∧ w1.cell? ⟨bb, off + kx * 4 + 1, none⟩ = some (.slice lA ll lc) ∧ w1.cell? ⟨bb, off + kx * 4 + 2, none⟩ = some (.int .i64 lt)) := Lib.hid fun w1 h1 => by
        have h2 := HKR.out.below h1 HKR.out.lt
        have hbb : bb < wr.heap.size := World.block_lt_of_cell? wr _ d0
        exact ⟨h2.cell 3, h2.cell 4, (h1.cell (p := ⟨bb, off + kx * 4, none⟩) hbb).trans d0, (h1.cell (p := ⟨bb, off + kx * 4 + 1, none⟩) hbb).trans d1, (h1.cell (p := ⟨bb, off + kx * 4 + 2, none⟩) hbb).trans d2⟩
      have HNEXT : Hid (lieQ fr p tt (lieAt l kx) = false → ∀ j, j < kx + 1 → lieQ fr p tt (lieAt l j) = false) := Lib.hid fun h j hj => by
        by_cases e : j = kx
        · subst e; exact h
        · exact hs.out.2 j (by omega)
      have HD3 : Hid (∀ w1, Below wr.heap.size wr w1 → w1.cell? ⟨bb, off + kx * 4 + 3, none⟩ = some (.int .i64 lv)) := Lib.hid fun w1 h1 => by
        have hbb : bb < wr.heap.size := World.block_lt_of_cell? wr _ d0
        exact (h1.cell (p := ⟨bb, off + kx * 4 + 3, none⟩) hbb).trans d3
      clear hpl hints hlf hlt2 hlv hll2 hlA hlc hb3 d0 d1 d2 d3
      by_cases he1 : lf = fr
      case neg =>
        have HD1 : Hid (decide (lf = fr) = false) := Lib.hid (decide_eq_false he1)
        have HQF : Hid (lieQ fr p tt (lieAt l kx) = false) := Lib.hid (by rw [HQE.out, decide_eq_false he1]; rfl)
        go_wp2_with fail
        clear q3
        refine wp_region_steps (by kernel_rfl) (by kernel_rfl) (fun w1 => Below wr.heap.size wr w1) (fun _ _ _ => True)
          (fun ix u _ _ => match ix with
            | 0 => u = .pointer (some ⟨qb, 3, none⟩)
            | 1 => u = .slice (some ⟨bb, off, none⟩) nl c
            | 2 => u = .int .i64 kx
            | 3 => u = .pointer (some ⟨bb, off + kx * 4, none⟩)
            | 4 => u = .pointer (some ⟨bb, off + kx * 4, none⟩)
            | 5 => u = .int .i64 lf
            | 6 => u = .pointer (some ⟨qb, 4, none⟩)
            | 7 => u = .int .i64 fr
            | 8 => u = .bool false
            | 9 => u = .bool false
            | 10 => True
            | 11 => True
            | 12 => True
            | 13 => True
            | 14 => True
            | 15 => True
            | 16 => True
            | 17 => True
            | 18 => u = .bool false
            | 19 => u = .bool false
            | 20 => True
            | 21 => True
            | 22 => True
            | 23 => True
            | 24 => True
            | 25 => True
            | 26 => True
            | 27 => True
            | _ => u = .bool false) (Below.refl _ _).drew (fun _ _ _ _ _ _ _ _ h _ _ => h) ?_ ?_
        · refine ⟨?_, ?_, ?_, ?_, ?_, ?_, ?_, ?_, ?_, ?_, ?_, ?_, ?_, ?_, ?_, ?_, ?_, ?_, ?_, ?_, ?_, ?_, ?_, ?_, ?_, ?_, ?_, ?_, ?_, trivial⟩
          · intro a w1 vs K HJ HK HD HN kk
            have e3 := HK 3 (by decide)
            go_simp; exact kk _ _ (by simp) HJ trivial rfl
          · intro a w1 vs K HJ HK HD HN kk
            have e15 := (HD 0 _ 15 rfl rfl rfl).1.trans (HD 0 _ 15 rfl rfl rfl).2
            have ca := (HC4.out w1 HJ).1
            go_simp; exact kk _ _ (by simp) HJ trivial rfl
          · intro a w1 vs K HJ HK HD HN kk
            have e7 := HK 7 (by decide)
            go_simp; exact kk _ _ (by simp) HJ trivial rfl
          · intro a w1 vs K HJ HK HD HN kk
            have e16 := (HD 1 _ 16 rfl rfl rfl).1.trans (HD 1 _ 16 rfl rfl rfl).2
            have e17 := (HD 2 _ 17 rfl rfl rfl).1.trans (HD 2 _ 17 rfl rfl rfl).2
            go_simp; exact kk _ _ (by simp) HJ trivial rfl
          · intro a w1 vs K HJ HK HD HN kk
            have e18 := (HD 3 _ 18 rfl rfl rfl).1.trans (HD 3 _ 18 rfl rfl rfl).2
            go_simp; exact kk _ _ (by simp) HJ trivial rfl
          · intro a w1 vs K HJ HK HD HN kk
            have e19 := (HD 4 _ 19 rfl rfl rfl).1.trans (HD 4 _ 19 rfl rfl rfl).2
            have ca := (HC4.out w1 HJ).2.2.1
            go_simp; exact kk _ _ (by simp) HJ trivial rfl
          · intro a w1 vs K HJ HK HD HN kk
            have e3 := HK 3 (by decide)
            go_simp; exact kk _ _ (by simp) HJ trivial rfl
          · intro a w1 vs K HJ HK HD HN kk
            have e21 := (HD 6 _ 21 rfl rfl rfl).1.trans (HD 6 _ 21 rfl rfl rfl).2
            have ca := (HC4.out w1 HJ).2.1
            go_simp; exact kk _ _ (by simp) HJ trivial rfl
          · intro a w1 vs K HJ HK HD HN kk
            have e20 := (HD 5 _ 20 rfl rfl rfl).1.trans (HD 5 _ 20 rfl rfl rfl).2
            have e22 := (HD 7 _ 22 rfl rfl rfl).1.trans (HD 7 _ 22 rfl rfl rfl).2
            have hd1 : (lf == fr) = false := HD1.out
            go_simp; exact kk _ _ (by simp) HJ trivial rfl
          · intro a w1 vs K HJ HK HD HN kk
            have e23 := (HD 8 _ 23 rfl rfl rfl).1.trans (HD 8 _ 23 rfl rfl rfl).2
            go_simp; exact kk _ _ (by simp) HJ trivial rfl
          · intro a w1 vs K HJ HK HD HN kk
            have e24 := (HD 9 _ 24 rfl rfl rfl).1.trans (HD 9 _ 24 rfl rfl rfl).2
            rw [if_neg (wanted_no 9 true rfl rfl rfl e24)]
            exact kk undef _ (by simp) HJ trivial trivial
          · intro a w1 vs K HJ HK HD HN kk
            have e24 := (HD 9 _ 24 rfl rfl rfl).1.trans (HD 9 _ 24 rfl rfl rfl).2
            rw [if_neg (wanted_no 9 true rfl rfl rfl e24)]
            exact kk undef _ (by simp) HJ trivial trivial
          · intro a w1 vs K HJ HK HD HN kk
            have e24 := (HD 9 _ 24 rfl rfl rfl).1.trans (HD 9 _ 24 rfl rfl rfl).2
            rw [if_neg (wanted_no 9 true rfl rfl rfl e24)]
            exact kk undef _ (by simp) HJ trivial trivial
          · intro a w1 vs K HJ HK HD HN kk
            have e24 := (HD 9 _ 24 rfl rfl rfl).1.trans (HD 9 _ 24 rfl rfl rfl).2
            rw [if_neg (wanted_no 9 true rfl rfl rfl e24)]
            exact kk undef _ (by simp) HJ trivial trivial
          · intro a w1 vs K HJ HK HD HN kk
            have e24 := (HD 9 _ 24 rfl rfl rfl).1.trans (HD 9 _ 24 rfl rfl rfl).2
            rw [if_neg (wanted_no 9 true rfl rfl rfl e24)]
            exact kk undef _ (by simp) HJ trivial trivial
          · intro a w1 vs K HJ HK HD HN kk
            have e24 := (HD 9 _ 24 rfl rfl rfl).1.trans (HD 9 _ 24 rfl rfl rfl).2
            rw [if_neg (wanted_no 9 true rfl rfl rfl e24)]
            exact kk undef _ (by simp) HJ trivial trivial
          · intro a w1 vs K HJ HK HD HN kk
            have e24 := (HD 9 _ 24 rfl rfl rfl).1.trans (HD 9 _ 24 rfl rfl rfl).2
            rw [if_neg (wanted_no 9 true rfl rfl rfl e24)]
            exact kk undef _ (by simp) HJ trivial trivial
          · intro a w1 vs K HJ HK HD HN kk
            have e24 := (HD 9 _ 24 rfl rfl rfl).1.trans (HD 9 _ 24 rfl rfl rfl).2
            rw [if_neg (wanted_no 9 true rfl rfl rfl e24)]
            exact kk undef _ (by simp) HJ trivial trivial
          · intro a w1 vs K HJ HK HD HN kk
            have e24 := (HD 9 _ 24 rfl rfl rfl).1.trans (HD 9 _ 24 rfl rfl rfl).2
            go_simp; exact kk _ _ (by simp) HJ trivial rfl
          · intro a w1 vs K HJ HK HD HN kk
            have e33 := (HD 18 _ 33 rfl rfl rfl).1.trans (HD 18 _ 33 rfl rfl rfl).2
            go_simp; exact kk _ _ (by simp) HJ trivial rfl
          · intro a w1 vs K HJ HK HD HN kk
            have e34 := (HD 19 _ 34 rfl rfl rfl).1.trans (HD 19 _ 34 rfl rfl rfl).2
            rw [if_neg (wanted_no 19 true rfl rfl rfl e34)]
            exact kk undef _ (by simp) HJ trivial trivial
          · intro a w1 vs K HJ HK HD HN kk
            have e34 := (HD 19 _ 34 rfl rfl rfl).1.trans (HD 19 _ 34 rfl rfl rfl).2
            rw [if_neg (wanted_no 19 true rfl rfl rfl e34)]
            exact kk undef _ (by simp) HJ trivial trivial
          · intro a w1 vs K HJ HK HD HN kk
            have e34 := (HD 19 _ 34 rfl rfl rfl).1.trans (HD 19 _ 34 rfl rfl rfl).2
            rw [if_neg (wanted_no 19 true rfl rfl rfl e34)]
            exact kk undef _ (by simp) HJ trivial trivial
          · intro a w1 vs K HJ HK HD HN kk
            have e34 := (HD 19 _ 34 rfl rfl rfl).1.trans (HD 19 _ 34 rfl rfl rfl).2
            rw [if_neg (wanted_no 19 true rfl rfl rfl e34)]
            exact kk undef _ (by simp) HJ trivial trivial
          · intro a w1 vs K HJ HK HD HN kk
            have e34 := (HD 19 _ 34 rfl rfl rfl).1.trans (HD 19 _ 34 rfl rfl rfl).2
            rw [if_neg (wanted_no 19 true rfl rfl rfl e34)]
            exact kk undef _ (by simp) HJ trivial trivial
          · intro a w1 vs K HJ HK HD HN kk
            have e34 := (HD 19 _ 34 rfl rfl rfl).1.trans (HD 19 _ 34 rfl rfl rfl).2
            rw [if_neg (wanted_no 19 true rfl rfl rfl e34)]
            exact kk undef _ (by simp) HJ trivial trivial
          · intro a w1 vs K HJ HK HD HN kk
            have e34 := (HD 19 _ 34 rfl rfl rfl).1.trans (HD 19 _ 34 rfl rfl rfl).2
            rw [if_neg (wanted_no 19 true rfl rfl rfl e34)]
            exact kk undef _ (by simp) HJ trivial trivial
          · intro a w1 vs K HJ HK HD HN kk
            have e34 := (HD 19 _ 34 rfl rfl rfl).1.trans (HD 19 _ 34 rfl rfl rfl).2
            rw [if_neg (wanted_no 19 true rfl rfl rfl e34)]
            exact kk undef _ (by simp) HJ trivial trivial
          · intro a w1 vs K HJ HK HD HN kk
            have e34 := (HD 19 _ 34 rfl rfl rfl).1.trans (HD 19 _ 34 rfl rfl rfl).2
            go_simp; exact kk _ _ (by simp) HJ trivial rfl
        · intro vs w6 hw6 hrr
          have e28 : vs 28 = .bool false := hrr 28 _ rfl
          have HB6 := Lib.hid hw6
          clear hrr hw6
          simp only [putAll, Act.put, List.setIfInBounds_toArray, List.set_cons_zero, List.set_cons_succ]
          rw [e28]
          go_wp2_with fail
          go_roundw
          case rel => exact ⟨kx + 1, by omega, by go_num, Lib.hid ⟨hs.out.1.trans (HB6.out.mono hs.out.1.size), HNEXT.out HQF.out⟩⟩
          case measure => simp [intOf]; omega
      by_cases he2 : lt = tt
      case neg =>
        have HD1 : Hid (decide (lf = fr) = true) := Lib.hid (decide_eq_true he1)
        have HD2 : Hid (decide (lt = tt) = false) := Lib.hid (decide_eq_false he2)
        have HQF : Hid (lieQ fr p tt (lieAt l kx) = false) := Lib.hid (by rw [HQE.out, decide_eq_false he2, Bool.and_false]; rfl)
        clear he1
        go_wp2_with fail
        clear q3
        refine wp_region_steps (by kernel_rfl) (by kernel_rfl) (fun w1 => Below wr.heap.size wr w1) (fun _ _ _ => True)
          (fun ix u _ _ => match ix with
            | 0 => u = .pointer (some ⟨qb, 3, none⟩)
            | 1 => u = .slice (some ⟨bb, off, none⟩) nl c
            | 2 => u = .int .i64 kx
            | 3 => u = .pointer (some ⟨bb, off + kx * 4, none⟩)
            | 4 => u = .pointer (some ⟨bb, off + kx * 4, none⟩)
            | 5 => u = .int .i64 lf
            | 6 => u = .pointer (some ⟨qb, 4, none⟩)
            | 7 => u = .int .i64 fr
            | 8 => u = .bool true
            | 9 => u = .bool true
            | 10 => u = .pointer (some ⟨qb, 3, none⟩)
            | 11 => u = .slice (some ⟨bb, off, none⟩) nl c
            | 12 => u = .int .i64 kx
            | 13 => u = .pointer (some ⟨bb, off + kx * 4, none⟩)
            | 14 => u = .pointer (some ⟨bb, off + kx * 4 + 2, none⟩)
            | 15 => u = .int .i64 lt
            | 16 => u = .int .i64 tt
            | 17 => u = .bool false
            | 18 => u = .bool false
            | 19 => u = .bool false
            | 20 => True
            | 21 => True
            | 22 => True
            | 23 => True
            | 24 => True
            | 25 => True
            | 26 => True
            | 27 => True
            | _ => u = .bool false) (Below.refl _ _).drew (fun _ _ _ _ _ _ _ _ h _ _ => h) ?_ ?_
        · refine ⟨?_, ?_, ?_, ?_, ?_, ?_, ?_, ?_, ?_, ?_, ?_, ?_, ?_, ?_, ?_, ?_, ?_, ?_, ?_, ?_, ?_, ?_, ?_, ?_, ?_, ?_, ?_, ?_, ?_, trivial⟩
          · intro a w1 vs K HJ HK HD HN kk
            have e3 := HK 3 (by decide)
            go_simp; exact kk _ _ (by simp) HJ trivial rfl
          · intro a w1 vs K HJ HK HD HN kk
            have e15 := (HD 0 _ 15 rfl rfl rfl).1.trans (HD 0 _ 15 rfl rfl rfl).2
            have ca := (HC4.out w1 HJ).1
            go_simp; exact kk _ _ (by simp) HJ trivial rfl
          · intro a w1 vs K HJ HK HD HN kk
            have e7 := HK 7 (by decide)
            go_simp; exact kk _ _ (by simp) HJ trivial rfl
          · intro a w1 vs K HJ HK HD HN kk
            have e16 := (HD 1 _ 16 rfl rfl rfl).1.trans (HD 1 _ 16 rfl rfl rfl).2
            have e17 := (HD 2 _ 17 rfl rfl rfl).1.trans (HD 2 _ 17 rfl rfl rfl).2
            go_simp; exact kk _ _ (by simp) HJ trivial rfl
          · intro a w1 vs K HJ HK HD HN kk
            have e18 := (HD 3 _ 18 rfl rfl rfl).1.trans (HD 3 _ 18 rfl rfl rfl).2
            go_simp; exact kk _ _ (by simp) HJ trivial rfl
          · intro a w1 vs K HJ HK HD HN kk
            have e19 := (HD 4 _ 19 rfl rfl rfl).1.trans (HD 4 _ 19 rfl rfl rfl).2
            have ca := (HC4.out w1 HJ).2.2.1
            go_simp; exact kk _ _ (by simp) HJ trivial rfl
          · intro a w1 vs K HJ HK HD HN kk
            have e3 := HK 3 (by decide)
            go_simp; exact kk _ _ (by simp) HJ trivial rfl
          · intro a w1 vs K HJ HK HD HN kk
            have e21 := (HD 6 _ 21 rfl rfl rfl).1.trans (HD 6 _ 21 rfl rfl rfl).2
            have ca := (HC4.out w1 HJ).2.1
            go_simp; exact kk _ _ (by simp) HJ trivial rfl
          · intro a w1 vs K HJ HK HD HN kk
            have e20 := (HD 5 _ 20 rfl rfl rfl).1.trans (HD 5 _ 20 rfl rfl rfl).2
            have e22 := (HD 7 _ 22 rfl rfl rfl).1.trans (HD 7 _ 22 rfl rfl rfl).2
            have hd1 : (lf == fr) = true := HD1.out
            go_simp; exact kk _ _ (by simp) HJ trivial rfl
          · intro a w1 vs K HJ HK HD HN kk
            have e23 := (HD 8 _ 23 rfl rfl rfl).1.trans (HD 8 _ 23 rfl rfl rfl).2
            go_simp; exact kk _ _ (by simp) HJ trivial rfl
          · intro a w1 vs K HJ HK HD HN kk
            have e24 := (HD 9 _ 24 rfl rfl rfl).1.trans (HD 9 _ 24 rfl rfl rfl).2
            rw [if_pos (wanted_yes 9 true rfl rfl rfl e24)]
            have e3 := HK 3 (by decide)
            go_simp; exact kk _ _ (by simp) HJ trivial rfl
          · intro a w1 vs K HJ HK HD HN kk
            have e24 := (HD 9 _ 24 rfl rfl rfl).1.trans (HD 9 _ 24 rfl rfl rfl).2
            rw [if_pos (wanted_yes 9 true rfl rfl rfl e24)]
            have e25 := (HD 10 _ 25 rfl rfl rfl).1.trans (HD 10 _ 25 rfl rfl rfl).2
            have ca := (HC4.out w1 HJ).1
            go_simp; exact kk _ _ (by simp) HJ trivial rfl
          · intro a w1 vs K HJ HK HD HN kk
            have e24 := (HD 9 _ 24 rfl rfl rfl).1.trans (HD 9 _ 24 rfl rfl rfl).2
            rw [if_pos (wanted_yes 9 true rfl rfl rfl e24)]
            have e7 := HK 7 (by decide)
            go_simp; exact kk _ _ (by simp) HJ trivial rfl
          · intro a w1 vs K HJ HK HD HN kk
            have e24 := (HD 9 _ 24 rfl rfl rfl).1.trans (HD 9 _ 24 rfl rfl rfl).2
            rw [if_pos (wanted_yes 9 true rfl rfl rfl e24)]
            have e26 := (HD 11 _ 26 rfl rfl rfl).1.trans (HD 11 _ 26 rfl rfl rfl).2
            have e27 := (HD 12 _ 27 rfl rfl rfl).1.trans (HD 12 _ 27 rfl rfl rfl).2
            go_simp; exact kk _ _ (by simp) HJ trivial rfl
          · intro a w1 vs K HJ HK HD HN kk
            have e24 := (HD 9 _ 24 rfl rfl rfl).1.trans (HD 9 _ 24 rfl rfl rfl).2
            rw [if_pos (wanted_yes 9 true rfl rfl rfl e24)]
            have e28 := (HD 13 _ 28 rfl rfl rfl).1.trans (HD 13 _ 28 rfl rfl rfl).2
            go_simp; exact kk _ _ (by simp) HJ trivial rfl
          · intro a w1 vs K HJ HK HD HN kk
            have e24 := (HD 9 _ 24 rfl rfl rfl).1.trans (HD 9 _ 24 rfl rfl rfl).2
            rw [if_pos (wanted_yes 9 true rfl rfl rfl e24)]
            have e29 := (HD 14 _ 29 rfl rfl rfl).1.trans (HD 14 _ 29 rfl rfl rfl).2
            have ca := (HC4.out w1 HJ).2.2.2.2
            go_simp; exact kk _ _ (by simp) HJ trivial rfl
          · intro a w1 vs K HJ HK HD HN kk
            have e24 := (HD 9 _ 24 rfl rfl rfl).1.trans (HD 9 _ 24 rfl rfl rfl).2
            rw [if_pos (wanted_yes 9 true rfl rfl rfl e24)]
            have e2 := HK 2 (by decide)
            go_simp; exact kk _ _ (by simp) HJ trivial rfl
          · intro a w1 vs K HJ HK HD HN kk
            have e24 := (HD 9 _ 24 rfl rfl rfl).1.trans (HD 9 _ 24 rfl rfl rfl).2
            rw [if_pos (wanted_yes 9 true rfl rfl rfl e24)]
            have e30 := (HD 15 _ 30 rfl rfl rfl).1.trans (HD 15 _ 30 rfl rfl rfl).2
            have e31 := (HD 16 _ 31 rfl rfl rfl).1.trans (HD 16 _ 31 rfl rfl rfl).2
            have hd2 : (lt == tt) = false := HD2.out
            go_simp; exact kk _ _ (by simp) HJ trivial rfl
          · intro a w1 vs K HJ HK HD HN kk
            have e24 := (HD 9 _ 24 rfl rfl rfl).1.trans (HD 9 _ 24 rfl rfl rfl).2
            have e32 := (HD 17 _ 32 rfl rfl rfl).1.trans (HD 17 _ 32 rfl rfl rfl).2
            go_simp; exact kk _ _ (by simp) HJ trivial rfl
          · intro a w1 vs K HJ HK HD HN kk
            have e33 := (HD 18 _ 33 rfl rfl rfl).1.trans (HD 18 _ 33 rfl rfl rfl).2
            go_simp; exact kk _ _ (by simp) HJ trivial rfl
          · intro a w1 vs K HJ HK HD HN kk
            have e34 := (HD 19 _ 34 rfl rfl rfl).1.trans (HD 19 _ 34 rfl rfl rfl).2
            rw [if_neg (wanted_no 19 true rfl rfl rfl e34)]
            exact kk undef _ (by simp) HJ trivial trivial
          · intro a w1 vs K HJ HK HD HN kk
            have e34 := (HD 19 _ 34 rfl rfl rfl).1.trans (HD 19 _ 34 rfl rfl rfl).2
            rw [if_neg (wanted_no 19 true rfl rfl rfl e34)]
            exact kk undef _ (by simp) HJ trivial trivial
          · intro a w1 vs K HJ HK HD HN kk
            have e34 := (HD 19 _ 34 rfl rfl rfl).1.trans (HD 19 _ 34 rfl rfl rfl).2
            rw [if_neg (wanted_no 19 true rfl rfl rfl e34)]
            exact kk undef _ (by simp) HJ trivial trivial
          · intro a w1 vs K HJ HK HD HN kk
            have e34 := (HD 19 _ 34 rfl rfl rfl).1.trans (HD 19 _ 34 rfl rfl rfl).2
            rw [if_neg (wanted_no 19 true rfl rfl rfl e34)]
            exact kk undef _ (by simp) HJ trivial trivial
          · intro a w1 vs K HJ HK HD HN kk
            have e34 := (HD 19 _ 34 rfl rfl rfl).1.trans (HD 19 _ 34 rfl rfl rfl).2
            rw [if_neg (wanted_no 19 true rfl rfl rfl e34)]
            exact kk undef _ (by simp) HJ trivial trivial
          · intro a w1 vs K HJ HK HD HN kk
            have e34 := (HD 19 _ 34 rfl rfl rfl).1.trans (HD 19 _ 34 rfl rfl rfl).2
            rw [if_neg (wanted_no 19 true rfl rfl rfl e34)]
            exact kk undef _ (by simp) HJ trivial trivial
          · intro a w1 vs K HJ HK HD HN kk
            have e34 := (HD 19 _ 34 rfl rfl rfl).1.trans (HD 19 _ 34 rfl rfl rfl).2
            rw [if_neg (wanted_no 19 true rfl rfl rfl e34)]
            exact kk undef _ (by simp) HJ trivial trivial
          · intro a w1 vs K HJ HK HD HN kk
            have e34 := (HD 19 _ 34 rfl rfl rfl).1.trans (HD 19 _ 34 rfl rfl rfl).2
            rw [if_neg (wanted_no 19 true rfl rfl rfl e34)]
            exact kk undef _ (by simp) HJ trivial trivial
          · intro a w1 vs K HJ HK HD HN kk
            have e34 := (HD 19 _ 34 rfl rfl rfl).1.trans (HD 19 _ 34 rfl rfl rfl).2
            go_simp; exact kk _ _ (by simp) HJ trivial rfl
        · intro vs w6 hw6 hrr
          have e28 : vs 28 = .bool false := hrr 28 _ rfl
          have HB6 := Lib.hid hw6
          clear hrr hw6
          simp only [putAll, Act.put, List.setIfInBounds_toArray, List.set_cons_zero, List.set_cons_succ]
          rw [e28]
          go_wp2_with fail
          go_roundw
          case rel => exact ⟨kx + 1, by omega, by go_num, Lib.hid ⟨hs.out.1.trans (HB6.out.mono hs.out.1.size), HNEXT.out HQF.out⟩⟩
          case measure => simp [intOf]; omega
      have HD1 : Hid (decide (lf = fr) = true) := Lib.hid (decide_eq_true he1)
      have HD2 : Hid (decide (lt = tt) = true) := Lib.hid (decide_eq_true he2)
      have HQF : Hid (lieQ fr p tt (lieAt l kx) = b3) := Lib.hid (by rw [HQE.out, decide_eq_true he1, decide_eq_true he2]; rfl)
      clear he1 he2
      by_cases hgo : True
      case pos =>
        go_wp2_with fail
        clear q3
        refine wp_region_steps (by kernel_rfl) (by kernel_rfl) (fun w1 => Below wr.heap.size wr w1) (fun _ _ _ => True)
          (fun ix u _ _ => match ix with
            | 0 => u = .pointer (some ⟨qb, 3, none⟩)
            | 1 => u = .slice (some ⟨bb, off, none⟩) nl c
            | 2 => u = .int .i64 kx
            | 3 => u = .pointer (some ⟨bb, off + kx * 4, none⟩)
            | 4 => u = .pointer (some ⟨bb, off + kx * 4, none⟩)
            | 5 => u = .int .i64 lf
            | 6 => u = .pointer (some ⟨qb, 4, none⟩)
            | 7 => u = .int .i64 fr
            | 8 => u = .bool true
            | 9 => u = .bool true
            | 10 => u = .pointer (some ⟨qb, 3, none⟩)
            | 11 => u = .slice (some ⟨bb, off, none⟩) nl c
            | 12 => u = .int .i64 kx
            | 13 => u = .pointer (some ⟨bb, off + kx * 4, none⟩)
            | 14 => u = .pointer (some ⟨bb, off + kx * 4 + 2, none⟩)
            | 15 => u = .int .i64 lt
            | 16 => u = .int .i64 tt
            | 17 => u = .bool true
            | 18 => u = .bool true
            | 19 => u = .bool true
            | 20 => u = .pointer (some ⟨qb, 3, none⟩)
            | 21 => u = .slice (some ⟨bb, off, none⟩) nl c
            | 22 => u = .int .i64 kx
            | 23 => u = .pointer (some ⟨bb, off + kx * 4, none⟩)
            | 24 => u = .pointer (some ⟨bb, off + kx * 4 + 1, none⟩)
            | 25 => u = .slice lA ll lc
            | 26 => u = .slice Ap np cp
            | 27 => u = .bool b3
            | _ => u = .bool b3) (Below.refl _ _).drew (fun _ _ _ _ _ _ _ _ h _ _ => h) ?_ ?_
        · refine ⟨?_, ?_, ?_, ?_, ?_, ?_, ?_, ?_, ?_, ?_, ?_, ?_, ?_, ?_, ?_, ?_, ?_, ?_, ?_, ?_, ?_, ?_, ?_, ?_, ?_, ?_, ?_, ?_, ?_, trivial⟩
          · intro a w1 vs K HJ HK HD HN kk
            have e3 := HK 3 (by decide)
            go_simp; exact kk _ _ (by simp) HJ trivial rfl
          · intro a w1 vs K HJ HK HD HN kk
            have e15 := (HD 0 _ 15 rfl rfl rfl).1.trans (HD 0 _ 15 rfl rfl rfl).2
            have ca := (HC4.out w1 HJ).1
            go_simp; exact kk _ _ (by simp) HJ trivial rfl
          · intro a w1 vs K HJ HK HD HN kk
            have e7 := HK 7 (by decide)
            go_simp; exact kk _ _ (by simp) HJ trivial rfl
          · intro a w1 vs K HJ HK HD HN kk
            have e16 := (HD 1 _ 16 rfl rfl rfl).1.trans (HD 1 _ 16 rfl rfl rfl).2
            have e17 := (HD 2 _ 17 rfl rfl rfl).1.trans (HD 2 _ 17 rfl rfl rfl).2
            go_simp; exact kk _ _ (by simp) HJ trivial rfl
          · intro a w1 vs K HJ HK HD HN kk
            have e18 := (HD 3 _ 18 rfl rfl rfl).1.trans (HD 3 _ 18 rfl rfl rfl).2
            go_simp; exact kk _ _ (by simp) HJ trivial rfl
          · intro a w1 vs K HJ HK HD HN kk
            have e19 := (HD 4 _ 19 rfl rfl rfl).1.trans (HD 4 _ 19 rfl rfl rfl).2
            have ca := (HC4.out w1 HJ).2.2.1
            go_simp; exact kk _ _ (by simp) HJ trivial rfl
          · intro a w1 vs K HJ HK HD HN kk
            have e3 := HK 3 (by decide)
            go_simp; exact kk _ _ (by simp) HJ trivial rfl
          · intro a w1 vs K HJ HK HD HN kk
            have e21 := (HD 6 _ 21 rfl rfl rfl).1.trans (HD 6 _ 21 rfl rfl rfl).2
            have ca := (HC4.out w1 HJ).2.1
            go_simp; exact kk _ _ (by simp) HJ trivial rfl
          · intro a w1 vs K HJ HK HD HN kk
            have e20 := (HD 5 _ 20 rfl rfl rfl).1.trans (HD 5 _ 20 rfl rfl rfl).2
            have e22 := (HD 7 _ 22 rfl rfl rfl).1.trans (HD 7 _ 22 rfl rfl rfl).2
            have hd1 : (lf == fr) = true := HD1.out
            go_simp; exact kk _ _ (by simp) HJ trivial rfl
          · intro a w1 vs K HJ HK HD HN kk
            have e23 := (HD 8 _ 23 rfl rfl rfl).1.trans (HD 8 _ 23 rfl rfl rfl).2
            go_simp; exact kk _ _ (by simp) HJ trivial rfl
          · intro a w1 vs K HJ HK HD HN kk
            have e24 := (HD 9 _ 24 rfl rfl rfl).1.trans (HD 9 _ 24 rfl rfl rfl).2
            rw [if_pos (wanted_yes 9 true rfl rfl rfl e24)]
            have e3 := HK 3 (by decide)
            go_simp; exact kk _ _ (by simp) HJ trivial rfl
          · intro a w1 vs K HJ HK HD HN kk
            have e24 := (HD 9 _ 24 rfl rfl rfl).1.trans (HD 9 _ 24 rfl rfl rfl).2
            rw [if_pos (wanted_yes 9 true rfl rfl rfl e24)]
            have e25 := (HD 10 _ 25 rfl rfl rfl).1.trans (HD 10 _ 25 rfl rfl rfl).2
            have ca := (HC4.out w1 HJ).1
            go_simp; exact kk _ _ (by simp) HJ trivial rfl
          · intro a w1 vs K HJ HK HD HN kk
            have e24 := (HD 9 _ 24 rfl rfl rfl).1.trans (HD 9 _ 24 rfl rfl rfl).2
            rw [if_pos (wanted_yes 9 true rfl rfl rfl e24)]
            have e7 := HK 7 (by decide)
            go_simp; exact kk _ _ (by simp) HJ trivial rfl
          · intro a w1 vs K HJ HK HD HN kk
            have e24 := (HD 9 _ 24 rfl rfl rfl).1.trans (HD 9 _ 24 rfl rfl rfl).2
            rw [if_pos (wanted_yes 9 true rfl rfl rfl e24)]
            have e26 := (HD 11 _ 26 rfl rfl rfl).1.trans (HD 11 _ 26 rfl rfl rfl).2
            have e27 := (HD 12 _ 27 rfl rfl rfl).1.trans (HD 12 _ 27 rfl rfl rfl).2
            go_simp; exact kk _ _ (by simp) HJ trivial rfl
          · intro a w1 vs K HJ HK HD HN kk
            have e24 := (HD 9 _ 24 rfl rfl rfl).1.trans (HD 9 _ 24 rfl rfl rfl).2
            rw [if_pos (wanted_yes 9 true rfl rfl rfl e24)]
            have e28 := (HD 13 _ 28 rfl rfl rfl).1.trans (HD 13 _ 28 rfl rfl rfl).2
            go_simp; exact kk _ _ (by simp) HJ trivial rfl
          · intro a w1 vs K HJ HK HD HN kk
            have e24 := (HD 9 _ 24 rfl rfl rfl).1.trans (HD 9 _ 24 rfl rfl rfl).2
            rw [if_pos (wanted_yes 9 true rfl rfl rfl e24)]
            have e29 := (HD 14 _ 29 rfl rfl rfl).1.trans (HD 14 _ 29 rfl rfl rfl).2
            have ca := (HC4.out w1 HJ).2.2.2.2
            go_simp; exact kk _ _ (by simp) HJ trivial rfl
          · intro a w1 vs K HJ HK HD HN kk
            have e24 := (HD 9 _ 24 rfl rfl rfl).1.trans (HD 9 _ 24 rfl rfl rfl).2
            rw [if_pos (wanted_yes 9 true rfl rfl rfl e24)]
            have e2 := HK 2 (by decide)
            go_simp; exact kk _ _ (by simp) HJ trivial rfl
          · intro a w1 vs K HJ HK HD HN kk
            have e24 := (HD 9 _ 24 rfl rfl rfl).1.trans (HD 9 _ 24 rfl rfl rfl).2
            rw [if_pos (wanted_yes 9 true rfl rfl rfl e24)]
            have e30 := (HD 15 _ 30 rfl rfl rfl).1.trans (HD 15 _ 30 rfl rfl rfl).2
            have e31 := (HD 16 _ 31 rfl rfl rfl).1.trans (HD 16 _ 31 rfl rfl rfl).2
            have hd2 : (lt == tt) = true := HD2.out
            go_simp; exact kk _ _ (by simp) HJ trivial rfl
          · intro a w1 vs K HJ HK HD HN kk
            have e24 := (HD 9 _ 24 rfl rfl rfl).1.trans (HD 9 _ 24 rfl rfl rfl).2
            have e32 := (HD 17 _ 32 rfl rfl rfl).1.trans (HD 17 _ 32 rfl rfl rfl).2
            go_simp; exact kk _ _ (by simp) HJ trivial rfl
          · intro a w1 vs K HJ HK HD HN kk
            have e33 := (HD 18 _ 33 rfl rfl rfl).1.trans (HD 18 _ 33 rfl rfl rfl).2
            go_simp; exact kk _ _ (by simp) HJ trivial rfl
          · intro a w1 vs K HJ HK HD HN kk
            have e34 := (HD 19 _ 34 rfl rfl rfl).1.trans (HD 19 _ 34 rfl rfl rfl).2
            rw [if_pos (wanted_yes 19 true rfl rfl rfl e34)]
            have e3 := HK 3 (by decide)
            go_simp; exact kk _ _ (by simp) HJ trivial rfl
          · intro a w1 vs K HJ HK HD HN kk
            have e34 := (HD 19 _ 34 rfl rfl rfl).1.trans (HD 19 _ 34 rfl rfl rfl).2
            rw [if_pos (wanted_yes 19 true rfl rfl rfl e34)]
            have e35 := (HD 20 _ 35 rfl rfl rfl).1.trans (HD 20 _ 35 rfl rfl rfl).2
            have ca := (HC4.out w1 HJ).1
            go_simp; exact kk _ _ (by simp) HJ trivial rfl
          · intro a w1 vs K HJ HK HD HN kk
            have e34 := (HD 19 _ 34 rfl rfl rfl).1.trans (HD 19 _ 34 rfl rfl rfl).2
            rw [if_pos (wanted_yes 19 true rfl rfl rfl e34)]
            have e7 := HK 7 (by decide)
            go_simp; exact kk _ _ (by simp) HJ trivial rfl
          · intro a w1 vs K HJ HK HD HN kk
            have e34 := (HD 19 _ 34 rfl rfl rfl).1.trans (HD 19 _ 34 rfl rfl rfl).2
            rw [if_pos (wanted_yes 19 true rfl rfl rfl e34)]
            have e36 := (HD 21 _ 36 rfl rfl rfl).1.trans (HD 21 _ 36 rfl rfl rfl).2
            have e37 := (HD 22 _ 37 rfl rfl rfl).1.trans (HD 22 _ 37 rfl rfl rfl).2
            go_simp; exact kk _ _ (by simp) HJ trivial rfl
          · intro a w1 vs K HJ HK HD HN kk
            have e34 := (HD 19 _ 34 rfl rfl rfl).1.trans (HD 19 _ 34 rfl rfl rfl).2
            rw [if_pos (wanted_yes 19 true rfl rfl rfl e34)]
            have e38 := (HD 23 _ 38 rfl rfl rfl).1.trans (HD 23 _ 38 rfl rfl rfl).2
            go_simp; exact kk _ _ (by simp) HJ trivial rfl
          · intro a w1 vs K HJ HK HD HN kk
            have e34 := (HD 19 _ 34 rfl rfl rfl).1.trans (HD 19 _ 34 rfl rfl rfl).2
            rw [if_pos (wanted_yes 19 true rfl rfl rfl e34)]
            have e39 := (HD 24 _ 39 rfl rfl rfl).1.trans (HD 24 _ 39 rfl rfl rfl).2
            have ca := (HC4.out w1 HJ).2.2.2.1
            go_simp; exact kk _ _ (by simp) HJ trivial rfl
          · intro a w1 vs K HJ HK HD HN kk
            have e34 := (HD 19 _ 34 rfl rfl rfl).1.trans (HD 19 _ 34 rfl rfl rfl).2
            rw [if_pos (wanted_yes 19 true rfl rfl rfl e34)]
            have e1 := HK 1 (by decide)
            go_simp; exact kk _ _ (by simp) HJ trivial rfl
          · intro a w1 vs K HJ HK HD HN kk
            have e34 := (HD 19 _ 34 rfl rfl rfl).1.trans (HD 19 _ 34 rfl rfl rfl).2
            rw [if_pos (wanted_yes 19 true rfl rfl rfl e34)]
            have e40 := (HD 25 _ 40 rfl rfl rfl).1.trans (HD 25 _ 40 rfl rfl rfl).2
            have e41 := (HD 26 _ 41 rfl rfl rfl).1.trans (HD 26 _ 41 rfl rfl rfl).2
            exact wpo_call 23 _ _ rfl #[.slice lA ll lc, .slice Ap np cp] (by simp [Act.eval, e40, e41]) (fun args w => by kernel_rfl)
              ((HIN.out w1 HJ).mono fun e w' ⟨he, hb⟩ => ⟨_, he, kk _ _ (by simp) (Below.trans HJ (hb.mono HJ.size)) trivial rfl⟩)
          · intro a w1 vs K HJ HK HD HN kk
            have e34 := (HD 19 _ 34 rfl rfl rfl).1.trans (HD 19 _ 34 rfl rfl rfl).2
            have e42 := (HD 27 _ 42 rfl rfl rfl).1.trans (HD 27 _ 42 rfl rfl rfl).2
            go_simp; exact kk _ _ (by simp) HJ trivial rfl
        · intro vs w6 hw6 hrr
          have e28 : vs 28 = .bool b3 := hrr 28 _ rfl
          have HB6 := Lib.hid hw6
          have q3 : w6.cell? ⟨qb, 3, none⟩ = some (.slice (some ⟨bb, off, none⟩) nl c) := (HC4.out w6 hw6).1
          have d3 : w6.cell? ⟨bb, off + kx * 4 + 3, none⟩ = some (.int .i64 lv) := HD3.out w6 hw6
          clear hrr hw6
          simp only [putAll, Act.put, List.setIfInBounds_toArray, List.set_cons_zero, List.set_cons_succ]
          rw [e28]
          cases b3 with
          | false =>
            go_wp2_with fail
            go_roundw
            case rel => exact ⟨kx + 1, by omega, by go_num, Lib.hid ⟨hs.out.1.trans (HB6.out.mono hs.out.1.size), HNEXT.out HQF.out⟩⟩
            case measure => simp [intOf]; omega
          | true =>
            have HRV : Hid (lv = R) := Lib.hid (HVAL.out HQF.out).symm
            go_wp2_with fail
            go_ret
            exact HFIN.out _ _ HRV.out (HBR.out.trans (HB6.out.mono HQR.out))
      case neg => exact absurd trivial hgo
    · obtain rfl : kx = nl := by omega
      have HR : Hid (0 = R) := Lib.hid (HNO.out hs.out.2).symm
      go_wp2_with fail
      go_ret
      exact HFIN.out _ _ HR.out HBR.out
end Go.Proofs.Ytnmccbjdfdbgpaa
/- What is proved: a contract of the document's heard. Conditions: the council, the lies and the path lie in memory. -/
namespace Go.Proofs.Ytnmccbjdfdbgpaa
open Go.RowKit

theorem path_lastI (j : Nat) (rp : List Nat) : getI (upI (j :: rp)).reverse rp.length = j := by
  unfold getI upI
  rw [List.map_cons, List.reverse_cons, List.getD_eq_getElem?_getD, List.getElem?_append_right (by simp)]
  simp
theorem path_lenI (j : Nat) (rp : List Nat) : (upI (j :: rp)).reverse.length = rp.length + 1 := by unfold upI; simp
theorem path_initI (j : Nat) (rp : List Nat) {k : Nat} (hk : k < rp.length) : getI (upI (j :: rp)).reverse k = getI (upI rp).reverse k := by
  unfold getI upI
  rw [List.map_cons, List.reverse_cons, List.getD_eq_getElem?_getD, List.getElem?_append_left (by simpa using hk), ← List.getD_eq_getElem?_getD]
theorem IntsAt.init {w : World} {B : Nat} {A : Option Addr} {j : Nat} {rp : List Nat} (h : IntsAt w B A (upI (j :: rp)).reverse) : IntsAt w B A (upI rp).reverse := by
  have hl : (upI rp).reverse.length = rp.length := by unfold upI; simp
  have hl2 := path_lenI j rp
  refine ⟨by rw [hl]; have := h.1; omega, fun hn => ?_⟩
  rw [hl] at hn
  obtain ⟨b, off, e, hb, hc⟩ := h.2 (by rw [hl2]; omega)
  refine ⟨b, off, e, hb, fun i hi k hk => ?_⟩
  rw [hl] at hi
  rw [hc i (by rw [hl2]; omega) k hk]
  show some (Value.int .i64 _) = some (Value.int .i64 _)
  rw [path_initI j rp hi]
set_option maxRecDepth 100000 in
set_option maxHeartbeats 8000000 in
theorem refHeard_bad (N F : Nat) (Af : Option Addr) (cf : Nat) (fl : List Int) (A : Option Addr) (c : Nat) (l : List LieD) (fr value : Int) (rp : List Nat) (j : Nat) (w : World) (Ap : Option Addr) (cp i : Nat)
    (hf : IntsAt w w.heap.size Af fl) (hl : LiesAt w w.heap.size A l) (hp : IntsAt w w.heap.size Ap (upI (j :: rp)).reverse) (_hcp : rp.length + 1 ≤ cp) (hr : rp.length ≤ 100) (hb : hasB fl j = true) :
    Calls Try.prog 89 #[.agg (talkA N F Af fl.length cf A l.length c fr value), .slice Ap (rp.length + 1) cp, .int .i64 i] w fun e w' => e = .returned (.int .i64 (heardB (talkD N F fl fr l value) (j :: rp) i)) ∧ Below w.heap.size w w' := by
  have hll := hl.len
  have hff := hf.1
  obtain ⟨qb, hqb⟩ : ∃ qb, w.heap.size = qb := ⟨_, rfl⟩
  have HQB := Lib.hid hqb
  have hpl := path_lenI j rp
  obtain ⟨bb, off, rfl, hbb, d0⟩ := Sl.at1 hp (i := rp.length) (by rw [hpl]; omega)
  try dsimp only at d0
  rw [path_lastI] at d0
  have HPP := Lib.hid hp
  have HF := Lib.hid hf
  have HL := Lib.hid hl
  obtain ⟨W0, hW0⟩ : ∃ W0, w.alloc (.cells (talkA N F Af fl.length cf A l.length c fr value) 108) = W0 := ⟨_, rfl⟩
  have hb0 : Below qb w W0 := by rw [← hW0, ← hqb]; exact (Below.refl _ w).alloc (Nat.le_refl _) _
  have HB0 : Hid (Below qb w W0) := Lib.hid hb0
  have HK0 : Hid (Bk W0 qb 108 (talkA N F Af fl.length cf A l.length c fr value)) := Lib.hid (by rw [← hW0, ← hqb]; exact Bk.new _ _ _)
  have hb0' : Below w.heap.size w W0 := by rw [hqb]; exact hb0
  have HHAS := Lib.hid (has_any W0 Af cf fl j (Sl.mono (Sl.below hf hb0') hb0'.size))
  have HLIE := Lib.hid (refLie_any W0 N F Af fl.length cf A c l fr value (some ⟨bb, off, none⟩) cp (upI (j :: rp)).reverse i ((hl.below hb0').mono hb0'.size) (Sl.mono (Sl.below hp hb0') hb0'.size))
  rw [hpl] at HLIE
  have e0 : W0.cell? ⟨bb, off + rp.length, none⟩ = some (.int .i64 j) := (hb0.cell (p := ⟨bb, off + rp.length, none⟩) (by rw [← hqb]; exact hbb)).trans d0
  obtain ⟨nf, hnf⟩ : ∃ nf, fl.length = nf := ⟨_, rfl⟩
  obtain ⟨nl, hnl⟩ : ∃ nl, l.length = nl := ⟨_, rfl⟩
  obtain ⟨nr, hnr⟩ : ∃ nr, rp.length = nr := ⟨_, rfl⟩
  obtain ⟨np, hnp⟩ : ∃ np, nr + 1 = np := ⟨_, rfl⟩
  have hnp1 : (np : Int) - 1 = (nr : Int) := by omega
  have hnrp : (nr : Int) < (np : Int) := by omega
  have h0r : (0 : Int) ≤ (nr : Int) := by omega
  obtain ⟨R, hR⟩ : ∃ R, heardB (talkD N F fl fr l value) (j :: rp) i = R := ⟨_, rfl⟩
  have HTR : Hid (∀ a b, Below qb w a → Below a.heap.size a b → Below qb w b) := Lib.hid fun _ _ h1 h2 => h1.trans (h2.mono (by rw [← hqb]; exact h1.size))
  have HFIN : Hid (∀ (x : Int) (w' : World), x = R → Below qb w w' → Ending.returned (.int .i64 x) = .returned (.int .i64 R) ∧ Below qb w w') := Lib.hid fun x w' h1 h2 => by subst h1; exact ⟨rfl, h2⟩
  rw [hnf] at hff hW0 HK0 HHAS HLIE ⊢
  rw [hnl] at hll hW0 HK0 HLIE ⊢
  rw [hnr] at _hcp hr HLIE e0 ⊢
  rw [hnp] at _hcp HLIE ⊢
  rw [hqb]
  have HRE := Lib.hid hR
  rw [hR]
  unfold talkA at hW0 HK0 HLIE ⊢
  clear hf hl hp hnf hnl hnr hnp hpl hbb d0 hb0 hb0' hR
  go_enter Try.func89, Try.ntmps89
  go_upto_region 1 with (fail)
  clear hqb hW0
  have q0 : W0.cell? ⟨qb, 0, none⟩ = some (.int .i64 N) := HK0.out.cell 0
  have q1 : W0.cell? ⟨qb, 1, none⟩ = some (.int .i64 F) := HK0.out.cell 1
  have q2 : W0.cell? ⟨qb, 2, none⟩ = some (.slice Af nf cf) := HK0.out.cell 2
  have q3 : W0.cell? ⟨qb, 3, none⟩ = some (.slice A nl c) := HK0.out.cell 3
  have q4 : W0.cell? ⟨qb, 4, none⟩ = some (.int .i64 fr) := HK0.out.cell 4
  have q5 : W0.cell? ⟨qb, 5, none⟩ = some (.int .i64 value) := HK0.out.cell 5
  go_wp2_with fail
  refine HHAS.out.mono ?_
  rintro e w1 ⟨rfl, rfl⟩
  rw [hb]
  have HRL : Hid ((lieB l fr (upI (j :: rp)).reverse i).getD 0 = R) := Lib.hid (by
    rw [← HRE.out]
    show _ = if hasB fl j = true then _ else _
    rw [if_pos hb]; rfl)
  obtain ⟨x, hx⟩ : ∃ x, (lieB l fr (upI (j :: rp)).reverse i).getD 0 = x := ⟨_, rfl⟩
  rw [hx] at HRL HLIE
  clear hb hx
  go_wp2_with fail
  refine HLIE.out.mono ?_
  rintro e w2 ⟨rfl, hb2⟩
  have HB2 := Lib.hid (HTR.out _ _ HB0.out hb2)
  clear hb2
  go_wp2_with fail
  go_ret
  exact HFIN.out _ _ HRL.out HB2.out
set_option maxRecDepth 100000 in
set_option maxHeartbeats 8000000 in
theorem refHeard_one (N F : Nat) (Af : Option Addr) (cf : Nat) (fl : List Int) (A : Option Addr) (c : Nat) (l : List LieD) (fr value : Int) (rp : List Nat) (j : Nat) (w : World) (Ap : Option Addr) (cp i : Nat)
    (hf : IntsAt w w.heap.size Af fl) (hl : LiesAt w w.heap.size A l) (hp : IntsAt w w.heap.size Ap (upI (j :: rp)).reverse) (_hcp : rp.length + 1 ≤ cp) (hr : rp.length ≤ 100) (hb : hasB fl j = false) (h1 : rp = []) :
    Calls Try.prog 89 #[.agg (talkA N F Af fl.length cf A l.length c fr value), .slice Ap (rp.length + 1) cp, .int .i64 i] w fun e w' => e = .returned (.int .i64 (heardB (talkD N F fl fr l value) (j :: rp) i)) ∧ Below w.heap.size w w' := by
  have hll := hl.len
  have hff := hf.1
  obtain ⟨qb, hqb⟩ : ∃ qb, w.heap.size = qb := ⟨_, rfl⟩
  have HQB := Lib.hid hqb
  have hpl := path_lenI j rp
  obtain ⟨bb, off, rfl, hbb, d0⟩ := Sl.at1 hp (i := rp.length) (by rw [hpl]; omega)
  try dsimp only at d0
  rw [path_lastI] at d0
  have HPP := Lib.hid hp
  have HF := Lib.hid hf
  have HL := Lib.hid hl
  obtain ⟨W0, hW0⟩ : ∃ W0, w.alloc (.cells (talkA N F Af fl.length cf A l.length c fr value) 108) = W0 := ⟨_, rfl⟩
  have hb0 : Below qb w W0 := by rw [← hW0, ← hqb]; exact (Below.refl _ w).alloc (Nat.le_refl _) _
  have HB0 : Hid (Below qb w W0) := Lib.hid hb0
  have HK0 : Hid (Bk W0 qb 108 (talkA N F Af fl.length cf A l.length c fr value)) := Lib.hid (by rw [← hW0, ← hqb]; exact Bk.new _ _ _)
  have hb0' : Below w.heap.size w W0 := by rw [hqb]; exact hb0
  have HHAS := Lib.hid (has_any W0 Af cf fl j (Sl.mono (Sl.below hf hb0') hb0'.size))
  have HLIE := Lib.hid (refLie_any W0 N F Af fl.length cf A c l fr value (some ⟨bb, off, none⟩) cp (upI (j :: rp)).reverse i ((hl.below hb0').mono hb0'.size) (Sl.mono (Sl.below hp hb0') hb0'.size))
  rw [hpl] at HLIE
  have e0 : W0.cell? ⟨bb, off + rp.length, none⟩ = some (.int .i64 j) := (hb0.cell (p := ⟨bb, off + rp.length, none⟩) (by rw [← hqb]; exact hbb)).trans d0
  obtain ⟨nf, hnf⟩ : ∃ nf, fl.length = nf := ⟨_, rfl⟩
  obtain ⟨nl, hnl⟩ : ∃ nl, l.length = nl := ⟨_, rfl⟩
  obtain ⟨nr, hnr⟩ : ∃ nr, rp.length = nr := ⟨_, rfl⟩
  obtain ⟨np, hnp⟩ : ∃ np, nr + 1 = np := ⟨_, rfl⟩
  have hnp1 : (np : Int) - 1 = (nr : Int) := by omega
  have hnrp : (nr : Int) < (np : Int) := by omega
  have h0r : (0 : Int) ≤ (nr : Int) := by omega
  obtain ⟨R, hR⟩ : ∃ R, heardB (talkD N F fl fr l value) (j :: rp) i = R := ⟨_, rfl⟩
  have HTR : Hid (∀ a b, Below qb w a → Below a.heap.size a b → Below qb w b) := Lib.hid fun _ _ h1 h2 => h1.trans (h2.mono (by rw [← hqb]; exact h1.size))
  have HFIN : Hid (∀ (x : Int) (w' : World), x = R → Below qb w w' → Ending.returned (.int .i64 x) = .returned (.int .i64 R) ∧ Below qb w w') := Lib.hid fun x w' h1 h2 => by subst h1; exact ⟨rfl, h2⟩
  rw [hnf] at hff hW0 HK0 HHAS HLIE ⊢
  rw [hnl] at hll hW0 HK0 HLIE ⊢
  rw [hnr] at _hcp hr HLIE e0 ⊢
  rw [hnp] at _hcp HLIE ⊢
  rw [hqb]
  have HRE := Lib.hid hR
  rw [hR]
  unfold talkA at hW0 HK0 HLIE ⊢
  have HNP1 : Hid (np = 1) := Lib.hid (by rw [← hnp, ← hnr, h1]; rfl)
  clear hf hl hp hnf hnl hnr hnp hpl hbb d0 hb0 hb0' hR
  go_enter Try.func89, Try.ntmps89
  go_upto_region 1 with (fail)
  clear hqb hW0
  have q0 : W0.cell? ⟨qb, 0, none⟩ = some (.int .i64 N) := HK0.out.cell 0
  have q1 : W0.cell? ⟨qb, 1, none⟩ = some (.int .i64 F) := HK0.out.cell 1
  have q2 : W0.cell? ⟨qb, 2, none⟩ = some (.slice Af nf cf) := HK0.out.cell 2
  have q3 : W0.cell? ⟨qb, 3, none⟩ = some (.slice A nl c) := HK0.out.cell 3
  have q4 : W0.cell? ⟨qb, 4, none⟩ = some (.int .i64 fr) := HK0.out.cell 4
  have q5 : W0.cell? ⟨qb, 5, none⟩ = some (.int .i64 value) := HK0.out.cell 5
  go_wp2_with fail
  refine HHAS.out.mono ?_
  rintro e w1 ⟨rfl, rfl⟩
  rw [hb]
  have HRL : Hid (value = R) := Lib.hid (by
    rw [← HRE.out, h1]
    show _ = if hasB fl j = true then _ else _
    rw [if_neg (by rw [hb]; decide)]; rfl)
  have hn1 : np = 1 := by rw [HNP1.out]
  subst hn1
  clear hb h1
  go_wp2_with fail
  go_ret
  exact HFIN.out _ _ HRL.out HB0.out
set_option maxRecDepth 100000 in
set_option maxHeartbeats 8000000 in
theorem refHeard_many (N F : Nat) (Af : Option Addr) (cf : Nat) (fl : List Int) (A : Option Addr) (c : Nat) (l : List LieD) (fr value : Int) (rp : List Nat) (j : Nat) (w : World) (Ap : Option Addr) (cp i : Nat)
    (hf : IntsAt w w.heap.size Af fl) (hl : LiesAt w w.heap.size A l) (hp : IntsAt w w.heap.size Ap (upI (j :: rp)).reverse) (hcp : rp.length + 1 ≤ cp) (hr : rp.length ≤ 100) (k : Nat) (rq : List Nat) (hb : hasB fl j = false) (h1 : rp = k :: rq)
    (ih : ∀ (w : World), IntsAt w w.heap.size Af fl → LiesAt w w.heap.size A l → IntsAt w w.heap.size Ap (upI rp).reverse → Calls Try.prog 89 #[.agg (talkA N F Af fl.length cf A l.length c fr value), .slice Ap rp.length cp, .int .i64 j] w fun e w' => e = .returned (.int .i64 (heardB (talkD N F fl fr l value) rp j)) ∧ Below w.heap.size w w') :
    Calls Try.prog 89 #[.agg (talkA N F Af fl.length cf A l.length c fr value), .slice Ap (rp.length + 1) cp, .int .i64 i] w fun e w' => e = .returned (.int .i64 (heardB (talkD N F fl fr l value) (j :: rp) i)) ∧ Below w.heap.size w w' := by
  have hll := hl.len
  have hff := hf.1
  obtain ⟨qb, hqb⟩ : ∃ qb, w.heap.size = qb := ⟨_, rfl⟩
  have HQB := Lib.hid hqb
  have hpl := path_lenI j rp
  obtain ⟨bb, off, rfl, hbb, d0⟩ := Sl.at1 hp (i := rp.length) (by rw [hpl]; omega)
  try dsimp only at d0
  rw [path_lastI] at d0
  have HPP := Lib.hid hp
  have HF := Lib.hid hf
  have HL := Lib.hid hl
  obtain ⟨W0, hW0⟩ : ∃ W0, w.alloc (.cells (talkA N F Af fl.length cf A l.length c fr value) 108) = W0 := ⟨_, rfl⟩
  have hb0 : Below qb w W0 := by rw [← hW0, ← hqb]; exact (Below.refl _ w).alloc (Nat.le_refl _) _
  have HB0 : Hid (Below qb w W0) := Lib.hid hb0
  have HK0 : Hid (Bk W0 qb 108 (talkA N F Af fl.length cf A l.length c fr value)) := Lib.hid (by rw [← hW0, ← hqb]; exact Bk.new _ _ _)
  have hb0' : Below w.heap.size w W0 := by rw [hqb]; exact hb0
  have HHAS := Lib.hid (has_any W0 Af cf fl j (Sl.mono (Sl.below hf hb0') hb0'.size))
  have HLIE := Lib.hid (refLie_any W0 N F Af fl.length cf A c l fr value (some ⟨bb, off, none⟩) cp (upI (j :: rp)).reverse i ((hl.below hb0').mono hb0'.size) (Sl.mono (Sl.below hp hb0') hb0'.size))
  rw [hpl] at HLIE
  have e0 : W0.cell? ⟨bb, off + rp.length, none⟩ = some (.int .i64 j) := (hb0.cell (p := ⟨bb, off + rp.length, none⟩) (by rw [← hqb]; exact hbb)).trans d0
  have HIH := Lib.hid fun (w1 : World) (hb1 : Below qb w w1) => ih w1 (Sl.mono (Sl.below hf (by rw [hqb]; exact hb1)) hb1.size) ((hl.below (by rw [hqb]; exact hb1)).mono hb1.size) (Sl.mono (Sl.below hp.init (by rw [hqb]; exact hb1)) hb1.size)
  clear ih
  obtain ⟨nf, hnf⟩ : ∃ nf, fl.length = nf := ⟨_, rfl⟩
  obtain ⟨nl, hnl⟩ : ∃ nl, l.length = nl := ⟨_, rfl⟩
  obtain ⟨nr, hnr⟩ : ∃ nr, rp.length = nr := ⟨_, rfl⟩
  obtain ⟨np, hnp⟩ : ∃ np, nr + 1 = np := ⟨_, rfl⟩
  have hnp1 : (np : Int) - 1 = (nr : Int) := by omega
  have hnrp : (nr : Int) < (np : Int) := by omega
  have h0r : (0 : Int) ≤ (nr : Int) := by omega
  obtain ⟨R, hR⟩ : ∃ R, heardB (talkD N F fl fr l value) (j :: rp) i = R := ⟨_, rfl⟩
  have HTR : Hid (∀ a b, Below qb w a → Below a.heap.size a b → Below qb w b) := Lib.hid fun _ _ h1 h2 => h1.trans (h2.mono (by rw [← hqb]; exact h1.size))
  have HFIN : Hid (∀ (x : Int) (w' : World), x = R → Below qb w w' → Ending.returned (.int .i64 x) = .returned (.int .i64 R) ∧ Below qb w w') := Lib.hid fun x w' h1 h2 => by subst h1; exact ⟨rfl, h2⟩
  rw [hnf] at hff hW0 HK0 HHAS HLIE HIH ⊢
  rw [hnl] at hll hW0 HK0 HLIE HIH ⊢
  rw [hnr] at hcp hr HLIE e0 HIH ⊢
  rw [hnp] at hcp HLIE ⊢
  rw [hqb]
  have HRE := Lib.hid hR
  rw [hR]
  unfold talkA at hW0 HK0 HLIE HIH ⊢
  have HN2 : Hid (2 ≤ np) := Lib.hid (by rw [← hnp, ← hnr, h1]; simp)
  clear hf hl hp hnf hnl hnr hnp hpl hbb d0 hb0 hb0' hR
  go_enter Try.func89, Try.ntmps89
  go_upto_region 1 with (fail)
  clear hqb hW0
  have q0 : W0.cell? ⟨qb, 0, none⟩ = some (.int .i64 N) := HK0.out.cell 0
  have q1 : W0.cell? ⟨qb, 1, none⟩ = some (.int .i64 F) := HK0.out.cell 1
  have q2 : W0.cell? ⟨qb, 2, none⟩ = some (.slice Af nf cf) := HK0.out.cell 2
  have q3 : W0.cell? ⟨qb, 3, none⟩ = some (.slice A nl c) := HK0.out.cell 3
  have q4 : W0.cell? ⟨qb, 4, none⟩ = some (.int .i64 fr) := HK0.out.cell 4
  have q5 : W0.cell? ⟨qb, 5, none⟩ = some (.int .i64 value) := HK0.out.cell 5
  go_wp2_with fail
  refine HHAS.out.mono ?_
  rintro e w1 ⟨rfl, rfl⟩
  rw [hb]
  have HRL : Hid (heardB (talkD N F fl fr l value) rp j = R) := Lib.hid (by
    rw [← HRE.out]
    show _ = if hasB fl j = true then _ else _
    rw [if_neg (by rw [hb]; decide)])
  obtain ⟨x, hx⟩ : ∃ x, heardB (talkD N F fl fr l value) rp j = x := ⟨_, rfl⟩
  rw [hx] at HRL HIH
  have hn1 : ¬ (np : Int) = 1 := by have := HN2.out; omega
  have HIX : Hid (∀ x_1 : Ext w1, Calls Try.prog 89 #[.agg #[.int .i64 N, .int .i64 F, .slice Af nf cf, .slice A nl c, .int .i64 fr, .int .i64 value], .slice (some ⟨bb, off, none⟩) nr cp, .int .i64 j] x_1.w fun e w' => e = .returned (.int .i64 x) ∧ Below x_1.w.heap.size x_1.w w') := Lib.hid fun y => HIH.out y.w (HTR.out _ _ HB0.out y.h)
  have x0 : ∀ y : Ext w1, y.w.cell? ⟨qb, 0, none⟩ = some (.int .i64 N) := Ext.cell q0
  have x1 : ∀ y : Ext w1, y.w.cell? ⟨qb, 1, none⟩ = some (.int .i64 F) := Ext.cell q1
  have x2 : ∀ y : Ext w1, y.w.cell? ⟨qb, 2, none⟩ = some (.slice Af nf cf) := Ext.cell q2
  have x3 : ∀ y : Ext w1, y.w.cell? ⟨qb, 3, none⟩ = some (.slice A nl c) := Ext.cell q3
  have x4 : ∀ y : Ext w1, y.w.cell? ⟨qb, 4, none⟩ = some (.int .i64 fr) := Ext.cell q4
  have x5 : ∀ y : Ext w1, y.w.cell? ⟨qb, 5, none⟩ = some (.int .i64 value) := Ext.cell q5
  have hrc : (nr : Int) ≤ (cp : Int) := by omega
  clear hb h1 hx q0 q1 q2 q3 q4 q5 HLIE HHAS
  go_wp2_with fail
  refine wp_region_ext_quiet (by kernel_rfl) (by kernel_rfl) ?_
  repeat (go_big_quiet_step ((go_at_call 89; exact Ext.calls (HIX.out _))))
  refine wpQuiet_nil ?_
  intro w4 hb4
  go_wp2_with fail
  go_ret
  exact HFIN.out _ _ HRL.out (HTR.out _ _ HB0.out hb4)
theorem refHeard_any (N F : Nat) (Af : Option Addr) (cf : Nat) (fl : List Int) (A : Option Addr) (c : Nat) (l : List LieD) (fr value : Int) (Ap : Option Addr) (cp : Nat) : ∀ (rp : List Nat) (j : Nat) (w : World) (i : Nat)
    (_ : IntsAt w w.heap.size Af fl) (_ : LiesAt w w.heap.size A l) (_ : IntsAt w w.heap.size Ap (upI (j :: rp)).reverse) (_ : rp.length + 1 ≤ cp) (_ : rp.length ≤ 100),
    Calls Try.prog 89 #[.agg (talkA N F Af fl.length cf A l.length c fr value), .slice Ap (rp.length + 1) cp, .int .i64 i] w fun e w' => e = .returned (.int .i64 (heardB (talkD N F fl fr l value) (j :: rp) i)) ∧ Below w.heap.size w w'
  | rp, j, w, i, hf, hl, hp, hcp, hr => by
    cases hb : hasB fl j with
    | true => exact refHeard_bad N F Af cf fl A c l fr value rp j w Ap cp i hf hl hp hcp hr hb
    | false =>
      match rp, hp, hcp, hr with
      | [], hp, hcp, hr => exact refHeard_one N F Af cf fl A c l fr value [] j w Ap cp i hf hl hp hcp hr hb rfl
      | k :: rq, hp, hcp, hr =>
        have hr2 : rq.length + 1 ≤ 100 := hr
        have hcp2 : rq.length + 1 + 1 ≤ cp := hcp
        exact refHeard_many N F Af cf fl A c l fr value (k :: rq) j w Ap cp i hf hl hp hcp hr k rq hb rfl fun w1 h1 h2 h3 => refHeard_any N F Af cf fl A c l fr value Ap cp rq k w1 j h1 h2 h3 (by omega) (by omega)
end Go.Proofs.Ytnmccbjdfdbgpaa
