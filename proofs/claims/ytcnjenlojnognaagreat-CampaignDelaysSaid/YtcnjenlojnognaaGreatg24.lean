/- What is proved: the texts Do, one behind the other; each says at its head what it proves, and under which conditions. -/
import Derived.Test.YtcnjenlojnognaaGreatg23
/- What is proved: the contracts of the document's Delay and Slack. Conditions: the campaign and the plan lie in memory. -/
namespace Go.Proofs.YtcnjenlojnognaaGreat
open Go.RowKit

def RDelayPost (c : CampD) (l : List LaunchD) (i days : Int) (w : World) (e : Ending) (w' : World) : Prop :=
 ∃ A c', e = .returned (.tuple #[.slice A (delayB c l i days).1.length c', .int .i64 (delayB c l i days).2]) ∧ PlanAt w' w'.heap.size A (delayB c l i days).1 ∧ Below w.heap.size w w'
theorem planAt_nil (w : World) (A : Option Addr) : PlanAt w w.heap.size A [] := (PlanO.nil w 0 A).at
set_option maxRecDepth 100000 in
set_option maxHeartbeats 16000000 in
theorem refDelay_any (w : World) (V : CV) (c : CampD) (h : CampAt w w.heap.size V c) (l : List LaunchD) (AL : Option Addr) (cL : Nat) (hp : PlanAt w w.heap.size AL l) (hcap : l.length ≤ cL) (hl20 : l.length ≤ 2000) (i days : Int) :
  Calls Tryz.prog 33 #[.agg (campA V c), .slice AL l.length cL, .int .i64 i, .int .i64 days] w (RDelayPost c l i days w) := by
 obtain ⟨qb, hqb⟩ : ∃ qb, w.heap.size = qb := ⟨_, rfl⟩
 obtain ⟨W0, hW0⟩ : ∃ W0, w.alloc (.cells (campA V c) 26) = W0 := ⟨_, rfl⟩
 have hb0 : Below w.heap.size w W0 := by rw [← hW0]; exact (Below.refl _ w).alloc (Nat.le_refl _) _
 have HKC : Hid (Bk W0 qb 26 (campA V c)) := Lib.hid (by rw [← hW0, ← hqb]; exact Bk.new _ _ _)
 have HCA := Lib.hid (h.later hb0)
 have HPA := Lib.hid (hp.later hb0)
 have HCAP := Lib.hid hcap
 obtain ⟨nl, hnl⟩ : ∃ nl, l.length = nl := ⟨_, rfl⟩
 have HNL := Lib.hid hnl
 obtain ⟨bv, hbv⟩ : ∃ b, validB c l = b := ⟨_, rfl⟩
 obtain ⟨bi, hbi⟩ : ∃ b, inB i 0 ((nl : Int) - 1) = b := ⟨_, rfl⟩
 obtain ⟨bd, hbd⟩ : ∃ b, inB days 0 10000 = b := ⟨_, rfl⟩
 have HBV := Lib.hid hbv
 have HBI := Lib.hid hbi
 have HBD := Lib.hid hbd
 have HV := Lib.hid (refValid_val W0 V c HCA.out l AL cL HPA.out hcap bv hbv nl hnl)
 have HI : Hid (∀ w1, Calls Tryz.prog 53 #[.int .i64 i, .int .i64 0, .int .i64 ((nl : Int) - 1)] w1 fun e w' => e = .returned (.bool bi) ∧ Below w1.heap.size w1 w') := Lib.hid fun w1 => by rw [← hbi]; exact inW_any _ _ _ _
 have HDI : Hid (∀ w1, Calls Tryz.prog 53 #[.int .i64 days, .int .i64 0, .int .i64 10000] w1 fun e w' => e = .returned (.bool bd) ∧ Below w1.heap.size w1 w') := Lib.hid fun w1 => by rw [← hbd]; exact inW_any _ _ _ _
 obtain ⟨PQ, hPQ⟩ : ∃ Q, RDelayPost c l i days w = Q := ⟨_, rfl⟩
 have HFIN : Hid (∀ A n c' L g w', delayB c l i days = (L, g) → L.length = n → PlanAt w' w'.heap.size A L → Below W0.heap.size W0 w' → PQ (.returned (.tuple #[.slice A n c', .int .i64 g])) w') := Lib.hid fun A n c' L g w' h1 h2 h3 h4 => by
  rw [← hPQ]; unfold RDelayPost; rw [h1, ← h2]; exact ⟨A, c', rfl, h3, hb0.trans (h4.mono hb0.size)⟩
 have HEQ : Hid (delayB c l i days = if bv = false then ([], 2) else if bi = false then ([], 7) else if bd = false then ([], 4) else if validB c (delayedB c l i days) = false then ([], 7) else (delayedB c l i days, 0)) := Lib.hid (by
  unfold delayB meantB
  rw [hbv, hnl, hbi, hbd]
  cases bv with
  | false => rfl
  | true =>
   cases bi with
   | false => rfl
   | true => rfl)
 have HLC : Hid (∀ w1, Below W0.heap.size W0 w1 → ∀ j u, (campA V c)[j]? = some u → w1.cell? ⟨qb, 0 + j, none⟩ = some u) := Lib.hid fun w1 hb j u hj => by rw [Nat.zero_add, (HKC.out.below hb HKC.out.lt).cell]; exact hj
 have HLC0 := Lib.hid (HLC.out W0 (Below.refl _ _))
 rw [hnl] at hl20 ⊢
 rw [hPQ]
 clear h hp hb0 hcap hnl hbv hbi hbd hPQ
 simp only [campA] at hW0 ⊢
 go_enter Tryz.func33, Tryz.ntmps33
 go_upto_region 1 with (fail)
 clear hW0 hqb
 go_wp2_with (first | (refine wpLoadAt rfl 26 _ rfl qb 0 rfl (campA V c) _ HLC0.out und_camp rfl (info_campA V c) ?_))
 refine HV.out.mono ?_
 rintro e W1 ⟨rfl, hb1⟩
 have HB1 := Lib.hid hb1
 clear hb1
 cases bv with
 | false =>
  go_wp2_with fail
  exact HFIN.out _ _ _ [] 2 _ HEQ.out rfl (planAt_nil _ _) HB1.out
 | true =>
 have hws1 : IntKind.i64.wrap ((nl : Int) - 1) = (nl : Int) - 1 := IntWalk.i64_in _ (by omega)
 go_wp2_with fail
 refine (HI.out _).mono ?_
 rintro e W2 ⟨rfl, hb2⟩
 have HB2 := Lib.hid (HB1.out.trans (hb2.mono HB1.out.size))
 clear hb2
 cases bi with
 | false =>
  go_wp2_with fail
  exact HFIN.out _ _ _ [] 7 _ HEQ.out rfl (planAt_nil _ _) HB2.out
 | true =>
 go_wp2_with fail
 refine (HDI.out _).mono ?_
 rintro e W3 ⟨rfl, hb3⟩
 have HB3 := Lib.hid (HB2.out.trans (hb3.mono HB2.out.size))
 clear hb3 hws1
 cases bd with
 | false =>
  go_wp2_with fail
  exact HFIN.out _ _ _ [] 4 _ HEQ.out rfl (planAt_nil _ _) HB3.out
 | true =>
 have hin := inB_iff.1 HBI.out
 have hdd := inB_iff.1 HBD.out
 obtain ⟨m, rfl⟩ : ∃ m : Nat, i = (m : Int) := ⟨i.toNat, by omega⟩
 have HM : Hid (m < l.length) := Lib.hid (by rw [HNL.out]; omega)
 have HD : Hid (0 ≤ days ∧ days ≤ 10001) := Lib.hid (by omega)
 obtain ⟨D, hD⟩ : ∃ D, delayedB c l m days = D := ⟨_, rfl⟩
 have HDL : Hid (D.length = nl) := Lib.hid (by rw [← hD, delayed_len, HNL.out])
 obtain ⟨b2, hb2⟩ : ∃ b, validB c D = b := ⟨_, rfl⟩
 have HEQ2 : Hid (delayB c l m days = if b2 = false then ([], 7) else (D, 0)) := Lib.hid (by rw [HEQ.out, hD, hb2]; rfl)
 have HVL := Lib.hid (valid_iff.1 HBV.out)
 have HDEL : Hid (∀ w1, Below W0.heap.size W0 w1 → Calls Tryz.prog 77 #[.agg (campA V c), .slice AL nl cL, .int .i64 (m : Int), .int .i64 days] w1 fun e w' => ∃ A c', e = .returned (.slice A nl c') ∧ PlanAt w' w'.heap.size A (delayK c l m days nl) ∧ Below w1.heap.size w1 w') := Lib.hid fun w1 hb => by
  rw [← HNL.out]
  exact refDelayed_any w1 V c (HCA.out.later hb) HVL.out.1 l AL cL (HPA.out.later hb) HVL.out.2.poss (by rw [HNL.out]; exact hl20) m HM.out days HD.out
 have HSRT : Hid (∀ w1 A c', PlanAt w1 w1.heap.size A (delayK c l m days nl) → Calls Tryz.prog 76 #[.slice A nl c'] w1 fun e w' => ∃ A c', e = .returned (.slice A nl c') ∧ nl ≤ c' ∧ PlanAt w' w'.heap.size A D ∧ Below w1.heap.size w1 w') := Lib.hid fun w1 A c' hp => by
  have h1 := refSorted_any w1 _ A c' hp (by rw [delayK_len]; exact hl20) (by rw [delayK_len]; have := HM.out; have := HNL.out; omega)
  unfold RSortPost at h1
  rw [delayK_len] at h1
  have h2 : sortL (delayK c l m days nl) = D := by rw [← hD, ← HNL.out]; rfl
  rw [h2] at h1
  exact h1
 have HV2 : Hid (∀ w1 A c', Below W0.heap.size W0 w1 → PlanAt w1 w1.heap.size A D → nl ≤ c' → Calls Tryz.prog 31 #[.agg (campA V c), .slice A nl c'] w1 fun e w' => e = .returned (.bool b2) ∧ Below w1.heap.size w1 w') := Lib.hid fun w1 A c' hb hp hc =>
  refValid_val w1 V c (HCA.out.later hb) D A c' hp (by rw [HDL.out]; exact hc) b2 hb2 nl HDL.out
 clear hin hdd hD hb2
 go_wp2_with (first | (refine wpLoadAt rfl 26 _ rfl qb 0 rfl (campA V c) _ (HLC.out _ HB3.out) und_camp rfl (info_campA V c) ?_))
 refine (HDEL.out _ HB3.out).mono ?_
 rintro e W4 ⟨A4, c4, rfl, hp4, hb4⟩
 have HP4 := Lib.hid hp4
 have HB4 := Lib.hid (HB3.out.trans (hb4.mono HB3.out.size))
 clear hp4 hb4
 go_wp2_with fail
 refine (HSRT.out _ _ _ HP4.out).mono ?_
 rintro e W5 ⟨A5, c5, rfl, hc5, hp5, hb5⟩
 have HP5 := Lib.hid hp5
 have HC5 := Lib.hid hc5
 have HB5 := Lib.hid (HB4.out.trans (hb5.mono HB4.out.size))
 clear hp5 hb5 hc5
 go_wp2_with (first | (refine wpLoadAt rfl 26 _ rfl qb 0 rfl (campA V c) _ (HLC.out _ HB5.out) und_camp rfl (info_campA V c) ?_))
 refine (HV2.out _ _ _ HB5.out HP5.out HC5.out).mono ?_
 rintro e W6 ⟨rfl, hb6⟩
 have HP6 := Lib.hid (HP5.out.later hb6)
 have HB6 := Lib.hid (HB5.out.trans (hb6.mono HB5.out.size))
 clear hb6
 cases b2 with
 | false =>
  go_wp2_with fail
  exact HFIN.out _ _ _ [] 7 _ HEQ2.out rfl (planAt_nil _ _) HB6.out
 | true =>
  go_wp2_with fail
  exact HFIN.out _ _ _ D 0 _ HEQ2.out HDL.out HP6.out HB6.out
set_option maxRecDepth 100000 in
set_option maxHeartbeats 16000000 in
theorem refSlack_any (w : World) (V : CV) (c : CampD) (h : CampAt w w.heap.size V c) (l : List LaunchD) (AL : Option Addr) (cL : Nat) (hp : PlanAt w w.heap.size AL l) (hcap : l.length ≤ cL) (hl20 : l.length ≤ 2000) (i : Int) :
  Calls Tryz.prog 35 #[.agg (campA V c), .slice AL l.length cL, .int .i64 i] w (SlackPost c l i w) := by
 obtain ⟨qb, hqb⟩ : ∃ qb, w.heap.size = qb := ⟨_, rfl⟩
 obtain ⟨W0, hW0⟩ : ∃ W0, w.alloc (.cells (campA V c) 26) = W0 := ⟨_, rfl⟩
 have hb0 : Below w.heap.size w W0 := by rw [← hW0]; exact (Below.refl _ w).alloc (Nat.le_refl _) _
 have HKC : Hid (Bk W0 qb 26 (campA V c)) := Lib.hid (by rw [← hW0, ← hqb]; exact Bk.new _ _ _)
 have HCA := Lib.hid (h.later hb0)
 have HPA := Lib.hid (hp.later hb0)
 have HCAP := Lib.hid hcap
 obtain ⟨nl, hnl⟩ : ∃ nl, l.length = nl := ⟨_, rfl⟩
 have HNL := Lib.hid hnl
 obtain ⟨bv, hbv⟩ : ∃ b, validB c l = b := ⟨_, rfl⟩
 obtain ⟨bi, hbi⟩ : ∃ b, inB i 0 ((nl : Int) - 1) = b := ⟨_, rfl⟩
 have HV := Lib.hid (refValid_val W0 V c HCA.out l AL cL HPA.out hcap bv hbv nl hnl)
 have HI : Hid (∀ w1, Calls Tryz.prog 53 #[.int .i64 i, .int .i64 0, .int .i64 ((nl : Int) - 1)] w1 fun e w' => e = .returned (.bool bi) ∧ Below w1.heap.size w1 w') := Lib.hid fun w1 => by rw [← hbi]; exact inW_any _ _ _ _
 obtain ⟨PQ, hPQ⟩ : ∃ Q, SlackPost c l i w = Q := ⟨_, rfl⟩
 have HFIN : Hid (∀ a g w', slackB c l i = (a, g) → Below W0.heap.size W0 w' → PQ (.returned (.tuple #[.int .i64 a, .int .i64 g])) w') := Lib.hid fun a g w' h1 h4 => by
  rw [← hPQ]; unfold SlackPost; rw [h1]; exact ⟨rfl, hb0.trans (h4.mono hb0.size)⟩
 have HMT : Hid (meantB c l i = if bv = false then 2 else if bi = false then 7 else 0) := Lib.hid (by unfold meantB; rw [hbv, hnl, hbi])
 have HLC : Hid (∀ w1, Below W0.heap.size W0 w1 → ∀ j u, (campA V c)[j]? = some u → w1.cell? ⟨qb, 0 + j, none⟩ = some u) := Lib.hid fun w1 hb j u hj => by rw [Nat.zero_add, (HKC.out.below hb HKC.out.lt).cell]; exact hj
 have HLC0 := Lib.hid (HLC.out W0 (Below.refl _ _))
 rw [hnl] at hl20 ⊢
 rw [hPQ]
 clear h hp hb0 hcap hnl hbv hbi hPQ
 simp only [campA] at hW0 ⊢
 go_enter Tryz.func35, Tryz.ntmps35
 go_upto_region 1 with (fail)
 clear hW0 hqb
 go_wp2_with (first | (refine wpLoadAt rfl 26 _ rfl qb 0 rfl (campA V c) _ HLC0.out und_camp rfl (info_campA V c) ?_))
 refine HV.out.mono ?_
 rintro e W1 ⟨rfl, hb1⟩
 have HB1 := Lib.hid hb1
 clear hb1
 cases bv with
 | false =>
  have HE : Hid (slackB c l i = (0, 2)) := Lib.hid (by unfold slackB; rw [HMT.out]; rfl)
  go_wp2_with fail
  exact HFIN.out _ _ _ HE.out HB1.out
 | true =>
 have hws1 : IntKind.i64.wrap ((nl : Int) - 1) = (nl : Int) - 1 := IntWalk.i64_in _ (by omega)
 go_wp2_with fail
 refine (HI.out _).mono ?_
 rintro e W2 ⟨rfl, hb2⟩
 have HB2 := Lib.hid (HB1.out.trans (hb2.mono HB1.out.size))
 clear hb2
 cases bi with
 | false =>
  have HE : Hid (slackB c l i = (0, 7)) := Lib.hid (by unfold slackB; rw [HMT.out]; rfl)
  go_wp2_with fail
  exact HFIN.out _ _ _ HE.out HB2.out
 | true =>
 have HM0 : Hid (meantB c l i = 0) := Lib.hid HMT.out
 obtain ⟨pf, hpf⟩ : ∃ f : Int → Bool, (fun d => validB c (delayedB c l i d)) = f := ⟨_, rfl⟩
 have HSL : Hid (slackB c l i = (halvesB pf 10001 0 10001, 0)) := Lib.hid (by unfold slackB; rw [if_neg (by rw [HM0.out]; decide), hpf])
 have HDE : Hid (∀ (d : Int) (b : Bool), 0 ≤ d → d ≤ 10000 → pf d = b → ∀ w1, Below W0.heap.size W0 w1 → Calls Tryz.prog 33 #[.agg (campA V c), .slice AL nl cL, .int .i64 i, .int .i64 d] w1 fun e w' => ∃ A n c', e = .returned (.tuple #[.slice A n c', .int .i64 (if b then 0 else 7)]) ∧ Below w1.heap.size w1 w') := Lib.hid fun d b h0 h1 hb w1 hbw => by
  rw [← HNL.out]
  have hsnd : (delayB c l i d).2 = if b then 0 else 7 := by
   have h3 : validB c (delayedB c l i d) = b := by rw [← hb, ← hpf]
   unfold delayB
   rw [if_neg (by rw [HM0.out]; decide), if_neg (by rw [inB_iff.2 ⟨h0, h1⟩]; decide), h3]
   cases b <;> rfl
  refine (refDelay_any w1 V c (HCA.out.later hbw) l AL cL (HPA.out.later hbw) HCAP.out (by rw [HNL.out]; exact hl20) i d).mono fun e w' ⟨A, c', he, _, h2⟩ => ?_
  rw [hsnd] at he
  exact ⟨A, _, c', he, h2⟩
 clear hpf hws1
 go_wp2_with fail
 go_loopw [8, 9] (fun lv hv wr => ∃ lo hi : Int, lv = .int .i64 lo ∧ hv = .int .i64 hi ∧ 0 ≤ lo ∧ lo < hi ∧ hi ≤ 10001 ∧ Hid (Below W0.heap.size W0 wr ∧ halvesB pf 10001 lo hi = halvesB pf 10001 0 10001)) (fun lv hv _ => (intOf hv - intOf lv).toNat)
 case atStart => exact ⟨0, 10001, rfl, rfl, by omega, by omega, by omega, Lib.hid ⟨HB2.out, rfl⟩⟩
 case round =>
  obtain ⟨lo, hi, rfl, rfl, hlo, hlh, hhi, hs⟩ := hrel
  have HB := Lib.hid hs.out.1
  have HH := Lib.hid hs.out.2
  clear hs
  by_cases hgo : 1 < hi - lo
  ·have hgo1 : decide (1 < hi - lo) = true := decide_eq_true hgo
   have hws : IntKind.i64.wrap (hi - lo) = hi - lo := IntWalk.i64_in _ (by omega)
   have hws2 : IntKind.i64.wrap (lo + hi) = lo + hi := IntWalk.i64_in _ (by omega)
   obtain ⟨mid, hmid⟩ : ∃ m, (lo + hi) / 2 = m := ⟨_, rfl⟩
   have hmt : (lo + hi).tdiv 2 = mid := by rw [Int.tdiv_eq_ediv_of_nonneg (by omega)]; exact hmid
   have hm1 : lo < mid := by omega
   have hm2 : mid < hi := by omega
   obtain ⟨bm, hbm⟩ : ∃ b, pf mid = b := ⟨_, rfl⟩
   have HSTEP : Hid (halvesB pf 10001 lo hi = if bm then halvesB pf 10001 mid hi else halvesB pf 10001 lo mid) := Lib.hid (by rw [halves_step pf lo hi hlo hhi hgo, hmid, hbm])
   have HCALL := Lib.hid (HDE.out mid bm (by omega) (by omega) hbm _ HB.out)
   clear hmid hgo hbm
   go_wp2_with (first | (refine wpLoadAt rfl 26 _ rfl qb 0 rfl (campA V c) _ (HLC.out _ HB.out) und_camp rfl (info_campA V c) ?_))
   refine HCALL.out.mono ?_
   rintro e W3 ⟨A3, n3, c3, rfl, hb3⟩
   have HB3 := Lib.hid (HB.out.trans (hb3.mono HB.out.size))
   clear hb3
   cases bm with
   | true =>
    simp only [if_true]
    go_wp2_with fail
    go_roundw
    case rel => exact ⟨mid, hi, rfl, rfl, by omega, hm2, hhi, Lib.hid ⟨HB3.out, by rw [← HH.out, HSTEP.out]; rfl⟩⟩
    case measure => simp [intOf]; omega
   | false =>
    simp only [Bool.false_eq_true, if_false]
    go_wp2_with fail
    go_roundw
    case rel => exact ⟨lo, mid, rfl, rfl, hlo, hm1, by omega, Lib.hid ⟨HB3.out, by rw [← HH.out, HSTEP.out]; rfl⟩⟩
    case measure => simp [intOf]; omega
  ·have hgo1 : decide (1 < hi - lo) = false := decide_eq_false hgo
   have hws : IntKind.i64.wrap (hi - lo) = hi - lo := IntWalk.i64_in _ (by omega)
   have HE : Hid (slackB c l i = (lo, 0)) := Lib.hid (by rw [HSL.out, ← HH.out, halves_stop pf lo hi hgo])
   clear hgo
   go_wp2_with fail
   exact HFIN.out _ _ _ HE.out HB.out
end Go.Proofs.YtcnjenlojnognaaGreat
