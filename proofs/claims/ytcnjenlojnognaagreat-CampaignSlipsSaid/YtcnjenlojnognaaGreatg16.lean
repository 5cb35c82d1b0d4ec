/- What is proved: the texts Ld, one behind the other; each says at its head what it proves, and under which conditions. -/
import Derived.Test.YtcnjenlojnognaaGreatg15
/- What is proved: the walk of CampaignSlips: true for every input. Conditions: the arguments lie in memory. -/
namespace Go.Proofs.YtcnjenlojnognaaGreat
open Go.RowKit

set_option maxRecDepth 100000 in
set_option maxHeartbeats 32000000 in
theorem slipsLaw_any (w : World) (V : CV) (c : CampD) (h : CampAt w w.heap.size V c) (l : List LaunchD) (AL : Option Addr) (cL : Nat) (hp : PlanAt w w.heap.size AL l) (hcap : l.length ≤ cL) (x0 x1 x2 : Int) :
    Calls Tryz.prog 11 #[.agg (campA V c), .slice AL l.length cL, .agg #[.int .i64 x0, .int .i64 x1, .int .i64 x2]] w fun e w' => e = .returned (.bool true) ∧ Below w.heap.size w w' := by
  obtain ⟨qb, hqb⟩ : ∃ qb, w.heap.size = qb := ⟨_, rfl⟩
  obtain ⟨W0, hW0⟩ : ∃ W0, (w.alloc (.cells (campA V c) 26)).alloc (.cells #[.int .i64 x0, .int .i64 x1, .int .i64 x2] 58) = W0 := ⟨_, rfl⟩
  have hb0 : Below w.heap.size w W0 := by rw [← hW0]; exact ((Below.refl _ w).alloc (Nat.le_refl _) _).alloc (by simp) _
  have HKC : Hid (Bk W0 qb 26 (campA V c)) := Lib.hid (by rw [← hW0, ← hqb]; exact (Bk.new _ _ _).alloc _)
  have HKX : Hid (Bk W0 (qb + 1) 58 #[.int .i64 x0, .int .i64 x1, .int .i64 x2]) := Lib.hid (by rw [← hW0, ← hqb]; exact Bk.newAt _ _ _ _ (by simp))
  obtain ⟨PQ, hPQ⟩ : ∃ Q, (fun (e : Ending) (w' : World) => e = .returned (.bool true) ∧ Below w.heap.size w w') = Q := ⟨_, rfl⟩
  have HFIN : Hid (∀ w', Below W0.heap.size W0 w' → PQ (.returned (.bool true)) w') := Lib.hid fun w' h2 => by
    rw [← hPQ]; exact ⟨rfl, hb0.trans (h2.mono hb0.size)⟩
  have HCA := Lib.hid (h.later hb0)
  have HCW : Hid (∀ w1, Below W0.heap.size W0 w1 → CampAt w1 w1.heap.size V c) := Lib.hid fun w1 hb => HCA.out.later hb
  have HPA := Lib.hid (hp.later hb0)
  have HPW : Hid (∀ w1, Below W0.heap.size W0 w1 → PlanAt w1 w1.heap.size AL l) := Lib.hid fun w1 hb => HPA.out.later hb
  have HCAP := Lib.hid hcap
  have hll := hp.len
  obtain ⟨nl, hnl⟩ : ∃ nl, l.length = nl := ⟨_, rfl⟩
  have HNL := Lib.hid hnl
  have HGR : Hid (∀ w1, Below W0.heap.size W0 w1 → Calls Tryz.prog 13 #[.agg (campA V c)] w1 fun e w' => ∃ b, e = .returned (.bool b) ∧ Below W0.heap.size W0 w') := Lib.hid fun w1 hb =>
    (great_any w1 V c (HCW.out w1 hb)).mono fun e w' ⟨b, he, h2⟩ => ⟨b, he, hb.trans (h2.mono hb.size)⟩
  have HLG : Hid (∀ w1, Below W0.heap.size W0 w1 → Calls Tryz.prog 14 #[.slice AL nl cL] w1 fun e w' => ∃ b, e = .returned (.bool b) ∧ Below W0.heap.size W0 w' ∧ (b = false → nl ≤ 20)) := Lib.hid fun w1 hb => by
    rw [← HNL.out]
    exact (long_any w1 AL cL l (HPW.out w1 hb)).mono fun e w' ⟨b, he, h2, h3⟩ => ⟨b, he, hb.trans (h2.mono hb.size), h3⟩
  have HAW : Hid (∀ w1, Below W0.heap.size W0 w1 → Calls Tryz.prog 15 #[] w1 fun e w' => e = .returned (.bool true) ∧ Below W0.heap.size W0 w') := Lib.hid fun w1 hb =>
    (awake_any w1).mono fun e w' ⟨he, h2⟩ => ⟨he, hb.trans (h2.mono hb.size)⟩
  have HAR : Hid (∀ w1, Below W0.heap.size W0 w1 → Calls Tryz.prog 15 #[] w1 fun e w' => e = .returned (.bool true) ∧ Below w1.heap.size w1 w') := Lib.hid fun w1 hb => awake_any w1
  have HLC : Hid (∀ w1, Below W0.heap.size W0 w1 → ∀ j u, (campA V c)[j]? = some u → w1.cell? ⟨qb, 0 + j, none⟩ = some u) := Lib.hid fun w1 hb j u hj => by rw [Nat.zero_add, (HKC.out.below hb HKC.out.lt).cell]; exact hj
  obtain ⟨ng, hng⟩ : ∃ ng, c.cargos.length = ng := ⟨_, rfl⟩
  have HNG := Lib.hid hng
  have HG2 : Hid (∀ w1, Below W0.heap.size W0 w1 → w1.cell? ⟨qb, 2, none⟩ = some (.slice V.gA ng V.gc)) := Lib.hid fun w1 hb => by rw [← HNG.out]; exact HLC.out w1 hb 2 _ rfl
  clear hng
  obtain ⟨s, hs⟩ : ∃ r, (slackB c l x0).1 = r := ⟨_, rfl⟩
  obtain ⟨f, hf⟩ : ∃ r, (slackB c l x0).2 = r := ⟨_, rfl⟩
  have HLAW : Hid (f = 0 → delayB c l x0 0 = (l, 0) ∧ (∀ d, 0 ≤ d → d ≤ 10000 → ((delayB c l x0 d).2 = 0 ↔ d ≤ s)) ∧ ∀ d e, 0 ≤ d → d ≤ e → e ≤ 10000 → (delayB c l x0 e).2 = 0 → (delayB c l x0 d).1.length = nl ∧ (delayB c l x0 e).1.length = nl ∧
      ∀ x ∈ (delayB c l x0 d).1, ∀ y ∈ (delayB c l x0 e).1, 0 < x.cargos.length ∧ 0 < y.cargos.length ∧ (numI x.cargos 0 = numI y.cargos 0 → x.day ≤ y.day)) := Lib.hid fun h0 => by
    have := slips_law (c := c) (l := l) (i := x0) (by rw [hf]; exact h0)
    rw [hs, hnl] at this
    exact this
  have HSL : Hid (∀ w1, Below W0.heap.size W0 w1 → nl ≤ 20 → Calls Tryz.prog 34 #[.agg (campA V c), .slice AL nl cL, .int .i64 x0] w1 fun e w' => e = .returned (.tuple #[.int .i64 s, .int .i64 f]) ∧ Below W0.heap.size W0 w') := Lib.hid fun w1 hb hn => by
    rw [← HNL.out, ← hs, ← hf]
    exact (slack_any w1 V c (HCW.out w1 hb) l AL cL (HPW.out w1 hb) HCAP.out (by rw [HNL.out]; omega) x0).mono fun e w' ⟨he, h2⟩ => ⟨he, hb.trans (h2.mono hb.size)⟩
  have HDE : Hid (∀ (d : Int) (L : List LaunchD) (n : Nat) (g : Int), (delayB c l x0 d) = (L, g) → L.length = n → ∀ w1, Below W0.heap.size W0 w1 → nl ≤ 20 → Calls Tryz.prog 32 #[.agg (campA V c), .slice AL nl cL, .int .i64 x0, .int .i64 d] w1 fun e w' => ∃ A c', e = .returned (.tuple #[.slice A n c', .int .i64 g]) ∧ PlanAt w' w'.heap.size A L ∧ Below w1.heap.size w1 w') := Lib.hid fun d L n g hd hL w1 hb hn => by
    rw [← HNL.out]
    refine (delay_any w1 V c (HCW.out w1 hb) l AL cL (HPW.out w1 hb) HCAP.out (by rw [HNL.out]; omega) x0 d).mono fun e w' ⟨A, c', he, _, hp, h2⟩ => ?_
    rw [hd] at he hp
    rw [← hL]
    exact ⟨A, c', he, hp.at, h2⟩
  have HSA : Hid (∀ w1 A c', Below W0.heap.size W0 w1 → PlanAt w1 w1.heap.size A l → Calls Tryz.prog 27 #[.slice A nl c', .slice AL nl cL] w1 fun e w' => e = .returned (.bool true) ∧ Below w1.heap.size w1 w') := Lib.hid fun w1 A c' hb hp => by
    rw [← HNL.out, ← same_self l]
    exact same_any w1 l l A AL c' cL hp (HPW.out w1 hb)
  have HI : Hid (∀ w1, Below W0.heap.size W0 w1 → w1.cell? ⟨qb + 1, 0, none⟩ = some (.int .i64 x0) ∧ w1.cell? ⟨qb + 1, 1, none⟩ = some (.int .i64 x1) ∧ w1.cell? ⟨qb + 1, 2, none⟩ = some (.int .i64 x2)) := Lib.hid fun w1 hb => by
    have k1 := HKX.out.below hb HKX.out.lt
    exact ⟨k1.cell 0, k1.cell 1, k1.cell 2⟩
  clear hs hf
  rw [hnl, hPQ]
  clear h hp hcap hb0 hPQ hnl
  simp only [campA] at hW0 ⊢
  go_enter Tryz.func11, Tryz.ntmps11
  go_upto_region 1 with (fail)
  clear hW0 hqb
  have HBR0 : Hid (Below W0.heap.size W0 W0) := Lib.hid (Below.refl _ _)
  go_wp2_with (first | (refine wpLoadAt rfl 26 _ rfl qb 0 rfl (campA V c) _ (HLC.out _ HBR0.out) und_camp rfl (info_campA V c) ?_))
  refine (HGR.out _ HBR0.out).mono ?_
  rintro e WG ⟨bg, rfl, hb1⟩
  have HBWG := Lib.hid hb1
  clear hb1
  cases bg with
  | true =>
    go_wp2_with (first | (refine wpLoadAt rfl 26 _ rfl qb 0 rfl (campA V c) _ (HLC.out _ HBWG.out) und_camp rfl (info_campA V c) ?_))
    refine (HAW.out _ HBWG.out).mono ?_
    rintro e WZ ⟨rfl, hb1⟩
    have HBWZ := Lib.hid hb1
    clear hb1
    go_wp2_with fail
    first | exact HFIN.out _ HBWZ.out | (go_ret; exact HFIN.out _ HBWZ.out)
  | false =>
  go_wp2_with (first | (refine wpLoadAt rfl 26 _ rfl qb 0 rfl (campA V c) _ (HLC.out _ HBWG.out) und_camp rfl (info_campA V c) ?_))
  refine (HLG.out _ HBWG.out).mono ?_
  rintro e WL ⟨bl, rfl, hb1, hl20⟩
  have HBWL := Lib.hid hb1
  clear hb1
  cases bl with
  | true =>
    clear hl20
    go_wp2_with (first | (refine wpLoadAt rfl 26 _ rfl qb 0 rfl (campA V c) _ (HLC.out _ HBWL.out) und_camp rfl (info_campA V c) ?_))
    refine (HAW.out _ HBWL.out).mono ?_
    rintro e WZ ⟨rfl, hb1⟩
    have HBWZ := Lib.hid hb1
    clear hb1
    go_wp2_with fail
    first | exact HFIN.out _ HBWZ.out | (go_ret; exact HFIN.out _ HBWZ.out)
  | false =>
  have hn20 : nl ≤ 20 := hl20 rfl
  clear hl20
  obtain ⟨i0, i1, i2⟩ := HI.out WL HBWL.out
  go_wp2_with (first | (refine wpLoadAt rfl 26 _ rfl qb 0 rfl (campA V c) _ (HLC.out _ HBWL.out) und_camp rfl (info_campA V c) ?_))
  refine (HSL.out _ HBWL.out hn20).mono ?_
  rintro e W3 ⟨rfl, hb1⟩
  have HBW3 := Lib.hid hb1
  clear hb1
  clear i0 i1 i2
  by_cases hf : f = 0
  case neg =>
    have hz : (f == 0) = false := by rw [beq_eq_false_iff_ne]; exact hf
    clear hf
    go_wp2_with (first | (refine wpLoadAt rfl 26 _ rfl qb 0 rfl (campA V c) _ (HLC.out _ HBW3.out) und_camp rfl (info_campA V c) ?_))
    refine (HAW.out _ HBW3.out).mono ?_
    rintro e WZ ⟨rfl, hb1⟩
    have HBWZ := Lib.hid hb1
    clear hb1
    go_wp2_with fail
    first | exact HFIN.out _ HBWZ.out | (go_ret; exact HFIN.out _ HBWZ.out)
  case pos =>
  subst hf
  have HL1 := Lib.hid (HLAW.out rfl)
  clear HLAW
  obtain ⟨i0, i1, i2⟩ := HI.out W3 HBW3.out
  go_wp2_with (first | (refine wpLoadAt rfl 26 _ rfl qb 0 rfl (campA V c) _ (HLC.out _ HBW3.out) und_camp rfl (info_campA V c) ?_))
  refine (HDE.out (0) l nl 0 HL1.out.1 HNL.out W3 HBW3.out hn20).mono ?_
  rintro e W4 ⟨AW4, cW4, rfl, hpW4, hb1⟩
  have HRW4 := Lib.hid hb1
  have HBW4 := Lib.hid (HBW3.out.trans (hb1.mono HBW3.out.size))
  clear hb1
  have HPW4 := Lib.hid hpW4
  clear hpW4
  clear i0 i1 i2
  go_wp2_with (first | (refine wpLoadAt rfl 26 _ rfl qb 0 rfl (campA V c) _ (HLC.out _ HBW4.out) und_camp rfl (info_campA V c) ?_))
  refine (HSA.out _ _ _ HBW4.out HPW4.out).mono ?_
  rintro e W5 ⟨rfl, hb1⟩
  have HRW5 := Lib.hid hb1
  have HBW5 := Lib.hid (HBW4.out.trans (hb1.mono HBW4.out.size))
  clear hb1
  obtain ⟨lo, hlo⟩ : ∃ r, min x1 x2 = r := ⟨_, rfl⟩
  obtain ⟨hi, hhi⟩ : ∃ r, max x1 x2 = r := ⟨_, rfl⟩
  have HMN := Lib.hid hlo
  have HMX := Lib.hid hhi
  have hlh : lo ≤ hi := by omega
  clear hlo hhi
  go_upto_region 9 with (fail)
  refine wp_region_steps (by kernel_rfl) (by kernel_rfl) (fun w1 => Below W0.heap.size W0 w1) (fun _ _ _ => True)
    (fun ix u _ _ => match ix with
      | 0 => u = .pointer (some ⟨qb + 1, 1, none⟩)
      | 1 => u = .int .i64 x1
      | 2 => u = .pointer (some ⟨qb + 1, 2, none⟩)
      | 3 => u = .int .i64 x2
      | 4 => u = .int .i64 (min x1 x2)
      | 5 => u = .pointer (some ⟨qb + 1, 1, none⟩)
      | 6 => u = .int .i64 x1
      | 7 => u = .pointer (some ⟨qb + 1, 2, none⟩)
      | 8 => u = .int .i64 x2
      | 9 => u = .int .i64 (max x1 x2)
      | 10 => u = .int .i64 (min x1 x2)
      | _ => u = .int .i64 (max x1 x2)) (HBW5.out.drew) (fun _ _ _ _ _ _ _ _ h _ _ => h) ?_ ?_
  · refine ⟨?_, ?_, ?_, ?_, ?_, ?_, ?_, ?_, ?_, ?_, ?_, ?_, trivial⟩
    · intro a w1 vs K HJ HK HD HN kk
      have e5 := HK 5 (by decide)
      go_simp; exact kk _ _ (by simp) HJ trivial rfl
    · intro a w1 vs K HJ HK HD HN kk
      have e53 := (HD 0 _ 53 rfl rfl rfl).1.trans (HD 0 _ 53 rfl rfl rfl).2
      have ca : w1.cell? ⟨qb + 1, 1, none⟩ = some (.int .i64 x1) := (HI.out w1 HJ).2.1
      go_simp; exact kk _ _ (by simp) HJ trivial rfl
    · intro a w1 vs K HJ HK HD HN kk
      have e5 := HK 5 (by decide)
      go_simp; exact kk _ _ (by simp) HJ trivial rfl
    · intro a w1 vs K HJ HK HD HN kk
      have e55 := (HD 2 _ 55 rfl rfl rfl).1.trans (HD 2 _ 55 rfl rfl rfl).2
      have ca : w1.cell? ⟨qb + 1, 2, none⟩ = some (.int .i64 x2) := (HI.out w1 HJ).2.2
      go_simp; exact kk _ _ (by simp) HJ trivial rfl
    · intro a w1 vs K HJ HK HD HN kk
      have e54 := (HD 1 _ 54 rfl rfl rfl).1.trans (HD 1 _ 54 rfl rfl rfl).2
      have e56 := (HD 3 _ 56 rfl rfl rfl).1.trans (HD 3 _ 56 rfl rfl rfl).2
      go_simp; exact kk _ _ (by simp) HJ trivial rfl
    · intro a w1 vs K HJ HK HD HN kk
      have e5 := HK 5 (by decide)
      go_simp; exact kk _ _ (by simp) HJ trivial rfl
    · intro a w1 vs K HJ HK HD HN kk
      have e58 := (HD 5 _ 58 rfl rfl rfl).1.trans (HD 5 _ 58 rfl rfl rfl).2
      have ca : w1.cell? ⟨qb + 1, 1, none⟩ = some (.int .i64 x1) := (HI.out w1 HJ).2.1
      go_simp; exact kk _ _ (by simp) HJ trivial rfl
    · intro a w1 vs K HJ HK HD HN kk
      have e5 := HK 5 (by decide)
      go_simp; exact kk _ _ (by simp) HJ trivial rfl
    · intro a w1 vs K HJ HK HD HN kk
      have e60 := (HD 7 _ 60 rfl rfl rfl).1.trans (HD 7 _ 60 rfl rfl rfl).2
      have ca : w1.cell? ⟨qb + 1, 2, none⟩ = some (.int .i64 x2) := (HI.out w1 HJ).2.2
      go_simp; exact kk _ _ (by simp) HJ trivial rfl
    · intro a w1 vs K HJ HK HD HN kk
      have e59 := (HD 6 _ 59 rfl rfl rfl).1.trans (HD 6 _ 59 rfl rfl rfl).2
      have e61 := (HD 8 _ 61 rfl rfl rfl).1.trans (HD 8 _ 61 rfl rfl rfl).2
      go_simp; exact kk _ _ (by simp) HJ trivial rfl
    · intro a w1 vs K HJ HK HD HN kk
      have e57 := (HD 4 _ 57 rfl rfl rfl).1.trans (HD 4 _ 57 rfl rfl rfl).2
      go_simp; exact kk _ _ (by simp) HJ trivial rfl
    · intro a w1 vs K HJ HK HD HN kk
      have e62 := (HD 9 _ 62 rfl rfl rfl).1.trans (HD 9 _ 62 rfl rfl rfl).2
      go_simp; exact kk _ _ (by simp) HJ trivial rfl
  · intro vs W6 hw6 hrr
    have e10 : vs 10 = .int .i64 lo := by rw [← HMN.out]; exact hrr 10 _ rfl
    have e11 : vs 11 = .int .i64 hi := by rw [← HMX.out]; exact hrr 11 _ rfl
    have HBW6 : Hid (Below W0.heap.size W0 W6) := Lib.hid hw6
    clear hrr hw6
    simp only [putAll, Act.put, List.setIfInBounds_toArray, List.set_cons_zero, List.set_cons_succ]
    rw [e10, e11]
    by_cases h0 : lo < 0
    · have h0d : decide (lo < 0) = true := decide_eq_true h0
      go_wp2_with (first | (refine wpLoadAt rfl 26 _ rfl qb 0 rfl (campA V c) _ (HLC.out _ HBW6.out) und_camp rfl (info_campA V c) ?_))
      refine (HAW.out _ HBW6.out).mono ?_
      rintro e WZ ⟨rfl, hb1⟩
      have HBWZ := Lib.hid hb1
      clear hb1
      go_wp2_with fail
      first | exact HFIN.out _ HBWZ.out | (go_ret; exact HFIN.out _ HBWZ.out)
    have h0d : decide (lo < 0) = false := decide_eq_false h0
    by_cases h1 : 10000 < hi
    · have h1d : decide (10000 < hi) = true := decide_eq_true h1
      go_wp2_with (first | (refine wpLoadAt rfl 26 _ rfl qb 0 rfl (campA V c) _ (HLC.out _ HBW6.out) und_camp rfl (info_campA V c) ?_))
      refine (HAW.out _ HBW6.out).mono ?_
      rintro e WZ ⟨rfl, hb1⟩
      have HBWZ := Lib.hid hb1
      clear hb1
      go_wp2_with fail
      first | exact HFIN.out _ HBWZ.out | (go_ret; exact HFIN.out _ HBWZ.out)
    have h1d : decide (10000 < hi) = false := decide_eq_false h1
    obtain ⟨g1, hg1⟩ : ∃ r, (delayB c l x0 lo).2 = r := ⟨_, rfl⟩
    obtain ⟨g2, hg2⟩ : ∃ r, (delayB c l x0 hi).2 = r := ⟨_, rfl⟩
    obtain ⟨L1, hL1⟩ : ∃ r, (delayB c l x0 lo).1 = r := ⟨_, rfl⟩
    obtain ⟨L2, hL2⟩ : ∃ r, (delayB c l x0 hi).1 = r := ⟨_, rfl⟩
    have hq1 := HL1.out.2.1 lo (by omega) (by omega)
    have hq2 := HL1.out.2.1 hi (by omega) (by omega)
    have hq3 := HL1.out.2.2 lo hi (by omega) hlh (by omega)
    rw [hg1] at hq1
    rw [hg2] at hq2
    rw [hg2, hL1, hL2] at hq3
    have HD1 : Hid (delayB c l x0 lo = (L1, g1)) := Lib.hid (by rw [← hL1, ← hg1])
    have HD2 : Hid (delayB c l x0 hi = (L2, g2)) := Lib.hid (by rw [← hL2, ← hg2])
    obtain ⟨n1, hn1⟩ : ∃ n, L1.length = n := ⟨_, rfl⟩
    obtain ⟨n2, hn2⟩ : ∃ n, L2.length = n := ⟨_, rfl⟩
    have HN1 := Lib.hid hn1
    have HN2 := Lib.hid hn2
    rw [hn1, hn2] at hq3
    have HQ1 : Hid (decide (lo ≤ s) = (g1 == 0)) := Lib.hid (by rw [Bool.eq_iff_iff, decide_eq_true_eq, beq_iff_eq]; exact hq1.symm)
    have HQ2 : Hid (decide (hi ≤ s) = (g2 == 0)) := Lib.hid (by rw [Bool.eq_iff_iff, decide_eq_true_eq, beq_iff_eq]; exact hq2.symm)
    have HQ3 := Lib.hid hq3
    clear hg1 hg2 hL1 hL2 hn1 hn2 hq1 hq2 hq3 h0 h1 HL1
    obtain ⟨i0, i1, i2⟩ := HI.out W6 HBW6.out
    go_wp2_with (first | (refine wpLoadAt rfl 26 _ rfl qb 0 rfl (campA V c) _ (HLC.out _ HBW6.out) und_camp rfl (info_campA V c) ?_))
    refine (HDE.out (lo) L1 n1 g1 HD1.out HN1.out W6 HBW6.out hn20).mono ?_
    rintro e W7 ⟨AW7, cW7, rfl, hpW7, hb1⟩
    have HRW7 := Lib.hid hb1
    have HBW7 := Lib.hid (HBW6.out.trans (hb1.mono HBW6.out.size))
    clear hb1
    have HPW7 := Lib.hid hpW7
    clear hpW7
    clear i0 i1 i2
    obtain ⟨i0, i1, i2⟩ := HI.out W7 HBW7.out
    go_wp2_with (first | (refine wpLoadAt rfl 26 _ rfl qb 0 rfl (campA V c) _ (HLC.out _ HBW7.out) und_camp rfl (info_campA V c) ?_))
    refine (HDE.out (hi) L2 n2 g2 HD2.out HN2.out W7 HBW7.out hn20).mono ?_
    rintro e W8 ⟨AW8, cW8, rfl, hpW8, hb1⟩
    have HRW8 := Lib.hid hb1
    have HBW8 := Lib.hid (HBW7.out.trans (hb1.mono HBW7.out.size))
    clear hb1
    have HPW8 := Lib.hid hpW8
    clear hpW8
    clear i0 i1 i2
    have HP1 := Lib.hid (HPW7.out.later HRW8.out)
    have hs1 := HQ1.out
    have hs2 := HQ2.out
    by_cases hg : g2 = 0
    case neg =>
      have hgz : (g2 == 0) = false := by rw [beq_eq_false_iff_ne]; exact hg
      rw [hgz] at hs2
      obtain ⟨bz, hbz⟩ : ∃ b, (g1 == 0) = b := ⟨_, rfl⟩
      rw [hbz] at hs1
      clear hg
      cases bz with
      | true =>
        go_wp2_with (first | (refine wpLoadAt rfl 26 _ rfl qb 0 rfl (campA V c) _ (HLC.out _ HBW8.out) und_camp rfl (info_campA V c) ?_))
        refine (HAW.out _ HBW8.out).mono ?_
        rintro e WZ ⟨rfl, hb1⟩
        have HBWZ := Lib.hid hb1
        clear hb1
        go_wp2_with fail
        first | exact HFIN.out _ HBWZ.out | (go_ret; exact HFIN.out _ HBWZ.out)
      | false =>
        go_wp2_with (first | (refine wpLoadAt rfl 26 _ rfl qb 0 rfl (campA V c) _ (HLC.out _ HBW8.out) und_camp rfl (info_campA V c) ?_))
        refine (HAW.out _ HBW8.out).mono ?_
        rintro e WZ ⟨rfl, hb1⟩
        have HBWZ := Lib.hid hb1
        clear hb1
        go_wp2_with fail
        first | exact HFIN.out _ HBWZ.out | (go_ret; exact HFIN.out _ HBWZ.out)
    case pos =>
    subst hg
    have HQ := Lib.hid (HQ3.out rfl)
    obtain ⟨e1, e2, _⟩ := HQ.out
    have e1 := e1.symm
    have e2 := e2.symm
    subst e1
    subst e2
    have hs2' : decide (hi ≤ s) = true := hs2
    have hss : hi ≤ s := of_decide_eq_true hs2'
    have hs1' : decide (lo ≤ s) = true := decide_eq_true (by omega)
    have hg1 : (g1 == 0) = true := by rw [← hs1]; exact hs1'
    rw [beq_iff_eq] at hg1
    subst hg1
    clear hs1 hs2 hss
    go_wp2_with fail
    have HBE : Hid (∀ w1, Below W8.heap.size W8 w1 → Below W0.heap.size W0 w1) := Lib.hid fun w1 hb => HBW8.out.trans (hb.mono HBW8.out.size)
    go_loopw [17] (fun iv wr => ∃ k : Nat, k ≤ nl ∧ iv = .int .i64 k ∧ Hid (Below W8.heap.size W8 wr)) (fun iv _ => nl - (intOf iv).toNat)
    case atStart => exact ⟨0, Nat.zero_le _, rfl, Lib.hid (Below.refl _ _)⟩
    case round =>
      obtain ⟨k, hk, rfl, hs⟩ := hrel
      have HBO := hs
      clear hs
      have h0k : (0 : Int) ≤ (k : Int) := by omega
      by_cases hlt : k < nl
      case pos =>
        have hki : (k : Int) < (nl : Int) := by omega
        obtain ⟨xb, xo, XP, XQ, rfl, hxb, xc, xl⟩ := HP1.out.at (i := k) (by rw [HN1.out]; exact hlt)
        obtain ⟨x, hx⟩ : ∃ x, L1.getD k launch0 = x := ⟨_, rfl⟩
        have HXM : Hid (x ∈ L1) := Lib.hid (by rw [← hx]; exact getD_memL (by rw [HN1.out]; exact hlt))
        rw [hx] at xc xl
        have HXC := Lib.hid xc
        have HXL := Lib.hid xl
        have HXB := Lib.hid hxb
        clear xc xl hx hxb
        go_wp2_with fail
        go_loopw [18] (fun jv wr => ∃ j : Nat, j ≤ nl ∧ jv = .int .i64 j ∧ Hid (Below W8.heap.size W8 wr)) (fun jv _ => nl - (intOf jv).toNat)
        case atStart => exact ⟨0, Nat.zero_le _, rfl, HBO⟩
        case round =>
          obtain ⟨j, hj, rfl, hs⟩ := hrel
          have HBI := hs
          clear hs
          have h0j : (0 : Int) ≤ (j : Int) := by omega
          by_cases hjt : j < nl
          case pos =>
            have hji : (j : Int) < (nl : Int) := by omega
            obtain ⟨yb, yo, YP, YQ, rfl, hyb, yc, yl⟩ := HPW8.out.at (i := j) (by rw [HN2.out]; exact hjt)
            obtain ⟨y, hy⟩ : ∃ y, L2.getD j launch0 = y := ⟨_, rfl⟩
            have hym : y ∈ L2 := by rw [← hy]; exact getD_memL (by rw [HN2.out]; exact hjt)
            rw [hy] at yc yl
            obtain ⟨hx0, hy0, hle⟩ := HQ.out.2.2 x HXM.out y hym
            obtain ⟨pb, po, hXP, hpb, px⟩ := HXL.out.2 hx0
            obtain ⟨sb, so, hYP, hsb, sy⟩ := yl.2 hy0
            have px0 := px 0 hx0 0 (by omega)
            have sy0 := sy 0 hy0 0 (by omega)
            simp only [Nat.zero_mul, Nat.add_zero] at px0 sy0
            obtain ⟨nx, hnx⟩ : ∃ n, x.cargos.length = n := ⟨_, rfl⟩
            obtain ⟨ny, hny⟩ : ∃ n, y.cargos.length = n := ⟨_, rfl⟩
            obtain ⟨nu, hu⟩ : ∃ n, numI x.cargos 0 = n := ⟨_, rfl⟩
            obtain ⟨nv, hv⟩ : ∃ n, numI y.cargos 0 = n := ⟨_, rfl⟩
            obtain ⟨xd, hxd⟩ : ∃ n, x.day = n := ⟨_, rfl⟩
            obtain ⟨yd, hyd⟩ : ∃ n, y.day = n := ⟨_, rfl⟩
            have HC : Hid (∀ w1, Below W8.heap.size W8 w1 → w1.cell? ⟨xb, xo + k * 4 + 3, none⟩ = some (.slice (some ⟨pb, po, none⟩) nx XQ) ∧ w1.cell? ⟨yb, yo + j * 4 + 3, none⟩ = some (.slice (some ⟨sb, so, none⟩) ny YQ) ∧ w1.cell? ⟨pb, po, none⟩ = some (.int .i64 nu) ∧ w1.cell? ⟨sb, so, none⟩ = some (.int .i64 nv) ∧ w1.cell? ⟨xb, xo + k * 4, none⟩ = some (.int .i64 xd) ∧ w1.cell? ⟨yb, yo + j * 4, none⟩ = some (.int .i64 yd)) := Lib.hid fun w1 hb => by
              refine ⟨(hb.cell (p := ⟨xb, xo + k * 4 + 3, none⟩) HXB.out).trans ?_, (hb.cell (p := ⟨yb, yo + j * 4 + 3, none⟩) hyb).trans ?_, (hb.cell (p := ⟨pb, po, none⟩) hpb).trans ?_, (hb.cell (p := ⟨sb, so, none⟩) hsb).trans ?_, (hb.cell (p := ⟨xb, xo + k * 4, none⟩) HXB.out).trans ?_, (hb.cell (p := ⟨yb, yo + j * 4, none⟩) hyb).trans ?_⟩
              · rw [← hnx, ← hXP]; exact HXC.out 3 _ rfl
              · rw [← hny, ← hYP]; exact yc 3 _ rfl
              · rw [← hu]; exact px0
              · rw [← hv]; exact sy0
              · rw [← hxd]; exact HXC.out 0 _ rfl
              · rw [← hyd]; exact yc 0 _ rfl
            rw [hnx] at hx0
            rw [hny] at hy0
            have HLE : Hid (nu = nv → xd ≤ yd) := Lib.hid (by rw [← hu, ← hv, ← hxd, ← hyd]; exact hle)
            have hx1 : (0 : Int) < (nx : Int) := by omega
            have hy1 : (0 : Int) < (ny : Int) := by omega
            have HX0 : Hid (decide ((0 : Int) < (nx : Int)) = true) := Lib.hid (decide_eq_true hx1)
            have HY0 : Hid (decide ((0 : Int) < (ny : Int)) = true) := Lib.hid (decide_eq_true hy1)
            have HBJ : Hid (∀ w1, Below wr.heap.size wr w1 → Below W8.heap.size W8 w1) := Lib.hid fun w1 hb => HBI.out.trans (hb.mono HBI.out.size)
            clear hyb yc yl hy hym hle hXP hpb px hYP hsb sy px0 sy0 hnx hny hu hv hxd hyd
            by_cases huv : nu = nv
            · have HUV : Hid ((nu == nv) = true) := Lib.hid (by rw [beq_iff_eq]; exact huv)
              have hle := HLE.out huv
              have HDD : Hid (decide (yd < xd) = false) := Lib.hid (decide_eq_false (by omega))
              clear huv hle
              go_upto_region 24 with (fail)
              refine wp_region_steps (by kernel_rfl) (by kernel_rfl) (fun w1 => Below wr.heap.size wr w1) (fun _ _ _ => True)
                (fun ix u _ _ => match ix with
                  | 0 => u = .slice (some ⟨xb, xo, none⟩) nl cW7
                  | 1 => u = .int .i64 (k : Int)
                  | 2 => u = .pointer (some ⟨xb, xo + k * 4, none⟩)
                  | 3 => u = .pointer (some ⟨xb, xo + k * 4 + 3, none⟩)
                  | 4 => u = .slice (some ⟨pb, po, none⟩) nx XQ
                  | 5 => u = .int .i64 nx
                  | 6 => u = .bool true
                  | 7 => u = .bool true
                  | 8 => u = .slice (some ⟨yb, yo, none⟩) nl cW8
                  | 9 => u = .int .i64 (j : Int)
                  | 10 => u = .pointer (some ⟨yb, yo + j * 4, none⟩)
                  | 11 => u = .pointer (some ⟨yb, yo + j * 4 + 3, none⟩)
                  | 12 => u = .slice (some ⟨sb, so, none⟩) ny YQ
                  | 13 => u = .int .i64 ny
                  | 14 => u = .bool true
                  | 15 => u = .bool true
                  | 16 => u = .bool true
                  | 17 => u = .slice (some ⟨xb, xo, none⟩) nl cW7
                  | 18 => u = .int .i64 (k : Int)
                  | 19 => u = .pointer (some ⟨xb, xo + k * 4, none⟩)
                  | 20 => u = .pointer (some ⟨xb, xo + k * 4 + 3, none⟩)
                  | 21 => u = .slice (some ⟨pb, po, none⟩) nx XQ
                  | 22 => u = .pointer (some ⟨pb, po, none⟩)
                  | 23 => u = .int .i64 nu
                  | 24 => u = .slice (some ⟨yb, yo, none⟩) nl cW8
                  | 25 => u = .int .i64 (j : Int)
                  | 26 => u = .pointer (some ⟨yb, yo + j * 4, none⟩)
                  | 27 => u = .pointer (some ⟨yb, yo + j * 4 + 3, none⟩)
                  | 28 => u = .slice (some ⟨sb, so, none⟩) ny YQ
                  | 29 => u = .pointer (some ⟨sb, so, none⟩)
                  | 30 => u = .int .i64 nv
                  | 31 => u = .bool true
                  | 32 => u = .bool true
                  | 33 => u = .bool true
                  | 34 => u = .slice (some ⟨xb, xo, none⟩) nl cW7
                  | 35 => u = .int .i64 (k : Int)
                  | 36 => u = .pointer (some ⟨xb, xo + k * 4, none⟩)
                  | 37 => u = .pointer (some ⟨xb, xo + k * 4, none⟩)
                  | 38 => u = .int .i64 xd
                  | 39 => u = .slice (some ⟨yb, yo, none⟩) nl cW8
                  | 40 => u = .int .i64 (j : Int)
                  | 41 => u = .pointer (some ⟨yb, yo + j * 4, none⟩)
                  | 42 => u = .pointer (some ⟨yb, yo + j * 4, none⟩)
                  | 43 => u = .int .i64 yd
                  | 44 => u = .bool false
                  | _ => u = .bool false) (Below.refl _ _).drew (fun _ _ _ _ _ _ _ _ h _ _ => h) ?_ ?_
              · refine ⟨?_, ?_, ?_, ?_, ?_, ?_, ?_, ?_, ?_, ?_, ?_, ?_, ?_, ?_, ?_, ?_, ?_, ?_, ?_, ?_, ?_, ?_, ?_, ?_, ?_, ?_, ?_, ?_, ?_, ?_, ?_, ?_, ?_, ?_, ?_, ?_, ?_, ?_, ?_, ?_, ?_, ?_, ?_, ?_, ?_, ?_, trivial⟩
                · intro a w1 vs K HJ HK HD HN kk
                  have e13 := HK 13 (by decide)
                  go_simp; exact kk _ _ (by simp) HJ trivial rfl
                · intro a w1 vs K HJ HK HD HN kk
                  have e17 := HK 17 (by decide)
                  go_simp; exact kk _ _ (by simp) HJ trivial rfl
                · intro a w1 vs K HJ HK HD HN kk
                  have e117 := (HD 0 _ 117 rfl rfl rfl).1.trans (HD 0 _ 117 rfl rfl rfl).2
                  have e118 := (HD 1 _ 118 rfl rfl rfl).1.trans (HD 1 _ 118 rfl rfl rfl).2
                  go_simp; exact kk _ _ (by simp) HJ trivial rfl
                · intro a w1 vs K HJ HK HD HN kk
                  have e119 := (HD 2 _ 119 rfl rfl rfl).1.trans (HD 2 _ 119 rfl rfl rfl).2
                  go_simp; exact kk _ _ (by simp) HJ trivial rfl
                · intro a w1 vs K HJ HK HD HN kk
                  have e120 := (HD 3 _ 120 rfl rfl rfl).1.trans (HD 3 _ 120 rfl rfl rfl).2
                  have ca : w1.cell? ⟨xb, xo + k * 4 + 3, none⟩ = some (.slice (some ⟨pb, po, none⟩) nx XQ) := (HC.out w1 (HBJ.out w1 HJ)).1
                  go_simp; exact kk _ _ (by simp) HJ trivial rfl
                · intro a w1 vs K HJ HK HD HN kk
                  have e121 := (HD 4 _ 121 rfl rfl rfl).1.trans (HD 4 _ 121 rfl rfl rfl).2
                  go_simp; exact kk _ _ (by simp) HJ trivial rfl
                · intro a w1 vs K HJ HK HD HN kk
                  have e122 := (HD 5 _ 122 rfl rfl rfl).1.trans (HD 5 _ 122 rfl rfl rfl).2
                  have hgt := HX0.out
                  have hgn := hx0
                  go_simp; exact kk _ _ (by simp) HJ trivial rfl
                · intro a w1 vs K HJ HK HD HN kk
                  have e123 := (HD 6 _ 123 rfl rfl rfl).1.trans (HD 6 _ 123 rfl rfl rfl).2
                  go_simp; exact kk _ _ (by simp) HJ trivial rfl
                · intro a w1 vs K HJ HK HD HN kk
                  have e124 := (HD 7 _ 124 rfl rfl rfl).1.trans (HD 7 _ 124 rfl rfl rfl).2
                  rw [if_pos (wanted_yes 7 true rfl rfl rfl e124)]
                  have e15 := HK 15 (by decide)
                  go_simp; exact kk _ _ (by simp) HJ trivial rfl
                · intro a w1 vs K HJ HK HD HN kk
                  have e124 := (HD 7 _ 124 rfl rfl rfl).1.trans (HD 7 _ 124 rfl rfl rfl).2
                  rw [if_pos (wanted_yes 7 true rfl rfl rfl e124)]
                  have e18 := HK 18 (by decide)
                  go_simp; exact kk _ _ (by simp) HJ trivial rfl
                · intro a w1 vs K HJ HK HD HN kk
                  have e124 := (HD 7 _ 124 rfl rfl rfl).1.trans (HD 7 _ 124 rfl rfl rfl).2
                  rw [if_pos (wanted_yes 7 true rfl rfl rfl e124)]
                  have e125 := (HD 8 _ 125 rfl rfl rfl).1.trans (HD 8 _ 125 rfl rfl rfl).2
                  have e126 := (HD 9 _ 126 rfl rfl rfl).1.trans (HD 9 _ 126 rfl rfl rfl).2
                  go_simp; exact kk _ _ (by simp) HJ trivial rfl
                · intro a w1 vs K HJ HK HD HN kk
                  have e124 := (HD 7 _ 124 rfl rfl rfl).1.trans (HD 7 _ 124 rfl rfl rfl).2
                  rw [if_pos (wanted_yes 7 true rfl rfl rfl e124)]
                  have e127 := (HD 10 _ 127 rfl rfl rfl).1.trans (HD 10 _ 127 rfl rfl rfl).2
                  go_simp; exact kk _ _ (by simp) HJ trivial rfl
                · intro a w1 vs K HJ HK HD HN kk
                  have e124 := (HD 7 _ 124 rfl rfl rfl).1.trans (HD 7 _ 124 rfl rfl rfl).2
                  rw [if_pos (wanted_yes 7 true rfl rfl rfl e124)]
                  have e128 := (HD 11 _ 128 rfl rfl rfl).1.trans (HD 11 _ 128 rfl rfl rfl).2
                  have ca : w1.cell? ⟨yb, yo + j * 4 + 3, none⟩ = some (.slice (some ⟨sb, so, none⟩) ny YQ) := (HC.out w1 (HBJ.out w1 HJ)).2.1
                  go_simp; exact kk _ _ (by simp) HJ trivial rfl
                · intro a w1 vs K HJ HK HD HN kk
                  have e124 := (HD 7 _ 124 rfl rfl rfl).1.trans (HD 7 _ 124 rfl rfl rfl).2
                  rw [if_pos (wanted_yes 7 true rfl rfl rfl e124)]
                  have e129 := (HD 12 _ 129 rfl rfl rfl).1.trans (HD 12 _ 129 rfl rfl rfl).2
                  go_simp; exact kk _ _ (by simp) HJ trivial rfl
                · intro a w1 vs K HJ HK HD HN kk
                  have e124 := (HD 7 _ 124 rfl rfl rfl).1.trans (HD 7 _ 124 rfl rfl rfl).2
                  rw [if_pos (wanted_yes 7 true rfl rfl rfl e124)]
                  have e130 := (HD 13 _ 130 rfl rfl rfl).1.trans (HD 13 _ 130 rfl rfl rfl).2
                  have hgt := HY0.out
                  have hgn := hy0
                  go_simp; exact kk _ _ (by simp) HJ trivial rfl
                · intro a w1 vs K HJ HK HD HN kk
                  have e124 := (HD 7 _ 124 rfl rfl rfl).1.trans (HD 7 _ 124 rfl rfl rfl).2
                  have e131 := (HD 14 _ 131 rfl rfl rfl).1.trans (HD 14 _ 131 rfl rfl rfl).2
                  go_simp; exact kk _ _ (by simp) HJ trivial rfl
                · intro a w1 vs K HJ HK HD HN kk
                  have e132 := (HD 15 _ 132 rfl rfl rfl).1.trans (HD 15 _ 132 rfl rfl rfl).2
                  go_simp; exact kk _ _ (by simp) HJ trivial rfl
                · intro a w1 vs K HJ HK HD HN kk
                  have e133 := (HD 16 _ 133 rfl rfl rfl).1.trans (HD 16 _ 133 rfl rfl rfl).2
                  rw [if_pos (wanted_yes 16 true rfl rfl rfl e133)]
                  have e13 := HK 13 (by decide)
                  go_simp; exact kk _ _ (by simp) HJ trivial rfl
                · intro a w1 vs K HJ HK HD HN kk
                  have e133 := (HD 16 _ 133 rfl rfl rfl).1.trans (HD 16 _ 133 rfl rfl rfl).2
                  rw [if_pos (wanted_yes 16 true rfl rfl rfl e133)]
                  have e17 := HK 17 (by decide)
                  go_simp; exact kk _ _ (by simp) HJ trivial rfl
                · intro a w1 vs K HJ HK HD HN kk
                  have e133 := (HD 16 _ 133 rfl rfl rfl).1.trans (HD 16 _ 133 rfl rfl rfl).2
                  rw [if_pos (wanted_yes 16 true rfl rfl rfl e133)]
                  have e134 := (HD 17 _ 134 rfl rfl rfl).1.trans (HD 17 _ 134 rfl rfl rfl).2
                  have e135 := (HD 18 _ 135 rfl rfl rfl).1.trans (HD 18 _ 135 rfl rfl rfl).2
                  go_simp; exact kk _ _ (by simp) HJ trivial rfl
                · intro a w1 vs K HJ HK HD HN kk
                  have e133 := (HD 16 _ 133 rfl rfl rfl).1.trans (HD 16 _ 133 rfl rfl rfl).2
                  rw [if_pos (wanted_yes 16 true rfl rfl rfl e133)]
                  have e136 := (HD 19 _ 136 rfl rfl rfl).1.trans (HD 19 _ 136 rfl rfl rfl).2
                  go_simp; exact kk _ _ (by simp) HJ trivial rfl
                · intro a w1 vs K HJ HK HD HN kk
                  have e133 := (HD 16 _ 133 rfl rfl rfl).1.trans (HD 16 _ 133 rfl rfl rfl).2
                  rw [if_pos (wanted_yes 16 true rfl rfl rfl e133)]
                  have e137 := (HD 20 _ 137 rfl rfl rfl).1.trans (HD 20 _ 137 rfl rfl rfl).2
                  have ca : w1.cell? ⟨xb, xo + k * 4 + 3, none⟩ = some (.slice (some ⟨pb, po, none⟩) nx XQ) := (HC.out w1 (HBJ.out w1 HJ)).1
                  go_simp; exact kk _ _ (by simp) HJ trivial rfl
                · intro a w1 vs K HJ HK HD HN kk
                  have e133 := (HD 16 _ 133 rfl rfl rfl).1.trans (HD 16 _ 133 rfl rfl rfl).2
                  rw [if_pos (wanted_yes 16 true rfl rfl rfl e133)]
                  have e138 := (HD 21 _ 138 rfl rfl rfl).1.trans (HD 21 _ 138 rfl rfl rfl).2
                  go_simp; exact kk _ _ (by simp) HJ trivial rfl
                · intro a w1 vs K HJ HK HD HN kk
                  have e133 := (HD 16 _ 133 rfl rfl rfl).1.trans (HD 16 _ 133 rfl rfl rfl).2
                  rw [if_pos (wanted_yes 16 true rfl rfl rfl e133)]
                  have e139 := (HD 22 _ 139 rfl rfl rfl).1.trans (HD 22 _ 139 rfl rfl rfl).2
                  have ca : w1.cell? ⟨pb, po, none⟩ = some (.int .i64 nu) := (HC.out w1 (HBJ.out w1 HJ)).2.2.1
                  go_simp; exact kk _ _ (by simp) HJ trivial rfl
                · intro a w1 vs K HJ HK HD HN kk
                  have e133 := (HD 16 _ 133 rfl rfl rfl).1.trans (HD 16 _ 133 rfl rfl rfl).2
                  rw [if_pos (wanted_yes 16 true rfl rfl rfl e133)]
                  have e15 := HK 15 (by decide)
                  go_simp; exact kk _ _ (by simp) HJ trivial rfl
                · intro a w1 vs K HJ HK HD HN kk
                  have e133 := (HD 16 _ 133 rfl rfl rfl).1.trans (HD 16 _ 133 rfl rfl rfl).2
                  rw [if_pos (wanted_yes 16 true rfl rfl rfl e133)]
                  have e18 := HK 18 (by decide)
                  go_simp; exact kk _ _ (by simp) HJ trivial rfl
                · intro a w1 vs K HJ HK HD HN kk
                  have e133 := (HD 16 _ 133 rfl rfl rfl).1.trans (HD 16 _ 133 rfl rfl rfl).2
                  rw [if_pos (wanted_yes 16 true rfl rfl rfl e133)]
                  have e141 := (HD 24 _ 141 rfl rfl rfl).1.trans (HD 24 _ 141 rfl rfl rfl).2
                  have e142 := (HD 25 _ 142 rfl rfl rfl).1.trans (HD 25 _ 142 rfl rfl rfl).2
                  go_simp; exact kk _ _ (by simp) HJ trivial rfl
                · intro a w1 vs K HJ HK HD HN kk
                  have e133 := (HD 16 _ 133 rfl rfl rfl).1.trans (HD 16 _ 133 rfl rfl rfl).2
                  rw [if_pos (wanted_yes 16 true rfl rfl rfl e133)]
                  have e143 := (HD 26 _ 143 rfl rfl rfl).1.trans (HD 26 _ 143 rfl rfl rfl).2
                  go_simp; exact kk _ _ (by simp) HJ trivial rfl
                · intro a w1 vs K HJ HK HD HN kk
                  have e133 := (HD 16 _ 133 rfl rfl rfl).1.trans (HD 16 _ 133 rfl rfl rfl).2
                  rw [if_pos (wanted_yes 16 true rfl rfl rfl e133)]
                  have e144 := (HD 27 _ 144 rfl rfl rfl).1.trans (HD 27 _ 144 rfl rfl rfl).2
                  have ca : w1.cell? ⟨yb, yo + j * 4 + 3, none⟩ = some (.slice (some ⟨sb, so, none⟩) ny YQ) := (HC.out w1 (HBJ.out w1 HJ)).2.1
                  go_simp; exact kk _ _ (by simp) HJ trivial rfl
                · intro a w1 vs K HJ HK HD HN kk
                  have e133 := (HD 16 _ 133 rfl rfl rfl).1.trans (HD 16 _ 133 rfl rfl rfl).2
                  rw [if_pos (wanted_yes 16 true rfl rfl rfl e133)]
                  have e145 := (HD 28 _ 145 rfl rfl rfl).1.trans (HD 28 _ 145 rfl rfl rfl).2
                  go_simp; exact kk _ _ (by simp) HJ trivial rfl
                · intro a w1 vs K HJ HK HD HN kk
                  have e133 := (HD 16 _ 133 rfl rfl rfl).1.trans (HD 16 _ 133 rfl rfl rfl).2
                  rw [if_pos (wanted_yes 16 true rfl rfl rfl e133)]
                  have e146 := (HD 29 _ 146 rfl rfl rfl).1.trans (HD 29 _ 146 rfl rfl rfl).2
                  have ca : w1.cell? ⟨sb, so, none⟩ = some (.int .i64 nv) := (HC.out w1 (HBJ.out w1 HJ)).2.2.2.1
                  go_simp; exact kk _ _ (by simp) HJ trivial rfl
                · intro a w1 vs K HJ HK HD HN kk
                  have e133 := (HD 16 _ 133 rfl rfl rfl).1.trans (HD 16 _ 133 rfl rfl rfl).2
                  rw [if_pos (wanted_yes 16 true rfl rfl rfl e133)]
                  have e140 := (HD 23 _ 140 rfl rfl rfl).1.trans (HD 23 _ 140 rfl rfl rfl).2
                  have e147 := (HD 30 _ 147 rfl rfl rfl).1.trans (HD 30 _ 147 rfl rfl rfl).2
                  have huv := HUV.out
                  go_simp; exact kk _ _ (by simp) HJ trivial rfl
                · intro a w1 vs K HJ HK HD HN kk
                  have e133 := (HD 16 _ 133 rfl rfl rfl).1.trans (HD 16 _ 133 rfl rfl rfl).2
                  have e148 := (HD 31 _ 148 rfl rfl rfl).1.trans (HD 31 _ 148 rfl rfl rfl).2
                  go_simp; exact kk _ _ (by simp) HJ trivial rfl
                · intro a w1 vs K HJ HK HD HN kk
                  have e149 := (HD 32 _ 149 rfl rfl rfl).1.trans (HD 32 _ 149 rfl rfl rfl).2
                  go_simp; exact kk _ _ (by simp) HJ trivial rfl
                · intro a w1 vs K HJ HK HD HN kk
                  have e150 := (HD 33 _ 150 rfl rfl rfl).1.trans (HD 33 _ 150 rfl rfl rfl).2
                  rw [if_pos (wanted_yes 33 true rfl rfl rfl e150)]
                  have e13 := HK 13 (by decide)
                  go_simp; exact kk _ _ (by simp) HJ trivial rfl
                · intro a w1 vs K HJ HK HD HN kk
                  have e150 := (HD 33 _ 150 rfl rfl rfl).1.trans (HD 33 _ 150 rfl rfl rfl).2
                  rw [if_pos (wanted_yes 33 true rfl rfl rfl e150)]
                  have e17 := HK 17 (by decide)
                  go_simp; exact kk _ _ (by simp) HJ trivial rfl
                · intro a w1 vs K HJ HK HD HN kk
                  have e150 := (HD 33 _ 150 rfl rfl rfl).1.trans (HD 33 _ 150 rfl rfl rfl).2
                  rw [if_pos (wanted_yes 33 true rfl rfl rfl e150)]
                  have e151 := (HD 34 _ 151 rfl rfl rfl).1.trans (HD 34 _ 151 rfl rfl rfl).2
                  have e152 := (HD 35 _ 152 rfl rfl rfl).1.trans (HD 35 _ 152 rfl rfl rfl).2
                  go_simp; exact kk _ _ (by simp) HJ trivial rfl
                · intro a w1 vs K HJ HK HD HN kk
                  have e150 := (HD 33 _ 150 rfl rfl rfl).1.trans (HD 33 _ 150 rfl rfl rfl).2
                  rw [if_pos (wanted_yes 33 true rfl rfl rfl e150)]
                  have e153 := (HD 36 _ 153 rfl rfl rfl).1.trans (HD 36 _ 153 rfl rfl rfl).2
                  go_simp; exact kk _ _ (by simp) HJ trivial rfl
                · intro a w1 vs K HJ HK HD HN kk
                  have e150 := (HD 33 _ 150 rfl rfl rfl).1.trans (HD 33 _ 150 rfl rfl rfl).2
                  rw [if_pos (wanted_yes 33 true rfl rfl rfl e150)]
                  have e154 := (HD 37 _ 154 rfl rfl rfl).1.trans (HD 37 _ 154 rfl rfl rfl).2
                  have ca : w1.cell? ⟨xb, xo + k * 4, none⟩ = some (.int .i64 xd) := (HC.out w1 (HBJ.out w1 HJ)).2.2.2.2.1
                  go_simp; exact kk _ _ (by simp) HJ trivial rfl
                · intro a w1 vs K HJ HK HD HN kk
                  have e150 := (HD 33 _ 150 rfl rfl rfl).1.trans (HD 33 _ 150 rfl rfl rfl).2
                  rw [if_pos (wanted_yes 33 true rfl rfl rfl e150)]
                  have e15 := HK 15 (by decide)
                  go_simp; exact kk _ _ (by simp) HJ trivial rfl
                · intro a w1 vs K HJ HK HD HN kk
                  have e150 := (HD 33 _ 150 rfl rfl rfl).1.trans (HD 33 _ 150 rfl rfl rfl).2
                  rw [if_pos (wanted_yes 33 true rfl rfl rfl e150)]
                  have e18 := HK 18 (by decide)
                  go_simp; exact kk _ _ (by simp) HJ trivial rfl
                · intro a w1 vs K HJ HK HD HN kk
                  have e150 := (HD 33 _ 150 rfl rfl rfl).1.trans (HD 33 _ 150 rfl rfl rfl).2
                  rw [if_pos (wanted_yes 33 true rfl rfl rfl e150)]
                  have e156 := (HD 39 _ 156 rfl rfl rfl).1.trans (HD 39 _ 156 rfl rfl rfl).2
                  have e157 := (HD 40 _ 157 rfl rfl rfl).1.trans (HD 40 _ 157 rfl rfl rfl).2
                  go_simp; exact kk _ _ (by simp) HJ trivial rfl
                · intro a w1 vs K HJ HK HD HN kk
                  have e150 := (HD 33 _ 150 rfl rfl rfl).1.trans (HD 33 _ 150 rfl rfl rfl).2
                  rw [if_pos (wanted_yes 33 true rfl rfl rfl e150)]
                  have e158 := (HD 41 _ 158 rfl rfl rfl).1.trans (HD 41 _ 158 rfl rfl rfl).2
                  go_simp; exact kk _ _ (by simp) HJ trivial rfl
                · intro a w1 vs K HJ HK HD HN kk
                  have e150 := (HD 33 _ 150 rfl rfl rfl).1.trans (HD 33 _ 150 rfl rfl rfl).2
                  rw [if_pos (wanted_yes 33 true rfl rfl rfl e150)]
                  have e159 := (HD 42 _ 159 rfl rfl rfl).1.trans (HD 42 _ 159 rfl rfl rfl).2
                  have ca : w1.cell? ⟨yb, yo + j * 4, none⟩ = some (.int .i64 yd) := (HC.out w1 (HBJ.out w1 HJ)).2.2.2.2.2
                  go_simp; exact kk _ _ (by simp) HJ trivial rfl
                · intro a w1 vs K HJ HK HD HN kk
                  have e150 := (HD 33 _ 150 rfl rfl rfl).1.trans (HD 33 _ 150 rfl rfl rfl).2
                  rw [if_pos (wanted_yes 33 true rfl rfl rfl e150)]
                  have e155 := (HD 38 _ 155 rfl rfl rfl).1.trans (HD 38 _ 155 rfl rfl rfl).2
                  have e160 := (HD 43 _ 160 rfl rfl rfl).1.trans (HD 43 _ 160 rfl rfl rfl).2
                  have hdd := HDD.out
                  go_simp; exact kk _ _ (by simp) HJ trivial rfl
                · intro a w1 vs K HJ HK HD HN kk
                  have e150 := (HD 33 _ 150 rfl rfl rfl).1.trans (HD 33 _ 150 rfl rfl rfl).2
                  have e161 := (HD 44 _ 161 rfl rfl rfl).1.trans (HD 44 _ 161 rfl rfl rfl).2
                  go_simp; exact kk _ _ (by simp) HJ trivial rfl
              · intro vs W9 hw6 hrr
                have e45 : vs 45 = .bool false := hrr 45 _ rfl
                have HB9 := Lib.hid (HBJ.out _ hw6)
                clear hrr hw6
                simp only [putAll, Act.put, List.setIfInBounds_toArray, List.set_cons_zero, List.set_cons_succ]
                rw [e45]
                go_wp2_with fail
                go_roundw
                case rel => exact ⟨j + 1, by omega, by go_num, HB9⟩
                case measure => simp [intOf]; omega
            · have HUV : Hid ((nu == nv) = false) := Lib.hid (by rw [beq_eq_false_iff_ne]; exact huv)
              clear huv
              go_upto_region 24 with (fail)
              refine wp_region_steps (by kernel_rfl) (by kernel_rfl) (fun w1 => Below wr.heap.size wr w1) (fun _ _ _ => True)
                (fun ix u _ _ => match ix with
                  | 0 => u = .slice (some ⟨xb, xo, none⟩) nl cW7
                  | 1 => u = .int .i64 (k : Int)
                  | 2 => u = .pointer (some ⟨xb, xo + k * 4, none⟩)
                  | 3 => u = .pointer (some ⟨xb, xo + k * 4 + 3, none⟩)
                  | 4 => u = .slice (some ⟨pb, po, none⟩) nx XQ
                  | 5 => u = .int .i64 nx
                  | 6 => u = .bool true
                  | 7 => u = .bool true
                  | 8 => u = .slice (some ⟨yb, yo, none⟩) nl cW8
                  | 9 => u = .int .i64 (j : Int)
                  | 10 => u = .pointer (some ⟨yb, yo + j * 4, none⟩)
                  | 11 => u = .pointer (some ⟨yb, yo + j * 4 + 3, none⟩)
                  | 12 => u = .slice (some ⟨sb, so, none⟩) ny YQ
                  | 13 => u = .int .i64 ny
                  | 14 => u = .bool true
                  | 15 => u = .bool true
                  | 16 => u = .bool true
                  | 17 => u = .slice (some ⟨xb, xo, none⟩) nl cW7
                  | 18 => u = .int .i64 (k : Int)
                  | 19 => u = .pointer (some ⟨xb, xo + k * 4, none⟩)
                  | 20 => u = .pointer (some ⟨xb, xo + k * 4 + 3, none⟩)
                  | 21 => u = .slice (some ⟨pb, po, none⟩) nx XQ
                  | 22 => u = .pointer (some ⟨pb, po, none⟩)
                  | 23 => u = .int .i64 nu
                  | 24 => u = .slice (some ⟨yb, yo, none⟩) nl cW8
                  | 25 => u = .int .i64 (j : Int)
                  | 26 => u = .pointer (some ⟨yb, yo + j * 4, none⟩)
                  | 27 => u = .pointer (some ⟨yb, yo + j * 4 + 3, none⟩)
                  | 28 => u = .slice (some ⟨sb, so, none⟩) ny YQ
                  | 29 => u = .pointer (some ⟨sb, so, none⟩)
                  | 30 => u = .int .i64 nv
                  | 31 => u = .bool false
                  | 32 => u = .bool false
                  | 33 => u = .bool false
                  | 34 => u = undef
                  | 35 => u = undef
                  | 36 => u = undef
                  | 37 => u = undef
                  | 38 => u = undef
                  | 39 => u = undef
                  | 40 => u = undef
                  | 41 => u = undef
                  | 42 => u = undef
                  | 43 => u = undef
                  | 44 => u = undef
                  | _ => u = .bool false) (Below.refl _ _).drew (fun _ _ _ _ _ _ _ _ h _ _ => h) ?_ ?_
              · refine ⟨?_, ?_, ?_, ?_, ?_, ?_, ?_, ?_, ?_, ?_, ?_, ?_, ?_, ?_, ?_, ?_, ?_, ?_, ?_, ?_, ?_, ?_, ?_, ?_, ?_, ?_, ?_, ?_, ?_, ?_, ?_, ?_, ?_, ?_, ?_, ?_, ?_, ?_, ?_, ?_, ?_, ?_, ?_, ?_, ?_, ?_, trivial⟩
                · intro a w1 vs K HJ HK HD HN kk
                  have e13 := HK 13 (by decide)
                  go_simp; exact kk _ _ (by simp) HJ trivial rfl
                · intro a w1 vs K HJ HK HD HN kk
                  have e17 := HK 17 (by decide)
                  go_simp; exact kk _ _ (by simp) HJ trivial rfl
                · intro a w1 vs K HJ HK HD HN kk
                  have e117 := (HD 0 _ 117 rfl rfl rfl).1.trans (HD 0 _ 117 rfl rfl rfl).2
                  have e118 := (HD 1 _ 118 rfl rfl rfl).1.trans (HD 1 _ 118 rfl rfl rfl).2
                  go_simp; exact kk _ _ (by simp) HJ trivial rfl
                · intro a w1 vs K HJ HK HD HN kk
                  have e119 := (HD 2 _ 119 rfl rfl rfl).1.trans (HD 2 _ 119 rfl rfl rfl).2
                  go_simp; exact kk _ _ (by simp) HJ trivial rfl
                · intro a w1 vs K HJ HK HD HN kk
                  have e120 := (HD 3 _ 120 rfl rfl rfl).1.trans (HD 3 _ 120 rfl rfl rfl).2
                  have ca : w1.cell? ⟨xb, xo + k * 4 + 3, none⟩ = some (.slice (some ⟨pb, po, none⟩) nx XQ) := (HC.out w1 (HBJ.out w1 HJ)).1
                  go_simp; exact kk _ _ (by simp) HJ trivial rfl
                · intro a w1 vs K HJ HK HD HN kk
                  have e121 := (HD 4 _ 121 rfl rfl rfl).1.trans (HD 4 _ 121 rfl rfl rfl).2
                  go_simp; exact kk _ _ (by simp) HJ trivial rfl
                · intro a w1 vs K HJ HK HD HN kk
                  have e122 := (HD 5 _ 122 rfl rfl rfl).1.trans (HD 5 _ 122 rfl rfl rfl).2
                  have hgt := HX0.out
                  have hgn := hx0
                  go_simp; exact kk _ _ (by simp) HJ trivial rfl
                · intro a w1 vs K HJ HK HD HN kk
                  have e123 := (HD 6 _ 123 rfl rfl rfl).1.trans (HD 6 _ 123 rfl rfl rfl).2
                  go_simp; exact kk _ _ (by simp) HJ trivial rfl
                · intro a w1 vs K HJ HK HD HN kk
                  have e124 := (HD 7 _ 124 rfl rfl rfl).1.trans (HD 7 _ 124 rfl rfl rfl).2
                  rw [if_pos (wanted_yes 7 true rfl rfl rfl e124)]
                  have e15 := HK 15 (by decide)
                  go_simp; exact kk _ _ (by simp) HJ trivial rfl
                · intro a w1 vs K HJ HK HD HN kk
                  have e124 := (HD 7 _ 124 rfl rfl rfl).1.trans (HD 7 _ 124 rfl rfl rfl).2
                  rw [if_pos (wanted_yes 7 true rfl rfl rfl e124)]
                  have e18 := HK 18 (by decide)
                  go_simp; exact kk _ _ (by simp) HJ trivial rfl
                · intro a w1 vs K HJ HK HD HN kk
                  have e124 := (HD 7 _ 124 rfl rfl rfl).1.trans (HD 7 _ 124 rfl rfl rfl).2
                  rw [if_pos (wanted_yes 7 true rfl rfl rfl e124)]
                  have e125 := (HD 8 _ 125 rfl rfl rfl).1.trans (HD 8 _ 125 rfl rfl rfl).2
                  have e126 := (HD 9 _ 126 rfl rfl rfl).1.trans (HD 9 _ 126 rfl rfl rfl).2
                  go_simp; exact kk _ _ (by simp) HJ trivial rfl
                · intro a w1 vs K HJ HK HD HN kk
                  have e124 := (HD 7 _ 124 rfl rfl rfl).1.trans (HD 7 _ 124 rfl rfl rfl).2
                  rw [if_pos (wanted_yes 7 true rfl rfl rfl e124)]
                  have e127 := (HD 10 _ 127 rfl rfl rfl).1.trans (HD 10 _ 127 rfl rfl rfl).2
                  go_simp; exact kk _ _ (by simp) HJ trivial rfl
                · intro a w1 vs K HJ HK HD HN kk
                  have e124 := (HD 7 _ 124 rfl rfl rfl).1.trans (HD 7 _ 124 rfl rfl rfl).2
                  rw [if_pos (wanted_yes 7 true rfl rfl rfl e124)]
                  have e128 := (HD 11 _ 128 rfl rfl rfl).1.trans (HD 11 _ 128 rfl rfl rfl).2
                  have ca : w1.cell? ⟨yb, yo + j * 4 + 3, none⟩ = some (.slice (some ⟨sb, so, none⟩) ny YQ) := (HC.out w1 (HBJ.out w1 HJ)).2.1
                  go_simp; exact kk _ _ (by simp) HJ trivial rfl
                · intro a w1 vs K HJ HK HD HN kk
                  have e124 := (HD 7 _ 124 rfl rfl rfl).1.trans (HD 7 _ 124 rfl rfl rfl).2
                  rw [if_pos (wanted_yes 7 true rfl rfl rfl e124)]
                  have e129 := (HD 12 _ 129 rfl rfl rfl).1.trans (HD 12 _ 129 rfl rfl rfl).2
                  go_simp; exact kk _ _ (by simp) HJ trivial rfl
                · intro a w1 vs K HJ HK HD HN kk
                  have e124 := (HD 7 _ 124 rfl rfl rfl).1.trans (HD 7 _ 124 rfl rfl rfl).2
                  rw [if_pos (wanted_yes 7 true rfl rfl rfl e124)]
                  have e130 := (HD 13 _ 130 rfl rfl rfl).1.trans (HD 13 _ 130 rfl rfl rfl).2
                  have hgt := HY0.out
                  have hgn := hy0
                  go_simp; exact kk _ _ (by simp) HJ trivial rfl
                · intro a w1 vs K HJ HK HD HN kk
                  have e124 := (HD 7 _ 124 rfl rfl rfl).1.trans (HD 7 _ 124 rfl rfl rfl).2
                  have e131 := (HD 14 _ 131 rfl rfl rfl).1.trans (HD 14 _ 131 rfl rfl rfl).2
                  go_simp; exact kk _ _ (by simp) HJ trivial rfl
                · intro a w1 vs K HJ HK HD HN kk
                  have e132 := (HD 15 _ 132 rfl rfl rfl).1.trans (HD 15 _ 132 rfl rfl rfl).2
                  go_simp; exact kk _ _ (by simp) HJ trivial rfl
                · intro a w1 vs K HJ HK HD HN kk
                  have e133 := (HD 16 _ 133 rfl rfl rfl).1.trans (HD 16 _ 133 rfl rfl rfl).2
                  rw [if_pos (wanted_yes 16 true rfl rfl rfl e133)]
                  have e13 := HK 13 (by decide)
                  go_simp; exact kk _ _ (by simp) HJ trivial rfl
                · intro a w1 vs K HJ HK HD HN kk
                  have e133 := (HD 16 _ 133 rfl rfl rfl).1.trans (HD 16 _ 133 rfl rfl rfl).2
                  rw [if_pos (wanted_yes 16 true rfl rfl rfl e133)]
                  have e17 := HK 17 (by decide)
                  go_simp; exact kk _ _ (by simp) HJ trivial rfl
                · intro a w1 vs K HJ HK HD HN kk
                  have e133 := (HD 16 _ 133 rfl rfl rfl).1.trans (HD 16 _ 133 rfl rfl rfl).2
                  rw [if_pos (wanted_yes 16 true rfl rfl rfl e133)]
                  have e134 := (HD 17 _ 134 rfl rfl rfl).1.trans (HD 17 _ 134 rfl rfl rfl).2
                  have e135 := (HD 18 _ 135 rfl rfl rfl).1.trans (HD 18 _ 135 rfl rfl rfl).2
                  go_simp; exact kk _ _ (by simp) HJ trivial rfl
                · intro a w1 vs K HJ HK HD HN kk
                  have e133 := (HD 16 _ 133 rfl rfl rfl).1.trans (HD 16 _ 133 rfl rfl rfl).2
                  rw [if_pos (wanted_yes 16 true rfl rfl rfl e133)]
                  have e136 := (HD 19 _ 136 rfl rfl rfl).1.trans (HD 19 _ 136 rfl rfl rfl).2
                  go_simp; exact kk _ _ (by simp) HJ trivial rfl
                · intro a w1 vs K HJ HK HD HN kk
                  have e133 := (HD 16 _ 133 rfl rfl rfl).1.trans (HD 16 _ 133 rfl rfl rfl).2
                  rw [if_pos (wanted_yes 16 true rfl rfl rfl e133)]
                  have e137 := (HD 20 _ 137 rfl rfl rfl).1.trans (HD 20 _ 137 rfl rfl rfl).2
                  have ca : w1.cell? ⟨xb, xo + k * 4 + 3, none⟩ = some (.slice (some ⟨pb, po, none⟩) nx XQ) := (HC.out w1 (HBJ.out w1 HJ)).1
                  go_simp; exact kk _ _ (by simp) HJ trivial rfl
                · intro a w1 vs K HJ HK HD HN kk
                  have e133 := (HD 16 _ 133 rfl rfl rfl).1.trans (HD 16 _ 133 rfl rfl rfl).2
                  rw [if_pos (wanted_yes 16 true rfl rfl rfl e133)]
                  have e138 := (HD 21 _ 138 rfl rfl rfl).1.trans (HD 21 _ 138 rfl rfl rfl).2
                  go_simp; exact kk _ _ (by simp) HJ trivial rfl
                · intro a w1 vs K HJ HK HD HN kk
                  have e133 := (HD 16 _ 133 rfl rfl rfl).1.trans (HD 16 _ 133 rfl rfl rfl).2
                  rw [if_pos (wanted_yes 16 true rfl rfl rfl e133)]
                  have e139 := (HD 22 _ 139 rfl rfl rfl).1.trans (HD 22 _ 139 rfl rfl rfl).2
                  have ca : w1.cell? ⟨pb, po, none⟩ = some (.int .i64 nu) := (HC.out w1 (HBJ.out w1 HJ)).2.2.1
                  go_simp; exact kk _ _ (by simp) HJ trivial rfl
                · intro a w1 vs K HJ HK HD HN kk
                  have e133 := (HD 16 _ 133 rfl rfl rfl).1.trans (HD 16 _ 133 rfl rfl rfl).2
                  rw [if_pos (wanted_yes 16 true rfl rfl rfl e133)]
                  have e15 := HK 15 (by decide)
                  go_simp; exact kk _ _ (by simp) HJ trivial rfl
                · intro a w1 vs K HJ HK HD HN kk
                  have e133 := (HD 16 _ 133 rfl rfl rfl).1.trans (HD 16 _ 133 rfl rfl rfl).2
                  rw [if_pos (wanted_yes 16 true rfl rfl rfl e133)]
                  have e18 := HK 18 (by decide)
                  go_simp; exact kk _ _ (by simp) HJ trivial rfl
                · intro a w1 vs K HJ HK HD HN kk
                  have e133 := (HD 16 _ 133 rfl rfl rfl).1.trans (HD 16 _ 133 rfl rfl rfl).2
                  rw [if_pos (wanted_yes 16 true rfl rfl rfl e133)]
                  have e141 := (HD 24 _ 141 rfl rfl rfl).1.trans (HD 24 _ 141 rfl rfl rfl).2
                  have e142 := (HD 25 _ 142 rfl rfl rfl).1.trans (HD 25 _ 142 rfl rfl rfl).2
                  go_simp; exact kk _ _ (by simp) HJ trivial rfl
                · intro a w1 vs K HJ HK HD HN kk
                  have e133 := (HD 16 _ 133 rfl rfl rfl).1.trans (HD 16 _ 133 rfl rfl rfl).2
                  rw [if_pos (wanted_yes 16 true rfl rfl rfl e133)]
                  have e143 := (HD 26 _ 143 rfl rfl rfl).1.trans (HD 26 _ 143 rfl rfl rfl).2
                  go_simp; exact kk _ _ (by simp) HJ trivial rfl
                · intro a w1 vs K HJ HK HD HN kk
                  have e133 := (HD 16 _ 133 rfl rfl rfl).1.trans (HD 16 _ 133 rfl rfl rfl).2
                  rw [if_pos (wanted_yes 16 true rfl rfl rfl e133)]
                  have e144 := (HD 27 _ 144 rfl rfl rfl).1.trans (HD 27 _ 144 rfl rfl rfl).2
                  have ca : w1.cell? ⟨yb, yo + j * 4 + 3, none⟩ = some (.slice (some ⟨sb, so, none⟩) ny YQ) := (HC.out w1 (HBJ.out w1 HJ)).2.1
                  go_simp; exact kk _ _ (by simp) HJ trivial rfl
                · intro a w1 vs K HJ HK HD HN kk
                  have e133 := (HD 16 _ 133 rfl rfl rfl).1.trans (HD 16 _ 133 rfl rfl rfl).2
                  rw [if_pos (wanted_yes 16 true rfl rfl rfl e133)]
                  have e145 := (HD 28 _ 145 rfl rfl rfl).1.trans (HD 28 _ 145 rfl rfl rfl).2
                  go_simp; exact kk _ _ (by simp) HJ trivial rfl
                · intro a w1 vs K HJ HK HD HN kk
                  have e133 := (HD 16 _ 133 rfl rfl rfl).1.trans (HD 16 _ 133 rfl rfl rfl).2
                  rw [if_pos (wanted_yes 16 true rfl rfl rfl e133)]
                  have e146 := (HD 29 _ 146 rfl rfl rfl).1.trans (HD 29 _ 146 rfl rfl rfl).2
                  have ca : w1.cell? ⟨sb, so, none⟩ = some (.int .i64 nv) := (HC.out w1 (HBJ.out w1 HJ)).2.2.2.1
                  go_simp; exact kk _ _ (by simp) HJ trivial rfl
                · intro a w1 vs K HJ HK HD HN kk
                  have e133 := (HD 16 _ 133 rfl rfl rfl).1.trans (HD 16 _ 133 rfl rfl rfl).2
                  rw [if_pos (wanted_yes 16 true rfl rfl rfl e133)]
                  have e140 := (HD 23 _ 140 rfl rfl rfl).1.trans (HD 23 _ 140 rfl rfl rfl).2
                  have e147 := (HD 30 _ 147 rfl rfl rfl).1.trans (HD 30 _ 147 rfl rfl rfl).2
                  have huv := HUV.out
                  go_simp; exact kk _ _ (by simp) HJ trivial rfl
                · intro a w1 vs K HJ HK HD HN kk
                  have e133 := (HD 16 _ 133 rfl rfl rfl).1.trans (HD 16 _ 133 rfl rfl rfl).2
                  have e148 := (HD 31 _ 148 rfl rfl rfl).1.trans (HD 31 _ 148 rfl rfl rfl).2
                  go_simp; exact kk _ _ (by simp) HJ trivial rfl
                · intro a w1 vs K HJ HK HD HN kk
                  have e149 := (HD 32 _ 149 rfl rfl rfl).1.trans (HD 32 _ 149 rfl rfl rfl).2
                  go_simp; exact kk _ _ (by simp) HJ trivial rfl
                · intro a w1 vs K HJ HK HD HN kk
                  have e150 := (HD 33 _ 150 rfl rfl rfl).1.trans (HD 33 _ 150 rfl rfl rfl).2
                  rw [if_neg (wanted_no 33 true rfl rfl rfl e150)]
                  exact kk undef _ (by simp) HJ trivial rfl
                · intro a w1 vs K HJ HK HD HN kk
                  have e150 := (HD 33 _ 150 rfl rfl rfl).1.trans (HD 33 _ 150 rfl rfl rfl).2
                  rw [if_neg (wanted_no 33 true rfl rfl rfl e150)]
                  exact kk undef _ (by simp) HJ trivial rfl
                · intro a w1 vs K HJ HK HD HN kk
                  have e150 := (HD 33 _ 150 rfl rfl rfl).1.trans (HD 33 _ 150 rfl rfl rfl).2
                  rw [if_neg (wanted_no 33 true rfl rfl rfl e150)]
                  exact kk undef _ (by simp) HJ trivial rfl
                · intro a w1 vs K HJ HK HD HN kk
                  have e150 := (HD 33 _ 150 rfl rfl rfl).1.trans (HD 33 _ 150 rfl rfl rfl).2
                  rw [if_neg (wanted_no 33 true rfl rfl rfl e150)]
                  exact kk undef _ (by simp) HJ trivial rfl
                · intro a w1 vs K HJ HK HD HN kk
                  have e150 := (HD 33 _ 150 rfl rfl rfl).1.trans (HD 33 _ 150 rfl rfl rfl).2
                  rw [if_neg (wanted_no 33 true rfl rfl rfl e150)]
                  exact kk undef _ (by simp) HJ trivial rfl
                · intro a w1 vs K HJ HK HD HN kk
                  have e150 := (HD 33 _ 150 rfl rfl rfl).1.trans (HD 33 _ 150 rfl rfl rfl).2
                  rw [if_neg (wanted_no 33 true rfl rfl rfl e150)]
                  exact kk undef _ (by simp) HJ trivial rfl
                · intro a w1 vs K HJ HK HD HN kk
                  have e150 := (HD 33 _ 150 rfl rfl rfl).1.trans (HD 33 _ 150 rfl rfl rfl).2
                  rw [if_neg (wanted_no 33 true rfl rfl rfl e150)]
                  exact kk undef _ (by simp) HJ trivial rfl
                · intro a w1 vs K HJ HK HD HN kk
                  have e150 := (HD 33 _ 150 rfl rfl rfl).1.trans (HD 33 _ 150 rfl rfl rfl).2
                  rw [if_neg (wanted_no 33 true rfl rfl rfl e150)]
                  exact kk undef _ (by simp) HJ trivial rfl
                · intro a w1 vs K HJ HK HD HN kk
                  have e150 := (HD 33 _ 150 rfl rfl rfl).1.trans (HD 33 _ 150 rfl rfl rfl).2
                  rw [if_neg (wanted_no 33 true rfl rfl rfl e150)]
                  exact kk undef _ (by simp) HJ trivial rfl
                · intro a w1 vs K HJ HK HD HN kk
                  have e150 := (HD 33 _ 150 rfl rfl rfl).1.trans (HD 33 _ 150 rfl rfl rfl).2
                  rw [if_neg (wanted_no 33 true rfl rfl rfl e150)]
                  exact kk undef _ (by simp) HJ trivial rfl
                · intro a w1 vs K HJ HK HD HN kk
                  have e150 := (HD 33 _ 150 rfl rfl rfl).1.trans (HD 33 _ 150 rfl rfl rfl).2
                  rw [if_neg (wanted_no 33 true rfl rfl rfl e150)]
                  exact kk undef _ (by simp) HJ trivial rfl
                · intro a w1 vs K HJ HK HD HN kk
                  have e150 := (HD 33 _ 150 rfl rfl rfl).1.trans (HD 33 _ 150 rfl rfl rfl).2
                  have e161 := (HD 44 _ 161 rfl rfl rfl).1.trans (HD 44 _ 161 rfl rfl rfl).2
                  go_simp; exact kk _ _ (by simp) HJ trivial rfl
              · intro vs W9 hw6 hrr
                have e45 : vs 45 = .bool false := hrr 45 _ rfl
                have HB9 := Lib.hid (HBJ.out _ hw6)
                clear hrr hw6
                simp only [putAll, Act.put, List.setIfInBounds_toArray, List.set_cons_zero, List.set_cons_succ]
                rw [e45]
                go_wp2_with fail
                go_roundw
                case rel => exact ⟨j + 1, by omega, by go_num, HB9⟩
                case measure => simp [intOf]; omega
          case neg =>
            obtain rfl : j = nl := by omega
            go_wp2_with fail
            go_roundw
            case rel => exact ⟨k + 1, by omega, by go_num, HBI⟩
            case measure => simp [intOf]; omega
      case neg =>
        obtain rfl : k = nl := by omega
        have HBX : Hid (Below W0.heap.size W0 wr) := Lib.hid (HBE.out _ HBO.out)
        have hnn : (k == k) = true := beq_self_eq_true k
        have hnni : ((k : Int) == (k : Int)) = true := beq_self_eq_true _
        go_wp2_with (first | (refine wpLoadAt rfl 26 _ rfl qb 0 rfl (campA V c) _ (HLC.out _ HBX.out) und_camp rfl (info_campA V c) ?_))
        refine (HAW.out _ HBX.out).mono ?_
        rintro e WZ ⟨rfl, hb1⟩
        have HBWZ := Lib.hid hb1
        clear hb1
        go_wp2_with fail
        first | exact HFIN.out _ HBWZ.out | (go_ret; exact HFIN.out _ HBWZ.out)
end Go.Proofs.YtcnjenlojnognaaGreat
