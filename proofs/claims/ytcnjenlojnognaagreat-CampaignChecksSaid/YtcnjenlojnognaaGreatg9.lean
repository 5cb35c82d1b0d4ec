/- What is proved: the texts La, one behind the other; each says at its head what it proves, and under which conditions. -/
import Derived.Test.YtcnjenlojnognaaGreatg8
/- What is proved: the walk of CampaignChecks: true for every input. Conditions: the arguments lie in memory. -/
namespace Go.Proofs.YtcnjenlojnognaaGreat
open Go.RowKit

set_option maxRecDepth 100000 in
set_option maxHeartbeats 32000000 in
theorem checksLaw_any (w : World) (V : CV) (c : CampD) (h : CampAt w w.heap.size V c) (l : List LaunchD) (AL : Option Addr) (cL : Nat) (hp : PlanAt w w.heap.size AL l) (hcap : l.length ≤ cL)  :
  Calls Tryz.prog 3 #[.agg (campA V c), .slice AL l.length cL] w fun e w' => e = .returned (.bool true) ∧ Below w.heap.size w w' := by
 obtain ⟨qb, hqb⟩ : ∃ qb, w.heap.size = qb := ⟨_, rfl⟩
 obtain ⟨W0, hW0⟩ : ∃ W0, w.alloc (.cells (campA V c) 26) = W0 := ⟨_, rfl⟩
 have hb0 : Below w.heap.size w W0 := by rw [← hW0]; exact (Below.refl _ w).alloc (Nat.le_refl _) _
 have HKC : Hid (Bk W0 qb 26 (campA V c)) := Lib.hid (by rw [← hW0, ← hqb]; exact Bk.new _ _ _)
 obtain ⟨PQ, hPQ⟩ : ∃ Q, (fun (e : Ending) (w' : World) => e = .returned (.bool true) ∧ Below w.heap.size w w') = Q := ⟨_, rfl⟩
 have HFIN : Hid (∀ w', Below W0.heap.size W0 w' → PQ (.returned (.bool true)) w') := Lib.hid fun w' h2 => by
  rw [← hPQ]; exact ⟨rfl, hb0.trans (h2.mono hb0.size)⟩
 have HCA := Lib.hid (h.later hb0)
 have HCW : Hid (∀ w1, Below W0.heap.size W0 w1 → CampAt w1 w1.heap.size V c) := Lib.hid fun w1 hb => HCA.out.later hb
 have HPA := Lib.hid (hp.later hb0)
 have HPW : Hid (∀ w1, Below W0.heap.size W0 w1 → PlanAt w1 w1.heap.size AL l) := Lib.hid fun w1 hb => HPA.out.later hb
 have HCAP := Lib.hid hcap
 have hll := hp.len
 obtain ⟨nl, hnl⟩ : ∃ nl, l.length = nl := ⟨_, rfl⟩
 have HNL := Lib.hid hnl
 have HGR : Hid (∀ w1, Below W0.heap.size W0 w1 → Calls Tryz.prog 13 #[.agg (campA V c)] w1 fun e w' => ∃ b, e = .returned (.bool b) ∧ Below W0.heap.size W0 w') := Lib.hid fun w1 hb =>
  (great_any w1 V c (HCW.out w1 hb)).mono fun e w' ⟨b, he, h2⟩ => ⟨b, he, hb.trans (h2.mono hb.size)⟩
 have HLG : Hid (∀ w1, Below W0.heap.size W0 w1 → Calls Tryz.prog 14 #[.slice AL nl cL] w1 fun e w' => ∃ b, e = .returned (.bool b) ∧ Below W0.heap.size W0 w' ∧ (b = false → nl ≤ 20)) := Lib.hid fun w1 hb => by
  rw [← HNL.out]
  exact (long_any w1 AL cL l (HPW.out w1 hb)).mono fun e w' ⟨b, he, h2, h3⟩ => ⟨b, he, hb.trans (h2.mono hb.size), h3⟩
 have HAW : Hid (∀ w1, Below W0.heap.size W0 w1 → Calls Tryz.prog 15 #[] w1 fun e w' => e = .returned (.bool true) ∧ Below W0.heap.size W0 w') := Lib.hid fun w1 hb =>
  (awake_any w1).mono fun e w' ⟨he, h2⟩ => ⟨he, hb.trans (h2.mono hb.size)⟩
 have HAR : Hid (∀ w1, Below W0.heap.size W0 w1 → Calls Tryz.prog 15 #[] w1 fun e w' => e = .returned (.bool true) ∧ Below w1.heap.size w1 w') := Lib.hid fun w1 hb => awake_any w1
 have HLC : Hid (∀ w1, Below W0.heap.size W0 w1 → ∀ j u, (campA V c)[j]? = some u → w1.cell? ⟨qb, 0 + j, none⟩ = some u) := Lib.hid fun w1 hb j u hj => by rw [Nat.zero_add, (HKC.out.below hb HKC.out.lt).cell]; exact hj
 obtain ⟨bc, hbc⟩ : ∃ b, campB c = b := ⟨_, rfl⟩
 obtain ⟨r1, hr1⟩ : ∃ r, (planB c l).1 = r := ⟨_, rfl⟩
 obtain ⟨r2, hr2⟩ : ∃ r, (planB c l).2 = r := ⟨_, rfl⟩
 have HCH : Hid (∀ w1, Below W0.heap.size W0 w1 → Calls Tryz.prog 18 #[.agg (campA V c)] w1 fun e w' => e = .returned (.bool bc) ∧ Below w1.heap.size w1 w') := Lib.hid fun w1 hb =>
  check_val w1 V c (HCW.out w1 hb) bc hbc
 have HRC : Hid (∀ w1, Below W0.heap.size W0 w1 → Calls Tryz.prog 19 #[.agg (campA V c)] w1 fun e w' => e = .returned (.bool bc) ∧ Below w1.heap.size w1 w') := Lib.hid fun w1 hb =>
  refCheck_val w1 V c (HCW.out w1 hb) bc hbc
 have HCP : Hid (∀ w1, Below W0.heap.size W0 w1 → Calls Tryz.prog 16 #[.agg (campA V c), .slice AL nl cL] w1 fun e w' => e = .returned (.tuple #[.int .i64 r1, .int .i64 r2]) ∧ Below W0.heap.size W0 w') := Lib.hid fun w1 hb => by
  rw [← HNL.out, ← hr1, ← hr2]
  exact (checkPlan_any w1 V c (HCW.out w1 hb) l AL cL (HPW.out w1 hb) HCAP.out).mono fun e w' ⟨he, h2⟩ => ⟨he, hb.trans (h2.mono hb.size)⟩
 have HRP : Hid (∀ w1, Below W0.heap.size W0 w1 → Calls Tryz.prog 17 #[.agg (campA V c), .slice AL nl cL] w1 fun e w' => e = .returned (.tuple #[.int .i64 r1, .int .i64 r2]) ∧ Below W0.heap.size W0 w') := Lib.hid fun w1 hb => by
  rw [← HNL.out, ← hr1, ← hr2]
  exact (refCheckPlan_any w1 V c (HCW.out w1 hb) l AL cL (HPW.out w1 hb) HCAP.out).mono fun e w' ⟨he, h2⟩ => ⟨he, hb.trans (h2.mono hb.size)⟩
 clear hbc hr1 hr2
 rw [hnl, hPQ]
 clear h hp hcap hb0 hPQ hnl
 simp only [campA] at hW0 ⊢
 go_enter Tryz.func3, Tryz.ntmps3
 go_upto_region 1 with (fail)
 clear hW0 hqb
 have HBR0 : Hid (Below W0.heap.size W0 W0) := Lib.hid (Below.refl _ _)
 go_wp2_with (first | (refine wpLoadAt rfl 26 _ rfl qb 0 rfl (campA V c) _ (HLC.out _ HBR0.out) und_camp rfl (info_campA V c) ?_))
 refine (HGR.out _ HBR0.out).mono ?_
 rintro e WG ⟨bg, rfl, hb1⟩
 have HBWG := Lib.hid hb1
 clear hb1
 cases bg with
 | true =>
  go_wp2_with (first | (refine wpLoadAt rfl 26 _ rfl qb 0 rfl (campA V c) _ (HLC.out _ HBWG.out) und_camp rfl (info_campA V c) ?_))
  refine (HAW.out _ HBWG.out).mono ?_
  rintro e WZ ⟨rfl, hb1⟩
  have HBWZ := Lib.hid hb1
  clear hb1
  go_wp2_with fail
  first | exact HFIN.out _ HBWZ.out | (go_ret; exact HFIN.out _ HBWZ.out)
 | false =>
 go_wp2_with (first | (refine wpLoadAt rfl 26 _ rfl qb 0 rfl (campA V c) _ (HLC.out _ HBWG.out) und_camp rfl (info_campA V c) ?_))
 refine (HLG.out _ HBWG.out).mono ?_
 rintro e WL ⟨bl, rfl, hb1, hl20⟩
 have HBWL := Lib.hid hb1
 clear hb1
 cases bl with
 | true =>
  clear hl20
  go_wp2_with (first | (refine wpLoadAt rfl 26 _ rfl qb 0 rfl (campA V c) _ (HLC.out _ HBWL.out) und_camp rfl (info_campA V c) ?_))
  refine (HAW.out _ HBWL.out).mono ?_
  rintro e WZ ⟨rfl, hb1⟩
  have HBWZ := Lib.hid hb1
  clear hb1
  go_wp2_with fail
  first | exact HFIN.out _ HBWZ.out | (go_ret; exact HFIN.out _ HBWZ.out)
 | false =>
 have hn20 : nl ≤ 20 := hl20 rfl
 clear hl20
 go_wp2_with (first | (refine wpLoadAt rfl 26 _ rfl qb 0 rfl (campA V c) _ (HLC.out _ HBWL.out) und_camp rfl (info_campA V c) ?_))
 refine (HCP.out _ HBWL.out).mono ?_
 rintro e W3 ⟨rfl, hb1⟩
 have HBW3 := Lib.hid hb1
 clear hb1
 go_wp2_with (first | (refine wpLoadAt rfl 26 _ rfl qb 0 rfl (campA V c) _ (HLC.out _ HBW3.out) und_camp rfl (info_campA V c) ?_))
 refine (HRP.out _ HBW3.out).mono ?_
 rintro e W4 ⟨rfl, hb1⟩
 have HBW4 := Lib.hid hb1
 clear hb1
 go_upto_region 5 with (fail)
 rcases bc with _ | _
 ·skip
  refine wp_region_steps (by kernel_rfl) (by kernel_rfl) (fun w1 => Below W0.heap.size W0 w1) (fun _ _ _ => True)
   (fun ix u _ _ => match ix with
    | 0 => u = .agg (campA V c)
    | 1 => u = .bool false
    | 2 => u = .agg (campA V c)
    | 3 => u = .bool false
    | 4 => u = .bool true
    | 5 => u = .bool true
    | 6 => u = .int .i64 r1
    | 7 => u = .int .i64 r1
    | 8 => u = .bool true
    | 9 => u = .bool true
    | 10 => u = .bool true
    | 11 => u = .int .i64 r2
    | 12 => u = .int .i64 r2
    | 13 => u = .bool true
    | 14 => u = .bool true
    | 15 => u = .bool true
    | 16 => u = .bool true
    | 17 => u = .bool true
    | _ => u = .bool true) (HBW4.out.drew) (fun _ _ _ _ _ _ _ _ h _ _ => h) ?_ ?_
  ·refine ⟨?_, ?_, ?_, ?_, ?_, ?_, ?_, ?_, ?_, ?_, ?_, ?_, ?_, ?_, ?_, ?_, ?_, ?_, ?_, trivial⟩
   ·intro a w1 vs K HJ HK HD HN kk
    have e2 := HK 2 (by decide)
    exact wpo_loadS 26 (.tmp 2) rfl qb 0 (by simpa [Act.eval] using e2) (campA V c) _ (HLC.out w1 HJ) und_camp rfl (info_campA V c) (kk _ _ (by simp) HJ trivial rfl)
   ·intro a w1 vs K HJ HK HD HN kk
    have e28 := hdE (HD 0 _ 28 rfl rfl rfl)
    exact wpo_call 18 _ _ rfl #[.agg (campA V c)] (by simp [Act.eval, e28]) (fun args w => by kernel_rfl)
     ((HCH.out w1 HJ).mono fun e w' ⟨he, hb⟩ => ⟨_, he, kk _ _ (by simp) (Below.trans HJ (hb.mono HJ.size)) trivial rfl⟩)
   ·intro a w1 vs K HJ HK HD HN kk
    have e2 := HK 2 (by decide)
    exact wpo_loadS 26 (.tmp 2) rfl qb 0 (by simpa [Act.eval] using e2) (campA V c) _ (HLC.out w1 HJ) und_camp rfl (info_campA V c) (kk _ _ (by simp) HJ trivial rfl)
   ·intro a w1 vs K HJ HK HD HN kk
    have e30 := hdE (HD 2 _ 30 rfl rfl rfl)
    exact wpo_call 19 _ _ rfl #[.agg (campA V c)] (by simp [Act.eval, e30]) (fun args w => by kernel_rfl)
     ((HRC.out w1 HJ).mono fun e w' ⟨he, hb⟩ => ⟨_, he, kk _ _ (by simp) (Below.trans HJ (hb.mono HJ.size)) trivial rfl⟩)
   ·intro a w1 vs K HJ HK HD HN kk
    have e29 := hdE (HD 1 _ 29 rfl rfl rfl)
    have e31 := hdE (HD 3 _ 31 rfl rfl rfl)
    go_simp; exact kk _ _ (by simp) HJ trivial rfl
   ·intro a w1 vs K HJ HK HD HN kk
    have e32 := hdE (HD 4 _ 32 rfl rfl rfl)
    go_simp; exact kk _ _ (by simp) HJ trivial rfl
   ·intro a w1 vs K HJ HK HD HN kk
    have e33 := hdE (HD 5 _ 33 rfl rfl rfl)
    rw [if_pos (wanted_yes 5 true rfl rfl rfl e33)]
    have e5 := HK 5 (by decide)
    go_simp; exact kk _ _ (by simp) HJ trivial rfl
   ·intro a w1 vs K HJ HK HD HN kk
    have e33 := hdE (HD 5 _ 33 rfl rfl rfl)
    rw [if_pos (wanted_yes 5 true rfl rfl rfl e33)]
    have e7 := HK 7 (by decide)
    go_simp; exact kk _ _ (by simp) HJ trivial rfl
   ·intro a w1 vs K HJ HK HD HN kk
    have e33 := hdE (HD 5 _ 33 rfl rfl rfl)
    rw [if_pos (wanted_yes 5 true rfl rfl rfl e33)]
    have e34 := hdE (HD 6 _ 34 rfl rfl rfl)
    have e35 := hdE (HD 7 _ 35 rfl rfl rfl)
    have hz : (r1 == r1) = true := beq_self_eq_true r1
    go_simp; exact kk _ _ (by simp) HJ trivial rfl
   ·intro a w1 vs K HJ HK HD HN kk
    have e33 := hdE (HD 5 _ 33 rfl rfl rfl)
    have e36 := hdE (HD 8 _ 36 rfl rfl rfl)
    go_simp; exact kk _ _ (by simp) HJ trivial rfl
   ·intro a w1 vs K HJ HK HD HN kk
    have e37 := hdE (HD 9 _ 37 rfl rfl rfl)
    go_simp; exact kk _ _ (by simp) HJ trivial rfl
   ·intro a w1 vs K HJ HK HD HN kk
    have e38 := hdE (HD 10 _ 38 rfl rfl rfl)
    rw [if_pos (wanted_yes 10 true rfl rfl rfl e38)]
    have e6 := HK 6 (by decide)
    go_simp; exact kk _ _ (by simp) HJ trivial rfl
   ·intro a w1 vs K HJ HK HD HN kk
    have e38 := hdE (HD 10 _ 38 rfl rfl rfl)
    rw [if_pos (wanted_yes 10 true rfl rfl rfl e38)]
    have e8 := HK 8 (by decide)
    go_simp; exact kk _ _ (by simp) HJ trivial rfl
   ·intro a w1 vs K HJ HK HD HN kk
    have e38 := hdE (HD 10 _ 38 rfl rfl rfl)
    rw [if_pos (wanted_yes 10 true rfl rfl rfl e38)]
    have e39 := hdE (HD 11 _ 39 rfl rfl rfl)
    have e40 := hdE (HD 12 _ 40 rfl rfl rfl)
    have hz : (r2 == r2) = true := beq_self_eq_true r2
    go_simp; exact kk _ _ (by simp) HJ trivial rfl
   ·intro a w1 vs K HJ HK HD HN kk
    have e38 := hdE (HD 10 _ 38 rfl rfl rfl)
    have e41 := hdE (HD 13 _ 41 rfl rfl rfl)
    go_simp; exact kk _ _ (by simp) HJ trivial rfl
   ·intro a w1 vs K HJ HK HD HN kk
    have e42 := hdE (HD 14 _ 42 rfl rfl rfl)
    go_simp; exact kk _ _ (by simp) HJ trivial rfl
   ·intro a w1 vs K HJ HK HD HN kk
    have e43 := hdE (HD 15 _ 43 rfl rfl rfl)
    rw [if_pos (wanted_yes 15 true rfl rfl rfl e43)]
    exact wpo_call 15 _ _ rfl #[] (by simp) (fun args w => by kernel_rfl)
     ((HAR.out w1 HJ).mono fun e w' ⟨he, hb⟩ => ⟨_, he, kk _ _ (by simp) (Below.trans HJ (hb.mono HJ.size)) trivial rfl⟩)
   ·intro a w1 vs K HJ HK HD HN kk
    have e43 := hdE (HD 15 _ 43 rfl rfl rfl)
    have e44 := hdE (HD 16 _ 44 rfl rfl rfl)
    go_simp; exact kk _ _ (by simp) HJ trivial rfl
   ·intro a w1 vs K HJ HK HD HN kk
    have e45 := hdE (HD 17 _ 45 rfl rfl rfl)
    go_simp; exact kk _ _ (by simp) HJ trivial rfl

  ·intro vs W5 hw6 hrr
   have e4 : vs 18 = .bool true := hrr 18 _ rfl
   have HF2 := Lib.hid (HFIN.out W5 hw6)
   clear hrr hw6
   simp only [putAll, Act.put, List.setIfInBounds_toArray, List.set_cons_zero, List.set_cons_succ]
   rw [e4]
   go_wp2_with fail
   first | exact HF2.out | (go_ret; exact HF2.out)
 ·skip
  refine wp_region_steps (by kernel_rfl) (by kernel_rfl) (fun w1 => Below W0.heap.size W0 w1) (fun _ _ _ => True)
   (fun ix u _ _ => match ix with
    | 0 => u = .agg (campA V c)
    | 1 => u = .bool true
    | 2 => u = .agg (campA V c)
    | 3 => u = .bool true
    | 4 => u = .bool true
    | 5 => u = .bool true
    | 6 => u = .int .i64 r1
    | 7 => u = .int .i64 r1
    | 8 => u = .bool true
    | 9 => u = .bool true
    | 10 => u = .bool true
    | 11 => u = .int .i64 r2
    | 12 => u = .int .i64 r2
    | 13 => u = .bool true
    | 14 => u = .bool true
    | 15 => u = .bool true
    | 16 => u = .bool true
    | 17 => u = .bool true
    | _ => u = .bool true) (HBW4.out.drew) (fun _ _ _ _ _ _ _ _ h _ _ => h) ?_ ?_
  ·refine ⟨?_, ?_, ?_, ?_, ?_, ?_, ?_, ?_, ?_, ?_, ?_, ?_, ?_, ?_, ?_, ?_, ?_, ?_, ?_, trivial⟩
   ·intro a w1 vs K HJ HK HD HN kk
    have e2 := HK 2 (by decide)
    exact wpo_loadS 26 (.tmp 2) rfl qb 0 (by simpa [Act.eval] using e2) (campA V c) _ (HLC.out w1 HJ) und_camp rfl (info_campA V c) (kk _ _ (by simp) HJ trivial rfl)
   ·intro a w1 vs K HJ HK HD HN kk
    have e28 := hdE (HD 0 _ 28 rfl rfl rfl)
    exact wpo_call 18 _ _ rfl #[.agg (campA V c)] (by simp [Act.eval, e28]) (fun args w => by kernel_rfl)
     ((HCH.out w1 HJ).mono fun e w' ⟨he, hb⟩ => ⟨_, he, kk _ _ (by simp) (Below.trans HJ (hb.mono HJ.size)) trivial rfl⟩)
   ·intro a w1 vs K HJ HK HD HN kk
    have e2 := HK 2 (by decide)
    exact wpo_loadS 26 (.tmp 2) rfl qb 0 (by simpa [Act.eval] using e2) (campA V c) _ (HLC.out w1 HJ) und_camp rfl (info_campA V c) (kk _ _ (by simp) HJ trivial rfl)
   ·intro a w1 vs K HJ HK HD HN kk
    have e30 := hdE (HD 2 _ 30 rfl rfl rfl)
    exact wpo_call 19 _ _ rfl #[.agg (campA V c)] (by simp [Act.eval, e30]) (fun args w => by kernel_rfl)
     ((HRC.out w1 HJ).mono fun e w' ⟨he, hb⟩ => ⟨_, he, kk _ _ (by simp) (Below.trans HJ (hb.mono HJ.size)) trivial rfl⟩)
   ·intro a w1 vs K HJ HK HD HN kk
    have e29 := hdE (HD 1 _ 29 rfl rfl rfl)
    have e31 := hdE (HD 3 _ 31 rfl rfl rfl)
    go_simp; exact kk _ _ (by simp) HJ trivial rfl
   ·intro a w1 vs K HJ HK HD HN kk
    have e32 := hdE (HD 4 _ 32 rfl rfl rfl)
    go_simp; exact kk _ _ (by simp) HJ trivial rfl
   ·intro a w1 vs K HJ HK HD HN kk
    have e33 := hdE (HD 5 _ 33 rfl rfl rfl)
    rw [if_pos (wanted_yes 5 true rfl rfl rfl e33)]
    have e5 := HK 5 (by decide)
    go_simp; exact kk _ _ (by simp) HJ trivial rfl
   ·intro a w1 vs K HJ HK HD HN kk
    have e33 := hdE (HD 5 _ 33 rfl rfl rfl)
    rw [if_pos (wanted_yes 5 true rfl rfl rfl e33)]
    have e7 := HK 7 (by decide)
    go_simp; exact kk _ _ (by simp) HJ trivial rfl
   ·intro a w1 vs K HJ HK HD HN kk
    have e33 := hdE (HD 5 _ 33 rfl rfl rfl)
    rw [if_pos (wanted_yes 5 true rfl rfl rfl e33)]
    have e34 := hdE (HD 6 _ 34 rfl rfl rfl)
    have e35 := hdE (HD 7 _ 35 rfl rfl rfl)
    have hz : (r1 == r1) = true := beq_self_eq_true r1
    go_simp; exact kk _ _ (by simp) HJ trivial rfl
   ·intro a w1 vs K HJ HK HD HN kk
    have e33 := hdE (HD 5 _ 33 rfl rfl rfl)
    have e36 := hdE (HD 8 _ 36 rfl rfl rfl)
    go_simp; exact kk _ _ (by simp) HJ trivial rfl
   ·intro a w1 vs K HJ HK HD HN kk
    have e37 := hdE (HD 9 _ 37 rfl rfl rfl)
    go_simp; exact kk _ _ (by simp) HJ trivial rfl
   ·intro a w1 vs K HJ HK HD HN kk
    have e38 := hdE (HD 10 _ 38 rfl rfl rfl)
    rw [if_pos (wanted_yes 10 true rfl rfl rfl e38)]
    have e6 := HK 6 (by decide)
    go_simp; exact kk _ _ (by simp) HJ trivial rfl
   ·intro a w1 vs K HJ HK HD HN kk
    have e38 := hdE (HD 10 _ 38 rfl rfl rfl)
    rw [if_pos (wanted_yes 10 true rfl rfl rfl e38)]
    have e8 := HK 8 (by decide)
    go_simp; exact kk _ _ (by simp) HJ trivial rfl
   ·intro a w1 vs K HJ HK HD HN kk
    have e38 := hdE (HD 10 _ 38 rfl rfl rfl)
    rw [if_pos (wanted_yes 10 true rfl rfl rfl e38)]
    have e39 := hdE (HD 11 _ 39 rfl rfl rfl)
    have e40 := hdE (HD 12 _ 40 rfl rfl rfl)
    have hz : (r2 == r2) = true := beq_self_eq_true r2
    go_simp; exact kk _ _ (by simp) HJ trivial rfl
   ·intro a w1 vs K HJ HK HD HN kk
    have e38 := hdE (HD 10 _ 38 rfl rfl rfl)
    have e41 := hdE (HD 13 _ 41 rfl rfl rfl)
    go_simp; exact kk _ _ (by simp) HJ trivial rfl
   ·intro a w1 vs K HJ HK HD HN kk
    have e42 := hdE (HD 14 _ 42 rfl rfl rfl)
    go_simp; exact kk _ _ (by simp) HJ trivial rfl
   ·intro a w1 vs K HJ HK HD HN kk
    have e43 := hdE (HD 15 _ 43 rfl rfl rfl)
    rw [if_pos (wanted_yes 15 true rfl rfl rfl e43)]
    exact wpo_call 15 _ _ rfl #[] (by simp) (fun args w => by kernel_rfl)
     ((HAR.out w1 HJ).mono fun e w' ⟨he, hb⟩ => ⟨_, he, kk _ _ (by simp) (Below.trans HJ (hb.mono HJ.size)) trivial rfl⟩)
   ·intro a w1 vs K HJ HK HD HN kk
    have e43 := hdE (HD 15 _ 43 rfl rfl rfl)
    have e44 := hdE (HD 16 _ 44 rfl rfl rfl)
    go_simp; exact kk _ _ (by simp) HJ trivial rfl
   ·intro a w1 vs K HJ HK HD HN kk
    have e45 := hdE (HD 17 _ 45 rfl rfl rfl)
    go_simp; exact kk _ _ (by simp) HJ trivial rfl

  ·intro vs W5 hw6 hrr
   have e4 : vs 18 = .bool true := hrr 18 _ rfl
   have HF2 := Lib.hid (HFIN.out W5 hw6)
   clear hrr hw6
   simp only [putAll, Act.put, List.setIfInBounds_toArray, List.set_cons_zero, List.set_cons_succ]
   rw [e4]
   go_wp2_with fail
   first | exact HF2.out | (go_ret; exact HF2.out)
end Go.Proofs.YtcnjenlojnognaaGreat
