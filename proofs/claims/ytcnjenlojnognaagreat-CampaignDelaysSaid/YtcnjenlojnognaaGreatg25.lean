/- What is proved: the texts Lf, one behind the other; each says at its head what it proves, and under which conditions. -/
import Derived.Test.YtcnjenlojnognaaGreatg24
/- What is proved: the walk of CampaignDelays: true for every input. Conditions: the arguments lie in memory. -/
namespace Go.Proofs.YtcnjenlojnognaaGreat
open Go.RowKit

set_option maxRecDepth 100000 in
set_option maxHeartbeats 32000000 in
theorem delaysLaw_any (w : World) (V : CV) (c : CampD) (h : CampAt w w.heap.size V c) (l : List LaunchD) (AL : Option Addr) (cL : Nat) (hp : PlanAt w w.heap.size AL l) (hcap : l.length ≤ cL) (x0 x1 : Int) :
  Calls Tryz.prog 10 #[.agg (campA V c), .slice AL l.length cL, .agg #[.int .i64 x0, .int .i64 x1]] w fun e w' => e = .returned (.bool true) ∧ Below w.heap.size w w' := by
 obtain ⟨qb, hqb⟩ : ∃ qb, w.heap.size = qb := ⟨_, rfl⟩
 obtain ⟨W0, hW0⟩ : ∃ W0, (w.alloc (.cells (campA V c) 26)).alloc (.cells #[.int .i64 x0, .int .i64 x1] 55) = W0 := ⟨_, rfl⟩
 have hb0 : Below w.heap.size w W0 := by rw [← hW0]; exact ((Below.refl _ w).alloc (Nat.le_refl _) _).alloc (by simp) _
 have HKC : Hid (Bk W0 qb 26 (campA V c)) := Lib.hid (by rw [← hW0, ← hqb]; exact (Bk.new _ _ _).alloc _)
 have HKX : Hid (Bk W0 (qb + 1) 55 #[.int .i64 x0, .int .i64 x1]) := Lib.hid (by rw [← hW0, ← hqb]; exact Bk.newAt _ _ _ _ (by simp))
 obtain ⟨PQ, hPQ⟩ : ∃ Q, (fun (e : Ending) (w' : World) => e = .returned (.bool true) ∧ Below w.heap.size w w') = Q := ⟨_, rfl⟩
 have HFIN : Hid (∀ w', Below W0.heap.size W0 w' → PQ (.returned (.bool true)) w') := Lib.hid fun w' h2 => by
  rw [← hPQ]; exact ⟨rfl, hb0.trans (h2.mono hb0.size)⟩
 have HCA := Lib.hid (h.later hb0)
 have HCW : Hid (∀ w1, Below W0.heap.size W0 w1 → CampAt w1 w1.heap.size V c) := Lib.hid fun w1 hb => HCA.out.later hb
 have HPA := Lib.hid (hp.later hb0)
 have HPW : Hid (∀ w1, Below W0.heap.size W0 w1 → PlanAt w1 w1.heap.size AL l) := Lib.hid fun w1 hb => HPA.out.later hb
 have HCAP := Lib.hid hcap
 have hll := hp.len
 obtain ⟨nl, hnl⟩ : ∃ nl, l.length = nl := ⟨_, rfl⟩
 have HNL := Lib.hid hnl
 have HGR : Hid (∀ w1, Below W0.heap.size W0 w1 → Calls Tryz.prog 13 #[.agg (campA V c)] w1 fun e w' => ∃ b, e = .returned (.bool b) ∧ Below W0.heap.size W0 w') := Lib.hid fun w1 hb =>
  (great_any w1 V c (HCW.out w1 hb)).mono fun e w' ⟨b, he, h2⟩ => ⟨b, he, hb.trans (h2.mono hb.size)⟩
 have HLG : Hid (∀ w1, Below W0.heap.size W0 w1 → Calls Tryz.prog 14 #[.slice AL nl cL] w1 fun e w' => ∃ b, e = .returned (.bool b) ∧ Below W0.heap.size W0 w' ∧ (b = false → nl ≤ 20)) := Lib.hid fun w1 hb => by
  rw [← HNL.out]
  exact (long_any w1 AL cL l (HPW.out w1 hb)).mono fun e w' ⟨b, he, h2, h3⟩ => ⟨b, he, hb.trans (h2.mono hb.size), h3⟩
 have HAW : Hid (∀ w1, Below W0.heap.size W0 w1 → Calls Tryz.prog 15 #[] w1 fun e w' => e = .returned (.bool true) ∧ Below W0.heap.size W0 w') := Lib.hid fun w1 hb =>
  (awake_any w1).mono fun e w' ⟨he, h2⟩ => ⟨he, hb.trans (h2.mono hb.size)⟩
 have HAR : Hid (∀ w1, Below W0.heap.size W0 w1 → Calls Tryz.prog 15 #[] w1 fun e w' => e = .returned (.bool true) ∧ Below w1.heap.size w1 w') := Lib.hid fun w1 hb => awake_any w1
 have HLC : Hid (∀ w1, Below W0.heap.size W0 w1 → ∀ j u, (campA V c)[j]? = some u → w1.cell? ⟨qb, 0 + j, none⟩ = some u) := Lib.hid fun w1 hb j u hj => by rw [Nat.zero_add, (HKC.out.below hb HKC.out.lt).cell]; exact hj
 obtain ⟨ng, hng⟩ : ∃ ng, c.cargos.length = ng := ⟨_, rfl⟩
 have HNG := Lib.hid hng
 have HG2 : Hid (∀ w1, Below W0.heap.size W0 w1 → w1.cell? ⟨qb, 2, none⟩ = some (.slice V.gA ng V.gc)) := Lib.hid fun w1 hb => by rw [← HNG.out]; exact HLC.out w1 hb 2 _ rfl
 clear hng
 obtain ⟨s, hs⟩ : ∃ r, (slackB c l x0).1 = r := ⟨_, rfl⟩
 obtain ⟨f, hf⟩ : ∃ r, (slackB c l x0).2 = r := ⟨_, rfl⟩
 obtain ⟨L, hL⟩ : ∃ r, (delayB c l x0 x1).1 = r := ⟨_, rfl⟩
 obtain ⟨g, hg⟩ : ∃ r, (delayB c l x0 x1).2 = r := ⟨_, rfl⟩
 obtain ⟨n, hn8⟩ : ∃ r, L.length = r := ⟨_, rfl⟩
 have HN8 := Lib.hid hn8
 have HSL : Hid (∀ w1, Below W0.heap.size W0 w1 → nl ≤ 20 → Calls Tryz.prog 34 #[.agg (campA V c), .slice AL nl cL, .int .i64 x0] w1 fun e w' => e = .returned (.tuple #[.int .i64 s, .int .i64 f]) ∧ Below w1.heap.size w1 w') := Lib.hid fun w1 hb hn => by
  rw [← HNL.out, ← hs, ← hf]
  exact slack_any w1 V c (HCW.out w1 hb) l AL cL (HPW.out w1 hb) HCAP.out (by rw [HNL.out]; omega) x0
 have HRS : Hid (∀ w1, Below W0.heap.size W0 w1 → nl ≤ 20 → Calls Tryz.prog 35 #[.agg (campA V c), .slice AL nl cL, .int .i64 x0] w1 fun e w' => e = .returned (.tuple #[.int .i64 s, .int .i64 f]) ∧ Below w1.heap.size w1 w') := Lib.hid fun w1 hb hn => by
  rw [← HNL.out, ← hs, ← hf]
  exact refSlack_any w1 V c (HCW.out w1 hb) l AL cL (HPW.out w1 hb) HCAP.out (by rw [HNL.out]; omega) x0
 have HDE : Hid (∀ w1, Below W0.heap.size W0 w1 → nl ≤ 20 → Calls Tryz.prog 32 #[.agg (campA V c), .slice AL nl cL, .int .i64 x0, .int .i64 x1] w1 fun e w' => ∃ A c', e = .returned (.tuple #[.slice A n c', .int .i64 g]) ∧ PlanAt w' w'.heap.size A L ∧ Below w1.heap.size w1 w') := Lib.hid fun w1 hb hn9 => by
  rw [← HNL.out]
  refine (delay_any w1 V c (HCW.out w1 hb) l AL cL (HPW.out w1 hb) HCAP.out (by rw [HNL.out]; omega) x0 x1).mono fun e w' ⟨A, c', he, _, hp, h2⟩ => ?_
  rw [hL, hg, hn8] at he
  rw [hL] at hp
  exact ⟨A, c', he, hp.at, h2⟩
 have HRD : Hid (∀ w1, Below W0.heap.size W0 w1 → nl ≤ 20 → Calls Tryz.prog 33 #[.agg (campA V c), .slice AL nl cL, .int .i64 x0, .int .i64 x1] w1 fun e w' => ∃ A c', e = .returned (.tuple #[.slice A n c', .int .i64 g]) ∧ PlanAt w' w'.heap.size A L ∧ Below w1.heap.size w1 w') := Lib.hid fun w1 hb hn9 => by
  rw [← HNL.out]
  refine (refDelay_any w1 V c (HCW.out w1 hb) l AL cL (HPW.out w1 hb) HCAP.out (by rw [HNL.out]; omega) x0 x1).mono fun e w' ⟨A, c', he, hp, h2⟩ => ?_
  rw [hL, hg, hn8] at he
  rw [hL] at hp
  exact ⟨A, c', he, hp, h2⟩
 have HSA : Hid (∀ w1 A c' B d', PlanAt w1 w1.heap.size A L → PlanAt w1 w1.heap.size B L → Calls Tryz.prog 27 #[.slice A n c', .slice B n d'] w1 fun e w' => e = .returned (.bool true) ∧ Below w1.heap.size w1 w') := Lib.hid fun w1 A c' B d' hp hq => by
  rw [← HN8.out, ← same_self L]
  exact same_any w1 L L A B c' d' hp hq
 have HI : Hid (∀ w1, Below W0.heap.size W0 w1 → w1.cell? ⟨qb + 1, 0, none⟩ = some (.int .i64 x0) ∧ w1.cell? ⟨qb + 1, 1, none⟩ = some (.int .i64 x1)) := Lib.hid fun w1 hb => by
  have k1 := HKX.out.below hb HKX.out.lt
  exact ⟨k1.cell 0, k1.cell 1⟩
 clear hs hf hL hg hn8
 rw [hnl, hPQ]
 clear h hp hcap hb0 hPQ hnl
 simp only [campA] at hW0 ⊢
 go_enter Tryz.func10, Tryz.ntmps10
 go_upto_region 1 with (fail)
 clear hW0 hqb
 have HBR0 : Hid (Below W0.heap.size W0 W0) := Lib.hid (Below.refl _ _)
 go_wp2_with (first | (refine wpLoadAt rfl 26 _ rfl qb 0 rfl (campA V c) _ (HLC.out _ HBR0.out) und_camp rfl (info_campA V c) ?_))
 refine (HGR.out _ HBR0.out).mono ?_
 rintro e WG ⟨bg, rfl, hb1⟩
 have HBWG := Lib.hid hb1
 clear hb1
 cases bg with
 | true =>
  go_wp2_with (first | (refine wpLoadAt rfl 26 _ rfl qb 0 rfl (campA V c) _ (HLC.out _ HBWG.out) und_camp rfl (info_campA V c) ?_))
  refine (HAW.out _ HBWG.out).mono ?_
  rintro e WZ ⟨rfl, hb1⟩
  have HBWZ := Lib.hid hb1
  clear hb1
  go_wp2_with fail
  first | exact HFIN.out _ HBWZ.out | (go_ret; exact HFIN.out _ HBWZ.out)
 | false =>
 go_wp2_with (first | (refine wpLoadAt rfl 26 _ rfl qb 0 rfl (campA V c) _ (HLC.out _ HBWG.out) und_camp rfl (info_campA V c) ?_))
 refine (HLG.out _ HBWG.out).mono ?_
 rintro e WL ⟨bl, rfl, hb1, hl20⟩
 have HBWL := Lib.hid hb1
 clear hb1
 cases bl with
 | true =>
  clear hl20
  go_wp2_with (first | (refine wpLoadAt rfl 26 _ rfl qb 0 rfl (campA V c) _ (HLC.out _ HBWL.out) und_camp rfl (info_campA V c) ?_))
  refine (HAW.out _ HBWL.out).mono ?_
  rintro e WZ ⟨rfl, hb1⟩
  have HBWZ := Lib.hid hb1
  clear hb1
  go_wp2_with fail
  first | exact HFIN.out _ HBWZ.out | (go_ret; exact HFIN.out _ HBWZ.out)
 | false =>
 have hn20 : nl ≤ 20 := hl20 rfl
 clear hl20
 obtain ⟨i0, i1⟩ := HI.out WL HBWL.out
 go_wp2_with (first | (refine wpLoadAt rfl 26 _ rfl qb 0 rfl (campA V c) _ (HLC.out _ HBWL.out) und_camp rfl (info_campA V c) ?_))
 refine (HDE.out _ HBWL.out hn20).mono ?_
 rintro e W3 ⟨A3, c3, rfl, hp3, hb1⟩
 have HRW3 := Lib.hid hb1
 have HBW3 := Lib.hid (HBWL.out.trans (hb1.mono HBWL.out.size))
 clear hb1
 have HP3 := Lib.hid hp3
 clear hp3
 clear i0 i1
 obtain ⟨i0, i1⟩ := HI.out W3 HBW3.out
 go_wp2_with (first | (refine wpLoadAt rfl 26 _ rfl qb 0 rfl (campA V c) _ (HLC.out _ HBW3.out) und_camp rfl (info_campA V c) ?_))
 refine (HRD.out _ HBW3.out hn20).mono ?_
 rintro e W4 ⟨A4, c4, rfl, hp4, hb1⟩
 have HRW4 := Lib.hid hb1
 have HBW4 := Lib.hid (HBW3.out.trans (hb1.mono HBW3.out.size))
 clear hb1
 have HP4 := Lib.hid hp4
 have HP34 := Lib.hid (HP3.out.later HRW4.out)
 clear hp4
 clear i0 i1
 obtain ⟨i0, i1⟩ := HI.out W4 HBW4.out
 go_wp2_with (first | (refine wpLoadAt rfl 26 _ rfl qb 0 rfl (campA V c) _ (HLC.out _ HBW4.out) und_camp rfl (info_campA V c) ?_))
 refine (HSL.out _ HBW4.out hn20).mono ?_
 rintro e W5 ⟨rfl, hb1⟩
 have HRW5 := Lib.hid hb1
 have HBW5 := Lib.hid (HBW4.out.trans (hb1.mono HBW4.out.size))
 clear hb1
 clear i0 i1
 obtain ⟨i0, i1⟩ := HI.out W5 HBW5.out
 go_wp2_with (first | (refine wpLoadAt rfl 26 _ rfl qb 0 rfl (campA V c) _ (HLC.out _ HBW5.out) und_camp rfl (info_campA V c) ?_))
 refine (HRS.out _ HBW5.out hn20).mono ?_
 rintro e W6 ⟨rfl, hb1⟩
 have HRW6 := Lib.hid hb1
 have HBW6 := Lib.hid (HBW5.out.trans (hb1.mono HBW5.out.size))
 clear hb1
 clear i0 i1
 have HQ3 := Lib.hid ((HP34.out.later HRW5.out).later HRW6.out)
 have HQ4 := Lib.hid ((HP4.out.later HRW5.out).later HRW6.out)
 go_wp2_with (first | (refine wpLoadAt rfl 26 _ rfl qb 0 rfl (campA V c) _ (HLC.out _ HBW6.out) und_camp rfl (info_campA V c) ?_))
 refine (HSA.out _ _ _ _ _ HQ3.out HQ4.out).mono ?_
 rintro e W7 ⟨rfl, hb1⟩
 have HRW7 := Lib.hid hb1
 have HBW7 := Lib.hid (HBW6.out.trans (hb1.mono HBW6.out.size))
 clear hb1
 have hz1 : (g == g) = true := beq_self_eq_true g
 have hz2 : (s == s) = true := beq_self_eq_true s
 have hz3 : (f == f) = true := beq_self_eq_true f
 go_wp2_with (first | (refine wpLoadAt rfl 26 _ rfl qb 0 rfl (campA V c) _ (HLC.out _ HBW7.out) und_camp rfl (info_campA V c) ?_))
 refine (HAW.out _ HBW7.out).mono ?_
 rintro e WZ ⟨rfl, hb1⟩
 have HBWZ := Lib.hid hb1
 clear hb1
 go_wp2_with fail
 first | exact HFIN.out _ HBWZ.out | (go_ret; exact HFIN.out _ HBWZ.out)
end Go.Proofs.YtcnjenlojnognaaGreat
