/- What is proved: the texts Lg, one behind the other; each says at its head what it proves, and under which conditions. -/
import Derived.Test.YtcnjenlojnognaaGreatdPBests17
/- What is proved: the walk of CampaignBests: true for every input. Conditions: the arguments lie in memory. -/
namespace Go.Proofs.YtcnjenlojnognaaGreat
open Go.RowKit

set_option maxRecDepth 100000 in
set_option maxHeartbeats 32000000 in
theorem bestsLaw_any (w : World) (V : CV) (c : CampD) (h : CampAt w w.heap.size V c)   :
  Calls Tryz.prog 5 #[.agg (campA V c)] w fun e w' => e = .returned (.bool true) ∧ Below w.heap.size w w' := by
 obtain ⟨qb, hqb⟩ : ∃ qb, w.heap.size = qb := ⟨_, rfl⟩
 obtain ⟨W0, hW0⟩ : ∃ W0, w.alloc (.cells (campA V c) 26) = W0 := ⟨_, rfl⟩
 have hb0 : Below w.heap.size w W0 := by rw [← hW0]; exact (Below.refl _ w).alloc (Nat.le_refl _) _
 have HKC : Hid (Bk W0 qb 26 (campA V c)) := Lib.hid (by rw [← hW0, ← hqb]; exact Bk.new _ _ _)
 obtain ⟨PQ, hPQ⟩ : ∃ Q, (fun (e : Ending) (w' : World) => e = .returned (.bool true) ∧ Below w.heap.size w w') = Q := ⟨_, rfl⟩
 have HFIN : Hid (∀ w', Below W0.heap.size W0 w' → PQ (.returned (.bool true)) w') := Lib.hid fun w' h2 => by
  rw [← hPQ]; exact ⟨rfl, hb0.trans (h2.mono hb0.size)⟩
 have HCA := Lib.hid (h.later hb0)
 have HCW : Hid (∀ w1, Below W0.heap.size W0 w1 → CampAt w1 w1.heap.size V c) := Lib.hid fun w1 hb => HCA.out.later hb
 have HGR : Hid (∀ w1, Below W0.heap.size W0 w1 → Calls Tryz.prog 13 #[.agg (campA V c)] w1 fun e w' => ∃ b, e = .returned (.bool b) ∧ Below W0.heap.size W0 w') := Lib.hid fun w1 hb =>
  (great_any w1 V c (HCW.out w1 hb)).mono fun e w' ⟨b, he, h2⟩ => ⟨b, he, hb.trans (h2.mono hb.size)⟩
 have HSM : Hid (∀ w1, Below W0.heap.size W0 w1 → Calls Tryz.prog 24 #[.agg (campA V c)] w1 fun e w' => ∃ b, e = .returned (.bool b) ∧ Below W0.heap.size W0 w') := Lib.hid fun w1 hb =>
  (small_any w1 V c (HCW.out w1 hb)).mono fun e w' ⟨b, he, h2⟩ => ⟨b, he, hb.trans (h2.mono hb.size)⟩
 have HAW : Hid (∀ w1, Below W0.heap.size W0 w1 → Calls Tryz.prog 15 #[] w1 fun e w' => e = .returned (.bool true) ∧ Below W0.heap.size W0 w') := Lib.hid fun w1 hb =>
  (awake_any w1).mono fun e w' ⟨he, h2⟩ => ⟨he, hb.trans (h2.mono hb.size)⟩
 have HAR : Hid (∀ w1, Below W0.heap.size W0 w1 → Calls Tryz.prog 15 #[] w1 fun e w' => e = .returned (.bool true) ∧ Below w1.heap.size w1 w') := Lib.hid fun w1 hb => awake_any w1
 have HLC : Hid (∀ w1, Below W0.heap.size W0 w1 → ∀ j u, (campA V c)[j]? = some u → w1.cell? ⟨qb, 0 + j, none⟩ = some u) := Lib.hid fun w1 hb j u hj => by rw [Nat.zero_add, (HKC.out.below hb HKC.out.lt).cell]; exact hj
 obtain ⟨ng, hng⟩ : ∃ ng, c.cargos.length = ng := ⟨_, rfl⟩
 have HNG := Lib.hid hng
 have HG2 : Hid (∀ w1, Below W0.heap.size W0 w1 → w1.cell? ⟨qb, 2, none⟩ = some (.slice V.gA ng V.gc)) := Lib.hid fun w1 hb => by rw [← HNG.out]; exact HLC.out w1 hb 2 _ rfl
 clear hng
 obtain ⟨Bp, hBp⟩ : ∃ r, (bstB c).1 = r := ⟨_, rfl⟩
 obtain ⟨fb, hfb⟩ : ∃ r, (bstB c).2 = r := ⟨_, rfl⟩
 have HBE : Hid (∀ w1, Below W0.heap.size W0 w1 → Calls Tryz.prog 25 #[.agg (campA V c)] w1 fun e w' => ∃ A n c', e = .returned (.tuple #[.slice A n c', .int .i64 fb]) ∧ n = Bp.length ∧ PlanAt w' w'.heap.size A Bp ∧ Below w1.heap.size w1 w') := Lib.hid fun w1 hb => by
  refine (Best_any w1 V c (HCW.out w1 hb)).mono fun e w' ⟨A, n, c', he, hn, _, hp, h2⟩ => ?_
  rw [hfb] at he; rw [hBp] at hn hp
  exact ⟨A, n, c', he, hn, hp.at, h2⟩
 have HRB : Hid (∀ w1, Below W0.heap.size W0 w1 → Calls Tryz.prog 26 #[.agg (campA V c)] w1 fun e w' => ∃ A n c', e = .returned (.tuple #[.slice A n c', .int .i64 fb]) ∧ n = Bp.length ∧ PlanAt w' w'.heap.size A Bp ∧ Below w1.heap.size w1 w') := Lib.hid fun w1 hb => by
  refine (refBest_any w1 V c (HCW.out w1 hb)).mono fun e w' ⟨A, n, c', he, hn, _, hp, h2⟩ => ?_
  rw [hfb] at he; rw [hBp] at hn hp
  exact ⟨A, n, c', he, hn, hp.at, h2⟩
 have HSA : Hid (∀ w1 A n c' A' n' d', n = Bp.length → n' = Bp.length → PlanAt w1 w1.heap.size A Bp → PlanAt w1 w1.heap.size A' Bp → Calls Tryz.prog 27 #[.slice A n c', .slice A' n' d'] w1 fun e w' => e = .returned (.bool true) ∧ Below w1.heap.size w1 w') := Lib.hid fun w1 A n c' A' n' d' h1 h2 h3 h4 => by
  subst h1
  subst h2
  rw [← sameB_iff.2 (rfl : Bp = Bp)]
  exact same_any w1 Bp Bp A A' c' d' h3 h4
 clear hBp hfb
 rw [hPQ]
 clear h hb0 hPQ
 simp only [campA] at hW0 ⊢
 go_enter Tryz.func5, Tryz.ntmps5
 go_upto_region 1 with (fail)
 clear hW0 hqb
 have HBR0 : Hid (Below W0.heap.size W0 W0) := Lib.hid (Below.refl _ _)
 go_wp2_with (first | (refine wpLoadAt rfl 26 _ rfl qb 0 rfl (campA V c) _ (HLC.out _ HBR0.out) und_camp rfl (info_campA V c) ?_))
 refine (HGR.out _ HBR0.out).mono ?_
 rintro e WG ⟨bg, rfl, hb1⟩
 have HBWG := Lib.hid hb1
 clear hb1
 cases bg with
 | true =>
  go_wp2_with (first | (refine wpLoadAt rfl 26 _ rfl qb 0 rfl (campA V c) _ (HLC.out _ HBWG.out) und_camp rfl (info_campA V c) ?_))
  refine (HAW.out _ HBWG.out).mono ?_
  rintro e WZ ⟨rfl, hb1⟩
  have HBWZ := Lib.hid hb1
  clear hb1
  go_wp2_with fail
  first | exact HFIN.out _ HBWZ.out | (go_ret; exact HFIN.out _ HBWZ.out)
 | false =>
 have k0 : WG.cell? ⟨qb, 0, none⟩ = some (.slice V.cA c.crafts.length V.cc) := HLC.out WG HBWG.out 0 _ rfl
 have k1 : WG.cell? ⟨qb, 1, none⟩ = some (.slice V.pA c.pads.length V.pc) := HLC.out WG HBWG.out 1 _ rfl
 have k2 : WG.cell? ⟨qb, 2, none⟩ = some (.slice V.gA c.cargos.length V.gc) := HLC.out WG HBWG.out 2 _ rfl
 have k3 : WG.cell? ⟨qb, 3, none⟩ = some (.int .i64 c.margin) := HLC.out WG HBWG.out 3 _ rfl
 go_wp2_with (first | (refine wpLoadAt rfl 26 _ rfl qb 0 rfl (campA V c) _ (HLC.out _ HBWG.out) und_camp rfl (info_campA V c) ?_))
 refine (HSM.out _ HBWG.out).mono ?_
 rintro e WS ⟨bs, rfl, hb1⟩
 have HBWS := Lib.hid hb1
 clear hb1
 clear k0 k1 k2 k3
 cases bs with
 | false =>
  go_wp2_with (first | (refine wpLoadAt rfl 26 _ rfl qb 0 rfl (campA V c) _ (HLC.out _ HBWS.out) und_camp rfl (info_campA V c) ?_))
  refine (HAW.out _ HBWS.out).mono ?_
  rintro e WZ ⟨rfl, hb1⟩
  have HBWZ := Lib.hid hb1
  clear hb1
  go_wp2_with fail
  first | exact HFIN.out _ HBWZ.out | (go_ret; exact HFIN.out _ HBWZ.out)
 | true =>
 go_wp2_with (first | (refine wpLoadAt rfl 26 _ rfl qb 0 rfl (campA V c) _ (HLC.out _ HBWS.out) und_camp rfl (info_campA V c) ?_))
 refine (HBE.out _ HBWS.out).mono ?_
 rintro e W3 ⟨A3, n3, c3, rfl, hn3, hp3, hb1⟩
 have HB3 := Lib.hid (HBWS.out.trans (hb1.mono HBWS.out.size))
 have HN3 := Lib.hid hn3
 have HP3 := Lib.hid hp3
 clear hb1 hn3 hp3
 go_wp2_with (first | (refine wpLoadAt rfl 26 _ rfl qb 0 rfl (campA V c) _ (HLC.out _ HB3.out) und_camp rfl (info_campA V c) ?_))
 refine (HRB.out _ HB3.out).mono ?_
 rintro e W4 ⟨A4, n4, c4, rfl, hn4, hp4, hb1⟩
 have HB4 := Lib.hid (HB3.out.trans (hb1.mono HB3.out.size))
 have HSC := Lib.hid (HSA.out W4 A3 n3 c3 A4 n4 c4 HN3.out hn4 (HP3.out.later hb1) hp4)
 clear hb1 hn4 hp4
 go_wp2_with fail
 refine HSC.out.mono ?_
 rintro e W5 ⟨rfl, hb1⟩
 have HBW5 := Lib.hid (HB4.out.trans (hb1.mono HB4.out.size))
 clear hb1
 go_wp2_with (first | (refine wpLoadAt rfl 26 _ rfl qb 0 rfl (campA V c) _ (HLC.out _ HBW5.out) und_camp rfl (info_campA V c) ?_))
 refine (HAW.out _ HBW5.out).mono ?_
 rintro e WZ ⟨rfl, hb1⟩
 have HBWZ := Lib.hid hb1
 clear hb1
 go_wp2_with fail
 first | exact HFIN.out _ HBWZ.out | (go_ret; exact HFIN.out _ HBWZ.out)
end Go.Proofs.YtcnjenlojnognaaGreat
