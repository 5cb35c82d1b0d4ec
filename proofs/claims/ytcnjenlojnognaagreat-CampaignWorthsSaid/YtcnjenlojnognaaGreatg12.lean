/- What is proved: the texts Lb, one behind the other; each says at its head what it proves, and under which conditions. -/
import Derived.Test.YtcnjenlojnognaaGreatg11
/- What is proved: the walk of CampaignWorths: true for every input. Conditions: the arguments lie in memory. -/
namespace Go.Proofs.YtcnjenlojnognaaGreat
open Go.RowKit

set_option maxRecDepth 100000 in
set_option maxHeartbeats 32000000 in
theorem worthsLaw_any (w : World) (V : CV) (c : CampD) (h : CampAt w w.heap.size V c) (l : List LaunchD) (AL : Option Addr) (cL : Nat) (hp : PlanAt w w.heap.size AL l) (hcap : l.length ≤ cL) (i : Int) :
  Calls Tryz.prog 4 #[.agg (campA V c), .slice AL l.length cL, .int .i64 i] w fun e w' => e = .returned (.bool true) ∧ Below w.heap.size w w' := by
 obtain ⟨qb, hqb⟩ : ∃ qb, w.heap.size = qb := ⟨_, rfl⟩
 obtain ⟨W0, hW0⟩ : ∃ W0, w.alloc (.cells (campA V c) 26) = W0 := ⟨_, rfl⟩
 have hb0 : Below w.heap.size w W0 := by rw [← hW0]; exact (Below.refl _ w).alloc (Nat.le_refl _) _
 have HKC : Hid (Bk W0 qb 26 (campA V c)) := Lib.hid (by rw [← hW0, ← hqb]; exact Bk.new _ _ _)
 obtain ⟨PQ, hPQ⟩ : ∃ Q, (fun (e : Ending) (w' : World) => e = .returned (.bool true) ∧ Below w.heap.size w w') = Q := ⟨_, rfl⟩
 have HFIN : Hid (∀ w', Below W0.heap.size W0 w' → PQ (.returned (.bool true)) w') := Lib.hid fun w' h2 => by
  rw [← hPQ]; exact ⟨rfl, hb0.trans (h2.mono hb0.size)⟩
 have HCA := Lib.hid (h.later hb0)
 have HCW : Hid (∀ w1, Below W0.heap.size W0 w1 → CampAt w1 w1.heap.size V c) := Lib.hid fun w1 hb => HCA.out.later hb
 have HPA := Lib.hid (hp.later hb0)
 have HPW : Hid (∀ w1, Below W0.heap.size W0 w1 → PlanAt w1 w1.heap.size AL l) := Lib.hid fun w1 hb => HPA.out.later hb
 have HCAP := Lib.hid hcap
 have hll := hp.len
 obtain ⟨nl, hnl⟩ : ∃ nl, l.length = nl := ⟨_, rfl⟩
 have HNL := Lib.hid hnl
 have HGR : Hid (∀ w1, Below W0.heap.size W0 w1 → Calls Tryz.prog 13 #[.agg (campA V c)] w1 fun e w' => ∃ b, e = .returned (.bool b) ∧ Below W0.heap.size W0 w') := Lib.hid fun w1 hb =>
  (great_any w1 V c (HCW.out w1 hb)).mono fun e w' ⟨b, he, h2⟩ => ⟨b, he, hb.trans (h2.mono hb.size)⟩
 have HLG : Hid (∀ w1, Below W0.heap.size W0 w1 → Calls Tryz.prog 14 #[.slice AL nl cL] w1 fun e w' => ∃ b, e = .returned (.bool b) ∧ Below W0.heap.size W0 w' ∧ (b = false → nl ≤ 20)) := Lib.hid fun w1 hb => by
  rw [← HNL.out]
  exact (long_any w1 AL cL l (HPW.out w1 hb)).mono fun e w' ⟨b, he, h2, h3⟩ => ⟨b, he, hb.trans (h2.mono hb.size), h3⟩
 have HAW : Hid (∀ w1, Below W0.heap.size W0 w1 → Calls Tryz.prog 15 #[] w1 fun e w' => e = .returned (.bool true) ∧ Below W0.heap.size W0 w') := Lib.hid fun w1 hb =>
  (awake_any w1).mono fun e w' ⟨he, h2⟩ => ⟨he, hb.trans (h2.mono hb.size)⟩
 have HAR : Hid (∀ w1, Below W0.heap.size W0 w1 → Calls Tryz.prog 15 #[] w1 fun e w' => e = .returned (.bool true) ∧ Below w1.heap.size w1 w') := Lib.hid fun w1 hb => awake_any w1
 have HLC : Hid (∀ w1, Below W0.heap.size W0 w1 → ∀ j u, (campA V c)[j]? = some u → w1.cell? ⟨qb, 0 + j, none⟩ = some u) := Lib.hid fun w1 hb j u hj => by rw [Nat.zero_add, (HKC.out.below hb HKC.out.lt).cell]; exact hj
 obtain ⟨a, ha⟩ : ∃ r, (worthB c l).1 = r := ⟨_, rfl⟩
 obtain ⟨b, hb9⟩ : ∃ r, (worthB c l).2.1 = r := ⟨_, rfl⟩
 obtain ⟨d, hd⟩ : ∃ r, (worthB c l).2.2 = r := ⟨_, rfl⟩
 obtain ⟨p, hp9⟩ : ∃ r, (roomB c l i).1 = r := ⟨_, rfl⟩
 obtain ⟨q, hq⟩ : ∃ r, (roomB c l i).2 = r := ⟨_, rfl⟩
 have HWO : Hid (∀ w1, Below W0.heap.size W0 w1 → Calls Tryz.prog 20 #[.agg (campA V c), .slice AL nl cL] w1 fun e w' => e = .returned (.tuple #[.int .i64 a, .bool b, .int .i64 d]) ∧ Below W0.heap.size W0 w') := Lib.hid fun w1 hb => by
  rw [← HNL.out, ← ha, ← hb9, ← hd]
  exact (worth_any w1 V c (HCW.out w1 hb) l AL cL (HPW.out w1 hb) HCAP.out).mono fun e w' ⟨he, h2⟩ => ⟨he, hb.trans (h2.mono hb.size)⟩
 have HRW : Hid (∀ w1, Below W0.heap.size W0 w1 → Calls Tryz.prog 21 #[.agg (campA V c), .slice AL nl cL] w1 fun e w' => e = .returned (.tuple #[.int .i64 a, .bool b, .int .i64 d]) ∧ Below W0.heap.size W0 w') := Lib.hid fun w1 hb => by
  rw [← HNL.out, ← ha, ← hb9, ← hd]
  exact (refWorth_any w1 V c (HCW.out w1 hb) l AL cL (HPW.out w1 hb) HCAP.out).mono fun e w' ⟨he, h2⟩ => ⟨he, hb.trans (h2.mono hb.size)⟩
 have HRO : Hid (∀ w1, Below W0.heap.size W0 w1 → nl ≤ 20 → Calls Tryz.prog 22 #[.agg (campA V c), .slice AL nl cL, .int .i64 i] w1 fun e w' => e = .returned (.tuple #[.int .i64 p, .int .i64 q]) ∧ Below W0.heap.size W0 w') := Lib.hid fun w1 hb hn => by
  rw [← HNL.out, ← hp9, ← hq]
  exact (room_any w1 V c (HCW.out w1 hb) l AL cL (HPW.out w1 hb) HCAP.out (by rw [HNL.out]; omega) i).mono fun e w' ⟨he, h2⟩ => ⟨he, hb.trans (h2.mono hb.size)⟩
 have HRR : Hid (∀ w1, Below W0.heap.size W0 w1 → nl ≤ 20 → Calls Tryz.prog 23 #[.agg (campA V c), .slice AL nl cL, .int .i64 i] w1 fun e w' => e = .returned (.tuple #[.int .i64 p, .int .i64 q]) ∧ Below W0.heap.size W0 w') := Lib.hid fun w1 hb hn => by
  rw [← HNL.out, ← hp9, ← hq]
  exact (refRoom_any w1 V c (HCW.out w1 hb) l AL cL (HPW.out w1 hb) HCAP.out (by rw [HNL.out]; omega) i).mono fun e w' ⟨he, h2⟩ => ⟨he, hb.trans (h2.mono hb.size)⟩
 clear ha hb9 hd hp9 hq
 rw [hnl, hPQ]
 clear h hp hcap hb0 hPQ hnl
 simp only [campA] at hW0 ⊢
 go_enter Tryz.func4, Tryz.ntmps4
 go_upto_region 1 with (fail)
 clear hW0 hqb
 have HBR0 : Hid (Below W0.heap.size W0 W0) := Lib.hid (Below.refl _ _)
 go_wp2_with (first | (refine wpLoadAt rfl 26 _ rfl qb 0 rfl (campA V c) _ (HLC.out _ HBR0.out) und_camp rfl (info_campA V c) ?_))
 refine (HGR.out _ HBR0.out).mono ?_
 rintro e WG ⟨bg, rfl, hb1⟩
 have HBWG := Lib.hid hb1
 clear hb1
 cases bg with
 | true =>
  go_wp2_with (first | (refine wpLoadAt rfl 26 _ rfl qb 0 rfl (campA V c) _ (HLC.out _ HBWG.out) und_camp rfl (info_campA V c) ?_))
  refine (HAW.out _ HBWG.out).mono ?_
  rintro e WZ ⟨rfl, hb1⟩
  have HBWZ := Lib.hid hb1
  clear hb1
  go_wp2_with fail
  first | exact HFIN.out _ HBWZ.out | (go_ret; exact HFIN.out _ HBWZ.out)
 | false =>
 go_wp2_with (first | (refine wpLoadAt rfl 26 _ rfl qb 0 rfl (campA V c) _ (HLC.out _ HBWG.out) und_camp rfl (info_campA V c) ?_))
 refine (HLG.out _ HBWG.out).mono ?_
 rintro e WL ⟨bl, rfl, hb1, hl20⟩
 have HBWL := Lib.hid hb1
 clear hb1
 cases bl with
 | true =>
  clear hl20
  go_wp2_with (first | (refine wpLoadAt rfl 26 _ rfl qb 0 rfl (campA V c) _ (HLC.out _ HBWL.out) und_camp rfl (info_campA V c) ?_))
  refine (HAW.out _ HBWL.out).mono ?_
  rintro e WZ ⟨rfl, hb1⟩
  have HBWZ := Lib.hid hb1
  clear hb1
  go_wp2_with fail
  first | exact HFIN.out _ HBWZ.out | (go_ret; exact HFIN.out _ HBWZ.out)
 | false =>
 have hn20 : nl ≤ 20 := hl20 rfl
 clear hl20
 go_wp2_with (first | (refine wpLoadAt rfl 26 _ rfl qb 0 rfl (campA V c) _ (HLC.out _ HBWL.out) und_camp rfl (info_campA V c) ?_))
 refine (HWO.out _ HBWL.out).mono ?_
 rintro e W3 ⟨rfl, hb1⟩
 have HBW3 := Lib.hid hb1
 clear hb1
 go_wp2_with (first | (refine wpLoadAt rfl 26 _ rfl qb 0 rfl (campA V c) _ (HLC.out _ HBW3.out) und_camp rfl (info_campA V c) ?_))
 refine (HRW.out _ HBW3.out).mono ?_
 rintro e W4 ⟨rfl, hb1⟩
 have HBW4 := Lib.hid hb1
 clear hb1
 go_wp2_with (first | (refine wpLoadAt rfl 26 _ rfl qb 0 rfl (campA V c) _ (HLC.out _ HBW4.out) und_camp rfl (info_campA V c) ?_))
 refine (HRO.out _ HBW4.out hn20).mono ?_
 rintro e W5 ⟨rfl, hb1⟩
 have HBW5 := Lib.hid hb1
 clear hb1
 go_wp2_with (first | (refine wpLoadAt rfl 26 _ rfl qb 0 rfl (campA V c) _ (HLC.out _ HBW5.out) und_camp rfl (info_campA V c) ?_))
 refine (HRR.out _ HBW5.out hn20).mono ?_
 rintro e W6 ⟨rfl, hb1⟩
 have HBW6 := Lib.hid hb1
 clear hb1
 have hz1 : (a == a) = true := beq_self_eq_true a
 have hz2 : (b == b) = true := beq_self_eq_true b
 have hz3 : (d == d) = true := beq_self_eq_true d
 have hz4 : (p == p) = true := beq_self_eq_true p
 have hz5 : (q == q) = true := beq_self_eq_true q
 go_wp2_with (first | (refine wpLoadAt rfl 26 _ rfl qb 0 rfl (campA V c) _ (HLC.out _ HBW6.out) und_camp rfl (info_campA V c) ?_))
 refine (HAW.out _ HBW6.out).mono ?_
 rintro e WZ ⟨rfl, hb1⟩
 have HBWZ := Lib.hid hb1
 clear hb1
 go_wp2_with fail
 first | exact HFIN.out _ HBWZ.out | (go_ret; exact HFIN.out _ HBWZ.out)
end Go.Proofs.YtcnjenlojnognaaGreat
