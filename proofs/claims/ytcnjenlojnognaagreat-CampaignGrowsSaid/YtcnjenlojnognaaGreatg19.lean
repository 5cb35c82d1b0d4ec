/- What is proved: the texts Le, one behind the other; each says at its head what it proves, and under which conditions. -/
import Derived.Test.YtcnjenlojnognaaGreatg18
/- What is proved: the walk of CampaignGrows: true for every input. Conditions: the arguments lie in memory. -/
namespace Go.Proofs.YtcnjenlojnognaaGreat
open Go.RowKit

def mN (m0 m1 m2 : Int) (i : Nat) : Int := if i = 0 then m0 else if i = 1 then m1 else if i = 2 then m2 else 0
theorem mN_bd {m0 m1 m2 : Int} (h0 : 0 ≤ m0 ∧ m0 ≤ 65535) (h1 : 0 ≤ m1 ∧ m1 ≤ 65535) (h2 : 0 ≤ m2 ∧ m2 ≤ 65535) (i : Nat) : 0 ≤ mN m0 m1 m2 i ∧ mN m0 m1 m2 i ≤ 65535 := by
  unfold mN; split
  · exact h0
  · split
    · exact h1
    · split
      · exact h2
      · omega
/-- The crafts' block while they grow: the first k have grown. -/
def GrR (wo : World) (gq g : Nat) (V : CV) (c : CampD) (c5 : Nat) (m : Nat → Int) (k : Nat) (w' : World) : Prop :=
  Below gq wo w' ∧ Bk w' gq 26 #[.slice (some ⟨g, 0, none⟩) c.crafts.length c5, .slice V.pA c.pads.length V.pc, .slice V.gA c.cargos.length V.gc, .int .i64 0] ∧
  ∃ cur, Bk w' g 46 cur ∧ ∀ i, i < c.crafts.length → ∀ j, j < 4 → cur[i * 4 + j]? = some (craftC (if i < k then grownC m (c.craftN i) i else c.craftN i) j)
theorem GrR.row {wo w' : World} {gq g c5 k : Nat} {V : CV} {c : CampD} {m : Nat → Int} (h : GrR wo gq g V c c5 m k w') {i : Nat} (hi : i < c.crafts.length) (hk : ¬ i < k) :
    w'.cell? ⟨g, i * 4 + 1, none⟩ = some (.int .i64 (c.craftN i).lift) ∧ w'.frozen? ⟨g, i * 4 + 1, none⟩ = false := by
  obtain ⟨_, _, cur, hb, hc⟩ := h
  refine ⟨?_, hb.free _⟩
  rw [hb.cell, hc i hi 1 (by omega), if_neg hk]; rfl
theorem GrR.next {wo w' : World} {gq g c5 k : Nat} {V : CV} {c : CampD} {m : Nat → Int} (h : GrR wo gq g V c c5 m k w') (hk : k < c.crafts.length) (hg : gq < g) :
    GrR wo gq g V c c5 m (k + 1) (w'.setCell ⟨g, k * 4 + 1, none⟩ (.int .i64 (grownC m (c.craftN k) k).lift)) := by
  obtain ⟨h1, h2, cur, hb, hc⟩ := h
  refine ⟨h1.setCell (p := ⟨g, k * 4 + 1, none⟩) (by show gq ≤ g; omega) _, h2.far (p := ⟨g, k * 4 + 1, none⟩) (by show gq ≠ g; omega) _, _, hb.set _ _, fun i hi j hj => ?_⟩
  have h0 := hc i hi j hj
  have hsz : k * 4 + 1 < cur.size := by
    have := hc k hk 1 (by omega)
    exact (Array.getElem?_eq_some_iff.1 this).1
  rw [Array.getElem?_setIfInBounds]
  by_cases e : k * 4 + 1 = i * 4 + j
  · have e1 : i = k := by omega
    have e2 : j = 1 := by omega
    subst e1 e2
    rw [if_pos rfl, if_pos hsz, if_pos (by omega)]; rfl
  · rw [if_neg e, h0]
    by_cases e1 : i = k
    · subst e1
      have e2 : j ≠ 1 := by omega
      rw [if_neg (by omega), if_pos (by omega)]
      match j, hj, e2 with
      | 0, _, _ => rfl
      | 2, _, _ => rfl
      | 3, _, _ => rfl
    · by_cases e3 : i < k
      · rw [if_pos e3, if_pos (by omega)]
      · rw [if_neg e3, if_neg (by omega)]
theorem GrR.drew {wo w' : World} {gq g c5 k : Nat} {V : CV} {c : CampD} {m : Nat → Int} (h : GrR wo gq g V c c5 m k w') : GrR wo gq g V c c5 m k w'.drew := by
  obtain ⟨h1, h2, cur, hb, hc⟩ := h
  exact ⟨h1.drew, h2, cur, hb, hc⟩
theorem GrR.camp {wo w' : World} {gq g c5 : Nat} {V : CV} {c : CampD} {m : Nat → Int} (h : GrR wo gq g V c c5 m c.crafts.length w') (hq : gq = wo.heap.size) (hc : CampAt wo wo.heap.size V c) :
    CampAt w' w'.heap.size { V with cA := some ⟨g, 0, none⟩, cc := c5 } (grownB c m) := by
  obtain ⟨h1, h2, cur, hb, hr⟩ := h
  have hc' := hc.later (by rw [← hq]; exact h1)
  refine ⟨?_, hc'.pads, hc'.cargos, hc'.takes⟩
  rw [grown_len]
  refine ⟨hc.crafts.1, fun _ => ⟨g, 0, rfl, hb.lt, fun i hi j hj => ?_⟩⟩
  rw [Nat.zero_add, hb.cell, hr i hi j hj, if_pos hi]
  show _ = some (craftC ((grownB c m).craftN i) j)
  rw [grown_craftN c m hi]
set_option maxRecDepth 100000 in
set_option maxHeartbeats 32000000 in
theorem growsLaw_any (w : World) (V : CV) (c : CampD) (h : CampAt w w.heap.size V c)  (m0 m1 m2 : Int) (hm0 : 0 ≤ m0 ∧ m0 ≤ 65535) (hm1 : 0 ≤ m1 ∧ m1 ≤ 65535) (hm2 : 0 ≤ m2 ∧ m2 ≤ 65535) :
    Calls Tryz.prog 7 #[.agg (campA V c), .agg #[.int .u16 m0, .int .u16 m1, .int .u16 m2]] w fun e w' => e = .returned (.bool true) ∧ Below w.heap.size w w' := by
  obtain ⟨qb, hqb⟩ : ∃ qb, w.heap.size = qb := ⟨_, rfl⟩
  obtain ⟨W0, hW0⟩ : ∃ W0, (w.alloc (.cells (campA V c) 26)).alloc (.cells #[.int .u16 m0, .int .u16 m1, .int .u16 m2] 44) = W0 := ⟨_, rfl⟩
  have hb0 : Below w.heap.size w W0 := by rw [← hW0]; exact ((Below.refl _ w).alloc (Nat.le_refl _) _).alloc (by simp) _
  have HKC : Hid (Bk W0 qb 26 (campA V c)) := Lib.hid (by rw [← hW0, ← hqb]; exact (Bk.new _ _ _).alloc _)
  have HKX : Hid (Bk W0 (qb + 1) 44 #[.int .u16 m0, .int .u16 m1, .int .u16 m2]) := Lib.hid (by rw [← hW0, ← hqb]; exact Bk.newAt _ _ _ _ (by simp))
  obtain ⟨PQ, hPQ⟩ : ∃ Q, (fun (e : Ending) (w' : World) => e = .returned (.bool true) ∧ Below w.heap.size w w') = Q := ⟨_, rfl⟩
  have HFIN : Hid (∀ w', Below W0.heap.size W0 w' → PQ (.returned (.bool true)) w') := Lib.hid fun w' h2 => by
    rw [← hPQ]; exact ⟨rfl, hb0.trans (h2.mono hb0.size)⟩
  have HCA := Lib.hid (h.later hb0)
  have HCW : Hid (∀ w1, Below W0.heap.size W0 w1 → CampAt w1 w1.heap.size V c) := Lib.hid fun w1 hb => HCA.out.later hb
  have HGR : Hid (∀ w1, Below W0.heap.size W0 w1 → Calls Tryz.prog 13 #[.agg (campA V c)] w1 fun e w' => ∃ b, e = .returned (.bool b) ∧ Below W0.heap.size W0 w') := Lib.hid fun w1 hb =>
    (great_any w1 V c (HCW.out w1 hb)).mono fun e w' ⟨b, he, h2⟩ => ⟨b, he, hb.trans (h2.mono hb.size)⟩
  have HAW : Hid (∀ w1, Below W0.heap.size W0 w1 → Calls Tryz.prog 15 #[] w1 fun e w' => e = .returned (.bool true) ∧ Below W0.heap.size W0 w') := Lib.hid fun w1 hb =>
    (awake_any w1).mono fun e w' ⟨he, h2⟩ => ⟨he, hb.trans (h2.mono hb.size)⟩
  have HAR : Hid (∀ w1, Below W0.heap.size W0 w1 → Calls Tryz.prog 15 #[] w1 fun e w' => e = .returned (.bool true) ∧ Below w1.heap.size w1 w') := Lib.hid fun w1 hb => awake_any w1
  have HLC : Hid (∀ w1, Below W0.heap.size W0 w1 → ∀ j u, (campA V c)[j]? = some u → w1.cell? ⟨qb, 0 + j, none⟩ = some u) := Lib.hid fun w1 hb j u hj => by rw [Nat.zero_add, (HKC.out.below hb HKC.out.lt).cell]; exact hj
  obtain ⟨ng, hng⟩ : ∃ ng, c.cargos.length = ng := ⟨_, rfl⟩
  have HNG := Lib.hid hng
  have HG2 : Hid (∀ w1, Below W0.heap.size W0 w1 → w1.cell? ⟨qb, 2, none⟩ = some (.slice V.gA ng V.gc)) := Lib.hid fun w1 hb => by rw [← HNG.out]; exact HLC.out w1 hb 2 _ rfl
  clear hng
  obtain ⟨mm, hmm⟩ : ∃ f, mN m0 m1 m2 = f := ⟨_, rfl⟩
  have hmb : ∀ i, 0 ≤ mm i ∧ mm i ≤ 65535 := fun i => by rw [← hmm]; exact mN_bd hm0 hm1 hm2 i
  have HMB := Lib.hid hmb
  have HMX : Hid (∀ w1, Below W0.heap.size W0 w1 → ∀ i, i < 3 → w1.cell? ⟨qb + 1, i, none⟩ = some (.int .u16 (mm i))) := Lib.hid fun w1 hb i hi => by
    have k1 := HKX.out.below hb HKX.out.lt
    rw [← hmm, k1.cell]
    match i, hi with
    | 0, _ => rfl
    | 1, _ => rfl
    | 2, _ => rfl
  obtain ⟨nc, hnc⟩ : ∃ n, c.crafts.length = n := ⟨_, rfl⟩
  have HNC := Lib.hid hnc
  obtain ⟨np, hnp⟩ : ∃ n, c.pads.length = n := ⟨_, rfl⟩
  have HNP := Lib.hid hnp
  have HCL : Hid (∀ w1, Below W0.heap.size W0 w1 → w1.cell? ⟨qb, 0, none⟩ = some (.slice V.cA nc V.cc) ∧ w1.cell? ⟨qb, 1, none⟩ = some (.slice V.pA np V.pc) ∧ w1.cell? ⟨qb, 2, none⟩ = some (.slice V.gA ng V.gc) ∧ w1.cell? ⟨qb, 3, none⟩ = some (.int .i64 c.margin)) := Lib.hid fun w1 hb => by
    rw [← HNG.out, ← hnc, ← hnp]
    exact ⟨HLC.out w1 hb 0 _ rfl, HLC.out w1 hb 1 _ rfl, HLC.out w1 hb 2 _ rfl, HLC.out w1 hb 3 _ rfl⟩
  obtain ⟨Bp, hBp⟩ : ∃ r, (bstB c).1 = r := ⟨_, rfl⟩
  obtain ⟨fb, hfb⟩ : ∃ r, (bstB c).2 = r := ⟨_, rfl⟩
  obtain ⟨c9, hc9⟩ : ∃ x, grownB c mm = x := ⟨_, rfl⟩
  have HC9 := Lib.hid hc9
  obtain ⟨Bg, hBg⟩ : ∃ r, (bstB c9).1 = r := ⟨_, rfl⟩
  obtain ⟨fg, hfg⟩ : ∃ r, (bstB c9).2 = r := ⟨_, rfl⟩
  obtain ⟨va, hva⟩ : ∃ r, (worthB c Bp).1 = r := ⟨_, rfl⟩
  obtain ⟨vb, hvb⟩ : ∃ r, (worthB c Bp).2.1 = r := ⟨_, rfl⟩
  obtain ⟨vf, hvf⟩ : ∃ r, (worthB c Bp).2.2 = r := ⟨_, rfl⟩
  obtain ⟨ua, hua⟩ : ∃ r, (worthB c9 Bg).1 = r := ⟨_, rfl⟩
  obtain ⟨ub, hub⟩ : ∃ r, (worthB c9 Bg).2.1 = r := ⟨_, rfl⟩
  obtain ⟨uf, huf⟩ : ∃ r, (worthB c9 Bg).2.2 = r := ⟨_, rfl⟩
  have HLAW : Hid (fb = 0 → (fg = 0 ∧ vf = 0 ∧ uf = 0 ∧ va ≤ ua) ∧ campB c = true) := Lib.hid fun h0 => by
    have h1 := grows_law (c := c) (m := mm) (fun i => (hmb i).1) (by rw [hfb]; exact h0)
    rw [hc9, hBp, hBg, hfg, hvf, huf, hva, hua] at h1
    obtain ⟨_, h2, _⟩ := bst_zero (c := c) (by rw [hfb]; exact h0)
    exact ⟨h1, h2⟩
  have HBE : Hid (∀ w1, Below W0.heap.size W0 w1 → Calls Tryz.prog 25 #[.agg (campA V c)] w1 fun e w' => ∃ A n c', e = .returned (.tuple #[.slice A n c', .int .i64 fb]) ∧ n = Bp.length ∧ n ≤ c' ∧ PlanAt w' w'.heap.size A Bp ∧ Below w1.heap.size w1 w') := Lib.hid fun w1 hb => by
    refine (Best_any w1 V c (HCW.out w1 hb)).mono fun e w' ⟨A, n, c', he, hn, hc, hp, h2⟩ => ?_
    rw [hfb] at he; rw [hBp] at hn hp
    exact ⟨A, n, c', he, hn, hc, hp.at, h2⟩
  have HBG : Hid (∀ w1 V9, CampAt w1 w1.heap.size V9 c9 → Calls Tryz.prog 25 #[.agg (campA V9 c9)] w1 fun e w' => ∃ A n c', e = .returned (.tuple #[.slice A n c', .int .i64 fg]) ∧ n = Bg.length ∧ n ≤ c' ∧ PlanAt w' w'.heap.size A Bg ∧ Below w1.heap.size w1 w') := Lib.hid fun w1 V9 hc => by
    refine (Best_any w1 V9 c9 hc).mono fun e w' ⟨A, n, c', he, hn, hc, hp, h2⟩ => ?_
    rw [hfg] at he; rw [hBg] at hn hp
    exact ⟨A, n, c', he, hn, hc, hp.at, h2⟩
  have HWO : Hid (∀ w1 A n c', Below W0.heap.size W0 w1 → PlanAt w1 w1.heap.size A Bp → n = Bp.length → n ≤ c' → Calls Tryz.prog 20 #[.agg (campA V c), .slice A n c'] w1 fun e w' => e = .returned (.tuple #[.int .i64 va, .bool vb, .int .i64 vf]) ∧ Below w1.heap.size w1 w') := Lib.hid fun w1 A n c' hb hp hn hc => by
    subst hn
    rw [← hva, ← hvb, ← hvf]
    exact worth_any w1 V c (HCW.out w1 hb) Bp A c' hp hc
  have HWG : Hid (∀ w1 V9 A n c', CampAt w1 w1.heap.size V9 c9 → PlanAt w1 w1.heap.size A Bg → n = Bg.length → n ≤ c' → Calls Tryz.prog 20 #[.agg (campA V9 c9), .slice A n c'] w1 fun e w' => e = .returned (.tuple #[.int .i64 ua, .bool ub, .int .i64 uf]) ∧ Below w1.heap.size w1 w') := Lib.hid fun w1 V9 A n c' hcw hp hn hc => by
    subst hn
    rw [← hua, ← hub, ← huf]
    exact worth_any w1 V9 c9 hcw Bg A c' hp hc
  clear hmm hmb hnc hnp hBp hfb hc9 hBg hfg hva hvb hvf hua hub huf hm0 hm1 hm2
  rw [hPQ]
  clear h hb0 hPQ
  simp only [campA] at hW0 ⊢
  go_enter Tryz.func7, Tryz.ntmps7
  go_upto_region 1 with (fail)
  clear hW0 hqb
  have HBR0 : Hid (Below W0.heap.size W0 W0) := Lib.hid (Below.refl _ _)
  go_wp2_with (first | (refine wpLoadAt rfl 26 _ rfl qb 0 rfl (campA V c) _ (HLC.out _ HBR0.out) und_camp rfl (info_campA V c) ?_))
  refine (HGR.out _ HBR0.out).mono ?_
  rintro e WG ⟨bg, rfl, hb1⟩
  have HBWG := Lib.hid hb1
  clear hb1
  cases bg with
  | true =>
    go_wp2_with (first | (refine wpLoadAt rfl 26 _ rfl qb 0 rfl (campA V c) _ (HLC.out _ HBWG.out) und_camp rfl (info_campA V c) ?_))
    refine (HAW.out _ HBWG.out).mono ?_
    rintro e WZ ⟨rfl, hb1⟩
    have HBWZ := Lib.hid hb1
    clear hb1
    go_wp2_with fail
    first | exact HFIN.out _ HBWZ.out | (go_ret; exact HFIN.out _ HBWZ.out)
  | false =>
  obtain ⟨k0, k1, k2, k3⟩ := HCL.out _ HBWG.out
  by_cases hg : 5 < ng
  · have hgi : (5 : Int) < (ng : Int) := by omega
    have hgd : decide ((5 : Int) < (ng : Int)) = true := decide_eq_true hgi
    clear k0 k1 k3
    go_wp2_with (first | (refine wpLoadAt rfl 26 _ rfl qb 0 rfl (campA V c) _ (HLC.out _ HBWG.out) und_camp rfl (info_campA V c) ?_))
    refine (HAW.out _ HBWG.out).mono ?_
    rintro e WZ ⟨rfl, hb1⟩
    have HBWZ := Lib.hid hb1
    clear hb1
    go_wp2_with fail
    first | exact HFIN.out _ HBWZ.out | (go_ret; exact HFIN.out _ HBWZ.out)
  have hgd : decide ((5 : Int) < (ng : Int)) = false := decide_eq_false (by omega)
  have hgn : decide (5 < ng) = false := decide_eq_false hg
  by_cases hh : 3 < nc
  · have hhi : (3 : Int) < (nc : Int) := by omega
    have hhd : decide ((3 : Int) < (nc : Int)) = true := decide_eq_true hhi
    clear k1 k3
    go_wp2_with (first | (refine wpLoadAt rfl 26 _ rfl qb 0 rfl (campA V c) _ (HLC.out _ HBWG.out) und_camp rfl (info_campA V c) ?_))
    refine (HAW.out _ HBWG.out).mono ?_
    rintro e WZ ⟨rfl, hb1⟩
    have HBWZ := Lib.hid hb1
    clear hb1
    go_wp2_with fail
    first | exact HFIN.out _ HBWZ.out | (go_ret; exact HFIN.out _ HBWZ.out)
  have hhd : decide ((3 : Int) < (nc : Int)) = false := decide_eq_false (by omega)
  have hhn : decide (3 < nc) = false := decide_eq_false hh
  have hnc3 : nc ≤ 3 := by omega
  clear k1 k3
  go_wp2_with (first | (refine wpLoadAt rfl 26 _ rfl qb 0 rfl (campA V c) _ (HLC.out _ HBWG.out) und_camp rfl (info_campA V c) ?_))
  refine (HBE.out _ HBWG.out).mono ?_
  rintro e W3 ⟨A3, n3, c3, rfl, hn3, hc3, hp3, hb1⟩
  have HRW3 := Lib.hid hb1
  have HBW3 := Lib.hid (HBWG.out.trans (hb1.mono HBWG.out.size))
  clear hb1
  have HN3 := Lib.hid hn3
  have HC3 := Lib.hid hc3
  have HP3 := Lib.hid hp3
  clear hn3 hc3 hp3 k0 k2 hgd hgn hhd hhn hg hh
  by_cases hf : fb = 0
  case neg =>
    have hz : (fb == 0) = false := by rw [beq_eq_false_iff_ne]; exact hf
    clear hf
    go_wp2_with (first | (refine wpLoadAt rfl 26 _ rfl qb 0 rfl (campA V c) _ (HLC.out _ HBW3.out) und_camp rfl (info_campA V c) ?_))
    refine (HAW.out _ HBW3.out).mono ?_
    rintro e WZ ⟨rfl, hb1⟩
    have HBWZ := Lib.hid hb1
    clear hb1
    go_wp2_with fail
    first | exact HFIN.out _ HBWZ.out | (go_ret; exact HFIN.out _ HBWZ.out)
  case pos =>
  subst hf
  have HL1 := Lib.hid (HLAW.out rfl).1
  have HCC := Lib.hid (HLAW.out rfl).2
  clear HLAW
  obtain ⟨k0, k1, k2, k3⟩ := HCL.out _ HBW3.out
  obtain ⟨gq, hgq⟩ : ∃ x, W3.heap.size = x := ⟨_, rfl⟩
  go_upto_region 8 with (fail)
  clear k0 k1 k2 k3
  obtain ⟨W4, hW4⟩ : ∃ W4, W3.alloc (.cells #[.slice V.cA nc V.cc, .slice V.pA np V.pc, .slice V.gA ng V.gc, .int .i64 0] 26) = W4 := ⟨_, rfl⟩
  have hb4 : Below W3.heap.size W3 W4 := by rw [← hW4]; exact (Below.refl _ W3).alloc (Nat.le_refl _) _
  have HK4 : Hid (Bk W4 gq 26 #[.slice V.cA nc V.cc, .slice V.pA np V.pc, .slice V.gA ng V.gc, .int .i64 0]) := Lib.hid (by rw [← hW4, ← hgq]; exact Bk.new _ _ _)
  have HB4 : Hid (Below W0.heap.size W0 W4) := Lib.hid (HBW3.out.trans (hb4.mono HBW3.out.size))
  have HB34 := Lib.hid hb4
  have HGQ := Lib.hid hgq
  have HQ4 : Hid (W4.heap.size = gq + 1) := Lib.hid (by rw [← hW4, ← hgq, World.size_alloc])
  rw [hW4]
  clear hW4 hb4 hgq
  obtain ⟨iC, zC, hiC, hzC, hsC, hyC⟩ := info_ex info_craftx
  obtain ⟨k0, _, _, _⟩ := HCL.out W4 HB4.out
  have k0' : (W4.alloc (.cells #[] 46)).cell? ⟨qb, 0, none⟩ = some (.slice V.cA nc V.cc) := (HCL.out _ (HB4.out.alloc HB4.out.size _)).1
  have HSL : Hid (∀ w1, Below W0.heap.size W0 w1 → Sl w1 w1.heap.size 4 V.cA nc fun i => craftC (c.craftN i)) := Lib.hid fun w1 hb => by rw [← HNC.out]; exact (HCW.out w1 hb).crafts
  have hs4 : W0.heap.size ≤ W4.heap.size := HB4.out.size
  have hnc4 : nc ≤ 4096 := by omega
  go_wp2_with (at_builtin; refine wpList_copyAll rfl 22 _ _ rfl 46 iC zC Tryz.underlying22 hiC hzC 4 hsC hyC ⟨W4.heap.size, 0, none⟩ rfl V.cA nc V.cc rfl (fun i => craftC (c.craftN i)) (HSL.out _ (HB4.out.alloc hs4 _)) hnc4 ?_)
  intro A5 c5 W5 hcl5 hb5
  have hlen := camp_len HCC.out
  have hnc1 : 1 ≤ nc := by have := HNC.out; omega
  obtain ⟨g, cur, rfl, hg1, hbk, hrow⟩ := hcl5.2 (by omega)
  have hq4 : W4.heap.size = gq + 1 := HQ4.out
  have hgg : gq < g := by omega
  have HKA : Hid (Bk W5 gq 26 #[.slice V.cA nc V.cc, .slice V.pA np V.pc, .slice V.gA ng V.gc, .int .i64 0]) := Lib.hid ((HK4.out.alloc _).below hb5 (by first | omega | (rw [World.size_alloc]; omega) | (simp; omega)))
  have q0 : W5.cell? ⟨gq, 0, none⟩ = some (.slice V.cA nc V.cc) := HKA.out.cell 0
  have f0 : W5.frozen? ⟨gq, 0, none⟩ = false := HKA.out.free 0
  have HB35 : Hid (Below gq W3 W5) := Lib.hid (by
    have h1 : Below gq W3 W4 := by rw [← HGQ.out]; exact HB34.out
    exact (h1.alloc (by omega) _).trans (hb5.mono (by first | omega | (rw [World.size_alloc]; omega) | (simp; omega))))
  have HROW := Lib.hid hrow
  have HBK := Lib.hid hbk
  have HGG := Lib.hid hgg
  clear hcl5 hb5 hrow hbk hg1 hq4 k0 k0' hiC hzC hsC hyC hs4 hlen
  go_upto_region 9 with (fail)
  obtain ⟨W6, hW6⟩ : ∃ W6, W5.setCell ⟨gq, 0, none⟩ (.slice (some ⟨g, 0, none⟩) nc c5) = W6 := ⟨_, rfl⟩
  have HR6 : Hid (GrR W3 gq g V c c5 mm 0 W6) := Lib.hid (by
    rw [← hW6]
    refine ⟨HB35.out.setCell (p := ⟨gq, 0, none⟩) (Nat.le_refl _) _, ?_, cur, HBK.out.far (p := ⟨gq, 0, none⟩) (by show g ≠ gq; have := HGG.out; omega) _, fun i hi j hj => ?_⟩
    · rw [HNC.out, HNP.out, HNG.out]
      have := HKA.out.set 0 (.slice (some ⟨g, 0, none⟩) nc c5); exact this
    · rw [if_neg (Nat.not_lt_zero i)]; exact HROW.out i (by rw [← HNC.out]; exact hi) j hj)
  have HRB : Hid (∀ k w1, GrR W3 gq g V c c5 mm k w1 → Below W3.heap.size W3 w1 ∧ Below W0.heap.size W0 w1 ∧ w1.cell? ⟨gq, 0, none⟩ = some (.slice (some ⟨g, 0, none⟩) nc c5)) := Lib.hid fun k w1 h => by
    have h1 : Below W3.heap.size W3 w1 := by rw [HGQ.out]; exact h.1
    exact ⟨h1, HBW3.out.trans (h1.mono HBW3.out.size), by rw [← HNC.out]; exact h.2.1.cell 0⟩
  rw [hW6]
  clear hW6 q0 f0
  go_wp2_with fail
  go_loopw [8] (fun iv wr => ∃ k : Nat, k ≤ nc ∧ iv = .int .i64 k ∧ Hid (GrR W3 gq g V c c5 mm k wr)) (fun iv _ => nc - (intOf iv).toNat)
  case atStart => exact ⟨0, Nat.zero_le _, rfl, HR6⟩
  case round =>
    obtain ⟨k, hk, rfl, hs⟩ := hrel
    have HR := hs
    clear hs
    have h0k : (0 : Int) ≤ (k : Int) := by omega
    obtain ⟨_, _, q0⟩ := HRB.out k wr HR.out
    by_cases hlt : k < nc
    case pos =>
      have hki : (k : Int) < (nc : Int) := by omega
      have hk3 : (k : Int) < 3 := by omega
      have hkc : k < c.crafts.length := by rw [HNC.out]; exact hlt
      obtain ⟨r1, fr⟩ := HR.out.row hkc (Nat.lt_irrefl k)
      have x1 := HMX.out wr (HRB.out k wr HR.out).2.1 k (by omega)
      obtain ⟨lf, hlf⟩ : ∃ x, (c.craftN k).lift = x := ⟨_, rfl⟩
      obtain ⟨mk, hmk⟩ : ∃ x, mm k = x := ⟨_, rfl⟩
      have hcb := camp_craft HCC.out (k : Int)
      rw [craft_nat, hlf] at hcb
      have hmb := HMB.out k
      rw [hmk] at hmb x1
      rw [hlf] at r1
      have HG : Hid ((grownC mm (c.craftN k) k).lift = min (lf + mk) 1073741824) := Lib.hid (by unfold grownC; dsimp only; rw [hlf, hmk])
      have HKC' := Lib.hid hkc
      obtain ⟨hm0, hm1⟩ := hmb
      obtain ⟨_, _, _, _, hl0, hl1⟩ := hcb
      have hws : IntKind.i64.wrap (lf + mk) = lf + mk := IntWalk.i64_in _ (by omega)
      clear hlf hmk hkc
      go_wp2_with fail
      go_still_tail 15, (by kernel_rfl)
      go_wp2_with fail
      go_roundw
      case rel => exact ⟨k + 1, by omega, by go_num, Lib.hid (by
        have h := (HR.out.next HKC'.out HGG.out).drew
        rw [HG.out] at h
        exact h)⟩
      case measure => simp [intOf]; omega
    case neg =>
      obtain rfl : k = nc := by omega
      obtain ⟨hb3r, hb0r, _⟩ := HRB.out k wr HR.out
      have HX3 := Lib.hid hb3r
      have HBWX := Lib.hid hb0r
      have hgr := HR.out
      rw [← HNC.out] at hgr
      obtain ⟨V9, hV9⟩ : ∃ v : CV, { V with cA := some ⟨g, 0, none⟩, cc := c5 } = v := ⟨_, rfl⟩
      have HCG : Hid (∀ w1, Below wr.heap.size wr w1 → CampAt w1 w1.heap.size V9 c9) := Lib.hid fun w1 hb => by
        rw [← HC9.out, ← hV9]; exact (hgr.camp HGQ.out.symm (HCW.out W3 HBW3.out)).later hb
      have HLG : Hid (∀ w1, Below wr.heap.size wr w1 → ∀ j u, (campA V9 c9)[j]? = some u → w1.cell? ⟨gq, 0 + j, none⟩ = some u) := Lib.hid fun w1 hb j u hj => by
        rw [Nat.zero_add, (hgr.2.1.below hb hgr.2.1.lt).cell, ← hj, ← hV9, ← HC9.out]
        unfold campA
        rw [grown_len]
        rfl
      obtain ⟨e1, e2, e3, e4⟩ := HL1.out
      subst e1 e2 e3
      have HGE := Lib.hid e4
      clear hb3r hb0r hgr hV9 e4 HL1
      go_wp2_with (first | (refine wpLoadAt rfl 26 _ rfl gq 0 rfl (campA V9 c9) _ (HLG.out _ (Below.refl _ _)) und_camp rfl (info_campA V9 c9) ?_))
      refine (HBG.out wr V9 (HCG.out wr (Below.refl _ _))).mono ?_
      rintro e W7 ⟨A7, n7, c7, rfl, hn7, hc7, hp7, hb7⟩
      have HN7 := Lib.hid hn7
      have HC7 := Lib.hid hc7
      have HP7 := Lib.hid hp7
      have HX7 := Lib.hid hb7
      have HBW7 := Lib.hid (HBWX.out.trans (hb7.mono HBWX.out.size))
      have HP37 := Lib.hid (HP3.out.later (HX3.out.trans (hb7.mono HX3.out.size)))
      clear hn7 hc7 hp7 hb7 q0
      go_wp2_with (first | (refine wpLoadAt rfl 26 _ rfl qb 0 rfl (campA V c) _ (HLC.out _ HBW7.out) und_camp rfl (info_campA V c) ?_))
      refine (HWO.out W7 A3 n3 c3 HBW7.out HP37.out HN3.out HC3.out).mono ?_
      rintro e W8 ⟨rfl, hb8⟩
      have HX8 := Lib.hid (HX7.out.trans (hb8.mono HX7.out.size))
      have HBW8 := Lib.hid (HBW7.out.trans (hb8.mono HBW7.out.size))
      have HP78 := Lib.hid (HP7.out.later hb8)
      clear hb8
      go_wp2_with (first | (refine wpLoadAt rfl 26 _ rfl gq 0 rfl (campA V9 c9) _ (HLG.out _ HX8.out) und_camp rfl (info_campA V9 c9) ?_))
      refine (HWG.out W8 V9 A7 n7 c7 (HCG.out _ HX8.out) HP78.out HN7.out HC7.out).mono ?_
      rintro e W9 ⟨rfl, hb9⟩
      have HBW9 := Lib.hid (HBW8.out.trans (hb9.mono HBW8.out.size))
      clear hb9
      have hge : decide (va ≤ ua) = true := decide_eq_true HGE.out
      go_wp2_with (first | (refine wpLoadAt rfl 26 _ rfl qb 0 rfl (campA V c) _ (HLC.out _ HBW9.out) und_camp rfl (info_campA V c) ?_))
      refine (HAW.out _ HBW9.out).mono ?_
      rintro e WZ ⟨rfl, hb1⟩
      have HBWZ := Lib.hid hb1
      clear hb1
      go_wp2_with fail
      first | exact HFIN.out _ HBWZ.out | (go_ret; exact HFIN.out _ HBWZ.out)
end Go.Proofs.YtcnjenlojnognaaGreat
