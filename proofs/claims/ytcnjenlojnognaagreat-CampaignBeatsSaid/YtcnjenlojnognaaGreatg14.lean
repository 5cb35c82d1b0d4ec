/- What is proved: the texts Lc, one behind the other; each says at its head what it proves, and under which conditions. -/
import Derived.Test.YtcnjenlojnognaaGreatg13
/- What is proved: the walk of CampaignBeats: true for every input. Conditions: the arguments lie in memory. -/
namespace Go.Proofs.YtcnjenlojnognaaGreat
open Go.RowKit

theorem bst_cases (c : CampD) : (campB c = false ∧ bstB c = ([], 2)) ∨ (campB c = true ∧ bestB c = none ∧ bstB c = ([], 7)) ∨ (∃ B, campB c = true ∧ bestB c = some B ∧ bstB c = (B, 0)) := by
  unfold bstB
  cases h : campB c with
  | false => exact Or.inl ⟨rfl, rfl⟩
  | true =>
    rw [if_neg (by decide)]
    cases hb : bestB c with
    | none => exact Or.inr (Or.inl ⟨rfl, rfl, rfl⟩)
    | some B => exact Or.inr (Or.inr ⟨B, rfl, rfl, rfl⟩)
theorem worth_zero {c : CampD} {l : List LaunchD} (h : (worthB c l).2.2 = 0) : campB c = true ∧ PlanOk c l := by
  unfold worthB at h
  cases hv : validB c l with
  | true => exact valid_iff.1 hv
  | false => rw [hv] at h; have h2 : (2 : Int) = 0 := h; exact absurd h2 (by decide)
theorem beats_law (c : CampD) (l : List LaunchD) : ((bstB c).2 = 2 ∧ (worthB c l).2.2 ≠ 0) ∨ ((bstB c).2 = 7 ∧ ¬ ((worthB c l).2.2 = 0 ∧ (worthB c l).2.1 = true)) ∨
    ((bstB c).2 = 0 ∧ (worthB c (bstB c).1).2.1 = true ∧ (worthB c (bstB c).1).2.2 = 0 ∧ ((worthB c l).2.2 = 0 → (worthB c l).2.1 = true → betterB c l (bstB c).1 = false)) := by
  rcases bst_cases c with ⟨h1, h2⟩ | ⟨h1, h2, h3⟩ | ⟨B, h1, h2, h3⟩
  · refine Or.inl ⟨by rw [h2], fun h => ?_⟩
    rw [(worth_zero h).1] at h1; exact absurd h1 (by decide)
  · refine Or.inr (Or.inl ⟨by rw [h3], fun h => ?_⟩)
    obtain ⟨B, hB, _⟩ := best_beats h1 (worth_zero h.1).2 h.2
    rw [h2] at hB; exact absurd hB (by simp)
  · have hb := best_ok h1 h2
    refine Or.inr (Or.inr ⟨by rw [h3], ?_, ?_, fun h4 h5 => ?_⟩)
    · rw [h3]; exact hb.2.1
    · rw [h3]; show (worthB c B).2.2 = 0; rw [hb.2.2]
    · rw [h3]
      obtain ⟨B', hB', hk⟩ := best_beats h1 (worth_zero h4).2 h5
      obtain rfl : B = B' := by rw [h2] at hB'; exact Option.some.inj hB'
      unfold betterB
      refine decide_eq_false ?_
      rw [keyP_swap]; show ¬ -keyP c B l < 0; omega
set_option maxRecDepth 100000 in
set_option maxHeartbeats 32000000 in
theorem beatsLaw_any (w : World) (V : CV) (c : CampD) (h : CampAt w w.heap.size V c) (l : List LaunchD) (AL : Option Addr) (cL : Nat) (hp : PlanAt w w.heap.size AL l) (hcap : l.length ≤ cL)  :
    Calls Tryz.prog 6 #[.agg (campA V c), .slice AL l.length cL] w fun e w' => e = .returned (.bool true) ∧ Below w.heap.size w w' := by
  obtain ⟨qb, hqb⟩ : ∃ qb, w.heap.size = qb := ⟨_, rfl⟩
  obtain ⟨W0, hW0⟩ : ∃ W0, w.alloc (.cells (campA V c) 26) = W0 := ⟨_, rfl⟩
  have hb0 : Below w.heap.size w W0 := by rw [← hW0]; exact (Below.refl _ w).alloc (Nat.le_refl _) _
  have HKC : Hid (Bk W0 qb 26 (campA V c)) := Lib.hid (by rw [← hW0, ← hqb]; exact Bk.new _ _ _)
  obtain ⟨PQ, hPQ⟩ : ∃ Q, (fun (e : Ending) (w' : World) => e = .returned (.bool true) ∧ Below w.heap.size w w') = Q := ⟨_, rfl⟩
  have HFIN : Hid (∀ w', Below W0.heap.size W0 w' → PQ (.returned (.bool true)) w') := Lib.hid fun w' h2 => by
    rw [← hPQ]; exact ⟨rfl, hb0.trans (h2.mono hb0.size)⟩
  have HCA := Lib.hid (h.later hb0)
  have HCW : Hid (∀ w1, Below W0.heap.size W0 w1 → CampAt w1 w1.heap.size V c) := Lib.hid fun w1 hb => HCA.out.later hb
  have HPA := Lib.hid (hp.later hb0)
  have HPW : Hid (∀ w1, Below W0.heap.size W0 w1 → PlanAt w1 w1.heap.size AL l) := Lib.hid fun w1 hb => HPA.out.later hb
  have HCAP := Lib.hid hcap
  have hll := hp.len
  obtain ⟨nl, hnl⟩ : ∃ nl, l.length = nl := ⟨_, rfl⟩
  have HNL := Lib.hid hnl
  have HGR : Hid (∀ w1, Below W0.heap.size W0 w1 → Calls Tryz.prog 13 #[.agg (campA V c)] w1 fun e w' => ∃ b, e = .returned (.bool b) ∧ Below W0.heap.size W0 w') := Lib.hid fun w1 hb =>
    (great_any w1 V c (HCW.out w1 hb)).mono fun e w' ⟨b, he, h2⟩ => ⟨b, he, hb.trans (h2.mono hb.size)⟩
  have HLG : Hid (∀ w1, Below W0.heap.size W0 w1 → Calls Tryz.prog 14 #[.slice AL nl cL] w1 fun e w' => ∃ b, e = .returned (.bool b) ∧ Below W0.heap.size W0 w' ∧ (b = false → nl ≤ 20)) := Lib.hid fun w1 hb => by
    rw [← HNL.out]
    exact (long_any w1 AL cL l (HPW.out w1 hb)).mono fun e w' ⟨b, he, h2, h3⟩ => ⟨b, he, hb.trans (h2.mono hb.size), h3⟩
  have HAW : Hid (∀ w1, Below W0.heap.size W0 w1 → Calls Tryz.prog 15 #[] w1 fun e w' => e = .returned (.bool true) ∧ Below W0.heap.size W0 w') := Lib.hid fun w1 hb =>
    (awake_any w1).mono fun e w' ⟨he, h2⟩ => ⟨he, hb.trans (h2.mono hb.size)⟩
  have HAR : Hid (∀ w1, Below W0.heap.size W0 w1 → Calls Tryz.prog 15 #[] w1 fun e w' => e = .returned (.bool true) ∧ Below w1.heap.size w1 w') := Lib.hid fun w1 hb => awake_any w1
  have HLC : Hid (∀ w1, Below W0.heap.size W0 w1 → ∀ j u, (campA V c)[j]? = some u → w1.cell? ⟨qb, 0 + j, none⟩ = some u) := Lib.hid fun w1 hb j u hj => by rw [Nat.zero_add, (HKC.out.below hb HKC.out.lt).cell]; exact hj
  obtain ⟨ng, hng⟩ : ∃ ng, c.cargos.length = ng := ⟨_, rfl⟩
  have HNG := Lib.hid hng
  have HG2 : Hid (∀ w1, Below W0.heap.size W0 w1 → w1.cell? ⟨qb, 2, none⟩ = some (.slice V.gA ng V.gc)) := Lib.hid fun w1 hb => by rw [← HNG.out]; exact HLC.out w1 hb 2 _ rfl
  clear hng
  obtain ⟨Bp, hBp⟩ : ∃ r, (bstB c).1 = r := ⟨_, rfl⟩
  obtain ⟨fb, hfb⟩ : ∃ r, (bstB c).2 = r := ⟨_, rfl⟩
  obtain ⟨a, ha⟩ : ∃ r, (worthB c l).1 = r := ⟨_, rfl⟩
  obtain ⟨b, hb9⟩ : ∃ r, (worthB c l).2.1 = r := ⟨_, rfl⟩
  obtain ⟨d, hd⟩ : ∃ r, (worthB c l).2.2 = r := ⟨_, rfl⟩
  obtain ⟨p, hp9⟩ : ∃ r, (worthB c Bp).1 = r := ⟨_, rfl⟩
  obtain ⟨q, hq9⟩ : ∃ r, (worthB c Bp).2.1 = r := ⟨_, rfl⟩
  obtain ⟨r, hr9⟩ : ∃ r, (worthB c Bp).2.2 = r := ⟨_, rfl⟩
  obtain ⟨bt, hbt⟩ : ∃ r, betterB c l Bp = r := ⟨_, rfl⟩
  have hlaw := beats_law c l
  rw [hBp, hfb, hb9, hd, hq9, hr9, hbt] at hlaw
  have HLAW := Lib.hid hlaw
  have HBE : Hid (∀ w1, Below W0.heap.size W0 w1 → Calls Tryz.prog 25 #[.agg (campA V c)] w1 fun e w' => ∃ A n c', e = .returned (.tuple #[.slice A n c', .int .i64 fb]) ∧ n = Bp.length ∧ n ≤ c' ∧ PlanAt w' w'.heap.size A Bp ∧ Below W0.heap.size W0 w') := Lib.hid fun w1 hb => by
    refine (Best_any w1 V c (HCW.out w1 hb)).mono fun e w' ⟨A, n, c', he, hn, hc, hp, h2⟩ => ?_
    rw [hfb] at he; rw [hBp] at hn hp
    exact ⟨A, n, c', he, hn, hc, hp.at, hb.trans (h2.mono hb.size)⟩
  have HRW : Hid (∀ w1, Below W0.heap.size W0 w1 → Calls Tryz.prog 21 #[.agg (campA V c), .slice AL nl cL] w1 fun e w' => e = .returned (.tuple #[.int .i64 a, .bool b, .int .i64 d]) ∧ Below w1.heap.size w1 w') := Lib.hid fun w1 hb => by
    rw [← HNL.out, ← ha, ← hb9, ← hd]
    exact refWorth_any w1 V c (HCW.out w1 hb) l AL cL (HPW.out w1 hb) HCAP.out
  have HRB : Hid (∀ w1 A n c', Below W0.heap.size W0 w1 → PlanAt w1 w1.heap.size A Bp → n = Bp.length → n ≤ c' → Calls Tryz.prog 21 #[.agg (campA V c), .slice A n c'] w1 fun e w' => e = .returned (.tuple #[.int .i64 p, .bool q, .int .i64 r]) ∧ Below w1.heap.size w1 w') := Lib.hid fun w1 A n c' hb hp hn hc => by
    subst hn
    rw [← hp9, ← hq9, ← hr9]
    exact refWorth_any w1 V c (HCW.out w1 hb) Bp A c' hp hc
  have HBT : Hid (∀ w1 A n c', Below W0.heap.size W0 w1 → PlanAt w1 w1.heap.size A Bp → n = Bp.length → n ≤ c' → Calls Tryz.prog 28 #[.agg (campA V c), .slice AL nl cL, .slice A n c'] w1 fun e w' => e = .returned (.bool bt) ∧ Below w1.heap.size w1 w') := Lib.hid fun w1 A n c' hb hp hn hc => by
    subst hn
    rw [← HNL.out, ← hbt]
    exact refBetter_any w1 V c (HCW.out w1 hb) l AL cL (HPW.out w1 hb) HCAP.out Bp A c' hp hc
  clear hBp hfb ha hb9 hd hp9 hq9 hr9 hbt hlaw
  rw [hnl, hPQ]
  clear h hp hcap hb0 hPQ hnl
  simp only [campA] at hW0 ⊢
  go_enter Tryz.func6, Tryz.ntmps6
  go_upto_region 1 with (fail)
  clear hW0 hqb
  have HBR0 : Hid (Below W0.heap.size W0 W0) := Lib.hid (Below.refl _ _)
  go_wp2_with (first | (refine wpLoadAt rfl 26 _ rfl qb 0 rfl (campA V c) _ (HLC.out _ HBR0.out) und_camp rfl (info_campA V c) ?_))
  refine (HGR.out _ HBR0.out).mono ?_
  rintro e WG ⟨bg, rfl, hb1⟩
  have HBWG := Lib.hid hb1
  clear hb1
  cases bg with
  | true =>
    go_wp2_with (first | (refine wpLoadAt rfl 26 _ rfl qb 0 rfl (campA V c) _ (HLC.out _ HBWG.out) und_camp rfl (info_campA V c) ?_))
    refine (HAW.out _ HBWG.out).mono ?_
    rintro e WZ ⟨rfl, hb1⟩
    have HBWZ := Lib.hid hb1
    clear hb1
    go_wp2_with fail
    first | exact HFIN.out _ HBWZ.out | (go_ret; exact HFIN.out _ HBWZ.out)
  | false =>
  go_wp2_with (first | (refine wpLoadAt rfl 26 _ rfl qb 0 rfl (campA V c) _ (HLC.out _ HBWG.out) und_camp rfl (info_campA V c) ?_))
  refine (HLG.out _ HBWG.out).mono ?_
  rintro e WL ⟨bl, rfl, hb1, hl20⟩
  have HBWL := Lib.hid hb1
  clear hb1
  cases bl with
  | true =>
    clear hl20
    go_wp2_with (first | (refine wpLoadAt rfl 26 _ rfl qb 0 rfl (campA V c) _ (HLC.out _ HBWL.out) und_camp rfl (info_campA V c) ?_))
    refine (HAW.out _ HBWL.out).mono ?_
    rintro e WZ ⟨rfl, hb1⟩
    have HBWZ := Lib.hid hb1
    clear hb1
    go_wp2_with fail
    first | exact HFIN.out _ HBWZ.out | (go_ret; exact HFIN.out _ HBWZ.out)
  | false =>
  have hn20 : nl ≤ 20 := hl20 rfl
  clear hl20
  have hc2 := HG2.out _ HBWL.out
  by_cases hg : 5 < ng
  · have hgi : (5 : Int) < (ng : Int) := by omega
    have hgd : decide ((5 : Int) < (ng : Int)) = true := decide_eq_true hgi
    go_wp2_with (first | (refine wpLoadAt rfl 26 _ rfl qb 0 rfl (campA V c) _ (HLC.out _ HBWL.out) und_camp rfl (info_campA V c) ?_))
    refine (HAW.out _ HBWL.out).mono ?_
    rintro e WZ ⟨rfl, hb1⟩
    have HBWZ := Lib.hid hb1
    clear hb1
    go_wp2_with fail
    first | exact HFIN.out _ HBWZ.out | (go_ret; exact HFIN.out _ HBWZ.out)
  have hgi : ¬ (5 : Int) < (ng : Int) := by omega
  have hgd : decide ((5 : Int) < (ng : Int)) = false := decide_eq_false hgi
  have hgn : decide (5 < ng) = false := decide_eq_false hg
  go_wp2_with (first | (refine wpLoadAt rfl 26 _ rfl qb 0 rfl (campA V c) _ (HLC.out _ HBWL.out) und_camp rfl (info_campA V c) ?_))
  refine (HBE.out _ HBWL.out).mono ?_
  rintro e W3 ⟨A3, n3, c3, rfl, hn3, hc3, hp3, hb1⟩
  have HB3 := Lib.hid hb1
  have HN3 := Lib.hid hn3
  have HC3 := Lib.hid hc3
  have HP3 := Lib.hid hp3
  clear hb1 hn3 hc3 hp3 hc2 hgd hgi hgn hg
  go_wp2_with (first | (refine wpLoadAt rfl 26 _ rfl qb 0 rfl (campA V c) _ (HLC.out _ HB3.out) und_camp rfl (info_campA V c) ?_))
  refine (HRW.out _ HB3.out).mono ?_
  rintro e W4 ⟨rfl, hb1⟩
  have HRW4 := Lib.hid hb1
  have HBW4 := Lib.hid (HB3.out.trans (hb1.mono HB3.out.size))
  clear hb1
  have HP4 := Lib.hid (HP3.out.later HRW4.out)
  clear HRW4
  rcases HLAW.out with ⟨h1, h2⟩ | ⟨h1, h2⟩ | ⟨h1, h2, h3, h4⟩
  · subst h1
    have hz : (d == 0) = false := by rw [beq_eq_false_iff_ne]; exact h2
    clear h2
    go_wp2_with (first | (refine wpLoadAt rfl 26 _ rfl qb 0 rfl (campA V c) _ (HLC.out _ HBW4.out) und_camp rfl (info_campA V c) ?_))
    refine (HAW.out _ HBW4.out).mono ?_
    rintro e WZ ⟨rfl, hb1⟩
    have HBWZ := Lib.hid hb1
    clear hb1
    go_wp2_with fail
    first | exact HFIN.out _ HBWZ.out | (go_ret; exact HFIN.out _ HBWZ.out)
  · subst h1
    by_cases hd : d = 0
    · subst hd
      cases b with
      | true => exact absurd ⟨rfl, rfl⟩ h2
      | false =>
        clear h2
        go_wp2_with (first | (refine wpLoadAt rfl 26 _ rfl qb 0 rfl (campA V c) _ (HLC.out _ HBW4.out) und_camp rfl (info_campA V c) ?_))
        refine (HAW.out _ HBW4.out).mono ?_
        rintro e WZ ⟨rfl, hb1⟩
        have HBWZ := Lib.hid hb1
        clear hb1
        go_wp2_with fail
        first | exact HFIN.out _ HBWZ.out | (go_ret; exact HFIN.out _ HBWZ.out)
    · have hz : (d == 0) = false := by rw [beq_eq_false_iff_ne]; exact hd
      clear hd h2
      go_wp2_with (first | (refine wpLoadAt rfl 26 _ rfl qb 0 rfl (campA V c) _ (HLC.out _ HBW4.out) und_camp rfl (info_campA V c) ?_))
      refine (HAW.out _ HBW4.out).mono ?_
      rintro e WZ ⟨rfl, hb1⟩
      have HBWZ := Lib.hid hb1
      clear hb1
      go_wp2_with fail
      first | exact HFIN.out _ HBWZ.out | (go_ret; exact HFIN.out _ HBWZ.out)
  · subst h1 h2 h3
    by_cases hd : d = 0
    · subst hd
      cases b with
      | true =>
        have hbt := h4 rfl rfl
        subst hbt
        clear h4
        go_wp2_with (first | (refine wpLoadAt rfl 26 _ rfl qb 0 rfl (campA V c) _ (HLC.out _ HBW4.out) und_camp rfl (info_campA V c) ?_))
        refine (HRB.out _ _ _ _ HBW4.out HP4.out HN3.out HC3.out).mono ?_
        rintro e W5 ⟨rfl, hb1⟩
        have HRW5 := Lib.hid hb1
        have HBW5 := Lib.hid (HBW4.out.trans (hb1.mono HBW4.out.size))
        clear hb1
        have k0 : W5.cell? ⟨qb, 0, none⟩ = some (.slice V.cA c.crafts.length V.cc) := HLC.out W5 HBW5.out 0 _ rfl
        have k1 : W5.cell? ⟨qb, 1, none⟩ = some (.slice V.pA c.pads.length V.pc) := HLC.out W5 HBW5.out 1 _ rfl
        have k2 : W5.cell? ⟨qb, 2, none⟩ = some (.slice V.gA c.cargos.length V.gc) := HLC.out W5 HBW5.out 2 _ rfl
        have k3 : W5.cell? ⟨qb, 3, none⟩ = some (.int .i64 c.margin) := HLC.out W5 HBW5.out 3 _ rfl
        go_wp2_with (first | (refine wpLoadAt rfl 26 _ rfl qb 0 rfl (campA V c) _ (HLC.out _ HBW5.out) und_camp rfl (info_campA V c) ?_))
        refine (HBT.out _ _ _ _ HBW5.out (HP4.out.later HRW5.out) HN3.out HC3.out).mono ?_
        rintro e W6 ⟨rfl, hb1⟩
        have HRW6 := Lib.hid hb1
        have HBW6 := Lib.hid (HBW5.out.trans (hb1.mono HBW5.out.size))
        clear hb1
        clear k0 k1 k2 k3
        go_wp2_with (first | (refine wpLoadAt rfl 26 _ rfl qb 0 rfl (campA V c) _ (HLC.out _ HBW6.out) und_camp rfl (info_campA V c) ?_))
        refine (HAW.out _ HBW6.out).mono ?_
        rintro e WZ ⟨rfl, hb1⟩
        have HBWZ := Lib.hid hb1
        clear hb1
        go_wp2_with fail
        first | exact HFIN.out _ HBWZ.out | (go_ret; exact HFIN.out _ HBWZ.out)
      | false =>
        clear h4
        go_wp2_with (first | (refine wpLoadAt rfl 26 _ rfl qb 0 rfl (campA V c) _ (HLC.out _ HBW4.out) und_camp rfl (info_campA V c) ?_))
        refine (HRB.out _ _ _ _ HBW4.out HP4.out HN3.out HC3.out).mono ?_
        rintro e W5 ⟨rfl, hb1⟩
        have HRW5 := Lib.hid hb1
        have HBW5 := Lib.hid (HBW4.out.trans (hb1.mono HBW4.out.size))
        clear hb1
        go_wp2_with (first | (refine wpLoadAt rfl 26 _ rfl qb 0 rfl (campA V c) _ (HLC.out _ HBW5.out) und_camp rfl (info_campA V c) ?_))
        refine (HAW.out _ HBW5.out).mono ?_
        rintro e WZ ⟨rfl, hb1⟩
        have HBWZ := Lib.hid hb1
        clear hb1
        go_wp2_with fail
        first | exact HFIN.out _ HBWZ.out | (go_ret; exact HFIN.out _ HBWZ.out)
    · have hz : (d == 0) = false := by rw [beq_eq_false_iff_ne]; exact hd
      clear hd h4
      go_wp2_with (first | (refine wpLoadAt rfl 26 _ rfl qb 0 rfl (campA V c) _ (HLC.out _ HBW4.out) und_camp rfl (info_campA V c) ?_))
      refine (HRB.out _ _ _ _ HBW4.out HP4.out HN3.out HC3.out).mono ?_
      rintro e W5 ⟨rfl, hb1⟩
      have HRW5 := Lib.hid hb1
      have HBW5 := Lib.hid (HBW4.out.trans (hb1.mono HBW4.out.size))
      clear hb1
      go_wp2_with (first | (refine wpLoadAt rfl 26 _ rfl qb 0 rfl (campA V c) _ (HLC.out _ HBW5.out) und_camp rfl (info_campA V c) ?_))
      refine (HAW.out _ HBW5.out).mono ?_
      rintro e WZ ⟨rfl, hb1⟩
      have HBWZ := Lib.hid hb1
      clear hb1
      go_wp2_with fail
      first | exact HFIN.out _ HBWZ.out | (go_ret; exact HFIN.out _ HBWZ.out)
end Go.Proofs.YtcnjenlojnognaaGreat
