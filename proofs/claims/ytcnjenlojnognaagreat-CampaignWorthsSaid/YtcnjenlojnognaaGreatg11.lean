/- What is proved: the texts Dh, one behind the other; each says at its head what it proves, and under which conditions. -/
import Derived.Test.YtcnjenlojnognaaGreatg10
/- What is proved: the contract of the document's Room. Conditions: the campaign and the plan lie in memory. -/
namespace Go.Proofs.YtcnjenlojnognaaGreat
open Go.RowKit

set_option maxRecDepth 100000 in
set_option maxHeartbeats 8000000 in
theorem refRoom_any (w : World) (V : CV) (c : CampD) (h : CampAt w w.heap.size V c) (l : List LaunchD) (AL : Option Addr) (cL : Nat) (hp : PlanAt w w.heap.size AL l) (hcap : l.length ≤ cL) (hl20 : l.length ≤ 4096) (i : Int) :
  Calls Tryz.prog 23 #[.agg (campA V c), .slice AL l.length cL, .int .i64 i] w (RoomPost c l i w.heap.size w) := by
 obtain ⟨qb, hqb⟩ : ∃ qb, w.heap.size = qb := ⟨_, rfl⟩
 obtain ⟨W0, hW0⟩ : ∃ W0, w.alloc (.cells (campA V c) 26) = W0 := ⟨_, rfl⟩
 have hb0 : Below w.heap.size w W0 := by rw [← hW0]; exact (Below.refl _ w).alloc (Nat.le_refl _) _
 have HB0 : Hid (Below qb w W0) := Lib.hid (by rw [← hqb]; exact hb0)
 have HKC : Hid (Bk W0 qb 26 (campA V c)) := Lib.hid (by rw [← hW0, ← hqb]; exact Bk.new _ _ _)
 have HSZ : Hid (qb ≤ W0.heap.size) := Lib.hid (by have := HKC.out.lt; omega)
 have HCA := Lib.hid (h.later hb0)
 have HPA := Lib.hid (hp.later hb0)
 obtain ⟨nl, hnl⟩ : ∃ nl, l.length = nl := ⟨_, rfl⟩
 have HNL := Lib.hid hnl
 obtain ⟨z, hz⟩ : ∃ z, meantB c l i = z := ⟨_, rfl⟩
 have HZ := Lib.hid hz
 obtain ⟨bv, hbv⟩ : ∃ b, validB c l = b := ⟨_, rfl⟩
 have HBV := Lib.hid hbv
 have HV := Lib.hid (refValid_val W0 V c HCA.out l AL cL HPA.out hcap bv hbv nl hnl)
 obtain ⟨bi, hbi⟩ : ∃ b, inB i 0 ((nl : Int) - 1) = b := ⟨_, rfl⟩
 have HBI := Lib.hid hbi
 have HI : Hid (∀ w1, Calls Tryz.prog 53 #[.int .i64 i, .int .i64 0, .int .i64 ((nl : Int) - 1)] w1 fun e w' => e = .returned (.bool bi) ∧ Below w1.heap.size w1 w') := Lib.hid fun w1 => by rw [← hbi]; exact inW_any _ _ _ _
 have HZZ : Hid (z = if bv = false then 2 else if bi = false then 7 else 0) := Lib.hid (by rw [← hz]; unfold meantB; rw [hbv, hnl, hbi])
 have HLC : Hid (∀ w1, Below W0.heap.size W0 w1 → ∀ j u, (campA V c)[j]? = some u → w1.cell? ⟨qb, 0 + j, none⟩ = some u) := Lib.hid fun w1 hb j u hj => by rw [Nat.zero_add, (HKC.out.below hb HKC.out.lt).cell]; exact hj
 have HLC0 := Lib.hid (HLC.out W0 (Below.refl _ _))
 obtain ⟨Q, hQ⟩ : ∃ Q, RoomPost c l i w.heap.size w = Q := ⟨_, rfl⟩
 have HFIN : Hid (∀ (a b : Int) (w' : World), (a, b) = roomB c l i → Below qb w w' → Q (.returned (.tuple #[.int .i64 a, .int .i64 b])) w') := Lib.hid fun a b w' h1 h3 => by
  rw [← hQ, hqb]; unfold RoomPost; rw [← h1]; exact ⟨rfl, h3⟩
 rw [hnl] at hl20 ⊢
 rw [hQ]
 clear h hp hb0 hcap hnl hQ hz hbv hbi
 by_cases he : z = 0
 ·subst he
  obtain ⟨hv, hi0, hil⟩ := meant_zero HZ.out
  obtain ⟨hcc, hpl⟩ := valid_iff.1 hv
  obtain ⟨m, rfl⟩ : ∃ m : Nat, i = (m : Int) := ⟨i.toNat, by omega⟩
  have hml : m < l.length := by omega
  have HMM : Hid (m < l.length) := Lib.hid hml
  obtain ⟨x, hx⟩ : ∃ x, l.getD m launch0 = x := ⟨_, rfl⟩
  have hxp : possB c x = true := hpl.poss x (by rw [← hx, List.getD_eq_getElem?_getD, List.getElem?_eq_getElem hml, Option.getD_some]; exact List.getElem_mem hml)
  have hpp := possB_parts hxp
  obtain ⟨ic, hic⟩ : ∃ ic : Nat, x.craft = (ic : Int) := ⟨x.craft.toNat, by have := hpp.1; omega⟩
  have HICN : Hid (ic < c.crafts.length) := Lib.hid (by have := hpp.2.1; omega)
  obtain ⟨ma, hma⟩ : ∃ ma, massL c x.cargos = ma := ⟨_, rfl⟩
  obtain ⟨mo, hmo⟩ : ∃ mo, mostB c x.craft = mo := ⟨_, rfl⟩
  have hms : ma ≤ mo := by have := hpp.2.2.2.2.2.2.2.2.2.2; omega
  have hmob := mostB_bd hcc x.craft
  have hma0 : 0 ≤ ma := by
   have := massL_bound hcc x.cargos x.cargos.length (Nat.le_refl _)
   rw [List.take_length] at this; omega
  have HRB : Hid ((mo - ma, (0 : Int)) = roomB c l (m : Int)) := Lib.hid (by
   unfold roomB
   rw [if_neg (by rw [HZ.out]; decide)]
   simp only [Int.toNat_natCast]
   rw [hx, hma, hmo])
  obtain ⟨nx, hnx⟩ : ∃ n, x.cargos.length = n := ⟨_, rfl⟩
  have hlfb := camp_craft hcc x.craft
  obtain ⟨lf, hlf⟩ : ∃ v, (c.craft x.craft).lift = v := ⟨_, rfl⟩
  obtain ⟨mg, hmg⟩ : ∃ v, c.margin = v := ⟨_, rfl⟩
  have hmgb : 0 ≤ mg ∧ mg ≤ 1000 := by have := (camp_len hcc).2.2.2.2.2.2; omega
  have hmo2 : mo ≤ 1073741824 := by
   rw [← hmo]; unfold mostB
   rw [hlf, hmg]
   have h3 : lf * 1000 / (1000 + mg) < 1073741825 := Int.ediv_lt_of_lt_mul (by omega) (by
    have : 1073741825 * 1000 ≤ 1073741825 * (1000 + mg) := by omega
    omega)
   omega
  have HMOST : Hid (∀ d, decide (d ≤ mo) = decide (d * (1000 + mg) ≤ lf * 1000)) := Lib.hid fun d => by rw [← hmo, ← hmg, ← hlf]; exact mass_most hcc d x.craft
  rw [hlf] at hlfb
  obtain ⟨_, _, _, _, hlf0, hlf1⟩ := hlfb
  obtain ⟨hmg0, hmg1⟩ := hmgb
  obtain ⟨s, hs0⟩ : ∃ s, mo - ma = s := ⟨_, rfl⟩
  have HS0 := Lib.hid hs0
  rw [hs0] at HRB
  obtain ⟨bb, off, P, Q2, rfl, hbb, dc, dl⟩ := HPA.out.at (i := m) hml
  rw [hx] at dc dl
  have d1 : W0.cell? ⟨bb, off + m * 4 + 1, none⟩ = some (.int .i64 (ic : Int)) := by rw [← hic]; exact dc 1 _ rfl
  obtain ⟨cb, co, hcA, hcb, hcc4⟩ := HCA.out.crafts.2 (by have := HICN.out; omega)
  obtain ⟨nc, hnc⟩ : ∃ n, c.crafts.length = n := ⟨_, rfl⟩
  have HIN : Hid (ic < nc) := Lib.hid (by rw [← hnc]; exact HICN.out)
  have g1 : W0.cell? ⟨cb, co + ic * 4 + 1, none⟩ = some (.int .i64 lf) := by
   have := hcc4 ic HICN.out 1 (by omega)
   rw [this, ← hlf, hic]; rfl
  have HC : Hid (∀ w1, Below W0.heap.size W0 w1 → (∀ j u, (launchA x P Q2)[j]? = some u → w1.cell? ⟨bb, off + m * 4 + j, none⟩ = some u) ∧ w1.cell? ⟨bb, off + m * 4 + 1, none⟩ = some (.int .i64 (ic : Int)) ∧ w1.cell? ⟨qb, 0, none⟩ = some (.slice (some ⟨cb, co, none⟩) nc V.cc) ∧ w1.cell? ⟨qb, 3, none⟩ = some (.int .i64 mg) ∧ w1.cell? ⟨cb, co + ic * 4 + 1, none⟩ = some (.int .i64 lf)) := Lib.hid fun w1 hb => by
   have k1 := HKC.out.below hb HKC.out.lt
   refine ⟨fun j u hj => (hb.cell (p := ⟨bb, off + m * 4 + j, none⟩) hbb).trans (dc j u hj), (hb.cell (p := ⟨bb, off + m * 4 + 1, none⟩) hbb).trans d1, ?_, ?_, (hb.cell (p := ⟨cb, co + ic * 4 + 1, none⟩) hcb).trans g1⟩
   ·rw [← hnc, ← hcA]; exact k1.cell 0
   ·rw [← hmg]; exact k1.cell 3
  have HMA : Hid (∀ w1, Below W0.heap.size W0 w1 → Calls Tryz.prog 64 #[.agg (campA V c), .agg (launchA x P Q2)] w1 fun e w' => e = .returned (.int .i64 ma) ∧ Below w1.heap.size w1 w') := Lib.hid fun w1 hb => by
   rw [← hma]; exact refMass_any w1 V c (HCA.out.later hb) hcc x P Q2 (dl.later hb) hpp.2.2.2.2.2.2.2.2.1
  have HVT : Hid (bv = true) := Lib.hid (by rw [← HBV.out]; exact hv)
  have HIT : Hid (bi = true) := Lib.hid (by rw [← HBI.out, inB_iff]; have := HNL.out; omega)
  have hmas : 0 ≤ s ∧ s < 1073741825 := by omega
  obtain ⟨hsl, hsh⟩ := hmas
  have hma2 : ma ≤ 1073741824 := by omega
  have hicn : ic < nc := HIN.out
  have hici : (ic : Int) < (nc : Int) := by omega
  have h0ic : (0 : Int) ≤ (ic : Int) := by omega
  have hmi : (m : Int) < (nl : Int) := by have := HNL.out; omega
  have h0m : (0 : Int) ≤ (m : Int) := by omega
  have hmab : 0 ≤ ma := hma0
  clear hv hi0 hil hcc hpl hml hx hxp hpp hic hma hmo hms hmob hma0 hmo2 hnx dc d1 dl hbb hcA hcb hcc4 hnc g1 hlf hmg hs0
  simp only [campA] at hW0 ⊢
  go_enter Tryz.func23, Tryz.ntmps23
  go_upto_region 1 with (fail)
  clear hW0 hqb
  go_wp2_with (first | (refine wpLoadAt rfl 26 _ rfl qb 0 rfl (campA V c) _ HLC0.out und_camp rfl (info_campA V c) ?_))
  refine HV.out.mono ?_
  rintro e W1 ⟨rfl, hb1⟩
  have HB1 := Lib.hid hb1
  clear hb1
  have hbt := HVT.out
  subst hbt
  have hws1 : IntKind.i64.wrap ((nl : Int) - 1) = (nl : Int) - 1 := IntWalk.i64_in _ (by omega)
  go_wp2_with fail
  refine (HI.out _).mono ?_
  rintro e W2 ⟨rfl, hb2⟩
  have HB2 := Lib.hid (HB1.out.trans (hb2.mono HB1.out.size))
  clear hb2
  have hbt := HIT.out
  subst hbt
  go_wp2_with fail
  go_loopw [8, 9] (fun lv hv wr => ∃ lo hi : Int, lv = .int .i64 lo ∧ hv = .int .i64 hi ∧ 0 ≤ lo ∧ lo < hi ∧ hi ≤ 1073741825 ∧ Hid (Below W0.heap.size W0 wr ∧ lo ≤ s ∧ s < hi)) (fun lv hv _ => (intOf hv - intOf lv).toNat)
  case atStart => exact ⟨0, 1073741825, rfl, rfl, by omega, by omega, by omega, Lib.hid ⟨HB2.out, hsl, hsh⟩⟩
  case round =>
   obtain ⟨lo, hi, rfl, rfl, hlo, hlh, hhi, hs⟩ := hrel
   have HB := Lib.hid hs.out.1
   have HH := Lib.hid hs.out.2
   clear hs
   by_cases hgo : 1 < hi - lo
   ·have hgo1 : decide (1 < hi - lo) = true := decide_eq_true hgo
    have hws : IntKind.i64.wrap (hi - lo) = hi - lo := IntWalk.i64_in _ (by omega)
    have hws2 : IntKind.i64.wrap (lo + hi) = lo + hi := IntWalk.i64_in _ (by omega)
    obtain ⟨mid, hmid⟩ : ∃ m, (lo + hi) / 2 = m := ⟨_, rfl⟩
    have hmt : (lo + hi).tdiv 2 = mid := by rw [Int.tdiv_eq_ediv_of_nonneg (by omega)]; exact hmid
    have hm1 : lo < mid := by omega
    have hm2 : mid < hi := by omega
    clear hmid hgo
    obtain ⟨pr, hpr⟩ : ∃ p, (ma + mid) * (1000 + mg) = p := ⟨_, rfl⟩
    have hprb : 0 ≤ pr ∧ pr ≤ 2147483649 * 2000 := by
     rw [← hpr]
     refine ⟨Int.mul_nonneg (by omega) (by omega), ?_⟩
     exact Int.mul_le_mul (by omega) (by omega) (by omega) (by omega)
    obtain ⟨t, ht⟩ : ∃ t, decide (pr ≤ lf * 1000) = t := ⟨_, rfl⟩
    have HT : Hid (decide (mid ≤ s) = t) := Lib.hid (by
     have h1 := HMOST.out (ma + mid)
     rw [hpr, ht] at h1
     rw [← h1]
     have := HS0.out
     exact decide_eq_decide.2 ⟨fun _ => by omega, fun _ => by omega⟩)
    have HW1 : Hid (IntKind.i64.wrap (1000 + mg) = 1000 + mg) := Lib.hid (IntWalk.i64_in _ (by omega))
    have HW0 : Hid (IntKind.i64.wrap (ma + mid) = ma + mid) := Lib.hid (IntWalk.i64_in _ (by omega))
    have HW2 : Hid (IntKind.i64.wrap ((ma + mid) * (1000 + mg)) = pr) := Lib.hid (by rw [hpr]; exact IntWalk.i64_in _ (by omega))
    have HW3 : Hid (IntKind.i64.wrap (lf * 1000) = lf * 1000) := Lib.hid (IntWalk.i64_in _ (by omega))
    have HT8 := Lib.hid ht
    have HWR : Hid (∀ w1, Below wr.heap.size wr w1 → Below W0.heap.size W0 w1) := Lib.hid fun w1 hb => HB.out.trans (hb.mono HB.out.size)
    clear hpr hprb ht
    go_wp2_with fail
    refine wp_region_steps (by kernel_rfl) (by kernel_rfl) (fun w1 => Below wr.heap.size wr w1) (fun _ _ _ => True)
     (fun ix u _ _ => match ix with
      | 0 => u = .agg (campA V c)
      | 1 => u = .slice (some ⟨bb, off, none⟩) nl cL
      | 2 => u = .int .i64 (m : Int)
      | 3 => u = .pointer (some ⟨bb, off + m * 4, none⟩)
      | 4 => u = .agg (launchA x P Q2)
      | 5 => u = .int .i64 ma
      | 6 => u = .int .i64 mid
      | 7 => u = .int .i64 (ma + mid)
      | 8 => u = .pointer (some ⟨qb, 3, none⟩)
      | 9 => u = .int .i64 mg
      | 10 => u = .int .i64 (1000 + mg)
      | 11 => u = .int .i64 pr
      | 12 => u = .pointer (some ⟨qb, 0, none⟩)
      | 13 => u = .slice (some ⟨cb, co, none⟩) nc V.cc
      | 14 => u = .slice (some ⟨bb, off, none⟩) nl cL
      | 15 => u = .int .i64 (m : Int)
      | 16 => u = .pointer (some ⟨bb, off + m * 4, none⟩)
      | 17 => u = .pointer (some ⟨bb, off + m * 4 + 1, none⟩)
      | 18 => u = .int .i64 (ic : Int)
      | 19 => u = .pointer (some ⟨cb, co + ic * 4, none⟩)
      | 20 => u = .pointer (some ⟨cb, co + ic * 4 + 1, none⟩)
      | 21 => u = .int .i64 lf
      | 22 => u = .int .i64 (lf * 1000)
      | _ => u = .bool t) (Below.refl _ _).drew (fun _ _ _ _ _ _ _ _ h _ _ => h) ?_ ?_
    ·refine ⟨?_, ?_, ?_, ?_, ?_, ?_, ?_, ?_, ?_, ?_, ?_, ?_, ?_, ?_, ?_, ?_, ?_, ?_, ?_, ?_, ?_, ?_, ?_, ?_, trivial⟩
     ·intro a w1 vs K HJ HK HD HN kk
      have e3 := HK 3 (by decide)
      exact wpo_loadS 26 (.tmp 3) rfl qb 0 (by simpa [Act.eval] using e3) (campA V c) _ (HLC.out w1 (HWR.out w1 HJ)) und_camp rfl (info_campA V c) (kk _ _ (by simp) HJ trivial rfl)
     ·intro a w1 vs K HJ HK HD HN kk
      have e1 := HK 1 (by decide)
      go_simp; exact kk _ _ (by simp) HJ trivial rfl
     ·intro a w1 vs K HJ HK HD HN kk
      have e2 := HK 2 (by decide)
      go_simp; exact kk _ _ (by simp) HJ trivial rfl
     ·intro a w1 vs K HJ HK HD HN kk
      have e30 := hdE (HD 1 _ 30 rfl rfl rfl)
      have e31 := hdE (HD 2 _ 31 rfl rfl rfl)
      go_simp; exact kk _ _ (by simp) HJ trivial rfl
     ·intro a w1 vs K HJ HK HD HN kk
      have e32 := hdE (HD 3 _ 32 rfl rfl rfl)
      exact wpo_loadS 52 (.tmp 32) rfl bb (off + m * 4) (by simpa [Act.eval] using e32) (launchA x P Q2) _ (HC.out w1 (HWR.out w1 HJ)).1 und_launch rfl info_launch (kk _ _ (by simp) HJ trivial rfl)
     ·intro a w1 vs K HJ HK HD HN kk
      have e29 := hdE (HD 0 _ 29 rfl rfl rfl)
      have e33 := hdE (HD 4 _ 33 rfl rfl rfl)
      exact wpo_call 64 _ _ rfl #[.agg (campA V c), .agg (launchA x P Q2)] (by simp [Act.eval, e29, e33]) (fun args w => by kernel_rfl)
       ((HMA.out w1 (HWR.out w1 HJ)).mono fun e w' ⟨he, hb⟩ => ⟨_, he, kk _ _ (by simp) (Below.trans HJ (hb.mono HJ.size)) trivial rfl⟩)
     ·intro a w1 vs K HJ HK HD HN kk
      have e10 := HK 10 (by decide)
      go_simp; exact kk _ _ (by simp) HJ trivial rfl
     ·intro a w1 vs K HJ HK HD HN kk
      have e34 := hdE (HD 5 _ 34 rfl rfl rfl)
      have e35 := hdE (HD 6 _ 35 rfl rfl rfl)
      have hws := HW0.out
      go_simp; exact kk _ _ (by simp) HJ trivial rfl
     ·intro a w1 vs K HJ HK HD HN kk
      have e3 := HK 3 (by decide)
      go_simp; exact kk _ _ (by simp) HJ trivial rfl
     ·intro a w1 vs K HJ HK HD HN kk
      have e37 := hdE (HD 8 _ 37 rfl rfl rfl)
      have ca : w1.cell? ⟨qb, 3, none⟩ = some (.int .i64 mg) := (HC.out w1 (HWR.out w1 HJ)).2.2.2.1
      go_simp; exact kk _ _ (by simp) HJ trivial rfl
     ·intro a w1 vs K HJ HK HD HN kk
      have e38 := hdE (HD 9 _ 38 rfl rfl rfl)
      have hws := HW1.out
      go_simp; exact kk _ _ (by simp) HJ trivial rfl
     ·intro a w1 vs K HJ HK HD HN kk
      have e36 := hdE (HD 7 _ 36 rfl rfl rfl)
      have e39 := hdE (HD 10 _ 39 rfl rfl rfl)
      have hws := HW2.out
      go_simp; exact kk _ _ (by simp) HJ trivial rfl
     ·intro a w1 vs K HJ HK HD HN kk
      have e3 := HK 3 (by decide)
      go_simp; exact kk _ _ (by simp) HJ trivial rfl
     ·intro a w1 vs K HJ HK HD HN kk
      have e41 := hdE (HD 12 _ 41 rfl rfl rfl)
      have ca : w1.cell? ⟨qb, 0, none⟩ = some (.slice (some ⟨cb, co, none⟩) nc V.cc) := (HC.out w1 (HWR.out w1 HJ)).2.2.1
      go_simp; exact kk _ _ (by simp) HJ trivial rfl
     ·intro a w1 vs K HJ HK HD HN kk
      have e1 := HK 1 (by decide)
      go_simp; exact kk _ _ (by simp) HJ trivial rfl
     ·intro a w1 vs K HJ HK HD HN kk
      have e2 := HK 2 (by decide)
      go_simp; exact kk _ _ (by simp) HJ trivial rfl
     ·intro a w1 vs K HJ HK HD HN kk
      have e43 := hdE (HD 14 _ 43 rfl rfl rfl)
      have e44 := hdE (HD 15 _ 44 rfl rfl rfl)
      go_simp; exact kk _ _ (by simp) HJ trivial rfl
     ·intro a w1 vs K HJ HK HD HN kk
      have e45 := hdE (HD 16 _ 45 rfl rfl rfl)
      go_simp; exact kk _ _ (by simp) HJ trivial rfl
     ·intro a w1 vs K HJ HK HD HN kk
      have e46 := hdE (HD 17 _ 46 rfl rfl rfl)
      have ca : w1.cell? ⟨bb, off + m * 4 + 1, none⟩ = some (.int .i64 (ic : Int)) := (HC.out w1 (HWR.out w1 HJ)).2.1
      go_simp; exact kk _ _ (by simp) HJ trivial rfl
     ·intro a w1 vs K HJ HK HD HN kk
      have e42 := hdE (HD 13 _ 42 rfl rfl rfl)
      have e47 := hdE (HD 18 _ 47 rfl rfl rfl)
      go_simp; exact kk _ _ (by simp) HJ trivial rfl
     ·intro a w1 vs K HJ HK HD HN kk
      have e48 := hdE (HD 19 _ 48 rfl rfl rfl)
      go_simp; exact kk _ _ (by simp) HJ trivial rfl
     ·intro a w1 vs K HJ HK HD HN kk
      have e49 := hdE (HD 20 _ 49 rfl rfl rfl)
      have ca : w1.cell? ⟨cb, co + ic * 4 + 1, none⟩ = some (.int .i64 lf) := (HC.out w1 (HWR.out w1 HJ)).2.2.2.2
      go_simp; exact kk _ _ (by simp) HJ trivial rfl
     ·intro a w1 vs K HJ HK HD HN kk
      have e50 := hdE (HD 21 _ 50 rfl rfl rfl)
      have hws := HW3.out
      go_simp; exact kk _ _ (by simp) HJ trivial rfl
     ·intro a w1 vs K HJ HK HD HN kk
      have e40 := hdE (HD 11 _ 40 rfl rfl rfl)
      have e51 := hdE (HD 22 _ 51 rfl rfl rfl)
      have hb8 := HT8.out
      go_simp; exact kk _ _ (by simp) HJ trivial rfl
    ·intro vs W3 hw6 hrr
     have e23 : vs 23 = .bool t := hrr 23 _ rfl
     have HB3 := Lib.hid (HWR.out _ hw6)
     clear hrr hw6
     simp only [putAll, Act.put, List.setIfInBounds_toArray, List.set_cons_zero, List.set_cons_succ]
     rw [e23]
     cases t with
     | true =>
      have HHH : Hid (mid ≤ s) := Lib.hid (of_decide_eq_true HT.out)
      go_wp2_with fail
      go_roundw
      case rel => exact ⟨mid, hi, rfl, rfl, by omega, hm2, hhi, Lib.hid ⟨HB3.out, HHH.out, HH.out.2⟩⟩
      case measure => simp [intOf]; omega
     | false =>
      have HHH : Hid (¬ mid ≤ s) := Lib.hid (of_decide_eq_false HT.out)
      go_wp2_with fail
      go_roundw
      case rel => exact ⟨lo, mid, rfl, rfl, hlo, hm1, by omega, Lib.hid ⟨HB3.out, HH.out.1, by have := HHH.out; omega⟩⟩
      case measure => simp [intOf]; omega
   ·have hgo1 : decide (1 < hi - lo) = false := decide_eq_false hgo
    have hws : IntKind.i64.wrap (hi - lo) = hi - lo := IntWalk.i64_in _ (by omega)
    have HE : Hid ((lo, (0 : Int)) = roomB c l (m : Int)) := Lib.hid (by
     have h1 := HH.out
     have : lo = s := by omega
     rw [this]; exact HRB.out)
    clear hgo
    go_wp2_with fail
    exact HFIN.out _ _ _ HE.out (HB0.out.trans (HB.out.mono HSZ.out))
 ·have HNE := Lib.hid he
  have HRB : Hid (((0 : Int), z) = roomB c l i) := Lib.hid (by unfold roomB; rw [HZ.out, if_pos he])
  clear he
  simp only [campA] at hW0 ⊢
  go_enter Tryz.func23, Tryz.ntmps23
  go_upto_region 1 with (fail)
  clear hW0 hqb
  go_wp2_with (first | (refine wpLoadAt rfl 26 _ rfl qb 0 rfl (campA V c) _ HLC0.out und_camp rfl (info_campA V c) ?_))
  refine HV.out.mono ?_
  rintro e W1 ⟨rfl, hb1⟩
  have HB1 := Lib.hid hb1
  clear hb1
  cases bv with
  | false =>
   have hz2 : z = 2 := HZZ.out
   subst hz2
   go_wp2_with fail
   exact HFIN.out _ _ _ HRB.out (HB0.out.trans (HB1.out.mono HSZ.out))
  | true =>
  have hws1 : IntKind.i64.wrap ((nl : Int) - 1) = (nl : Int) - 1 := IntWalk.i64_in _ (by omega)
  go_wp2_with fail
  refine (HI.out _).mono ?_
  rintro e W2 ⟨rfl, hb2⟩
  have HB2 := Lib.hid (HB1.out.trans (hb2.mono HB1.out.size))
  clear hb2
  cases bi with
  | false =>
   have hz2 : z = 7 := HZZ.out
   subst hz2
   go_wp2_with fail
   exact HFIN.out _ _ _ HRB.out (HB0.out.trans (HB2.out.mono HSZ.out))
  | true => exact absurd (show z = 0 from HZZ.out) HNE.out
end Go.Proofs.YtcnjenlojnognaaGreat
