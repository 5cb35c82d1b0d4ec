/- What is proved: the texts Dl, one behind the other; each says at its head what it proves, and under which conditions. -/
import Derived.StillTactics
import Derived.StillTailTactics
import Derived.Test.YtcnjenlojnognaaGreatg20
/- What is proved: the contract of the document's delayed. Conditions: the campaign and the plan lie in memory; the launches are possible. -/
namespace Go.Proofs.YtcnjenlojnognaaGreat
open Go.RowKit

def RDelPost (c : CampD) (l : List LaunchD) (m : Nat) (days : Int) (w : World) (e : Ending) (w' : World) : Prop := ∃ A c', e = .returned (.slice A l.length c') ∧ PlanAt w' w'.heap.size A (delayK c l m days l.length) ∧ Below w.heap.size w w'
set_option maxRecDepth 100000 in
set_option maxHeartbeats 32000000 in
theorem refDelayed_any (w : World) (V : CV) (c : CampD) (h : CampAt w w.heap.size V c) (hc : campB c = true) (l : List LaunchD) (AL : Option Addr) (cL : Nat) (hp : PlanAt w w.heap.size AL l) (hv : ∀ x ∈ l, possB c x = true) (hn : l.length ≤ 2000) (m : Nat) (hm : m < l.length) (days : Int) (hd : 0 ≤ days ∧ days ≤ 10001) :
  Calls Tryz.prog 77 #[.agg (campA V c), .slice AL l.length cL, .int .i64 (m : Int), .int .i64 days] w (RDelPost c l m days w) := by
 obtain ⟨qb, hqb⟩ : ∃ qb, w.heap.size = qb := ⟨_, rfl⟩
 obtain ⟨W0, hW0⟩ : ∃ W0, w.alloc (.cells (campA V c) 26) = W0 := ⟨_, rfl⟩
 have hb0 : Below w.heap.size w W0 := by rw [← hW0]; exact (Below.refl _ w).alloc (Nat.le_refl _) _
 have HKC : Hid (Bk W0 qb 26 (campA V c)) := Lib.hid (by rw [← hW0, ← hqb]; exact Bk.new _ _ _)
 have HCA := Lib.hid (h.later hb0)
 have hpa := hp.later hb0
 obtain ⟨P, Q, hsl, hin⟩ := hpa.sl
 have HSL := Lib.hid hsl
 have HIN := Lib.hid hin
 have HCC := Lib.hid hc
 have HDY : Hid (∀ x ∈ l, 0 ≤ x.day ∧ x.day ≤ 10000) := Lib.hid fun x hx => possB_day hc (hv x hx)
 have HPO : Hid (∀ k, k < l.length → possB c (l.getD k launch0) = true) := Lib.hid fun k hk => hv _ (getD_memL hk)
 have HDD := Lib.hid hd
 obtain ⟨nl, hnl⟩ : ∃ nl, l.length = nl := ⟨_, rfl⟩
 have HNL := Lib.hid hnl
 obtain ⟨PQ, hPQ⟩ : ∃ Q, RDelPost c l m days w = Q := ⟨_, rfl⟩
 have HFIN : Hid (∀ A c' w', PlanAt w' w'.heap.size A (delayK c l m days nl) → Below W0.heap.size W0 w' → PQ (.returned (.slice A nl c')) w') := Lib.hid fun A c' w' h1 h2 => by
  rw [← hPQ]; unfold RDelPost; rw [hnl]; exact ⟨A, c', rfl, h1, hb0.trans (h2.mono hb0.size)⟩
 obtain ⟨nc, hnc⟩ : ∃ n, c.crafts.length = n := ⟨_, rfl⟩
 obtain ⟨np, hnp⟩ : ∃ n, c.pads.length = n := ⟨_, rfl⟩
 have HNC := Lib.hid hnc
 have HNP := Lib.hid hnp
 have HC : Hid (∀ w1, Below W0.heap.size W0 w1 → w1.cell? ⟨qb, 0, none⟩ = some (.slice V.cA nc V.cc) ∧ w1.cell? ⟨qb, 1, none⟩ = some (.slice V.pA np V.pc)) := Lib.hid fun w1 hb => by
  have k1 := HKC.out.below hb HKC.out.lt
  rw [← hnc, ← hnp]; exact ⟨k1.cell 0, k1.cell 1⟩
 have HCR : Hid (∀ w1, Below W0.heap.size W0 w1 → ∀ i, i < nc → ∃ cb co, V.cA = some ⟨cb, co, none⟩ ∧ w1.cell? ⟨cb, co + i * 4 + 3, none⟩ = some (.int .i64 (c.craftN i).again)) := Lib.hid fun w1 hb i hi => by
  obtain ⟨cb, co, hcA, _, _, _, _, g3⟩ := Sl.at4 (HCA.out.later hb).crafts (i := i) (by rw [hnc]; exact hi)
  exact ⟨cb, co, hcA, g3⟩
 have HPD : Hid (∀ w1, Below W0.heap.size W0 w1 → ∀ i, i < np → ∃ pb po, V.pA = some ⟨pb, po, none⟩ ∧ w1.cell? ⟨pb, po + i * 3 + 1, none⟩ = some (.int .i64 (c.padN i).clean)) := Lib.hid fun w1 hb i hi => by
  obtain ⟨pb, po, hpA, _, _, g1, _⟩ := Sl.at3 (HCA.out.later hb).pads (i := i) (by rw [hnp]; exact hi)
  exact ⟨pb, po, hpA, g1⟩
 rw [hnl] at hsl hm hn ⊢
 rw [hPQ]
 have HSL2 := Lib.hid hsl
 clear h hp hb0 hPQ hnl hnc hnp hc hv hd hpa hin hsl
 simp only [campA] at hW0 ⊢
 go_enter Tryz.func77, Tryz.ntmps77
 go_upto_region 1 with (fail)
 clear hW0 hqb
 obtain ⟨iC, zC, hiC, hzC, hsC, hyC⟩ := info_ex info_launchx
 have hn4 : nl ≤ 4096 := by omega
 have HSA : Hid (Sl (W0.alloc (.cells #[] 52)) (W0.alloc (.cells #[] 52)).heap.size 4 AL nl (fun i => launchR (l.getD i launch0) (P i) (Q i))) := Lib.hid ((HSL2.out.below ((Below.refl _ W0).alloc (Nat.le_refl _) _)).mono (by simp))
 go_wp2_with (at_builtin; refine wpList_copyAll rfl 27 _ _ rfl 52 iC zC Tryz.underlying27 hiC hzC 4 hsC hyC ⟨W0.heap.size, 0, none⟩ rfl AL nl cL rfl (fun i => launchR (l.getD i launch0) (P i) (Q i)) HSA.out hn4 ?_)
 intro A5 c5 W5 hcl5 hb5
 obtain ⟨g, cur, rfl, hg1, hbk, hrow⟩ := hcl5.2 (by omega)
 have hgg : W0.heap.size ≤ g := by first | omega | (rw [World.size_alloc] at hg1; omega) | (simp at hg1; omega)
 have HGG := Lib.hid hgg
 have HS5 : Hid (DlR W0 g nl P Q (fun i => l.getD i launch0) W5) := Lib.hid ⟨((Below.refl _ W0).alloc (Nat.le_refl _) _).trans (hb5.mono (by first | omega | (simp; omega) | simp)), cur, hbk, hrow⟩
 clear hcl5 hb5 hbk hrow hg1 hiC hzC hsC hyC
 have hmi : (m : Int) < (nl : Int) := by omega
 have h0m : (0 : Int) ≤ (m : Int) := by omega
 obtain ⟨xd, hxd⟩ : ∃ d, (l.getD m launch0).day = d := ⟨_, rfl⟩
 have hxb := HDY.out (l.getD m launch0) (getD_memL (by rw [HNL.out]; exact hm))
 rw [hxd] at hxb
 have x0 : W5.cell? ⟨g, m * 4, none⟩ = some (.int .i64 xd) := by rw [← hxd]; exact HS5.out.cell hm (j := 0) (by omega)
 have fx : W5.frozen? ⟨g, m * 4, none⟩ = false := HS5.out.free _
 have hdb := HDD.out
 have hws : IntKind.i64.wrap (xd + days) = xd + days := IntWalk.i64_in _ (by omega)
 have HXD := Lib.hid hxd
 clear hxd hgg
 go_upto_region 3 with (fail)
 obtain ⟨W6, hW6⟩ : ∃ W6, W5.setCell ⟨g, m * 4, none⟩ (.int .i64 (xd + days)) = W6 := ⟨_, rfl⟩
 have HS6 : Hid (DlR W0 g nl P Q (rowD c l m days (m + 1) 0) W6) := Lib.hid (by
  rw [← hW6]
  refine (HS5.out.day HGG.out (k := m) hm (xd + days)).congr fun a ha => ?_
  rw [rowD_start]
  unfold stepX
  by_cases e : a = m
  ·subst e; rw [if_pos rfl, if_pos rfl, ← HXD.out]
  ·rw [if_neg e, if_neg (by omega)])
 rw [hW6]
 clear hW6 x0 fx hws hxb hdb
 go_wp2_with fail
 go_loopw [10] (fun iv wr => ∃ k : Nat, m < k ∧ k ≤ nl ∧ iv = .int .i64 k ∧ Hid (DlR W0 g nl P Q (rowD c l m days k 0) wr)) (fun iv _ => nl - (intOf iv).toNat)
 case atStart => exact ⟨m + 1, by omega, by omega, by go_num, HS6⟩
 case round =>
  obtain ⟨wo, rfl⟩ : ∃ wo : World, wo = wr := ⟨_, rfl⟩
  obtain ⟨k, hmk, hk, rfl, hs⟩ := hrel
  have HSO := hs
  clear hs
  have h0k : (0 : Int) ≤ (k : Int) := by omega
  by_cases hlt : k < nl
  case pos =>
   have hki : (k : Int) < (nl : Int) := by omega
   have HMK : Hid ((m : Int) < (k : Int)) := Lib.hid (by omega)
   have hpp := possB_parts (HPO.out k (by rw [HNL.out]; exact hlt))
   obtain ⟨ic, hic⟩ : ∃ ic : Nat, (l.getD k launch0).craft = (ic : Int) := ⟨(l.getD k launch0).craft.toNat, by have := hpp.1; omega⟩
   obtain ⟨ip, hip⟩ : ∃ ip : Nat, (l.getD k launch0).pad = (ip : Int) := ⟨(l.getD k launch0).pad.toNat, by have := hpp.2.2.1; omega⟩
   have hicn : ic < nc := by have := hpp.2.1; have := HNC.out; omega
   have hipn : ip < np := by have := hpp.2.2.2.1; have := HNP.out; omega
   have HIC := Lib.hid hic
   have HIP := Lib.hid hip
   have hici : (ic : Int) < (nc : Int) := by omega
   have hipi : (ip : Int) < (np : Int) := by omega
   have h0ic : (0 : Int) ≤ (ic : Int) := by omega
   have h0ip : (0 : Int) ≤ (ip : Int) := by omega
   have hagb := camp_craft HCC.out (ic : Int)
   have hcnb := camp_pad HCC.out (ip : Int)
   rw [craft_nat] at hagb
   rw [pad_nat] at hcnb
   obtain ⟨ag, hag⟩ : ∃ a, (c.craftN ic).again = a := ⟨_, rfl⟩
   obtain ⟨cn, hcn⟩ : ∃ a, (c.padN ip).clean = a := ⟨_, rfl⟩
   rw [hag] at hagb
   rw [hcn] at hcnb
   obtain ⟨hag0, hag1, _⟩ := hagb
   obtain ⟨hcn0, hcn1⟩ := hcnb
   obtain ⟨cb, co, hcA, _⟩ := HCR.out W0 (Below.refl _ _) ic hicn
   obtain ⟨pb, po, hpA, _⟩ := HPD.out W0 (Below.refl _ _) ip hipn
   have HCB : Hid (∀ w1, Below W0.heap.size W0 w1 → w1.cell? ⟨qb, 0, none⟩ = some (.slice (some ⟨cb, co, none⟩) nc V.cc) ∧ w1.cell? ⟨qb, 1, none⟩ = some (.slice (some ⟨pb, po, none⟩) np V.pc) ∧ w1.cell? ⟨cb, co + ic * 4 + 3, none⟩ = some (.int .i64 ag) ∧ w1.cell? ⟨pb, po + ip * 3 + 1, none⟩ = some (.int .i64 cn)) := Lib.hid fun w1 hb => by
    obtain ⟨k0, k1⟩ := HC.out w1 hb
    obtain ⟨cb', co', e1, g3⟩ := HCR.out w1 hb ic hicn
    obtain ⟨pb', po', e2, g1⟩ := HPD.out w1 hb ip hipn
    rw [hcA] at e1 k0
    rw [hpA] at e2 k1
    obtain ⟨rfl, rfl⟩ : cb = cb' ∧ co = co' := by simpa using e1
    obtain ⟨rfl, rfl⟩ : pb = pb' ∧ po = po' := by simpa using e2
    rw [← hag, ← hcn]; exact ⟨k0, k1, g3, g1⟩
   have HAG := Lib.hid hag
   have HCN := Lib.hid hcn
   clear hpp hic hip hag hcn hcA hpA
   go_wp2_with fail
   go_loopw [11] (fun qv wr => ∃ q : Nat, q ≤ k ∧ qv = .int .i64 q ∧ Hid (DlR W0 g nl P Q (rowD c l m days k q) wr)) (fun qv _ => k - (intOf qv).toNat)
   case atStart => exact ⟨0, Nat.zero_le _, rfl, HSO⟩
   case round =>
    obtain ⟨q, hq, rfl, hs⟩ := hrel
    have HSI := hs
    clear hs
    have h0q : (0 : Int) ≤ (q : Int) := by omega
    by_cases hqk : q < k
    case pos =>
     have hqi : (q : Int) < (k : Int) := by omega
     have hqn : (q : Int) < (nl : Int) := by omega
     have hqnl : q < nl := by omega
     have HQK := Lib.hid hqk
     have hrk : rowD c l m days k q k = midX c l m days k q := by unfold rowD; rw [if_neg (Nat.lt_irrefl k), if_pos rfl]
     have hrq : rowD c l m days k q q = atD c l m days q := by unfold rowD; rw [if_pos hqk]
     obtain ⟨dq, hdq⟩ : ∃ d, (midX c l m days k q).day = d := ⟨_, rfl⟩
     obtain ⟨yd, hyd⟩ : ∃ d, (atD c l m days q).day = d := ⟨_, rfl⟩
     obtain ⟨yc, hyc⟩ : ∃ d, (atD c l m days q).craft = d := ⟨_, rfl⟩
     obtain ⟨yp, hyp⟩ : ∃ d, (atD c l m days q).pad = d := ⟨_, rfl⟩
     have hdqb := midX_day HCC.out l m days HDY.out HDD.out k q
     rw [hdq] at hdqb
     have hydb := delayK_day HCC.out l m days HDY.out HDD.out k (atD c l m days q) ((delayK_mem c l m days _ k).2 ⟨q, hqk, rfl⟩)
     rw [hyd] at hydb
     have hmr := midX_rest c l m days k q
     have HXK : Hid (rowD c l m days k q k = ⟨dq, (ic : Int), (ip : Int), (l.getD k launch0).cargos⟩) := Lib.hid (by
      rw [hrk]; exact launch_eq hdq (hmr.1.trans HIC.out) (hmr.2.1.trans HIP.out) hmr.2.2)
     have HYQ : Hid (rowD c l m days k q q = ⟨yd, yc, yp, (l.getD q launch0).cargos⟩) := Lib.hid (by
      rw [hrq]; exact launch_eq hyd hyc hyp (atD_rest c l m days q).2.2)
     obtain ⟨d1, hd1⟩ : ∃ d, (if yc = (ic : Int) then max dq (yd + ag) else dq) = d := ⟨_, rfl⟩
     obtain ⟨d2, hd2⟩ : ∃ d, (if yp = (ip : Int) then max d1 (yd + cn) else d1) = d := ⟨_, rfl⟩
     have HD1 := Lib.hid hd1
     have HD2 := Lib.hid hd2
     have hd1b : 0 ≤ d1 ∧ d1 ≤ 20040001 := by rw [← hd1]; split <;> omega
     have hy0 := hydb.1
     have hy1 : yd ≤ 20020001 := by have := hydb.2; omega
     have hq0 := hdqb.1
     have hq1 : dq ≤ 20040001 := by have := hdqb.2; omega
     have HNX : Hid (∀ w1, DlR W0 g nl P Q (fun a => if a = k then ⟨d2, (ic : Int), (ip : Int), (l.getD k launch0).cargos⟩ else rowD c l m days k q a) w1 → DlR W0 g nl P Q (rowD c l m days k (q + 1)) w1) := Lib.hid fun w1 h1 => h1.congr fun a _ => by
      rw [rowD_step c l m days k q HMK.out hqk]
      by_cases e : a = k
      ·rw [if_pos e, if_pos e]
       unfold pushS
       rw [hdq, hyd, hyc, hyp, hmr.1, hmr.2.1, hmr.2.2, HIC.out, HIP.out, craft_nat, pad_nat, HAG.out, HCN.out, hd1]
       dsimp only
       rw [hd2]
      ·rw [if_neg e, if_neg e]
     have HST : Hid (∀ d w1, DlR W0 g nl P Q (fun a => if a = k then ⟨d, (ic : Int), (ip : Int), (l.getD k launch0).cargos⟩ else rowD c l m days k q a) w1 →
       w1.cell? ⟨g, k * 4, none⟩ = some (.int .i64 d) ∧ w1.frozen? ⟨g, k * 4, none⟩ = false ∧ w1.cell? ⟨g, k * 4 + 1, none⟩ = some (.int .i64 (ic : Int)) ∧ w1.cell? ⟨g, k * 4 + 2, none⟩ = some (.int .i64 (ip : Int)) ∧
       w1.cell? ⟨g, q * 4, none⟩ = some (.int .i64 yd) ∧ w1.cell? ⟨g, q * 4 + 1, none⟩ = some (.int .i64 yc) ∧ w1.cell? ⟨g, q * 4 + 2, none⟩ = some (.int .i64 yp)) := Lib.hid fun d w1 h1 => by
      have hk0 := h1.cell hlt (j := 0) (by omega)
      have hk1 := h1.cell hlt (j := 1) (by omega)
      have hk2 := h1.cell hlt (j := 2) (by omega)
      have hq0 := h1.cell hqnl (j := 0) (by omega)
      have hq1 := h1.cell hqnl (j := 1) (by omega)
      have hq2 := h1.cell hqnl (j := 2) (by omega)
      rw [if_pos rfl] at hk0 hk1 hk2
      rw [if_neg (by omega), HYQ.out] at hq0 hq1 hq2
      exact ⟨hk0, h1.free _, hk1, hk2, hq0, hq1, hq2⟩
     have HSET : Hid (∀ d d' w1, DlR W0 g nl P Q (fun a => if a = k then ⟨d, (ic : Int), (ip : Int), (l.getD k launch0).cargos⟩ else rowD c l m days k q a) w1 → DlR W0 g nl P Q (fun a => if a = k then ⟨d', (ic : Int), (ip : Int), (l.getD k launch0).cargos⟩ else rowD c l m days k q a) (w1.setCell ⟨g, k * 4, none⟩ (.int .i64 d'))) := Lib.hid fun d d' w1 h1 =>
      (h1.day HGG.out hlt d').congr fun a _ => by
       by_cases e : a = k
       ·rw [if_pos e, if_pos e, if_pos rfl]
       ·rw [if_neg e, if_neg e, if_neg e]
     have HSJ : Hid (DlR W0 g nl P Q (fun a => if a = k then ⟨dq, (ic : Int), (ip : Int), (l.getD k launch0).cargos⟩ else rowD c l m days k q a) wr) := Lib.hid (HSI.out.congr fun a _ => by
      by_cases e : a = k
      ·rw [if_pos e, e, HXK.out]
      ·rw [if_neg e])
     clear hrk hrq hdq hyd hyc hyp hdqb hydb hmr hd1 hd2
     have hd10 := hd1b.1
     have hd11 := hd1b.2
     clear hd1b
     obtain ⟨x0, fx, x1, x2, y0, y1, y2⟩ := HST.out dq wr HSJ.out
     obtain ⟨p0, p1, p3, p4⟩ := HCB.out wr HSJ.out.1
     have hws1 : IntKind.i64.wrap (yd + ag) = yd + ag := IntWalk.i64_in _ (by omega)
     have hws2 : IntKind.i64.wrap (yd + cn) = yd + cn := IntWalk.i64_in _ (by omega)
     by_cases hce : yc = (ic : Int)
     ·have hce1 : (yc == (ic : Int)) = true := by rw [beq_iff_eq]; exact hce
      have HMAX : Hid (d1 = max dq (yd + ag)) := Lib.hid (by rw [← HD1.out, if_pos hce])
      clear hce
      go_upto_region 9 with (fail)
      go_still (by kernel_rfl)
      change Exit.then _ _ Exit.normal _ wr.drew
      obtain ⟨V1, hV1⟩ : ∃ W, wr.drew = W := ⟨_, rfl⟩
      have HSV1 := Lib.hid (show DlR W0 g nl P Q _ V1 by rw [← hV1]; exact HSJ.out.drew)
      rw [hV1]
      clear hV1
      clear x0 fx x1 x2 y0 y1 y2 p0 p1 p3 p4
      obtain ⟨x0, fx, x1, x2, y0, y1, y2⟩ := HST.out dq V1 HSV1.out
      obtain ⟨p0, p1, p3, p4⟩ := HCB.out V1 HSV1.out.1
      go_upto_region 10 with (fail)
      go_still_tail 24, (by kernel_rfl)
      go_upto_region 11 with (fail)
      obtain ⟨V2, hV2⟩ : ∃ W, (V1.setCell ⟨g, k * 4, none⟩ (.int .i64 (max dq (yd + ag)))).drew = W := ⟨_, rfl⟩
      have HSV2 := Lib.hid (show DlR W0 g nl P Q _ V2 by rw [← hV2]; exact (HSET.out _ _ _ HSV1.out).drew)
      rw [hV2]
      clear hV2
      clear x0 fx x1 x2 y0 y1 y2 p0 p1 p3 p4
      rw [← HMAX.out] at HSV2
      obtain ⟨x0, fx, x1, x2, y0, y1, y2⟩ := HST.out d1 V2 HSV2.out
      obtain ⟨p0, p1, p3, p4⟩ := HCB.out V2 HSV2.out.1
      by_cases hce : yp = (ip : Int)
      ·have hce1 : (yp == (ip : Int)) = true := by rw [beq_iff_eq]; exact hce
       have HMAX : Hid (d2 = max d1 (yd + cn)) := Lib.hid (by rw [← HD2.out, if_pos hce])
       clear hce
       go_upto_region 11 with (fail)
       go_still (by kernel_rfl)
       change Exit.then _ _ Exit.normal _ V2.drew
       obtain ⟨V3, hV3⟩ : ∃ W, V2.drew = W := ⟨_, rfl⟩
       have HSV3 := Lib.hid (show DlR W0 g nl P Q _ V3 by rw [← hV3]; exact HSV2.out.drew)
       rw [hV3]
       clear hV3
       clear x0 fx x1 x2 y0 y1 y2 p0 p1 p3 p4
       obtain ⟨x0, fx, x1, x2, y0, y1, y2⟩ := HST.out d1 V3 HSV3.out
       obtain ⟨p0, p1, p3, p4⟩ := HCB.out V3 HSV3.out.1
       go_upto_region 12 with (fail)
       go_still_tail 24, (by kernel_rfl)
       go_wp2_with fail
       go_roundw
       case rel => exact ⟨q + 1, by omega, by go_num, Lib.hid (by have h1 := HNX.out _ (by rw [HMAX.out]; exact (HSET.out _ _ _ HSV3.out).drew); exact h1)⟩
       case measure => simp [intOf]; omega
      ·have hce1 : (yp == (ip : Int)) = false := by rw [beq_eq_false_iff_ne]; exact hce
       have HMAX : Hid (d2 = d1) := Lib.hid (by rw [← HD2.out, if_neg hce])
       clear hce
       go_upto_region 11 with (fail)
       go_still (by kernel_rfl)
       change Exit.then _ _ Exit.normal _ V2.drew
       obtain ⟨V3, hV3⟩ : ∃ W, V2.drew = W := ⟨_, rfl⟩
       have HSV3 := Lib.hid (show DlR W0 g nl P Q _ V3 by rw [← hV3]; exact HSV2.out.drew)
       rw [hV3]
       clear hV3
       clear x0 fx x1 x2 y0 y1 y2 p0 p1 p3 p4
       go_wp2_with fail
       go_roundw
       case rel => exact ⟨q + 1, by omega, by go_num, Lib.hid (HNX.out _ (by rw [HMAX.out]; exact HSV3.out))⟩
       case measure => simp [intOf]; omega
     ·have hce1 : (yc == (ic : Int)) = false := by rw [beq_eq_false_iff_ne]; exact hce
      have HMAX : Hid (d1 = dq) := Lib.hid (by rw [← HD1.out, if_neg hce])
      clear hce
      go_upto_region 9 with (fail)
      go_still (by kernel_rfl)
      change Exit.then _ _ Exit.normal _ wr.drew
      obtain ⟨V1, hV1⟩ : ∃ W, wr.drew = W := ⟨_, rfl⟩
      have HSV1 := Lib.hid (show DlR W0 g nl P Q _ V1 by rw [← hV1]; exact HSJ.out.drew)
      rw [hV1]
      clear hV1
      clear x0 fx x1 x2 y0 y1 y2 p0 p1 p3 p4
      rw [← HMAX.out] at HSV1
      go_upto_region 11 with (fail)
      obtain ⟨x0, fx, x1, x2, y0, y1, y2⟩ := HST.out d1 V1 HSV1.out
      obtain ⟨p0, p1, p3, p4⟩ := HCB.out V1 HSV1.out.1
      by_cases hce : yp = (ip : Int)
      ·have hce1 : (yp == (ip : Int)) = true := by rw [beq_iff_eq]; exact hce
       have HMAX : Hid (d2 = max d1 (yd + cn)) := Lib.hid (by rw [← HD2.out, if_pos hce])
       clear hce
       go_upto_region 11 with (fail)
       go_still (by kernel_rfl)
       change Exit.then _ _ Exit.normal _ V1.drew
       obtain ⟨V3, hV3⟩ : ∃ W, V1.drew = W := ⟨_, rfl⟩
       have HSV3 := Lib.hid (show DlR W0 g nl P Q _ V3 by rw [← hV3]; exact HSV1.out.drew)
       rw [hV3]
       clear hV3
       clear x0 fx x1 x2 y0 y1 y2 p0 p1 p3 p4
       obtain ⟨x0, fx, x1, x2, y0, y1, y2⟩ := HST.out d1 V3 HSV3.out
       obtain ⟨p0, p1, p3, p4⟩ := HCB.out V3 HSV3.out.1
       go_upto_region 12 with (fail)
       go_still_tail 24, (by kernel_rfl)
       go_wp2_with fail
       go_roundw
       case rel => exact ⟨q + 1, by omega, by go_num, Lib.hid (by have h1 := HNX.out _ (by rw [HMAX.out]; exact (HSET.out _ _ _ HSV3.out).drew); exact h1)⟩
       case measure => simp [intOf]; omega
      ·have hce1 : (yp == (ip : Int)) = false := by rw [beq_eq_false_iff_ne]; exact hce
       have HMAX : Hid (d2 = d1) := Lib.hid (by rw [← HD2.out, if_neg hce])
       clear hce
       go_upto_region 11 with (fail)
       go_still (by kernel_rfl)
       change Exit.then _ _ Exit.normal _ V1.drew
       obtain ⟨V3, hV3⟩ : ∃ W, V1.drew = W := ⟨_, rfl⟩
       have HSV3 := Lib.hid (show DlR W0 g nl P Q _ V3 by rw [← hV3]; exact HSV1.out.drew)
       rw [hV3]
       clear hV3
       clear x0 fx x1 x2 y0 y1 y2 p0 p1 p3 p4
       go_wp2_with fail
       go_roundw
       case rel => exact ⟨q + 1, by omega, by go_num, Lib.hid (HNX.out _ (by rw [HMAX.out]; exact HSV3.out))⟩
       case measure => simp [intOf]; omega
    case neg =>
     obtain rfl : q = k := by omega
     have HSN : Hid (DlR W0 g nl P Q (rowD c l m days (q + 1) 0) wr) := Lib.hid (HSI.out.congr fun a _ => rowD_next c l m days q HMK.out a)
     go_wp2_with fail
     go_roundw
     case rel => exact ⟨q + 1, by omega, by omega, by go_num, HSN⟩
     case measure => simp [intOf]; omega
  case neg =>
   obtain rfl : k = nl := by omega
   have HF2 := Lib.hid (HFIN.out (some ⟨g, 0, none⟩) c5 wo (by
    have h1 := HSO.out
    rw [← HNL.out] at h1 ⊢
    refine h1.plan (by rw [HNL.out]; exact hn4) (by rw [delayK_len]) (fun a ha => ?_) (fun a _ => (rowD_rest c l m days _ 0 a).2.2) (fun a ha => HIN.out a ha)
    rw [delayK_at _ _ _ _ ha]
    unfold rowD; rw [if_pos ha]) HSO.out.1)
   go_wp2_with fail
   first | exact HF2.out | (go_ret; exact HF2.out)
end Go.Proofs.YtcnjenlojnognaaGreat
