/- What is proved: the texts Re Rg Rh Ri, one behind the other; each says at its head what it proves, and under which conditions. -/
import Derived.StillTailTactics
import Derived.Deep.CutBlock
import Derived.Deep.DeepCutAuto
import Derived.Test.YtogobjmmgjfjjaaGreatdPOwns7
/- What is proved: the ways through ullageref07.carry of a line for liquid. Conditions: the plant and the state lie in memory; the state is a system's. -/
namespace Go.Proofs.YtogobjmmgjfjjaaGreat
open Go.RowKit

set_option maxRecDepth 100000 in
set_option maxHeartbeats 4000000 in
theorem refCarry_falseSD [Exc] (w : World) (x : PV) (R : RX) (S : Sys) (i sn dn : Nat) (flow : Int) (vs : List Int) (sA : Option Addr) (sc : Nat) (H : CarryPre w x R S i sA sc ⟨(sn : Int), (dn : Int), flow, false, vs⟩) (m1 m2 : Int)
    (hm1 : (if (S.tank sn).content < flow then (S.tank sn).content else flow) = m1) (hm2 : (if (S.p.tank dn).room - (S.tank dn).content < m1 then (S.p.tank dn).room - (S.tank dn).content else m1) = m2) (hb0 : 0 ≤ m2 ∧ m2 ≤ 1073741824 ∧ 0 ≤ flow ∧ flow ≤ 1073741824) (hsd : sn ≠ dn) (hsn : sn < S.p.tanks.length) (hms : m2 ≤ (S.tank sn).content) (hdn : dn < S.p.tanks.length) (hmd : (S.tank dn).content + m2 ≤ (S.p.tank dn).room) :
    Calls Tryz.prog 144 #[.agg (plantA x S.p), .agg (SysA R S), .int .i64 i] w (RefOne w ((addN (addN S false sn (-m2)) false dn m2).setC i (wrap64 (S.carried i + m2)))) := by
  obtain ⟨hp, hr, ok, hi, hs, hl, hA, hc⟩ := H
  have hii : (i : Int) < (S.p.lines.length : Int) := by omega
  have h0i : (0 : Int) ≤ (i : Int) := by omega
  obtain ⟨bl, ol, hAl, hBl, l0, l1, l2, l3, l4⟩ := hp.lines.at5 hi
  rw [hl, hA, hc] at l0 l1 l2 l3 l4
  simp only [lineC] at l0 l1 l2 l3 l4
  obtain ⟨W0, hW⟩ : ∃ W0, W0 = (((w.alloc (.cells (plantA x S.p) 27)).alloc (.cells (SysA R S) 53)).alloc (.cells (refA nilR 0 0 0) 53)).alloc (.cells (lineA sA sc ⟨(sn : Int), (dn : Int), flow, false, vs⟩) 76) := ⟨_, rfl⟩
  have hbW : Below w.heap.size w W0 := by rw [hW]; exact ((((Below.refl _ _).alloc (Nat.le_refl _) _).alloc (by simp) _).alloc (by simp; omega) _).alloc (by simp; omega) _
  have hWs : W0.heap.size = w.heap.size + 4 := by rw [hW]; simp
  have hbk0 : Bk W0 w.heap.size 27 (plantA x S.p) := by rw [hW]; exact (((Bk.new _ _ _).alloc _).alloc _).alloc _
  have hbk1 : Bk W0 (w.heap.size + 1) 53 (SysA R S) := by rw [hW]; exact ((Bk.newAt _ _ _ _ (by simp)).alloc _).alloc _
  have hbk2 : Bk W0 (w.heap.size + 2) 53 (refA nilR 0 0 0) := by rw [hW]; exact (Bk.newAt _ _ _ _ (by simp)).alloc _
  have hbk3 : Bk W0 (w.heap.size + 3) 76 (lineA sA sc ⟨(sn : Int), (dn : Int), flow, false, vs⟩) := by rw [hW]; exact Bk.newAt _ _ _ _ (by simp)
  have HS0 : Hid (StR w x 4 (carEx sA sc ⟨(sn : Int), (dn : Int), flow, false, vs⟩) W0 S) := Lib.hid ⟨⟨R, hbk1, RefB.start hr hbW hWs⟩, hbk0, fun e he => by
    simp only [carEx, List.mem_cons, List.not_mem_nil, or_false] at he
    rcases he with rfl | rfl
    · exact ⟨by show 2 ≠ 1; omega, by show 2 < 4; omega, hbk2⟩
    · exact ⟨by show 3 ≠ 1; omega, by show 3 < 4; omega, hbk3⟩, hp.below hbW, hbW, by omega, by omega⟩
  have HWx := Lib.hid hW
  have hbl2 : bl < w.heap.size + 1 := by omega
  have hbl3 : bl < w.heap.size + 1 + 1 := by omega
  have hnt := ok.tanks
  have hcn : S.p.tanks.length ≤ 4096 := hs.1
  have hln : S.p.lines.length ≤ 4096 := hs.2.2
  have HOK := Lib.hid ok
  have ts := ok.tanks sn hsn
  have rs := tankOk_of ok.valid sn hsn
  have td := ok.tanks dn hdn
  have rd := tankOk_of ok.valid dn hdn
  have HL : Hid (∀ wx S', StR w x 4 (carEx sA sc ⟨(sn : Int), (dn : Int), flow, false, vs⟩) wx S' → wx.cell? ⟨w.heap.size + 1 + 1 + 1, 0, none⟩ = some (.int .i64 sn) ∧ wx.cell? ⟨w.heap.size + 1 + 1 + 1, 1, none⟩ = some (.int .i64 dn) ∧ wx.cell? ⟨w.heap.size + 1 + 1 + 1, 2, none⟩ = some (.int .i64 flow) ∧ wx.cell? ⟨w.heap.size + 1 + 1 + 1, 3, none⟩ = some (.bool false)) := Lib.hid fun wx S' h => by
    have h3 := (h.ex (3, 76, lineA sA sc ⟨(sn : Int), (dn : Int), flow, false, vs⟩) (by simp [carEx])).2.2
    exact ⟨h3.cell 0, h3.cell 1, h3.cell 2, h3.cell 3⟩
  simp only [plantA, refA, SysA, lineA, nilR, hAl] at HWx
  have hx := HL.out W0 S HS0.out
  obtain ⟨x0, x1, x2, x3⟩ := hx
  obtain ⟨R0, r10, r20⟩ := HS0.out.st
  obtain ⟨b0, o0, hA0, hB0, d0⟩ := (show Sl W0 W0.heap.size 1 (R0.a 0) S.p.tanks.length fun j _ => valR S 0 j from (r20.at_ 0 (by omega)).sl).at1v hsn
  have c0 : W0.cell? ⟨w.heap.size + 1, 0, none⟩ = some (.slice (some ⟨b0, o0, none⟩) S.p.tanks.length (R0.c 0)) := by rw [← hA0]; exact (r10.cell 0).trans (SysA_get R0 S 0 (by omega))
  have d0' : W0.cell? ⟨b0, o0 + sn, none⟩ = some (.int .i64 (S.tank sn).content) := d0
  have hsi : (sn : Int) < (S.p.tanks.length : Int) := by omega
  have h0s : (0 : Int) ≤ (sn : Int) := by omega
  obtain ⟨b9, o9, hA9, hB9, d9⟩ := (show Sl W0 W0.heap.size 1 (R0.a 0) S.p.tanks.length fun j _ => valR S 0 j from (r20.at_ 0 (by omega)).sl).at1v hdn
  obtain ⟨rfl, rfl⟩ : b0 = b9 ∧ o0 = o9 := by rw [hA0] at hA9; simpa using hA9
  have d9' : W0.cell? ⟨b0, o0 + dn, none⟩ = some (.int .i64 (S.tank dn).content) := d9
  have hdi : (dn : Int) < (S.p.tanks.length : Int) := by omega
  have h0d : (0 : Int) ≤ (dn : Int) := by omega
  have hwm : IntKind.i64.wrap ((S.p.tank dn).room - (S.tank dn).content) = (S.p.tank dn).room - (S.tank dn).content := IntWalk.i64_in _ (by omega)
  obtain ⟨bt, ot, hAt, hBt, _, t1, _, _⟩ := HS0.out.plant.tanks.at4 hdn
  simp only [tankC] at t1
  have pt : W0.cell? ⟨w.heap.size, 0, none⟩ = some (.slice (some ⟨bt, ot, none⟩) S.p.tanks.length x.tc) := by rw [← hAt]; exact HS0.out.pl.cell 0
  clear hAt
  have l2b : bl < w.heap.size + 1 + 1 := by omega
  clear hW hbW hWs hbk0 hbk1 hbk2 hbk3 hp hr hs hl hA hc hnt ok r10 r20 d0 hA0 d9 hA9 
  dsimp only [plantA, refA, SysA]
  go_enter Tryz.func144, Tryz.ntmps144
  go_upto_region 2 with (fail)
  rw [← HWx.out]
  go_wp2_with fail
  go_quiet (fail)
  obtain ⟨W9, hW9⟩ : ∃ W9, W9 = W0.drewN nq := ⟨_, rfl⟩
  rw [← hW9]
  have HS9 : Hid (StR w x 4 (carEx sA sc ⟨(sn : Int), (dn : Int), flow, false, vs⟩) W9 S) := Lib.hid (HS0.out.later (by rw [hW9]; exact below_drewN (Below.refl _ _) _))
  clear x0 x1 x2 x3 hW9
  obtain ⟨x0, x1, x2, x3⟩ := HL.out W9 _ HS9.out
  go_wp2_with fail
  clear c0 d0' d9' x0 x1 x2 x3 l0 l1 l2 l3 l4
  obtain ⟨x0, x1, x2, x3⟩ := HL.out W9 _ HS9.out
  obtain ⟨b1, o1, c1, hc1, hv1, hcall1⟩ := HS9.out.upd (k := 0) (n := S.p.tanks.length) (idx := sn) (by omega) rfl hsn hcn (fun j => (S.tank j).content) (fun _ => rfl)
  have HCL1 := Lib.hid (hcall1 ((S.tank sn).content - m2) (addN S false sn (-m2)) rfl (valR_addCon S sn (-m2)) (fun j => addCon_val S sn (-m2) j))
  have hws : IntKind.i64.wrap ((S.tank sn).content - m2) = (S.tank sn).content - m2 := IntWalk.i64_in _ (by omega)
  clear hcall1
  go_still_tail 12, (by kernel_rfl)
  go_wp2_with (go_at_call 113; refine HCL1.out.mono ?_; rintro e w1 ⟨A1, C1, rfl, hb1, hcell1, hfr1, hst1⟩; clear x0 x1 x2 x3 hc1 hv1 HCL1; obtain ⟨x0, x1, x2, x3⟩ := HL.out w1 _ (HS9.out.later hb1))
  obtain ⟨W1, hW1⟩ : ∃ W1, W1 = w1.setCell ⟨w.heap.size + 1, 0, none⟩ (.slice A1 S.p.tanks.length C1) := ⟨_, rfl⟩
  rw [← hW1] at hst1 ⊢
  have HS1 := Lib.hid hst1
  clear hst1 hW1 hcell1 hfr1 hb1 x0 x1 x2 x3
  have addFar : ((addN S false sn (-m2)).tank dn).content = (S.tank dn).content := by have := addN_num S false sn (-m2) dn; rw [if_neg (Ne.symm hsd)] at this; exact this
  obtain ⟨x0, x1, x2, x3⟩ := HL.out W1 _ HS1.out
  obtain ⟨b2, o2, c2, hc2, hv2, hcall2⟩ := HS1.out.upd (k := 0) (n := S.p.tanks.length) (idx := dn) (by omega) rfl hdn hcn (fun j => ((addN S false sn (-m2)).tank j).content) (fun _ => rfl)
  have HCL2 := Lib.hid (hcall2 ((S.tank dn).content + m2) (addN (addN S false sn (-m2)) false dn m2) rfl (valR_addCon (addN S false sn (-m2)) dn m2) (fun j => by rw [addCon_val (addN S false sn (-m2)) dn m2 j]; rw [show ((addN S false sn (-m2)).tank dn).content = (S.tank dn).content from addFar]))
  have hwd : IntKind.i64.wrap ((S.tank dn).content + m2) = (S.tank dn).content + m2 := IntWalk.i64_in _ (by omega)
  rw [show ((addN S false sn (-m2)).tank dn).content = (S.tank dn).content from addFar] at hv2
  clear hcall2
  go_still_tail 12, (by kernel_rfl)
  go_wp2_with (go_at_call 113; refine HCL2.out.mono ?_; rintro e w1 ⟨A2, C2, rfl, hb2, hcell2, hfr2, hst2⟩; clear x0 x1 x2 x3 hc2 hv2 HCL2; obtain ⟨x0, x1, x2, x3⟩ := HL.out w1 _ (HS1.out.later hb2))
  obtain ⟨W2, hW2⟩ : ∃ W2, W2 = w1.setCell ⟨w.heap.size + 1, 0, none⟩ (.slice A2 S.p.tanks.length C2) := ⟨_, rfl⟩
  rw [← hW2] at hst2 ⊢
  have HS2 := Lib.hid hst2
  clear hst2 hW2 hcell2 hfr2 hb2 x0 x1 x2 x3
  obtain ⟨b3, o3, c3, hc3, hv3, hcall3⟩ := HS2.out.upd (k := 6) (n := S.p.lines.length) (idx := i) (by omega) rfl hi hln (fun j => S.carried j) (fun _ => rfl)
  have HCL3 := Lib.hid (hcall3 (wrap64 (S.carried i + m2)) ((addN (addN S false sn (-m2)) false dn m2).setC i (wrap64 (S.carried i + m2))) rfl (valR_setC (addN (addN S false sn (-m2)) false dn m2) i _) (fun j => rfl))
  clear hcall3
  go_still_tail 10, (by kernel_rfl)
  go_wp2_with (first | (go_at_call 113; refine HCL3.out.mono ?_; rintro e w1 ⟨A3, C3, rfl, hb3, hcell3, hfr3, hst3⟩; clear hc3 hv3 HCL3; have HST := Lib.hid hst3; clear hst3; obtain ⟨R4, r14, r24⟩ := HST.out.st; have HR14 := Lib.hid r14; have HR24 := Lib.hid r24; clear r14 r24) |
    (refine wpLoadAt rfl 53 _ rfl (w.heap.size + 1) 0 rfl (refA R4 S.p.tanks.length S.p.valves.length S.p.lines.length) _ (fun j u hj => by rw [Nat.zero_add]; exact (HR14.out.cell j).trans hj) und_state rfl info_state ?_) |
    (refine wpStoreAt rfl rfl 53 _ _ rfl (w.heap.size + 1 + 1) 0 rfl (refA R4 S.p.tanks.length S.p.valves.length S.p.lines.length) rfl 53 _ (HST.out.ex (2, 53, refA nilR 0 0 0) (by simp [carEx])).2.2 (by show 0 + 9 ≤ 9; omega) (refA_one _ _ _ _) info_state ?_; intro wf hkf hof))
  refine bodyPost_ret (results_cellS rfl _ _ (w.heap.size + 1 + 1) 53 (refA R4 S.p.tanks.length S.p.valves.length S.p.lines.length) _ rfl (by rw [splA_all _ _ (by rw [refA_size, refA_size])] at hkf; exact hkf) und_state rfl info_state) rfl ?_
  exact ⟨R4, rfl, (HR24.out.only hof (by omega) (by omega)).at_, HST.out.below.trans (hof.below (by omega))⟩

set_option maxRecDepth 100000 in
set_option maxHeartbeats 4000000 in
theorem refCarry_falseSN [Exc] (w : World) (x : PV) (R : RX) (S : Sys) (i sn : Nat) (flow : Int) (vs : List Int) (sA : Option Addr) (sc : Nat) (H : CarryPre w x R S i sA sc ⟨(sn : Int), (-1), flow, false, vs⟩) (m1 m2 : Int)
    (hm1 : (if (S.tank sn).content < flow then (S.tank sn).content else flow) = m1) (hm2 : m1 = m2) (hb0 : 0 ≤ m2 ∧ m2 ≤ 1073741824 ∧ 0 ≤ flow ∧ flow ≤ 1073741824) (hsn : sn < S.p.tanks.length) (hms : m2 ≤ (S.tank sn).content) :
    Calls Tryz.prog 144 #[.agg (plantA x S.p), .agg (SysA R S), .int .i64 i] w (RefOne w ((addN S false sn (-m2)).setC i (wrap64 (S.carried i + m2)))) := by
  obtain ⟨hp, hr, ok, hi, hs, hl, hA, hc⟩ := H
  have hii : (i : Int) < (S.p.lines.length : Int) := by omega
  have h0i : (0 : Int) ≤ (i : Int) := by omega
  obtain ⟨bl, ol, hAl, hBl, l0, l1, l2, l3, l4⟩ := hp.lines.at5 hi
  rw [hl, hA, hc] at l0 l1 l2 l3 l4
  simp only [lineC] at l0 l1 l2 l3 l4
  obtain ⟨W0, hW⟩ : ∃ W0, W0 = (((w.alloc (.cells (plantA x S.p) 27)).alloc (.cells (SysA R S) 53)).alloc (.cells (refA nilR 0 0 0) 53)).alloc (.cells (lineA sA sc ⟨(sn : Int), (-1), flow, false, vs⟩) 76) := ⟨_, rfl⟩
  have hbW : Below w.heap.size w W0 := by rw [hW]; exact ((((Below.refl _ _).alloc (Nat.le_refl _) _).alloc (by simp) _).alloc (by simp; omega) _).alloc (by simp; omega) _
  have hWs : W0.heap.size = w.heap.size + 4 := by rw [hW]; simp
  have hbk0 : Bk W0 w.heap.size 27 (plantA x S.p) := by rw [hW]; exact (((Bk.new _ _ _).alloc _).alloc _).alloc _
  have hbk1 : Bk W0 (w.heap.size + 1) 53 (SysA R S) := by rw [hW]; exact ((Bk.newAt _ _ _ _ (by simp)).alloc _).alloc _
  have hbk2 : Bk W0 (w.heap.size + 2) 53 (refA nilR 0 0 0) := by rw [hW]; exact (Bk.newAt _ _ _ _ (by simp)).alloc _
  have hbk3 : Bk W0 (w.heap.size + 3) 76 (lineA sA sc ⟨(sn : Int), (-1), flow, false, vs⟩) := by rw [hW]; exact Bk.newAt _ _ _ _ (by simp)
  have HS0 : Hid (StR w x 4 (carEx sA sc ⟨(sn : Int), (-1), flow, false, vs⟩) W0 S) := Lib.hid ⟨⟨R, hbk1, RefB.start hr hbW hWs⟩, hbk0, fun e he => by
    simp only [carEx, List.mem_cons, List.not_mem_nil, or_false] at he
    rcases he with rfl | rfl
    · exact ⟨by show 2 ≠ 1; omega, by show 2 < 4; omega, hbk2⟩
    · exact ⟨by show 3 ≠ 1; omega, by show 3 < 4; omega, hbk3⟩, hp.below hbW, hbW, by omega, by omega⟩
  have HWx := Lib.hid hW
  have hbl2 : bl < w.heap.size + 1 := by omega
  have hbl3 : bl < w.heap.size + 1 + 1 := by omega
  have hnt := ok.tanks
  have hcn : S.p.tanks.length ≤ 4096 := hs.1
  have hln : S.p.lines.length ≤ 4096 := hs.2.2
  have HOK := Lib.hid ok
  have ts := ok.tanks sn hsn
  have rs := tankOk_of ok.valid sn hsn
  have HL : Hid (∀ wx S', StR w x 4 (carEx sA sc ⟨(sn : Int), (-1), flow, false, vs⟩) wx S' → wx.cell? ⟨w.heap.size + 1 + 1 + 1, 0, none⟩ = some (.int .i64 sn) ∧ wx.cell? ⟨w.heap.size + 1 + 1 + 1, 1, none⟩ = some (.int .i64 (-1)) ∧ wx.cell? ⟨w.heap.size + 1 + 1 + 1, 2, none⟩ = some (.int .i64 flow) ∧ wx.cell? ⟨w.heap.size + 1 + 1 + 1, 3, none⟩ = some (.bool false)) := Lib.hid fun wx S' h => by
    have h3 := (h.ex (3, 76, lineA sA sc ⟨(sn : Int), (-1), flow, false, vs⟩) (by simp [carEx])).2.2
    exact ⟨h3.cell 0, h3.cell 1, h3.cell 2, h3.cell 3⟩
  simp only [plantA, refA, SysA, lineA, nilR, hAl] at HWx
  have hx := HL.out W0 S HS0.out
  obtain ⟨x0, x1, x2, x3⟩ := hx
  obtain ⟨R0, r10, r20⟩ := HS0.out.st
  obtain ⟨b0, o0, hA0, hB0, d0⟩ := (show Sl W0 W0.heap.size 1 (R0.a 0) S.p.tanks.length fun j _ => valR S 0 j from (r20.at_ 0 (by omega)).sl).at1v hsn
  have c0 : W0.cell? ⟨w.heap.size + 1, 0, none⟩ = some (.slice (some ⟨b0, o0, none⟩) S.p.tanks.length (R0.c 0)) := by rw [← hA0]; exact (r10.cell 0).trans (SysA_get R0 S 0 (by omega))
  have d0' : W0.cell? ⟨b0, o0 + sn, none⟩ = some (.int .i64 (S.tank sn).content) := d0
  have hsi : (sn : Int) < (S.p.tanks.length : Int) := by omega
  have h0s : (0 : Int) ≤ (sn : Int) := by omega
  have l2b : bl < w.heap.size + 1 + 1 := by omega
  clear hW hbW hWs hbk0 hbk1 hbk2 hbk3 hp hr hs hl hA hc hnt ok r10 r20 d0 hA0   
  dsimp only [plantA, refA, SysA]
  have hm3 := hm2.symm
  subst hm3
  go_enter Tryz.func144, Tryz.ntmps144
  go_upto_region 2 with (fail)
  rw [← HWx.out]
  go_wp2_with fail
  clear c0 d0'  x0 x1 x2 x3 l0 l1 l2 l3 l4
  obtain ⟨x0, x1, x2, x3⟩ := HL.out W0 _ HS0.out
  obtain ⟨b1, o1, c1, hc1, hv1, hcall1⟩ := HS0.out.upd (k := 0) (n := S.p.tanks.length) (idx := sn) (by omega) rfl hsn hcn (fun j => (S.tank j).content) (fun _ => rfl)
  have HCL1 := Lib.hid (hcall1 ((S.tank sn).content - m2) (addN S false sn (-m2)) rfl (valR_addCon S sn (-m2)) (fun j => addCon_val S sn (-m2) j))
  have hws : IntKind.i64.wrap ((S.tank sn).content - m2) = (S.tank sn).content - m2 := IntWalk.i64_in _ (by omega)
  clear hcall1
  go_still_tail 12, (by kernel_rfl)
  go_wp2_with (go_at_call 113; refine HCL1.out.mono ?_; rintro e w1 ⟨A1, C1, rfl, hb1, hcell1, hfr1, hst1⟩; clear x0 x1 x2 x3 hc1 hv1 HCL1; obtain ⟨x0, x1, x2, x3⟩ := HL.out w1 _ (HS0.out.later hb1))
  obtain ⟨W1, hW1⟩ : ∃ W1, W1 = w1.setCell ⟨w.heap.size + 1, 0, none⟩ (.slice A1 S.p.tanks.length C1) := ⟨_, rfl⟩
  rw [← hW1] at hst1 ⊢
  have HS1 := Lib.hid hst1
  clear hst1 hW1 hcell1 hfr1 hb1 x0 x1 x2 x3
  obtain ⟨b2, o2, c2, hc2, hv2, hcall2⟩ := HS1.out.upd (k := 6) (n := S.p.lines.length) (idx := i) (by omega) rfl hi hln (fun j => S.carried j) (fun _ => rfl)
  have HCL2 := Lib.hid (hcall2 (wrap64 (S.carried i + m2)) ((addN S false sn (-m2)).setC i (wrap64 (S.carried i + m2))) rfl (valR_setC (addN S false sn (-m2)) i _) (fun j => rfl))
  clear hcall2
  go_still_tail 10, (by kernel_rfl)
  go_wp2_with (first | (go_at_call 113; refine HCL2.out.mono ?_; rintro e w1 ⟨A2, C2, rfl, hb2, hcell2, hfr2, hst2⟩; clear hc2 hv2 HCL2; have HST := Lib.hid hst2; clear hst2; obtain ⟨R4, r14, r24⟩ := HST.out.st; have HR14 := Lib.hid r14; have HR24 := Lib.hid r24; clear r14 r24) |
    (refine wpLoadAt rfl 53 _ rfl (w.heap.size + 1) 0 rfl (refA R4 S.p.tanks.length S.p.valves.length S.p.lines.length) _ (fun j u hj => by rw [Nat.zero_add]; exact (HR14.out.cell j).trans hj) und_state rfl info_state ?_) |
    (refine wpStoreAt rfl rfl 53 _ _ rfl (w.heap.size + 1 + 1) 0 rfl (refA R4 S.p.tanks.length S.p.valves.length S.p.lines.length) rfl 53 _ (HST.out.ex (2, 53, refA nilR 0 0 0) (by simp [carEx])).2.2 (by show 0 + 9 ≤ 9; omega) (refA_one _ _ _ _) info_state ?_; intro wf hkf hof))
  refine bodyPost_ret (results_cellS rfl _ _ (w.heap.size + 1 + 1) 53 (refA R4 S.p.tanks.length S.p.valves.length S.p.lines.length) _ rfl (by rw [splA_all _ _ (by rw [refA_size, refA_size])] at hkf; exact hkf) und_state rfl info_state) rfl ?_
  exact ⟨R4, rfl, (HR24.out.only hof (by omega) (by omega)).at_, HST.out.below.trans (hof.below (by omega))⟩

set_option maxRecDepth 100000 in
set_option maxHeartbeats 4000000 in
theorem refCarry_falseND [Exc] (w : World) (x : PV) (R : RX) (S : Sys) (i dn : Nat) (flow : Int) (vs : List Int) (sA : Option Addr) (sc : Nat) (H : CarryPre w x R S i sA sc ⟨(-1), (dn : Int), flow, false, vs⟩) (m1 m2 : Int)
    (hm1 : flow = m1) (hm2 : (if (S.p.tank dn).room - (S.tank dn).content < m1 then (S.p.tank dn).room - (S.tank dn).content else m1) = m2) (hb0 : 0 ≤ m2 ∧ m2 ≤ 1073741824 ∧ 0 ≤ flow ∧ flow ≤ 1073741824) (hdn : dn < S.p.tanks.length) (hmd : (S.tank dn).content + m2 ≤ (S.p.tank dn).room) :
    Calls Tryz.prog 144 #[.agg (plantA x S.p), .agg (SysA R S), .int .i64 i] w (RefOne w ((addN S false dn m2).setC i (wrap64 (S.carried i + m2)))) := by
  obtain ⟨hp, hr, ok, hi, hs, hl, hA, hc⟩ := H
  have hii : (i : Int) < (S.p.lines.length : Int) := by omega
  have h0i : (0 : Int) ≤ (i : Int) := by omega
  obtain ⟨bl, ol, hAl, hBl, l0, l1, l2, l3, l4⟩ := hp.lines.at5 hi
  rw [hl, hA, hc] at l0 l1 l2 l3 l4
  simp only [lineC] at l0 l1 l2 l3 l4
  obtain ⟨W0, hW⟩ : ∃ W0, W0 = (((w.alloc (.cells (plantA x S.p) 27)).alloc (.cells (SysA R S) 53)).alloc (.cells (refA nilR 0 0 0) 53)).alloc (.cells (lineA sA sc ⟨(-1), (dn : Int), flow, false, vs⟩) 76) := ⟨_, rfl⟩
  have hbW : Below w.heap.size w W0 := by rw [hW]; exact ((((Below.refl _ _).alloc (Nat.le_refl _) _).alloc (by simp) _).alloc (by simp; omega) _).alloc (by simp; omega) _
  have hWs : W0.heap.size = w.heap.size + 4 := by rw [hW]; simp
  have hbk0 : Bk W0 w.heap.size 27 (plantA x S.p) := by rw [hW]; exact (((Bk.new _ _ _).alloc _).alloc _).alloc _
  have hbk1 : Bk W0 (w.heap.size + 1) 53 (SysA R S) := by rw [hW]; exact ((Bk.newAt _ _ _ _ (by simp)).alloc _).alloc _
  have hbk2 : Bk W0 (w.heap.size + 2) 53 (refA nilR 0 0 0) := by rw [hW]; exact (Bk.newAt _ _ _ _ (by simp)).alloc _
  have hbk3 : Bk W0 (w.heap.size + 3) 76 (lineA sA sc ⟨(-1), (dn : Int), flow, false, vs⟩) := by rw [hW]; exact Bk.newAt _ _ _ _ (by simp)
  have HS0 : Hid (StR w x 4 (carEx sA sc ⟨(-1), (dn : Int), flow, false, vs⟩) W0 S) := Lib.hid ⟨⟨R, hbk1, RefB.start hr hbW hWs⟩, hbk0, fun e he => by
    simp only [carEx, List.mem_cons, List.not_mem_nil, or_false] at he
    rcases he with rfl | rfl
    · exact ⟨by show 2 ≠ 1; omega, by show 2 < 4; omega, hbk2⟩
    · exact ⟨by show 3 ≠ 1; omega, by show 3 < 4; omega, hbk3⟩, hp.below hbW, hbW, by omega, by omega⟩
  have HWx := Lib.hid hW
  have hbl2 : bl < w.heap.size + 1 := by omega
  have hbl3 : bl < w.heap.size + 1 + 1 := by omega
  have hnt := ok.tanks
  have hcn : S.p.tanks.length ≤ 4096 := hs.1
  have hln : S.p.lines.length ≤ 4096 := hs.2.2
  have HOK := Lib.hid ok
  have td := ok.tanks dn hdn
  have rd := tankOk_of ok.valid dn hdn
  have HL : Hid (∀ wx S', StR w x 4 (carEx sA sc ⟨(-1), (dn : Int), flow, false, vs⟩) wx S' → wx.cell? ⟨w.heap.size + 1 + 1 + 1, 0, none⟩ = some (.int .i64 (-1)) ∧ wx.cell? ⟨w.heap.size + 1 + 1 + 1, 1, none⟩ = some (.int .i64 dn) ∧ wx.cell? ⟨w.heap.size + 1 + 1 + 1, 2, none⟩ = some (.int .i64 flow) ∧ wx.cell? ⟨w.heap.size + 1 + 1 + 1, 3, none⟩ = some (.bool false)) := Lib.hid fun wx S' h => by
    have h3 := (h.ex (3, 76, lineA sA sc ⟨(-1), (dn : Int), flow, false, vs⟩) (by simp [carEx])).2.2
    exact ⟨h3.cell 0, h3.cell 1, h3.cell 2, h3.cell 3⟩
  simp only [plantA, refA, SysA, lineA, nilR, hAl] at HWx
  have hx := HL.out W0 S HS0.out
  obtain ⟨x0, x1, x2, x3⟩ := hx
  obtain ⟨R0, r10, r20⟩ := HS0.out.st
  obtain ⟨b0, o0, hA0, hB0, d9⟩ := (show Sl W0 W0.heap.size 1 (R0.a 0) S.p.tanks.length fun j _ => valR S 0 j from (r20.at_ 0 (by omega)).sl).at1v hdn
  have c0 : W0.cell? ⟨w.heap.size + 1, 0, none⟩ = some (.slice (some ⟨b0, o0, none⟩) S.p.tanks.length (R0.c 0)) := by rw [← hA0]; exact (r10.cell 0).trans (SysA_get R0 S 0 (by omega))
  have d9' : W0.cell? ⟨b0, o0 + dn, none⟩ = some (.int .i64 (S.tank dn).content) := d9
  have hdi : (dn : Int) < (S.p.tanks.length : Int) := by omega
  have h0d : (0 : Int) ≤ (dn : Int) := by omega
  have hwm : IntKind.i64.wrap ((S.p.tank dn).room - (S.tank dn).content) = (S.p.tank dn).room - (S.tank dn).content := IntWalk.i64_in _ (by omega)
  obtain ⟨bt, ot, hAt, hBt, _, t1, _, _⟩ := HS0.out.plant.tanks.at4 hdn
  simp only [tankC] at t1
  have pt : W0.cell? ⟨w.heap.size, 0, none⟩ = some (.slice (some ⟨bt, ot, none⟩) S.p.tanks.length x.tc) := by rw [← hAt]; exact HS0.out.pl.cell 0
  clear hAt
  have l2b : bl < w.heap.size + 1 + 1 := by omega
  clear hW hbW hWs hbk0 hbk1 hbk2 hbk3 hp hr hs hl hA hc hnt ok r10 r20  d9  hA0
  dsimp only [plantA, refA, SysA]
  subst hm1
  go_enter Tryz.func144, Tryz.ntmps144
  go_upto_region 2 with (fail)
  rw [← HWx.out]
  go_wp2_with fail
  go_quiet (fail)
  obtain ⟨W9, hW9⟩ : ∃ W9, W9 = W0.drewN nq := ⟨_, rfl⟩
  rw [← hW9]
  have HS9 : Hid (StR w x 4 (carEx sA sc ⟨(-1), (dn : Int), flow, false, vs⟩) W9 S) := Lib.hid (HS0.out.later (by rw [hW9]; exact below_drewN (Below.refl _ _) _))
  clear x0 x1 x2 x3 hW9
  obtain ⟨x0, x1, x2, x3⟩ := HL.out W9 _ HS9.out
  go_wp2_with fail
  clear c0  d9' x0 x1 x2 x3 l0 l1 l2 l3 l4
  obtain ⟨x0, x1, x2, x3⟩ := HL.out W9 _ HS9.out
  obtain ⟨b1, o1, c1, hc1, hv1, hcall1⟩ := HS9.out.upd (k := 0) (n := S.p.tanks.length) (idx := dn) (by omega) rfl hdn hcn (fun j => (S.tank j).content) (fun _ => rfl)
  have HCL1 := Lib.hid (hcall1 ((S.tank dn).content + m2) (addN S false dn m2) rfl (valR_addCon S dn m2) (fun j => addCon_val S dn m2 j))
  have hwd : IntKind.i64.wrap ((S.tank dn).content + m2) = (S.tank dn).content + m2 := IntWalk.i64_in _ (by omega)
  clear hcall1
  go_still_tail 12, (by kernel_rfl)
  go_wp2_with (go_at_call 113; refine HCL1.out.mono ?_; rintro e w1 ⟨A1, C1, rfl, hb1, hcell1, hfr1, hst1⟩; clear x0 x1 x2 x3 hc1 hv1 HCL1; obtain ⟨x0, x1, x2, x3⟩ := HL.out w1 _ (HS9.out.later hb1))
  obtain ⟨W1, hW1⟩ : ∃ W1, W1 = w1.setCell ⟨w.heap.size + 1, 0, none⟩ (.slice A1 S.p.tanks.length C1) := ⟨_, rfl⟩
  rw [← hW1] at hst1 ⊢
  have HS1 := Lib.hid hst1
  clear hst1 hW1 hcell1 hfr1 hb1 x0 x1 x2 x3
  obtain ⟨b2, o2, c2, hc2, hv2, hcall2⟩ := HS1.out.upd (k := 6) (n := S.p.lines.length) (idx := i) (by omega) rfl hi hln (fun j => S.carried j) (fun _ => rfl)
  have HCL2 := Lib.hid (hcall2 (wrap64 (S.carried i + m2)) ((addN S false dn m2).setC i (wrap64 (S.carried i + m2))) rfl (valR_setC (addN S false dn m2) i _) (fun j => rfl))
  clear hcall2
  go_still_tail 10, (by kernel_rfl)
  go_wp2_with (first | (go_at_call 113; refine HCL2.out.mono ?_; rintro e w1 ⟨A2, C2, rfl, hb2, hcell2, hfr2, hst2⟩; clear hc2 hv2 HCL2; have HST := Lib.hid hst2; clear hst2; obtain ⟨R4, r14, r24⟩ := HST.out.st; have HR14 := Lib.hid r14; have HR24 := Lib.hid r24; clear r14 r24) |
    (refine wpLoadAt rfl 53 _ rfl (w.heap.size + 1) 0 rfl (refA R4 S.p.tanks.length S.p.valves.length S.p.lines.length) _ (fun j u hj => by rw [Nat.zero_add]; exact (HR14.out.cell j).trans hj) und_state rfl info_state ?_) |
    (refine wpStoreAt rfl rfl 53 _ _ rfl (w.heap.size + 1 + 1) 0 rfl (refA R4 S.p.tanks.length S.p.valves.length S.p.lines.length) rfl 53 _ (HST.out.ex (2, 53, refA nilR 0 0 0) (by simp [carEx])).2.2 (by show 0 + 9 ≤ 9; omega) (refA_one _ _ _ _) info_state ?_; intro wf hkf hof))
  refine bodyPost_ret (results_cellS rfl _ _ (w.heap.size + 1 + 1) 53 (refA R4 S.p.tanks.length S.p.valves.length S.p.lines.length) _ rfl (by rw [splA_all _ _ (by rw [refA_size, refA_size])] at hkf; exact hkf) und_state rfl info_state) rfl ?_
  exact ⟨R4, rfl, (HR24.out.only hof (by omega) (by omega)).at_, HST.out.below.trans (hof.below (by omega))⟩
end Go.Proofs.YtogobjmmgjfjjaaGreat
/- What is proved: a contract of ullageref07.carry. Conditions: the plant and the state lie in memory; the state is a system's. -/
namespace Go.Proofs.YtogobjmmgjfjjaaGreat
open Go.RowKit

theorem short_of {p : PlantD} (h : plantB p = true) : Short p := by
  have := plantB_lens h
  exact ⟨by omega, by omega, by omega⟩
set_option maxRecDepth 100000 in
theorem refCarry_any [Exc] (w : World) (x : PV) (R : RX) (S : Sys) (hp : PlantAt w w.heap.size x S.p) (hr : RefAt w w.heap.size R S) (ok : SysOk S) (i : Nat) (hi : i < S.p.lines.length) :
    Calls Tryz.prog 144 #[.agg (plantA x S.p), .agg (SysA R S), .int .i64 i] w (RefOne w (carryB S i)) := by
  obtain ⟨u1, u2, u3, u4, u5, u6, hs, hd, us, ud, une, uf1, uf2⟩ := much_ok ok i hi
  have hF : carryB S i = { flowB S (S.p.line i) with carried := fun k => if k = i then wrap64 (S.carried i + much2 S (S.p.line i)) else S.carried k } := rfl
  have hm1 : much1 S (S.p.line i) = if 0 ≤ (S.p.line i).src then min (S.p.line i).flow (numB S (S.p.line i).gas (S.p.line i).src.toNat) else (S.p.line i).flow := rfl
  have hm2 : much2 S (S.p.line i) = if 0 ≤ (S.p.line i).dst then min (much1 S (S.p.line i)) (mostB S (S.p.line i).gas (S.p.line i).dst.toNat - numB S (S.p.line i).gas (S.p.line i).dst.toNat) else much1 S (S.p.line i) := rfl
  have hfl : flowB S (S.p.line i) = (if 0 ≤ (S.p.line i).src then addN (if 0 ≤ (S.p.line i).dst then addN S (S.p.line i).gas (S.p.line i).dst.toNat (much2 S (S.p.line i)) else S) (S.p.line i).gas (S.p.line i).src.toNat (-(much2 S (S.p.line i))) else (if 0 ≤ (S.p.line i).dst then addN S (S.p.line i).gas (S.p.line i).dst.toNat (much2 S (S.p.line i)) else S)) := rfl
  have H : CarryPre w x R S i (x.iA i) (x.ic i) (S.p.line i) := ⟨hp, hr, ok, hi, short_of ok.valid, rfl, rfl, rfl⟩
  generalize much2 S (S.p.line i) = m2 at *
  generalize much1 S (S.p.line i) = m1 at *
  generalize flowB S (S.p.line i) = SF at *
  generalize S.p.line i = L at *
  obtain ⟨src, dst, flow, gas, vs⟩ := L
  simp only at *
  rw [hF, hfl]
  by_cases hsrc : 0 ≤ src
  · obtain ⟨sn, rfl⟩ := Int.eq_ofNat_of_zero_le hsrc
    simp only [Int.toNat_natCast, if_pos hsrc] at *
    have u5' := u5 hsrc
    by_cases hdst : 0 ≤ dst
    · obtain ⟨dn, rfl⟩ := Int.eq_ofNat_of_zero_le hdst
      simp only [Int.toNat_natCast, if_pos hdst] at *
      have u6' := u6 hdst
      have hsd : sn ≠ dn := by omega
      rw [← addN_comm S gas sn dn (-m2) m2 hsd]
      cases gas
      · exact refCarry_falseSD w x R S i sn dn flow vs _ _ H m1 m2 (by rw [hm1, min_go]; rfl) (by rw [hm2, min_go]; rfl) (by omega) hsd hs (by have k5 : m1 ≤ (S.tank sn).content := u5'; omega) hd (by have k6 : m2 ≤ (S.p.tank dn).room - (S.tank dn).content := u6'; omega)
      · exact refCarry_trueSD w x R S i sn dn flow vs _ _ H m1 m2 (by rw [hm1, min_go]; rfl) (by rw [hm2, min_go]; rfl) (by omega) hsd hs (by have k5 : m1 ≤ (S.tank sn).gas := u5'; omega) hd (by have k6 : m2 ≤ 1073741824 - (S.tank dn).gas := u6'; omega)
    · have hdst' : dst = -1 := by omega
      subst hdst'
      simp only [if_neg hdst] at *
      cases gas
      · exact refCarry_falseSN w x R S i sn flow vs _ _ H m1 m2 (by rw [hm1, min_go]; rfl) hm2.symm (by omega) hs (by have k5 : m1 ≤ (S.tank sn).content := u5'; omega)
      · exact refCarry_trueSN w x R S i sn flow vs _ _ H m1 m2 (by rw [hm1, min_go]; rfl) hm2.symm (by omega) hs (by have k5 : m1 ≤ (S.tank sn).gas := u5'; omega)
  · have hsrc' : src = -1 := by omega
    subst hsrc'
    simp only [if_neg hsrc] at *
    have hdst : 0 ≤ dst := by omega
    obtain ⟨dn, rfl⟩ := Int.eq_ofNat_of_zero_le hdst
    simp only [Int.toNat_natCast, if_pos hdst] at *
    have u6' := u6 hdst
    cases gas
    · exact refCarry_falseND w x R S i dn flow vs _ _ H m1 m2 hm1.symm (by rw [hm2, min_go]; rfl) (by omega) hd (by have k6 : m2 ≤ (S.p.tank dn).room - (S.tank dn).content := u6'; omega)
    · exact refCarry_trueND w x R S i dn flow vs _ _ H m1 m2 hm1.symm (by rw [hm2, min_go]; rfl) (by omega) hd (by have k6 : m2 ≤ 1073741824 - (S.tank dn).gas := u6'; omega)
end Go.Proofs.YtogobjmmgjfjjaaGreat
/- What is proved: all leaks and then all vents is each tank's leak and vent in turn; how a whole state is stored into its box. Conditions: those that each lemma states. -/
namespace Go.Proofs.YtogobjmmgjfjjaaGreat
open Go.RowKit

def leaksK (S : Sys) : Nat → Sys
  | 0 => S
  | k + 1 => leakS (leaksK S k) k
def ventsK (S : Sys) : Nat → Sys
  | 0 => S
  | k + 1 => ventS (ventsK S k) k
theorem leaksK_p (S : Sys) (k : Nat) : (leaksK S k).p = S.p := by
  induction k with
  | zero => rfl
  | succ k ih => exact ih
theorem ventsK_p (S : Sys) (k : Nat) : (ventsK S k).p = S.p := by
  induction k with
  | zero => rfl
  | succ k ih => exact ih
theorem setT_far (S : Sys) (i j : Nat) (t : TankS) (h : j ≠ i) : (S.setT i t).tank j = S.tank j := by unfold Sys.setT; simp [h]
theorem setT_comm (S : Sys) (i j : Nat) (a b : TankS) (h : i ≠ j) : (S.setT i a).setT j b = (S.setT j b).setT i a := by
  unfold Sys.setT
  simp only [Sys.mk.injEq, true_and, and_true]
  funext k
  by_cases e1 : k = j
  · subst e1; simp [Ne.symm h]
  · by_cases e2 : k = i
    · subst e2; simp [h]
    · simp [e1, e2]
theorem leak_vent (S : Sys) (i j : Nat) (h : i ≠ j) : leakS (ventS S j) i = ventS (leakS S i) j := by
  have h1 : (ventS S j).tank i = S.tank i := setT_far S j i _ h
  have h2 : (leakS S i).tank j = S.tank j := setT_far S i j _ (Ne.symm h)
  have e1 : lostB (ventS S j) i = lostB S i := by unfold lostB; rw [h1]
  have e2 : ventB (leakS S i) j = ventB S j := by
    unfold ventB roomB
    rw [h2]
    rfl
  conv => lhs; unfold leakS
  conv => rhs; unfold ventS
  rw [h1, e1, h2, e2]
  unfold ventS leakS
  exact setT_comm S j i _ _ (Ne.symm h)
theorem leak_vents (S : Sys) (i : Nat) : ∀ k, k ≤ i → leakS (ventsK S k) i = ventsK (leakS S i) k
  | 0, _ => rfl
  | k + 1, h => by
    unfold ventsK
    rw [leak_vent _ _ _ (by omega), leak_vents S i k (by omega)]
theorem tanksK_eq (S : Sys) : ∀ k, tanksK S k = ventsK (leaksK S k) k
  | 0 => rfl
  | k + 1 => by
    unfold tanksK
    rw [tanksK_eq S k, leak_vents _ _ _ (Nat.le_refl _)]
    rfl
theorem SysOk.carry {S : Sys} (ok : SysOk S) (i : Nat) (hi : i < S.p.lines.length) : SysOk (carryB S i) := by
  obtain ⟨u1, u2, u3, u4, u5, u6, hs, hd, us, ud, une, uf1, uf2⟩ := much_ok ok i hi
  have key : SysOk (flowB S (S.p.line i)) := by
    unfold flowB
    simp only
    generalize much2 S (S.p.line i) = m2 at *
    generalize much1 S (S.p.line i) = m1 at *
    generalize S.p.line i = L at *
    by_cases h1 : 0 ≤ L.dst
    · rw [if_pos h1]
      have h6 := u6 h1
      have b2 := numB_ok ok L.gas L.dst.toNat hd
      have ok1 := addN_ok ok L.gas L.dst.toNat hd m2 (by omega) (by omega)
      by_cases h2 : 0 ≤ L.src
      · rw [if_pos h2]
        have h5 := u5 h2
        have b1 := numB_ok ok L.gas L.src.toNat hs
        have e : numB (addN S L.gas L.dst.toNat m2) L.gas L.src.toNat = numB S L.gas L.src.toNat := by rw [addN_num, if_neg (by omega)]
        exact addN_ok ok1 L.gas L.src.toNat hs (-m2) (by rw [e]; omega) (by rw [e]; show _ ≤ mostB S _ _; omega)
      · rw [if_neg h2]; exact ok1
    · rw [if_neg h1]
      by_cases h2 : 0 ≤ L.src
      · rw [if_pos h2]
        have h5 := u5 h2
        have b1 := numB_ok ok L.gas L.src.toNat hs
        exact addN_ok ok L.gas L.src.toNat hs (-m2) (by omega) (by omega)
      · rw [if_neg h2]; exact ok
  exact ⟨key.valid, key.spots, key.safe, key.tanks⟩
theorem SysOk.move {S : Sys} (ok : SysOk S) : SysOk S.move := ⟨ok.valid, movedB_ok ok.spots _, safeB_moved _ ok.safe, ok.tanks⟩
theorem SysOk.linesK {S : Sys} (ok : SysOk S) : ∀ k, k ≤ S.p.lines.length → SysOk (linesK S k)
  | 0, _ => ok
  | k + 1, h => by
    have ih := SysOk.linesK ok k (by omega)
    unfold Go.Proofs.YtogobjmmgjfjjaaGreat.linesK
    split
    · exact ih.carry k (by rw [linesK_p]; omega)
    · exact ih
theorem SysOk.leaksK {S : Sys} (ok : SysOk S) : ∀ k, k ≤ S.p.tanks.length → SysOk (leaksK S k)
  | 0, _ => ok
  | k + 1, h => (SysOk.leaksK ok k (by omega)).leakS k (by rw [leaksK_p]; omega)
theorem SysOk.ventsK {S : Sys} (ok : SysOk S) : ∀ k, k ≤ S.p.tanks.length → SysOk (ventsK S k)
  | 0, _ => ok
  | k + 1, h => (SysOk.ventsK ok k (by omega)).ventS k (by rw [ventsK_p]; omega)

theorem valR_kind (S : Sys) (k i : Nat) : (∃ n, valR S k i = .int .i64 n) ∨ ∃ b, valR S k i = .bool b := by
  match k with
  | 0 => exact .inl ⟨_, rfl⟩
  | 1 => exact .inl ⟨_, rfl⟩
  | 2 => exact .inl ⟨_, rfl⟩
  | 3 => exact .inr ⟨_, rfl⟩
  | 4 => exact .inr ⟨_, rfl⟩
  | 5 => exact .inl ⟨_, rfl⟩
  | 6 => exact .inl ⟨_, rfl⟩
  | 7 => exact .inl ⟨_, rfl⟩
  | n + 8 => exact .inl ⟨_, rfl⟩
/-- The boxes hold slices alone: no list of numbers lies in one. -/
theorem RefAt.refB [Exc] {w1 : World} {lo q : Nat} {R : RX} {S' : Sys} (h : RefAt w1 w1.heap.size R S') (ht : Exc.top ≤ lo + q) (hbox : ∀ b, lo ≤ b → b < lo + q → ∀ j u, w1.cell? ⟨b, j, none⟩ = some u → ∃ A n c, u = .slice A n c) : RefB w1 lo (lo + q) R S' := ⟨ht, fun k hk => by
  have hk' := (h k hk).sl
  refine ⟨⟨hk'.1, fun h0 => ?_⟩, (h k hk).top, (h k hk).out⟩
  obtain ⟨b, off, e, hB, hc⟩ := hk'.2 h0
  refine ⟨b, off, e, ⟨?_, hB⟩, hc⟩
  rcases Nat.lt_or_ge b lo with h1 | h1
  · exact Or.inl h1
  · rcases Nat.lt_or_ge b (lo + q) with h2 | h2
    · exfalso
      obtain ⟨A, n, c, e2⟩ := hbox b h1 h2 _ _ (hc 0 h0 0 (by omega))
      have e2' : valR S' k 0 = .slice A n c := e2
      rcases valR_kind S' k 0 with ⟨m, e3⟩ | ⟨m, e3⟩ <;> (rw [e3] at e2'; cases e2')
    · exact Or.inr h2⟩
theorem plantA_slices (x : PV) (p : PlantD) : ∀ (j : Nat) u, (plantA x p)[j]? = some u → ∃ A n c, u = .slice A n c := by
  intro j u h
  match j with
  | 0 => simp [plantA] at h; exact ⟨_, _, _, h.symm⟩
  | 1 => simp [plantA] at h; exact ⟨_, _, _, h.symm⟩
  | 2 => simp [plantA] at h; exact ⟨_, _, _, h.symm⟩
  | 3 => simp [plantA] at h; exact ⟨_, _, _, h.symm⟩
  | j + 4 => simp [plantA] at h
theorem refA_slices (R : RX) (a b c : Nat) : ∀ (j : Nat) u, (refA R a b c)[j]? = some u → ∃ A n c, u = .slice A n c := by
  intro j u h
  match j with
  | 0 => simp [refA] at h; exact ⟨_, _, _, h.symm⟩
  | 1 => simp [refA] at h; exact ⟨_, _, _, h.symm⟩
  | 2 => simp [refA] at h; exact ⟨_, _, _, h.symm⟩
  | 3 => simp [refA] at h; exact ⟨_, _, _, h.symm⟩
  | 4 => simp [refA] at h; exact ⟨_, _, _, h.symm⟩
  | 5 => simp [refA] at h; exact ⟨_, _, _, h.symm⟩
  | 6 => simp [refA] at h; exact ⟨_, _, _, h.symm⟩
  | 7 => simp [refA] at h; exact ⟨_, _, _, h.symm⟩
  | 8 => simp [refA] at h; exact ⟨_, _, _, h.symm⟩
  | j + 9 => simp [refA] at h
/-- The one box besides, of a function that hands back a state. -/
def resEx : List (Nat × TypeId × Array Value) := [(2, 53, refA nilR 0 0 0)]
theorem StR.store [Exc] {w W w1 wf : World} {x : PV} {S1 S2 : Sys} {R' : RX} (h : StR w x 3 resEx W S1) (hb : Below W.heap.size W w1) (hr : RefAt w1 w1.heap.size R' S2) (hp : S2.p = S1.p)
    (hk : Bk wf (w.heap.size + 1) 53 (SysA R' S2)) (ho : Only (w.heap.size + 1) w1 wf) : StR w x 3 resEx wf S2 := by
  have h1 := h.later hb
  obtain ⟨R, r1, r2⟩ := h1.st
  have he := (h1.ex (2, 53, refA nilR 0 0 0) (by simp [resEx])).2.2
  have hs := h1.size
  have hB : RefB w1 w.heap.size (w.heap.size + 3) R' S2 := hr.refB r2.1 fun b g1 g2 j u hu => by
    have hcase : b = w.heap.size ∨ b = w.heap.size + 1 ∨ b = w.heap.size + 2 := by omega
    rcases hcase with rfl | rfl | rfl
    · rw [h1.pl.cell] at hu; exact plantA_slices _ _ _ _ hu
    · rw [r1.cell] at hu; exact refA_slices _ _ _ _ _ _ hu
    · rw [he.cell] at hu; exact refA_slices _ _ _ _ _ _ hu
  refine ⟨⟨R', hk, hB.only ho (by omega) (by omega)⟩, ?_, fun e hin => ?_, ?_, h1.below.trans (ho.below (by omega)), by rw [ho.size]; exact hs, h.two⟩
  · rw [hp]; exact h1.pl.only ho (by omega)
  · obtain ⟨e1, e2, e3⟩ := h1.ex e hin
    exact ⟨e1, e2, e3.only ho (by omega)⟩
  · rw [hp]; exact h1.plant.below (ho.below (by omega))
theorem StR.start [Exc] {w : World} {x : PV} {R : RX} {S : Sys} (hp : PlantAt w w.heap.size x S.p) (hr : RefAt w w.heap.size R S) {W0 : World} (hW : W0 = ((w.alloc (.cells (plantA x S.p) 27)).alloc (.cells (SysA R S) 53)).alloc (.cells (refA nilR 0 0 0) 53)) : StR w x 3 resEx W0 S := by
  have hbW : Below w.heap.size w W0 := by rw [hW]; exact (((Below.refl _ _).alloc (Nat.le_refl _) _).alloc (by simp) _).alloc (by simp; omega) _
  have hWs : W0.heap.size = w.heap.size + 3 := by rw [hW]; simp
  have hbk0 : Bk W0 w.heap.size 27 (plantA x S.p) := by rw [hW]; exact ((Bk.new _ _ _).alloc _).alloc _
  have hbk1 : Bk W0 (w.heap.size + 1) 53 (SysA R S) := by rw [hW]; exact (Bk.newAt _ _ _ _ (by simp)).alloc _
  have hbk2 : Bk W0 (w.heap.size + 2) 53 (refA nilR 0 0 0) := by rw [hW]; exact Bk.newAt _ _ _ _ (by simp)
  exact ⟨⟨R, hbk1, RefB.start hr hbW hWs⟩, hbk0, fun e he => by
    simp only [resEx, List.mem_cons, List.not_mem_nil, or_false] at he
    subst he
    exact ⟨by show 2 ≠ 1; omega, by show 2 < 3; omega, hbk2⟩, hp.below hbW, hbW, by omega, by omega⟩
end Go.Proofs.YtogobjmmgjfjjaaGreat
/- What is proved: a contract of ullageref07.Tick. Conditions: the plant and the state lie in memory; the state is a system's. -/
namespace Go.Proofs.YtogobjmmgjfjjaaGreat
open Go.RowKit

theorem setT_self (S : Sys) (t : Nat) : S.setT t (S.tank t) = S := by
  unfold Sys.setT
  have : (fun k => if k = t then S.tank t else S.tank k) = S.tank := by funext k; split <;> simp_all
  rw [this]
theorem valR_T (S : Sys) (t : Nat) (T2 T3 : TankS) (k0 : Nat) (h0 : 0 ≠ k0 → T3.content = T2.content) (h1 : 1 ≠ k0 → T3.gas = T2.gas) (h5 : 5 ≠ k0 → T3.leak = T2.leak) (h7 : 7 ≠ k0 → T3.lost = T2.lost) (h8 : 8 ≠ k0 → T3.vented = T2.vented) :
    ∀ j, j < 9 → j ≠ k0 → ∀ i, valR (S.setT t T3) j i = valR (S.setT t T2) j i := by
  intro j hj hne i
  match j, hj, hne with
  | 0, _, hne => simp only [valR, setT_at]; split <;> simp_all
  | 1, _, hne => simp only [valR, setT_at]; split <;> simp_all
  | 2, _, _ => rfl
  | 3, _, _ => rfl
  | 4, _, _ => rfl
  | 5, _, hne => simp only [valR, setT_at]; split <;> simp_all
  | 6, _, _ => rfl
  | 7, _, hne => simp only [valR, setT_at]; split <;> simp_all
  | 8, _, hne => simp only [valR, setT_at]; split <;> simp_all
theorem valR_T1 (S : Sys) (t : Nat) (T3 : TankS) (k0 : Nat) (h0 : 0 ≠ k0 → T3.content = (S.tank t).content) (h1 : 1 ≠ k0 → T3.gas = (S.tank t).gas) (h5 : 5 ≠ k0 → T3.leak = (S.tank t).leak) (h7 : 7 ≠ k0 → T3.lost = (S.tank t).lost) (h8 : 8 ≠ k0 → T3.vented = (S.tank t).vented) :
    ∀ j, j < 9 → j ≠ k0 → ∀ i, valR (S.setT t T3) j i = valR S j i := by
  have := valR_T S t (S.tank t) T3 k0 h0 h1 h5 h7 h8
  rwa [setT_self] at this
theorem StR.look [Exc] {w wr : World} {x : PV} {q : Nat} {Ex : List (Nat × TypeId × Array Value)} {S1 : Sys} {k n idx : Nat} (h : StR w x q Ex wr S1) (hk : k < 9) (hn : lenR S1.p k = n) (hidx : idx < n) :
    ∃ b o c, wr.cell? ⟨w.heap.size + 1, k, none⟩ = some (.slice (some ⟨b, o, none⟩) n c) ∧ wr.cell? ⟨b, o + idx, none⟩ = some (valR S1 k idx) := by
  subst hn
  obtain ⟨R, h1, h2⟩ := h.st
  obtain ⟨b, o, hA, hB, hd⟩ := (h2.at_ k hk).at1v hidx
  exact ⟨b, o, R.c k, by rw [← hA]; exact (h1.cell k).trans (SysA_get R S1 k hk), hd⟩
set_option maxRecDepth 100000 in
set_option maxHeartbeats 8000000 in
theorem refTick_any [Exc] (w : World) (x : PV) (R : RX) (S : Sys) (hp : PlantAt w w.heap.size x S.p) (hr : RefAt w w.heap.size R S) (ok : SysOk S) :
    Calls Tryz.prog 83 #[.agg (plantA x S.p), .agg (SysA R S)] w (RefOne w (tickB S)) := by
  obtain ⟨W0, hW⟩ : ∃ W0, W0 = ((w.alloc (.cells (plantA x S.p) 27)).alloc (.cells (SysA R S) 53)).alloc (.cells (refA nilR 0 0 0) 53) := ⟨_, rfl⟩
  have hbW : Below w.heap.size w W0 := by rw [hW]; exact (((Below.refl _ _).alloc (Nat.le_refl _) _).alloc (by simp) _).alloc (by simp; omega) _
  have HS0 := Lib.hid (StR.start hp hr hW)
  have HM := Lib.hid (refMoved_any W0 x R S ((hp.below hbW).mono hbW.size) ((hr.below hbW).mono hbW.size) (plantOk_valves ok.valid) ok.spots)
  have HBK1 : Hid (Bk W0 (w.heap.size + 1) 53 (SysA R S)) := Lib.hid (by rw [hW]; exact (Bk.newAt _ _ _ _ (by simp)).alloc _)
  have HP0 := Lib.hid HS0.out.pl
  have HOK := Lib.hid ok
  have HTK := Lib.hid (show tickB S = ventsK (leaksK (linesK S.move S.p.lines.length) S.p.tanks.length) S.p.tanks.length by unfold tickB; exact tanksK_eq _ _)
  have hlen := plantB_lens ok.valid
  obtain ⟨nt, hnt⟩ : ∃ n, S.p.tanks.length = n := ⟨_, rfl⟩
  obtain ⟨nl, hnl⟩ : ∃ n, S.p.lines.length = n := ⟨_, rfl⟩
  obtain ⟨nv, hnv⟩ : ∃ n, S.p.valves.length = n := ⟨_, rfl⟩
  have HWx := Lib.hid hW
  simp only [plantA, refA, SysA, nilR, hnt, hnl, hnv] at HWx
  dsimp only [plantA, refA, SysA]
  rw [hnt, hnl, hnv]
  rw [hnt, hnl] at HTK
  rw [hnt, hnl, hnv] at hlen
  have HNT := Lib.hid hnt
  have HNL := Lib.hid hnl
  have HNV := Lib.hid hnv
  -- what the boxes hold, for whatever state of this plant
  have HC : Hid (∀ wx S1, S1.p = S.p → StR w x 3 resEx wx S1 → wx.cell? ⟨w.heap.size, 0, none⟩ = some (.slice x.tA nt x.tc) ∧ wx.cell? ⟨w.heap.size, 1, none⟩ = some (.slice x.vA nv x.vc) ∧ wx.cell? ⟨w.heap.size, 2, none⟩ = some (.slice x.lA nl x.lc) ∧ wx.cell? ⟨w.heap.size, 3, none⟩ = some (.slice x.nA S.p.never.length x.nc)) := Lib.hid fun wx S1 hp1 h => by
    have hpl := h.pl
    rw [hp1] at hpl
    rw [← HNT.out, ← HNL.out, ← HNV.out]
    exact ⟨hpl.cell 0, hpl.cell 1, hpl.cell 2, hpl.cell 3⟩
  clear hW hbW hp hr ok hnt hnl hnv
  simp only [plantA, refA, SysA] at HM
  rw [HNT.out, HNL.out, HNV.out] at HM
  go_enter Tryz.func83, Tryz.ntmps83
  go_upto_region 1 with (fail)
  rw [← HWx.out]
  obtain ⟨p0, p1, p2, p3⟩ := HC.out W0 S rfl HS0.out
  have s0 : W0.cell? ⟨w.heap.size + 1, 0, none⟩ = some (.slice (R.a 0) nt (R.c 0)) := by rw [← HNT.out]; exact HBK1.out.cell 0
  have s1 : W0.cell? ⟨w.heap.size + 1, 1, none⟩ = some (.slice (R.a 1) nt (R.c 1)) := by rw [← HNT.out]; exact HBK1.out.cell 1
  have s2 : W0.cell? ⟨w.heap.size + 1, 2, none⟩ = some (.slice (R.a 2) nv (R.c 2)) := by rw [← HNV.out]; exact HBK1.out.cell 2
  have s3 : W0.cell? ⟨w.heap.size + 1, 3, none⟩ = some (.slice (R.a 3) nv (R.c 3)) := by rw [← HNV.out]; exact HBK1.out.cell 3
  have s4 : W0.cell? ⟨w.heap.size + 1, 4, none⟩ = some (.slice (R.a 4) nv (R.c 4)) := by rw [← HNV.out]; exact HBK1.out.cell 4
  have s5 : W0.cell? ⟨w.heap.size + 1, 5, none⟩ = some (.slice (R.a 5) nt (R.c 5)) := by rw [← HNT.out]; exact HBK1.out.cell 5
  have s6 : W0.cell? ⟨w.heap.size + 1, 6, none⟩ = some (.slice (R.a 6) nl (R.c 6)) := by rw [← HNL.out]; exact HBK1.out.cell 6
  have s7 : W0.cell? ⟨w.heap.size + 1, 7, none⟩ = some (.slice (R.a 7) nt (R.c 7)) := by rw [← HNT.out]; exact HBK1.out.cell 7
  have s8 : W0.cell? ⟨w.heap.size + 1, 8, none⟩ = some (.slice (R.a 8) nt (R.c 8)) := by rw [← HNT.out]; exact HBK1.out.cell 8
  go_wp2_with (first | (go_at_call 46; refine HM.out.mono ?_; rintro e w1 ⟨R1, rfl, hr1, hb1⟩; have HR1 := Lib.hid hr1; have HB1 := Lib.hid hb1; have HBK := Lib.hid (HBK1.out.below hb1 HBK1.out.lt); clear hr1 hb1 s0 s1 s2 s3 s4 s5 s6 s7 s8 p0 p1 p2 p3; simp only [SysA, refA, HNT.out, HNL.out, HNV.out]) |
    (refine wpStoreAt rfl rfl 53 _ _ rfl (w.heap.size + 1) 0 rfl (refA R1 nt nv nl) rfl 53 _ HBK.out (by show 0 + 9 ≤ 9; omega) (refA_one _ _ _ _) info_state ?_; intro wf hkf hof; clear HM HBK1 HP0))
  have HS1 : Hid (StR w x 3 resEx wf (linesK S.move 0)) := Lib.hid (HS0.out.store HB1.out HR1.out rfl (by
    rw [splA_all _ _ (by rw [refA_size, refA_size])] at hkf
    show Bk wf _ _ (refA R1 S.p.tanks.length S.p.valves.length S.p.lines.length)
    rw [HNT.out, HNV.out, HNL.out]; exact hkf) hof)
  clear hkf hof HR1 HB1 HBK HS0
  have HOM := Lib.hid HOK.out.move
  go_loopw [5] (fun i wr => ∃ k : Nat, k ≤ nl ∧ i = .int .i64 k ∧ Hid (StR w x 3 resEx wr (linesK S.move k))) (fun i _ => nl - (intOf i).toNat)
  case atStart => exact ⟨0, Nat.zero_le _, rfl, HS1⟩
  case round =>
    clear HS1
    obtain ⟨k, hk, rfl, hS⟩ := hrel
    have hp1 : (linesK S.move k).p = S.p := linesK_p S.move k
    obtain ⟨p0, p1, p2, p3⟩ := HC.out wr _ hp1 hS.out
    by_cases hlt : k < nl
    · have hki : (k : Int) < (nl : Int) := by omega
      have h0i : (0 : Int) ≤ (k : Int) := by omega
      have hsucc := Lib.hid (show linesK S.move (k + 1) = if openB (linesK S.move k) (S.move.p.line k) then carryB (linesK S.move k) k else linesK S.move k from rfl)
      have hok1 := HOM.out.linesK k (by show k ≤ S.p.lines.length; rw [HNL.out]; omega)
      obtain ⟨S1, hS1⟩ : ∃ S1, S1 = linesK S.move k := ⟨_, rfl⟩
      rw [← hS1] at hS hp1 hsucc hok1
      clear hS1
      obtain ⟨R', r1, r2⟩ := hS.out.st
      have hkl : k < S1.p.lines.length := by rw [hp1, HNL.out]; exact hlt
      have hpl := hS.out.plant
      obtain ⟨bl, ol, hAl, hBl, l0, l1, l2, l3, l4⟩ := hpl.lines.at5 hkl
      simp only [lineC] at l0 l1 l2 l3 l4
      have hLI := hpl.lv k hkl
      have hLO := lineOk_of hok1.valid k hkl
      rw [show S1.p.line k = S.p.line k from by rw [hp1]] at l0 l1 l2 l3 l4 hLI hLO
      rw [hAl] at p2
      have hvv : ∀ j, j < (S.p.line k).valves.length → 0 ≤ (S.p.line k).valves.getD j 0 ∧ (S.p.line k).valves.getD j 0 < S1.p.valves.length := fun j hj => by
        unfold lineOk at hLO
        simp only [Bool.and_eq_true] at hLO
        have := inB_iff.1 (allN_iff.1 hLO.2 j hj)
        omega
      have hwz := hS.out.size
      have HO : ∀ bb, openB S1 (S.p.line k) = bb → Hid (∀ z : Ext wr, Calls Tryz.prog 143 #[.agg (plantA x S1.p), .agg (SysA R' S1), .agg (lineA (x.iA k) (x.ic k) (S.p.line k))] z.w fun e w' => e = .returned (.bool bb) ∧ Below z.w.heap.size z.w w') := fun bb hbb => Lib.hid fun z => by
        rw [← hbb]
        exact refOpen_any z.w x R' S1 ((hpl.below (z.h.mono (by omega))).mono (by have := z.h.size; omega)) (r2.at_.below z.h |>.mono z.h.size) _ _ _ (Sl.mono (Sl.below hLI (z.h.mono (by omega))) (by have := z.h.size; omega)) hvv
      have HCA : Hid (∀ z : Ext wr, Calls Tryz.prog 144 #[.agg (plantA x S1.p), .agg (SysA R' S1), .int .i64 k] z.w (RefOne z.w (carryB S1 k))) := Lib.hid fun z =>
        refCarry_any z.w x R' S1 ((hpl.below (z.h.mono (by omega))).mono (by have := z.h.size; omega)) (r2.at_.below z.h |>.mono z.h.size) hok1 k hkl
      have s0 : wr.cell? ⟨w.heap.size + 1, 0, none⟩ = some (.slice (R'.a 0) nt (R'.c 0)) := by rw [← HNT.out, ← hp1]; exact r1.cell 0
      have s1 : wr.cell? ⟨w.heap.size + 1, 1, none⟩ = some (.slice (R'.a 1) nt (R'.c 1)) := by rw [← HNT.out, ← hp1]; exact r1.cell 1
      have s2 : wr.cell? ⟨w.heap.size + 1, 2, none⟩ = some (.slice (R'.a 2) nv (R'.c 2)) := by rw [← HNV.out, ← hp1]; exact r1.cell 2
      have s3 : wr.cell? ⟨w.heap.size + 1, 3, none⟩ = some (.slice (R'.a 3) nv (R'.c 3)) := by rw [← HNV.out, ← hp1]; exact r1.cell 3
      have s4 : wr.cell? ⟨w.heap.size + 1, 4, none⟩ = some (.slice (R'.a 4) nv (R'.c 4)) := by rw [← HNV.out, ← hp1]; exact r1.cell 4
      have s5 : wr.cell? ⟨w.heap.size + 1, 5, none⟩ = some (.slice (R'.a 5) nt (R'.c 5)) := by rw [← HNT.out, ← hp1]; exact r1.cell 5
      have s6 : wr.cell? ⟨w.heap.size + 1, 6, none⟩ = some (.slice (R'.a 6) nl (R'.c 6)) := by rw [← HNL.out, ← hp1]; exact r1.cell 6
      have s7 : wr.cell? ⟨w.heap.size + 1, 7, none⟩ = some (.slice (R'.a 7) nt (R'.c 7)) := by rw [← HNT.out, ← hp1]; exact r1.cell 7
      have s8 : wr.cell? ⟨w.heap.size + 1, 8, none⟩ = some (.slice (R'.a 8) nt (R'.c 8)) := by rw [← HNT.out, ← hp1]; exact r1.cell 8
      have x_p0 := Ext.cell p0
      have x_p1 := Ext.cell p1
      have x_p2 := Ext.cell p2
      have x_p3 := Ext.cell p3
      have x_s0 := Ext.cell s0
      have x_s1 := Ext.cell s1
      have x_s2 := Ext.cell s2
      have x_s3 := Ext.cell s3
      have x_s4 := Ext.cell s4
      have x_s5 := Ext.cell s5
      have x_s6 := Ext.cell s6
      have x_s7 := Ext.cell s7
      have x_s8 := Ext.cell s8
      have x_l0 := Ext.cell l0
      have x_l1 := Ext.cell l1
      have x_l2 := Ext.cell l2
      have x_l3 := Ext.cell l3
      have x_l4 := Ext.cell l4
      have HR1 := Lib.hid r1
      have HP1 := Lib.hid hp1
      simp only [plantA, SysA, refA, lineA, hp1, HNT.out, HNL.out, HNV.out, hAl] at HO HCA
      clear r1 r2 hLI hLO hvv hpl hkl hok1 s0 s1 s2 s3 s4 s5 s6 s7 s8 l0 l1 l2 l3 l4 p0 p1 p3
      cases hq : openB S1 (S.p.line k) with
      | false =>
        have HQ := HO _ hq
        have HE := Lib.hid hq
        clear hq HO HCA
        go_wp2_with fail
        refine wp_region_ext_quiet (by kernel_rfl) (by kernel_rfl) ?_
        repeat (go_big_quiet_step ((go_at_call 143; exact Ext.calls (HQ.out _))))
        refine wpQuiet_nil ?_
        intro w1 hw1
        have HS2 : Hid (StR w x 3 resEx w1 (linesK S.move (k + 1))) := Lib.hid (by rw [hsucc.out, show S.move.p.line k = S.p.line k from rfl, HE.out]; exact hS.out.later hw1)
        clear hw1 x_p0 x_p1 x_p2 x_p3 x_s0 x_s1 x_s2 x_s3 x_s4 x_s5 x_s6 x_s7 x_s8 x_l0 x_l1 x_l2 x_l3 x_l4 p2
        go_wp2_with fail
        go_roundw
        case rel => exact ⟨k + 1, by omega, by go_num, HS2⟩
        case measure => simp [intOf]; omega
      | true =>
        have HQ := HO _ hq
        have HE := Lib.hid hq
        clear hq HO
        go_wp2_with fail
        refine wp_region_ext_quiet (by kernel_rfl) (by kernel_rfl) ?_
        repeat (go_big_quiet_step ((go_at_call 143; exact Ext.calls (HQ.out _))))
        refine wpQuiet_nil ?_
        intro w1 hw1
        have y_p0 := x_p0 ⟨w1, hw1⟩
        have y_p1 := x_p1 ⟨w1, hw1⟩
        have y_p2 := x_p2 ⟨w1, hw1⟩
        have y_p3 := x_p3 ⟨w1, hw1⟩
        have y_s0 := x_s0 ⟨w1, hw1⟩
        have y_s1 := x_s1 ⟨w1, hw1⟩
        have y_s2 := x_s2 ⟨w1, hw1⟩
        have y_s3 := x_s3 ⟨w1, hw1⟩
        have y_s4 := x_s4 ⟨w1, hw1⟩
        have y_s5 := x_s5 ⟨w1, hw1⟩
        have y_s6 := x_s6 ⟨w1, hw1⟩
        have y_s7 := x_s7 ⟨w1, hw1⟩
        have y_s8 := x_s8 ⟨w1, hw1⟩
        have HCB := Lib.hid (HCA.out ⟨w1, hw1⟩)
        have HW1 := Lib.hid hw1
        simp only at y_p0 y_p1 y_p2 y_p3 y_s0 y_s1 y_s2 y_s3 y_s4 y_s5 y_s6 y_s7 y_s8 HCB
        clear hw1 x_p0 x_p1 x_p2 x_p3 x_s0 x_s1 x_s2 x_s3 x_s4 x_s5 x_s6 x_s7 x_s8 x_l0 x_l1 x_l2 x_l3 x_l4 p2 HCA
        go_wp2_with (first | (go_at_call 144; refine HCB.out.mono ?_; rintro e w2 ⟨R2, rfl, hr2, hb2⟩; have HR2 := Lib.hid hr2; have HB2 := Lib.hid hb2; have HBK := Lib.hid ((HR1.out.below HW1.out HR1.out.lt).below hb2 (Nat.lt_of_lt_of_le HR1.out.lt HW1.out.size)); clear hr2 hb2 y_p0 y_p1 y_p2 y_p3 y_s0 y_s1 y_s2 y_s3 y_s4 y_s5 y_s6 y_s7 y_s8; simp only [SysA, refA, carryB_p, HP1.out, HNT.out, HNL.out, HNV.out]) |
          (refine wpStoreAt rfl rfl 53 _ _ rfl (w.heap.size + 1) 0 rfl (refA R2 nt nv nl) rfl 53 _ HBK.out (by show 0 + 9 ≤ 9; omega) (refA_one _ _ _ _) info_state ?_; intro wf2 hkf hof; have HS2 : Hid (StR w x 3 resEx wf2 (linesK S.move (k + 1))) := Lib.hid (by
            rw [hsucc.out, show S.move.p.line k = S.p.line k from rfl, HE.out]
            refine hS.out.store (HW1.out.trans (HB2.out.mono HW1.out.size)) HR2.out (carryB_p _ _) ?_ hof
            rw [splA_all _ _ (by rw [refA_size, refA_size])] at hkf
            show Bk wf2 _ _ (refA R2 (carryB S1 k).p.tanks.length (carryB S1 k).p.valves.length (carryB S1 k).p.lines.length)
            rw [carryB_p, HP1.out, HNT.out, HNV.out, HNL.out]; exact hkf)))
        go_roundw
        case rel => exact ⟨k + 1, by omega, by go_num, HS2⟩
        case measure => simp [intOf]; omega
    · obtain rfl : nl = k := by omega
      clear hlt hk
      have HSL := hS
      clear hS
      go_wp2_with fail
      obtain ⟨SL, hSL⟩ : ∃ SL, SL = linesK S.move nl := ⟨_, rfl⟩
      have HPL : Hid (SL.p = S.p) := Lib.hid (by rw [hSL]; exact linesK_p S.move nl)
      have HOL : Hid (SysOk SL) := Lib.hid (by rw [hSL]; exact HOM.out.linesK nl (by show nl ≤ S.p.lines.length; rw [HNL.out]; omega))
      rw [← hSL] at HSL HTK
      clear hSL p0 p1 p2 p3 hp1
      go_loopw [6] (fun i wr => ∃ k : Nat, k ≤ nt ∧ i = .int .i64 k ∧ Hid (StR w x 3 resEx wr (leaksK SL k))) (fun i _ => nt - (intOf i).toNat)
      case atStart => exact ⟨0, Nat.zero_le _, rfl, HSL⟩
      case round =>
        clear HSL
        obtain ⟨k, hk, rfl, hS⟩ := hrel
        have hp1 : (leaksK SL k).p = S.p := (leaksK_p _ _).trans HPL.out
        obtain ⟨p0, _, _, _⟩ := HC.out wr _ hp1 hS.out
        by_cases hlt : k < nt
        · have hki : (k : Int) < (nt : Int) := by omega
          have h0i : (0 : Int) ≤ (k : Int) := by omega
          have hsucc := Lib.hid (show leaksK SL (k + 1) = leakS (leaksK SL k) k from rfl)
          have hok1 := HOL.out.leaksK k (by rw [HPL.out, HNT.out]; omega)
          obtain ⟨S1, hS1⟩ : ∃ S1, S1 = leaksK SL k := ⟨_, rfl⟩
          rw [← hS1] at hS hp1 hsucc hok1
          clear hS1
          have hkl : k < S1.p.tanks.length := by rw [hp1, HNT.out]; exact hlt
          have HP1 := Lib.hid hp1
          obtain ⟨b50, o50, c50, qs50, qv50⟩ := hS.out.look (k := 5) (n := nt) (idx := k) (by omega) (by show S1.p.tanks.length = nt; rw [hp1, HNT.out]) hlt
          have qv50' : wr.cell? ⟨b50, o50 + k, none⟩ = some (.int .i64 (S1.tank k).leak) := qv50
          clear qv50
          obtain ⟨b51, o51, c51, qs51, qv51⟩ := hS.out.look (k := 0) (n := nt) (idx := k) (by omega) (by show S1.p.tanks.length = nt; rw [hp1, HNT.out]) hlt
          have qv51' : wr.cell? ⟨b51, o51 + k, none⟩ = some (.int .i64 (S1.tank k).content) := qv51
          clear qv51
          have o1 := hok1.lost k hkl
          have o2 := hok1.tanks k hkl
          have o3 := tankOk_of hok1.valid k hkl
          have hmin : (if (S1.tank k).content < (S1.tank k).leak then (S1.tank k).content else (S1.tank k).leak) = lostB S1 k := (min_go _ _).symm
          have hw1 : IntKind.i64.wrap ((S1.tank k).content - lostB S1 k) = (S1.tank k).content - lostB S1 k := IntWalk.i64_in _ (by omega)
          have HS := hS
          clear hS hp1
          go_wp2_with fail
          go_quiet (fail)
          obtain ⟨W2, hqW2⟩ : ∃ W2, W2 = wr.drewN nq := ⟨_, rfl⟩
          rw [← hqW2]
          have HS2 : Hid (StR w x 3 resEx W2 S1) := Lib.hid (HS.out.later (by rw [hqW2]; exact below_drewN (Below.refl _ _) _))
          clear hqW2
          go_wp2_with fail
          clear p0 qs50 qv50' qs51 qv51' hmin
          obtain ⟨b1, o1, c1, hc1, hv1, hcall1⟩ := HS2.out.upd (k := 0) (n := nt) (idx := k) (by omega) (by show (S1).p.tanks.length = nt; rw [show (S1).p = S.p from HP1.out, HNT.out]) hlt (by omega) (fun j => ((S1).tank j).content) (fun _ => rfl)
          have HCL1 := Lib.hid (hcall1 ((S1.tank k).content - lostB S1 k) (S1.setT k { S1.tank k with content := (S1.tank k).content - lostB S1 k }) rfl (valR_T1 S1 k _ 0 (fun h => absurd rfl h) (fun _ => rfl) (fun _ => rfl) (fun _ => rfl) (fun _ => rfl)) (fun i => by show Value.int .i64 ((S1.setT k _).tank i).content = _; rw [setT_at]; split <;> rfl))
          clear hcall1
          go_still_tail 10, (by kernel_rfl)
          go_wp2_with (go_at_call 113; refine HCL1.out.mono ?_; rintro e w1 ⟨A1, C1, rfl, hb1, hcell1, hfr1, hst1⟩; clear hc1 hv1 HCL1)
          obtain ⟨W3, hW1⟩ : ∃ W3, W3 = w1.setCell ⟨w.heap.size + 1, 0, none⟩ (.slice A1 nt C1) := ⟨_, rfl⟩
          rw [← hW1] at hst1 ⊢
          have HS3 := Lib.hid hst1
          clear hst1 hW1 hcell1 hfr1 hb1
          obtain ⟨b2, o2, c2, hc2, hv2, hcall2⟩ := HS3.out.upd (k := 7) (n := nt) (idx := k) (by omega) (by show ((S1.setT k { S1.tank k with content := (S1.tank k).content - lostB S1 k })).p.tanks.length = nt; rw [show ((S1.setT k { S1.tank k with content := (S1.tank k).content - lostB S1 k })).p = S.p from HP1.out, HNT.out]) hlt (by omega) (fun j => (((S1.setT k { S1.tank k with content := (S1.tank k).content - lostB S1 k })).tank j).lost) (fun _ => rfl)
          simp only [setT_tank] at hv2
          have HCL2 := Lib.hid (hcall2 (wrap64 ((S1.tank k).lost + lostB S1 k)) (leakS S1 k) rfl (valR_T S1 k _ _ 7 (fun _ => rfl) (fun _ => rfl) (fun _ => rfl) (fun h => absurd rfl h) (fun _ => rfl)) (fun i => by show Value.int .i64 ((S1.setT k _).tank i).lost = .int .i64 (if i = k then _ else ((S1.setT k _).tank i).lost); rw [setT_at, setT_at]; split <;> rfl))
          clear hcall2
          go_still_tail 10, (by kernel_rfl)
          go_wp2_with (go_at_call 113; refine HCL2.out.mono ?_; rintro e w1 ⟨A2, C2, rfl, hb2, hcell2, hfr2, hst2⟩; clear hc2 hv2 HCL2)
          have HS4 : Hid (StR w x 3 resEx (w1.setCell ⟨w.heap.size + 1, 7, none⟩ (.slice A2 nt C2)) (leaksK SL (k + 1))) := Lib.hid (by rw [hsucc.out]; exact hst2)
          go_roundw
          case rel => exact ⟨k + 1, by omega, by go_num, HS4⟩
          case measure => simp [intOf]; omega
        · obtain rfl : nt = k := by omega
          clear hlt hk
          have HSK := hS
          clear hS
          go_wp2_with fail
          obtain ⟨SK, hSK⟩ : ∃ SK, SK = leaksK SL nt := ⟨_, rfl⟩
          have HPK : Hid (SK.p = S.p) := Lib.hid (by rw [hSK]; exact (leaksK_p SL nt).trans HPL.out)
          have HOKK : Hid (SysOk SK) := Lib.hid (by rw [hSK]; exact HOL.out.leaksK nt (by rw [HPL.out, HNT.out]; omega))
          rw [← hSK] at HSK HTK
          clear hSK p0 hp1
          go_loopw [8] (fun i wr => ∃ k : Nat, k ≤ nt ∧ i = .int .i64 k ∧ Hid (StR w x 3 resEx wr (ventsK SK k))) (fun i _ => nt - (intOf i).toNat)
          case atStart => exact ⟨0, Nat.zero_le _, rfl, HSK⟩
          case round =>
            clear HSK
            obtain ⟨k, hk, rfl, hS⟩ := hrel
            have hp1 : (ventsK SK k).p = S.p := (ventsK_p _ _).trans HPK.out
            obtain ⟨p0, _, _, _⟩ := HC.out wr _ hp1 hS.out
            by_cases hlt : k < nt
            · have hki : (k : Int) < (nt : Int) := by omega
              have h0i : (0 : Int) ≤ (k : Int) := by omega
              have hsucc := Lib.hid (show ventsK SK (k + 1) = ventS (ventsK SK k) k from rfl)
              have hok1 := HOKK.out.ventsK k (by rw [HPK.out, HNT.out]; omega)
              obtain ⟨S1, hS1⟩ : ∃ S1, S1 = ventsK SK k := ⟨_, rfl⟩
              rw [← hS1] at hS hp1 hsucc hok1
              clear hS1
              have hkl : k < S1.p.tanks.length := by rw [hp1, HNT.out]; exact hlt
              have HP1 := Lib.hid hp1
              obtain ⟨b60, o60, c60, qs60, qv60⟩ := hS.out.look (k := 0) (n := nt) (idx := k) (by omega) (by show S1.p.tanks.length = nt; rw [hp1, HNT.out]) hlt
              have qv60' : wr.cell? ⟨b60, o60 + k, none⟩ = some (.int .i64 (S1.tank k).content) := qv60
              clear qv60
              obtain ⟨b61, o61, c61, qs61, qv61⟩ := hS.out.look (k := 1) (n := nt) (idx := k) (by omega) (by show S1.p.tanks.length = nt; rw [hp1, HNT.out]) hlt
              have qv61' : wr.cell? ⟨b61, o61 + k, none⟩ = some (.int .i64 (S1.tank k).gas) := qv61
              clear qv61
              obtain ⟨bt, ot, hAt, hBt, _, t1, t2, t3⟩ := hS.out.plant.tanks.at4 hkl
              simp only [tankC] at t1 t2 t3
              rw [hAt] at p0
              have o2 := hok1.tanks k hkl
              have o3 := tankOk_of hok1.valid k hkl
              have o4 := hok1.vent k hkl
              have o5 := hok1.limit k hkl
              have hmaxR : (if (S1.p.tank k).least < (S1.p.tank k).room - (S1.tank k).content then (S1.p.tank k).room - (S1.tank k).content else (S1.p.tank k).least) = roomB S1 k := (max_go _ _).symm
              have hwr : IntKind.i64.wrap ((S1.p.tank k).room - (S1.tank k).content) = (S1.p.tank k).room - (S1.tank k).content := IntWalk.i64_in _ (by omega)
              have hv1 : IntKind.i64.wrap ((S1.p.tank k).limit + 1) = (S1.p.tank k).limit + 1 := IntWalk.i64_in _ (by omega)
              have hv2 : IntKind.i64.wrap (((S1.p.tank k).limit + 1) * roomB S1 k) = ((S1.p.tank k).limit + 1) * roomB S1 k := IntWalk.i64_in _ (by omega)
              have hv3 : IntKind.i64.wrap (((S1.p.tank k).limit + 1) * roomB S1 k - 1) = ((S1.p.tank k).limit + 1) * roomB S1 k - 1 := IntWalk.i64_in _ (by omega)
              have hq4 : (((S1.p.tank k).limit + 1) * roomB S1 k - 1).tdiv 100 = (((S1.p.tank k).limit + 1) * roomB S1 k - 1) / 100 := Int.tdiv_eq_ediv_of_nonneg (by omega)
              have hv5 : IntKind.i64.wrap ((((S1.p.tank k).limit + 1) * roomB S1 k - 1) / 100) = (((S1.p.tank k).limit + 1) * roomB S1 k - 1) / 100 := IntWalk.i64_in _ (by omega)
              have hv6 : IntKind.i64.wrap ((S1.tank k).gas - (((S1.p.tank k).limit + 1) * roomB S1 k - 1) / 100) = (S1.tank k).gas - (((S1.p.tank k).limit + 1) * roomB S1 k - 1) / 100 := IntWalk.i64_in _ (by omega)
              have hmax : (if (((S1.p.tank k).limit + 1) * roomB S1 k - 1) / 100 < (S1.tank k).gas then (S1.tank k).gas - (((S1.p.tank k).limit + 1) * roomB S1 k - 1) / 100 else 0) = ventB S1 k := by unfold ventB; split <;> omega
              have hw1 : IntKind.i64.wrap ((S1.tank k).gas - ventB S1 k) = (S1.tank k).gas - ventB S1 k := IntWalk.i64_in _ (by omega)
              have HO5 := Lib.hid o5
              have HS := hS
              clear hS hp1 hAt o5
              go_wp2_with fail
              go_quiet (fail)
              obtain ⟨n1, hn1⟩ : ∃ n1, n1 = nq := ⟨_, rfl⟩
              rw [← hn1]
              clear hn1 nq
              go_wp2_with fail
              go_quiet (fail)
              obtain ⟨W2, hqW2⟩ : ∃ W2, W2 = (wr.drewN n1).drewN nq := ⟨_, rfl⟩
              rw [← hqW2]
              have HS2 : Hid (StR w x 3 resEx W2 S1) := Lib.hid (HS.out.later (by rw [hqW2]; exact below_drewN (below_drewN (Below.refl _ _) _) _))
              clear hqW2
              go_wp2_with fail
              clear p0 qs60 qv60' qs61 qv61' t1 t2 t3 hmaxR hwr hv1 hv2 hv3 hq4 hv5 hv6 hmax
              obtain ⟨b3, o3, c3, hc3, hv3, hcall3⟩ := HS2.out.upd (k := 1) (n := nt) (idx := k) (by omega) (by show (S1).p.tanks.length = nt; rw [show (S1).p = S.p from HP1.out, HNT.out]) hlt (by omega) (fun j => ((S1).tank j).gas) (fun _ => rfl)
              have HCL3 := Lib.hid (hcall3 ((S1.tank k).gas - ventB S1 k) (S1.setT k { S1.tank k with gas := (S1.tank k).gas - ventB S1 k }) rfl (valR_T1 S1 k _ 1 (fun _ => rfl) (fun h => absurd rfl h) (fun _ => rfl) (fun _ => rfl) (fun _ => rfl)) (fun i => by show Value.int .i64 ((S1.setT k _).tank i).gas = _; rw [setT_at]; split <;> rfl))
              clear hcall3
              go_still_tail 10, (by kernel_rfl)
              go_wp2_with (go_at_call 113; refine HCL3.out.mono ?_; rintro e w1 ⟨A3, C3, rfl, hb3, hcell3, hfr3, hst3⟩; clear hc3 hv3 HCL3)
              obtain ⟨W3, hW3⟩ : ∃ W3, W3 = w1.setCell ⟨w.heap.size + 1, 1, none⟩ (.slice A3 nt C3) := ⟨_, rfl⟩
              rw [← hW3] at hst3 ⊢
              have HS3 := Lib.hid hst3
              clear hst3 hW3 hcell3 hfr3 hb3
              obtain ⟨b4, o4, c4, hc4, hv4, hcall4⟩ := HS3.out.upd (k := 8) (n := nt) (idx := k) (by omega) (by show ((S1.setT k { S1.tank k with gas := (S1.tank k).gas - ventB S1 k })).p.tanks.length = nt; rw [show ((S1.setT k { S1.tank k with gas := (S1.tank k).gas - ventB S1 k })).p = S.p from HP1.out, HNT.out]) hlt (by omega) (fun j => (((S1.setT k { S1.tank k with gas := (S1.tank k).gas - ventB S1 k })).tank j).vented) (fun _ => rfl)
              simp only [setT_tank] at hv4
              have HCL4 := Lib.hid (hcall4 (wrap64 ((S1.tank k).vented + ventB S1 k)) (ventS S1 k) rfl (valR_T S1 k _ _ 8 (fun _ => rfl) (fun _ => rfl) (fun _ => rfl) (fun _ => rfl) (fun h => absurd rfl h)) (fun i => by show Value.int .i64 ((S1.setT k _).tank i).vented = .int .i64 (if i = k then _ else ((S1.setT k _).tank i).vented); rw [setT_at, setT_at]; split <;> rfl))
              clear hcall4
              go_still_tail 10, (by kernel_rfl)
              go_wp2_with (go_at_call 113; refine HCL4.out.mono ?_; rintro e w1 ⟨A4, C4, rfl, hb4, hcell4, hfr4, hst4⟩; clear hc4 hv4 HCL4)
              have HS4 : Hid (StR w x 3 resEx (w1.setCell ⟨w.heap.size + 1, 8, none⟩ (.slice A4 nt C4)) (ventsK SK (k + 1))) := Lib.hid (by rw [hsucc.out]; exact hst4)
              go_roundw
              case rel => exact ⟨k + 1, by omega, by go_num, HS4⟩
              case measure => simp [intOf]; omega
            · obtain rfl : nt = k := by omega
              clear hlt hk
              obtain ⟨R4, r14, r24⟩ := hS.out.st
              have HR14 := Lib.hid r14
              have HR24 := Lib.hid r24
              have HP1 := Lib.hid hp1
              have HRF : Hid (∀ j u, (refA R4 nt nv nl)[j]? = some u → wr.cell? ⟨w.heap.size + 1, 0 + j, none⟩ = some u) := Lib.hid fun j u hj => by
                rw [Nat.zero_add]
                rw [← HNT.out, ← HNV.out, ← HNL.out, ← HP1.out] at hj
                exact (HR14.out.cell j).trans hj
              have HS := hS
              have HE2 := Lib.hid (hS.out.ex (2, 53, refA nilR 0 0 0) (by simp [resEx])).2.2
              clear r14 r24 hp1 hS
              go_wp2_with (first | (refine wpLoadAt rfl 53 _ rfl (w.heap.size + 1) 0 rfl (refA R4 nt nv nl) _ HRF.out und_state rfl info_state ?_) |
                (refine wpStoreAt rfl rfl 53 _ _ rfl (w.heap.size + 1 + 1) 0 rfl (refA R4 nt nv nl) rfl 53 _ HE2.out (by show 0 + 9 ≤ 9; omega) (refA_one _ _ _ _) info_state ?_; intro wf3 hkf hof))

              refine bodyPost_ret (results_cellS rfl _ _ (w.heap.size + 1 + 1) 53 (refA R4 nt nv nl) _ rfl (by rw [splA_all _ _ (by rw [refA_size, refA_size])] at hkf; exact hkf) und_state rfl info_state) rfl ?_
              rw [HTK.out]
              have eq4 : SysA R4 (ventsK SK nt) = refA R4 nt nv nl := by
                show refA R4 (ventsK SK nt).p.tanks.length (ventsK SK nt).p.valves.length (ventsK SK nt).p.lines.length = _
                rw [HP1.out, HNT.out, HNV.out, HNL.out]
              refine ⟨R4, by rw [eq4], (HR24.out.only hof (by omega) (by omega)).at_, HS.out.below.trans (hof.below (by omega))⟩
end Go.Proofs.YtogobjmmgjfjjaaGreat
